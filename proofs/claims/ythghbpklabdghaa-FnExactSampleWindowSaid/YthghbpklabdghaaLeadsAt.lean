/- What LeadsAt and DegreeOf return, in the program and in the reference. No condition. -/
import Derived.Test.YthghbpklabdghaaDartb
import Derived.OwnWalk
namespace Go.Proofs.Ythghbpklabdghaa
open Go.ChangeShapes Go.WideShapes Go.ChangeAt Go.RowKit
set_option maxHeartbeats 1000000
set_option linter.unusedSimpArgs false
set_option linter.unusedVariables false
/-- the numbers of the first n leads that have the end k -/
def atL (ls : List (Int × Int)) (k : Int) : Nat → List Int
  | 0 => []
  | n + 1 => if (ptN ls n).1 = k ∨ (ptN ls n).2 = k then atL ls k n ++ [(n : Int)] else atL ls k n
theorem atL_len (ls : List (Int × Int)) (k : Int) : ∀ n, (atL ls k n).length ≤ n
  | 0 => by simp [atL]
  | n + 1 => by
    have := atL_len ls k n
    unfold atL
    split
    · simp; omega
    · omega
def isNode (ns ls : List (Int × Int)) (k : Int) : Bool := winOkB ns ls && inB k 0 ((ns.length : Int) - 1)
def laF (ns ls : List (Int × Int)) (k : Int) : List Int := if isNode ns ls k then atL ls k ls.length else []
def ints (xs : List Int) : List Value := xs.map (Value.int .i64)
/-- a new slice of ints in memory from block B on -/
def OwnInts (B : Nat) (w : World) (v : Value) (xs : List Int) : Prop := w.ownsRow B 3 1 v xs.length (ints xs)
def NewInts (xs : List Int) (w : World) (e : Ending) (w' : World) : Prop := ∃ v, e = .returned v ∧ OwnInts w.heap.size w' v xs ∧ Below w.heap.size w w'
theorem own_form {w : World} {B : Nat} {v : Value} {xs : List Int} (h : OwnInts B w v xs) : ∃ A c, v = .slice A xs.length c := by
  rcases h.2 with ⟨h1, h2⟩ | ⟨g, cap, cur, h1, _⟩
  · exact ⟨none, 0, by rw [h1, h2]⟩
  · exact ⟨_, _, h1⟩
theorem infoI : (Try.prog.info? 3).map (fun i => (i.zero, i.size, i.bytes)) = some (some (.int .i64 0), 1, 8) := by kernel_rfl
theorem iHasNode_any (vn vl : Value) (ns ls : List (Int × Int)) (d : Int) (w : World) (hn : PairsAt w vn ns) (hl : PairsAt w vl ls) : Calls Try.prog 78 #[.agg #[vn, vl], .int .i64 d] w fun e w' => e = .returned (.bool (isNode ns ls d)) ∧ Below w.heap.size w w' := by
  have s0 : Below w.heap.size w (w.alloc (.cells #[vn, vl] 25)) := (Below.refl _ _).alloc (Nat.le_refl _) _
  have HN := hid (hn.below s0)
  have HL := hid (hl.below s0)
  have B0 := hid (BoxV.new w vn vl 25 w.heap.size rfl)
  have S0 := hid s0
  clear s0
  obtain ⟨A, c, rfl, hcn, hm, _⟩ := id hn
  obtain ⟨A', c', rfl, hcl, hm', _⟩ := id hl
  unfold maxLen at hm hm'
  clear hn hl
  have v0 := B0.out.c0
  have v1 := B0.out.c1
  cases hw : winOkB ns ls
  all_goals
    have HW := hid hw
    go_enter Try.func78, Try.ntmps78
    go_wp2_with fail
    refine (iWin_any _ _ ns ls _ HN.out HL.out).mono ?_
    rintro e w1 ⟨rfl, hb⟩
    rw [HW.out]
    have B0 := hid (B0.out.below hb)
    have S0 := hid (then_ S0.out hb S0.out.size)
    have HN := hid (HN.out.below hb)
    have HL := hid (HL.out.below hb)
    have v0 := B0.out.c0
    have v1 := B0.out.c1
    have vlt := B0.out.lt
    clear hb
  · go_wp2
    go_ret
    exact ⟨ret_bool (by unfold isNode; rw [HW.out]; rfl), S0.out⟩
  · have hl20 := (win_leads hw).2.1
    clear hw
    go_wp2_with (go_at_call 71; refine (within_any _ _ _ _).mono ?_; rintro e w' ⟨rfl, rfl⟩)
    go_ret
    exact ⟨ret_bool (by unfold isNode; rw [HW.out]; rfl), S0.out⟩
theorem iLA_any (vn vl : Value) (ns ls : List (Int × Int)) (d : Int) (w : World) (hn : PairsAt w vn ns) (hl : PairsAt w vl ls) : Calls Try.prog 46 #[.agg #[vn, vl], .int .i64 d] w (NewInts (laF ns ls d) w) := by
  have s0 : Below w.heap.size w (w.alloc (.cells #[vn, vl] 25)) := (Below.refl _ _).alloc (Nat.le_refl _) _
  have HN := hid (hn.below s0)
  have HL := hid (hl.below s0)
  have B0 := hid (BoxV.new w vn vl 25 w.heap.size rfl)
  have S0 := hid s0
  clear s0
  obtain ⟨A, c, rfl, hcn, hm, _⟩ := id hn
  obtain ⟨A', c', rfl, hcl, hm', _⟩ := id hl
  unfold maxLen at hm hm'
  have HNw := hid hn
  have HLw := hid hl
  clear hn hl
  have v0 := B0.out.c0
  have v1 := B0.out.c1
  cases hi : isNode ns ls d
  · have HI := hid hi
    go_enter Try.func46, Try.ntmps46
    go_wp2_with fail
    refine (iHasNode_any _ _ ns ls _ _ HN.out HL.out).mono ?_
    rintro e w1 ⟨rfl, hb⟩
    rw [HI.out]
    go_wp2
    go_ret
    exact ⟨_, rfl, by unfold laF; rw [HI.out]; exact World.ownsRow_nil _ _ _ _, then_ S0.out hb S0.out.size⟩
  · have HI := hid hi
    have hl20 : ls.length ≤ 20 := by
      simp only [isNode, Bool.and_eq_true] at hi
      exact (win_leads hi.1).1
    clear hi
    obtain ⟨i0, hinf, hz0, hz1, hz2⟩ := info_parts infoI
    have HINF := hid (And.intro hinf (And.intro hz0 (And.intro hz1 hz2)))
    clear hinf hz0 hz1 hz2
    go_enter Try.func46, Try.ntmps46
    go_wp2_with fail
    refine (iHasNode_any _ _ ns ls _ _ HN.out HL.out).mono ?_
    rintro e w1 ⟨rfl, hb⟩
    rw [HI.out]
    have B0 := hid (B0.out.below hb)
    have S0 := hid (then_ S0.out hb S0.out.size)
    have HN := hid (HN.out.below hb)
    have HL := hid (HL.out.below hb)
    have v0 := B0.out.c0
    have v1 := B0.out.c1
    have vlt := B0.out.lt
    clear hb
    have B1 := hid B0.out
    have S1 := hid S0.out
    have L1 := hid HL.out
    go_wp2_with fail
    go_loopw [5, 15] (fun v i wr => ∃ k : Nat, k ≤ ls.length ∧ i = .int .i64 k ∧ Hid (OwnInts w.heap.size wr v (atL ls d k)) ∧ Below w.heap.size w wr ∧ Hid (PairsAt wr (.slice A' ls.length c') ls)) (fun _ i _ => ls.length - (intOf i).toNat)
    case atStart => exact ⟨0, Nat.zero_le _, rfl, hid (World.ownsRow_nil _ _ _ _), S1.out, L1⟩
    case round =>
      obtain ⟨k, hk, rfl, hown, hb, hL⟩ := hrel
      clear v0 v1 vlt
      have hbs := hb.size
      by_cases hlt : k < ls.length
      · obtain ⟨⟨f, t⟩, hft⟩ : ∃ p, ls[k]? = some p := ⟨_, List.getElem?_eq_getElem hlt⟩
        have S9 := hid hb
        have HOW := hown
        have LW := hid hL.out
        clear hown hb hL
        obtain ⟨b1, off, rfl, hbb, h1, h2⟩ := LW.out.at_ hft
        have P := hid (ptN_of hft)
        clear hft
        have hk0 : (0 : Int) ≤ (k : Int) := by omega
        have hk1 : (k : Int) < (ls.length : Int) := by omega
        have AL := hid (atL_len ls d k)
        by_cases q : f = d ∨ t = d
        · have E := hid (show atL ls d (k + 1) = atL ls d k ++ [(k : Int)] by rw [atL]; rw [P.out, if_pos q])
          have hone : (f == d) = true ∨ ((f == d) = false ∧ (t == d) = true) := by
            rcases q with q | q
            · exact .inl (by simp [q])
            · by_cases z : f = d
              · exact .inl (by simp [z])
              · exact .inr ⟨by simp [z], by simp [q]⟩
          have C3 := hid (show (atL ls d k).length + 1 ≤ maxLen by have := AL.out; unfold maxLen; omega)
          have C4 := hid (show ((atL ls d k).length + 1) * 8 ≤ 140737488355328 by have := AL.out; omega)
          clear q
          rcases hone with q1 | ⟨q1, q2⟩
          all_goals
            go_wp2_with (at_builtin; obtain ⟨hinf, hz0, hz1, hz2⟩ := HINF.out; refine wpList_append_own _ rfl _ _ 58 rfl w.heap.size 3 i0 (.int .i64 0) 1 8 Try.underlying58 hinf hz0 hz1 hz2 rfl (by decide) _ _ _ rfl ((HOW.out.alloc _).alloc _) ⟨wr.heap.size + 1, 0, none⟩ 1 1 [.int .i64 k] rfl rfl (by have := cell_one_new (wr.alloc (.cells #[.int .i64 f, .int .i64 t] 36)) (.int .i64 k) 3 ; simpa using this) (by simp [Value.oneCell']) C3.out C4.out (by simp; omega) ?_)
            intro v' w' hown' hgrow _
            have O9 := hid hown'
            have G9 := hid hgrow
            clear hown' hgrow
            have B9 := hid ((((S9.out.alloc hbs (.cells #[.int .i64 f, .int .i64 t] 36)).alloc (by simp; omega) (.cells #[.int .i64 k] 3)).grown G9.out (by simp; omega) (fun g hg => (HOW.out.lt g hg).1)))
            have L9 := hid (HLw.out.below B9.out)
            go_wp2
            go_roundw
            case rel => exact ⟨k + 1, by omega, by go_num, hid (by unfold OwnInts; rw [E.out]; simpa [ints] using O9.out), B9.out, L9⟩
            case measure => simp [intOf]; omega
        · have E := hid (show atL ls d (k + 1) = atL ls d k by rw [atL]; rw [P.out, if_neg q])
          have q1 : (f == d) = false := by simp; omega
          have q2 : (t == d) = false := by simp; omega
          clear q
          go_wp2
          go_roundw
          case rel => exact ⟨k + 1, by omega, by go_num, hid (by unfold OwnInts; rw [E.out]; exact HOW.out.alloc _), S9.out.alloc hbs _, hid (LW.out.below ((Below.refl _ _).alloc (Nat.le_refl _) _))⟩
          case measure => simp [intOf]; omega
      · have he : k = ls.length := by omega
        subst he
        obtain ⟨A9, c9, hv9⟩ := own_form hown.out
        go_wp2
        go_ret
        exact ⟨_, rfl, by unfold laF; rw [HI.out]; exact hown.out, hb⟩
theorem sLA_no (vn vl : Value) (ns ls : List (Int × Int)) (d : Int) (w : World) (hn : PairsAt w vn ns) (hl : PairsAt w vl ls) (hi : isNode ns ls d = false) : Calls Try.prog 45 #[.agg #[vn, vl], .int .i64 d] w (NewInts (laF ns ls d) w) := by
  have s0 : Below w.heap.size w (w.alloc (.cells #[vn, vl] 25)) := (Below.refl _ _).alloc (Nat.le_refl _) _
  have HN := hid (hn.below s0)
  have HL := hid (hl.below s0)
  have B0 := hid (BoxV.new w vn vl 25 w.heap.size rfl)
  have S0 := hid s0
  clear s0
  obtain ⟨A, c, rfl, hcn, hm, _⟩ := id hn
  obtain ⟨A', c', rfl, hcl, hm', _⟩ := id hl
  unfold maxLen at hm hm'
  have HNw := hid hn
  have HLw := hid hl
  clear hn hl
  have v0 := B0.out.c0
  have v1 := B0.out.c1
  have HI := hid hi
  have hl0 : (0 : Int) ≤ (ls.length : Int) := by omega
  have hln : (ns.length : Int) ≤ 9223372036854775807 := by omega
  have nil0 : OwnInts w.heap.size (((w.alloc (.cells #[.slice A ns.length c, .slice A' ls.length c'] 25)).alloc (.cells #[] 3))) (.slice (some ⟨w.heap.size + 1, 0, none⟩) 0 0) [] := by
    have := World.ownsRow_lit (w.alloc (.cells #[.slice A ns.length c, .slice A' ls.length c'] 25)) (base := w.heap.size) (e := 3) (size := 1) #[] 0 (by simp) (by unfold maxLen; omega) (by simp)
    simpa [OwnInts, ints] using this
  have N0 := hid nil0
  clear nil0
  have hv1 : Below w.heap.size w ((w.alloc (.cells #[.slice A ns.length c, .slice A' ls.length c'] 25)).alloc (.cells #[] 3)) := S0.out.alloc S0.out.size _
  have V1 := hid hv1
  have HN1 := hid (HN.out.below ((Below.refl _ _).alloc (Nat.le_refl _) (.cells #[] 3)))
  have HL1 := hid (HL.out.below ((Below.refl _ _).alloc (Nat.le_refl _) (.cells #[] 3)))
  have BB1 := hid (B0.out.alloc (.cells #[] 3))
  clear hv1
  by_cases h0 : (0 : Int) < (ls.length : Int)
  · cases hw : winOkB ns ls
    · have HW := hid hw
      clear hi
      go_enter Try.func45, Try.ntmps45
      go_wp2
      refine wp_loop_rounds 1 ?_
      rw [rounds_succ]
      go_wp2_with fail
      refine (sWin_any _ _ ns ls _ HN1.out HL1.out).mono ?_
      rintro e w1 ⟨rfl, hb⟩
      rw [HW.out]
      have hg : Below w.heap.size w w1 := then_ V1.out hb V1.out.size
      have NN := hid (N0.out.kept (row := none) ⟨hb.os, hb.tape, hb.output, hb.size, fun k hk _ => hb.block k hk⟩ (.inr (by simp [Value.ownBlock])))
      go_wp2
      go_ret
      exact ⟨_, rfl, by unfold laF; rw [HI.out]; exact NN.out, hg⟩
    · have hin : inB d 0 ((ns.length : Int) - 1) = false := by simpa [isNode, hw] using hi
      have HW := hid hw
      have HIN := hid hin
      clear hi hin
      go_enter Try.func45, Try.ntmps45
      go_wp2
      refine wp_loop_rounds 1 ?_
      rw [rounds_succ]
      go_wp2_with fail
      refine (sWin_any _ _ ns ls _ HN1.out HL1.out).mono ?_
      rintro e w1 ⟨rfl, hb⟩
      rw [HW.out]
      have hg : Below w.heap.size w w1 := then_ V1.out hb V1.out.size
      have NN := hid (N0.out.kept (row := none) ⟨hb.os, hb.tape, hb.output, hb.size, fun k hk _ => hb.block k hk⟩ (.inr (by simp [Value.ownBlock])))
      have b1 := BB1.out.below hb
      have y0 := b1.c0
      have y1 := b1.c1
      have ylt := b1.lt
      have GG := hid hg
      clear hb hg b1
      go_wp2_with fail
      refine (l01In_any _ _ _ _).mono ?_
      rintro e w' ⟨rfl, rfl⟩
      rw [HIN.out]
      go_wp2
      go_ret
      exact ⟨_, rfl, by unfold laF; rw [HI.out]; exact NN.out, GG.out⟩
  · have hz : ls = [] := List.eq_nil_of_length_eq_zero (by omega)
    have HZ := hid hz
    clear hi hz
    go_enter Try.func45, Try.ntmps45
    go_wp2
    refine wp_loop_rounds 1 ?_
    rw [rounds_succ]
    go_wp2
    go_ret
    exact ⟨_, rfl, by unfold laF; rw [HI.out]; exact N0.out, V1.out⟩
theorem own_less {B C : Nat} {w : World} {v : Value} {xs : List Int} (h : OwnInts B w v xs) (hC : C ≤ B) : OwnInts C w v xs := by
  refine ⟨h.1, ?_⟩
  rcases h.2 with h' | ⟨g, cap, cur, h1, h2, h3⟩
  · exact .inl h'
  · exact .inr ⟨g, cap, cur, h1, by omega, h3⟩
theorem own_below {B : Nat} {w w' : World} {v : Value} {xs : List Int} (h : OwnInts B w v xs) (hb : Below w.heap.size w w') : OwnInts B w' v xs := by
  refine ⟨h.1, ?_⟩
  rcases h.2 with h' | ⟨g, cap, cur, h1, h2, h3, h4⟩
  · exact .inl h'
  · have hg : g < w.heap.size := by
      rcases Nat.lt_or_ge g w.heap.size with hlt | hge
      · exact hlt
      · rw [Array.getElem?_eq_none hge] at h3; cases h3
    exact .inr ⟨g, cap, cur, h1, h2, (hb.block g hg).trans h3, h4⟩
theorem sLA_yes (vn vl : Value) (ns ls : List (Int × Int)) (d : Int) (w : World) (hn : PairsAt w vn ns) (hl : PairsAt w vl ls) (hi : isNode ns ls d = true) : Calls Try.prog 45 #[.agg #[vn, vl], .int .i64 d] w (NewInts (laF ns ls d) w) := by
  have s0 : Below w.heap.size w (w.alloc (.cells #[vn, vl] 25)) := (Below.refl _ _).alloc (Nat.le_refl _) _
  have HN := hid (hn.below s0)
  have HL := hid (hl.below s0)
  have B0 := hid (BoxV.new w vn vl 25 w.heap.size rfl)
  have S0 := hid s0
  clear s0
  obtain ⟨A, c, rfl, hcn, hm, _⟩ := id hn
  obtain ⟨A', c', rfl, hcl, hm', _⟩ := id hl
  unfold maxLen at hm hm'
  have HNw := hid hn
  have HLw := hid hl
  clear hn hl
  have v0 := B0.out.c0
  have v1 := B0.out.c1
  have HI := hid hi
  have hw : winOkB ns ls = true := by simp only [isNode, Bool.and_eq_true] at hi; exact hi.1
  have hin : inB d 0 ((ns.length : Int) - 1) = true := by simp only [isNode, Bool.and_eq_true] at hi; exact hi.2
  have hl20 := (win_leads hw).1
  have HW := hid hw
  have HIN := hid hin
  clear hi hw hin
  obtain ⟨i0, hinf, hz0, hz1, hz2⟩ := info_parts infoI
  have HINF := hid (And.intro hinf (And.intro hz0 (And.intro hz1 hz2)))
  clear hinf hz0 hz1 hz2
  have hln : (ns.length : Int) ≤ 9223372036854775807 := by omega
  have nil0 : OwnInts (w.heap.size + 1) ((w.alloc (.cells #[.slice A ns.length c, .slice A' ls.length c'] 25)).alloc (.cells #[] 3)) (.slice (some ⟨w.heap.size + 1, 0, none⟩) 0 0) [] := by
    have := World.ownsRow_lit (w.alloc (.cells #[.slice A ns.length c, .slice A' ls.length c'] 25)) (base := w.heap.size + 1) (e := 3) (size := 1) #[] 0 (by simp) (by unfold maxLen; omega) (by simp)
    simpa [OwnInts, ints] using this
  have N0 := hid nil0
  clear nil0
  have V0 : Hid (Below (w.heap.size + 1) (w.alloc (.cells #[.slice A ns.length c, .slice A' ls.length c'] 25)) ((w.alloc (.cells #[.slice A ns.length c, .slice A' ls.length c'] 25)).alloc (.cells #[] 3))) := hid ((Below.refl _ _).alloc (by simp) _)
  have BB0 := hid B0.out
  have HL0 := hid HL.out
  have HN0 := hid HN.out
  go_enter Try.func45, Try.ntmps45
  go_wp2_with fail
  go_loopw [5, 6] (fun v i wr => ∃ k : Nat, k ≤ ls.length ∧ i = .int .i64 k ∧ Hid (OwnInts (w.heap.size + 1) wr v (atL ls d k)) ∧ Below (w.heap.size + 1) (w.alloc (.cells #[.slice A ns.length c, .slice A' ls.length c'] 25)) wr) (fun _ i _ => ls.length - (intOf i).toNat)
  case atStart => exact ⟨0, Nat.zero_le _, rfl, N0, V0.out⟩
  case round =>
    obtain ⟨k, hk, rfl, hown, hb⟩ := hrel
    have z1 : w.heap.size + 1 ≤ wr.heap.size := by have := hb.size; simpa using this
    have hb' : Below (w.alloc (.cells #[.slice A ns.length c, .slice A' ls.length c'] 25)).heap.size (w.alloc (.cells #[.slice A ns.length c, .slice A' ls.length c'] 25)) wr := hb.mono (by simp)
    have B2 := hid (BB0.out.below hb')
    have HN2 := hid (HN0.out.below hb')
    have HL2 := hid (HL0.out.below hb')
    have S9 := hid hb
    have HOW := hown
    clear hb hb' hown v0 v1
    have v0 := B2.out.c0
    have v1 := B2.out.c1
    by_cases hlt : k < ls.length
    · obtain ⟨⟨f, t⟩, hft⟩ : ∃ p, ls[k]? = some p := ⟨_, List.getElem?_eq_getElem hlt⟩
      have FT := hid hft
      have P := hid (ptN_of hft)
      clear hft
      have hk0 : (0 : Int) ≤ (k : Int) := by omega
      have hk1 : (k : Int) < (ls.length : Int) := by omega
      go_wp2_with fail
      refine (sWin_any _ _ ns ls _ HN2.out HL2.out).mono ?_
      rintro e w3 ⟨rfl, hb3⟩
      rw [HW.out]
      have B3 := hid (B2.out.below hb3)
      have HL3 := hid (HL2.out.below hb3)
      have O3 := hid (own_below HOW.out hb3)
      have S3 := hid (S9.out.trans (hb3.mono z1))
      have z3 : w.heap.size + 1 ≤ w3.heap.size := by have := hb3.size; omega
      clear hb3 v0 v1 z1
      have v0 := B3.out.c0
      have v1 := B3.out.c1
      have vlt := B3.out.lt
      go_wp2_with fail
      refine (l01In_any _ _ _ _).mono ?_
      rintro e w' ⟨rfl, rfl⟩
      rw [HIN.out]
      obtain ⟨b1, off, rfl, hbb, h1, h2⟩ := HL3.out.at_ FT.out
      have AL := hid (atL_len ls d k)
      by_cases q : f = d ∨ t = d
      · have E := hid (show atL ls d (k + 1) = atL ls d k ++ [(k : Int)] by rw [atL]; rw [P.out, if_pos q])
        have hone : (f == d) = true ∨ ((f == d) = false ∧ (t == d) = true) := by
          rcases q with q | q
          · exact .inl (by simp [q])
          · by_cases z : f = d
            · exact .inl (by simp [z])
            · exact .inr ⟨by simp [z], by simp [q]⟩
        have C3 := hid (show (atL ls d k).length + 1 ≤ maxLen by have := AL.out; unfold maxLen; omega)
        have C4 := hid (show ((atL ls d k).length + 1) * 8 ≤ 140737488355328 by have := AL.out; omega)
        clear q
        rcases hone with q1 | ⟨q1, q2⟩
        all_goals
          go_wp2_with (at_builtin; obtain ⟨hinf, hz0, hz1, hz2⟩ := HINF.out; refine wpList_append_own _ rfl _ _ 58 rfl (w.heap.size + 1) 3 i0 (.int .i64 0) 1 8 Try.underlying58 hinf hz0 hz1 hz2 rfl (by decide) _ _ _ rfl (O3.out.alloc _) ⟨w3.heap.size, 0, none⟩ 1 1 [.int .i64 k] rfl rfl (cell_one_new w3 (.int .i64 k) 3 ) (by simp [Value.oneCell']) C3.out C4.out (by simp; omega) ?_)
          intro v' w' hown' hgrow _
          have O9 := hid hown'
          have B9 := hid ((S3.out.alloc z3 (.cells #[.int .i64 k] 3)).grown hgrow (by simp; omega) (fun g hg => (O3.out.lt g hg).1))
          clear hown' hgrow
          go_wp2
          go_roundw
          case rel => exact ⟨k + 1, by omega, by go_num, hid (by unfold OwnInts; rw [E.out]; simpa [ints] using O9.out), B9.out⟩
          case measure => simp [intOf]; omega
      · have E := hid (show atL ls d (k + 1) = atL ls d k by rw [atL]; rw [P.out, if_neg q])
        have q1 : (f == d) = false := by simp; omega
        have q2 : (t == d) = false := by simp; omega
        clear q
        go_wp2
        go_roundw
        case rel => exact ⟨k + 1, by omega, by go_num, hid (by unfold OwnInts; rw [E.out]; exact O3.out), S3.out⟩
        case measure => simp [intOf]; omega
    · have he : k = ls.length := by omega
      subst he
      obtain ⟨A9, c9, hv9⟩ := own_form HOW.out
      go_wp2
      go_ret
      exact ⟨_, rfl, by unfold laF; rw [HI.out]; exact own_less HOW.out (by omega), S0.out.trans (S9.out.mono (by omega))⟩
theorem sLA_any (vn vl : Value) (ns ls : List (Int × Int)) (d : Int) (w : World) (hn : PairsAt w vn ns) (hl : PairsAt w vl ls) : Calls Try.prog 45 #[.agg #[vn, vl], .int .i64 d] w (NewInts (laF ns ls d) w) := by
  cases hi : isNode ns ls d
  · exact sLA_no vn vl ns ls d w hn hl hi
  · exact sLA_yes vn vl ns ls d w hn hl hi
end Go.Proofs.Ythghbpklabdghaa
