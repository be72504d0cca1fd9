/- The program's part of a node of a valid window: the members of the closed set. No condition but that the window is valid. -/
import Derived.Test.YtdhppajfdcfikaaM1
import Derived.Test.YtdhppajfdcfikaaMark
import Derived.Test.YtdhppajfdcfikaaHeld
namespace Go.Proofs.Ytdhppajfdcfikaa
open Go.ChangeShapes Go.WideShapes Go.ChangeAt Go.RowKit
set_option maxHeartbeats 1000000
set_option linter.unusedSimpArgs false
set_option linter.unusedVariables false
theorem win_ends {ns ls : List (Int × Int)} (h : winOkB ns ls = true) {k : Nat} {f t : Int} (hk : ls[k]? = some (f, t)) : 0 ≤ f ∧ f < t ∧ t < (ns.length : Int) := by
  simp only [winOkB, Bool.and_eq_true] at h
  have hl : k < ls.length := by
    rcases Nat.lt_or_ge k ls.length with h' | h'
    · exact h'
    · rw [List.getElem?_eq_none h'] at hk; cases hk
  have := allB_get h.2.2.2.2 hl
  unfold leadLine at this
  rw [ptN_of hk] at this
  simp only [Bool.and_eq_true] at this
  have hlo := this.1
  simp only [leadOkB, Bool.and_eq_true, decide_eq_true_iff] at hlo
  omega
def nl (ls : List (Int × Int)) : List (Nat × Nat) := ls.map fun p => (p.1.toNat, p.2.toNat)
theorem nl_get {ls : List (Int × Int)} {k : Nat} {p : Int × Int} (h : ls[k]? = some p) : (nl ls)[k]? = some (p.1.toNat, p.2.toNat) := by simp [nl, h]
theorem win_nl {ns ls : List (Int × Int)} (h : winOkB ns ls = true) : ∀ p, p ∈ nl ls → p.1 < ns.length ∧ p.2 < ns.length := by
  intro p hp
  obtain ⟨⟨f, t⟩, hq, rfl⟩ := List.mem_map.1 hp
  obtain ⟨k, hk⟩ := List.getElem?_of_mem hq
  have := win_ends h hk
  exact ⟨by show f.toNat < _; omega, by show t.toNat < _; omega⟩
theorem partOf_any (vn vl : Value) (ns ls : List (Int × Int)) (k : Nat) (w : World) (hn : PairsAt w vn ns) (hl : PairsAt w vl ls) (hok : winOkB ns ls = true) (hk : k < ns.length) : Calls Try.prog 77 #[.agg #[vn, vl], .int .i64 (k : Int)] w (NewInts (ptF ns ls k) w) := by
  have s0 : Below w.heap.size w (w.alloc (.cells #[vn, vl] 31)) := (Below.refl _ _).alloc (Nat.le_refl _) _
  have HN := hid (hn.below s0)
  have HL := hid (hl.below s0)
  have B0 := hid (BoxV.new w vn vl 31 w.heap.size rfl)
  have S0 := hid s0
  clear s0
  obtain ⟨A, c, rfl, hcn, hm, _⟩ := id hn
  obtain ⟨A', c', rfl, hcl, hm', _⟩ := id hl
  unfold maxLen at hm hm'
  clear hn hl
  have hwl := win_leads hok
  have hnl := win_nl hok
  have HOK := hid hok
  have v0 := B0.out.c0
  have v1 := B0.out.c1
  have hk0 : (0 : Int) ≤ (k : Int) := by omega
  have hk1 : (k : Int) ≤ 64 := by omega
  obtain ⟨s1, hs1⟩ : ∃ s1 : Nat, s1 = 2 ^ k := ⟨_, rfl⟩
  have hsh : wrap64 ((2 : Int) ^ k) = (s1 : Int) := by
    have h : 2 ^ k < 2 ^ 12 := Nat.pow_lt_pow_right (by omega) (by omega)
    have h1 : s1 < 4096 := by omega
    have e : (2 : Int) ^ k = (s1 : Int) := by rw [hs1]; simp
    rw [e]; unfold wrap64; omega
  have HS1 := hid hs1
  clear hs1
  go_enter Try.func77, Try.ntmps77
  go_wp2_with fail
  go_loopw [5, 13] (fun v i wr => ∃ r : Nat, r ≤ ns.length ∧ i = .int .i64 r ∧ v = .int .i64 ((bPasses (nl ls) s1 r : Nat) : Int) ∧ Hid (Below (w.heap.size + 1) (w.alloc (.cells #[.slice A ns.length c, .slice A' ls.length c'] 31)) wr)) (fun _ i _ => ns.length - (intOf i).toNat)
  case atStart => exact ⟨0, Nat.zero_le _, rfl, by simp [bPasses, hsh], hid (Below.refl _ _)⟩
  case round =>
    obtain ⟨r, hr, rfl, rfl, hb⟩ := hrel
    obtain ⟨wo, rfl⟩ : ∃ wo : World, wo = wr := ⟨_, rfl⟩
    have hb' : Below (w.alloc (.cells #[.slice A ns.length c, .slice A' ls.length c'] 31)).heap.size (w.alloc (.cells #[.slice A ns.length c, .slice A' ls.length c'] 31)) wo := by simpa using hb.out
    have S1 := hid (then_ S0.out hb' S0.out.size)
    have B1 := hid (B0.out.below hb')
    have L1 := hid (HL.out.below hb')
    have HB := hid hb.out
    clear hb hb' v0 v1
    have v0 := B1.out.c0
    have v1 := B1.out.c1
    have vlt := B1.out.lt
    by_cases hlt : r < ns.length
    · have hr0 : (0 : Int) ≤ (r : Int) := by omega
      have hr1 : (r : Int) < (ns.length : Int) := by omega
      go_wp2_with fail
      go_loopw [5, 18] (fun v i wr => ∃ j : Nat, j ≤ ls.length ∧ i = .int .i64 j ∧ v = .int .i64 ((bPass ((nl ls).take j) (bPasses (nl ls) s1 r) : Nat) : Int) ∧ Hid (Below wo.heap.size wo wr)) (fun _ i _ => ls.length - (intOf i).toNat)
      case atStart => exact ⟨0, Nat.zero_le _, rfl, rfl, hid (Below.refl _ _)⟩
      case round =>
        obtain ⟨j, hj, rfl, rfl, hb2⟩ := hrel
        clear v0 v1 vlt
        have L2 := hid (L1.out.below hb2.out)
        have z2 : wo.heap.size ≤ wr.heap.size := hb2.out.size
        by_cases hjt : j < ls.length
        · obtain ⟨⟨f0, t0⟩, hft⟩ : ∃ p, ls[j]? = some p := ⟨_, List.getElem?_eq_getElem hjt⟩
          obtain ⟨e0, e1, e2⟩ := win_ends HOK.out hft
          obtain ⟨b1, off, rfl, hbb, h1, h2⟩ := L2.out.at_ hft
          have hn := nl_get hft
          obtain ⟨f, rfl⟩ : ∃ f : Nat, f0 = (f : Int) := ⟨f0.toNat, by omega⟩
          obtain ⟨t, rfl⟩ : ∃ t : Nat, t0 = (t : Int) := ⟨t0.toNat, by omega⟩
          have E := hid (show bPass ((nl ls).take (j + 1)) (bPasses (nl ls) s1 r) = bStep (bPass ((nl ls).take j) (bPasses (nl ls) s1 r)) (f, t) from bPass_take_succ (nl ls) (bPasses (nl ls) s1 r) j _ hn)
          have hlt12 := bPass_lt 12 ((nl ls).take j) (fun p hp => by have := hnl p (List.mem_of_mem_take hp); omega) _ (bPasses_lt 12 (nl ls) (fun p hp => by have := hnl p hp; omega) s1 (by rw [HS1.out]; exact Nat.pow_lt_pow_right (by omega) (by omega)) r)
          clear hft hn
          generalize bPass ((nl ls).take j) (bPasses (nl ls) s1 r) = S at E hlt12 ⊢
          have hj0 : (0 : Int) ≤ (j : Int) := by omega
          have hj1 : (j : Int) < (ls.length : Int) := by omega
          have hf0 : (0 : Int) ≤ (f : Int) := by omega
          have hf1 : (f : Int) ≤ 64 := by omega
          have ht0 : (0 : Int) ≤ (t : Int) := by omega
          have ht1 : (t : Int) ≤ 64 := by omega
          have hand : ∀ i : Nat, bits .and .i64 ((S : Int) / 2 ^ i) 1 = if S.testBit i then 1 else 0 := fun i => by
            have hq : (S : Int) / 2 ^ i = ((S / 2 ^ i : Nat) : Int) := by simp
            have := and_i64 (S / 2 ^ i) 1 (Nat.lt_of_le_of_lt (Nat.div_le_self _ _) (by omega)) (by decide)
            rw [hq]; rw [bit_of] at this; rw [show (1 : Int) = ((1 : Nat) : Int) from rfl, this]; split <;> rfl
          have C9 := hid (show ∀ m : Nat, m < 12 → wrap64 ((2 : Int) ^ m) = ((2 ^ m : Nat) : Int) from fun m hm => by
            have h : 2 ^ m < 2 ^ 12 := Nat.pow_lt_pow_right (by omega) hm
            have e : (2 : Int) ^ m = ((2 ^ m : Nat) : Int) := by simp
            rw [e]; generalize 2 ^ m = z at h ⊢; unfold wrap64; omega)
          have HAL := hid (hb2.out.alloc z2 (.cells #[.int .i64 (f : Int), .int .i64 (t : Int)] 73))
          have X0 := hid (Box2.new wr (f : Int) (t : Int) 73 wr.heap.size rfl)
          by_cases hin : S.testBit f = true ∨ S.testBit t = true
          · have hone : bits .and .i64 ((S : Int) / 2 ^ f) 1 = 1 ∨ (bits .and .i64 ((S : Int) / 2 ^ f) 1 = 0 ∧ bits .and .i64 ((S : Int) / 2 ^ t) 1 = 1) := by
              rw [hand f, hand t]
              cases h1 : S.testBit f <;> cases h2 : S.testBit t <;> simp_all
            have E2 := hid (show bStep S (f, t) = S ||| (2 ^ f ||| 2 ^ t) by unfold bStep; rw [if_pos (by simpa using hin)])
            clear hand hin
            have w1 : wrap64 ((2 : Int) ^ f) = ((2 ^ f : Nat) : Int) := C9.out f (by omega)
            have w2 : wrap64 ((2 : Int) ^ t) = ((2 ^ t : Nat) : Int) := C9.out t (by omega)
            have l1 : 2 ^ f < 2 ^ 12 := Nat.pow_lt_pow_right (by omega) (by omega)
            have l2 : 2 ^ t < 2 ^ 12 := Nat.pow_lt_pow_right (by omega) (by omega)
            have o1 := or_i64 (2 ^ f) (2 ^ t) (by omega) (by omega)
            have l3 := Nat.or_lt_two_pow l1 l2
            have o2 := or_i64 S (2 ^ f ||| 2 ^ t) (by omega) (by omega)
            rw [← E2.out] at o2
            generalize bStep S (f, t) = z at o2 E
            generalize (2 ^ f ||| 2 ^ t) = y at o1 o2
            generalize ((2 ^ f : Nat) : Int) = a at w1 o1
            generalize ((2 ^ t : Nat) : Int) = b at w2 o1
            clear l1 l2 l3 E2 hlt12
            rcases hone with q1 | ⟨q1, q2⟩
            all_goals
              go_wp2_with fail
              have m0 := fun p => (X0.out.mv p).c0
              have m1 := fun p => (X0.out.mv p).c1
              refine wp_region_mv (by kernel_rfl) (by kernel_rfl) ?_
              repeat (go_big_quiet_step (fail))
              refine wpQuiet_nil ?_
              intro _ hw'
              obtain ⟨q, hw''⟩ := hw'
              subst hw''
              have HX := hid (then_ HAL.out (below_mv _ q) HAL.out.size)
              clear m0 m1
              go_wp2
              go_roundw
              case rel => exact ⟨j + 1, by omega, by go_num, by rw [E.out], HX⟩
              case measure => simp [intOf]; omega
          · have q1 : bits .and .i64 ((S : Int) / 2 ^ f) 1 = 0 := by rw [hand f, if_neg (fun h => hin (.inl h))]
            have q2 : bits .and .i64 ((S : Int) / 2 ^ t) 1 = 0 := by rw [hand t, if_neg (fun h => hin (.inr h))]
            have E2 := hid (show bStep S (f, t) = S by unfold bStep; rw [if_neg (by simpa using hin)])
            clear hand hin
            go_wp2
            go_roundw
            case rel => exact ⟨j + 1, by omega, by go_num, by rw [E.out, E2.out], HAL⟩
            case measure => simp [intOf]; omega
        · have he : j = ls.length := by omega
          subst he
          have E := hid (show bPass ((nl ls).take ls.length) (bPasses (nl ls) s1 r) = bPasses (nl ls) s1 (r + 1) by rw [List.take_of_length_le (by simp [nl])]; rfl)
          have HB3 := hid (HB.out.trans (hb2.out.mono (by have := HB.out.size; simpa using this)))
          go_wp2
          go_roundw
          case rel => exact ⟨r + 1, by omega, by go_num, by rw [E.out], HB3⟩
          case measure => simp [intOf]; omega
    · have he : r = ns.length := by omega
      subst he
      have hlt12 := bPasses_lt 12 (nl ls) (fun p hp => by have := hnl p hp; omega) s1 (by rw [HS1.out]; exact Nat.pow_lt_pow_right (by omega) (by omega)) ns.length
      have MB := hid (fun W => membersOf_any (bPasses (nl ls) s1 ns.length) hlt12 W)
      have EP := hid (show mem (bPasses (nl ls) s1 ns.length) 12 = ptF ns ls k by rw [HS1.out]; rfl)
      go_wp2_with fail
      refine (MB.out _).mono ?_
      rintro e w3 ⟨v, rfl, ho, hb3⟩
      have O3 := hid (own_less ho S1.out.size)
      have S3 := hid (then_ S1.out hb3 S1.out.size)
      clear ho hb3
      obtain ⟨A9, c9, rfl⟩ := own_form O3.out
      go_wp2
      go_ret
      exact ⟨_, rfl, by rw [← EP.out]; exact O3.out, S3.out⟩
end Go.Proofs.Ytdhppajfdcfikaa

/- The reference's list of the labels of the nodes of a valid window. No condition but that the window is valid. -/
namespace Go.Proofs.Ytdhppajfdcfikaa
open Go.ChangeShapes Go.WideShapes Go.ChangeAt Go.RowKit
set_option maxHeartbeats 2000000
set_option linter.unusedSimpArgs false
set_option linter.unusedVariables false
theorem sParts_any (vn vl : Value) (ns ls : List (Int × Int)) (w : World) (hn : PairsAt w vn ns) (hl : PairsAt w vl ls) (hok : winOkB ns ls = true) : Calls Try.prog 94 #[.agg #[vn, vl]] w (NewInts (fnL ns.length (lb (nl ls))) w) := by
  have s0 : Below w.heap.size w (w.alloc (.cells #[vn, vl] 31)) := (Below.refl _ _).alloc (Nat.le_refl _) _
  have HL := hid (hl.below s0)
  have B0 := hid (BoxV.new w vn vl 31 w.heap.size rfl)
  have S0 := hid s0
  clear s0
  obtain ⟨A, c, rfl, hcn, hm, _⟩ := id hn
  obtain ⟨A', c', rfl, hcl, hm', _⟩ := id hl
  unfold maxLen at hm hm'
  clear hn hl
  have hwl := win_leads hok
  have hnl := win_nl hok
  have HOK := hid hok
  obtain ⟨i0, hinf, hz0, hz1, hz2⟩ := info_parts infoI
  have HINF := hid (And.intro hinf (And.intro hz0 (And.intro hz1 hz2)))
  clear hinf hz0 hz1 hz2
  have nil0 : OwnInts (w.heap.size + 1) ((w.alloc (.cells #[.slice A ns.length c, .slice A' ls.length c'] 31)).alloc (.cells #[] 3)) (.slice (some ⟨w.heap.size + 1, 0, none⟩) 0 0) [] := by
    have := World.ownsRow_lit (w.alloc (.cells #[.slice A ns.length c, .slice A' ls.length c'] 31)) (base := w.heap.size + 1) (e := 3) (size := 1) #[] 0 (by simp) (by unfold maxLen; omega) (by simp)
    simpa [OwnInts, ints] using this
  have N0 := hid nil0
  clear nil0
  have V0 : Hid (Below (w.heap.size + 1) (w.alloc (.cells #[.slice A ns.length c, .slice A' ls.length c'] 31)) ((w.alloc (.cells #[.slice A ns.length c, .slice A' ls.length c'] 31)).alloc (.cells #[] 3))) := hid ((Below.refl _ _).alloc (by simp) _)
  have v0 := B0.out.c0
  have v1 := B0.out.c1
  have WW : Hid (∀ wr, Below (w.heap.size + 1) (w.alloc (.cells #[.slice A ns.length c, .slice A' ls.length c'] 31)) wr → BoxV wr w.heap.size (.slice A ns.length c) (.slice A' ls.length c') ∧ PairsAt wr (.slice A' ls.length c') ls ∧ w.heap.size + 1 ≤ wr.heap.size) := hid (fun wr h => by
    have h' : Below (w.alloc (.cells #[.slice A ns.length c, .slice A' ls.length c'] 31)).heap.size (w.alloc (.cells #[.slice A ns.length c, .slice A' ls.length c'] 31)) wr := by simpa using h
    exact ⟨B0.out.below h', HL.out.below h', by have := h'.size; simpa using this⟩)
  go_enter Try.func94, Try.ntmps94
  go_wp2_with fail
  go_loopw [3, 4] (fun v i wr => ∃ k : Nat, k ≤ ns.length ∧ i = .int .i64 k ∧ Hid (OwnInts (w.heap.size + 1) wr v (fnL k (fun i => i))) ∧ Hid (Below (w.heap.size + 1) (w.alloc (.cells #[.slice A ns.length c, .slice A' ls.length c'] 31)) wr)) (fun _ i _ => ns.length - (intOf i).toNat)
  case atStart => exact ⟨0, Nat.zero_le _, rfl, N0, V0⟩
  case round =>
    obtain ⟨k, hk, rfl, HOW, HB⟩ := hrel
    obtain ⟨bx, px, z1⟩ := WW.out _ HB.out
    clear v0 v1
    have v0 := bx.c0
    have v1 := bx.c1
    have vlt := bx.lt
    clear bx px
    by_cases hlt : k < ns.length
    · have hk0 : (0 : Int) ≤ (k : Int) := by omega
      have hk1 : (k : Int) < (ns.length : Int) := by omega
      have C3 := hid (show (fnL k (fun i => i)).length + 1 ≤ maxLen by rw [fnL_len]; unfold maxLen; omega)
      have C4 := hid (show ((fnL k (fun i => i)).length + 1) * 8 ≤ 140737488355328 by rw [fnL_len]; omega)
      go_wp2_with (at_builtin; obtain ⟨hinf, hz0, hz1, hz2⟩ := HINF.out; refine wpList_append_own _ rfl _ _ 37 rfl (w.heap.size + 1) 3 i0 (.int .i64 0) 1 8 Try.underlying37 hinf hz0 hz1 hz2 rfl (by decide) _ _ _ rfl (HOW.out.alloc _) ⟨wr.heap.size, 0, none⟩ 1 1 [.int .i64 k] rfl rfl (cell_one_new wr (.int .i64 k) 3) (by simp [Value.oneCell']) C3.out C4.out (by simp; omega) ?_)
      intro v' w' hown' hgrow _
      have O9 := hid hown'
      have B9 := hid ((HB.out.alloc z1 (.cells #[.int .i64 k] 3)).grown hgrow (by simp; omega) (fun g hg => (HOW.out.lt g hg).1))
      clear hown' hgrow
      go_wp2
      go_roundw
      case rel => exact ⟨k + 1, by omega, by go_num, hid (by unfold OwnInts; rw [fnL_succ]; simpa [ints] using O9.out), B9⟩
      case measure => simp [intOf]; omega
    · have he : k = ns.length := by omega
      subst he
      obtain ⟨A9, c9, hv9⟩ := own_form HOW.out
      rw [fnL_len] at hv9
      have hA9 : ∃ g, A9 = some ⟨g, 0, none⟩ := by
        rcases HOW.out.2 with ⟨h', h''⟩ | ⟨g, cap, cur, h', _⟩
        · rw [fnL_len] at h''; omega
        · rw [hv9] at h'; injection h' with h' _ _; exact ⟨g, h'⟩
      obtain ⟨g, rfl⟩ := hA9
      subst hv9
      have O1 : Hid (wr.ownsRow (w.heap.size + 1) 3 1 (.slice (some ⟨g, 0, none⟩) ns.length c9) ns.length (ints (fnL ns.length (lbAll ((nl ls).take 0) (fun i => i))))) := hid (by
        have := HOW.out; unfold OwnInts at this; rw [fnL_len] at this; exact this)
      clear HOW
      have GB := hid (show w.heap.size + 1 ≤ g from (O1.out.lt g rfl).1)
      go_wp2_with fail
      go_loopw [5] (fun i wr => ∃ k : Nat, k ≤ ls.length ∧ i = .int .i64 k ∧ Hid (wr.ownsRow (w.heap.size + 1) 3 1 (.slice (some ⟨g, 0, none⟩) ns.length c9) ns.length (ints (fnL ns.length (lbAll ((nl ls).take k) (fun i => i))))) ∧ Hid (Below (w.heap.size + 1) (w.alloc (.cells #[.slice A ns.length c, .slice A' ls.length c'] 31)) wr)) (fun i _ => ls.length - (intOf i).toNat)
      case atStart => exact ⟨0, Nat.zero_le _, rfl, O1, HB⟩
      case round =>
        clear v0 v1 vlt O1 HB
        obtain ⟨k, hk, rfl, HO, HB⟩ := hrel
        obtain ⟨bx, px, z1⟩ := WW.out _ HB.out
        have v0 := bx.c0
        have v1 := bx.c1
        have vlt := bx.lt
        have L2 := hid px
        clear bx px
        by_cases hkt : k < ls.length
        · obtain ⟨⟨f0, t0⟩, hft⟩ : ∃ p, ls[k]? = some p := ⟨_, List.getElem?_eq_getElem hkt⟩
          obtain ⟨e0, e1, e2⟩ := win_ends HOK.out hft
          obtain ⟨b1, off, rfl, hbb, h1, h2⟩ := L2.out.at_ hft
          have hn := nl_get hft
          obtain ⟨f, rfl⟩ : ∃ f : Nat, f0 = (f : Int) := ⟨f0.toNat, by omega⟩
          obtain ⟨t, rfl⟩ : ∃ t : Nat, t0 = (t : Int) := ⟨t0.toNat, by omega⟩
          have E := hid (show lbAll ((nl ls).take (k + 1)) (fun i => i) = lbStep (lbAll ((nl ls).take k) (fun i => i)) (f, t) from lbAll_take_succ _ _ _ _ hn)
          have LE := hid (lbAll_le ((nl ls).take k) (fun i => i) (fun i => Nat.le_refl i))
          clear hft hn
          generalize lbAll ((nl ls).take k) (fun i => i) = F at HO E LE
          have hk0 : (0 : Int) ≤ (k : Int) := by omega
          have hk1 : (k : Int) < (ls.length : Int) := by omega
          have hf0 : (0 : Int) ≤ (f : Int) := by omega
          have hf1 : (f : Int) < (ns.length : Int) := by omega
          have ht0 : (0 : Int) ≤ (t : Int) := by omega
          have ht1 : (t : Int) < (ns.length : Int) := by omega
          have cellv : Hid (∀ (W : World) (G : Nat → Nat), W.ownsRow (w.heap.size + 1) 3 1 (.slice (some ⟨g, 0, none⟩) ns.length c9) ns.length (ints (fnL ns.length G)) → ∀ i, i < ns.length → W.cell? ⟨g, i, none⟩ = some (.int .i64 ((G i : Nat) : Int))) := hid (fun W G ho i hi => by
            rw [World.ownsRow.cellAt ho i (by omega)]
            unfold ints
            rw [List.getElem?_map, fnL_get _ _ _ hi]; rfl)
          have ca := cellv.out wr F HO.out f (by omega)
          have cb := cellv.out wr F HO.out t (by omega)
          obtain ⟨a, ha⟩ : ∃ a, a = F f := ⟨_, rfl⟩
          obtain ⟨b, hb⟩ : ∃ b, b = F t := ⟨_, rfl⟩
          rw [← ha] at ca
          rw [← hb] at cb
          have HA := hid ha
          have HBB := hid hb
          have la : a ≤ 12 := by have := LE.out f; omega
          have lb' : b ≤ 12 := by have := LE.out t; omega
          clear ha hb
          go_wp2_with fail
          obtain ⟨wo, rfl⟩ : ∃ wo : World, wo = wr := ⟨_, rfl⟩
          go_loopw [8] (fun i wr => ∃ j : Nat, j ≤ ns.length ∧ i = .int .i64 j ∧ Hid (wr.ownsRow (w.heap.size + 1) 3 1 (.slice (some ⟨g, 0, none⟩) ns.length c9) ns.length (ints (fnL ns.length (stepTo F (f, t) j)))) ∧ Hid (Below (w.heap.size + 1) (w.alloc (.cells #[.slice A ns.length c, .slice (some ⟨b1, off, none⟩) ls.length c'] 31)) wr)) (fun i _ => ns.length - (intOf i).toNat)
          case atStart => exact ⟨0, Nat.zero_le _, rfl, hid (by rw [stepTo_zero]; exact HO.out), HB⟩
          case round =>
            clear v0 v1 vlt ca cb HB
            obtain ⟨j, hj, rfl, HO, HB⟩ := hrel
            by_cases hjt : j < ns.length
            · have cj := cellv.out wr _ HO.out j hjt
              have ej : stepTo F (f, t) j j = F j := by unfold stepTo; rw [if_neg (by omega)]
              rw [ej] at cj
              have lj : F j ≤ 12 := by have := LE.out j; omega
              have hj0 : (0 : Int) ≤ (j : Int) := by omega
              have hj1 : (j : Int) < (ns.length : Int) := by omega
              have fz : wr.frozen? ⟨g, j, none⟩ = false := World.ownsRow.frozenAt HO.out j
              clear ej
              have hab : a < b ∨ a = b ∨ b < a := by omega
              by_cases hyes : F j = max (F f) (F t)
              · have Y := hid (stepTo_yes ns.length F (f, t) j hjt hyes)
                have hmx : F j = max a b := by rw [HA.out, HBB.out]; exact hyes
                have HM := hid (show min (F f) (F t) = min a b by rw [HA.out, HBB.out])
                obtain ⟨x, hx⟩ : ∃ x, x = F j := ⟨_, rfl⟩
                rw [← hx] at cj hmx lj
                clear hyes hx
                rcases hab with hab | rfl | hab
                all_goals
                  have hx2 := hmx
                  first | rw [Nat.max_eq_right (Nat.le_of_lt hab)] at hx2 | rw [Nat.max_eq_left (Nat.le_of_lt hab)] at hx2 | rw [Nat.max_self] at hx2
                  subst hx2
                  clear hmx
                  go_wp2
                  go_roundw
                  case rel =>
                    have st := fun u => World.ownsRow.stored HO.out j (.int .i64 u)
                    refine ⟨j + 1, by omega, by go_num, hid ?_, hid ?_⟩
                    · rw [Y.out]
                      have e : ∀ (xs : List Int) (i : Nat) (u : Int), ints (xs.set i u) = (ints xs).set i (.int .i64 u) := fun xs i u => by simp [ints, List.map_set]
                      rw [e]
                      show World.ownsRow _ _ _ _ _ _ ((ints (fnL ns.length (stepTo F (f, t) j))).set j (.int .i64 ((min (F f) (F t) : Nat) : Int)))
                      rw [HM.out]
                      first | rw [Nat.min_eq_left (Nat.le_of_lt hab)] | rw [Nat.min_eq_right (Nat.le_of_lt hab)] | rw [Nat.min_self]
                      exact (st _).1
                    · exact HB.out.grown (st _).2 (by have := HB.out.size; simpa using this) (fun g' hg' => by cases hg'; exact GB.out)
                  case measure => simp [intOf]; omega
              · have Y := hid (stepTo_no ns.length F (f, t) j hyes)
                have hmx : ¬ F j = max a b := by rw [HA.out, HBB.out]; exact hyes
                obtain ⟨x, hx⟩ : ∃ x, x = F j := ⟨_, rfl⟩
                rw [← hx] at cj hmx lj
                clear hyes hx
                rcases hab with hab | rfl | hab
                all_goals
                  have hx2 := hmx
                  first | rw [Nat.max_eq_right (Nat.le_of_lt hab)] at hx2 | rw [Nat.max_eq_left (Nat.le_of_lt hab)] at hx2 | rw [Nat.max_self] at hx2
                  clear hmx
                  first | have hx3 : ((x : Int) == (b : Int)) = false := (by simp; omega) | have hx3 : ((x : Int) == (a : Int)) = false := (by simp; omega)
                  go_wp2
                  go_roundw
                  case rel => exact ⟨j + 1, by omega, by go_num, hid (by rw [Y.out]; exact HO.out), HB⟩
                  case measure => simp [intOf]; omega
            · have he : j = ns.length := by omega
              subst he
              have HO2 := hid (show wr.ownsRow (w.heap.size + 1) 3 1 (.slice (some ⟨g, 0, none⟩) ns.length c9) ns.length (ints (fnL ns.length (lbAll ((nl ls).take (k + 1)) (fun i => i)))) by rw [E.out, ← stepTo_all]; exact HO.out)
              go_wp2
              go_roundw
              case rel => exact ⟨k + 1, by omega, by go_num, HO2, HB⟩
              case measure => simp [intOf]; omega
        · have he : k = ls.length := by omega
          subst he
          have HO2 := hid (show OwnInts (w.heap.size + 1) wr (.slice (some ⟨g, 0, none⟩) ns.length c9) (fnL ns.length (lb (nl ls))) by
            have := HO.out
            rw [List.take_of_length_le (by simp [nl])] at this
            unfold OwnInts; rw [fnL_len]; exact this)
          have HF := hid (S0.out.trans (HB.out.mono (by omega)))
          go_wp2
          go_ret
          exact ⟨_, rfl, own_less HO2.out (by omega), HF.out⟩
end Go.Proofs.Ytdhppajfdcfikaa

/- What IsWhole, CountParts and CountFaces return, in the program and in the reference. No condition. -/
namespace Go.Proofs.Ytdhppajfdcfikaa
open Go.ChangeShapes Go.WideShapes Go.ChangeAt Go.RowKit
set_option maxHeartbeats 2000000
set_option linter.unusedSimpArgs false
set_option linter.unusedVariables false
def wholeB (ns ls : List (Int × Int)) : Bool := winOkB ns ls && (decide (0 < ls.length) && allB ns.length (fun i => lb (nl ls) i == 0))
def cpN (ls : List (Int × Int)) (k : Nat) : Nat := (List.range k).countP fun i => lb (nl ls) i == i
theorem cpN_succ (ls : List (Int × Int)) (k : Nat) : cpN ls (k + 1) = cpN ls k + if lb (nl ls) k = k then 1 else 0 := by
  unfold cpN
  rw [List.range_succ, List.countP_append]
  by_cases h : lb (nl ls) k = k <;> simp [h]
theorem cpN_le (ls : List (Int × Int)) (k : Nat) : cpN ls k ≤ k := by
  unfold cpN; exact Nat.le_trans List.countP_le_length (by simp)
def cpF (ns ls : List (Int × Int)) : Int := if winOkB ns ls = true then (cpN ls ns.length : Int) else 0
def cfF (ns ls : List (Int × Int)) : Int := if winOkB ns ls = true then (ls.length : Int) - (ns.length : Int) + 1 + (cpN ls ns.length : Int) else 0
theorem win_small {ns ls : List (Int × Int)} (h : winOkB ns ls = true) : 1 ≤ ns.length ∧ ns.length ≤ 12 ∧ ls.length ≤ 20 := by
  simp only [winOkB, Bool.and_eq_true, inB, decide_eq_true_iff] at h
  omega
theorem below_nl {ns ls : List (Int × Int)} (h : winOkB ns ls = true) : Below_ ns.length (nl ls) := fun p hp => win_nl h p hp
theorem pt_bit {ns ls : List (Int × Int)} (h : winOkB ns ls = true) {k : Nat} (hk : k < ns.length) (i : Nat) : (bPasses (nl ls) (2 ^ k) ns.length).testBit i = true ↔ lb (nl ls) i = lb (nl ls) k := part_bits (nl ls) ns.length k (below_nl h) hk i
theorem pt_lt {ns ls : List (Int × Int)} (h : winOkB ns ls = true) {k : Nat} (hk : k < ns.length) : bPasses (nl ls) (2 ^ k) ns.length < 2 ^ ns.length :=
  bPasses_lt ns.length (nl ls) (fun p hp => win_nl h p hp) (2 ^ k) (Nat.pow_lt_pow_right (by omega) hk) ns.length
theorem pt_len {ns ls : List (Int × Int)} (h : winOkB ns ls = true) : (decide (((ptF ns ls 0).length : Int) = (ns.length : Int))) = allB ns.length (fun i => lb (nl ls) i == 0) := by
  obtain ⟨h1, h2, h3⟩ := win_small h
  have hz : lb (nl ls) 0 = 0 := by have := lb_le (nl ls) 0; omega
  have e : (ptF ns ls 0).length = ns.length ↔ ∀ i, i < ns.length → (bPasses (nl ls) (2 ^ 0) ns.length).testBit i = true := mem_all _ _ h2 (pt_lt h h1)
  rw [Bool.eq_iff_iff, decide_eq_true_iff]
  constructor
  · intro hh
    unfold allB
    rw [List.all_eq_true]
    intro i hi
    have := (pt_bit h h1 i).1 (e.1 (by omega) i (by simpa using hi))
    rw [this, hz]; rfl
  · intro hh
    have : (ptF ns ls 0).length = ns.length := e.2 fun i hi => (pt_bit h h1 i).2 (by
      have := allB_get hh hi
      rw [hz]; simpa using this)
    omega
theorem pt_head {ns ls : List (Int × Int)} (h : winOkB ns ls = true) {k : Nat} (hk : k < ns.length) : ∃ m : Nat, m ≤ k ∧ (ptF ns ls k)[0]? = some (m : Int) ∧ (m = k ↔ lb (nl ls) k = k) := by
  obtain ⟨h1, h2, h3⟩ := win_small h
  obtain ⟨m, a, b, c, d⟩ := mem_head (bPasses (nl ls) (2 ^ k) ns.length) k (by omega) ((pt_bit h hk k).2 rfl)
  refine ⟨m, a, d, ?_⟩
  have hl := least_law (nl ls) ns.length k (below_nl h) hk
  have e : (2 ^ k).testBit = fun i => i == k := by
    funext i
    rw [Nat.testBit_two_pow, Bool.eq_iff_iff, beq_iff_eq, decide_eq_true_iff]; exact eq_comm
  have eb : ∀ i, (bPasses (nl ls) (2 ^ k) ns.length).testBit i = inPasses (nl ls) (fun i => i == k) ns.length i := fun i => by rw [bPasses_bit, e]
  constructor
  · rintro rfl
    exact hl.1 fun i hi => by rw [← eb]; exact c i hi
  · intro hh
    have := hl.2 hh
    rcases Nat.lt_or_ge m k with hlt | hge
    · have hm := this m hlt
      rw [← eb, b] at hm; cases hm
    · omega
theorem mem_len12 (s : Nat) : (mem s 12).length ≤ 12 := mem_len s 12
theorem iWhole_any (vn vl : Value) (ns ls : List (Int × Int)) (w : World) (hn : PairsAt w vn ns) (hl : PairsAt w vl ls) : Calls Try.prog 49 #[.agg #[vn, vl]] w fun e w' => e = .returned (.bool (wholeB ns ls)) ∧ Below w.heap.size w w' := by
  have s0 : Below w.heap.size w (w.alloc (.cells #[vn, vl] 31)) := (Below.refl _ _).alloc (Nat.le_refl _) _
  have HN := hid (hn.below s0)
  have HL := hid (hl.below s0)
  have B0 := hid (BoxV.new w vn vl 31 w.heap.size rfl)
  have S0 := hid s0
  clear s0
  obtain ⟨A, c, rfl, hcn, hm, _⟩ := id hn
  obtain ⟨A', c', rfl, hcl, hm', _⟩ := id hl
  unfold maxLen at hm hm'
  clear hn hl
  have v0 := B0.out.c0
  have v1 := B0.out.c1
  cases hw : winOkB ns ls
  · have HW := hid hw
    have E := hid (show wholeB ns ls = false by simp [wholeB, hw])
    clear hw
    go_enter Try.func49, Try.ntmps49
    go_wp2_with fail
    refine wh_start (S := (fun w' => w'.cell? ⟨w.heap.size, 0, none⟩ = some (.slice A ns.length c) ∧ w'.cell? ⟨w.heap.size, 1, none⟩ = some (.slice A' ls.length c'))) (by kernel_rfl) ⟨v0, v1⟩ ?_
    refine wh_take (i := 0) (v := ?_) rfl (by kernel_rfl) (by kernel_rfl) (by kernel_rfl) (fun _ _ _ h => h) (by kernel_rfl) ?_ ?_
    rotate_left
    (focus (intro w hSw; (try dsimp only at hSw); go_simp; try with_reducible rfl))
    simp only [Act.put, List.setIfInBounds_toArray, List.set_cons_zero, List.set_cons_succ, List.getElem_toArray, List.getElem_cons_succ, List.getElem_cons_zero, Nat.reduceAdd]
    refine wh_step (i := 1) rfl (by kernel_rfl) (fun K hK => ?_)
    go_simp
    refine (iWin_any _ _ ns ls _ (by exact PairsAt.drew HN.out) (by exact PairsAt.drew HL.out)).mono ?_
    rintro e w1 ⟨rfl, hb⟩
    have hb := then_ ((Below.refl _ _).drew) hb (Nat.le_refl _)
    have B0 := hid (B0.out.below hb)
    have S0 := hid (then_ S0.out hb S0.out.size)
    have HN := hid (HN.out.below hb)
    have HL := hid (HL.out.below hb)
    clear v0 v1
    have v0 := B0.out.c0
    have v1 := B0.out.c1
    have vlt := B0.out.lt
    clear hb
    rw [HW.out]
    (try dsimp only)
    refine hK.out _ _ ⟨v0, v1⟩ ?_
    clear hK K
    (try simp only [Act.put, List.setIfInBounds_toArray, List.set_cons_zero, List.set_cons_succ, List.getElem_toArray, List.getElem_cons_succ, List.getElem_cons_zero, Nat.reduceAdd])
    refine wh_take (i := 2) (v := ?_) rfl (by kernel_rfl) (by kernel_rfl) (by kernel_rfl) (fun _ _ _ h => h) (by kernel_rfl) ?_ ?_
    rotate_left
    (focus (intro w hSw; (try dsimp only at hSw); go_simp; try with_reducible rfl))
    simp only [Act.put, List.setIfInBounds_toArray, List.set_cons_zero, List.set_cons_succ, List.getElem_toArray, List.getElem_cons_succ, List.getElem_cons_zero, Nat.reduceAdd]
    refine wh_skip (i := 3) rfl (by kernel_rfl) (by kernel_rfl) (by kernel_rfl) (fun _ _ _ h => h) (by kernel_rfl) ?_
    simp only [Act.put, List.setIfInBounds_toArray, List.set_cons_zero, List.set_cons_succ, List.getElem_toArray, List.getElem_cons_succ, List.getElem_cons_zero, Nat.reduceAdd]
    refine wh_skip (i := 4) rfl (by kernel_rfl) (by kernel_rfl) (by kernel_rfl) (fun _ _ _ h => h) (by kernel_rfl) ?_
    simp only [Act.put, List.setIfInBounds_toArray, List.set_cons_zero, List.set_cons_succ, List.getElem_toArray, List.getElem_cons_succ, List.getElem_cons_zero, Nat.reduceAdd]
    refine wh_skip (i := 5) rfl (by kernel_rfl) (by kernel_rfl) (by kernel_rfl) (fun _ _ _ h => h) (by kernel_rfl) ?_
    simp only [Act.put, List.setIfInBounds_toArray, List.set_cons_zero, List.set_cons_succ, List.getElem_toArray, List.getElem_cons_succ, List.getElem_cons_zero, Nat.reduceAdd]
    refine wh_skip (i := 6) rfl (by kernel_rfl) (by kernel_rfl) (by kernel_rfl) (fun _ _ _ h => h) (by kernel_rfl) ?_
    simp only [Act.put, List.setIfInBounds_toArray, List.set_cons_zero, List.set_cons_succ, List.getElem_toArray, List.getElem_cons_succ, List.getElem_cons_zero, Nat.reduceAdd]
    refine wh_take (i := 7) (v := ?_) rfl (by kernel_rfl) (by kernel_rfl) (by kernel_rfl) (fun _ _ _ h => h) (by kernel_rfl) ?_ ?_
    rotate_left
    (focus (intro w hSw; (try dsimp only at hSw); go_simp; try with_reducible rfl))
    simp only [Act.put, List.setIfInBounds_toArray, List.set_cons_zero, List.set_cons_succ, List.getElem_toArray, List.getElem_cons_succ, List.getElem_cons_zero, Nat.reduceAdd]
    refine wh_take (i := 8) (v := ?_) rfl (by kernel_rfl) (by kernel_rfl) (by kernel_rfl) (fun _ _ _ h => h) (by kernel_rfl) ?_ ?_
    rotate_left
    (focus (intro w hSw; (try dsimp only at hSw); go_simp; try with_reducible rfl))
    simp only [Act.put, List.setIfInBounds_toArray, List.set_cons_zero, List.set_cons_succ, List.getElem_toArray, List.getElem_cons_succ, List.getElem_cons_zero, Nat.reduceAdd]
    refine wh_skip (i := 9) rfl (by kernel_rfl) (by kernel_rfl) (by kernel_rfl) (fun _ _ _ h => h) (by kernel_rfl) ?_
    simp only [Act.put, List.setIfInBounds_toArray, List.set_cons_zero, List.set_cons_succ, List.getElem_toArray, List.getElem_cons_succ, List.getElem_cons_zero, Nat.reduceAdd]
    refine wh_skip (i := 10) rfl (by kernel_rfl) (by kernel_rfl) (by kernel_rfl) (fun _ _ _ h => h) (by kernel_rfl) ?_
    simp only [Act.put, List.setIfInBounds_toArray, List.set_cons_zero, List.set_cons_succ, List.getElem_toArray, List.getElem_cons_succ, List.getElem_cons_zero, Nat.reduceAdd]
    refine wh_skip (i := 11) rfl (by kernel_rfl) (by kernel_rfl) (by kernel_rfl) (fun _ _ _ h => h) (by kernel_rfl) ?_
    simp only [Act.put, List.setIfInBounds_toArray, List.set_cons_zero, List.set_cons_succ, List.getElem_toArray, List.getElem_cons_succ, List.getElem_cons_zero, Nat.reduceAdd]
    refine wh_skip (i := 12) rfl (by kernel_rfl) (by kernel_rfl) (by kernel_rfl) (fun _ _ _ h => h) (by kernel_rfl) ?_
    simp only [Act.put, List.setIfInBounds_toArray, List.set_cons_zero, List.set_cons_succ, List.getElem_toArray, List.getElem_cons_succ, List.getElem_cons_zero, Nat.reduceAdd]
    refine wh_skip (i := 13) rfl (by kernel_rfl) (by kernel_rfl) (by kernel_rfl) (fun _ _ _ h => h) (by kernel_rfl) ?_
    simp only [Act.put, List.setIfInBounds_toArray, List.set_cons_zero, List.set_cons_succ, List.getElem_toArray, List.getElem_cons_succ, List.getElem_cons_zero, Nat.reduceAdd]
    refine wh_skip (i := 14) rfl (by kernel_rfl) (by kernel_rfl) (by kernel_rfl) (fun _ _ _ h => h) (by kernel_rfl) ?_
    simp only [Act.put, List.setIfInBounds_toArray, List.set_cons_zero, List.set_cons_succ, List.getElem_toArray, List.getElem_cons_succ, List.getElem_cons_zero, Nat.reduceAdd]
    refine wh_skip (i := 15) rfl (by kernel_rfl) (by kernel_rfl) (by kernel_rfl) (fun _ _ _ h => h) (by kernel_rfl) ?_
    simp only [Act.put, List.setIfInBounds_toArray, List.set_cons_zero, List.set_cons_succ, List.getElem_toArray, List.getElem_cons_succ, List.getElem_cons_zero, Nat.reduceAdd]
    refine wh_take (i := 16) (v := ?_) rfl (by kernel_rfl) (by kernel_rfl) (by kernel_rfl) (fun _ _ _ h => h) (by kernel_rfl) ?_ ?_
    rotate_left
    (focus (intro w hSw; (try dsimp only at hSw); go_simp; try with_reducible rfl))
    simp only [Act.put, List.setIfInBounds_toArray, List.set_cons_zero, List.set_cons_succ, List.getElem_toArray, List.getElem_cons_succ, List.getElem_cons_zero, Nat.reduceAdd]
    refine wh_take (i := 17) (v := ?_) rfl (by kernel_rfl) (by kernel_rfl) (by kernel_rfl) (fun _ _ _ h => h) (by kernel_rfl) ?_ ?_
    rotate_left
    (focus (intro w hSw; (try dsimp only at hSw); go_simp; try with_reducible rfl))
    simp only [Act.put, List.setIfInBounds_toArray, List.set_cons_zero, List.set_cons_succ, List.getElem_toArray, List.getElem_cons_succ, List.getElem_cons_zero, Nat.reduceAdd]
    refine wh_done (by kernel_rfl) ?_
    go_wp2
    go_ret
    exact ⟨ret_bool (by rw [E.out]), S0.out⟩
  by_cases h0 : ls.length = 0
  · have HW := hid hw
    have E := hid (show wholeB ns ls = false by simp [wholeB, h0])
    have hg : decide ((0 : Int) < (ls.length : Int)) = false := by rw [h0]; rfl
    have hg2 : decide (0 < ls.length) = false := by rw [h0]; rfl
    clear hw h0
    go_enter Try.func49, Try.ntmps49
    go_wp2_with fail
    refine wh_start (S := (fun w' => w'.cell? ⟨w.heap.size, 0, none⟩ = some (.slice A ns.length c) ∧ w'.cell? ⟨w.heap.size, 1, none⟩ = some (.slice A' ls.length c'))) (by kernel_rfl) ⟨v0, v1⟩ ?_
    refine wh_take (i := 0) (v := ?_) rfl (by kernel_rfl) (by kernel_rfl) (by kernel_rfl) (fun _ _ _ h => h) (by kernel_rfl) ?_ ?_
    rotate_left
    (focus (intro w hSw; (try dsimp only at hSw); go_simp; try with_reducible rfl))
    simp only [Act.put, List.setIfInBounds_toArray, List.set_cons_zero, List.set_cons_succ, List.getElem_toArray, List.getElem_cons_succ, List.getElem_cons_zero, Nat.reduceAdd]
    refine wh_step (i := 1) rfl (by kernel_rfl) (fun K hK => ?_)
    go_simp
    refine (iWin_any _ _ ns ls _ (by exact PairsAt.drew HN.out) (by exact PairsAt.drew HL.out)).mono ?_
    rintro e w1 ⟨rfl, hb⟩
    have hb := then_ ((Below.refl _ _).drew) hb (Nat.le_refl _)
    have B0 := hid (B0.out.below hb)
    have S0 := hid (then_ S0.out hb S0.out.size)
    have HN := hid (HN.out.below hb)
    have HL := hid (HL.out.below hb)
    clear v0 v1
    have v0 := B0.out.c0
    have v1 := B0.out.c1
    have vlt := B0.out.lt
    clear hb
    rw [HW.out]
    (try dsimp only)
    refine hK.out _ _ ⟨v0, v1⟩ ?_
    clear hK K
    (try simp only [Act.put, List.setIfInBounds_toArray, List.set_cons_zero, List.set_cons_succ, List.getElem_toArray, List.getElem_cons_succ, List.getElem_cons_zero, Nat.reduceAdd])
    refine wh_take (i := 2) (v := ?_) rfl (by kernel_rfl) (by kernel_rfl) (by kernel_rfl) (fun _ _ _ h => h) (by kernel_rfl) ?_ ?_
    rotate_left
    (focus (intro w hSw; (try dsimp only at hSw); go_simp; try with_reducible rfl))
    simp only [Act.put, List.setIfInBounds_toArray, List.set_cons_zero, List.set_cons_succ, List.getElem_toArray, List.getElem_cons_succ, List.getElem_cons_zero, Nat.reduceAdd]
    refine wh_take (i := 3) (v := ?_) rfl (by kernel_rfl) (by kernel_rfl) (by kernel_rfl) (fun _ _ _ h => h) (by kernel_rfl) ?_ ?_
    rotate_left
    (focus (intro w hSw; (try dsimp only at hSw); go_simp; try with_reducible rfl))
    simp only [Act.put, List.setIfInBounds_toArray, List.set_cons_zero, List.set_cons_succ, List.getElem_toArray, List.getElem_cons_succ, List.getElem_cons_zero, Nat.reduceAdd]
    refine wh_take (i := 4) (v := ?_) rfl (by kernel_rfl) (by kernel_rfl) (by kernel_rfl) (fun _ _ _ h => h) (by kernel_rfl) ?_ ?_
    rotate_left
    (focus (intro w hSw; (try dsimp only at hSw); go_simp; try with_reducible rfl))
    simp only [Act.put, List.setIfInBounds_toArray, List.set_cons_zero, List.set_cons_succ, List.getElem_toArray, List.getElem_cons_succ, List.getElem_cons_zero, Nat.reduceAdd]
    refine wh_take (i := 5) (v := ?_) rfl (by kernel_rfl) (by kernel_rfl) (by kernel_rfl) (fun _ _ _ h => h) (by kernel_rfl) ?_ ?_
    rotate_left
    (focus (intro w hSw; (try dsimp only at hSw); go_simp; try with_reducible rfl))
    simp only [Act.put, List.setIfInBounds_toArray, List.set_cons_zero, List.set_cons_succ, List.getElem_toArray, List.getElem_cons_succ, List.getElem_cons_zero, Nat.reduceAdd]
    refine wh_take (i := 6) (v := ?_) rfl (by kernel_rfl) (by kernel_rfl) (by kernel_rfl) (fun _ _ _ h => h) (by kernel_rfl) ?_ ?_
    rotate_left
    (focus (intro w hSw; (try dsimp only at hSw); go_simp; try with_reducible rfl))
    simp only [Act.put, List.setIfInBounds_toArray, List.set_cons_zero, List.set_cons_succ, List.getElem_toArray, List.getElem_cons_succ, List.getElem_cons_zero, Nat.reduceAdd]
    refine wh_take (i := 7) (v := ?_) rfl (by kernel_rfl) (by kernel_rfl) (by kernel_rfl) (fun _ _ _ h => h) (by kernel_rfl) ?_ ?_
    rotate_left
    (focus (intro w hSw; (try dsimp only at hSw); go_simp; try with_reducible rfl))
    simp only [Act.put, List.setIfInBounds_toArray, List.set_cons_zero, List.set_cons_succ, List.getElem_toArray, List.getElem_cons_succ, List.getElem_cons_zero, Nat.reduceAdd]
    refine wh_take (i := 8) (v := ?_) rfl (by kernel_rfl) (by kernel_rfl) (by kernel_rfl) (fun _ _ _ h => h) (by kernel_rfl) ?_ ?_
    rotate_left
    (focus (intro w hSw; (try dsimp only at hSw); go_simp; try with_reducible rfl))
    simp only [Act.put, List.setIfInBounds_toArray, List.set_cons_zero, List.set_cons_succ, List.getElem_toArray, List.getElem_cons_succ, List.getElem_cons_zero, Nat.reduceAdd]
    refine wh_skip (i := 9) rfl (by kernel_rfl) (by kernel_rfl) (by kernel_rfl) (fun _ _ _ h => h) (by kernel_rfl) ?_
    simp only [Act.put, List.setIfInBounds_toArray, List.set_cons_zero, List.set_cons_succ, List.getElem_toArray, List.getElem_cons_succ, List.getElem_cons_zero, Nat.reduceAdd]
    refine wh_skip (i := 10) rfl (by kernel_rfl) (by kernel_rfl) (by kernel_rfl) (fun _ _ _ h => h) (by kernel_rfl) ?_
    simp only [Act.put, List.setIfInBounds_toArray, List.set_cons_zero, List.set_cons_succ, List.getElem_toArray, List.getElem_cons_succ, List.getElem_cons_zero, Nat.reduceAdd]
    refine wh_skip (i := 11) rfl (by kernel_rfl) (by kernel_rfl) (by kernel_rfl) (fun _ _ _ h => h) (by kernel_rfl) ?_
    simp only [Act.put, List.setIfInBounds_toArray, List.set_cons_zero, List.set_cons_succ, List.getElem_toArray, List.getElem_cons_succ, List.getElem_cons_zero, Nat.reduceAdd]
    refine wh_skip (i := 12) rfl (by kernel_rfl) (by kernel_rfl) (by kernel_rfl) (fun _ _ _ h => h) (by kernel_rfl) ?_
    simp only [Act.put, List.setIfInBounds_toArray, List.set_cons_zero, List.set_cons_succ, List.getElem_toArray, List.getElem_cons_succ, List.getElem_cons_zero, Nat.reduceAdd]
    refine wh_skip (i := 13) rfl (by kernel_rfl) (by kernel_rfl) (by kernel_rfl) (fun _ _ _ h => h) (by kernel_rfl) ?_
    simp only [Act.put, List.setIfInBounds_toArray, List.set_cons_zero, List.set_cons_succ, List.getElem_toArray, List.getElem_cons_succ, List.getElem_cons_zero, Nat.reduceAdd]
    refine wh_skip (i := 14) rfl (by kernel_rfl) (by kernel_rfl) (by kernel_rfl) (fun _ _ _ h => h) (by kernel_rfl) ?_
    simp only [Act.put, List.setIfInBounds_toArray, List.set_cons_zero, List.set_cons_succ, List.getElem_toArray, List.getElem_cons_succ, List.getElem_cons_zero, Nat.reduceAdd]
    refine wh_skip (i := 15) rfl (by kernel_rfl) (by kernel_rfl) (by kernel_rfl) (fun _ _ _ h => h) (by kernel_rfl) ?_
    simp only [Act.put, List.setIfInBounds_toArray, List.set_cons_zero, List.set_cons_succ, List.getElem_toArray, List.getElem_cons_succ, List.getElem_cons_zero, Nat.reduceAdd]
    refine wh_take (i := 16) (v := ?_) rfl (by kernel_rfl) (by kernel_rfl) (by kernel_rfl) (fun _ _ _ h => h) (by kernel_rfl) ?_ ?_
    rotate_left
    (focus (intro w hSw; (try dsimp only at hSw); go_simp; try with_reducible rfl))
    simp only [Act.put, List.setIfInBounds_toArray, List.set_cons_zero, List.set_cons_succ, List.getElem_toArray, List.getElem_cons_succ, List.getElem_cons_zero, Nat.reduceAdd]
    refine wh_take (i := 17) (v := ?_) rfl (by kernel_rfl) (by kernel_rfl) (by kernel_rfl) (fun _ _ _ h => h) (by kernel_rfl) ?_ ?_
    rotate_left
    (focus (intro w hSw; (try dsimp only at hSw); go_simp; try with_reducible rfl))
    simp only [Act.put, List.setIfInBounds_toArray, List.set_cons_zero, List.set_cons_succ, List.getElem_toArray, List.getElem_cons_succ, List.getElem_cons_zero, Nat.reduceAdd]
    refine wh_done (by kernel_rfl) ?_
    go_wp2
    go_ret
    exact ⟨ret_bool (by rw [E.out]), S0.out⟩
  · have HW := hid hw
    obtain ⟨n1, n2, n3⟩ := win_small hw
    have PL := hid (pt_len hw)
    have E := hid (show wholeB ns ls = allB ns.length (fun i => lb (nl ls) i == 0) by
      have : 0 < ls.length := by omega
      simp [wholeB, hw, this])
    have hg : decide ((0 : Int) < (ls.length : Int)) = true := by simp; omega
    have hg2 : decide (0 < ls.length) = true := by simp; omega
    clear hw h0
    go_enter Try.func49, Try.ntmps49
    go_wp2_with fail
    refine wh_start (S := (fun w' => w'.cell? ⟨w.heap.size, 0, none⟩ = some (.slice A ns.length c) ∧ w'.cell? ⟨w.heap.size, 1, none⟩ = some (.slice A' ls.length c'))) (by kernel_rfl) ⟨v0, v1⟩ ?_
    refine wh_take (i := 0) (v := ?_) rfl (by kernel_rfl) (by kernel_rfl) (by kernel_rfl) (fun _ _ _ h => h) (by kernel_rfl) ?_ ?_
    rotate_left
    (focus (intro w hSw; (try dsimp only at hSw); go_simp; try with_reducible rfl))
    simp only [Act.put, List.setIfInBounds_toArray, List.set_cons_zero, List.set_cons_succ, List.getElem_toArray, List.getElem_cons_succ, List.getElem_cons_zero, Nat.reduceAdd]
    refine wh_step (i := 1) rfl (by kernel_rfl) (fun K hK => ?_)
    go_simp
    refine (iWin_any _ _ ns ls _ (by exact PairsAt.drew HN.out) (by exact PairsAt.drew HL.out)).mono ?_
    rintro e w1 ⟨rfl, hb⟩
    have hb := then_ ((Below.refl _ _).drew) hb (Nat.le_refl _)
    have B0 := hid (B0.out.below hb)
    have S0 := hid (then_ S0.out hb S0.out.size)
    have HN := hid (HN.out.below hb)
    have HL := hid (HL.out.below hb)
    clear v0 v1
    have v0 := B0.out.c0
    have v1 := B0.out.c1
    have vlt := B0.out.lt
    clear hb
    rw [HW.out]
    (try dsimp only)
    refine hK.out _ _ ⟨v0, v1⟩ ?_
    clear hK K
    (try simp only [Act.put, List.setIfInBounds_toArray, List.set_cons_zero, List.set_cons_succ, List.getElem_toArray, List.getElem_cons_succ, List.getElem_cons_zero, Nat.reduceAdd])
    refine wh_take (i := 2) (v := ?_) rfl (by kernel_rfl) (by kernel_rfl) (by kernel_rfl) (fun _ _ _ h => h) (by kernel_rfl) ?_ ?_
    rotate_left
    (focus (intro w hSw; (try dsimp only at hSw); go_simp; try with_reducible rfl))
    simp only [Act.put, List.setIfInBounds_toArray, List.set_cons_zero, List.set_cons_succ, List.getElem_toArray, List.getElem_cons_succ, List.getElem_cons_zero, Nat.reduceAdd]
    refine wh_take (i := 3) (v := ?_) rfl (by kernel_rfl) (by kernel_rfl) (by kernel_rfl) (fun _ _ _ h => h) (by kernel_rfl) ?_ ?_
    rotate_left
    (focus (intro w hSw; (try dsimp only at hSw); go_simp; try with_reducible rfl))
    simp only [Act.put, List.setIfInBounds_toArray, List.set_cons_zero, List.set_cons_succ, List.getElem_toArray, List.getElem_cons_succ, List.getElem_cons_zero, Nat.reduceAdd]
    refine wh_take (i := 4) (v := ?_) rfl (by kernel_rfl) (by kernel_rfl) (by kernel_rfl) (fun _ _ _ h => h) (by kernel_rfl) ?_ ?_
    rotate_left
    (focus (intro w hSw; (try dsimp only at hSw); go_simp; try with_reducible rfl))
    simp only [Act.put, List.setIfInBounds_toArray, List.set_cons_zero, List.set_cons_succ, List.getElem_toArray, List.getElem_cons_succ, List.getElem_cons_zero, Nat.reduceAdd]
    refine wh_take (i := 5) (v := ?_) rfl (by kernel_rfl) (by kernel_rfl) (by kernel_rfl) (fun _ _ _ h => h) (by kernel_rfl) ?_ ?_
    rotate_left
    (focus (intro w hSw; (try dsimp only at hSw); go_simp; try with_reducible rfl))
    simp only [Act.put, List.setIfInBounds_toArray, List.set_cons_zero, List.set_cons_succ, List.getElem_toArray, List.getElem_cons_succ, List.getElem_cons_zero, Nat.reduceAdd]
    refine wh_take (i := 6) (v := ?_) rfl (by kernel_rfl) (by kernel_rfl) (by kernel_rfl) (fun _ _ _ h => h) (by kernel_rfl) ?_ ?_
    rotate_left
    (focus (intro w hSw; (try dsimp only at hSw); go_simp; try with_reducible rfl))
    simp only [Act.put, List.setIfInBounds_toArray, List.set_cons_zero, List.set_cons_succ, List.getElem_toArray, List.getElem_cons_succ, List.getElem_cons_zero, Nat.reduceAdd]
    refine wh_take (i := 7) (v := ?_) rfl (by kernel_rfl) (by kernel_rfl) (by kernel_rfl) (fun _ _ _ h => h) (by kernel_rfl) ?_ ?_
    rotate_left
    (focus (intro w hSw; (try dsimp only at hSw); go_simp; try with_reducible rfl))
    simp only [Act.put, List.setIfInBounds_toArray, List.set_cons_zero, List.set_cons_succ, List.getElem_toArray, List.getElem_cons_succ, List.getElem_cons_zero, Nat.reduceAdd]
    refine wh_take (i := 8) (v := ?_) rfl (by kernel_rfl) (by kernel_rfl) (by kernel_rfl) (fun _ _ _ h => h) (by kernel_rfl) ?_ ?_
    rotate_left
    (focus (intro w hSw; (try dsimp only at hSw); go_simp; try with_reducible rfl))
    simp only [Act.put, List.setIfInBounds_toArray, List.set_cons_zero, List.set_cons_succ, List.getElem_toArray, List.getElem_cons_succ, List.getElem_cons_zero, Nat.reduceAdd]
    refine wh_take (i := 9) (v := ?_) rfl (by kernel_rfl) (by kernel_rfl) (by kernel_rfl) (fun _ _ _ h => h) (by kernel_rfl) ?_ ?_
    rotate_left
    (focus (intro w hSw; (try dsimp only at hSw); go_simp; try with_reducible rfl))
    simp only [Act.put, List.setIfInBounds_toArray, List.set_cons_zero, List.set_cons_succ, List.getElem_toArray, List.getElem_cons_succ, List.getElem_cons_zero, Nat.reduceAdd]
    refine wh_take (i := 12) (v := ?_) rfl (by kernel_rfl) (by kernel_rfl) (by kernel_rfl) (fun _ _ _ h => h) (by kernel_rfl) ?_ ?_
    rotate_left
    (focus (intro w hSw; (try dsimp only at hSw); go_simp; try with_reducible rfl))
    simp only [Act.put, List.setIfInBounds_toArray, List.set_cons_zero, List.set_cons_succ, List.getElem_toArray, List.getElem_cons_succ, List.getElem_cons_zero, Nat.reduceAdd]
    refine wh_take (i := 13) (v := ?_) rfl (by kernel_rfl) (by kernel_rfl) (by kernel_rfl) (fun _ _ _ h => h) (by kernel_rfl) ?_ ?_
    rotate_left
    (focus (intro w hSw; (try dsimp only at hSw); go_simp; try with_reducible rfl))
    simp only [Act.put, List.setIfInBounds_toArray, List.set_cons_zero, List.set_cons_succ, List.getElem_toArray, List.getElem_cons_succ, List.getElem_cons_zero, Nat.reduceAdd]
    refine wh_take (i := 14) (v := ?_) rfl (by kernel_rfl) (by kernel_rfl) (by kernel_rfl) (fun _ _ _ h => h) (by kernel_rfl) ?_ ?_
    rotate_left
    (focus (intro w hSw; (try dsimp only at hSw); go_simp; try with_reducible rfl))
    simp only [Act.put, List.setIfInBounds_toArray, List.set_cons_zero, List.set_cons_succ, List.getElem_toArray, List.getElem_cons_succ, List.getElem_cons_zero, Nat.reduceAdd]
    refine wh_step (i := 10) rfl (by kernel_rfl) (fun K hK => ?_)
    go_simp
    refine (partOf_any _ _ ns ls 0 _ HN.out HL.out HW.out (by omega)).mono ?_
    rintro e w2 ⟨v, rfl, ho, hb⟩
    obtain ⟨A9, c9, rfl⟩ := own_form ho
    clear ho
    have B0 := hid (B0.out.below hb)
    have S0 := hid (then_ S0.out hb S0.out.size)
    have HN := hid (HN.out.below hb)
    have HL := hid (HL.out.below hb)
    clear v0 v1
    have v0 := B0.out.c0
    have v1 := B0.out.c1
    have vlt := B0.out.lt
    clear hb
    (try dsimp only)
    refine hK.out _ _ ⟨v0, v1⟩ ?_
    clear hK K
    (try simp only [Act.put, List.setIfInBounds_toArray, List.set_cons_zero, List.set_cons_succ, List.getElem_toArray, List.getElem_cons_succ, List.getElem_cons_zero, Nat.reduceAdd])
    refine wh_take (i := 11) (v := ?_) rfl (by kernel_rfl) (by kernel_rfl) (by kernel_rfl) (fun _ _ _ h => h) (by kernel_rfl) ?_ ?_
    rotate_left
    (focus (intro w hSw; (try dsimp only at hSw); go_simp; try with_reducible rfl))
    simp only [Act.put, List.setIfInBounds_toArray, List.set_cons_zero, List.set_cons_succ, List.getElem_toArray, List.getElem_cons_succ, List.getElem_cons_zero, Nat.reduceAdd]
    refine wh_take (i := 15) (v := ?_) rfl (by kernel_rfl) (by kernel_rfl) (by kernel_rfl) (fun _ _ _ h => h) (by kernel_rfl) ?_ ?_
    rotate_left
    (focus (intro w hSw; (try dsimp only at hSw); go_simp; try with_reducible rfl))
    simp only [Act.put, List.setIfInBounds_toArray, List.set_cons_zero, List.set_cons_succ, List.getElem_toArray, List.getElem_cons_succ, List.getElem_cons_zero, Nat.reduceAdd]
    refine wh_take (i := 16) (v := ?_) rfl (by kernel_rfl) (by kernel_rfl) (by kernel_rfl) (fun _ _ _ h => h) (by kernel_rfl) ?_ ?_
    rotate_left
    (focus (intro w hSw; (try dsimp only at hSw); go_simp; try with_reducible rfl))
    simp only [Act.put, List.setIfInBounds_toArray, List.set_cons_zero, List.set_cons_succ, List.getElem_toArray, List.getElem_cons_succ, List.getElem_cons_zero, Nat.reduceAdd]
    refine wh_take (i := 17) (v := ?_) rfl (by kernel_rfl) (by kernel_rfl) (by kernel_rfl) (fun _ _ _ h => h) (by kernel_rfl) ?_ ?_
    rotate_left
    (focus (intro w hSw; (try dsimp only at hSw); go_simp; try with_reducible rfl))
    simp only [Act.put, List.setIfInBounds_toArray, List.set_cons_zero, List.set_cons_succ, List.getElem_toArray, List.getElem_cons_succ, List.getElem_cons_zero, Nat.reduceAdd]
    refine wh_done (by kernel_rfl) ?_
    go_wp2
    go_ret
    exact ⟨ret_bool (by rw [E.out, ← PL.out, Bool.eq_iff_iff]; simp), S0.out⟩
theorem sWhole_any (vn vl : Value) (ns ls : List (Int × Int)) (w : World) (hn : PairsAt w vn ns) (hl : PairsAt w vl ls) : Calls Try.prog 70 #[.agg #[vn, vl]] w fun e w' => e = .returned (.bool (wholeB ns ls)) ∧ Below w.heap.size w w' := by
  have s0 : Below w.heap.size w (w.alloc (.cells #[vn, vl] 31)) := (Below.refl _ _).alloc (Nat.le_refl _) _
  have HN := hid (hn.below s0)
  have HL := hid (hl.below s0)
  have B0 := hid (BoxV.new w vn vl 31 w.heap.size rfl)
  have S0 := hid s0
  clear s0
  obtain ⟨A, c, rfl, hcn, hm, _⟩ := id hn
  obtain ⟨A', c', rfl, hcl, hm', _⟩ := id hl
  unfold maxLen at hm hm'
  clear hn hl
  have v0 := B0.out.c0
  have v1 := B0.out.c1
  cases hw : winOkB ns ls
  · have HW := hid hw
    have E := hid (show wholeB ns ls = false by simp [wholeB, hw])
    clear hw
    go_enter Try.func70, Try.ntmps70
    go_wp2_with fail
    refine (sWin_any _ _ ns ls _ HN.out HL.out).mono ?_
    rintro e w1 ⟨rfl, hb⟩
    rw [HW.out]
    go_wp2
    go_ret
    exact ⟨ret_bool (by rw [E.out]), then_ S0.out hb S0.out.size⟩
  by_cases h0 : ls.length = 0
  · have HW := hid hw
    have E := hid (show wholeB ns ls = false by simp [wholeB, h0])
    have HZ := hid (show ((ls.length : Int) == 0) = true by simp [h0])
    clear hw h0
    go_enter Try.func70, Try.ntmps70
    go_wp2_with fail
    refine (sWin_any _ _ ns ls _ HN.out HL.out).mono ?_
    rintro e w1 ⟨rfl, hb⟩
    rw [HW.out]
    have B0 := hid (B0.out.below hb)
    have S0 := hid (then_ S0.out hb S0.out.size)
    have HN := hid (HN.out.below hb)
    have HL := hid (HL.out.below hb)
    clear v0 v1
    have v0 := B0.out.c0
    have v1 := B0.out.c1
    have vlt := B0.out.lt
    clear hb
    have hz := HZ.out
    go_wp2
    go_ret
    exact ⟨ret_bool (by rw [E.out]), S0.out⟩
  · have HW := hid hw
    obtain ⟨n1, n2, n3⟩ := win_small hw
    have E := hid (show wholeB ns ls = allB ns.length (fun i => lb (nl ls) i == 0) by
      have : 0 < ls.length := by omega
      simp [wholeB, hw, this])
    have HZ := hid (show ((ls.length : Int) == 0) = false by rw [beq_eq_false_iff_ne]; omega)
    clear hw h0
    go_enter Try.func70, Try.ntmps70
    go_wp2_with fail
    refine (sWin_any _ _ ns ls _ HN.out HL.out).mono ?_
    rintro e w1 ⟨rfl, hb⟩
    rw [HW.out]
    have B0 := hid (B0.out.below hb)
    have S0 := hid (then_ S0.out hb S0.out.size)
    have HN := hid (HN.out.below hb)
    have HL := hid (HL.out.below hb)
    clear v0 v1
    have v0 := B0.out.c0
    have v1 := B0.out.c1
    have vlt := B0.out.lt
    clear hb
    have hz := HZ.out
    go_wp2_with fail
    refine (sParts_any _ _ ns ls _ HN.out HL.out HW.out).mono ?_
    rintro e w2 ⟨v, rfl, ho, hb⟩
    have P := hid (ho.at_ (by rw [fnL_len]; omega))
    clear ho
    have B0 := hid (B0.out.below hb)
    have S0 := hid (then_ S0.out hb S0.out.size)
    have HN := hid (HN.out.below hb)
    have HL := hid (HL.out.below hb)
    clear v0 v1
    have v0 := B0.out.c0
    have v1 := B0.out.c1
    have vlt := B0.out.lt
    clear hb
    obtain ⟨A9, c9, hv9, _, hcell⟩ := P.out
    rw [fnL_len] at hv9
    subst hv9
    have HC := hid hcell
    clear hcell hz
    go_wp2_with fail
    go_loop [4] (fun i => ∃ k : Nat, k ≤ ns.length ∧ i = .int .i64 k ∧ Hid (allB k (fun i => lb (nl ls) i == 0) = true)) (fun i => ns.length - (intOf i).toNat)
    case atStart => exact ⟨0, Nat.zero_le _, rfl, hid rfl⟩
    case round =>
      obtain ⟨k, hk, rfl, hall⟩ := hrel
      by_cases hlt : k < ns.length
      · obtain ⟨b, off, rfl, hbb, h1⟩ := HC.out k _ (fnL_get _ _ _ hlt)
        have hk0 : (0 : Int) ≤ (k : Int) := by omega
        have hk1 : (k : Int) < (ns.length : Int) := by omega
        by_cases hz : lb (nl ls) k = 0
        · have A2 := hid (show allB (k + 1) (fun i => lb (nl ls) i == 0) = true by rw [allB_succ, hall.out, hz]; rfl)
          rw [hz] at h1
          clear hz
          go_wp2
          go_round
          case rel => exact ⟨k + 1, by omega, by go_num, A2⟩
          case measure => simp [intOf]; omega
        · have A2 := hid (show allB ns.length (fun i => lb (nl ls) i == 0) = false from allB_no hlt (by simpa using hz))
          obtain ⟨x, hx⟩ : ∃ x, x = lb (nl ls) k := ⟨_, rfl⟩
          rw [← hx] at h1 hz
          clear hx
          have hz2 : ((x : Int) != 0) = true := by simp; omega
          clear hz
          go_wp2
          go_ret
          exact ⟨ret_bool (by rw [E.out, A2.out]), S0.out⟩
      · have he : k = ns.length := by omega
        subst he
        go_wp2
        go_ret
        exact ⟨ret_bool (by rw [E.out, hall.out]), S0.out⟩
end Go.Proofs.Ytdhppajfdcfikaa
