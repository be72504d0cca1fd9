/- OuterFace, AreaOf, TotalArea, FaceAt, in the program and in the reference. No condition. -/
import Derived.Test.YtdhppajfdcfikaaFaces
namespace Go.Proofs.Ytdhppajfdcfikaa
open Go.ChangeShapes Go.WideShapes Go.ChangeAt Go.RowKit
set_option maxHeartbeats 4000000
set_option linter.unusedSimpArgs false
set_option linter.unusedVariables false
/-- the value is a slice of slices of ints -/
def SSAt (w : World) (v : Value) (fs : List (List Int)) : Prop := ∃ A c, v = .slice A fs.length c ∧ fs.length ≤ 1000 ∧ ∀ (i : Nat) (l : List Int), fs[i]? = some l → ∃ b off u, A = some ⟨b, off, none⟩ ∧ b < w.heap.size ∧ w.cell? ⟨b, off + i, none⟩ = some u ∧ IntsAt w u l
theorem SSAt.below {w w' : World} {v : Value} {fs : List (List Int)} (h : SSAt w v fs) (hb : Below w.heap.size w w') : SSAt w' v fs := by
  obtain ⟨A, c, h1, h2, h3⟩ := h
  refine ⟨A, c, h1, h2, fun i l hi => ?_⟩
  obtain ⟨b, off, u, e1, e2, e3, e4⟩ := h3 i l hi
  exact ⟨b, off, u, e1, Nat.lt_of_lt_of_le e2 hb.size, by rw [hb.cell (p := ⟨b, _, none⟩) e2]; exact e3, e4.below hb⟩
theorem OwnSS.at_ {B : Nat} {w : World} {v : Value} {fs : List (List Int)} (h : OwnSS B w v fs) (hn : fs.length ≤ 1000) (hl : ∀ (i : Nat) (l : List Int), fs[i]? = some l → l.length ≤ 1000) : SSAt w v fs := by
  obtain ⟨us, h1, h2⟩ := h
  obtain ⟨A, c, hv⟩ := row_form h1
  refine ⟨A, c, by rw [hv, h2.len], hn, fun i l hi => ?_⟩
  have hil : i < us.length := by
    rw [h2.len]
    rcases Nat.lt_or_ge i fs.length with h' | h'
    · exact h'
    · rw [List.getElem?_eq_none h'] at hi; cases hi
  rcases h1.2 with ⟨a, b⟩ | ⟨g, cap, cur, a, _, h3, _⟩
  · omega
  · rw [hv] at a
    have hA : A = some ⟨g, 0, none⟩ := by injection a
    subst hA
    have hc : cap = c := by injection a with _ _ a; exact a.symm
    subst hc
    rw [hv] at h1
    refine ⟨g, 0, us[i], rfl, (h1.lt g rfl).2, ?_, (h2.at_ i _ l (List.getElem?_eq_getElem hil) hi).at_ (by have := hl i l hi; omega)⟩
    rw [Nat.zero_add, World.ownsRow.cellAt h1 i (by omega)]
    exact List.getElem?_eq_getElem hil
theorem faces_darts {ns ls : List (Int × Int)} (hok : winOkB ns ls = true) {n : Nat} (hn : n ≤ 2 * ls.length) {l : List Int} (h : l ∈ fcI ns ls n) : Darts ls l := by
  obtain ⟨m, hm, rfl⟩ := List.mem_map.1 h
  obtain ⟨d, hd, rfl⟩ := fc_wk _ _ n m hm
  exact walkI_darts (win_facts hok) (show d < 2 * ls.length by omega)
theorem faces_ok {ns ls : List (Int × Int)} (h : 0 < (facesF ns ls).length) : winOkB ns ls = true := by
  unfold facesF at h
  split at h
  · rename_i hw
    unfold wholeB at hw; simp only [Bool.and_eq_true] at hw; exact hw.1
  · simp at h
theorem faces_at {ns ls : List (Int × Int)} {i : Nat} {l : List Int} (h : (facesF ns ls)[i]? = some l) : winOkB ns ls = true ∧ Darts ls l := by
  have hi : i < (facesF ns ls).length := by
    rcases Nat.lt_or_ge i (facesF ns ls).length with h' | h'
    · exact h'
    · rw [List.getElem?_eq_none h'] at h; cases h
  have hok := faces_ok (ns := ns) (ls := ls) (by omega)
  refine ⟨hok, ?_⟩
  have hm := List.mem_of_getElem? h
  unfold facesF at hm
  split at hm
  · exact faces_darts hok (Nat.le_refl _) hm
  · cases hm
theorem faces_len (ns ls : List (Int × Int)) : (facesF ns ls).length ≤ 40 := by
  by_cases h : 0 < (facesF ns ls).length
  · have hok := faces_ok h
    have := (win_facts hok).m2
    unfold facesF
    split
    · exact Nat.le_trans (fcI_len _ _ _) (by omega)
    · simp
  · omega
theorem faces_ss {B : Nat} {w : World} {v : Value} {ns ls : List (Int × Int)} (h : OwnSS B w v (facesF ns ls)) : SSAt w v (facesF ns ls) :=
  h.at_ (by have := faces_len ns ls; omega) (fun i l hi => by have := faces_at hi; have := this.2.1; have := (win_facts (faces_at hi).1).m2; omega)
/-- the first place of a face that p takes, from place i on -/
def firstF (p : List Int → Bool) : List (List Int) → Int → Int
  | [], _ => -1
  | l :: t, i => if p l = true then i else firstF p t (i + 1)
theorem first_step (p : List Int → Bool) (fs : List (List Int)) (i : Nat) (l : List Int) (h : fs[i]? = some l) : firstF p (fs.drop i) (i : Int) = if p l = true then (i : Int) else firstF p (fs.drop (i + 1)) ((i + 1 : Nat) : Int) := by
  have hi : i < fs.length := by
    rcases Nat.lt_or_ge i fs.length with h' | h'
    · exact h'
    · rw [List.getElem?_eq_none h'] at h; cases h
  have e : fs[i] = l := by rw [List.getElem?_eq_getElem hi] at h; exact Option.some.inj h
  rw [List.drop_eq_getElem_cons hi, firstF, e]; rfl
theorem first_end (p : List Int → Bool) (fs : List (List Int)) (i : Int) : firstF p (fs.drop fs.length) i = -1 := by rw [List.drop_length]; rfl
def ofF (ns ls : List (Int × Int)) : Int := firstF (fun l => decide (areaL ns ls l ≤ 0)) (facesF ns ls) 0
def faF (ns ls : List (Int × Int)) (d : Int) : Int := firstF (fun l => decide (d ∈ l)) (facesF ns ls) 0
def absI (n : Int) : Int := if n < 0 then -n else n
def aoF (ns ls : List (Int × Int)) (f : Int) : Int := if inB f 0 (((facesF ns ls).length : Int) - 1) = true then absI (areaL ns ls ((facesF ns ls).getD f.toNat [])) else -1
def taF (ns ls : List (Int × Int)) : Int := aoF ns ls (ofF ns ls)
theorem size_any (n : Int) (w : World) (h : -1000000 ≤ n ∧ n ≤ 1000000) : Calls Try.prog 74 #[.int .i64 n] w fun e w' => e = .returned (.int .i64 (absI n)) ∧ w = w' := by
  obtain ⟨h1, h2⟩ := h
  go_enter Try.func74, Try.ntmps74
  go_wp2
  all_goals go_ret
  all_goals exact ⟨ret_int (by unfold absI; split <;> omega), rfl⟩
theorem area_small {ns ls : List (Int × Int)} {i : Nat} {l : List Int} (h : (facesF ns ls)[i]? = some l) : -1000000 ≤ areaL ns ls l ∧ areaL ns ls l ≤ 1000000 := by
  obtain ⟨hok, hd⟩ := faces_at h
  have F := win_facts hok
  have := F.area_bd hd l.length (Nat.le_refl _)
  rw [List.take_length] at this
  have := hd.1
  have := F.m2
  omega
theorem iOF_any (vn vl : Value) (ns ls : List (Int × Int)) (w : World) (hn : PairsAt w vn ns) (hl : PairsAt w vl ls) : Calls Try.prog 43 #[.agg #[vn, vl]] w fun e w' => e = .returned (.int .i64 (ofF ns ls)) ∧ Below w.heap.size w w' := by
  have s0 : Below w.heap.size w (w.alloc (.cells #[vn, vl] 31)) := (Below.refl _ _).alloc (Nat.le_refl _) _
  have HN := hid (hn.below s0)
  have HL := hid (hl.below s0)
  have B0 := hid (BoxV.new w vn vl 31 w.heap.size rfl)
  have S0 := hid s0
  clear s0
  obtain ⟨A, c, rfl, hcn, hm, _⟩ := id hn
  obtain ⟨A', c', rfl, hcl, hm', _⟩ := id hl
  unfold maxLen at hm hm'
  clear hn hl
  have v0 := B0.out.c0
  have v1 := B0.out.c1
  have WW : Hid (∀ wr, Below (w.heap.size + 1) (w.alloc (.cells #[.slice A ns.length c, .slice A' ls.length c'] 31)) wr → BoxV wr w.heap.size (.slice A ns.length c) (.slice A' ls.length c') ∧ PairsAt wr (.slice A ns.length c) ns ∧ PairsAt wr (.slice A' ls.length c') ls ∧ w.heap.size + 1 ≤ wr.heap.size) := hid (fun wr h => by
    have h' : Below (w.alloc (.cells #[.slice A ns.length c, .slice A' ls.length c'] 31)).heap.size (w.alloc (.cells #[.slice A ns.length c, .slice A' ls.length c'] 31)) wr := by simpa using h
    exact ⟨B0.out.below h', HN.out.below h', HL.out.below h', by have := h'.size; simpa using this⟩)
  have V0 : Hid (Below (w.heap.size + 1) (w.alloc (.cells #[.slice A ns.length c, .slice A' ls.length c'] 31)) (w.alloc (.cells #[.slice A ns.length c, .slice A' ls.length c'] 31))) := hid (Below.refl _ _)
  have FA := hid (fun i l h => faces_at (ns := ns) (ls := ls) (i := i) (l := l) h)
  have FSM := hid (fun i l h => area_small (ns := ns) (ls := ls) (i := i) (l := l) h)
  have OF := hid (show ofF ns ls = firstF (fun l => decide (areaL ns ls l ≤ 0)) ((facesF ns ls).drop 0) ((0 : Nat) : Int) from rfl)
  go_enter Try.func43, Try.ntmps43
  go_wp2_with fail
  refine (iFaces_any _ _ ns ls _ HN.out HL.out).mono ?_
  rintro e w1 ⟨v, rfl, ho, hb⟩
  have SS := hid (faces_ss ho)
  have V1 := hid (V0.out.trans (hb.mono (by simp)))
  obtain ⟨A9, c9, hv9, hm9, _⟩ := id SS.out
  subst hv9
  clear ho hb v0 v1 V0
  obtain ⟨bx, pn, px, z1⟩ := WW.out _ V1.out
  have v0 := bx.c0
  have v1 := bx.c1
  have vlt := bx.lt
  clear bx pn px z1
  generalize facesF ns ls = fs at SS FA FSM OF hm9 ⊢
  go_wp2_with fail
  go_loopw [8] (fun j wr => ∃ i : Nat, i ≤ fs.length ∧ j = .int .i64 i ∧ Hid (ofF ns ls = firstF (fun l => decide (areaL ns ls l ≤ 0)) (fs.drop i) (i : Int)) ∧ Hid (Below w1.heap.size w1 wr)) (fun j _ => fs.length - (intOf j).toNat)
  case atStart => exact ⟨0, Nat.zero_le _, rfl, OF, hid (Below.refl _ _)⟩
  case round =>
    obtain ⟨i, hi, rfl, OI, HB⟩ := hrel
    clear v0 v1 vlt
    have z1 : w.heap.size + 1 ≤ w1.heap.size := (WW.out _ V1.out).2.2.2
    have VR := hid (V1.out.trans (HB.out.mono z1))
    obtain ⟨bx, pn, px, z2⟩ := WW.out _ VR.out
    have v0 := bx.c0
    have v1 := bx.c1
    have vlt := bx.lt
    have BX := hid bx
    have PN := hid pn
    have PL := hid px
    have S2 := hid (SS.out.below HB.out)
    clear bx pn px
    by_cases hlt : i < fs.length
    · have hi0 : (0 : Int) ≤ (i : Int) := by omega
      have hi1 : (i : Int) < (fs.length : Int) := by omega
      obtain ⟨l, hx⟩ : ∃ l, fs[i]? = some l := ⟨_, List.getElem?_eq_getElem hlt⟩
      obtain ⟨hok, hdar⟩ := FA.out i l hx
      have ST := hid (first_step (fun l => decide (areaL ns ls l ≤ 0)) fs i l hx)
      obtain ⟨A8, c8, hv8, _, hc8⟩ := S2.out
      obtain ⟨b, off, u, hA, hbb, hcell, hI⟩ := hc8 i l hx
      have hAA : A9 = A8 := by injection hv8
      rw [← hAA] at hA
      subst hA
      obtain ⟨Au, cu, hu, hul, _⟩ := id hI
      subst hu
      have HDAR := hid hdar
      have HOK := hid hok
      have HI := hid hI
      clear hv8 hc8 hAA hI hdar hok hx
      cases hq : decide (areaL ns ls l ≤ 0)
      all_goals
        have HQ := hid hq
        have hq2 := hq
        simp only [decide_eq_true_iff, decide_eq_false_iff_not] at hq2
        clear hq
        go_wp2_with fail
        refine (iArea_any _ _ ns ls _ l _ PN.out PL.out HOK.out HI.out HDAR.out).mono ?_
        rintro e w3 ⟨rfl, hb3⟩
        have HB3 := hid (then_ HB.out hb3 HB.out.size)
        clear hb3
      · go_wp2
        go_roundw
        case rel => exact ⟨i + 1, by omega, by go_num, hid (by rw [OI.out, ST.out, if_neg (by rw [HQ.out]; simp)]), HB3⟩
        case measure => simp [intOf]; omega
      · go_wp2
        go_ret
        exact ⟨ret_int (by rw [OI.out, ST.out, if_pos HQ.out]), then_ S0.out (by have := V1.out.trans (HB3.out.mono z1); simpa using this) S0.out.size⟩
    · have he : i = fs.length := by omega
      subst he
      go_wp2
      go_ret
      exact ⟨ret_int (by rw [OI.out, first_end]), then_ S0.out (by have := VR.out; simpa using this) S0.out.size⟩
theorem sOF_any (vn vl : Value) (ns ls : List (Int × Int)) (w : World) (hn : PairsAt w vn ns) (hl : PairsAt w vl ls) : Calls Try.prog 42 #[.agg #[vn, vl]] w fun e w' => e = .returned (.int .i64 (ofF ns ls)) ∧ Below w.heap.size w w' := by
  have s0 : Below w.heap.size w (w.alloc (.cells #[vn, vl] 31)) := (Below.refl _ _).alloc (Nat.le_refl _) _
  have HN := hid (hn.below s0)
  have HL := hid (hl.below s0)
  have B0 := hid (BoxV.new w vn vl 31 w.heap.size rfl)
  have S0 := hid s0
  clear s0
  obtain ⟨A, c, rfl, hcn, hm, _⟩ := id hn
  obtain ⟨A', c', rfl, hcl, hm', _⟩ := id hl
  unfold maxLen at hm hm'
  clear hn hl
  have v0 := B0.out.c0
  have v1 := B0.out.c1
  have WW : Hid (∀ wr, Below (w.heap.size + 1) (w.alloc (.cells #[.slice A ns.length c, .slice A' ls.length c'] 31)) wr → BoxV wr w.heap.size (.slice A ns.length c) (.slice A' ls.length c') ∧ PairsAt wr (.slice A ns.length c) ns ∧ PairsAt wr (.slice A' ls.length c') ls ∧ w.heap.size + 1 ≤ wr.heap.size) := hid (fun wr h => by
    have h' : Below (w.alloc (.cells #[.slice A ns.length c, .slice A' ls.length c'] 31)).heap.size (w.alloc (.cells #[.slice A ns.length c, .slice A' ls.length c'] 31)) wr := by simpa using h
    exact ⟨B0.out.below h', HN.out.below h', HL.out.below h', by have := h'.size; simpa using this⟩)
  have V0 : Hid (Below (w.heap.size + 1) (w.alloc (.cells #[.slice A ns.length c, .slice A' ls.length c'] 31)) (w.alloc (.cells #[.slice A ns.length c, .slice A' ls.length c'] 31))) := hid (Below.refl _ _)
  have FA := hid (fun i l h => faces_at (ns := ns) (ls := ls) (i := i) (l := l) h)
  have FSM := hid (fun i l h => area_small (ns := ns) (ls := ls) (i := i) (l := l) h)
  have OF := hid (show ofF ns ls = firstF (fun l => decide (areaL ns ls l ≤ 0)) ((facesF ns ls).drop 0) ((0 : Nat) : Int) from rfl)
  go_enter Try.func42, Try.ntmps42
  go_wp2_with fail
  refine (sFaces_any _ _ ns ls _ HN.out HL.out).mono ?_
  rintro e w1 ⟨v, rfl, ho, hb⟩
  have SS := hid (faces_ss ho)
  have V1 := hid (V0.out.trans (hb.mono (by simp)))
  obtain ⟨A9, c9, hv9, hm9, _⟩ := id SS.out
  subst hv9
  clear ho hb v0 v1 V0
  obtain ⟨bx, pn, px, z1⟩ := WW.out _ V1.out
  have v0 := bx.c0
  have v1 := bx.c1
  have vlt := bx.lt
  clear bx pn px z1
  generalize facesF ns ls = fs at SS FA FSM OF hm9 ⊢
  go_wp2_with fail
  go_loopw [4] (fun j wr => ∃ i : Nat, i ≤ fs.length ∧ j = .int .i64 i ∧ Hid (ofF ns ls = firstF (fun l => decide (areaL ns ls l ≤ 0)) (fs.drop i) (i : Int)) ∧ Hid (Below w1.heap.size w1 wr)) (fun j _ => fs.length - (intOf j).toNat)
  case atStart => exact ⟨0, Nat.zero_le _, rfl, OF, hid (Below.refl _ _)⟩
  case round =>
    obtain ⟨i, hi, rfl, OI, HB⟩ := hrel
    clear v0 v1 vlt
    have z1 : w.heap.size + 1 ≤ w1.heap.size := (WW.out _ V1.out).2.2.2
    have VR := hid (V1.out.trans (HB.out.mono z1))
    obtain ⟨bx, pn, px, z2⟩ := WW.out _ VR.out
    have v0 := bx.c0
    have v1 := bx.c1
    have vlt := bx.lt
    have BX := hid bx
    have PN := hid pn
    have PL := hid px
    have S2 := hid (SS.out.below HB.out)
    clear bx pn px
    by_cases hlt : i < fs.length
    · have hi0 : (0 : Int) ≤ (i : Int) := by omega
      have hi1 : (i : Int) < (fs.length : Int) := by omega
      obtain ⟨l, hx⟩ : ∃ l, fs[i]? = some l := ⟨_, List.getElem?_eq_getElem hlt⟩
      obtain ⟨hok, hdar⟩ := FA.out i l hx
      have ST := hid (first_step (fun l => decide (areaL ns ls l ≤ 0)) fs i l hx)
      obtain ⟨A8, c8, hv8, _, hc8⟩ := S2.out
      obtain ⟨b, off, u, hA, hbb, hcell, hI⟩ := hc8 i l hx
      have hAA : A9 = A8 := by injection hv8
      rw [← hAA] at hA
      subst hA
      obtain ⟨Au, cu, hu, hul, _⟩ := id hI
      subst hu
      have HDAR := hid hdar
      have HOK := hid hok
      have HI := hid hI
      clear hv8 hc8 hAA hI hdar hok hx
      cases hq : decide (areaL ns ls l ≤ 0)
      all_goals
        have HQ := hid hq
        have hq2 := hq
        simp only [decide_eq_true_iff, decide_eq_false_iff_not] at hq2
        clear hq
        have CE := hid (fun q => sArea_any _ _ ns ls _ l (mv wr q) (PN.out.below (below_mv wr q)) (PL.out.below (below_mv wr q)) HOK.out (HI.out.below (below_mv wr q)) HDAR.out)
        have n0 := fun q => (BX.out.mv q).c0
        have n1 := fun q => (BX.out.mv q).c1
        have n2 : ∀ q, (mv wr q).cell? ⟨b, off + i, none⟩ = some (.slice Au l.length cu) := fun q => ((below_mv wr q).cell (p := ⟨b, _, none⟩) hbb).trans hcell
        go_wp2_with fail
        refine wp_region_mv (by kernel_rfl) (by kernel_rfl) ?_
        repeat (go_big_quiet_step ((go_at_call 59; exact calls_mv (CE.out _))))
        refine wpQuiet_nil ?_
        intro _ hw'
        obtain ⟨q, hw''⟩ := hw'
        subst hw''
        have HB3 := hid (then_ HB.out (below_mv wr q) HB.out.size)
        clear n0 n1 n2 CE
      · go_wp2
        go_roundw
        case rel => exact ⟨i + 1, by omega, by go_num, hid (by rw [OI.out, ST.out, if_neg (by rw [HQ.out]; simp)]), HB3⟩
        case measure => simp [intOf]; omega
      · go_wp2
        go_ret
        exact ⟨ret_int (by rw [OI.out, ST.out, if_pos HQ.out]), then_ S0.out (by have := V1.out.trans (HB3.out.mono z1); simpa using this) S0.out.size⟩
    · have he : i = fs.length := by omega
      subst he
      go_wp2
      go_ret
      exact ⟨ret_int (by rw [OI.out, first_end]), then_ S0.out (by have := VR.out; simpa using this) S0.out.size⟩
theorem iAO_any (vn vl : Value) (ns ls : List (Int × Int)) (d : Int) (w : World) (hn : PairsAt w vn ns) (hl : PairsAt w vl ls) : Calls Try.prog 47 #[.agg #[vn, vl], .int .i64 d] w fun e w' => e = .returned (.int .i64 (aoF ns ls d)) ∧ Below w.heap.size w w' := by
  have s0 : Below w.heap.size w (w.alloc (.cells #[vn, vl] 31)) := (Below.refl _ _).alloc (Nat.le_refl _) _
  have HN := hid (hn.below s0)
  have HL := hid (hl.below s0)
  have B0 := hid (BoxV.new w vn vl 31 w.heap.size rfl)
  have S0 := hid s0
  clear s0
  obtain ⟨A, c, rfl, hcn, hm, _⟩ := id hn
  obtain ⟨A', c', rfl, hcl, hm', _⟩ := id hl
  unfold maxLen at hm hm'
  clear hn hl
  have v0 := B0.out.c0
  have v1 := B0.out.c1
  have WW : Hid (∀ wr, Below (w.heap.size + 1) (w.alloc (.cells #[.slice A ns.length c, .slice A' ls.length c'] 31)) wr → BoxV wr w.heap.size (.slice A ns.length c) (.slice A' ls.length c') ∧ PairsAt wr (.slice A ns.length c) ns ∧ PairsAt wr (.slice A' ls.length c') ls ∧ w.heap.size + 1 ≤ wr.heap.size) := hid (fun wr h => by
    have h' : Below (w.alloc (.cells #[.slice A ns.length c, .slice A' ls.length c'] 31)).heap.size (w.alloc (.cells #[.slice A ns.length c, .slice A' ls.length c'] 31)) wr := by simpa using h
    exact ⟨B0.out.below h', HN.out.below h', HL.out.below h', by have := h'.size; simpa using this⟩)
  have V0 : Hid (Below (w.heap.size + 1) (w.alloc (.cells #[.slice A ns.length c, .slice A' ls.length c'] 31)) (w.alloc (.cells #[.slice A ns.length c, .slice A' ls.length c'] 31))) := hid (Below.refl _ _)
  have FA := hid (fun i l h => faces_at (ns := ns) (ls := ls) (i := i) (l := l) h)
  have FSM := hid (fun i l h => area_small (ns := ns) (ls := ls) (i := i) (l := l) h)
  cases hin : inB d 0 (((facesF ns ls).length : Int) - 1)
  · have E := hid (show aoF ns ls d = -1 by unfold aoF; rw [hin]; rfl)
    have HIN := hid hin
    clear hin
    go_enter Try.func47, Try.ntmps47
    go_wp2_with fail
    refine (iFaces_any _ _ ns ls _ HN.out HL.out).mono ?_
    rintro e w1 ⟨v, rfl, ho, hb⟩
    have SS := hid (faces_ss ho)
    have V1 := hid (V0.out.trans (hb.mono (by simp)))
    obtain ⟨A9, c9, hv9, hm9, _⟩ := id SS.out
    subst hv9
    clear ho hb v0 v1 V0
    obtain ⟨bx, pn, px, z1⟩ := WW.out _ V1.out
    have v0 := bx.c0
    have v1 := bx.c1
    have vlt := bx.lt
    clear bx pn px z1
    generalize facesF ns ls = fs at SS FA FSM HIN E hm9 ⊢
    go_wp2_with (go_at_call 72; refine (within_any _ _ _ _).mono ?_; rintro e w2 ⟨rfl, rfl⟩; rw [HIN.out])
    go_ret
    exact ⟨ret_int (by rw [E.out]), then_ S0.out (by have := V1.out; simpa using this) S0.out.size⟩
  · have hk : ∃ k : Nat, d = (k : Int) ∧ k < (facesF ns ls).length := by
      simp only [inB, Bool.and_eq_true, decide_eq_true_iff] at hin
      exact ⟨d.toNat, by omega, by omega⟩
    obtain ⟨k, rfl, hkl⟩ := hk
    obtain ⟨l, hx⟩ : ∃ l, (facesF ns ls)[k]? = some l := ⟨_, List.getElem?_eq_getElem hkl⟩
    have E := hid (show aoF ns ls (k : Int) = absI (areaL ns ls l) by
      unfold aoF; rw [hin, if_pos rfl, Int.toNat_natCast, List.getD_eq_getElem?_getD, hx]; rfl)
    obtain ⟨hok, hdar⟩ := FA.out k l hx
    have hsm := FSM.out k l hx
    have HOK := hid hok
    have HDAR := hid hdar
    have HX := hid hx
    have HIN := hid hin
    have hk0 : (0 : Int) ≤ (k : Int) := by omega
    clear hin hok hdar hx
    go_enter Try.func47, Try.ntmps47
    go_wp2_with fail
    refine (iFaces_any _ _ ns ls _ HN.out HL.out).mono ?_
    rintro e w1 ⟨v, rfl, ho, hb⟩
    have SS := hid (faces_ss ho)
    have V1 := hid (V0.out.trans (hb.mono (by simp)))
    obtain ⟨A9, c9, hv9, hm9, _⟩ := id SS.out
    subst hv9
    clear ho hb v0 v1 V0
    obtain ⟨bx, pn, px, z1⟩ := WW.out _ V1.out
    have v0 := bx.c0
    have v1 := bx.c1
    have vlt := bx.lt
    clear bx pn px z1
    generalize facesF ns ls = fs at SS FA FSM HIN HX hm9 hkl ⊢
    have hk1 : (k : Int) < (fs.length : Int) := by omega
    go_wp2_with (first | (go_at_call 72; refine (within_any _ _ _ _).mono ?_; rintro e w2 ⟨rfl, rfl⟩; rw [HIN.out]) | fail)
    obtain ⟨A8, c8, hv8, _, hc8⟩ := SS.out
    obtain ⟨b, off, u, hA, hbb, hcell, hI⟩ := hc8 k l HX.out
    have hAA : A9 = A8 := by injection hv8
    rw [← hAA] at hA
    subst hA
    obtain ⟨Au, cu, hu, hul, _⟩ := id hI
    subst hu
    have HI := hid hI
    obtain ⟨bx, pn, px, z1⟩ := WW.out _ V1.out
    have BX := hid bx
    have PN := hid pn
    have PL := hid px
    have CE := hid (fun q => iArea_any _ _ ns ls _ l (mv w1 q) (PN.out.below (below_mv w1 q)) (PL.out.below (below_mv w1 q)) HOK.out (HI.out.below (below_mv w1 q)) HDAR.out)
    have CS := hid (fun W => size_any (areaL ns ls l) W hsm)
    have n0 := fun q => (BX.out.mv q).c0
    have n1 := fun q => (BX.out.mv q).c1
    have n2 : ∀ q, (mv w1 q).cell? ⟨b, off + k, none⟩ = some (.slice Au l.length cu) := fun q => ((below_mv w1 q).cell (p := ⟨b, _, none⟩) hbb).trans hcell
    clear bx pn px hv8 hc8 hAA hI
    try go_wp2_with fail
    refine wp_region_mv (by kernel_rfl) (by kernel_rfl) ?_
    repeat (go_big_quiet_step (first | (go_at_call 60; exact calls_mv (CE.out _)) | (go_at_call 74; exact calls_mv_same (CS.out _))))
    refine wpQuiet_nil ?_
    intro _ hw'
    obtain ⟨q, hw''⟩ := hw'
    subst hw''
    have HB3 := hid (V1.out.trans ((below_mv w1 q).mono z1))
    clear n0 n1 n2 CE
    go_wp2
    go_ret
    exact ⟨ret_int (by rw [E.out]), then_ S0.out (by have := HB3.out; simpa using this) S0.out.size⟩
theorem sAO_any (vn vl : Value) (ns ls : List (Int × Int)) (d : Int) (w : World) (hn : PairsAt w vn ns) (hl : PairsAt w vl ls) : Calls Try.prog 46 #[.agg #[vn, vl], .int .i64 d] w fun e w' => e = .returned (.int .i64 (aoF ns ls d)) ∧ Below w.heap.size w w' := by
  have s0 : Below w.heap.size w (w.alloc (.cells #[vn, vl] 31)) := (Below.refl _ _).alloc (Nat.le_refl _) _
  have HN := hid (hn.below s0)
  have HL := hid (hl.below s0)
  have B0 := hid (BoxV.new w vn vl 31 w.heap.size rfl)
  have S0 := hid s0
  clear s0
  obtain ⟨A, c, rfl, hcn, hm, _⟩ := id hn
  obtain ⟨A', c', rfl, hcl, hm', _⟩ := id hl
  unfold maxLen at hm hm'
  clear hn hl
  have v0 := B0.out.c0
  have v1 := B0.out.c1
  have WW : Hid (∀ wr, Below (w.heap.size + 1) (w.alloc (.cells #[.slice A ns.length c, .slice A' ls.length c'] 31)) wr → BoxV wr w.heap.size (.slice A ns.length c) (.slice A' ls.length c') ∧ PairsAt wr (.slice A ns.length c) ns ∧ PairsAt wr (.slice A' ls.length c') ls ∧ w.heap.size + 1 ≤ wr.heap.size) := hid (fun wr h => by
    have h' : Below (w.alloc (.cells #[.slice A ns.length c, .slice A' ls.length c'] 31)).heap.size (w.alloc (.cells #[.slice A ns.length c, .slice A' ls.length c'] 31)) wr := by simpa using h
    exact ⟨B0.out.below h', HN.out.below h', HL.out.below h', by have := h'.size; simpa using this⟩)
  have V0 : Hid (Below (w.heap.size + 1) (w.alloc (.cells #[.slice A ns.length c, .slice A' ls.length c'] 31)) (w.alloc (.cells #[.slice A ns.length c, .slice A' ls.length c'] 31))) := hid (Below.refl _ _)
  have FA := hid (fun i l h => faces_at (ns := ns) (ls := ls) (i := i) (l := l) h)
  have FSM := hid (fun i l h => area_small (ns := ns) (ls := ls) (i := i) (l := l) h)
  cases hin : inB d 0 (((facesF ns ls).length : Int) - 1)
  · have E := hid (show aoF ns ls d = -1 by unfold aoF; rw [hin]; rfl)
    have HIN := hid hin
    clear hin
    go_enter Try.func46, Try.ntmps46
    go_wp2_with fail
    refine (sFaces_any _ _ ns ls _ HN.out HL.out).mono ?_
    rintro e w1 ⟨v, rfl, ho, hb⟩
    have SS := hid (faces_ss ho)
    have V1 := hid (V0.out.trans (hb.mono (by simp)))
    obtain ⟨A9, c9, hv9, hm9, _⟩ := id SS.out
    subst hv9
    clear ho hb v0 v1 V0
    obtain ⟨bx, pn, px, z1⟩ := WW.out _ V1.out
    have v0 := bx.c0
    have v1 := bx.c1
    have vlt := bx.lt
    clear bx pn px z1
    generalize facesF ns ls = fs at SS FA FSM HIN E hm9 ⊢
    go_wp2_with (go_at_call 73; refine (l01In_any _ _ _ _).mono ?_; rintro e w2 ⟨rfl, rfl⟩; rw [HIN.out])
    go_ret
    exact ⟨ret_int (by rw [E.out]), then_ S0.out (by have := V1.out; simpa using this) S0.out.size⟩
  · have hk : ∃ k : Nat, d = (k : Int) ∧ k < (facesF ns ls).length := by
      simp only [inB, Bool.and_eq_true, decide_eq_true_iff] at hin
      exact ⟨d.toNat, by omega, by omega⟩
    obtain ⟨k, rfl, hkl⟩ := hk
    obtain ⟨l, hx⟩ : ∃ l, (facesF ns ls)[k]? = some l := ⟨_, List.getElem?_eq_getElem hkl⟩
    have E := hid (show aoF ns ls (k : Int) = absI (areaL ns ls l) by
      unfold aoF; rw [hin, if_pos rfl, Int.toNat_natCast, List.getD_eq_getElem?_getD, hx]; rfl)
    obtain ⟨hok, hdar⟩ := FA.out k l hx
    have hsm := FSM.out k l hx
    have HOK := hid hok
    have HDAR := hid hdar
    have HX := hid hx
    have HIN := hid hin
    have hk0 : (0 : Int) ≤ (k : Int) := by omega
    clear hin hok hdar hx
    go_enter Try.func46, Try.ntmps46
    go_wp2_with fail
    refine (sFaces_any _ _ ns ls _ HN.out HL.out).mono ?_
    rintro e w1 ⟨v, rfl, ho, hb⟩
    have SS := hid (faces_ss ho)
    have V1 := hid (V0.out.trans (hb.mono (by simp)))
    obtain ⟨A9, c9, hv9, hm9, _⟩ := id SS.out
    subst hv9
    clear ho hb v0 v1 V0
    obtain ⟨bx, pn, px, z1⟩ := WW.out _ V1.out
    have v0 := bx.c0
    have v1 := bx.c1
    have vlt := bx.lt
    clear bx pn px z1
    generalize facesF ns ls = fs at SS FA FSM HIN HX hm9 hkl ⊢
    have hk1 : (k : Int) < (fs.length : Int) := by omega
    go_wp2_with (first | (go_at_call 73; refine (l01In_any _ _ _ _).mono ?_; rintro e w2 ⟨rfl, rfl⟩; rw [HIN.out]) | fail)
    obtain ⟨A8, c8, hv8, _, hc8⟩ := SS.out
    obtain ⟨b, off, u, hA, hbb, hcell, hI⟩ := hc8 k l HX.out
    have hAA : A9 = A8 := by injection hv8
    rw [← hAA] at hA
    subst hA
    obtain ⟨Au, cu, hu, hul, _⟩ := id hI
    subst hu
    have HI := hid hI
    obtain ⟨bx, pn, px, z1⟩ := WW.out _ V1.out
    have BX := hid bx
    have PN := hid pn
    have PL := hid px
    have CE := hid (fun q => sArea_any _ _ ns ls _ l (mv w1 q) (PN.out.below (below_mv w1 q)) (PL.out.below (below_mv w1 q)) HOK.out (HI.out.below (below_mv w1 q)) HDAR.out)
    have CS := hid (fun W => size_any (areaL ns ls l) W hsm)
    have n0 := fun q => (BX.out.mv q).c0
    have n1 := fun q => (BX.out.mv q).c1
    have n2 : ∀ q, (mv w1 q).cell? ⟨b, off + k, none⟩ = some (.slice Au l.length cu) := fun q => ((below_mv w1 q).cell (p := ⟨b, _, none⟩) hbb).trans hcell
    clear bx pn px hv8 hc8 hAA hI
    try go_wp2_with fail
    refine wp_region_mv (by kernel_rfl) (by kernel_rfl) ?_
    repeat (go_big_quiet_step ((go_at_call 59; exact calls_mv (CE.out _))))
    refine wpQuiet_nil ?_
    intro _ hw'
    obtain ⟨q, hw''⟩ := hw'
    subst hw''
    have HB3 := hid (V1.out.trans ((below_mv w1 q).mono z1))
    clear n0 n1 n2 CE
    obtain ⟨s1, s2⟩ := hsm
    have EM := hid (show max (areaL ns ls l) (-areaL ns ls l) = absI (areaL ns ls l) by unfold absI; split <;> omega)
    generalize areaL ns ls l = n at s1 s2 E EM ⊢
    go_wp2
    go_ret
    exact ⟨ret_int (by rw [E.out, ← EM.out]), then_ S0.out (by have := HB3.out; simpa using this) S0.out.size⟩
theorem iTA_any (vn vl : Value) (ns ls : List (Int × Int)) (w : World) (hn : PairsAt w vn ns) (hl : PairsAt w vl ls) : Calls Try.prog 36 #[.agg #[vn, vl]] w fun e w' => e = .returned (.int .i64 (taF ns ls)) ∧ Below w.heap.size w w' := by
  have s0 : Below w.heap.size w (w.alloc (.cells #[vn, vl] 31)) := (Below.refl _ _).alloc (Nat.le_refl _) _
  have HN := hid (hn.below s0)
  have HL := hid (hl.below s0)
  have B0 := hid (BoxV.new w vn vl 31 w.heap.size rfl)
  have S0 := hid s0
  clear s0
  obtain ⟨A, c, rfl, hcn, hm, _⟩ := id hn
  obtain ⟨A', c', rfl, hcl, hm', _⟩ := id hl
  unfold maxLen at hm hm'
  clear hn hl
  have v0 := B0.out.c0
  have v1 := B0.out.c1
  have CE := hid (fun q => iOF_any _ _ ns ls (mv (w.alloc (.cells #[.slice A ns.length c, .slice A' ls.length c'] 31)) q) (HN.out.below (below_mv _ q)) (HL.out.below (below_mv _ q)))
  have CF := hid (fun q => iAO_any _ _ ns ls (ofF ns ls) (mv (w.alloc (.cells #[.slice A ns.length c, .slice A' ls.length c'] 31)) q) (HN.out.below (below_mv _ q)) (HL.out.below (below_mv _ q)))
  have n0 := fun q => (B0.out.mv q).c0
  have n1 := fun q => (B0.out.mv q).c1
  go_enter Try.func36, Try.ntmps36
  go_wp2_with fail
  refine wp_region_mv (by kernel_rfl) (by kernel_rfl) ?_
  repeat (go_big_quiet_step (first | (go_at_call 43; exact calls_mv (CE.out _)) | (go_at_call 47; exact calls_mv (CF.out _))))
  refine wpQuiet_nil ?_
  intro _ hw'
  obtain ⟨q, hw''⟩ := hw'
  subst hw''
  go_wp2
  go_ret
  exact ⟨rfl, then_ S0.out (below_mv _ q) S0.out.size⟩
theorem sTA_any (vn vl : Value) (ns ls : List (Int × Int)) (w : World) (hn : PairsAt w vn ns) (hl : PairsAt w vl ls) : Calls Try.prog 35 #[.agg #[vn, vl]] w fun e w' => e = .returned (.int .i64 (taF ns ls)) ∧ Below w.heap.size w w' := by
  have s0 : Below w.heap.size w (w.alloc (.cells #[vn, vl] 31)) := (Below.refl _ _).alloc (Nat.le_refl _) _
  have HN := hid (hn.below s0)
  have HL := hid (hl.below s0)
  have B0 := hid (BoxV.new w vn vl 31 w.heap.size rfl)
  have S0 := hid s0
  clear s0
  obtain ⟨A, c, rfl, hcn, hm, _⟩ := id hn
  obtain ⟨A', c', rfl, hcl, hm', _⟩ := id hl
  unfold maxLen at hm hm'
  clear hn hl
  have v0 := B0.out.c0
  have v1 := B0.out.c1
  have CE := hid (fun q => sOF_any _ _ ns ls (mv (w.alloc (.cells #[.slice A ns.length c, .slice A' ls.length c'] 31)) q) (HN.out.below (below_mv _ q)) (HL.out.below (below_mv _ q)))
  have CF := hid (fun q => sAO_any _ _ ns ls (ofF ns ls) (mv (w.alloc (.cells #[.slice A ns.length c, .slice A' ls.length c'] 31)) q) (HN.out.below (below_mv _ q)) (HL.out.below (below_mv _ q)))
  have n0 := fun q => (B0.out.mv q).c0
  have n1 := fun q => (B0.out.mv q).c1
  go_enter Try.func35, Try.ntmps35
  go_wp2_with fail
  refine wp_region_mv (by kernel_rfl) (by kernel_rfl) ?_
  repeat (go_big_quiet_step (first | (go_at_call 42; exact calls_mv (CE.out _)) | (go_at_call 46; exact calls_mv (CF.out _))))
  refine wpQuiet_nil ?_
  intro _ hw'
  obtain ⟨q, hw''⟩ := hw'
  subst hw''
  go_wp2
  go_ret
  exact ⟨rfl, then_ S0.out (below_mv _ q) S0.out.size⟩
end Go.Proofs.Ytdhppajfdcfikaa
