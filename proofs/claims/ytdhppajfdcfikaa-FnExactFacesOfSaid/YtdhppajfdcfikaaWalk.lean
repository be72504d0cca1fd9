/- The walk of a dart: WalkOf, WalkLength, in the program and in the reference. No condition. -/
import Derived.Test.YtdhppajfdcfikaaWalkP
namespace Go.Proofs.Ytdhppajfdcfikaa
open Go.ChangeShapes Go.WideShapes Go.ChangeAt Go.RowKit
set_option maxHeartbeats 2000000
set_option linter.unusedSimpArgs false
set_option linter.unusedVariables false
def slLen : Value → Nat
  | .slice _ n _ => n
  | _ => 0
def itI (ns ls : List (Int × Int)) (d i : Nat) : List Int := (List.range i).map fun n => ((it (nxN ns ls) n d : Nat) : Int)
theorem itI_len (ns ls : List (Int × Int)) (d i : Nat) : (itI ns ls d i).length = i := by simp [itI]
theorem itI_succ (ns ls : List (Int × Int)) (d i : Nat) : itI ns ls d (i + 1) = itI ns ls d i ++ [((it (nxN ns ls) i d : Nat) : Int)] := by simp [itI, List.range_succ]
theorem itI_one (ns ls : List (Int × Int)) (d : Nat) : itI ns ls d 1 = [(d : Int)] := rfl
theorem itI_all (ns ls : List (Int × Int)) (d : Nat) : itI ns ls d (per (nxN ns ls) (2 * ls.length) d) = walkI ns ls d := by simp [itI, walkI, wk]
theorem iWalk_any (vn vl : Value) (ns ls : List (Int × Int)) (d : Nat) (w : World) (hn : PairsAt w vn ns) (hl : PairsAt w vl ls) (hok : winOkB ns ls = true) (hd : d < 2 * ls.length) : Calls Try.prog 63 #[.agg #[vn, vl], .int .i64 (d : Int)] w (NewInts (walkI ns ls d) w) := by
  have s0 : Below w.heap.size w (w.alloc (.cells #[vn, vl] 31)) := (Below.refl _ _).alloc (Nat.le_refl _) _
  have HN := hid (hn.below s0)
  have HL := hid (hl.below s0)
  have B0 := hid (BoxV.new w vn vl 31 w.heap.size rfl)
  have S0 := hid s0
  clear s0
  obtain ⟨A, c, rfl, hcn, hm, _⟩ := id hn
  obtain ⟨A', c', rfl, hcl, hm', _⟩ := id hl
  unfold maxLen at hm hm'
  clear hn hl
  have v0 := B0.out.c0
  have v1 := B0.out.c1
  have WF := hid (win_facts hok)
  have hl20 := WF.out.m2
  have TU := hid (next_turns WF.out)
  obtain ⟨hp1, hpN, hpd, hpq⟩ := TU.out.per_law hd
  have PD := hid hpd
  have PQ := hid hpq
  have ITL := hid (TU.out.it_lt hd)
  have ALL := hid (itI_all ns ls d)
  clear hpd hpq
  have NX := hid (fun e (he : e < 2 * ls.length) => show nxF ns ls e = ((nxN ns ls e : Nat) : Int) by obtain ⟨x, h1, h2, _⟩ := next_is WF.out he; rw [h1, h2])
  have C := hid (fun e (he : e < 2 * ls.length) W h1 h2 => show Calls Try.prog 68 #[.agg #[.slice A ns.length c, .slice A' ls.length c'], .int .i64 ((twN e : Nat) : Int), .int .i64 (-1)] W fun r w' => r = .returned (.int .i64 ((nxN ns ls e : Nat) : Int)) ∧ Below W.heap.size W w' by
    have h := iBeside_any (.slice A ns.length c) (.slice A' ls.length c') ns ls (twN e) false W h1 h2 hok (twN_lt he)
    have e1 : besF ns ls ((twN e : Nat) : Int) false = ((nxN ns ls e : Nat) : Int) := NX.out e he
    rw [e1] at h; exact h)
  have XT := hid (fun e (he : e < 2 * ls.length) => xor_twN e (by omega))
  clear hok
  obtain ⟨i0, hinf, hz0, hz1, hz2⟩ := info_parts infoI
  have HINF := hid (And.intro hinf (And.intro hz0 (And.intro hz1 hz2)))
  clear hinf hz0 hz1 hz2
  have one0 : OwnInts (w.heap.size + 1) ((w.alloc (.cells #[.slice A ns.length c, .slice A' ls.length c'] 31)).alloc (.cells #[.int .i64 (d : Int)] 3)) (.slice (some ⟨w.heap.size + 1, 0, none⟩) 1 1) [(d : Int)] := by
    have := World.ownsRow_lit (w.alloc (.cells #[.slice A ns.length c, .slice A' ls.length c'] 31)) (base := w.heap.size + 1) (e := 3) (size := 1) #[.int .i64 (d : Int)] 1 (by simp) (by unfold maxLen; omega) (by simp)
    simpa [OwnInts, ints] using this
  have N0 := hid one0
  clear one0
  have V0 : Hid (Below (w.heap.size + 1) (w.alloc (.cells #[.slice A ns.length c, .slice A' ls.length c'] 31)) ((w.alloc (.cells #[.slice A ns.length c, .slice A' ls.length c'] 31)).alloc (.cells #[.int .i64 (d : Int)] 3))) := hid ((Below.refl _ _).alloc (by simp) _)
  have WW : Hid (∀ wr, Below (w.heap.size + 1) (w.alloc (.cells #[.slice A ns.length c, .slice A' ls.length c'] 31)) wr → BoxV wr w.heap.size (.slice A ns.length c) (.slice A' ls.length c') ∧ PairsAt wr (.slice A ns.length c) ns ∧ PairsAt wr (.slice A' ls.length c') ls ∧ w.heap.size + 1 ≤ wr.heap.size) := hid (fun wr h => by
    have h' : Below (w.alloc (.cells #[.slice A ns.length c, .slice A' ls.length c'] 31)).heap.size (w.alloc (.cells #[.slice A ns.length c, .slice A' ls.length c'] 31)) wr := by simpa using h
    exact ⟨B0.out.below h', HN.out.below h', HL.out.below h', by have := h'.size; simpa using this⟩)
  have hx := XT.out d hd
  go_enter Try.func63, Try.ntmps63
  go_wp2_with fail
  obtain ⟨_, pn, px, z1⟩ := WW.out _ V0.out
  refine (C.out d hd _ pn px).mono ?_
  rintro e w1 ⟨rfl, hb⟩
  have V1 := hid (V0.out.trans (hb.mono z1))
  have N1 := hid (own_below N0.out hb)
  clear V0 N0 hb pn px z1 v0 v1 hx
  obtain ⟨bx, pn, px, z1⟩ := WW.out _ V1.out
  have v0 := bx.c0
  have v1 := bx.c1
  have vlt := bx.lt
  clear bx pn px z1
  go_wp2_with fail
  go_loopw [5, 6] (fun v e wr => ∃ i : Nat, 1 ≤ i ∧ i ≤ per (nxN ns ls) (2 * ls.length) d ∧ e = .int .i64 ((it (nxN ns ls) i d : Nat) : Int) ∧ Hid (OwnInts (w.heap.size + 1) wr v (itI ns ls d i)) ∧ Hid (Below (w.heap.size + 1) (w.alloc (.cells #[.slice A ns.length c, .slice A' ls.length c'] 31)) wr)) (fun v _ _ => 2 * ls.length - slLen v)
  case atStart => exact ⟨1, Nat.le_refl _, hp1, rfl, by rw [itI_one]; exact N1, V1⟩
  case round =>
    obtain ⟨i, hi1, hip, rfl, HOW, HB⟩ := hrel
    obtain ⟨bx, pn, px, z1⟩ := WW.out _ HB.out
    clear v0 v1 vlt N1 V1
    have v0 := bx.c0
    have v1 := bx.c1
    have vlt := bx.lt
    clear bx
    have HI := hid (ITL.out i)
    by_cases hlt : i < per (nxN ns ls) (2 * ls.length) d
    · have hne : it (nxN ns ls) i d ≠ d := PQ.out i (by omega) hlt
      have IS := hid (itI_succ ns ls d i)
      have hq : (((it (nxN ns ls) i d : Nat) : Int) != (d : Int)) = true := by simp; omega
      have C3 := hid (show (itI ns ls d i).length + 1 ≤ maxLen by rw [itI_len]; unfold maxLen; omega)
      have C4 := hid (show ((itI ns ls d i).length + 1) * 8 ≤ 140737488355328 by rw [itI_len]; omega)
      have PN := hid pn
      have PL := hid px
      clear pn px hne
      have STEP := hid (show it (nxN ns ls) (i + 1) d = nxN ns ls (it (nxN ns ls) i d) from rfl)
      obtain ⟨e, he⟩ : ∃ e, e = it (nxN ns ls) i d := ⟨_, rfl⟩
      rw [← he] at hq HI IS STEP ⊢
      have CC := hid (fun W h1 h2 => C.out e HI.out W h1 h2)
      have hx := XT.out e HI.out
      clear he
      obtain ⟨A9, c9, hv9⟩ := own_form HOW.out
      rw [itI_len] at hv9
      subst hv9
      go_wp2_with (at_builtin; obtain ⟨hinf, hz0, hz1, hz2⟩ := HINF.out; refine wpList_append_own _ rfl _ _ 37 rfl (w.heap.size + 1) 3 i0 (.int .i64 0) 1 8 Try.underlying37 hinf hz0 hz1 hz2 rfl (by decide) _ _ _ rfl (HOW.out.alloc _) ⟨wr.heap.size, 0, none⟩ 1 1 [.int .i64 (e : Int)] rfl rfl (cell_one_new wr (.int .i64 (e : Int)) 3) (by simp [Value.oneCell']) C3.out C4.out (by simp; omega) ?_)
      intro v' w' hown' hgrow _
      have HB2 := hid ((HB.out.alloc z1 (.cells #[.int .i64 (e : Int)] 3)).grown hgrow (by simp; omega) (fun g hg => (HOW.out.lt g hg).1))
      have O9 : Hid (OwnInts (w.heap.size + 1) w' v' (itI ns ls d (i + 1))) := hid (by unfold OwnInts; rw [IS.out]; simpa [ints] using hown')
      clear hown' hgrow v0 v1 vlt HOW HB z1 PN PL
      obtain ⟨A8, c8, hv8⟩ := own_form O9.out
      rw [itI_len] at hv8
      subst hv8
      obtain ⟨bx, pn, px, z1⟩ := WW.out _ HB2.out
      have v0 := bx.c0
      have v1 := bx.c1
      have vlt := bx.lt
      have PN := hid pn
      have PL := hid px
      clear bx pn px
      go_wp2_with fail
      refine (CC.out _ PN.out PL.out).mono ?_
      rintro r w3 ⟨rfl, hb⟩
      have HB3 := hid (HB2.out.trans (hb.mono z1))
      have O3 := hid (own_below O9.out hb)
      clear hb
      go_wp2
      go_roundw
      case rel => exact ⟨i + 1, by omega, by omega, by rw [STEP.out], O3, HB3⟩
      case measure => simp [slLen]; omega
    · have he : i = per (nxN ns ls) (2 * ls.length) d := by omega
      have hq : (((it (nxN ns ls) i d : Nat) : Int) != (d : Int)) = false := by rw [he, PD.out]; simp
      have AL2 := hid (show itI ns ls d i = walkI ns ls d by rw [he]; exact ALL.out)
      obtain ⟨e, he2⟩ : ∃ e, e = it (nxN ns ls) i d := ⟨_, rfl⟩
      rw [← he2] at hq ⊢
      clear he he2 pn px
      obtain ⟨A9, c9, rfl⟩ := own_form HOW.out
      go_wp2
      go_ret
      exact ⟨_, rfl, by rw [← AL2.out]; exact own_less HOW.out (by omega), then_ S0.out (by have := HB.out; simpa using this) S0.out.size⟩
theorem sWalk_any (vn vl : Value) (ns ls : List (Int × Int)) (d : Nat) (w : World) (hn : PairsAt w vn ns) (hl : PairsAt w vl ls) (hok : winOkB ns ls = true) (hd : d < 2 * ls.length) : Calls Try.prog 62 #[.agg #[vn, vl], .int .i64 (d : Int)] w (NewInts (walkI ns ls d) w) := by
  have s0 : Below w.heap.size w (w.alloc (.cells #[vn, vl] 31)) := (Below.refl _ _).alloc (Nat.le_refl _) _
  have HN := hid (hn.below s0)
  have HL := hid (hl.below s0)
  have B0 := hid (BoxV.new w vn vl 31 w.heap.size rfl)
  have S0 := hid s0
  clear s0
  obtain ⟨A, c, rfl, hcn, hm, _⟩ := id hn
  obtain ⟨A', c', rfl, hcl, hm', _⟩ := id hl
  unfold maxLen at hm hm'
  clear hn hl
  have v0 := B0.out.c0
  have v1 := B0.out.c1
  have WF := hid (win_facts hok)
  have hl20 := WF.out.m2
  have TU := hid (next_turns WF.out)
  obtain ⟨hp1, hpN, hpd, hpq⟩ := TU.out.per_law hd
  have PD := hid hpd
  have PQ := hid hpq
  have ITL := hid (TU.out.it_lt hd)
  have ALL := hid (itI_all ns ls d)
  clear hpd hpq
  have NX := hid (fun e (he : e < 2 * ls.length) => show nxF ns ls e = ((nxN ns ls e : Nat) : Int) by obtain ⟨x, h1, h2, _⟩ := next_is WF.out he; rw [h1, h2])
  have C := hid (fun e (he : e < 2 * ls.length) W h1 h2 => show Calls Try.prog 84 #[.agg #[.slice A ns.length c, .slice A' ls.length c'], .int .i64 ((e : Nat) : Int)] W fun r w' => r = .returned (.int .i64 ((nxN ns ls e : Nat) : Int)) ∧ Below W.heap.size W w' by
    have h := l06Next_any (.slice A ns.length c) (.slice A' ls.length c') ns ls e W h1 h2 hok he
    rw [NX.out e he] at h; exact h)
  clear hok
  obtain ⟨i0, hinf, hz0, hz1, hz2⟩ := info_parts infoI
  have HINF := hid (And.intro hinf (And.intro hz0 (And.intro hz1 hz2)))
  clear hinf hz0 hz1 hz2
  have one0 : OwnInts (w.heap.size + 1) ((w.alloc (.cells #[.slice A ns.length c, .slice A' ls.length c'] 31)).alloc (.cells #[.int .i64 (d : Int)] 3)) (.slice (some ⟨w.heap.size + 1, 0, none⟩) 1 1) [(d : Int)] := by
    have := World.ownsRow_lit (w.alloc (.cells #[.slice A ns.length c, .slice A' ls.length c'] 31)) (base := w.heap.size + 1) (e := 3) (size := 1) #[.int .i64 (d : Int)] 1 (by simp) (by unfold maxLen; omega) (by simp)
    simpa [OwnInts, ints] using this
  have N0 := hid one0
  clear one0
  have V0 : Hid (Below (w.heap.size + 1) (w.alloc (.cells #[.slice A ns.length c, .slice A' ls.length c'] 31)) ((w.alloc (.cells #[.slice A ns.length c, .slice A' ls.length c'] 31)).alloc (.cells #[.int .i64 (d : Int)] 3))) := hid ((Below.refl _ _).alloc (by simp) _)
  have WW : Hid (∀ wr, Below (w.heap.size + 1) (w.alloc (.cells #[.slice A ns.length c, .slice A' ls.length c'] 31)) wr → BoxV wr w.heap.size (.slice A ns.length c) (.slice A' ls.length c') ∧ PairsAt wr (.slice A ns.length c) ns ∧ PairsAt wr (.slice A' ls.length c') ls ∧ w.heap.size + 1 ≤ wr.heap.size) := hid (fun wr h => by
    have h' : Below (w.alloc (.cells #[.slice A ns.length c, .slice A' ls.length c'] 31)).heap.size (w.alloc (.cells #[.slice A ns.length c, .slice A' ls.length c'] 31)) wr := by simpa using h
    exact ⟨B0.out.below h', HN.out.below h', HL.out.below h', by have := h'.size; simpa using this⟩)
  go_enter Try.func62, Try.ntmps62
  go_wp2_with fail
  obtain ⟨_, pn, px, z1⟩ := WW.out _ V0.out
  refine (C.out d hd _ pn px).mono ?_
  rintro e w1 ⟨rfl, hb⟩
  have V1 := hid (V0.out.trans (hb.mono z1))
  have N1 := hid (own_below N0.out hb)
  clear V0 N0 hb pn px z1 v0 v1
  obtain ⟨bx, pn, px, z1⟩ := WW.out _ V1.out
  have v0 := bx.c0
  have v1 := bx.c1
  have vlt := bx.lt
  clear bx pn px z1
  go_wp2_with fail
  go_loopw [5, 6] (fun v e wr => ∃ i : Nat, 1 ≤ i ∧ i ≤ per (nxN ns ls) (2 * ls.length) d ∧ e = .int .i64 ((it (nxN ns ls) i d : Nat) : Int) ∧ Hid (OwnInts (w.heap.size + 1) wr v (itI ns ls d i)) ∧ Hid (Below (w.heap.size + 1) (w.alloc (.cells #[.slice A ns.length c, .slice A' ls.length c'] 31)) wr)) (fun v _ _ => 2 * ls.length - slLen v)
  case atStart => exact ⟨1, Nat.le_refl _, hp1, rfl, by rw [itI_one]; exact N1, V1⟩
  case round =>
    obtain ⟨i, hi1, hip, rfl, HOW, HB⟩ := hrel
    obtain ⟨bx, pn, px, z1⟩ := WW.out _ HB.out
    clear v0 v1 vlt N1 V1
    have v0 := bx.c0
    have v1 := bx.c1
    have vlt := bx.lt
    clear bx
    have HI := hid (ITL.out i)
    by_cases hlt : i < per (nxN ns ls) (2 * ls.length) d
    · have hne : it (nxN ns ls) i d ≠ d := PQ.out i (by omega) hlt
      have IS := hid (itI_succ ns ls d i)
      have hq : (((it (nxN ns ls) i d : Nat) : Int) != (d : Int)) = true := by simp; omega
      have C3 := hid (show (itI ns ls d i).length + 1 ≤ maxLen by rw [itI_len]; unfold maxLen; omega)
      have C4 := hid (show ((itI ns ls d i).length + 1) * 8 ≤ 140737488355328 by rw [itI_len]; omega)
      have PN := hid pn
      have PL := hid px
      clear pn px hne
      have STEP := hid (show it (nxN ns ls) (i + 1) d = nxN ns ls (it (nxN ns ls) i d) from rfl)
      obtain ⟨e, he⟩ : ∃ e, e = it (nxN ns ls) i d := ⟨_, rfl⟩
      rw [← he] at hq HI IS STEP ⊢
      have CC := hid (fun W h1 h2 => C.out e HI.out W h1 h2)
      clear he
      obtain ⟨A9, c9, hv9⟩ := own_form HOW.out
      rw [itI_len] at hv9
      subst hv9
      go_wp2_with (at_builtin; obtain ⟨hinf, hz0, hz1, hz2⟩ := HINF.out; refine wpList_append_own _ rfl _ _ 37 rfl (w.heap.size + 1) 3 i0 (.int .i64 0) 1 8 Try.underlying37 hinf hz0 hz1 hz2 rfl (by decide) _ _ _ rfl (HOW.out.alloc _) ⟨wr.heap.size, 0, none⟩ 1 1 [.int .i64 (e : Int)] rfl rfl (cell_one_new wr (.int .i64 (e : Int)) 3) (by simp [Value.oneCell']) C3.out C4.out (by simp; omega) ?_)
      intro v' w' hown' hgrow _
      have HB2 := hid ((HB.out.alloc z1 (.cells #[.int .i64 (e : Int)] 3)).grown hgrow (by simp; omega) (fun g hg => (HOW.out.lt g hg).1))
      have O9 : Hid (OwnInts (w.heap.size + 1) w' v' (itI ns ls d (i + 1))) := hid (by unfold OwnInts; rw [IS.out]; simpa [ints] using hown')
      clear hown' hgrow v0 v1 vlt HOW HB z1 PN PL
      obtain ⟨A8, c8, hv8⟩ := own_form O9.out
      rw [itI_len] at hv8
      subst hv8
      obtain ⟨bx, pn, px, z1⟩ := WW.out _ HB2.out
      have v0 := bx.c0
      have v1 := bx.c1
      have vlt := bx.lt
      have PN := hid pn
      have PL := hid px
      clear bx pn px
      go_wp2_with fail
      refine (CC.out _ PN.out PL.out).mono ?_
      rintro r w3 ⟨rfl, hb⟩
      have HB3 := hid (HB2.out.trans (hb.mono z1))
      have O3 := hid (own_below O9.out hb)
      clear hb
      go_wp2
      go_roundw
      case rel => exact ⟨i + 1, by omega, by omega, by rw [STEP.out], O3, HB3⟩
      case measure => simp [slLen]; omega
    · have he : i = per (nxN ns ls) (2 * ls.length) d := by omega
      have hq : (((it (nxN ns ls) i d : Nat) : Int) != (d : Int)) = false := by rw [he, PD.out]; simp
      have AL2 := hid (show itI ns ls d i = walkI ns ls d by rw [he]; exact ALL.out)
      obtain ⟨e, he2⟩ : ∃ e, e = it (nxN ns ls) i d := ⟨_, rfl⟩
      rw [← he2] at hq ⊢
      clear he he2 pn px
      obtain ⟨A9, c9, rfl⟩ := own_form HOW.out
      go_wp2
      go_ret
      exact ⟨_, rfl, by rw [← AL2.out]; exact own_less HOW.out (by omega), then_ S0.out (by have := HB.out; simpa using this) S0.out.size⟩
theorem iWO_any (vn vl : Value) (ns ls : List (Int × Int)) (d : Int) (w : World) (hn : PairsAt w vn ns) (hl : PairsAt w vl ls) (hbig : ls.length ≤ 1048576) : Calls Try.prog 24 #[.agg #[vn, vl], .int .i64 d] w (NewInts (woF ns ls d) w) := by
  have s0 : Below w.heap.size w (w.alloc (.cells #[vn, vl] 31)) := (Below.refl _ _).alloc (Nat.le_refl _) _
  have HN := hid (hn.below s0)
  have HL := hid (hl.below s0)
  have B0 := hid (BoxV.new w vn vl 31 w.heap.size rfl)
  have S0 := hid s0
  clear s0
  obtain ⟨A, c, rfl, hcn, hm, _⟩ := id hn
  obtain ⟨A', c', rfl, hcl, hm', _⟩ := id hl
  unfold maxLen at hm hm'
  clear hn hl
  have v0 := B0.out.c0
  have v1 := B0.out.c1
  cases hd : isDart ns ls d
  · have HD := hid hd
    clear hd
    go_enter Try.func24, Try.ntmps24
    go_wp2_with fail
    refine (iHasDart_any _ _ ns ls _ _ HN.out HL.out).mono ?_
    rintro e w1 ⟨rfl, hb⟩
    rw [HD.out]
    go_wp2
    go_ret
    exact ⟨_, rfl, by unfold woF; rw [HD.out]; exact World.ownsRow_nil _ _ _ _, then_ S0.out hb S0.out.size⟩
  · have HD := hid hd
    obtain ⟨hok, n, rfl, hnl⟩ := dart_nat hd
    have HOK := hid hok
    clear hd hok
    go_enter Try.func24, Try.ntmps24
    go_wp2_with fail
    refine (iHasDart_any _ _ ns ls _ _ HN.out HL.out).mono ?_
    rintro e w1 ⟨rfl, hb⟩
    rw [HD.out]
    have B0 := hid (B0.out.below hb)
    have S0 := hid (then_ S0.out hb S0.out.size)
    have HN := hid (HN.out.below hb)
    have HL := hid (HL.out.below hb)
    clear v0 v1
    have v0 := B0.out.c0
    have v1 := B0.out.c1
    have vlt := B0.out.lt
    clear hb
    go_wp2_with fail
    refine (iWalk_any _ _ ns ls n _ HN.out HL.out HOK.out hnl).mono ?_
    rintro e w2 ⟨v, rfl, ho, hb⟩
    have HO := hid ho
    have HB := hid hb
    obtain ⟨A9, c9, rfl⟩ := own_form ho
    clear ho hb
    go_wp2
    go_ret
    exact ⟨_, rfl, by unfold woF; rw [HD.out, if_pos rfl]; exact own_less HO.out S0.out.size, then_ S0.out HB.out S0.out.size⟩
theorem sWO_any (vn vl : Value) (ns ls : List (Int × Int)) (d : Int) (w : World) (hn : PairsAt w vn ns) (hl : PairsAt w vl ls) (hbig : ls.length ≤ 1048576) : Calls Try.prog 23 #[.agg #[vn, vl], .int .i64 d] w (NewInts (woF ns ls d) w) := by
  have s0 : Below w.heap.size w (w.alloc (.cells #[vn, vl] 31)) := (Below.refl _ _).alloc (Nat.le_refl _) _
  have HN := hid (hn.below s0)
  have HL := hid (hl.below s0)
  have B0 := hid (BoxV.new w vn vl 31 w.heap.size rfl)
  have S0 := hid s0
  clear s0
  obtain ⟨A, c, rfl, hcn, hm, _⟩ := id hn
  obtain ⟨A', c', rfl, hcl, hm', _⟩ := id hl
  unfold maxLen at hm hm'
  clear hn hl
  have v0 := B0.out.c0
  have v1 := B0.out.c1
  cases hd : isDart ns ls d
  · have HD := hid hd
    clear hd
    go_enter Try.func23, Try.ntmps23
    go_wp2_with fail
    refine (sHasDart_any _ _ ns ls _ _ HN.out HL.out hbig).mono ?_
    rintro e w1 ⟨rfl, hb⟩
    rw [HD.out]
    have ho : OwnInts w1.heap.size (w1.alloc (.cells #[] 3)) (.slice (some ⟨w1.heap.size, 0, none⟩) 0 0) [] := by
      have := World.ownsRow_lit w1 (base := w1.heap.size) (e := 3) (size := 1) #[] 0 (by simp) (by unfold maxLen; omega) (by simp)
      simpa [OwnInts, ints] using this
    have HO := hid ho
    have HB := hid (then_ S0.out hb S0.out.size)
    clear ho hb
    go_wp2
    go_ret
    exact ⟨_, rfl, by unfold woF; rw [HD.out]; exact own_less HO.out HB.out.size, HB.out.alloc HB.out.size _⟩
  · have HD := hid hd
    obtain ⟨hok, n, rfl, hnl⟩ := dart_nat hd
    have HOK := hid hok
    clear hd hok
    go_enter Try.func23, Try.ntmps23
    go_wp2_with fail
    refine (sHasDart_any _ _ ns ls _ _ HN.out HL.out hbig).mono ?_
    rintro e w1 ⟨rfl, hb⟩
    rw [HD.out]
    have B0 := hid (B0.out.below hb)
    have S0 := hid (then_ S0.out hb S0.out.size)
    have HN := hid (HN.out.below hb)
    have HL := hid (HL.out.below hb)
    clear v0 v1
    have v0 := B0.out.c0
    have v1 := B0.out.c1
    have vlt := B0.out.lt
    clear hb
    go_wp2_with fail
    refine (sWalk_any _ _ ns ls n _ HN.out HL.out HOK.out hnl).mono ?_
    rintro e w2 ⟨v, rfl, ho, hb⟩
    have HO := hid ho
    have HB := hid hb
    obtain ⟨A9, c9, rfl⟩ := own_form ho
    clear ho hb
    go_wp2
    go_ret
    exact ⟨_, rfl, by unfold woF; rw [HD.out, if_pos rfl]; exact own_less HO.out S0.out.size, then_ S0.out HB.out S0.out.size⟩
theorem woF_len (ns ls : List (Int × Int)) (d : Int) : (woF ns ls d).length ≤ 2 * ls.length := by
  unfold woF
  split
  · rename_i h
    obtain ⟨hok, n, rfl, hnl⟩ := dart_nat h
    rw [walkI_len]
    exact ((next_turns (win_facts hok)).per_law hnl).2.1
  · simp
theorem iWL_any (vn vl : Value) (ns ls : List (Int × Int)) (d : Int) (w : World) (hn : PairsAt w vn ns) (hl : PairsAt w vl ls) (hbig : ls.length ≤ 1048576) : Calls Try.prog 17 #[.agg #[vn, vl], .int .i64 d] w fun e w' => e = .returned (.int .i64 ((woF ns ls d).length : Int)) ∧ Below w.heap.size w w' := by
  have s0 : Below w.heap.size w (w.alloc (.cells #[vn, vl] 31)) := (Below.refl _ _).alloc (Nat.le_refl _) _
  have HN := hid (hn.below s0)
  have HL := hid (hl.below s0)
  have B0 := hid (BoxV.new w vn vl 31 w.heap.size rfl)
  have S0 := hid s0
  clear s0
  obtain ⟨A, c, rfl, hcn, hm, _⟩ := id hn
  obtain ⟨A', c', rfl, hcl, hm', _⟩ := id hl
  unfold maxLen at hm hm'
  clear hn hl
  have v0 := B0.out.c0
  have v1 := B0.out.c1
  have LE := woF_len ns ls d
  go_enter Try.func17, Try.ntmps17
  go_wp2_with fail
  refine (iWO_any _ _ ns ls d _ HN.out HL.out hbig).mono ?_
  rintro e w2 ⟨v, rfl, ho, hb⟩
  have HB := hid hb
  obtain ⟨A9, c9, rfl⟩ := own_form ho
  clear ho hb
  go_wp2
  go_ret
  exact ⟨rfl, then_ S0.out HB.out S0.out.size⟩
theorem sWL_any (vn vl : Value) (ns ls : List (Int × Int)) (d : Int) (w : World) (hn : PairsAt w vn ns) (hl : PairsAt w vl ls) (hbig : ls.length ≤ 1048576) : Calls Try.prog 15 #[.agg #[vn, vl], .int .i64 d] w fun e w' => e = .returned (.int .i64 ((woF ns ls d).length : Int)) ∧ Below w.heap.size w w' := by
  have s0 : Below w.heap.size w (w.alloc (.cells #[vn, vl] 31)) := (Below.refl _ _).alloc (Nat.le_refl _) _
  have HN := hid (hn.below s0)
  have HL := hid (hl.below s0)
  have B0 := hid (BoxV.new w vn vl 31 w.heap.size rfl)
  have S0 := hid s0
  clear s0
  obtain ⟨A, c, rfl, hcn, hm, _⟩ := id hn
  obtain ⟨A', c', rfl, hcl, hm', _⟩ := id hl
  unfold maxLen at hm hm'
  clear hn hl
  have v0 := B0.out.c0
  have v1 := B0.out.c1
  have LE := woF_len ns ls d
  go_enter Try.func15, Try.ntmps15
  go_wp2_with fail
  refine (sWO_any _ _ ns ls d _ HN.out HL.out hbig).mono ?_
  rintro e w2 ⟨v, rfl, ho, hb⟩
  have HB := hid hb
  obtain ⟨A9, c9, rfl⟩ := own_form ho
  clear ho hb
  go_wp2
  go_ret
  exact ⟨rfl, then_ S0.out HB.out S0.out.size⟩
end Go.Proofs.Ytdhppajfdcfikaa
