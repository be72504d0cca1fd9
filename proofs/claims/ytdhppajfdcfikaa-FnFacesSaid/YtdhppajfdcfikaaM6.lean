/- The walk of a dart: WalkOf, WalkLength, in the program and in the reference. No condition. -/
import Derived.Test.YtdhppajfdcfikaaM5
import Derived.Test.YtdhppajfdcfikaaCmp
import Derived.Test.YtdhppajfdcfikaaHeldM
namespace Go.Proofs.Ytdhppajfdcfikaa
open Go.ChangeShapes Go.WideShapes Go.ChangeAt Go.RowKit
set_option maxHeartbeats 2000000
set_option linter.unusedSimpArgs false
set_option linter.unusedVariables false
def slLen : Value → Nat
  | .slice _ n _ => n
  | _ => 0
def itI (ns ls : List (Int × Int)) (d i : Nat) : List Int := (List.range i).map fun n => ((it (nxN ns ls) n d : Nat) : Int)
theorem itI_len (ns ls : List (Int × Int)) (d i : Nat) : (itI ns ls d i).length = i := by simp [itI]
theorem itI_succ (ns ls : List (Int × Int)) (d i : Nat) : itI ns ls d (i + 1) = itI ns ls d i ++ [((it (nxN ns ls) i d : Nat) : Int)] := by simp [itI, List.range_succ]
theorem itI_one (ns ls : List (Int × Int)) (d : Nat) : itI ns ls d 1 = [(d : Int)] := rfl
theorem itI_all (ns ls : List (Int × Int)) (d : Nat) : itI ns ls d (per (nxN ns ls) (2 * ls.length) d) = walkI ns ls d := by simp [itI, walkI, wk]
theorem iWalk_any (vn vl : Value) (ns ls : List (Int × Int)) (d : Nat) (w : World) (hn : PairsAt w vn ns) (hl : PairsAt w vl ls) (hok : winOkB ns ls = true) (hd : d < 2 * ls.length) : Calls Try.prog 63 #[.agg #[vn, vl], .int .i64 (d : Int)] w (NewInts (walkI ns ls d) w) := by
  have s0 : Below w.heap.size w (w.alloc (.cells #[vn, vl] 31)) := (Below.refl _ _).alloc (Nat.le_refl _) _
  have HN := hid (hn.below s0)
  have HL := hid (hl.below s0)
  have B0 := hid (BoxV.new w vn vl 31 w.heap.size rfl)
  have S0 := hid s0
  clear s0
  obtain ⟨A, c, rfl, hcn, hm, _⟩ := id hn
  obtain ⟨A', c', rfl, hcl, hm', _⟩ := id hl
  unfold maxLen at hm hm'
  clear hn hl
  have v0 := B0.out.c0
  have v1 := B0.out.c1
  have WF := hid (win_facts hok)
  have hl20 := WF.out.m2
  have TU := hid (next_turns WF.out)
  obtain ⟨hp1, hpN, hpd, hpq⟩ := TU.out.per_law hd
  have PD := hid hpd
  have PQ := hid hpq
  have ITL := hid (TU.out.it_lt hd)
  have ALL := hid (itI_all ns ls d)
  clear hpd hpq
  have NX := hid (fun e (he : e < 2 * ls.length) => show nxF ns ls e = ((nxN ns ls e : Nat) : Int) by obtain ⟨x, h1, h2, _⟩ := next_is WF.out he; rw [h1, h2])
  have C := hid (fun e (he : e < 2 * ls.length) W h1 h2 => show Calls Try.prog 68 #[.agg #[.slice A ns.length c, .slice A' ls.length c'], .int .i64 ((twN e : Nat) : Int), .int .i64 (-1)] W fun r w' => r = .returned (.int .i64 ((nxN ns ls e : Nat) : Int)) ∧ Below W.heap.size W w' by
    have h := iBeside_any (.slice A ns.length c) (.slice A' ls.length c') ns ls (twN e) false W h1 h2 hok (twN_lt he)
    have e1 : besF ns ls ((twN e : Nat) : Int) false = ((nxN ns ls e : Nat) : Int) := NX.out e he
    rw [e1] at h; exact h)
  have XT := hid (fun e (he : e < 2 * ls.length) => xor_twN e (by omega))
  clear hok
  obtain ⟨i0, hinf, hz0, hz1, hz2⟩ := info_parts infoI
  have HINF := hid (And.intro hinf (And.intro hz0 (And.intro hz1 hz2)))
  clear hinf hz0 hz1 hz2
  have one0 : OwnInts (w.heap.size + 1) ((w.alloc (.cells #[.slice A ns.length c, .slice A' ls.length c'] 31)).alloc (.cells #[.int .i64 (d : Int)] 3)) (.slice (some ⟨w.heap.size + 1, 0, none⟩) 1 1) [(d : Int)] := by
    have := World.ownsRow_lit (w.alloc (.cells #[.slice A ns.length c, .slice A' ls.length c'] 31)) (base := w.heap.size + 1) (e := 3) (size := 1) #[.int .i64 (d : Int)] 1 (by simp) (by unfold maxLen; omega) (by simp)
    simpa [OwnInts, ints] using this
  have N0 := hid one0
  clear one0
  have V0 : Hid (Below (w.heap.size + 1) (w.alloc (.cells #[.slice A ns.length c, .slice A' ls.length c'] 31)) ((w.alloc (.cells #[.slice A ns.length c, .slice A' ls.length c'] 31)).alloc (.cells #[.int .i64 (d : Int)] 3))) := hid ((Below.refl _ _).alloc (by simp) _)
  have WW : Hid (∀ wr, Below (w.heap.size + 1) (w.alloc (.cells #[.slice A ns.length c, .slice A' ls.length c'] 31)) wr → BoxV wr w.heap.size (.slice A ns.length c) (.slice A' ls.length c') ∧ PairsAt wr (.slice A ns.length c) ns ∧ PairsAt wr (.slice A' ls.length c') ls ∧ w.heap.size + 1 ≤ wr.heap.size) := hid (fun wr h => by
    have h' : Below (w.alloc (.cells #[.slice A ns.length c, .slice A' ls.length c'] 31)).heap.size (w.alloc (.cells #[.slice A ns.length c, .slice A' ls.length c'] 31)) wr := by simpa using h
    exact ⟨B0.out.below h', HN.out.below h', HL.out.below h', by have := h'.size; simpa using this⟩)
  have hx := XT.out d hd
  go_enter Try.func63, Try.ntmps63
  go_wp2_with fail
  obtain ⟨_, pn, px, z1⟩ := WW.out _ V0.out
  refine (C.out d hd _ pn px).mono ?_
  rintro e w1 ⟨rfl, hb⟩
  have V1 := hid (V0.out.trans (hb.mono z1))
  have N1 := hid (own_below N0.out hb)
  clear V0 N0 hb pn px z1 v0 v1 hx
  obtain ⟨bx, pn, px, z1⟩ := WW.out _ V1.out
  have v0 := bx.c0
  have v1 := bx.c1
  have vlt := bx.lt
  clear bx pn px z1
  go_wp2_with fail
  go_loopw [5, 6] (fun v e wr => ∃ i : Nat, 1 ≤ i ∧ i ≤ per (nxN ns ls) (2 * ls.length) d ∧ e = .int .i64 ((it (nxN ns ls) i d : Nat) : Int) ∧ Hid (OwnInts (w.heap.size + 1) wr v (itI ns ls d i)) ∧ Hid (Below (w.heap.size + 1) (w.alloc (.cells #[.slice A ns.length c, .slice A' ls.length c'] 31)) wr)) (fun v _ _ => 2 * ls.length - slLen v)
  case atStart => exact ⟨1, Nat.le_refl _, hp1, rfl, by rw [itI_one]; exact N1, V1⟩
  case round =>
    obtain ⟨i, hi1, hip, rfl, HOW, HB⟩ := hrel
    obtain ⟨bx, pn, px, z1⟩ := WW.out _ HB.out
    clear v0 v1 vlt N1 V1
    have v0 := bx.c0
    have v1 := bx.c1
    have vlt := bx.lt
    clear bx
    have HI := hid (ITL.out i)
    by_cases hlt : i < per (nxN ns ls) (2 * ls.length) d
    · have hne : it (nxN ns ls) i d ≠ d := PQ.out i (by omega) hlt
      have IS := hid (itI_succ ns ls d i)
      have hq : (((it (nxN ns ls) i d : Nat) : Int) != (d : Int)) = true := by simp; omega
      have C3 := hid (show (itI ns ls d i).length + 1 ≤ maxLen by rw [itI_len]; unfold maxLen; omega)
      have C4 := hid (show ((itI ns ls d i).length + 1) * 8 ≤ 140737488355328 by rw [itI_len]; omega)
      have PN := hid pn
      have PL := hid px
      clear pn px hne
      have STEP := hid (show it (nxN ns ls) (i + 1) d = nxN ns ls (it (nxN ns ls) i d) from rfl)
      obtain ⟨e, he⟩ : ∃ e, e = it (nxN ns ls) i d := ⟨_, rfl⟩
      rw [← he] at hq HI IS STEP ⊢
      have CC := hid (fun W h1 h2 => C.out e HI.out W h1 h2)
      have hx := XT.out e HI.out
      clear he
      obtain ⟨A9, c9, hv9⟩ := own_form HOW.out
      rw [itI_len] at hv9
      subst hv9
      go_wp2_with (at_builtin; obtain ⟨hinf, hz0, hz1, hz2⟩ := HINF.out; refine wpList_append_own _ rfl _ _ 37 rfl (w.heap.size + 1) 3 i0 (.int .i64 0) 1 8 Try.underlying37 hinf hz0 hz1 hz2 rfl (by decide) _ _ _ rfl (HOW.out.alloc _) ⟨wr.heap.size, 0, none⟩ 1 1 [.int .i64 (e : Int)] rfl rfl (cell_one_new wr (.int .i64 (e : Int)) 3) (by simp [Value.oneCell']) C3.out C4.out (by simp; omega) ?_)
      intro v' w' hown' hgrow _
      have HB2 := hid ((HB.out.alloc z1 (.cells #[.int .i64 (e : Int)] 3)).grown hgrow (by simp; omega) (fun g hg => (HOW.out.lt g hg).1))
      have O9 : Hid (OwnInts (w.heap.size + 1) w' v' (itI ns ls d (i + 1))) := hid (by unfold OwnInts; rw [IS.out]; simpa [ints] using hown')
      clear hown' hgrow v0 v1 vlt HOW HB z1 PN PL
      obtain ⟨A8, c8, hv8⟩ := own_form O9.out
      rw [itI_len] at hv8
      subst hv8
      obtain ⟨bx, pn, px, z1⟩ := WW.out _ HB2.out
      have v0 := bx.c0
      have v1 := bx.c1
      have vlt := bx.lt
      have PN := hid pn
      have PL := hid px
      clear bx pn px
      go_wp2_with fail
      refine (CC.out _ PN.out PL.out).mono ?_
      rintro r w3 ⟨rfl, hb⟩
      have HB3 := hid (HB2.out.trans (hb.mono z1))
      have O3 := hid (own_below O9.out hb)
      clear hb
      go_wp2
      go_roundw
      case rel => exact ⟨i + 1, by omega, by omega, by rw [STEP.out], O3, HB3⟩
      case measure => simp [slLen]; omega
    · have he : i = per (nxN ns ls) (2 * ls.length) d := by omega
      have hq : (((it (nxN ns ls) i d : Nat) : Int) != (d : Int)) = false := by rw [he, PD.out]; simp
      have AL2 := hid (show itI ns ls d i = walkI ns ls d by rw [he]; exact ALL.out)
      obtain ⟨e, he2⟩ : ∃ e, e = it (nxN ns ls) i d := ⟨_, rfl⟩
      rw [← he2] at hq ⊢
      clear he he2 pn px
      obtain ⟨A9, c9, rfl⟩ := own_form HOW.out
      go_wp2
      go_ret
      exact ⟨_, rfl, by rw [← AL2.out]; exact own_less HOW.out (by omega), then_ S0.out (by have := HB.out; simpa using this) S0.out.size⟩
theorem sWalk_any (vn vl : Value) (ns ls : List (Int × Int)) (d : Nat) (w : World) (hn : PairsAt w vn ns) (hl : PairsAt w vl ls) (hok : winOkB ns ls = true) (hd : d < 2 * ls.length) : Calls Try.prog 62 #[.agg #[vn, vl], .int .i64 (d : Int)] w (NewInts (walkI ns ls d) w) := by
  have s0 : Below w.heap.size w (w.alloc (.cells #[vn, vl] 31)) := (Below.refl _ _).alloc (Nat.le_refl _) _
  have HN := hid (hn.below s0)
  have HL := hid (hl.below s0)
  have B0 := hid (BoxV.new w vn vl 31 w.heap.size rfl)
  have S0 := hid s0
  clear s0
  obtain ⟨A, c, rfl, hcn, hm, _⟩ := id hn
  obtain ⟨A', c', rfl, hcl, hm', _⟩ := id hl
  unfold maxLen at hm hm'
  clear hn hl
  have v0 := B0.out.c0
  have v1 := B0.out.c1
  have WF := hid (win_facts hok)
  have hl20 := WF.out.m2
  have TU := hid (next_turns WF.out)
  obtain ⟨hp1, hpN, hpd, hpq⟩ := TU.out.per_law hd
  have PD := hid hpd
  have PQ := hid hpq
  have ITL := hid (TU.out.it_lt hd)
  have ALL := hid (itI_all ns ls d)
  clear hpd hpq
  have NX := hid (fun e (he : e < 2 * ls.length) => show nxF ns ls e = ((nxN ns ls e : Nat) : Int) by obtain ⟨x, h1, h2, _⟩ := next_is WF.out he; rw [h1, h2])
  have C := hid (fun e (he : e < 2 * ls.length) W h1 h2 => show Calls Try.prog 84 #[.agg #[.slice A ns.length c, .slice A' ls.length c'], .int .i64 ((e : Nat) : Int)] W fun r w' => r = .returned (.int .i64 ((nxN ns ls e : Nat) : Int)) ∧ Below W.heap.size W w' by
    have h := l06Next_any (.slice A ns.length c) (.slice A' ls.length c') ns ls e W h1 h2 hok he
    rw [NX.out e he] at h; exact h)
  clear hok
  obtain ⟨i0, hinf, hz0, hz1, hz2⟩ := info_parts infoI
  have HINF := hid (And.intro hinf (And.intro hz0 (And.intro hz1 hz2)))
  clear hinf hz0 hz1 hz2
  have one0 : OwnInts (w.heap.size + 1) ((w.alloc (.cells #[.slice A ns.length c, .slice A' ls.length c'] 31)).alloc (.cells #[.int .i64 (d : Int)] 3)) (.slice (some ⟨w.heap.size + 1, 0, none⟩) 1 1) [(d : Int)] := by
    have := World.ownsRow_lit (w.alloc (.cells #[.slice A ns.length c, .slice A' ls.length c'] 31)) (base := w.heap.size + 1) (e := 3) (size := 1) #[.int .i64 (d : Int)] 1 (by simp) (by unfold maxLen; omega) (by simp)
    simpa [OwnInts, ints] using this
  have N0 := hid one0
  clear one0
  have V0 : Hid (Below (w.heap.size + 1) (w.alloc (.cells #[.slice A ns.length c, .slice A' ls.length c'] 31)) ((w.alloc (.cells #[.slice A ns.length c, .slice A' ls.length c'] 31)).alloc (.cells #[.int .i64 (d : Int)] 3))) := hid ((Below.refl _ _).alloc (by simp) _)
  have WW : Hid (∀ wr, Below (w.heap.size + 1) (w.alloc (.cells #[.slice A ns.length c, .slice A' ls.length c'] 31)) wr → BoxV wr w.heap.size (.slice A ns.length c) (.slice A' ls.length c') ∧ PairsAt wr (.slice A ns.length c) ns ∧ PairsAt wr (.slice A' ls.length c') ls ∧ w.heap.size + 1 ≤ wr.heap.size) := hid (fun wr h => by
    have h' : Below (w.alloc (.cells #[.slice A ns.length c, .slice A' ls.length c'] 31)).heap.size (w.alloc (.cells #[.slice A ns.length c, .slice A' ls.length c'] 31)) wr := by simpa using h
    exact ⟨B0.out.below h', HN.out.below h', HL.out.below h', by have := h'.size; simpa using this⟩)
  go_enter Try.func62, Try.ntmps62
  go_wp2_with fail
  obtain ⟨_, pn, px, z1⟩ := WW.out _ V0.out
  refine (C.out d hd _ pn px).mono ?_
  rintro e w1 ⟨rfl, hb⟩
  have V1 := hid (V0.out.trans (hb.mono z1))
  have N1 := hid (own_below N0.out hb)
  clear V0 N0 hb pn px z1 v0 v1
  obtain ⟨bx, pn, px, z1⟩ := WW.out _ V1.out
  have v0 := bx.c0
  have v1 := bx.c1
  have vlt := bx.lt
  clear bx pn px z1
  go_wp2_with fail
  go_loopw [5, 6] (fun v e wr => ∃ i : Nat, 1 ≤ i ∧ i ≤ per (nxN ns ls) (2 * ls.length) d ∧ e = .int .i64 ((it (nxN ns ls) i d : Nat) : Int) ∧ Hid (OwnInts (w.heap.size + 1) wr v (itI ns ls d i)) ∧ Hid (Below (w.heap.size + 1) (w.alloc (.cells #[.slice A ns.length c, .slice A' ls.length c'] 31)) wr)) (fun v _ _ => 2 * ls.length - slLen v)
  case atStart => exact ⟨1, Nat.le_refl _, hp1, rfl, by rw [itI_one]; exact N1, V1⟩
  case round =>
    obtain ⟨i, hi1, hip, rfl, HOW, HB⟩ := hrel
    obtain ⟨bx, pn, px, z1⟩ := WW.out _ HB.out
    clear v0 v1 vlt N1 V1
    have v0 := bx.c0
    have v1 := bx.c1
    have vlt := bx.lt
    clear bx
    have HI := hid (ITL.out i)
    by_cases hlt : i < per (nxN ns ls) (2 * ls.length) d
    · have hne : it (nxN ns ls) i d ≠ d := PQ.out i (by omega) hlt
      have IS := hid (itI_succ ns ls d i)
      have hq : (((it (nxN ns ls) i d : Nat) : Int) != (d : Int)) = true := by simp; omega
      have C3 := hid (show (itI ns ls d i).length + 1 ≤ maxLen by rw [itI_len]; unfold maxLen; omega)
      have C4 := hid (show ((itI ns ls d i).length + 1) * 8 ≤ 140737488355328 by rw [itI_len]; omega)
      have PN := hid pn
      have PL := hid px
      clear pn px hne
      have STEP := hid (show it (nxN ns ls) (i + 1) d = nxN ns ls (it (nxN ns ls) i d) from rfl)
      obtain ⟨e, he⟩ : ∃ e, e = it (nxN ns ls) i d := ⟨_, rfl⟩
      rw [← he] at hq HI IS STEP ⊢
      have CC := hid (fun W h1 h2 => C.out e HI.out W h1 h2)
      clear he
      obtain ⟨A9, c9, hv9⟩ := own_form HOW.out
      rw [itI_len] at hv9
      subst hv9
      go_wp2_with (at_builtin; obtain ⟨hinf, hz0, hz1, hz2⟩ := HINF.out; refine wpList_append_own _ rfl _ _ 37 rfl (w.heap.size + 1) 3 i0 (.int .i64 0) 1 8 Try.underlying37 hinf hz0 hz1 hz2 rfl (by decide) _ _ _ rfl (HOW.out.alloc _) ⟨wr.heap.size, 0, none⟩ 1 1 [.int .i64 (e : Int)] rfl rfl (cell_one_new wr (.int .i64 (e : Int)) 3) (by simp [Value.oneCell']) C3.out C4.out (by simp; omega) ?_)
      intro v' w' hown' hgrow _
      have HB2 := hid ((HB.out.alloc z1 (.cells #[.int .i64 (e : Int)] 3)).grown hgrow (by simp; omega) (fun g hg => (HOW.out.lt g hg).1))
      have O9 : Hid (OwnInts (w.heap.size + 1) w' v' (itI ns ls d (i + 1))) := hid (by unfold OwnInts; rw [IS.out]; simpa [ints] using hown')
      clear hown' hgrow v0 v1 vlt HOW HB z1 PN PL
      obtain ⟨A8, c8, hv8⟩ := own_form O9.out
      rw [itI_len] at hv8
      subst hv8
      obtain ⟨bx, pn, px, z1⟩ := WW.out _ HB2.out
      have v0 := bx.c0
      have v1 := bx.c1
      have vlt := bx.lt
      have PN := hid pn
      have PL := hid px
      clear bx pn px
      go_wp2_with fail
      refine (CC.out _ PN.out PL.out).mono ?_
      rintro r w3 ⟨rfl, hb⟩
      have HB3 := hid (HB2.out.trans (hb.mono z1))
      have O3 := hid (own_below O9.out hb)
      clear hb
      go_wp2
      go_roundw
      case rel => exact ⟨i + 1, by omega, by omega, by rw [STEP.out], O3, HB3⟩
      case measure => simp [slLen]; omega
    · have he : i = per (nxN ns ls) (2 * ls.length) d := by omega
      have hq : (((it (nxN ns ls) i d : Nat) : Int) != (d : Int)) = false := by rw [he, PD.out]; simp
      have AL2 := hid (show itI ns ls d i = walkI ns ls d by rw [he]; exact ALL.out)
      obtain ⟨e, he2⟩ : ∃ e, e = it (nxN ns ls) i d := ⟨_, rfl⟩
      rw [← he2] at hq ⊢
      clear he he2 pn px
      obtain ⟨A9, c9, rfl⟩ := own_form HOW.out
      go_wp2
      go_ret
      exact ⟨_, rfl, by rw [← AL2.out]; exact own_less HOW.out (by omega), then_ S0.out (by have := HB.out; simpa using this) S0.out.size⟩
theorem iWO_any (vn vl : Value) (ns ls : List (Int × Int)) (d : Int) (w : World) (hn : PairsAt w vn ns) (hl : PairsAt w vl ls) (hbig : ls.length ≤ 1048576) : Calls Try.prog 24 #[.agg #[vn, vl], .int .i64 d] w (NewInts (woF ns ls d) w) := by
  have s0 : Below w.heap.size w (w.alloc (.cells #[vn, vl] 31)) := (Below.refl _ _).alloc (Nat.le_refl _) _
  have HN := hid (hn.below s0)
  have HL := hid (hl.below s0)
  have B0 := hid (BoxV.new w vn vl 31 w.heap.size rfl)
  have S0 := hid s0
  clear s0
  obtain ⟨A, c, rfl, hcn, hm, _⟩ := id hn
  obtain ⟨A', c', rfl, hcl, hm', _⟩ := id hl
  unfold maxLen at hm hm'
  clear hn hl
  have v0 := B0.out.c0
  have v1 := B0.out.c1
  cases hd : isDart ns ls d
  · have HD := hid hd
    clear hd
    go_enter Try.func24, Try.ntmps24
    go_wp2_with fail
    refine (iHasDart_any _ _ ns ls _ _ HN.out HL.out).mono ?_
    rintro e w1 ⟨rfl, hb⟩
    rw [HD.out]
    go_wp2
    go_ret
    exact ⟨_, rfl, by unfold woF; rw [HD.out]; exact World.ownsRow_nil _ _ _ _, then_ S0.out hb S0.out.size⟩
  · have HD := hid hd
    obtain ⟨hok, n, rfl, hnl⟩ := dart_nat hd
    have HOK := hid hok
    clear hd hok
    go_enter Try.func24, Try.ntmps24
    go_wp2_with fail
    refine (iHasDart_any _ _ ns ls _ _ HN.out HL.out).mono ?_
    rintro e w1 ⟨rfl, hb⟩
    rw [HD.out]
    have B0 := hid (B0.out.below hb)
    have S0 := hid (then_ S0.out hb S0.out.size)
    have HN := hid (HN.out.below hb)
    have HL := hid (HL.out.below hb)
    clear v0 v1
    have v0 := B0.out.c0
    have v1 := B0.out.c1
    have vlt := B0.out.lt
    clear hb
    go_wp2_with fail
    refine (iWalk_any _ _ ns ls n _ HN.out HL.out HOK.out hnl).mono ?_
    rintro e w2 ⟨v, rfl, ho, hb⟩
    have HO := hid ho
    have HB := hid hb
    obtain ⟨A9, c9, rfl⟩ := own_form ho
    clear ho hb
    go_wp2
    go_ret
    exact ⟨_, rfl, by unfold woF; rw [HD.out, if_pos rfl]; exact own_less HO.out S0.out.size, then_ S0.out HB.out S0.out.size⟩
theorem sWO_any (vn vl : Value) (ns ls : List (Int × Int)) (d : Int) (w : World) (hn : PairsAt w vn ns) (hl : PairsAt w vl ls) (hbig : ls.length ≤ 1048576) : Calls Try.prog 23 #[.agg #[vn, vl], .int .i64 d] w (NewInts (woF ns ls d) w) := by
  have s0 : Below w.heap.size w (w.alloc (.cells #[vn, vl] 31)) := (Below.refl _ _).alloc (Nat.le_refl _) _
  have HN := hid (hn.below s0)
  have HL := hid (hl.below s0)
  have B0 := hid (BoxV.new w vn vl 31 w.heap.size rfl)
  have S0 := hid s0
  clear s0
  obtain ⟨A, c, rfl, hcn, hm, _⟩ := id hn
  obtain ⟨A', c', rfl, hcl, hm', _⟩ := id hl
  unfold maxLen at hm hm'
  clear hn hl
  have v0 := B0.out.c0
  have v1 := B0.out.c1
  cases hd : isDart ns ls d
  · have HD := hid hd
    clear hd
    go_enter Try.func23, Try.ntmps23
    go_wp2_with fail
    refine (sHasDart_any _ _ ns ls _ _ HN.out HL.out hbig).mono ?_
    rintro e w1 ⟨rfl, hb⟩
    rw [HD.out]
    have ho : OwnInts w1.heap.size (w1.alloc (.cells #[] 3)) (.slice (some ⟨w1.heap.size, 0, none⟩) 0 0) [] := by
      have := World.ownsRow_lit w1 (base := w1.heap.size) (e := 3) (size := 1) #[] 0 (by simp) (by unfold maxLen; omega) (by simp)
      simpa [OwnInts, ints] using this
    have HO := hid ho
    have HB := hid (then_ S0.out hb S0.out.size)
    clear ho hb
    go_wp2
    go_ret
    exact ⟨_, rfl, by unfold woF; rw [HD.out]; exact own_less HO.out HB.out.size, HB.out.alloc HB.out.size _⟩
  · have HD := hid hd
    obtain ⟨hok, n, rfl, hnl⟩ := dart_nat hd
    have HOK := hid hok
    clear hd hok
    go_enter Try.func23, Try.ntmps23
    go_wp2_with fail
    refine (sHasDart_any _ _ ns ls _ _ HN.out HL.out hbig).mono ?_
    rintro e w1 ⟨rfl, hb⟩
    rw [HD.out]
    have B0 := hid (B0.out.below hb)
    have S0 := hid (then_ S0.out hb S0.out.size)
    have HN := hid (HN.out.below hb)
    have HL := hid (HL.out.below hb)
    clear v0 v1
    have v0 := B0.out.c0
    have v1 := B0.out.c1
    have vlt := B0.out.lt
    clear hb
    go_wp2_with fail
    refine (sWalk_any _ _ ns ls n _ HN.out HL.out HOK.out hnl).mono ?_
    rintro e w2 ⟨v, rfl, ho, hb⟩
    have HO := hid ho
    have HB := hid hb
    obtain ⟨A9, c9, rfl⟩ := own_form ho
    clear ho hb
    go_wp2
    go_ret
    exact ⟨_, rfl, by unfold woF; rw [HD.out, if_pos rfl]; exact own_less HO.out S0.out.size, then_ S0.out HB.out S0.out.size⟩
theorem woF_len (ns ls : List (Int × Int)) (d : Int) : (woF ns ls d).length ≤ 2 * ls.length := by
  unfold woF
  split
  · rename_i h
    obtain ⟨hok, n, rfl, hnl⟩ := dart_nat h
    rw [walkI_len]
    exact ((next_turns (win_facts hok)).per_law hnl).2.1
  · simp
theorem iWL_any (vn vl : Value) (ns ls : List (Int × Int)) (d : Int) (w : World) (hn : PairsAt w vn ns) (hl : PairsAt w vl ls) (hbig : ls.length ≤ 1048576) : Calls Try.prog 17 #[.agg #[vn, vl], .int .i64 d] w fun e w' => e = .returned (.int .i64 ((woF ns ls d).length : Int)) ∧ Below w.heap.size w w' := by
  have s0 : Below w.heap.size w (w.alloc (.cells #[vn, vl] 31)) := (Below.refl _ _).alloc (Nat.le_refl _) _
  have HN := hid (hn.below s0)
  have HL := hid (hl.below s0)
  have B0 := hid (BoxV.new w vn vl 31 w.heap.size rfl)
  have S0 := hid s0
  clear s0
  obtain ⟨A, c, rfl, hcn, hm, _⟩ := id hn
  obtain ⟨A', c', rfl, hcl, hm', _⟩ := id hl
  unfold maxLen at hm hm'
  clear hn hl
  have v0 := B0.out.c0
  have v1 := B0.out.c1
  have LE := woF_len ns ls d
  go_enter Try.func17, Try.ntmps17
  go_wp2_with fail
  refine (iWO_any _ _ ns ls d _ HN.out HL.out hbig).mono ?_
  rintro e w2 ⟨v, rfl, ho, hb⟩
  have HB := hid hb
  obtain ⟨A9, c9, rfl⟩ := own_form ho
  clear ho hb
  go_wp2
  go_ret
  exact ⟨rfl, then_ S0.out HB.out S0.out.size⟩
theorem sWL_any (vn vl : Value) (ns ls : List (Int × Int)) (d : Int) (w : World) (hn : PairsAt w vn ns) (hl : PairsAt w vl ls) (hbig : ls.length ≤ 1048576) : Calls Try.prog 15 #[.agg #[vn, vl], .int .i64 d] w fun e w' => e = .returned (.int .i64 ((woF ns ls d).length : Int)) ∧ Below w.heap.size w w' := by
  have s0 : Below w.heap.size w (w.alloc (.cells #[vn, vl] 31)) := (Below.refl _ _).alloc (Nat.le_refl _) _
  have HN := hid (hn.below s0)
  have HL := hid (hl.below s0)
  have B0 := hid (BoxV.new w vn vl 31 w.heap.size rfl)
  have S0 := hid s0
  clear s0
  obtain ⟨A, c, rfl, hcn, hm, _⟩ := id hn
  obtain ⟨A', c', rfl, hcl, hm', _⟩ := id hl
  unfold maxLen at hm hm'
  clear hn hl
  have v0 := B0.out.c0
  have v1 := B0.out.c1
  have LE := woF_len ns ls d
  go_enter Try.func15, Try.ntmps15
  go_wp2_with fail
  refine (sWO_any _ _ ns ls d _ HN.out HL.out hbig).mono ?_
  rintro e w2 ⟨v, rfl, ho, hb⟩
  have HB := hid hb
  obtain ⟨A9, c9, rfl⟩ := own_form ho
  clear ho hb
  go_wp2
  go_ret
  exact ⟨rfl, then_ S0.out HB.out S0.out.size⟩
end Go.Proofs.Ytdhppajfdcfikaa

/- The area of a row of darts of a valid window, in the program and in the reference. No condition but that the window is valid and the darts are its own. -/
namespace Go.Proofs.Ytdhppajfdcfikaa
open Go.ChangeShapes Go.WideShapes Go.ChangeAt Go.RowKit
set_option maxHeartbeats 4000000
set_option linter.unusedSimpArgs false
set_option linter.unusedVariables false
/-- twice the area to the left of a dart, as seen from (0, 0) -/
def crossD (ns ls : List (Int × Int)) (d : Int) : Int := (ptN ns (dFrom ls d).toNat).1 * (ptN ns (dTo ls d).toNat).2 - (ptN ns (dFrom ls d).toNat).2 * (ptN ns (dTo ls d).toNat).1
def areaL (ns ls : List (Int × Int)) (l : List Int) : Int := (l.map (crossD ns ls)).sum
theorem areaL_succ (ns ls : List (Int × Int)) (l : List Int) (i : Nat) (x : Int) (h : l[i]? = some x) : areaL ns ls (l.take (i + 1)) = areaL ns ls (l.take i) + crossD ns ls x := by
  unfold areaL; rw [List.take_add_one, h]; simp
theorem WinFacts.box {ns ls : List (Int × Int)} (h : WinFacts ns ls) {i : Nat} {x y : Int} (hi : ns[i]? = some (x, y)) : 0 ≤ x ∧ x ≤ 20 ∧ 0 ≤ y ∧ y ≤ 20 := by
  have hl : i < ns.length := by
    rcases Nat.lt_or_ge i ns.length with h' | h'
    · exact h'
    · rw [List.getElem?_eq_none h'] at hi; cases hi
  have := h.okN hl
  rw [ptN_of hi] at this
  simp only [nodeOkB, inB, Bool.and_eq_true, decide_eq_true_iff] at this
  omega
theorem WinFacts.cross_bd {ns ls : List (Int × Int)} (h : WinFacts ns ls) {d : Nat} (hd : d < 2 * ls.length) : -400 ≤ crossD ns ls (d : Int) ∧ crossD ns ls (d : Int) ≤ 400 := by
  obtain ⟨a, b, ea, eb, la, lb, _⟩ := h.ends hd
  obtain ⟨x0, y0, f0⟩ : ∃ x y, ns[a]? = some (x, y) := ⟨_, _, List.getElem?_eq_getElem la⟩
  obtain ⟨x1, y1, f1⟩ : ∃ x y, ns[b]? = some (x, y) := ⟨_, _, List.getElem?_eq_getElem lb⟩
  have b0 := h.box f0
  have b1 := h.box f1
  unfold crossD
  rw [ea, eb]
  simp only [Int.toNat_natCast]
  rw [ptN_of f0, ptN_of f1]
  have p1 : 0 ≤ x0 * y1 := Int.mul_nonneg b0.1 b1.2.2.1
  have p2 : 0 ≤ y0 * x1 := Int.mul_nonneg b0.2.2.1 b1.1
  have p3 : x0 * y1 ≤ 20 * 20 := Int.mul_le_mul b0.2.1 b1.2.2.2 b1.2.2.1 (by omega)
  have p4 : y0 * x1 ≤ 20 * 20 := Int.mul_le_mul b0.2.2.2 b1.2.1 b1.1 (by omega)
  show -400 ≤ x0 * y1 - y0 * x1 ∧ x0 * y1 - y0 * x1 ≤ 400
  omega
theorem IntsAt.at_ {w : World} {A : Option Addr} {n c : Nat} {xs : List Int} {k : Nat} {x : Int} (h : IntsAt w (.slice A n c) xs) (hk : xs[k]? = some x) : ∃ b off, A = some ⟨b, off, none⟩ ∧ b < w.heap.size ∧ w.cell? ⟨b, off + k, none⟩ = some (.int .i64 x) := by
  obtain ⟨A', c', e, _, h3⟩ := h
  injection e with eA _ _
  subst eA
  exact h3 k x hk
theorem nbox_ext {w w' : World} {g : Nat} {x y : Int} (h : Up.NBox w g x y) (hb : Below w.heap.size w w') : Up.NBox w' g x y := by
  have lt := h.lt
  unfold Up.NBox at *; rw [hb.block g lt]; exact h
theorem wr2_ext {B : Nat} {w0 w : World} {g : Nat} (h : Below B w0 w) (hg : B ≤ g) (x y : Int) : Below B w0 (Up.wr2 w g x y) := (h.setCell (p := ⟨g, 0, none⟩) hg _).setCell (p := ⟨g, 1, none⟩) hg _
/-- the darts of a row are the window's -/
def Darts (ls : List (Int × Int)) (l : List Int) : Prop := l.length ≤ 2 * ls.length ∧ ∀ (i : Nat) (x : Int), l[i]? = some x → ∃ m : Nat, x = (m : Int) ∧ m < 2 * ls.length
theorem WinFacts.area_bd {ns ls : List (Int × Int)} (h : WinFacts ns ls) {l : List Int} (hl : Darts ls l) : ∀ i, i ≤ l.length → -(400 * (i : Int)) ≤ areaL ns ls (l.take i) ∧ areaL ns ls (l.take i) ≤ 400 * (i : Int)
  | 0, _ => by simp [areaL]
  | i + 1, hi => by
    have ih := h.area_bd hl i (by omega)
    obtain ⟨x, hx⟩ : ∃ x, l[i]? = some x := ⟨_, List.getElem?_eq_getElem (by omega)⟩
    rw [areaL_succ _ _ _ _ _ hx]
    obtain ⟨m, rfl, hm⟩ := hl.2 i x hx
    have := h.cross_bd hm
    omega
theorem sArea_any (vn vl : Value) (ns ls : List (Int × Int)) (v : Value) (l : List Int) (w : World) (hn : PairsAt w vn ns) (hl : PairsAt w vl ls) (hok : winOkB ns ls = true) (hv : IntsAt w v l) (hd : Darts ls l) : Calls Try.prog 59 #[.agg #[vn, vl], v] w fun e w' => e = .returned (.int .i64 (areaL ns ls l)) ∧ Below w.heap.size w w' := by
  have s0 : Below w.heap.size w (w.alloc (.cells #[vn, vl] 31)) := (Below.refl _ _).alloc (Nat.le_refl _) _
  have HV := hid (hv.below s0)
  clear s0
  have s0 : Below w.heap.size w (w.alloc (.cells #[vn, vl] 31)) := (Below.refl _ _).alloc (Nat.le_refl _) _
  have HN := hid (hn.below s0)
  have HL := hid (hl.below s0)
  have B0 := hid (BoxV.new w vn vl 31 w.heap.size rfl)
  have S0 := hid s0
  clear s0
  obtain ⟨A, c, rfl, hcn, hm, _⟩ := id hn
  obtain ⟨A', c', rfl, hcl, hm', _⟩ := id hl
  unfold maxLen at hm hm'
  clear hn hl
  have v0 := B0.out.c0
  have v1 := B0.out.c1
  have WF := hid (win_facts hok)
  have hl20 := WF.out.m2
  have hn12 := WF.out.n2
  have HD := hid hd
  have hd40 := hd.1
  clear hok hd
  obtain ⟨A2, c2, rfl, hm2, _⟩ := id hv
  clear hv
  have WW : Hid (∀ wr, Below (w.heap.size + 1) (w.alloc (.cells #[.slice A ns.length c, .slice A' ls.length c'] 31)) wr → BoxV wr w.heap.size (.slice A ns.length c) (.slice A' ls.length c') ∧ PairsAt wr (.slice A ns.length c) ns ∧ PairsAt wr (.slice A' ls.length c') ls ∧ IntsAt wr (.slice A2 l.length c2) l ∧ w.heap.size + 1 ≤ wr.heap.size) := hid (fun wr h => by
    have h' : Below (w.alloc (.cells #[.slice A ns.length c, .slice A' ls.length c'] 31)).heap.size (w.alloc (.cells #[.slice A ns.length c, .slice A' ls.length c'] 31)) wr := by simpa using h
    exact ⟨B0.out.below h', HN.out.below h', HL.out.below h', HV.out.below h', by have := h'.size; simpa using this⟩)
  have V0 : Hid (Below (w.heap.size + 1) (w.alloc (.cells #[.slice A ns.length c, .slice A' ls.length c'] 31)) (w.alloc (.cells #[.slice A ns.length c, .slice A' ls.length c'] 31))) := hid (Below.refl _ _)
  go_enter Try.func59, Try.ntmps59
  go_wp2_with fail
  go_loopw [5, 6] (fun s j wr => ∃ i : Nat, i ≤ l.length ∧ j = .int .i64 i ∧ s = .int .i64 (areaL ns ls (l.take i)) ∧ Hid (Below (w.heap.size + 1) (w.alloc (.cells #[.slice A ns.length c, .slice A' ls.length c'] 31)) wr)) (fun _ j _ => l.length - (intOf j).toNat)
  case atStart => exact ⟨0, Nat.zero_le _, rfl, by simp [areaL], V0⟩
  case round =>
    obtain ⟨i, hi, rfl, rfl, HB⟩ := hrel
    obtain ⟨bx, pn, px, pv, z1⟩ := WW.out _ HB.out
    clear v0 v1
    have v0 := bx.c0
    have v1 := bx.c1
    have vlt := bx.lt
    have BX := hid bx
    have PN := hid pn
    have PL := hid px
    have PV := hid pv
    clear bx pn px pv
    by_cases hlt : i < l.length
    · obtain ⟨x, hx⟩ : ∃ x, l[i]? = some x := ⟨_, List.getElem?_eq_getElem hlt⟩
      obtain ⟨d, rfl, hd⟩ := HD.out.2 i x hx
      have AS := hid (areaL_succ ns ls l i (d : Int) hx)
      have AB := WF.out.area_bd HD.out i hi
      obtain ⟨b2, off2, rfl, hbb2, g1⟩ := PV.out.at_ hx
      obtain ⟨a, b, ea, eb, la, lb', hab⟩ := WF.out.ends hd
      obtain ⟨x0, y0, f0⟩ : ∃ x y, ns[a]? = some (x, y) := ⟨_, _, List.getElem?_eq_getElem la⟩
      obtain ⟨x1, y1, f1⟩ : ∃ x y, ns[b]? = some (x, y) := ⟨_, _, List.getElem?_eq_getElem lb'⟩
      have bd0 := WF.out.box f0
      have bd1 := WF.out.box f1
      have CR := hid (show crossD ns ls (d : Int) = x0 * y1 - y0 * x1 by unfold crossD; rw [ea, eb]; simp only [Int.toNat_natCast]; rw [ptN_of f0, ptN_of f1])
      have p1 : 0 ≤ x0 * y1 := Int.mul_nonneg bd0.1 bd1.2.2.1
      have p2 : 0 ≤ y0 * x1 := Int.mul_nonneg bd0.2.2.1 bd1.1
      have p3 : x0 * y1 ≤ 20 * 20 := Int.mul_le_mul bd0.2.1 bd1.2.2.2 bd1.2.2.1 (by omega)
      have p4 : y0 * x1 ≤ 20 * 20 := Int.mul_le_mul bd0.2.2.2 bd1.2.1 bd1.1 (by omega)
      have m1 : IntKind.i64.wrap (x0 * y1) = x0 * y1 := IntWalk.i64_in _ (by omega)
      have m2 : IntKind.i64.wrap (y0 * x1) = y0 * x1 := IntWalk.i64_in _ (by omega)
      obtain ⟨b1, off, rfl, hbb, h1, h2⟩ := PN.out.at_ f0
      obtain ⟨b', off', e', hbb', h3, h4⟩ := PN.out.at_ f1
      obtain ⟨rfl, rfl⟩ : b1 = b' ∧ off = off' := by simpa using e'
      clear e' hbb' hab
      have hd0 : (0 : Int) ≤ (d : Int) := by omega
      have hd1 : (d : Int) < 2 * (ls.length : Int) := by omega
      have hi0 : (0 : Int) ≤ (i : Int) := by omega
      have hi1 : (i : Int) < (l.length : Int) := by omega
      have ha0 : (0 : Int) ≤ (a : Int) := by omega
      have ha1 : (a : Int) < (ns.length : Int) := by omega
      have hb0 : (0 : Int) ≤ (b : Int) := by omega
      have hb1 : (b : Int) < (ns.length : Int) := by omega
      have q3 : IntKind.i64.wrap (areaL ns ls (l.take i) + x0 * y1) = areaL ns ls (l.take i) + x0 * y1 := IntWalk.i64_in _ (by omega)
      have q4 : IntKind.i64.wrap (areaL ns ls (l.take i) + x0 * y1 - y0 * x1) = areaL ns ls (l.take i) + x0 * y1 - y0 * x1 := IntWalk.i64_in _ (by omega)
      have RES := hid (show areaL ns ls (l.take i) + x0 * y1 - y0 * x1 = areaL ns ls (l.take (i + 1)) by rw [AS.out, CR.out]; omega)
      have CE := hid (fun q => sEnds _ _ ns ls d (mv wr q) (PN.out.below (below_mv wr q)) (PL.out.below (below_mv wr q)) hd0 hd1 (by omega))
      rw [ea, eb] at CE
      clear ea eb p1 p2 p3 p4 bd0 bd1 AB f0 f1 hx
      generalize areaL ns ls (l.take i) = s at q3 q4 RES ⊢
      have WR := hid (show wrap64 (wrap64 (s + wrap64 (x0 * y1)) - wrap64 (y0 * x1)) = s + x0 * y1 - y0 * x1 by
        have e1 : wrap64 (x0 * y1) = x0 * y1 := by unfold wrap64; exact (IntKind.wrap_i64 _).symm.trans m1
        have e2 : wrap64 (y0 * x1) = y0 * x1 := by unfold wrap64; exact (IntKind.wrap_i64 _).symm.trans m2
        have e3 : wrap64 (s + x0 * y1) = s + x0 * y1 := by unfold wrap64; exact (IntKind.wrap_i64 _).symm.trans q3
        have e4 : wrap64 (s + x0 * y1 - y0 * x1) = s + x0 * y1 - y0 * x1 := by unfold wrap64; exact (IntKind.wrap_i64 _).symm.trans q4
        rw [e1, e2, e3, e4])
      clear m1 m2 q3 q4
      have n0 := fun q => (BX.out.mv q).c0
      have n1 := fun q => (BX.out.mv q).c1
      have n2 := fun q => cell_mv hbb2 g1 q
      go_wp2_with fail
      refine wp_region_mv (by kernel_rfl) (by kernel_rfl) ?_
      repeat (go_big_quiet_step ((go_at_call 69; exact calls_mv (CE.out _))))
      refine wpQuiet_nil ?_
      intro _ hw'
      obtain ⟨q, hw''⟩ := hw'
      subst hw''
      clear n0 n1 n2 CE
      have BX2 := hid (BX.out.mv q)
      have k1 := cell_mv hbb h1 q
      have k2 := cell_mv hbb h2 q
      have k3 := cell_mv hbb h3 q
      have k4 := cell_mv hbb h4 q
      have hbb3 : b1 < (mv wr q).heap.size := by rw [size_mv]; omega
      have HB2 := hid (HB.out.trans ((below_mv wr q).mono z1))
      clear h1 h2 h3 h4 v0 v1 vlt BX HB
      generalize mv wr q = w3 at k1 k2 k3 k4 hbb3 BX2 HB2 ⊢
      have n0 := fun q => (BX2.out.mv q).c0
      have n1 := fun q => (BX2.out.mv q).c1
      have j1 := fun q => cell_mv hbb3 k1 q
      have j2 := fun q => cell_mv hbb3 k2 q
      have j3 := fun q => cell_mv hbb3 k3 q
      have j4 := fun q => cell_mv hbb3 k4 q
      go_wp2_with fail
      refine wp_region_mv (by kernel_rfl) (by kernel_rfl) ?_
      repeat (go_big_quiet_step (fail))
      refine wpQuiet_nil ?_
      intro _ hw'
      obtain ⟨q, hw''⟩ := hw'
      subst hw''
      have z3 : w.heap.size + 1 ≤ w3.heap.size := by obtain ⟨_, _, _, _, z⟩ := WW.out _ HB2.out; exact z
      have HB3 := hid (HB2.out.trans ((below_mv w3 q).mono z3))
      clear n0 n1 j1 j2 j3 j4 k1 k2 k3 k4
      go_wp2
      go_roundw
      case rel => exact ⟨i + 1, by omega, by go_num, by rw [WR.out, RES.out], HB3⟩
      case measure => simp [intOf]; omega
    · have he : i = l.length := by omega
      subst he
      go_wp2
      go_ret
      exact ⟨ret_int (by rw [List.take_length]), then_ S0.out (by have := HB.out; simpa using this) S0.out.size⟩
theorem iArea_any (vn vl : Value) (ns ls : List (Int × Int)) (v : Value) (l : List Int) (w : World) (hn : PairsAt w vn ns) (hl : PairsAt w vl ls) (hok : winOkB ns ls = true) (hv : IntsAt w v l) (hd : Darts ls l) : Calls Try.prog 60 #[.agg #[vn, vl], v] w fun e w' => e = .returned (.int .i64 (areaL ns ls l)) ∧ Below w.heap.size w w' := by
  have s0 : Below w.heap.size w (w.alloc (.cells #[vn, vl] 31)) := (Below.refl _ _).alloc (Nat.le_refl _) _
  have HV := hid (hv.below s0)
  clear s0
  have s0 : Below w.heap.size w (w.alloc (.cells #[vn, vl] 31)) := (Below.refl _ _).alloc (Nat.le_refl _) _
  have HN := hid (hn.below s0)
  have HL := hid (hl.below s0)
  have B0 := hid (BoxV.new w vn vl 31 w.heap.size rfl)
  have S0 := hid s0
  clear s0
  obtain ⟨A, c, rfl, hcn, hm, _⟩ := id hn
  obtain ⟨A', c', rfl, hcl, hm', _⟩ := id hl
  unfold maxLen at hm hm'
  clear hn hl
  have v0 := B0.out.c0
  have v1 := B0.out.c1
  have WF := hid (win_facts hok)
  have hl20 := WF.out.m2
  have hn12 := WF.out.n2
  have HD := hid hd
  have hd40 := hd.1
  clear hok hd
  obtain ⟨A2, c2, rfl, hm2, _⟩ := id hv
  clear hv
  have WW : Hid (∀ wr, Below (w.heap.size + 1) (w.alloc (.cells #[.slice A ns.length c, .slice A' ls.length c'] 31)) wr → BoxV wr w.heap.size (.slice A ns.length c) (.slice A' ls.length c') ∧ PairsAt wr (.slice A ns.length c) ns ∧ PairsAt wr (.slice A' ls.length c') ls ∧ IntsAt wr (.slice A2 l.length c2) l ∧ w.heap.size + 1 ≤ wr.heap.size) := hid (fun wr h => by
    have h' : Below (w.alloc (.cells #[.slice A ns.length c, .slice A' ls.length c'] 31)).heap.size (w.alloc (.cells #[.slice A ns.length c, .slice A' ls.length c'] 31)) wr := by simpa using h
    exact ⟨B0.out.below h', HN.out.below h', HL.out.below h', HV.out.below h', by have := h'.size; simpa using this⟩)
  have V0 : Hid (Below (w.heap.size + 1) (w.alloc (.cells #[.slice A ns.length c, .slice A' ls.length c'] 31)) (w.alloc (.cells #[.slice A ns.length c, .slice A' ls.length c'] 31))) := hid (Below.refl _ _)
  go_enter Try.func60, Try.ntmps60
  go_wp2_with fail
  go_loopw [5, 12] (fun s j wr => ∃ i : Nat, i ≤ l.length ∧ j = .int .i64 i ∧ s = .int .i64 (areaL ns ls (l.take i)) ∧ Hid (Below (w.heap.size + 1) (w.alloc (.cells #[.slice A ns.length c, .slice A' ls.length c'] 31)) wr)) (fun _ j _ => l.length - (intOf j).toNat)
  case atStart => exact ⟨0, Nat.zero_le _, rfl, by simp [areaL], V0⟩
  case round =>
    obtain ⟨i, hi, rfl, rfl, HB⟩ := hrel
    obtain ⟨bx, pn, px, pv, z1⟩ := WW.out _ HB.out
    clear v0 v1
    have v0 := bx.c0
    have v1 := bx.c1
    have vlt := bx.lt
    have BX := hid bx
    have PN := hid pn
    have PL := hid px
    have PV := hid pv
    clear bx pn px pv
    by_cases hlt : i < l.length
    · obtain ⟨x, hx⟩ : ∃ x, l[i]? = some x := ⟨_, List.getElem?_eq_getElem hlt⟩
      obtain ⟨d, rfl, hd⟩ := HD.out.2 i x hx
      have AS := hid (areaL_succ ns ls l i (d : Int) hx)
      have AB := WF.out.area_bd HD.out i hi
      obtain ⟨b2, off2, rfl, hbb2, g1⟩ := PV.out.at_ hx
      obtain ⟨a, b, ea, eb, la, lb', hab⟩ := WF.out.ends hd
      obtain ⟨x0, y0, f0⟩ : ∃ x y, ns[a]? = some (x, y) := ⟨_, _, List.getElem?_eq_getElem la⟩
      obtain ⟨x1, y1, f1⟩ : ∃ x y, ns[b]? = some (x, y) := ⟨_, _, List.getElem?_eq_getElem lb'⟩
      have bd0 := WF.out.box f0
      have bd1 := WF.out.box f1
      have CR := hid (show crossD ns ls (d : Int) = x0 * y1 - y0 * x1 by unfold crossD; rw [ea, eb]; simp only [Int.toNat_natCast]; rw [ptN_of f0, ptN_of f1])
      have p1 : 0 ≤ x0 * y1 := Int.mul_nonneg bd0.1 bd1.2.2.1
      have p2 : 0 ≤ y0 * x1 := Int.mul_nonneg bd0.2.2.1 bd1.1
      have p3 : x0 * y1 ≤ 20 * 20 := Int.mul_le_mul bd0.2.1 bd1.2.2.2 bd1.2.2.1 (by omega)
      have p4 : y0 * x1 ≤ 20 * 20 := Int.mul_le_mul bd0.2.2.2 bd1.2.1 bd1.1 (by omega)
      have m1 : IntKind.i64.wrap (x0 * y1) = x0 * y1 := IntWalk.i64_in _ (by omega)
      have m2 : IntKind.i64.wrap (y0 * x1) = y0 * x1 := IntWalk.i64_in _ (by omega)
      obtain ⟨b1, off, rfl, hbb, h1, h2⟩ := PN.out.at_ f0
      obtain ⟨b', off', e', hbb', h3, h4⟩ := PN.out.at_ f1
      obtain ⟨rfl, rfl⟩ : b1 = b' ∧ off = off' := by simpa using e'
      clear e' hbb' hab
      have hd0 : (0 : Int) ≤ (d : Int) := by omega
      have hd1 : (d : Int) < 2 * (ls.length : Int) := by omega
      have hi0 : (0 : Int) ≤ (i : Int) := by omega
      have hi1 : (i : Int) < (l.length : Int) := by omega
      have ha0 : (0 : Int) ≤ (a : Int) := by omega
      have ha1 : (a : Int) < (ns.length : Int) := by omega
      have hb0 : (0 : Int) ≤ (b : Int) := by omega
      have hb1 : (b : Int) < (ns.length : Int) := by omega
      have q3 : IntKind.i64.wrap (x0 * y1 - y0 * x1) = x0 * y1 - y0 * x1 := IntWalk.i64_in _ (by omega)
      have q4 : IntKind.i64.wrap (areaL ns ls (l.take i) + (x0 * y1 - y0 * x1)) = areaL ns ls (l.take i) + (x0 * y1 - y0 * x1) := IntWalk.i64_in _ (by omega)
      have RES := hid (show areaL ns ls (l.take i) + (x0 * y1 - y0 * x1) = areaL ns ls (l.take (i + 1)) by rw [AS.out, CR.out])
      obtain ⟨xd, xd1, xd2, xd3, xd4, xd5⟩ := Up.xor_dart hd hl20
      have C1 := hid (fun W (h : Below wr.heap.size wr W) => iDartFrom0 _ _ ns ls d W (PN.out.below h) (PL.out.below h) hd0 hd1 (by omega))
      have C2 := hid (fun W (h : Below wr.heap.size wr W) => iDartFrom0 _ _ ns ls xd W (PN.out.below h) (PL.out.below h) xd2 xd3 xd4)
      rw [ea] at C1
      rw [xd5, eb] at C2
      have CELLS := hid (fun W (h : Below wr.heap.size wr W) => And.intro (BX.out.below h).c0 (And.intro (BX.out.below h).c1 (And.intro ((h.cell (p := ⟨b1, _, none⟩) hbb).trans h1) (And.intro ((h.cell (p := ⟨b1, _, none⟩) hbb).trans h2) (And.intro ((h.cell (p := ⟨b1, _, none⟩) hbb).trans h3) ((h.cell (p := ⟨b1, _, none⟩) hbb).trans h4))))))
      clear ea eb p1 p2 p3 p4 bd0 bd1 AB f0 f1 hx h1 h2 h3 h4
      generalize areaL ns ls (l.take i) = s at q4 RES ⊢
      generalize hP : x0 * y1 = P at m1 q3 q4 RES ⊢
      generalize hR : y0 * x1 = R at m2 q3 q4 RES ⊢
      have HP := hid hP
      have HR := hid hR
      rw [← hP] at m1
      rw [← hR] at m2
      clear hP hR
      go_wp2_with fail
      refine wm_start (S := fun W => Below wr.heap.size wr W) (by kernel_rfl) (Below.refl _ _).drew ?_
      refine wm_take (i := 0) (v := ?_) rfl (by kernel_rfl) (by kernel_rfl) (by kernel_rfl) (fun _ _ _ h => h) (by kernel_rfl) ?_ ?_
      rotate_left
      (focus (intro w hSw; obtain ⟨z0, z1, z2, z3, z4, z5⟩ := CELLS.out _ hSw; go_simp; try with_reducible rfl))
      simp only [Act.put, List.setIfInBounds_toArray, List.set_cons_zero, List.set_cons_succ, List.getElem_toArray, List.getElem_cons_succ, List.getElem_cons_zero, Nat.reduceAdd]
      refine wm_take (i := 1) (v := ?_) rfl (by kernel_rfl) (by kernel_rfl) (by kernel_rfl) (fun _ _ _ h => h) (by kernel_rfl) ?_ ?_
      rotate_left
      (focus (intro w hSw; obtain ⟨z0, z1, z2, z3, z4, z5⟩ := CELLS.out _ hSw; go_simp; try with_reducible rfl))
      simp only [Act.put, List.setIfInBounds_toArray, List.set_cons_zero, List.set_cons_succ, List.getElem_toArray, List.getElem_cons_succ, List.getElem_cons_zero, Nat.reduceAdd]
      refine wm_take (i := 2) (v := ?_) rfl (by kernel_rfl) (by kernel_rfl) (by kernel_rfl) (fun _ _ _ h => h) (by kernel_rfl) ?_ ?_
      rotate_left
      (focus (intro w hSw; obtain ⟨z0, z1, z2, z3, z4, z5⟩ := CELLS.out _ hSw; go_simp; try with_reducible rfl))
      simp only [Act.put, List.setIfInBounds_toArray, List.set_cons_zero, List.set_cons_succ, List.getElem_toArray, List.getElem_cons_succ, List.getElem_cons_zero, Nat.reduceAdd]
      refine wm_take (i := 3) (v := ?_) rfl (by kernel_rfl) (by kernel_rfl) (by kernel_rfl) (fun _ _ _ h => h) (by kernel_rfl) ?_ ?_
      rotate_left
      (focus (intro w hSw; obtain ⟨z0, z1, z2, z3, z4, z5⟩ := CELLS.out _ hSw; go_simp; try with_reducible rfl))
      simp only [Act.put, List.setIfInBounds_toArray, List.set_cons_zero, List.set_cons_succ, List.getElem_toArray, List.getElem_cons_succ, List.getElem_cons_zero, Nat.reduceAdd]
      refine wm_call (i := 4) (v := .int .i64 (a : Int)) (f := ?_) (args := ?_) rfl (by kernel_rfl) (by kernel_rfl) (by kernel_rfl) (fun _ _ _ h => h) (by kernel_rfl) ?_ ?_ ?_
      rotate_left 2
      (focus (intro w; go_simp; refine ⟨?_, ?_⟩ <;> with_reducible rfl))
      (focus (intro w hSw; refine (C1.out w hSw).mono ?_; rintro e w3 ⟨rfl, hb3⟩; exact ⟨rfl, hb3, then_ hSw hb3 hSw.size⟩))
      simp only [Act.put, List.setIfInBounds_toArray, List.set_cons_zero, List.set_cons_succ, List.getElem_toArray, List.getElem_cons_succ, List.getElem_cons_zero, Nat.reduceAdd]
      refine wm_take (i := 5) (v := ?_) rfl (by kernel_rfl) (by kernel_rfl) (by kernel_rfl) (fun _ _ _ h => h) (by kernel_rfl) ?_ ?_
      rotate_left
      (focus (intro w hSw; obtain ⟨z0, z1, z2, z3, z4, z5⟩ := CELLS.out _ hSw; go_simp; try with_reducible rfl))
      simp only [Act.put, List.setIfInBounds_toArray, List.set_cons_zero, List.set_cons_succ, List.getElem_toArray, List.getElem_cons_succ, List.getElem_cons_zero, Nat.reduceAdd]
      refine wm_take (i := 6) (v := ?_) rfl (by kernel_rfl) (by kernel_rfl) (by kernel_rfl) (fun _ _ _ h => h) (by kernel_rfl) ?_ ?_
      rotate_left
      (focus (intro w hSw; obtain ⟨z0, z1, z2, z3, z4, z5⟩ := CELLS.out _ hSw; go_simp; try with_reducible rfl))
      simp only [Act.put, List.setIfInBounds_toArray, List.set_cons_zero, List.set_cons_succ, List.getElem_toArray, List.getElem_cons_succ, List.getElem_cons_zero, Nat.reduceAdd]
      refine wm_take (i := 7) (v := ?_) rfl (by kernel_rfl) (by kernel_rfl) (by kernel_rfl) (fun _ _ _ h => h) (by kernel_rfl) ?_ ?_
      rotate_left
      (focus (intro w hSw; obtain ⟨z0, z1, z2, z3, z4, z5⟩ := CELLS.out _ hSw; go_simp; try with_reducible rfl))
      simp only [Act.put, List.setIfInBounds_toArray, List.set_cons_zero, List.set_cons_succ, List.getElem_toArray, List.getElem_cons_succ, List.getElem_cons_zero, Nat.reduceAdd]
      refine wm_take (i := 8) (v := ?_) rfl (by kernel_rfl) (by kernel_rfl) (by kernel_rfl) (fun _ _ _ h => h) (by kernel_rfl) ?_ ?_
      rotate_left
      (focus (intro w hSw; obtain ⟨z0, z1, z2, z3, z4, z5⟩ := CELLS.out _ hSw; go_simp; try with_reducible rfl))
      simp only [Act.put, List.setIfInBounds_toArray, List.set_cons_zero, List.set_cons_succ, List.getElem_toArray, List.getElem_cons_succ, List.getElem_cons_zero, Nat.reduceAdd]
      refine wm_take (i := 9) (v := ?_) rfl (by kernel_rfl) (by kernel_rfl) (by kernel_rfl) (fun _ _ _ h => h) (by kernel_rfl) ?_ ?_
      rotate_left
      (focus (intro w hSw; obtain ⟨z0, z1, z2, z3, z4, z5⟩ := CELLS.out _ hSw; go_simp; try with_reducible rfl))
      simp only [Act.put, List.setIfInBounds_toArray, List.set_cons_zero, List.set_cons_succ, List.getElem_toArray, List.getElem_cons_succ, List.getElem_cons_zero, Nat.reduceAdd]
      refine wm_take (i := 10) (v := ?_) rfl (by kernel_rfl) (by kernel_rfl) (by kernel_rfl) (fun _ _ _ h => h) (by kernel_rfl) ?_ ?_
      rotate_left
      (focus (intro w hSw; obtain ⟨z0, z1, z2, z3, z4, z5⟩ := CELLS.out _ hSw; go_simp; try with_reducible rfl))
      simp only [Act.put, List.setIfInBounds_toArray, List.set_cons_zero, List.set_cons_succ, List.getElem_toArray, List.getElem_cons_succ, List.getElem_cons_zero, Nat.reduceAdd]
      refine wm_take (i := 11) (v := ?_) rfl (by kernel_rfl) (by kernel_rfl) (by kernel_rfl) (fun _ _ _ h => h) (by kernel_rfl) ?_ ?_
      rotate_left
      (focus (intro w hSw; obtain ⟨z0, z1, z2, z3, z4, z5⟩ := CELLS.out _ hSw; go_simp; try with_reducible rfl))
      simp only [Act.put, List.setIfInBounds_toArray, List.set_cons_zero, List.set_cons_succ, List.getElem_toArray, List.getElem_cons_succ, List.getElem_cons_zero, Nat.reduceAdd]
      refine wm_call (i := 12) (v := .int .i64 (b : Int)) (f := ?_) (args := ?_) rfl (by kernel_rfl) (by kernel_rfl) (by kernel_rfl) (fun _ _ _ h => h) (by kernel_rfl) ?_ ?_ ?_
      rotate_left 2
      (focus (intro w; go_simp; refine ⟨?_, ?_⟩ <;> with_reducible rfl))
      (focus (intro w hSw; refine (C2.out w hSw).mono ?_; rintro e w3 ⟨rfl, hb3⟩; exact ⟨rfl, hb3, then_ hSw hb3 hSw.size⟩))
      simp only [Act.put, List.setIfInBounds_toArray, List.set_cons_zero, List.set_cons_succ, List.getElem_toArray, List.getElem_cons_succ, List.getElem_cons_zero, Nat.reduceAdd]
      refine wm_take (i := 13) (v := ?_) rfl (by kernel_rfl) (by kernel_rfl) (by kernel_rfl) (fun _ _ _ h => h) (by kernel_rfl) ?_ ?_
      rotate_left
      (focus (intro w hSw; obtain ⟨z0, z1, z2, z3, z4, z5⟩ := CELLS.out _ hSw; go_simp; try with_reducible rfl))
      simp only [Act.put, List.setIfInBounds_toArray, List.set_cons_zero, List.set_cons_succ, List.getElem_toArray, List.getElem_cons_succ, List.getElem_cons_zero, Nat.reduceAdd]
      refine wm_take (i := 14) (v := ?_) rfl (by kernel_rfl) (by kernel_rfl) (by kernel_rfl) (fun _ _ _ h => h) (by kernel_rfl) ?_ ?_
      rotate_left
      (focus (intro w hSw; obtain ⟨z0, z1, z2, z3, z4, z5⟩ := CELLS.out _ hSw; go_simp; try with_reducible rfl))
      simp only [Act.put, List.setIfInBounds_toArray, List.set_cons_zero, List.set_cons_succ, List.getElem_toArray, List.getElem_cons_succ, List.getElem_cons_zero, Nat.reduceAdd]
      refine wm_each (l := [15, 16]) (by kernel_rfl) (by simp) ?_
      intro W1 hb1 hS1
      refine Each.cons rfl (fun K hK => ?_) (Each.cons rfl (fun K hK => ?_) (Each.nil))
      · have hS := hS1.alloc hS1.size (.cells #[.int .i64 0, .int .i64 0] 71)
        go_simp
        refine hK.out _ _ ⟨hS, ?_⟩
        clear hK K
        (try simp only [Act.put, List.setIfInBounds_toArray, List.set_cons_zero, List.set_cons_succ, List.getElem_toArray, List.getElem_cons_succ, List.getElem_cons_zero, Nat.reduceAdd])
        refine wm_each (l := [16]) (by kernel_rfl) (by simp) ?_
        intro W2 hb2 hS2
        refine Each.cons rfl (fun K hK => ?_) (Each.nil)
        · have hS := hS2.alloc hS2.size (.cells #[.int .i64 0, .int .i64 0] 71)
          go_simp
          refine hK.out _ _ ⟨hS, ?_⟩
          clear hK K
          (try simp only [Act.put, List.setIfInBounds_toArray, List.set_cons_zero, List.set_cons_succ, List.getElem_toArray, List.getElem_cons_succ, List.getElem_cons_zero, Nat.reduceAdd])
          have n8 := Up.NBox.new W1 0 0
          have n8 := nbox_ext (nbox_ext n8 hb2) ((Below.refl _ _).alloc (Nat.le_refl _) (.cells #[.int .i64 0, .int .i64 0] 71))
          have g8 := hS1.size
          have n9 := Up.NBox.new W2 0 0
          have g9 := hS2.size
          have d12 : W1.heap.size < W2.heap.size := by have := hb2.size; simp at this; omega
          obtain ⟨p8, e8⟩ : ∃ p, p = W1.heap.size := ⟨_, rfl⟩
          obtain ⟨p9, e9⟩ : ∃ p, p = W2.heap.size := ⟨_, rfl⟩
          rw [← e8] at n8 g8
          rw [← e9] at n9 g9
          have D := hid (show p8 ≠ p9 by omega)
          rw [← e8, ← e9]
          clear hb2 hS1 hS2 hS d12 e8 e9
          generalize W2.alloc _ = V0 at n8 n9 ⊢
          refine wm_each (l := [17]) (by kernel_rfl) (by simp) ?_
          intro V1 hv1 hT1
          replace n8 := nbox_ext n8 hv1
          replace n9 := nbox_ext n9 hv1
          have c0 := n8.c0
          have c1 := n8.c1
          have z0 := n8.fz (i := 0)
          have z1 := n8.fz (i := 1)
          refine Each.cons rfl (fun K hK => ?_) Each.nil
          go_simp
          refine hK.out _ _ ⟨wr2_ext hT1 g8 x0 y0, ?_⟩
          clear hK K c0 c1 z0 z1
          (try simp only [Act.put, List.setIfInBounds_toArray, List.set_cons_zero, List.set_cons_succ, List.getElem_toArray, List.getElem_cons_succ, List.getElem_cons_zero, Nat.reduceAdd])
          change wpAnyM _ _ _ _ _ _ _ _ (Up.wr2 V1 p8 x0 y0)
          replace n8 := n8.set x0 y0
          replace n9 := n9.other (by have := D.out; omega) x0 y0 (g' := p8)
          generalize Up.wr2 V1 p8 x0 y0 = V0 at n8 n9 ⊢
          clear hv1 hT1
          refine wm_each (l := [18]) (by kernel_rfl) (by simp) ?_
          intro V1 hv1 hT1
          replace n8 := nbox_ext n8 hv1
          replace n9 := nbox_ext n9 hv1
          have c0 := n9.c0
          have c1 := n9.c1
          have z0 := n9.fz (i := 0)
          have z1 := n9.fz (i := 1)
          refine Each.cons rfl (fun K hK => ?_) Each.nil
          go_simp
          refine hK.out _ _ ⟨wr2_ext hT1 g9 x1 y1, ?_⟩
          clear hK K c0 c1 z0 z1
          (try simp only [Act.put, List.setIfInBounds_toArray, List.set_cons_zero, List.set_cons_succ, List.getElem_toArray, List.getElem_cons_succ, List.getElem_cons_zero, Nat.reduceAdd])
          change wpAnyM _ _ _ _ _ _ _ _ (Up.wr2 V1 p9 x1 y1)
          replace n9 := n9.set x1 y1
          replace n8 := n8.other (by have := D.out; omega) x1 y1 (g' := p9)
          generalize Up.wr2 V1 p9 x1 y1 = V0 at n8 n9 ⊢
          clear hv1 hT1
          refine wm_done (by kernel_rfl) ?_
          intro V1 hv1 hT1
          replace n8 := nbox_ext n8 hv1
          replace n9 := nbox_ext n9 hv1
          have a8 := n8.c0
          have b8 := n8.c1
          have a9 := n9.c0
          have b9 := n9.c1
          have HB3 := hid (HB.out.trans (hT1.mono z1))
          clear n8 n9 hv1 hT1 D g8 g9 v0 v1 vlt
          rw [HP.out] at m1
          rw [HR.out] at m2
          have pp := HP.out
          have pr := HR.out
          go_wp2
          go_roundw
          case rel => exact ⟨i + 1, by omega, by go_num, by rw [RES.out], HB3⟩
          case measure => simp [intOf]; omega
      · have hS := hS1.alloc hS1.size (.cells #[.int .i64 0, .int .i64 0] 71)
        go_simp
        refine hK.out _ _ ⟨hS, ?_⟩
        clear hK K
        (try simp only [Act.put, List.setIfInBounds_toArray, List.set_cons_zero, List.set_cons_succ, List.getElem_toArray, List.getElem_cons_succ, List.getElem_cons_zero, Nat.reduceAdd])
        refine wm_each (l := [15]) (by kernel_rfl) (by simp) ?_
        intro W2 hb2 hS2
        refine Each.cons rfl (fun K hK => ?_) (Each.nil)
        · have hS := hS2.alloc hS2.size (.cells #[.int .i64 0, .int .i64 0] 71)
          go_simp
          refine hK.out _ _ ⟨hS, ?_⟩
          clear hK K
          (try simp only [Act.put, List.setIfInBounds_toArray, List.set_cons_zero, List.set_cons_succ, List.getElem_toArray, List.getElem_cons_succ, List.getElem_cons_zero, Nat.reduceAdd])
          have n8 := Up.NBox.new W2 0 0
          have g8 := hS2.size
          have n9 := Up.NBox.new W1 0 0
          have n9 := nbox_ext (nbox_ext n9 hb2) ((Below.refl _ _).alloc (Nat.le_refl _) (.cells #[.int .i64 0, .int .i64 0] 71))
          have g9 := hS1.size
          have d12 : W1.heap.size < W2.heap.size := by have := hb2.size; simp at this; omega
          obtain ⟨p8, e8⟩ : ∃ p, p = W2.heap.size := ⟨_, rfl⟩
          obtain ⟨p9, e9⟩ : ∃ p, p = W1.heap.size := ⟨_, rfl⟩
          rw [← e8] at n8 g8
          rw [← e9] at n9 g9
          have D := hid (show p8 ≠ p9 by omega)
          rw [← e8, ← e9]
          clear hb2 hS1 hS2 hS d12 e8 e9
          generalize W2.alloc _ = V0 at n8 n9 ⊢
          refine wm_each (l := [17]) (by kernel_rfl) (by simp) ?_
          intro V1 hv1 hT1
          replace n8 := nbox_ext n8 hv1
          replace n9 := nbox_ext n9 hv1
          have c0 := n8.c0
          have c1 := n8.c1
          have z0 := n8.fz (i := 0)
          have z1 := n8.fz (i := 1)
          refine Each.cons rfl (fun K hK => ?_) Each.nil
          go_simp
          refine hK.out _ _ ⟨wr2_ext hT1 g8 x0 y0, ?_⟩
          clear hK K c0 c1 z0 z1
          (try simp only [Act.put, List.setIfInBounds_toArray, List.set_cons_zero, List.set_cons_succ, List.getElem_toArray, List.getElem_cons_succ, List.getElem_cons_zero, Nat.reduceAdd])
          change wpAnyM _ _ _ _ _ _ _ _ (Up.wr2 V1 p8 x0 y0)
          replace n8 := n8.set x0 y0
          replace n9 := n9.other (by have := D.out; omega) x0 y0 (g' := p8)
          generalize Up.wr2 V1 p8 x0 y0 = V0 at n8 n9 ⊢
          clear hv1 hT1
          refine wm_each (l := [18]) (by kernel_rfl) (by simp) ?_
          intro V1 hv1 hT1
          replace n8 := nbox_ext n8 hv1
          replace n9 := nbox_ext n9 hv1
          have c0 := n9.c0
          have c1 := n9.c1
          have z0 := n9.fz (i := 0)
          have z1 := n9.fz (i := 1)
          refine Each.cons rfl (fun K hK => ?_) Each.nil
          go_simp
          refine hK.out _ _ ⟨wr2_ext hT1 g9 x1 y1, ?_⟩
          clear hK K c0 c1 z0 z1
          (try simp only [Act.put, List.setIfInBounds_toArray, List.set_cons_zero, List.set_cons_succ, List.getElem_toArray, List.getElem_cons_succ, List.getElem_cons_zero, Nat.reduceAdd])
          change wpAnyM _ _ _ _ _ _ _ _ (Up.wr2 V1 p9 x1 y1)
          replace n9 := n9.set x1 y1
          replace n8 := n8.other (by have := D.out; omega) x1 y1 (g' := p9)
          generalize Up.wr2 V1 p9 x1 y1 = V0 at n8 n9 ⊢
          clear hv1 hT1
          refine wm_done (by kernel_rfl) ?_
          intro V1 hv1 hT1
          replace n8 := nbox_ext n8 hv1
          replace n9 := nbox_ext n9 hv1
          have a8 := n8.c0
          have b8 := n8.c1
          have a9 := n9.c0
          have b9 := n9.c1
          have HB3 := hid (HB.out.trans (hT1.mono z1))
          clear n8 n9 hv1 hT1 D g8 g9 v0 v1 vlt
          rw [HP.out] at m1
          rw [HR.out] at m2
          have pp := HP.out
          have pr := HR.out
          go_wp2
          go_roundw
          case rel => exact ⟨i + 1, by omega, by go_num, by rw [RES.out], HB3⟩
          case measure => simp [intOf]; omega
    · have he : i = l.length := by omega
      subst he
      go_wp2
      go_ret
      exact ⟨ret_int (by rw [List.take_length]), then_ S0.out (by have := HB.out; simpa using this) S0.out.size⟩
end Go.Proofs.Ytdhppajfdcfikaa

/- WalkArea and SameWalk, in the program and in the reference. No condition. -/
namespace Go.Proofs.Ytdhppajfdcfikaa
open Go.ChangeShapes Go.WideShapes Go.ChangeAt Go.RowKit
set_option maxHeartbeats 2000000
set_option linter.unusedSimpArgs false
set_option linter.unusedVariables false
theorem walkI_darts {ns ls : List (Int × Int)} (F : WinFacts ns ls) {d : Nat} (hd : d < 2 * ls.length) : Darts ls (walkI ns ls d) := by
  have T := next_turns F
  refine ⟨by rw [walkI_len]; exact (T.per_law hd).2.1, fun i x hx => ?_⟩
  obtain ⟨m, hm, rfl⟩ := List.mem_map.1 (List.mem_of_getElem? hx)
  exact ⟨m, rfl, T.wk_lt hd hm⟩
theorem iArea_nil (vn vl : Value) (ns ls : List (Int × Int)) (v : Value) (w : World) (hn : PairsAt w vn ns) (hl : PairsAt w vl ls) (hv : IntsAt w v []) : Calls Try.prog 60 #[.agg #[vn, vl], v] w fun e w' => e = .returned (.int .i64 0) ∧ Below w.heap.size w w' := by
  have s0 : Below w.heap.size w (w.alloc (.cells #[vn, vl] 31)) := (Below.refl _ _).alloc (Nat.le_refl _) _
  have HN := hid (hn.below s0)
  have HL := hid (hl.below s0)
  have B0 := hid (BoxV.new w vn vl 31 w.heap.size rfl)
  have S0 := hid s0
  clear s0
  obtain ⟨A, c, rfl, hcn, hm, _⟩ := id hn
  obtain ⟨A', c', rfl, hcl, hm', _⟩ := id hl
  unfold maxLen at hm hm'
  clear hn hl
  have v0 := B0.out.c0
  have v1 := B0.out.c1
  obtain ⟨A2, c2, rfl, hm2, _⟩ := id hv
  clear hv hm2
  go_enter Try.func60, Try.ntmps60
  go_wp2_with fail
  refine wp_loop_rounds 1 ?_
  rw [rounds_succ]
  go_wp2
  go_ret
  exact ⟨rfl, S0.out⟩
theorem sArea_nil (vn vl : Value) (ns ls : List (Int × Int)) (v : Value) (w : World) (hn : PairsAt w vn ns) (hl : PairsAt w vl ls) (hv : IntsAt w v []) : Calls Try.prog 59 #[.agg #[vn, vl], v] w fun e w' => e = .returned (.int .i64 0) ∧ Below w.heap.size w w' := by
  have s0 : Below w.heap.size w (w.alloc (.cells #[vn, vl] 31)) := (Below.refl _ _).alloc (Nat.le_refl _) _
  have HN := hid (hn.below s0)
  have HL := hid (hl.below s0)
  have B0 := hid (BoxV.new w vn vl 31 w.heap.size rfl)
  have S0 := hid s0
  clear s0
  obtain ⟨A, c, rfl, hcn, hm, _⟩ := id hn
  obtain ⟨A', c', rfl, hcl, hm', _⟩ := id hl
  unfold maxLen at hm hm'
  clear hn hl
  have v0 := B0.out.c0
  have v1 := B0.out.c1
  obtain ⟨A2, c2, rfl, hm2, _⟩ := id hv
  clear hv hm2
  go_enter Try.func59, Try.ntmps59
  go_wp2_with fail
  refine wp_loop_rounds 1 ?_
  rw [rounds_succ]
  go_wp2
  go_ret
  exact ⟨rfl, S0.out⟩
def waF (ns ls : List (Int × Int)) (d : Int) : Int := areaL ns ls (woF ns ls d)
def swF (ns ls : List (Int × Int)) (d e : Int) : Bool := decide (e ∈ woF ns ls d)
theorem swF_dart {ns ls : List (Int × Int)} {d e : Int} (h : swF ns ls d e = true) : isDart ns ls e = true := by
  unfold swF at h
  rw [decide_eq_true_iff] at h
  unfold woF at h
  split at h
  · rename_i hd
    obtain ⟨hok, n, rfl, hnl⟩ := dart_nat hd
    obtain ⟨i, hi⟩ := List.getElem?_of_mem h
    obtain ⟨m, rfl, hm⟩ := (walkI_darts (win_facts hok) hnl).2 i e hi
    unfold isDart inB
    rw [hok]
    simp; omega
  · cases h
theorem iWA_any (vn vl : Value) (ns ls : List (Int × Int)) (d : Int) (w : World) (hn : PairsAt w vn ns) (hl : PairsAt w vl ls) (hbig : ls.length ≤ 1048576) : Calls Try.prog 22 #[.agg #[vn, vl], .int .i64 d] w fun e w' => e = .returned (.int .i64 (waF ns ls d)) ∧ Below w.heap.size w w' := by
  have s0 : Below w.heap.size w (w.alloc (.cells #[vn, vl] 31)) := (Below.refl _ _).alloc (Nat.le_refl _) _
  have HN := hid (hn.below s0)
  have HL := hid (hl.below s0)
  have B0 := hid (BoxV.new w vn vl 31 w.heap.size rfl)
  have S0 := hid s0
  clear s0
  obtain ⟨A, c, rfl, hcn, hm, _⟩ := id hn
  obtain ⟨A', c', rfl, hcl, hm', _⟩ := id hl
  unfold maxLen at hm hm'
  clear hn hl
  have v0 := B0.out.c0
  have v1 := B0.out.c1
  have LE' := woF_len ns ls d
  have LE : (woF ns ls d).length ≤ 1000 := by
    unfold woF at LE' ⊢
    split at LE'
    · rename_i hd; have := dart_bd hd; obtain ⟨hok, _⟩ := dart_nat hd; have := (win_facts hok).m2; rw [if_pos hd]; omega
    · rename_i hd; rw [if_neg hd]; simp
  clear LE'
  have AR := hid (fun (v : Value) (W : World) (h1 : PairsAt W (.slice A ns.length c) ns) (h2 : PairsAt W (.slice A' ls.length c') ls) (h3 : IntsAt W v (woF ns ls d)) => show Calls Try.prog _ #[.agg #[.slice A ns.length c, .slice A' ls.length c'], v] W fun e w' => e = .returned (.int .i64 (waF ns ls d)) ∧ Below W.heap.size W w' by
    by_cases hd : isDart ns ls d = true
    · obtain ⟨hok, n, rfl, hnl⟩ := dart_nat hd
      have e : woF ns ls (n : Int) = walkI ns ls n := by unfold woF; rw [if_pos hd]; rfl
      have D := walkI_darts (win_facts hok) hnl
      rw [← e] at D
      exact iArea_any _ _ ns ls v _ W h1 h2 hok h3 D
    · have e : woF ns ls d = [] := by unfold woF; rw [if_neg hd]
      have e2 : waF ns ls d = 0 := by unfold waF; rw [e]; rfl
      rw [e] at h3
      rw [e2]
      exact iArea_nil _ _ ns ls v W h1 h2 h3)
  have CELLS := hid (fun W (h : Below (w.alloc (.cells #[.slice A ns.length c, .slice A' ls.length c'] 31)).heap.size (w.alloc (.cells #[.slice A ns.length c, .slice A' ls.length c'] 31)) W) => And.intro (B0.out.below h).c0 (B0.out.below h).c1)
  have C1 := hid (fun W (h : Below (w.alloc (.cells #[.slice A ns.length c, .slice A' ls.length c'] 31)).heap.size (w.alloc (.cells #[.slice A ns.length c, .slice A' ls.length c'] 31)) W) => iWO_any _ _ ns ls d W (HN.out.below h) (HL.out.below h) hbig)
  have C2 := hid (fun v W (h : Below (w.alloc (.cells #[.slice A ns.length c, .slice A' ls.length c'] 31)).heap.size (w.alloc (.cells #[.slice A ns.length c, .slice A' ls.length c'] 31)) W) h3 => AR.out v W (HN.out.below h) (HL.out.below h) h3)
  go_enter Try.func22, Try.ntmps22
  go_wp2_with fail
  refine wm_start (S := fun W => Below (w.alloc (.cells #[.slice A ns.length c, .slice A' ls.length c'] 31)).heap.size (w.alloc (.cells #[.slice A ns.length c, .slice A' ls.length c'] 31)) W) (by kernel_rfl) (Below.refl _ _).drew ?_
  refine wm_take (i := 0) (v := ?_) rfl (by kernel_rfl) (by kernel_rfl) (by kernel_rfl) (fun _ _ _ h => h) (by kernel_rfl) ?_ ?_
  rotate_left
  (focus (intro w hSw; obtain ⟨z0, z1⟩ := CELLS.out _ hSw; go_simp; try with_reducible rfl))
  simp only [Act.put, List.setIfInBounds_toArray, List.set_cons_zero, List.set_cons_succ, List.getElem_toArray, List.getElem_cons_succ, List.getElem_cons_zero, Nat.reduceAdd]
  refine wm_take (i := 1) (v := ?_) rfl (by kernel_rfl) (by kernel_rfl) (by kernel_rfl) (fun _ _ _ h => h) (by kernel_rfl) ?_ ?_
  rotate_left
  (focus (intro w hSw; obtain ⟨z0, z1⟩ := CELLS.out _ hSw; go_simp; try with_reducible rfl))
  simp only [Act.put, List.setIfInBounds_toArray, List.set_cons_zero, List.set_cons_succ, List.getElem_toArray, List.getElem_cons_succ, List.getElem_cons_zero, Nat.reduceAdd]
  refine wm_take (i := 2) (v := ?_) rfl (by kernel_rfl) (by kernel_rfl) (by kernel_rfl) (fun _ _ _ h => h) (by kernel_rfl) ?_ ?_
  rotate_left
  (focus (intro w hSw; obtain ⟨z0, z1⟩ := CELLS.out _ hSw; go_simp; try with_reducible rfl))
  simp only [Act.put, List.setIfInBounds_toArray, List.set_cons_zero, List.set_cons_succ, List.getElem_toArray, List.getElem_cons_succ, List.getElem_cons_zero, Nat.reduceAdd]
  refine wm_each (l := [3]) (by kernel_rfl) (by simp) ?_
  intro v1 hv1 hS1
  refine Each.cons rfl (fun K hK => ?_) Each.nil
  go_simp
  refine (C1.out v1 hS1).mono ?_
  rintro e w3 ⟨v, rfl, ho, hb3⟩
  have hS3 := then_ hS1 hb3 hS1.size
  (try dsimp only)
  refine hK.out _ _ ⟨hS3, ?_⟩
  clear hK K
  (try simp only [Act.put, List.setIfInBounds_toArray, List.set_cons_zero, List.set_cons_succ, List.getElem_toArray, List.getElem_cons_succ, List.getElem_cons_zero, Nat.reduceAdd])
  refine wm_each (l := [4]) (by kernel_rfl) (by simp) ?_
  intro v2 hv2 hS2
  have ho2 := (own_below ho hv2).ints (by omega)
  refine Each.cons rfl (fun K hK => ?_) Each.nil
  go_simp
  refine (C2.out _ v2 hS2 ho2).mono ?_
  rintro e w4 ⟨rfl, hb4⟩
  have hS4 := then_ hS2 hb4 hS2.size
  (try dsimp only)
  refine hK.out _ _ ⟨hS4, ?_⟩
  clear hK K
  (try simp only [Act.put, List.setIfInBounds_toArray, List.set_cons_zero, List.set_cons_succ, List.getElem_toArray, List.getElem_cons_succ, List.getElem_cons_zero, Nat.reduceAdd])
  refine wm_take (i := 5) (v := ?_) rfl (by kernel_rfl) (by kernel_rfl) (by kernel_rfl) (fun _ _ _ h => h) (by kernel_rfl) ?_ ?_
  rotate_left
  (focus (intro w hSw; skip; go_simp; try with_reducible rfl))
  simp only [Act.put, List.setIfInBounds_toArray, List.set_cons_zero, List.set_cons_succ, List.getElem_toArray, List.getElem_cons_succ, List.getElem_cons_zero, Nat.reduceAdd]
  refine wm_done (by kernel_rfl) ?_
  intro w9 hv9 hS9
  have S9 := hid (then_ S0.out hS9 S0.out.size)
  clear ho hv9 hS9 hS3 hS1 hv1 hb3 CELLS C1 C2 hS4 hb4 hS2 hv2 ho2
  go_wp2
  go_ret
  exact ⟨rfl, S9.out⟩
theorem sWA_any (vn vl : Value) (ns ls : List (Int × Int)) (d : Int) (w : World) (hn : PairsAt w vn ns) (hl : PairsAt w vl ls) (hbig : ls.length ≤ 1048576) : Calls Try.prog 21 #[.agg #[vn, vl], .int .i64 d] w fun e w' => e = .returned (.int .i64 (waF ns ls d)) ∧ Below w.heap.size w w' := by
  have s0 : Below w.heap.size w (w.alloc (.cells #[vn, vl] 31)) := (Below.refl _ _).alloc (Nat.le_refl _) _
  have HN := hid (hn.below s0)
  have HL := hid (hl.below s0)
  have B0 := hid (BoxV.new w vn vl 31 w.heap.size rfl)
  have S0 := hid s0
  clear s0
  obtain ⟨A, c, rfl, hcn, hm, _⟩ := id hn
  obtain ⟨A', c', rfl, hcl, hm', _⟩ := id hl
  unfold maxLen at hm hm'
  clear hn hl
  have v0 := B0.out.c0
  have v1 := B0.out.c1
  have LE' := woF_len ns ls d
  have LE : (woF ns ls d).length ≤ 1000 := by
    unfold woF at LE' ⊢
    split at LE'
    · rename_i hd; have := dart_bd hd; obtain ⟨hok, _⟩ := dart_nat hd; have := (win_facts hok).m2; rw [if_pos hd]; omega
    · rename_i hd; rw [if_neg hd]; simp
  clear LE'
  have AR := hid (fun (v : Value) (W : World) (h1 : PairsAt W (.slice A ns.length c) ns) (h2 : PairsAt W (.slice A' ls.length c') ls) (h3 : IntsAt W v (woF ns ls d)) => show Calls Try.prog _ #[.agg #[.slice A ns.length c, .slice A' ls.length c'], v] W fun e w' => e = .returned (.int .i64 (waF ns ls d)) ∧ Below W.heap.size W w' by
    by_cases hd : isDart ns ls d = true
    · obtain ⟨hok, n, rfl, hnl⟩ := dart_nat hd
      have e : woF ns ls (n : Int) = walkI ns ls n := by unfold woF; rw [if_pos hd]; rfl
      have D := walkI_darts (win_facts hok) hnl
      rw [← e] at D
      exact sArea_any _ _ ns ls v _ W h1 h2 hok h3 D
    · have e : woF ns ls d = [] := by unfold woF; rw [if_neg hd]
      have e2 : waF ns ls d = 0 := by unfold waF; rw [e]; rfl
      rw [e] at h3
      rw [e2]
      exact sArea_nil _ _ ns ls v W h1 h2 h3)
  have CELLS := hid (fun W (h : Below (w.alloc (.cells #[.slice A ns.length c, .slice A' ls.length c'] 31)).heap.size (w.alloc (.cells #[.slice A ns.length c, .slice A' ls.length c'] 31)) W) => And.intro (B0.out.below h).c0 (B0.out.below h).c1)
  have C1 := hid (fun W (h : Below (w.alloc (.cells #[.slice A ns.length c, .slice A' ls.length c'] 31)).heap.size (w.alloc (.cells #[.slice A ns.length c, .slice A' ls.length c'] 31)) W) => sWO_any _ _ ns ls d W (HN.out.below h) (HL.out.below h) hbig)
  have C2 := hid (fun v W (h : Below (w.alloc (.cells #[.slice A ns.length c, .slice A' ls.length c'] 31)).heap.size (w.alloc (.cells #[.slice A ns.length c, .slice A' ls.length c'] 31)) W) h3 => AR.out v W (HN.out.below h) (HL.out.below h) h3)
  go_enter Try.func21, Try.ntmps21
  go_wp2_with fail
  refine wm_start (S := fun W => Below (w.alloc (.cells #[.slice A ns.length c, .slice A' ls.length c'] 31)).heap.size (w.alloc (.cells #[.slice A ns.length c, .slice A' ls.length c'] 31)) W) (by kernel_rfl) (Below.refl _ _).drew ?_
  refine wm_take (i := 0) (v := ?_) rfl (by kernel_rfl) (by kernel_rfl) (by kernel_rfl) (fun _ _ _ h => h) (by kernel_rfl) ?_ ?_
  rotate_left
  (focus (intro w hSw; obtain ⟨z0, z1⟩ := CELLS.out _ hSw; go_simp; try with_reducible rfl))
  simp only [Act.put, List.setIfInBounds_toArray, List.set_cons_zero, List.set_cons_succ, List.getElem_toArray, List.getElem_cons_succ, List.getElem_cons_zero, Nat.reduceAdd]
  refine wm_take (i := 1) (v := ?_) rfl (by kernel_rfl) (by kernel_rfl) (by kernel_rfl) (fun _ _ _ h => h) (by kernel_rfl) ?_ ?_
  rotate_left
  (focus (intro w hSw; obtain ⟨z0, z1⟩ := CELLS.out _ hSw; go_simp; try with_reducible rfl))
  simp only [Act.put, List.setIfInBounds_toArray, List.set_cons_zero, List.set_cons_succ, List.getElem_toArray, List.getElem_cons_succ, List.getElem_cons_zero, Nat.reduceAdd]
  refine wm_take (i := 2) (v := ?_) rfl (by kernel_rfl) (by kernel_rfl) (by kernel_rfl) (fun _ _ _ h => h) (by kernel_rfl) ?_ ?_
  rotate_left
  (focus (intro w hSw; obtain ⟨z0, z1⟩ := CELLS.out _ hSw; go_simp; try with_reducible rfl))
  simp only [Act.put, List.setIfInBounds_toArray, List.set_cons_zero, List.set_cons_succ, List.getElem_toArray, List.getElem_cons_succ, List.getElem_cons_zero, Nat.reduceAdd]
  refine wm_each (l := [3]) (by kernel_rfl) (by simp) ?_
  intro v1 hv1 hS1
  refine Each.cons rfl (fun K hK => ?_) Each.nil
  go_simp
  refine (C1.out v1 hS1).mono ?_
  rintro e w3 ⟨v, rfl, ho, hb3⟩
  have hS3 := then_ hS1 hb3 hS1.size
  (try dsimp only)
  refine hK.out _ _ ⟨hS3, ?_⟩
  clear hK K
  (try simp only [Act.put, List.setIfInBounds_toArray, List.set_cons_zero, List.set_cons_succ, List.getElem_toArray, List.getElem_cons_succ, List.getElem_cons_zero, Nat.reduceAdd])
  refine wm_each (l := [4]) (by kernel_rfl) (by simp) ?_
  intro v2 hv2 hS2
  have ho2 := (own_below ho hv2).ints (by omega)
  refine Each.cons rfl (fun K hK => ?_) Each.nil
  go_simp
  refine (C2.out _ v2 hS2 ho2).mono ?_
  rintro e w4 ⟨rfl, hb4⟩
  have hS4 := then_ hS2 hb4 hS2.size
  (try dsimp only)
  refine hK.out _ _ ⟨hS4, ?_⟩
  clear hK K
  (try simp only [Act.put, List.setIfInBounds_toArray, List.set_cons_zero, List.set_cons_succ, List.getElem_toArray, List.getElem_cons_succ, List.getElem_cons_zero, Nat.reduceAdd])
  refine wm_take (i := 5) (v := ?_) rfl (by kernel_rfl) (by kernel_rfl) (by kernel_rfl) (fun _ _ _ h => h) (by kernel_rfl) ?_ ?_
  rotate_left
  (focus (intro w hSw; skip; go_simp; try with_reducible rfl))
  simp only [Act.put, List.setIfInBounds_toArray, List.set_cons_zero, List.set_cons_succ, List.getElem_toArray, List.getElem_cons_succ, List.getElem_cons_zero, Nat.reduceAdd]
  refine wm_done (by kernel_rfl) ?_
  intro w9 hv9 hS9
  have S9 := hid (then_ S0.out hS9 S0.out.size)
  clear ho hv9 hS9 hS3 hS1 hv1 hb3 CELLS C1 C2 hS4 hb4 hS2 hv2 ho2
  go_wp2
  go_ret
  exact ⟨rfl, S9.out⟩
theorem hasInt_any (v : Value) (xs : List Int) (d : Int) (w : World) (hv : IntsAt w v xs) : Calls Try.prog 58 #[v, .int .i64 d] w fun e w' => e = .returned (.bool (decide (d ∈ xs))) ∧ w' = w := by
  obtain ⟨A, c, rfl, hm, hcell⟩ := hv
  have HC := hid hcell
  clear hcell
  have hlm : (xs.length : Int) ≤ 1000000000 := by omega
  go_enter Try.func58, Try.ntmps58
  go_wp2
  go_loop [9] (fun i => ∃ k : Nat, k ≤ xs.length ∧ i = .int .i64 k ∧ Hid (∀ j, j < k → xs[j]? ≠ some d)) (fun i => xs.length - (intOf i).toNat)
  case atStart => exact ⟨0, Nat.zero_le _, rfl, hid (fun j hj => by omega)⟩
  case round =>
    obtain ⟨k, hk, rfl, H⟩ := hrel
    by_cases hlt : k < xs.length
    · have hk0 : (0 : Int) ≤ (k : Int) := by omega
      have hk1 : (k : Int) < (xs.length : Int) := by omega
      obtain ⟨x, hx⟩ : ∃ x, xs[k]? = some x := ⟨_, List.getElem?_eq_getElem hlt⟩
      obtain ⟨b, off, rfl, hbb, h1⟩ := HC.out k x hx
      by_cases hq : x = d
      · subst hq
        have E := hid (List.mem_of_getElem? hx)
        clear hx hm
        go_wp2
        go_ret
        exact ⟨ret_bool (by rw [eq_comm, decide_eq_true_iff]; exact E.out), rfl⟩
      · have hq2 : (x == d) = false := by simpa using hq
        have H2 := hid (show ∀ j, j < k + 1 → xs[j]? ≠ some d from fun j hj => by
          by_cases e : j = k
          · rw [e, hx]; exact fun e => hq (Option.some.inj e)
          · exact H.out j (by omega))
        clear hx hq hm
        go_wp2
        go_round
        case rel => exact ⟨k + 1, by omega, by go_num, H2⟩
        case measure => simp [intOf]; omega
    · have he : k = xs.length := by omega
      subst he
      have E := hid (show d ∉ xs from fun h => by
        obtain ⟨i, hi⟩ := List.getElem?_of_mem h
        have hlt' : i < xs.length := by
          rcases Nat.lt_or_ge i xs.length with h' | h'
          · exact h'
          · rw [List.getElem?_eq_none h'] at hi; cases hi
        exact H.out i hlt' hi)
      go_wp2
      go_ret
      exact ⟨ret_bool (by rw [eq_comm, decide_eq_false_iff_not]; exact E.out), rfl⟩
theorem l06Has_any (v : Value) (xs : List Int) (d : Int) (w : World) (hv : IntsAt w v xs) : Calls Try.prog 56 #[v, .int .i64 d] w fun e w' => e = .returned (.bool (decide (d ∈ xs))) ∧ w' = w := by
  obtain ⟨A, c, rfl, hm, hcell⟩ := hv
  have HC := hid hcell
  clear hcell
  have hlm : (xs.length : Int) ≤ 1000000000 := by omega
  go_enter Try.func56, Try.ntmps56
  go_wp2
  go_loop [5] (fun i => ∃ k : Nat, k ≤ xs.length ∧ i = .int .i64 k ∧ Hid (∀ j, j < k → xs[j]? ≠ some d)) (fun i => xs.length - (intOf i).toNat)
  case atStart => exact ⟨0, Nat.zero_le _, rfl, hid (fun j hj => by omega)⟩
  case round =>
    obtain ⟨k, hk, rfl, H⟩ := hrel
    by_cases hlt : k < xs.length
    · have hk0 : (0 : Int) ≤ (k : Int) := by omega
      have hk1 : (k : Int) < (xs.length : Int) := by omega
      obtain ⟨x, hx⟩ : ∃ x, xs[k]? = some x := ⟨_, List.getElem?_eq_getElem hlt⟩
      obtain ⟨b, off, rfl, hbb, h1⟩ := HC.out k x hx
      by_cases hq : x = d
      · subst hq
        have E := hid (List.mem_of_getElem? hx)
        clear hx hm
        go_wp2
        go_ret
        exact ⟨ret_bool (by rw [eq_comm, decide_eq_true_iff]; exact E.out), rfl⟩
      · have hq2 : (x == d) = false := by simpa using hq
        have H2 := hid (show ∀ j, j < k + 1 → xs[j]? ≠ some d from fun j hj => by
          by_cases e : j = k
          · rw [e, hx]; exact fun e => hq (Option.some.inj e)
          · exact H.out j (by omega))
        clear hx hq hm
        go_wp2
        go_round
        case rel => exact ⟨k + 1, by omega, by go_num, H2⟩
        case measure => simp [intOf]; omega
    · have he : k = xs.length := by omega
      subst he
      have E := hid (show d ∉ xs from fun h => by
        obtain ⟨i, hi⟩ := List.getElem?_of_mem h
        have hlt' : i < xs.length := by
          rcases Nat.lt_or_ge i xs.length with h' | h'
          · exact h'
          · rw [List.getElem?_eq_none h'] at hi; cases hi
        exact H.out i hlt' hi)
      go_wp2
      go_ret
      exact ⟨ret_bool (by rw [eq_comm, decide_eq_false_iff_not]; exact E.out), rfl⟩
theorem sSW_any (vn vl : Value) (ns ls : List (Int × Int)) (d x : Int) (w : World) (hn : PairsAt w vn ns) (hl : PairsAt w vl ls) (hbig : ls.length ≤ 1048576) : Calls Try.prog 19 #[.agg #[vn, vl], .int .i64 d, .int .i64 x] w fun e w' => e = .returned (.bool (swF ns ls d x)) ∧ Below w.heap.size w w' := by
  have s0 : Below w.heap.size w (w.alloc (.cells #[vn, vl] 31)) := (Below.refl _ _).alloc (Nat.le_refl _) _
  have HN := hid (hn.below s0)
  have HL := hid (hl.below s0)
  have B0 := hid (BoxV.new w vn vl 31 w.heap.size rfl)
  have S0 := hid s0
  clear s0
  obtain ⟨A, c, rfl, hcn, hm, _⟩ := id hn
  obtain ⟨A', c', rfl, hcl, hm', _⟩ := id hl
  unfold maxLen at hm hm'
  clear hn hl
  have v0 := B0.out.c0
  have v1 := B0.out.c1
  have LE := woF_len ns ls d
  go_enter Try.func19, Try.ntmps19
  go_wp2_with fail
  refine (sWO_any _ _ ns ls d _ HN.out HL.out hbig).mono ?_
  rintro e w2 ⟨v, rfl, ho, hb⟩
  have HB := hid (then_ S0.out hb S0.out.size)
  have HI := hid (ho.at_ (by omega))
  obtain ⟨A9, c9, rfl⟩ := own_form ho
  clear ho hb
  go_wp2_with fail
  refine (l06Has_any _ _ x _ HI.out).mono ?_
  rintro e w3 ⟨rfl, rfl⟩
  go_wp2
  go_ret
  exact ⟨rfl, HB.out⟩
theorem iSW_any (vn vl : Value) (ns ls : List (Int × Int)) (d x : Int) (w : World) (hn : PairsAt w vn ns) (hl : PairsAt w vl ls) (hbig : ls.length ≤ 1048576) : Calls Try.prog 20 #[.agg #[vn, vl], .int .i64 d, .int .i64 x] w fun e w' => e = .returned (.bool (swF ns ls d x)) ∧ Below w.heap.size w w' := by
  have s0 : Below w.heap.size w (w.alloc (.cells #[vn, vl] 31)) := (Below.refl _ _).alloc (Nat.le_refl _) _
  have HN := hid (hn.below s0)
  have HL := hid (hl.below s0)
  have B0 := hid (BoxV.new w vn vl 31 w.heap.size rfl)
  have S0 := hid s0
  clear s0
  obtain ⟨A, c, rfl, hcn, hm, _⟩ := id hn
  obtain ⟨A', c', rfl, hcl, hm', _⟩ := id hl
  unfold maxLen at hm hm'
  clear hn hl
  have v0 := B0.out.c0
  have v1 := B0.out.c1
  have LE := woF_len ns ls d
  cases hd : isDart ns ls x
  · have HD := hid hd
    have E := hid (show swF ns ls d x = false by
      cases hs : swF ns ls d x
      · rfl
      · rw [swF_dart hs] at hd; cases hd)
    clear hd
    go_enter Try.func20, Try.ntmps20
    go_wp2_with fail
    refine (iHasDart_any _ _ ns ls _ _ HN.out HL.out).mono ?_
    rintro e w1 ⟨rfl, hb⟩
    rw [HD.out]
    go_wp2
    go_ret
    exact ⟨ret_bool (by rw [E.out]), then_ S0.out hb S0.out.size⟩
  · have HD := hid hd
    clear hd
    go_enter Try.func20, Try.ntmps20
    go_wp2_with fail
    refine (iHasDart_any _ _ ns ls _ _ HN.out HL.out).mono ?_
    rintro e w1 ⟨rfl, hb⟩
    rw [HD.out]
    have B0 := hid (B0.out.below hb)
    have S0 := hid (then_ S0.out hb S0.out.size)
    have HN := hid (HN.out.below hb)
    have HL := hid (HL.out.below hb)
    clear v0 v1
    have v0 := B0.out.c0
    have v1 := B0.out.c1
    have vlt := B0.out.lt
    clear hb
    go_wp2_with fail
    refine (iWO_any _ _ ns ls d _ HN.out HL.out hbig).mono ?_
    rintro e w2 ⟨v, rfl, ho, hb⟩
    have HB := hid (then_ S0.out hb S0.out.size)
    have HI := hid (ho.at_ (by omega))
    obtain ⟨A9, c9, rfl⟩ := own_form ho
    clear ho hb
    go_wp2_with fail
    refine (hasInt_any _ _ x _ HI.out).mono ?_
    rintro e w3 ⟨rfl, rfl⟩
    go_wp2
    go_ret
    exact ⟨ret_bool (by unfold swF; rfl), HB.out⟩
end Go.Proofs.Ytdhppajfdcfikaa
