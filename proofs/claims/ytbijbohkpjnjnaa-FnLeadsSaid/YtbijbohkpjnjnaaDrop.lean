/- What DropLead returns, in the program and in the reference: a new window without the lead, and whether there was one. No condition but the sizes that are named. -/
import Derived.Test.YtbijbohkpjnjnaaAdd
import Derived.StillTailTactics
namespace Go.Proofs.Ytbijbohkpjnjnaa
open Go.ChangeShapes Go.WideShapes Go.ChangeAt Go.RowKit
set_option maxHeartbeats 4000000
set_option maxRecDepth 100000
set_option linter.unusedSimpArgs false
set_option linter.unusedVariables false
def isLead (ns ls : List (Int × Int)) (k : Int) : Bool := winOkB ns ls && inB k 0 ((ls.length : Int) - 1)
def dlL (ns ls : List (Int × Int)) (k : Int) : List (Int × Int) := if isLead ns ls k = true then ls.take k.toNat ++ ls.drop (k.toNat + 1) else ls
theorem OwnR.take {B g n c : Nat} {T : TypeId} {w : World} {ns : List (Int × Int)} (h : OwnR B T w (.slice (some ⟨g, 0, none⟩) n c) ns) (k : Nat) (hk : k ≤ ns.length) : OwnR B T w (.slice (some ⟨g, 0, none⟩) k c) (ns.take k) := by
  have hl : (ns.take k).length = k := by rw [List.length_take]; omega
  refine ⟨⟨by rw [flat_length, hl]; omega, ?_⟩, by rw [hl]; have := h.2; omega⟩
  rcases h.1.2 with ⟨a, _⟩ | ⟨g', cap, cur, a, b, d, e, f, s, t⟩
  · cases a
  · injection a with a1 a2 a3
    have e1 := Option.some.inj a1
    injection e1 with e1 _ _
    subst e1; subst a3
    refine .inr ⟨g, c, cur, by rw [hl], b, d, by rw [hl]; omega, f, s, ?_⟩
    rw [hl, ← flat_take, ← t, List.take_take, Nat.min_eq_left (Nat.mul_le_mul_right 2 hk)]
theorem PairsAt.drop {w : World} {b off n c : Nat} {ns : List (Int × Int)} (h : PairsAt w (.slice (some ⟨b, off, none⟩) n c) ns) (k : Nat) (hk : k ≤ ns.length) : PairsAt w (.slice (some ⟨b, off + k * 2, none⟩) (ns.length - k) (c - k)) (ns.drop k) := by
  obtain ⟨A, c', e, h1, h2, h3⟩ := h
  injection e with e1 e2 e3
  subst e3
  refine ⟨_, _, by rw [List.length_drop], by rw [List.length_drop]; omega, by omega, fun i x y hi => ?_⟩
  rw [List.getElem?_drop] at hi
  obtain ⟨b', off', e4, h5, h6, h7⟩ := h3 (k + i) x y hi
  rw [← e1] at e4
  have e5 := Option.some.inj e4
  injection e5 with e5 e6 _
  subst e5; subst e6
  refine ⟨b, off + k * 2, rfl, h5, ?_, ?_⟩
  · rw [show off + k * 2 + i * 2 = off + (k + i) * 2 by omega]; exact h6
  · rw [show off + k * 2 + i * 2 + 1 = off + (k + i) * 2 + 1 by omega]; exact h7
theorem sDrop_any (vn vl : Value) (ns ls : List (Int × Int)) (k : Int) (w : World) (hn : PairsAt w vn ns) (hl : PairsAt w vl ls) (h1 : ns.length ≤ 1100000) (h2 : ls.length ≤ 1100000) : Calls Try.prog 22 #[.agg #[vn, vl], .int .i64 k] w (PairWinR ns (dlL ns ls k) (isLead ns ls k) w) := by
  obtain ⟨W0, hW0⟩ : ∃ W : World, W = (w.alloc (.cells #[vn, vl] 27)).alloc (.cells #[.slice none 0 0, .slice none 0 0] 27) := ⟨_, rfl⟩
  have s0 : Below w.heap.size w W0 := by rw [hW0]; exact ((Below.refl _ _).alloc (Nat.le_refl _) _).alloc (by simp) _
  have B0 : Hid (BoxV W0 w.heap.size vn vl) := hid (by rw [hW0]; exact (BoxV.new w vn vl _ _ rfl).alloc _)
  have R0 : Hid (Blk W0 (w.heap.size + 1) 27 #[.slice none 0 0, .slice none 0 0]) := hid (by
    rw [hW0]
    have := Blk.new (w.alloc (.cells #[vn, vl] 27)) 27 #[.slice none 0 0, .slice none 0 0]
    simpa using this)
  have Z0 : Hid (W0.heap.size = w.heap.size + 1 + 1) := hid (by rw [hW0]; simp)
  have S0 := hid s0
  clear s0
  obtain ⟨A, c, rfl, _, _, _⟩ := id hn
  obtain ⟨A', c', rfl, _, _, _⟩ := id hl
  obtain ⟨S, hS⟩ : ∃ S : World → Prop, S = fun W => Below (w.heap.size + 1) W0 W ∧ w.heap.size + 1 < W.heap.size ∧ ∃ u v, Blk W (w.heap.size + 1) 27 #[u, v] := ⟨_, rfl⟩
  have BW : Hid (∀ W, S W → Below w.heap.size w W) := hid (fun W h => by rw [hS] at h; exact S0.out.trans (h.1.mono (by omega)))
  have SZ : Hid (∀ W, S W → w.heap.size + 1 < W.heap.size) := hid (fun W h => by rw [hS] at h; exact h.2.1)
  have SR : Hid (∀ W, S W → ∃ u v, Blk W (w.heap.size + 1) 27 #[u, v]) := hid (fun W h => by rw [hS] at h; exact h.2.2)
  have CELLS : Hid (∀ W, S W → W.cell? ⟨w.heap.size, 0, none⟩ = some (.slice A ns.length c) ∧ W.cell? ⟨w.heap.size, 1, none⟩ = some (.slice A' ls.length c')) := hid (fun W h => by
    rw [hS] at h
    exact ⟨(h.1.cell (p := ⟨w.heap.size, 0, none⟩) (by show w.heap.size < w.heap.size + 1; omega)).trans B0.out.c0, (h.1.cell (p := ⟨w.heap.size, 1, none⟩) (by show w.heap.size < w.heap.size + 1; omega)).trans B0.out.c1⟩)
  have PN : Hid (∀ W, S W → PairsAt W (.slice A ns.length c) ns) := hid (fun W h => hn.below (BW.out W h))
  have PL : Hid (∀ W, S W → PairsAt W (.slice A' ls.length c') ls) := hid (fun W h => hl.below (BW.out W h))
  have UP : Hid (∀ W W', S W → Below W.heap.size W W' → S W') := hid (fun W W' h hb => by
    rw [hS] at h ⊢
    obtain ⟨a, b, u, v, k⟩ := h
    exact ⟨a.trans (hb.mono (by omega)), Nat.lt_of_lt_of_le b hb.size, u, v, k.below hb k.lt⟩)
  have ST : Hid (∀ W p1 p2, S W → S ((W.setCell ⟨w.heap.size + 1, 0, none⟩ p1).setCell ⟨w.heap.size + 1, 1, none⟩ p2) ∧ Blk ((W.setCell ⟨w.heap.size + 1, 0, none⟩ p1).setCell ⟨w.heap.size + 1, 1, none⟩ p2) (w.heap.size + 1) 27 #[p1, p2]) := hid (fun W p1 p2 h => by
    rw [hS] at h ⊢
    obtain ⟨a, b, u, v, k⟩ := h
    have k2 := (k.set_ 0 p1).set_ 1 p2
    exact ⟨⟨(a.setCell (p := ⟨w.heap.size + 1, 0, none⟩) (Nat.le_refl _) _).setCell (p := ⟨w.heap.size + 1, 1, none⟩) (Nat.le_refl _) _, by simpa [World.setCell] using b, _, _, k2⟩, k2⟩)
  have UPG : Hid (∀ W W' row, S W → W.grownBy W' row → (∀ k, row = some k → w.heap.size + 1 + 1 ≤ k) → S W') := hid (fun W W' row h hg hk => by
    rw [hS] at h ⊢
    obtain ⟨a, b, u, v, k⟩ := h
    refine ⟨⟨hg.os.trans a.os, hg.tape.trans a.tape, hg.output.trans a.output, Nat.le_trans a.size hg.size, fun j hj => ?_⟩, Nat.lt_of_lt_of_le b hg.size, u, v, ?_⟩
    · rw [hg.block j (by have := a.size; have := Z0.out; omega) (fun e => by have := hk j e.symm; omega)]; exact a.block j hj
    · unfold Blk at k ⊢; rw [hg.block _ b (fun e => by have := hk _ e.symm; omega)]; exact k)
  have S1 : S W0 := by
    rw [hS]
    exact ⟨Below.refl _ _, by show w.heap.size + 1 < W0.heap.size; have := Z0.out; omega, _, _, R0.out⟩
  have ht1 := Try.underlying24
  have ht2 := Try.underlying25
  clear hn hl hS
  have Z1 := Z0.out
  obtain ⟨z0, z1⟩ := CELLS.out _ S1
  go_enter Try.func22, Try.ntmps22
  go_wp2_with fail
  rw [← hW0]
  clear hW0
  refine (sCopy_any _ _ ns ls _ (PN.out _ S1) (PL.out _ S1) (by omega) (by omega)).mono ?_
  rintro e w1 ⟨p1, p2, rfl, o1, o2, hb⟩
  have hS1 := UP.out _ _ S1 hb
  obtain ⟨A1, c1, rfl⟩ := o1.form
  obtain ⟨A2, c2, rfl⟩ := o2.form
  have a1 : Below w1.heap.size w1 (w1.alloc (.cells #[.slice A1 ns.length c1, .slice A2 ls.length c2] 27)) := (Below.refl _ _).alloc (Nat.le_refl _) _
  have hS2 := UP.out _ _ hS1 a1
  replace o1 := o1.below a1
  replace o2 := o2.below a1
  have x8 := Blk.new w1 27 #[.slice A1 ns.length c1, .slice A2 ls.length c2]
  have hz1 := hb.size
  clear hb a1 z0 z1
  obtain ⟨z0, z1⟩ := CELLS.out _ hS2
  go_wp2_with fail
  obtain ⟨W2, hW2⟩ : ∃ W, W = w1.alloc (.cells #[.slice A1 ns.length c1, .slice A2 ls.length c2] 27) := ⟨_, rfl⟩
  rw [← hW2] at hS2 o1 o2 x8 z0 z1 ⊢
  obtain ⟨g8, hg8⟩ : ∃ g, g = w1.heap.size := ⟨_, rfl⟩
  rw [← hg8] at x8 hz1 ⊢
  clear hW2 hg8 hS1
  refine (sWin_any _ _ ns ls _ (PN.out _ hS2) (PL.out _ hS2)).mono ?_
  rintro e w3 ⟨rfl, hb⟩
  have hS3 := UP.out _ _ hS2 hb
  replace o1 := o1.below hb
  replace o2 := o2.below hb
  replace x8 := x8.below hb x8.lt
  clear hb z0 z1 hS2
  obtain ⟨z0, z1⟩ := CELLS.out _ hS3
  have y0 : w3.cell? ⟨g8, 0, none⟩ = some (.slice A1 ns.length c1) := by rw [x8.cell]; rfl
  have y1 : w3.cell? ⟨g8, 1, none⟩ = some (.slice A2 ls.length c2) := by rw [x8.cell]; rfl
  have NO := hid (show OwnR w.heap.size 38 ((w3.setCell ⟨w.heap.size + 1, 0, none⟩ (.slice A1 ns.length c1)).setCell ⟨w.heap.size + 1, 1, none⟩ (.slice A2 ls.length c2)) (.slice A1 ns.length c1) ns from ((o1.set_low (by omega) _ _).set_low (by omega) _ _).less (by omega))
  have LO := hid (show OwnR w.heap.size 30 ((w3.setCell ⟨w.heap.size + 1, 0, none⟩ (.slice A1 ns.length c1)).setCell ⟨w.heap.size + 1, 1, none⟩ (.slice A2 ls.length c2)) (.slice A2 ls.length c2) ls from ((o2.set_low (by omega) _ _).set_low (by omega) _ _).less (by omega))
  have HK := hid (show isLead ns ls k = true → 0 ≤ k ∧ k ≤ (ls.length : Int) - 1 from fun hw => by
    unfold isLead inB at hw
    simp only [Bool.and_eq_true, decide_eq_true_iff] at hw
    exact hw.2)
  have O1 := hid o1
  have O2 := hid o2
  have X8 := hid x8
  clear o1 o2 x8
  have hl9 : (ls.length : Int) ≤ 1100000 := by omega
  have ql : IntKind.i64.wrap ((ls.length : Int) - 1) = (ls.length : Int) - 1 := IntWalk.i64_in _ (by omega)
  cases hwo : winOkB ns ls
  · have hw : isLead ns ls k = false := by unfold isLead; rw [hwo]; rfl
    have EQ2 := hid hw
    have EQ1 := hid (show dlL ns ls k = ls by unfold dlL; rw [hw]; rfl)
    clear hw hwo
    obtain ⟨u0, u1, hR⟩ := SR.out _ hS3
    have r0 : w3.cell? ⟨w.heap.size + 1, 0, none⟩ = some u0 := by rw [hR.cell]; rfl
    have r1 : w3.cell? ⟨w.heap.size + 1, 1, none⟩ = some u1 := by rw [hR.cell]; rfl
    have f0 : w3.frozen? ⟨w.heap.size + 1, 0, none⟩ = false := hR.frozen 0
    have f1 : w3.frozen? ⟨w.heap.size + 1, 1, none⟩ = false := hR.frozen 1
    obtain ⟨hS9, hR2⟩ := ST.out w3 (.slice A1 ns.length c1) (.slice A2 ls.length c2) hS3
    have b9 := BW.out _ hS9
    have t0 : ((w3.setCell ⟨w.heap.size + 1, 0, none⟩ (.slice A1 ns.length c1)).setCell ⟨w.heap.size + 1, 1, none⟩ (.slice A2 ls.length c2)).cell? ⟨w.heap.size + 1, 0, none⟩ = some (.slice A1 ns.length c1) := by rw [hR2.cell]; rfl
    have t1 : ((w3.setCell ⟨w.heap.size + 1, 0, none⟩ (.slice A1 ns.length c1)).setCell ⟨w.heap.size + 1, 1, none⟩ (.slice A2 ls.length c2)).cell? ⟨w.heap.size + 1, 1, none⟩ = some (.slice A2 ls.length c2) := by rw [hR2.cell]; rfl
    clear hS9 hR hR2
    go_wp2
    exact bodyPost_ret (v := .tuple #[.agg #[(.slice A1 ns.length c1), (.slice A2 ls.length c2)], .bool false]) (by simp [results, Try.results22, go_sem, t0, t1]) rfl ⟨_, _, ret_val (by rw [EQ2.out]), NO.out, (by rw [EQ1.out]; exact LO.out), b9⟩
  · cases hin : inB k 0 ((ls.length : Int) - 1)
    · have hw : isLead ns ls k = false := by unfold isLead; rw [hwo, hin]; rfl
      have EQ2 := hid hw
      have EQ1 := hid (show dlL ns ls k = ls by unfold dlL; rw [hw]; rfl)
      have HIN := hid hin
      clear hw hwo hin
      obtain ⟨u0, u1, hR⟩ := SR.out _ hS3
      have r0 : w3.cell? ⟨w.heap.size + 1, 0, none⟩ = some u0 := by rw [hR.cell]; rfl
      have r1 : w3.cell? ⟨w.heap.size + 1, 1, none⟩ = some u1 := by rw [hR.cell]; rfl
      have f0 : w3.frozen? ⟨w.heap.size + 1, 0, none⟩ = false := hR.frozen 0
      have f1 : w3.frozen? ⟨w.heap.size + 1, 1, none⟩ = false := hR.frozen 1
      obtain ⟨hS9, hR2⟩ := ST.out w3 (.slice A1 ns.length c1) (.slice A2 ls.length c2) hS3
      have b9 := BW.out _ hS9
      have t0 : ((w3.setCell ⟨w.heap.size + 1, 0, none⟩ (.slice A1 ns.length c1)).setCell ⟨w.heap.size + 1, 1, none⟩ (.slice A2 ls.length c2)).cell? ⟨w.heap.size + 1, 0, none⟩ = some (.slice A1 ns.length c1) := by rw [hR2.cell]; rfl
      have t1 : ((w3.setCell ⟨w.heap.size + 1, 0, none⟩ (.slice A1 ns.length c1)).setCell ⟨w.heap.size + 1, 1, none⟩ (.slice A2 ls.length c2)).cell? ⟨w.heap.size + 1, 1, none⟩ = some (.slice A2 ls.length c2) := by rw [hR2.cell]; rfl
      clear hS9 hR hR2
      go_wp2_with (go_at_call 34; refine (l01In_any _ _ _ _).mono ?_; rintro e w' ⟨rfl, rfl⟩; rw [HIN.out])
      exact bodyPost_ret (v := .tuple #[.agg #[(.slice A1 ns.length c1), (.slice A2 ls.length c2)], .bool false]) (by simp [results, Try.results22, go_sem, t0, t1]) rfl ⟨_, _, ret_val (by rw [EQ2.out]), NO.out, (by rw [EQ1.out]; exact LO.out), b9⟩
    · have hw : isLead ns ls k = true := by unfold isLead; rw [hwo, hin]; rfl
      have hk := HK.out hw
      have EQ2 := hid hw
      have EQ1 := hid (show dlL ns ls k = ls.take k.toNat ++ ls.drop (k.toNat + 1) by unfold dlL; rw [hw]; rfl)
      have HIN := hid hin
      obtain ⟨j, rfl⟩ : ∃ j : Nat, k = (j : Int) := ⟨k.toNat, by omega⟩
      rw [show ((j : Int)).toNat = j from rfl] at EQ1
      clear hw hwo hin hk y0 y1 NO LO
      have hj : j < ls.length := by have := HK.out EQ2.out; omega
      go_wp2_with (go_at_call 34; refine (l01In_any _ _ _ _).mono ?_; rintro e w' ⟨rfl, rfl⟩; rw [HIN.out])
      have hA : ∃ b off, A' = some ⟨b, off, none⟩ := by
        obtain ⟨A9, c9, e, _, _, hc⟩ := PL.out _ hS3
        injection e with e _ _
        subst e
        obtain ⟨b, off, e, _⟩ := hc j (ls[j]'hj).1 (ls[j]'hj).2 (by rw [List.getElem?_eq_getElem hj])
        exact ⟨b, off, e⟩
      obtain ⟨b', off', rfl⟩ := hA
      have hcap : ls.length ≤ c' ∧ c' ≤ 9223372036854775807 := by
        obtain ⟨A9, c9, e, q1, q2, _⟩ := PL.out _ hS3
        injection e with _ _ e
        subst e
        unfold maxLen at q2
        omega
      obtain ⟨hcap1, hcap2⟩ := hcap
      have hj0 : (0 : Int) ≤ (j : Int) := by omega
      have hj1 : (j : Int) < (ls.length : Int) := by omega
      have ljx : ls.length ≤ 1100000 := h2
      have q1 : IntKind.i64.wrap ((j : Int) + 1) = (j : Int) + 1 := IntWalk.i64_in _ (by omega)
      have hjc : j ≤ c' := by omega
      have hjl : j + 1 ≤ ls.length := by omega
      have hji0 : (0 : Int) ≤ (j : Int) + 1 := by omega
      have hji1 : (j : Int) + 1 ≤ (ls.length : Int) := by omega
      have L1 := hid O1.out.lt
      have hg8 := X8.out.lt
      obtain ⟨S6, hS6⟩ : ∃ S6 : World → Prop, S6 = fun W => S W ∧ w3.heap.size ≤ W.heap.size ∧ (∃ u, Blk W g8 27 #[.slice A1 ns.length c1, u]) ∧ OwnR W0.heap.size 38 W (.slice A1 ns.length c1) ns := ⟨_, rfl⟩
      have SS : Hid (∀ W, S6 W → S W) := hid (fun W h => by rw [hS6] at h; exact h.1)
      have SB : Hid (∀ W, S6 W → w3.heap.size ≤ W.heap.size) := hid (fun W h => by rw [hS6] at h; exact h.2.1)
      have SK : Hid (∀ W, S6 W → ∃ u, Blk W g8 27 #[.slice A1 ns.length c1, u]) := hid (fun W h => by rw [hS6] at h; exact h.2.2.1)
      have SO : Hid (∀ W, S6 W → OwnR W0.heap.size 38 W (.slice A1 ns.length c1) ns) := hid (fun W h => by rw [hS6] at h; exact h.2.2.2)
      have UPG6 : Hid (∀ W W' row, S6 W → W.grownBy W' row → (∀ k, row = some k → w3.heap.size ≤ k) → S6 W') := hid (fun W W' row h hg hk => by
        have hh := h
        rw [hS6] at h ⊢
        obtain ⟨a, b, ⟨u, x⟩, o⟩ := h
        refine ⟨UPG.out _ _ _ a hg (fun k e => by have := hk k e; omega), Nat.le_trans b hg.size, ⟨u, x.grown hg (fun e => by have := hk _ e.symm; omega)⟩, World.ownsRow.kept o.1 hg ?_, o.2⟩
        cases hb : (Value.slice A1 ns.length c1).ownBlock with
        | none => exact .inl rfl
        | some g => exact .inr fun e => by have h1 := (L1.out g hb).2; have h2 := hk g e.symm; omega)
      have UP6 : Hid (∀ W W', S6 W → Below W.heap.size W W' → S6 W') := hid (fun W W' h hb => UPG6.out W W' none h ⟨hb.os, hb.tape, hb.output, hb.size, fun k hk _ => hb.block k hk⟩ (by simp))
      have ST6 : Hid (∀ W v, S6 W → S6 (W.setCell ⟨g8, 1, none⟩ v) ∧ Blk (W.setCell ⟨g8, 1, none⟩ v) g8 27 #[.slice A1 ns.length c1, v]) := hid (fun W v h => by
        rw [hS6] at h ⊢
        obtain ⟨a, b, ⟨u, x⟩, o⟩ := h
        have x2 := x.set_ 1 v
        exact ⟨⟨UPG.out _ _ _ a (grown_set W g8 1 v) (fun k e => by have := Option.some.inj e; omega), by simpa [World.setCell] using b, ⟨_, x2⟩, o.set_far (World.ownsRow.other o.1 x (by decide)) 1 v⟩, x2⟩)
      have SD : S6 w3.drew := by
        rw [hS6]
        have hbd : Below w3.heap.size w3 w3.drew := (Below.refl _ _).drew
        exact ⟨UP.out _ _ hS3 hbd, Nat.le_refl _, ⟨_, X8.out.below hbd X8.out.lt⟩, O1.out.below hbd⟩
      clear hS6 hS3 z0 z1 X8 O1 O2
      refine wm_start (S := S6) (by kernel_rfl) SD ?_
      refine wm_take (i := 1) (v := ?_) rfl (by kernel_rfl) (by kernel_rfl) (by kernel_rfl) (fun _ _ _ h => h) (by kernel_rfl) ?_ ?_
      rotate_left
      (focus (intro w hSw; obtain ⟨z0, z1⟩ := CELLS.out _ (SS.out _ hSw); go_simp; try with_reducible rfl))
      simp only [Act.put, List.setIfInBounds_toArray, List.set_cons_zero, List.set_cons_succ, List.getElem_toArray, List.getElem_cons_succ, List.getElem_cons_zero, Nat.reduceAdd]
      refine wm_take (i := 2) (v := ?_) rfl (by kernel_rfl) (by kernel_rfl) (by kernel_rfl) (fun _ _ _ h => h) (by kernel_rfl) ?_ ?_
      rotate_left
      (focus (intro w hSw; obtain ⟨z0, z1⟩ := CELLS.out _ (SS.out _ hSw); go_simp; try with_reducible rfl))
      simp only [Act.put, List.setIfInBounds_toArray, List.set_cons_zero, List.set_cons_succ, List.getElem_toArray, List.getElem_cons_succ, List.getElem_cons_zero, Nat.reduceAdd]
      refine wm_take (i := 3) (v := ?_) rfl (by kernel_rfl) (by kernel_rfl) (by kernel_rfl) (fun _ _ _ h => h) (by kernel_rfl) ?_ ?_
      rotate_left
      (focus (intro w hSw; obtain ⟨z0, z1⟩ := CELLS.out _ (SS.out _ hSw); go_simp; try with_reducible rfl))
      simp only [Act.put, List.setIfInBounds_toArray, List.set_cons_zero, List.set_cons_succ, List.getElem_toArray, List.getElem_cons_succ, List.getElem_cons_zero, Nat.reduceAdd]
      refine wm_take (i := 4) (v := ?_) rfl (by kernel_rfl) (by kernel_rfl) (by kernel_rfl) (fun _ _ _ h => h) (by kernel_rfl) ?_ ?_
      rotate_left
      (focus (intro w hSw; obtain ⟨z0, z1⟩ := CELLS.out _ (SS.out _ hSw); go_simp; try with_reducible rfl))
      simp only [Act.put, List.setIfInBounds_toArray, List.set_cons_zero, List.set_cons_succ, List.getElem_toArray, List.getElem_cons_succ, List.getElem_cons_zero, Nat.reduceAdd]
      refine wm_take (i := 6) (v := ?_) rfl (by kernel_rfl) (by kernel_rfl) (by kernel_rfl) (fun _ _ _ h => h) (by kernel_rfl) ?_ ?_
      rotate_left
      (focus (intro w hSw; obtain ⟨z0, z1⟩ := CELLS.out _ (SS.out _ hSw); go_simp; try with_reducible rfl))
      simp only [Act.put, List.setIfInBounds_toArray, List.set_cons_zero, List.set_cons_succ, List.getElem_toArray, List.getElem_cons_succ, List.getElem_cons_zero, Nat.reduceAdd]
      refine wm_take (i := 7) (v := ?_) rfl (by kernel_rfl) (by kernel_rfl) (by kernel_rfl) (fun _ _ _ h => h) (by kernel_rfl) ?_ ?_
      rotate_left
      (focus (intro w hSw; obtain ⟨z0, z1⟩ := CELLS.out _ (SS.out _ hSw); go_simp; try with_reducible rfl))
      simp only [Act.put, List.setIfInBounds_toArray, List.set_cons_zero, List.set_cons_succ, List.getElem_toArray, List.getElem_cons_succ, List.getElem_cons_zero, Nat.reduceAdd]
      refine wm_take (i := 8) (v := ?_) rfl (by kernel_rfl) (by kernel_rfl) (by kernel_rfl) (fun _ _ _ h => h) (by kernel_rfl) ?_ ?_
      rotate_left
      (focus (intro w hSw; obtain ⟨z0, z1⟩ := CELLS.out _ (SS.out _ hSw); go_simp; try with_reducible rfl))
      simp only [Act.put, List.setIfInBounds_toArray, List.set_cons_zero, List.set_cons_succ, List.getElem_toArray, List.getElem_cons_succ, List.getElem_cons_zero, Nat.reduceAdd]
      refine wm_take (i := 9) (v := ?_) rfl (by kernel_rfl) (by kernel_rfl) (by kernel_rfl) (fun _ _ _ h => h) (by kernel_rfl) ?_ ?_
      rotate_left
      (focus (intro w hSw; obtain ⟨z0, z1⟩ := CELLS.out _ (SS.out _ hSw); go_simp; try with_reducible rfl))
      simp only [Act.put, List.setIfInBounds_toArray, List.set_cons_zero, List.set_cons_succ, List.getElem_toArray, List.getElem_cons_succ, List.getElem_cons_zero, Nat.reduceAdd]
      refine wm_take (i := 10) (v := ?_) rfl (by kernel_rfl) (by kernel_rfl) (by kernel_rfl) (fun _ _ _ h => h) (by kernel_rfl) ?_ ?_
      rotate_left
      (focus (intro w hSw; obtain ⟨z0, z1⟩ := CELLS.out _ (SS.out _ hSw); go_simp; try with_reducible rfl))
      simp only [Act.put, List.setIfInBounds_toArray, List.set_cons_zero, List.set_cons_succ, List.getElem_toArray, List.getElem_cons_succ, List.getElem_cons_zero, Nat.reduceAdd]
      obtain ⟨ad, had⟩ : ∃ ad : Option Addr, ad = if c' = j + 1 then some ⟨b', off', none⟩ else some ⟨b', off' + (j + 1) * 2, none⟩ := ⟨_, rfl⟩
      rw [← had]
      have PX : Hid (∀ W, S6 W → PairsAt W (.slice ad (ls.length - (j + 1)) (c' - (j + 1))) (ls.drop (j + 1))) := hid (fun W h => by
        rw [had]
        by_cases e : c' = j + 1
        · rw [if_pos e]
          have e2 : ls.drop (j + 1) = [] := List.drop_eq_nil_of_le (by omega)
          rw [e2]
          exact ⟨_, _, by rw [show ls.length - (j + 1) = ([] : List (Int × Int)).length by simp; omega], by simp, by unfold maxLen; omega, fun i x y hi => by simp at hi⟩
        · rw [if_neg e]
          exact PairsAt.drop (PL.out _ (SS.out _ h)) (j + 1) (by omega))
      clear had
      have PT : Hid (∀ W, S6 W → PairsAt W (.slice (some ⟨b', off', none⟩) j c') (ls.take j)) := hid (fun W h => (PL.out _ (SS.out _ h)).take j (by omega))
      refine wm_each (l := [0]) (by kernel_rfl) (by simp) ?_
      intro v0 hv0 hS0
      refine Each.cons rfl (fun K hK => ?_) Each.nil
      have g0 := SB.out _ hS0
      have hS := UP6.out _ _ hS0 ((Below.refl _ _).alloc (Nat.le_refl _) (.cells #[] 30))
      have lL := OwnR.lit w3.heap.size 30 v0 g0
      go_simp
      refine hK.out _ _ ⟨hS, ?_⟩
      clear hK K hS hv0 hS0
      generalize hga : v0.heap.size = la at lL g0 ⊢
      generalize hgw : v0.alloc _ = vA at lL ⊢
      clear hga hgw
      (try simp only [Act.put, List.setIfInBounds_toArray, List.set_cons_zero, List.set_cons_succ, List.getElem_toArray, List.getElem_cons_succ, List.getElem_cons_zero, Nat.reduceAdd])
      refine wm_each (l := [5]) (by kernel_rfl) (by simp) ?_
      intro v1 hv1 hS1
      replace lL := lL.below hv1
      refine Each.cons rfl (fun K hK => ?_) Each.nil
      rw [if_pos (by kernel_rfl)]
      refine wp_append_pairs _ _ 25 30 rfl ht2 infoLead w3.heap.size (.slice (some ⟨la, 0, none⟩) 0 0) [] rfl lL _ (ls.take j) rfl (PT.out _ hS1) (by rw [List.length_take]; simp; omega) (SB.out _ hS1) ?_
      intro p w5 ho hg
      have hS := UPG6.out _ _ _ hS1 hg (fun k e => (lL.lt k e).1)
      rw [List.nil_append] at ho
      obtain ⟨A5, c5, rfl⟩ := ho.form
      (try dsimp only)
      refine hK.out _ _ ⟨hS, ?_⟩
      clear hK K hS hg lL hv1 hS1
      (try simp only [Act.put, List.setIfInBounds_toArray, List.set_cons_zero, List.set_cons_succ, List.getElem_toArray, List.getElem_cons_succ, List.getElem_cons_zero, Nat.reduceAdd])
      refine wm_each (l := [11]) (by kernel_rfl) (by simp) ?_
      intro v2 hv2 hS2
      replace ho := ho.below hv2
      refine Each.cons rfl (fun K hK => ?_) Each.nil
      rw [if_pos (by kernel_rfl)]
      refine wp_append_pairs _ _ 25 30 rfl ht2 infoLead w3.heap.size _ (ls.take j) rfl ho _ (ls.drop (j + 1)) rfl (PX.out _ hS2) (by rw [List.length_take, List.length_drop]; omega) (SB.out _ hS2) ?_
      intro p w6 hown hg
      have hS := UPG6.out _ _ _ hS2 hg (fun k e => (ho.lt k e).1)
      obtain ⟨A7, c7, rfl⟩ := hown.form
      generalize ls.take j ++ ls.drop (j + 1) = l9 at hown EQ1 ⊢
      (try dsimp only)
      refine hK.out _ _ ⟨hS, ?_⟩
      clear hK K hS hg ho hv2 hS2
      (try simp only [Act.put, List.setIfInBounds_toArray, List.set_cons_zero, List.set_cons_succ, List.getElem_toArray, List.getElem_cons_succ, List.getElem_cons_zero, Nat.reduceAdd])
      refine wm_take (i := 12) (v := ?_) rfl (by kernel_rfl) (by kernel_rfl) (by kernel_rfl) (fun _ _ _ h => h) (by kernel_rfl) ?_ ?_
      rotate_left
      (focus (intro w hSw; obtain ⟨z0, z1⟩ := CELLS.out _ (SS.out _ hSw); go_simp; try with_reducible rfl))
      simp only [Act.put, List.setIfInBounds_toArray, List.set_cons_zero, List.set_cons_succ, List.getElem_toArray, List.getElem_cons_succ, List.getElem_cons_zero, Nat.reduceAdd]
      refine wm_each (l := [13]) (by kernel_rfl) (by simp) ?_
      intro v3 hv3 hS3
      replace hown := hown.below hv3
      obtain ⟨u, x8⟩ := SK.out _ hS3
      have e0 : v3.cell? ⟨g8, 1, none⟩ = some u := by rw [x8.cell]; rfl
      have e1 : v3.frozen? ⟨g8, 1, none⟩ = false := x8.frozen 1
      refine Each.cons rfl (fun K hK => ?_) Each.nil
      go_simp
      obtain ⟨hS, x9⟩ := ST6.out v3 (.slice A7 l9.length c7) hS3
      replace hown := hown.set_far (World.ownsRow.other hown.1 x8 (by decide)) 1 (.slice A7 l9.length c7)
      refine hK.out _ _ ⟨hS, ?_⟩
      clear hK K e0 e1 x8
      generalize v3.setCell _ _ = V0 at hS x9 hown ⊢
      refine wm_done (by kernel_rfl) ?_
      intro V hV hSV
      replace hown := hown.below hV
      replace x9 := x9.below hV x9.lt
      have hSX := SS.out _ hSV
      have lz := SZ.out _ hSX
      have y0 : V.cell? ⟨g8, 0, none⟩ = some (.slice A1 ns.length c1) := by rw [x9.cell]; rfl
      have y1 : V.cell? ⟨g8, 1, none⟩ = some (.slice A7 l9.length c7) := by rw [x9.cell]; rfl
      have NO := hid (show OwnR w.heap.size 38 ((V.setCell ⟨w.heap.size + 1, 0, none⟩ (.slice A1 ns.length c1)).setCell ⟨w.heap.size + 1, 1, none⟩ (.slice A7 l9.length c7)) (.slice A1 ns.length c1) ns from (((SO.out _ hSV).set_low (by omega) _ _).set_low (by omega) _ _).less (by omega))
      have LO := hid (show OwnR w.heap.size 30 ((V.setCell ⟨w.heap.size + 1, 0, none⟩ (.slice A1 ns.length c1)).setCell ⟨w.heap.size + 1, 1, none⟩ (.slice A7 l9.length c7)) (.slice A7 l9.length c7) l9 from ((hown.set_low (by omega) _ _).set_low (by omega) _ _).less (by omega))
      clear hown x9 hS hV hv3 hS3
      obtain ⟨u0, u1, hR⟩ := SR.out _ hSX
      have r0 : V.cell? ⟨w.heap.size + 1, 0, none⟩ = some u0 := by rw [hR.cell]; rfl
      have r1 : V.cell? ⟨w.heap.size + 1, 1, none⟩ = some u1 := by rw [hR.cell]; rfl
      have f0 : V.frozen? ⟨w.heap.size + 1, 0, none⟩ = false := hR.frozen 0
      have f1 : V.frozen? ⟨w.heap.size + 1, 1, none⟩ = false := hR.frozen 1
      obtain ⟨hS9, hR2⟩ := ST.out V (.slice A1 ns.length c1) (.slice A7 l9.length c7) hSX
      have b9 := BW.out _ hS9
      have t0 : ((V.setCell ⟨w.heap.size + 1, 0, none⟩ (.slice A1 ns.length c1)).setCell ⟨w.heap.size + 1, 1, none⟩ (.slice A7 l9.length c7)).cell? ⟨w.heap.size + 1, 0, none⟩ = some (.slice A1 ns.length c1) := by rw [hR2.cell]; rfl
      have t1 : ((V.setCell ⟨w.heap.size + 1, 0, none⟩ (.slice A1 ns.length c1)).setCell ⟨w.heap.size + 1, 1, none⟩ (.slice A7 l9.length c7)).cell? ⟨w.heap.size + 1, 1, none⟩ = some (.slice A7 l9.length c7) := by rw [hR2.cell]; rfl
      clear hS9 hR hR2
      go_wp2
      exact bodyPost_ret (v := .tuple #[.agg #[(.slice A1 ns.length c1), (.slice A7 l9.length c7)], .bool true]) (by simp [results, Try.results22, go_sem, t0, t1]) rfl ⟨_, _, ret_val (by rw [EQ2.out]), NO.out, (by rw [EQ1.out]; exact LO.out), b9⟩
end Go.Proofs.Ytbijbohkpjnjnaa
