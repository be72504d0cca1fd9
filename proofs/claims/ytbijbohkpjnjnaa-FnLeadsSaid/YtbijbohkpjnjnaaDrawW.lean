/- The windows that the laws draw are valid. No condition but that there is a cursor. -/
import Derived.Test.YtbijbohkpjnjnaaDrawN
import Derived.Test.YtbijbohkpjnjnaaDrop
import Derived.Test.YtbijbohkpjnjnaaHeldZ
namespace Go.Proofs.Ytbijbohkpjnjnaa
open Go.ChangeShapes Go.WideShapes Go.ChangeAt Go.RowKit
set_option maxHeartbeats 4000000
set_option maxRecDepth 100000
set_option linter.unusedSimpArgs false
set_option linter.unusedVariables false
/-! a valid window stays valid without one of its leads -/
theorem ptN_app_lt {a b : List (Int × Int)} {i : Nat} (h : i < a.length) : ptN (a ++ b) i = ptN a i := by simp [ptN, List.getD, List.getElem?_append_left h]
theorem ptN_drop (ls : List (Int × Int)) (k i : Nat) (hk : k < ls.length) : ptN (ls.take k ++ ls.drop (k + 1)) i = ptN ls (if i < k then i else i + 1) := by
  have hl : (ls.take k).length = k := by rw [List.length_take]; omega
  unfold ptN List.getD
  by_cases h : i < k
  · rw [if_pos h, List.getElem?_append_left (by omega), List.getElem?_take_of_lt h]
  · rw [if_neg h, List.getElem?_append_right (by omega), hl, List.getElem?_drop, show k + 1 + (i - k) = i + 1 by omega]
theorem allB_all {n : Nat} {p : Nat → Bool} (h : ∀ k, k < n → p k = true) : allB n p = true := by
  unfold allB; rw [List.all_eq_true]; exact fun x hx => h x (by simpa using hx)
theorem win_drop {ns ls : List (Int × Int)} (h : winOkB ns ls = true) {k : Nat} (hk : k < ls.length) : winOkB ns (ls.take k ++ ls.drop (k + 1)) = true := by
  have hlen : (ls.take k ++ ls.drop (k + 1)).length = ls.length - 1 := by rw [List.length_append, List.length_take, List.length_drop]; omega
  simp only [winOkB, Bool.and_eq_true, decide_eq_true_iff] at h ⊢
  obtain ⟨h1, h2, h3, h4, h5⟩ := h
  refine ⟨h1, by rw [hlen]; omega, h3, h4, allB_all fun i hi => ?_⟩
  rw [hlen] at hi
  have hl := allB_get h5 (k := if i < k then i else i + 1) (by split <;> omega)
  unfold leadLine at hl ⊢
  rw [ptN_drop ls k i hk]
  simp only [Bool.and_eq_true] at hl ⊢
  refine ⟨hl.1, allB_all fun j hj => ?_, hl.2.2⟩
  rw [ptN_drop ls k j hk]
  exact allB_get hl.2.1 (by split <;> split <;> omega)
theorem dlL_ok {ns ls : List (Int × Int)} (h : winOkB ns ls = true) (k : Int) : winOkB ns (dlL ns ls k) = true := by
  unfold dlL
  split
  · rename_i hi
    unfold isLead inB at hi
    simp only [Bool.and_eq_true, decide_eq_true_iff] at hi
    exact win_drop h (by omega)
  · exact h
theorem alL_ok {ns ls : List (Int × Int)} (h : winOkB ns ls = true) (a b : Int) : winOkB ns (alL ns ls a b) = true := by
  unfold alL
  split
  · rename_i hi
    unfold alF at hi
    simp only [Bool.and_eq_true] at hi
    exact hi.2
  · exact h
theorem win_len {ns ls : List (Int × Int)} (h : winOkB ns ls = true) : 1 ≤ ns.length ∧ ns.length ≤ 12 ∧ ls.length ≤ 20 := by
  simp only [winOkB, Bool.and_eq_true, inB, decide_eq_true_iff] at h
  omega
/-- a window variable beside the cursor -/
structure WinSt (p r g : Nat) (w W : World) (p1 p2 : Value) (ns ls : List (Int × Int)) : Prop where
  cur : Cur W p
  grow : w.grownBy W (some p)
  res : ∃ u v, Blk W r 27 #[u, v]
  box : Blk W g 27 #[p1, p2]
  o1 : OwnR w.heap.size 38 W p1 ns
  o2 : OwnR w.heap.size 30 W p2 ls
  ok : winOkB ns ls = true
theorem OwnR.past {B p : Nat} {T : TypeId} {w w' : World} {v : Value} {ns : List (Int × Int)} (h : OwnR B T w v ns) (hg : w.grownBy w' (some p)) (hp : p < B) : OwnR B T w' v ns := by
  refine ⟨World.ownsRow.kept h.1 hg ?_, h.2⟩
  cases hb : v.ownBlock with
  | none => exact .inl rfl
  | some g => exact .inr fun e => by have := (h.lt g hb).1; have := Option.some.inj e; omega
theorem WinSt.past {p r g : Nat} {w W W' : World} {p1 p2 : Value} {ns ls : List (Int × Int)} (h : WinSt p r g w W p1 p2 ns ls) (hc : Cur W' p) (hg : W.grownBy W' (some p)) (hp : p < w.heap.size) (hr : p ≠ r) (hg2 : p ≠ g) : WinSt p r g w W' p1 p2 ns ls := by
  obtain ⟨u, v, k⟩ := h.res
  exact ⟨hc, h.grow.trans hg, ⟨u, v, k.grow hg (fun e => hr (Option.some.inj e).symm)⟩, h.box.grow hg (fun e => hg2 (Option.some.inj e).symm), h.o1.past hg hp, h.o2.past hg hp, h.ok⟩
theorem WinSt.below {p r g : Nat} {w W W' : World} {p1 p2 : Value} {ns ls : List (Int × Int)} (h : WinSt p r g w W p1 p2 ns ls) (hb : Below W.heap.size W W') : WinSt p r g w W' p1 p2 ns ls := by
  obtain ⟨u, v, k⟩ := h.res
  exact ⟨h.cur.below hb, h.grow.trans (grownBy_below' hb), ⟨u, v, k.below hb k.lt⟩, h.box.below hb h.box.lt, h.o1.below hb, h.o2.below hb, h.ok⟩
/-- the variable is given a new window -/
theorem WinSt.put {p r g : Nat} {w W : World} {p1 p2 q1 q2 : Value} {ns ls ns' ls' : List (Int × Int)} (h : WinSt p r g w W p1 p2 ns ls) (o1 : OwnR w.heap.size 38 W q1 ns') (o2 : OwnR w.heap.size 30 W q2 ls') (ok : winOkB ns' ls' = true) (hpg : p < g) (hwg : w.heap.size ≤ g) (hrg : r ≠ g) :
    WinSt p r g w ((W.setCell ⟨g, 0, none⟩ q1).setCell ⟨g, 1, none⟩ q2) q1 q2 ns' ls' := by
  obtain ⟨u, v, k⟩ := h.res
  have n1 := World.ownsRow.other o1.1 h.box (by decide)
  have n2 := World.ownsRow.other o2.1 h.box (by decide)
  have hc : ∀ o (v : Value) (W : World), Cur W p → Cur (W.setCell ⟨g, o, none⟩ v) p := fun o v W hk => hk.keep (some g) (fun g' e => by have := Option.some.inj e; omega) (cur_set W g o v)
  have hb : Below w.heap.size W ((W.setCell ⟨g, 0, none⟩ q1).setCell ⟨g, 1, none⟩ q2) := ((Below.refl _ _).setCell (p := ⟨g, 0, none⟩) hwg _).setCell (p := ⟨g, 1, none⟩) hwg _
  exact ⟨hc _ _ _ (hc _ _ _ h.cur), ⟨hb.os.trans h.grow.os, hb.tape.trans h.grow.tape, hb.output.trans h.grow.output, Nat.le_trans h.grow.size (by simp [World.setCell]), fun k hk hne => (hb.block k hk).trans (h.grow.block k hk hne)⟩,
    ⟨u, v, (k.far (p := ⟨g, 0, none⟩) hrg _).far (p := ⟨g, 1, none⟩) hrg _⟩, (h.box.set_ 0 q1).set_ 1 q2, (o1.set_far n1 _ _).set_far n1 _ _, (o2.set_far n2 _ _).set_far n2 _ _, ok⟩
theorem WinSt.ret {p r g : Nat} {w W : World} {p1 p2 : Value} {ns ls : List (Int × Int)} (h : WinSt p r g w W p1 p2 ns ls) (hpr : p < r) (hwr : w.heap.size ≤ r) :
    Blk ((W.setCell ⟨r, 0, none⟩ p1).setCell ⟨r, 1, none⟩ p2) r 27 #[p1, p2] ∧ OwnR w.heap.size 38 ((W.setCell ⟨r, 0, none⟩ p1).setCell ⟨r, 1, none⟩ p2) p1 ns ∧ OwnR w.heap.size 30 ((W.setCell ⟨r, 0, none⟩ p1).setCell ⟨r, 1, none⟩ p2) p2 ls ∧ Cur ((W.setCell ⟨r, 0, none⟩ p1).setCell ⟨r, 1, none⟩ p2) p ∧ w.grownBy ((W.setCell ⟨r, 0, none⟩ p1).setCell ⟨r, 1, none⟩ p2) (some p) := by
  obtain ⟨u, v, k⟩ := h.res
  have n1 := World.ownsRow.other h.o1.1 k (by decide)
  have n2 := World.ownsRow.other h.o2.1 k (by decide)
  have hc : ∀ o (v : Value) (W : World), Cur W p → Cur (W.setCell ⟨r, o, none⟩ v) p := fun o v W hk => hk.keep (some r) (fun g' e => by have := Option.some.inj e; omega) (cur_set W r o v)
  have hb : Below w.heap.size W ((W.setCell ⟨r, 0, none⟩ p1).setCell ⟨r, 1, none⟩ p2) := ((Below.refl _ _).setCell (p := ⟨r, 0, none⟩) hwr _).setCell (p := ⟨r, 1, none⟩) hwr _
  exact ⟨(k.set_ 0 p1).set_ 1 p2, (h.o1.set_far n1 _ _).set_far n1 _ _, (h.o2.set_far n2 _ _).set_far n2 _ _, hc _ _ _ (hc _ _ _ h.cur), ⟨hb.os.trans h.grow.os, hb.tape.trans h.grow.tape, hb.output.trans h.grow.output, Nat.le_trans h.grow.size (by simp [World.setCell]), fun k hk hne => (hb.block k hk).trans (h.grow.block k hk hne)⟩⟩
/-- a block above B grows: the variable stays -/
theorem WinSt.above {p r g B : Nat} {w W W' : World} {p1 p2 : Value} {ns ls : List (Int × Int)} {row : Option Nat} (h : WinSt p r g w W p1 p2 ns ls) (hg : W.grownBy W' row) (hr : ∀ k, row = some k → B ≤ k) (hB : w.heap.size ≤ B) (hp : p < B) (hrB : r < B) (hgB : g < B) (l1 : ∀ k, p1.ownBlock = some k → k < B) (l2 : ∀ k, p2.ownBlock = some k → k < B) : WinSt p r g w W' p1 p2 ns ls := by
  obtain ⟨u, v, k⟩ := h.res
  have keep : ∀ {T : TypeId} {x : Value} {xs : List (Int × Int)}, OwnR w.heap.size T W x xs → (∀ k, x.ownBlock = some k → k < B) → OwnR w.heap.size T W' x xs := fun {T x xs} ho hl => by
    refine ⟨World.ownsRow.kept ho.1 hg ?_, ho.2⟩
    cases hb : x.ownBlock with
    | none => exact .inl rfl
    | some g => exact .inr fun e => by have := hl g hb; have := hr g e.symm; omega
  exact ⟨h.cur.keep row (fun g' e => by have := hr g' e; omega) hg, ⟨hg.os.trans h.grow.os, hg.tape.trans h.grow.tape, hg.output.trans h.grow.output, Nat.le_trans h.grow.size hg.size, fun j hj hne => (hg.block j (Nat.lt_of_lt_of_le hj h.grow.size) (fun e => by have := hr j e.symm; omega)).trans (h.grow.block j hj hne)⟩,
    ⟨u, v, k.grow hg (fun e => by have := hr r e.symm; omega)⟩, h.box.grow hg (fun e => by have := hr g e.symm; omega), keep h.o1 l1, keep h.o2 l2, h.ok⟩
def DrawWin (p : Nat) (w : World) (e : Ending) (w' : World) : Prop := ∃ p1 p2 ns ls, e = .returned (.agg #[p1, p2]) ∧ OwnR w.heap.size 38 w' p1 ns ∧ OwnR w.heap.size 30 w' p2 ls ∧ winOkB ns ls = true ∧ Cur w' p ∧ w.grownBy w' (some p)
theorem drawWin_any (p : Nat) (w : World) (H : Cur w p) : Calls Try.prog 12 #[.pointer (some ⟨p, 0, none⟩)] w (DrawWin p w) := by
  have plt := H.lt
  have K0 := hid (H.alloc (.cells #[.slice none 0 0, .slice none 0 0] 27))
  have R0 := hid (Blk.new w 27 #[.slice none 0 0, .slice none 0 0])
  have G0 := hid (World.grownBy_alloc w (.cells #[.slice none 0 0, .slice none 0 0] 27) (some p))
  have z0 : (w.alloc (.cells #[.slice none 0 0, .slice none 0 0] 27)).heap.size = w.heap.size + 1 := by simp
  clear H
  go_enter Try.func12, Try.ntmps12
  go_wp2_with fail
  generalize hr : w.heap.size = r at R0 z0 ⊢
  have HR := hid hr
  clear hr
  generalize w.alloc _ = wa at K0 R0 G0 z0 ⊢
  refine (curBelow_any p 5 _ K0.out (by omega) (by omega)).mono ?_
  rintro e w1 ⟨x, x0, x1, rfl, hk, hg⟩
  have K1 := hid hk
  have R1 := hid (R0.out.grow hg (fun e => by have := Option.some.inj e; have := HR.out; omega))
  have G1 := hid (G0.out.trans hg)
  have s1 := hg.size
  clear hk hg K0 R0 G0
  obtain ⟨n, rfl⟩ : ∃ n : Nat, x = (n : Int) := ⟨x.toNat, by omega⟩
  go_wp2_with fail
  refine (shape_any n _ (by omega)).mono ?_
  rintro e w2 ⟨p1, p2, rfl, ho1, ho2, hb⟩
  have q1 := (OwnR.of_pairs ho1).less (show w.heap.size ≤ w1.heap.size by have := HR.out; omega)
  have q2 := (OwnR.of_pairs ho2).less (show w.heap.size ≤ w1.heap.size by have := HR.out; omega)
  have hok := sh_ok n
  generalize shN n = ns at q1 hok ho1
  generalize shL n = ls at q2 hok ho2
  obtain ⟨A1, c1, rfl⟩ := q1.form
  obtain ⟨A2, c2, rfl⟩ := q2.form
  have a1 : Below w2.heap.size w2 (w2.alloc (.cells #[.slice A1 ns.length c1, .slice A2 ls.length c2] 27)) := (Below.refl _ _).alloc (Nat.le_refl _) _
  have s2 := hb.size
  have I0 := hid (show WinSt p r w2.heap.size w (w2.alloc (.cells #[.slice A1 ns.length c1, .slice A2 ls.length c2] 27)) (.slice A1 ns.length c1) (.slice A2 ls.length c2) ns ls from
    ⟨(K1.out.below hb).below a1, (G1.out.trans (grownBy_below' hb)).trans (grownBy_below' a1), ⟨_, _, (R1.out.below hb R1.out.lt).below a1 (by have := R1.out.lt; omega)⟩, Blk.new _ _ _, q1.below a1, q2.below a1, hok⟩)
  have G2 := hid (show p < w2.heap.size ∧ w.heap.size ≤ w2.heap.size ∧ r ≠ w2.heap.size ∧ p ≠ r ∧ p < r by have := HR.out; omega)
  clear hb q1 q2 hok a1 ho1 ho2 K1 R1 G1 x0 x1
  go_wp2_with fail
  generalize hg : w2.heap.size = g at I0 G2 ⊢
  clear hg
  generalize w2.alloc _ = wb at I0 ⊢
  clear s1 s2 z0
  refine (curBelow_any p 4 _ I0.out.cur (by omega) (by omega)).mono ?_
  rintro e w3 ⟨x, x0, x1, rfl, hk, hg⟩
  have I1 := hid (I0.out.past hk hg plt G2.out.2.2.2.1 (by have := G2.out.1; omega))
  clear hk hg I0
  obtain ⟨m, rfl⟩ : ∃ m : Nat, x = (m : Int) := ⟨x.toNat, by omega⟩
  have hm : m ≤ 3 := by omega
  clear x0 x1
  go_wp2_with fail
  go_loopw [4] (fun k wr => ∃ n : Nat, n ≤ 3 ∧ k = .int .i64 n ∧ ∃ p1 p2 ns ls, Hid (WinSt p r g w wr p1 p2 ns ls)) (fun k _ => (intOf k).toNat)
  case atStart => exact ⟨m, hm, rfl, _, _, _, _, I1⟩
  case round =>
    clear I1
    obtain ⟨n, hn, rfl, p1, p2, ns, ls, I⟩ := hrel
    obtain ⟨A1, c1, rfl⟩ := I.out.o1.form
    obtain ⟨A2, c2, rfl⟩ := I.out.o2.form
    by_cases hn0 : 0 < n
    · obtain ⟨n, rfl⟩ : ∃ n', n = n' + 1 := ⟨n - 1, by omega⟩
      have hn1 : (0 : Int) < ((n + 1 : Nat) : Int) := by omega
      go_wp2_with fail
      refine (curOnce_any p 2 _ I.out.cur (by omega) (by omega)).mono ?_
      rintro e w4 ⟨b, rfl, hk, hg⟩
      have J := hid (I.out.past hk hg plt G2.out.2.2.2.1 (by have := G2.out.1; omega))
      clear hk hg I
      have hlen := win_len J.out.ok
      obtain ⟨S, hSd⟩ : ∃ S : World → Prop, S = fun W => WinSt p r g w W (.slice A1 ns.length c1) (.slice A2 ls.length c2) ns ls := ⟨_, rfl⟩
      have hS : S w4 := by rw [hSd]; exact J.out
      have SW : Hid (∀ W, S W → WinSt p r g w W (.slice A1 ns.length c1) (.slice A2 ls.length c2) ns ls) := hid (fun W h => by rw [hSd] at h; exact h)
      have SU : Hid (∀ W W', S W → Below W.heap.size W W' → S W') := hid (fun W W' h hb => by rw [hSd] at h ⊢; exact h.below hb)
      have SP : Hid (∀ W W', S W → Cur W' p → W.grownBy W' (some p) → S W') := hid (fun W W' h hc hg => by rw [hSd] at h ⊢; exact h.past hc hg plt G2.out.2.2.2.1 (by have := G2.out.1; omega))
      have SC : Hid (∀ W, S W → Cur W p) := hid (fun W h => (SW.out W h).cur)
      have SN : Hid (∀ W, S W → OwnR w.heap.size 38 W (.slice A1 ns.length c1) ns) := hid (fun W h => (SW.out W h).o1)
      have SL : Hid (∀ W, S W → OwnR w.heap.size 30 W (.slice A2 ls.length c2) ls) := hid (fun W h => (SW.out W h).o2)
      have CELLS : Hid (∀ W, S W → W.cell? ⟨g, 0, none⟩ = some (.slice A1 ns.length c1) ∧ W.cell? ⟨g, 1, none⟩ = some (.slice A2 ls.length c2)) := hid (fun W h => by
        have hb := (SW.out W h).box
        exact ⟨by rw [hb.cell]; rfl, by rw [hb.cell]; rfl⟩)
      clear hSd J
      cases b
      · go_wp2_with fail
        refine wz_start (S := S) 15 (by kernel_rfl) (SU.out _ _ hS (Below.refl _ _).drew) ?_
        refine wz_take (i := 0) (v := ?_) rfl (by kernel_rfl) (by kernel_rfl) (by kernel_rfl) (by kernel_rfl) (by decide) (fun _ _ _ h => h) (by kernel_rfl) ?_ ?_
        rotate_left
        (focus (intro w hSw; obtain ⟨z0, z1⟩ := CELLS.out _ hSw; go_simp; try with_reducible rfl))
        simp only [Act.put, List.setIfInBounds_toArray, List.set_cons_zero, List.set_cons_succ, List.getElem_toArray, List.getElem_cons_succ, List.getElem_cons_zero, Nat.reduceAdd]
        refine wz_take (i := 1) (v := ?_) rfl (by kernel_rfl) (by kernel_rfl) (by kernel_rfl) (by kernel_rfl) (by decide) (fun _ _ _ h => h) (by kernel_rfl) ?_ ?_
        rotate_left
        (focus (intro w hSw; obtain ⟨z0, z1⟩ := CELLS.out _ hSw; go_simp; try with_reducible rfl))
        simp only [Act.put, List.setIfInBounds_toArray, List.set_cons_zero, List.set_cons_succ, List.getElem_toArray, List.getElem_cons_succ, List.getElem_cons_zero, Nat.reduceAdd]
        refine wz_take (i := 2) (v := ?_) rfl (by kernel_rfl) (by kernel_rfl) (by kernel_rfl) (by kernel_rfl) (by decide) (fun _ _ _ h => h) (by kernel_rfl) ?_ ?_
        rotate_left
        (focus (intro w hSw; obtain ⟨z0, z1⟩ := CELLS.out _ hSw; go_simp; try with_reducible rfl))
        simp only [Act.put, List.setIfInBounds_toArray, List.set_cons_zero, List.set_cons_succ, List.getElem_toArray, List.getElem_cons_succ, List.getElem_cons_zero, Nat.reduceAdd]
        refine wz_take (i := 3) (v := ?_) rfl (by kernel_rfl) (by kernel_rfl) (by kernel_rfl) (by kernel_rfl) (by decide) (fun _ _ _ h => h) (by kernel_rfl) ?_ ?_
        rotate_left
        (focus (intro w hSw; obtain ⟨z0, z1⟩ := CELLS.out _ hSw; go_simp; try with_reducible rfl))
        simp only [Act.put, List.setIfInBounds_toArray, List.set_cons_zero, List.set_cons_succ, List.getElem_toArray, List.getElem_cons_succ, List.getElem_cons_zero, Nat.reduceAdd]
        refine wz_take (i := 4) (v := ?_) rfl (by kernel_rfl) (by kernel_rfl) (by kernel_rfl) (by kernel_rfl) (by decide) (fun _ _ _ h => h) (by kernel_rfl) ?_ ?_
        rotate_left
        (focus (intro w hSw; obtain ⟨z0, z1⟩ := CELLS.out _ hSw; go_simp; try with_reducible rfl))
        simp only [Act.put, List.setIfInBounds_toArray, List.set_cons_zero, List.set_cons_succ, List.getElem_toArray, List.getElem_cons_succ, List.getElem_cons_zero, Nat.reduceAdd]
        refine wz_take (i := 6) (v := ?_) rfl (by kernel_rfl) (by kernel_rfl) (by kernel_rfl) (by kernel_rfl) (by decide) (fun _ _ _ h => h) (by kernel_rfl) ?_ ?_
        rotate_left
        (focus (intro w hSw; obtain ⟨z0, z1⟩ := CELLS.out _ hSw; go_simp; try with_reducible rfl))
        simp only [Act.put, List.setIfInBounds_toArray, List.set_cons_zero, List.set_cons_succ, List.getElem_toArray, List.getElem_cons_succ, List.getElem_cons_zero, Nat.reduceAdd]
        refine wz_take (i := 7) (v := ?_) rfl (by kernel_rfl) (by kernel_rfl) (by kernel_rfl) (by kernel_rfl) (by decide) (fun _ _ _ h => h) (by kernel_rfl) ?_ ?_
        rotate_left
        (focus (intro w hSw; obtain ⟨z0, z1⟩ := CELLS.out _ hSw; go_simp; try with_reducible rfl))
        simp only [Act.put, List.setIfInBounds_toArray, List.set_cons_zero, List.set_cons_succ, List.getElem_toArray, List.getElem_cons_succ, List.getElem_cons_zero, Nat.reduceAdd]
        refine wz_take (i := 8) (v := ?_) rfl (by kernel_rfl) (by kernel_rfl) (by kernel_rfl) (by kernel_rfl) (by decide) (fun _ _ _ h => h) (by kernel_rfl) ?_ ?_
        rotate_left
        (focus (intro w hSw; obtain ⟨z0, z1⟩ := CELLS.out _ hSw; go_simp; try with_reducible rfl))
        simp only [Act.put, List.setIfInBounds_toArray, List.set_cons_zero, List.set_cons_succ, List.getElem_toArray, List.getElem_cons_succ, List.getElem_cons_zero, Nat.reduceAdd]
        refine wz_take (i := 9) (v := ?_) rfl (by kernel_rfl) (by kernel_rfl) (by kernel_rfl) (by kernel_rfl) (by decide) (fun _ _ _ h => h) (by kernel_rfl) ?_ ?_
        rotate_left
        (focus (intro w hSw; obtain ⟨z0, z1⟩ := CELLS.out _ hSw; go_simp; try with_reducible rfl))
        simp only [Act.put, List.setIfInBounds_toArray, List.set_cons_zero, List.set_cons_succ, List.getElem_toArray, List.getElem_cons_succ, List.getElem_cons_zero, Nat.reduceAdd]
        refine wz_each (i := 5) (by kernel_rfl) (by decide) rfl ?_
        intro v6 hv6 hS6 K hK
        go_simp
        refine (curBelow_any p _ _ (SC.out _ hS6) (by omega) (by omega)).mono ?_
        rintro e w6 ⟨x, x0, x1, rfl, hk, hg⟩
        have hS7 := SP.out _ _ hS6 hk hg
        clear hk hg x0 x1
        (try dsimp only)
        refine hK.out _ _ ⟨hS7, ?_⟩
        clear hK K
        (try simp only [Act.put, List.setIfInBounds_toArray, List.set_cons_zero, List.set_cons_succ, List.getElem_toArray, List.getElem_cons_succ, List.getElem_cons_zero, Nat.reduceAdd])
        refine wz_each (i := 10) (by kernel_rfl) (by decide) rfl ?_
        intro v5 hv5 hS5 K hK
        go_simp
        refine (curBelow_any p _ _ (SC.out _ hS5) (by omega) (by omega)).mono ?_
        rintro e w5 ⟨y, x0, x1, rfl, hk, hg⟩
        have hS7 := SP.out _ _ hS5 hk hg
        clear hk hg x0 x1
        (try dsimp only)
        refine hK.out _ _ ⟨hS7, ?_⟩
        clear hK K
        (try simp only [Act.put, List.setIfInBounds_toArray, List.set_cons_zero, List.set_cons_succ, List.getElem_toArray, List.getElem_cons_succ, List.getElem_cons_zero, Nat.reduceAdd])
        refine wz_each (i := 11) (by kernel_rfl) (by decide) rfl ?_
        intro v7b hv7b hS7b K hK
        go_simp
        refine (sAdd_any _ _ ns ls x y _ (SN.out _ hS7b).pairs (SL.out _ hS7b).pairs (by omega) (by omega)).mono ?_
        rintro e w7 ⟨q1, q2, rfl, k1, k2, hb⟩
        have hS8 := SU.out _ _ hS7b hb
        have hsz := (SW.out _ hS7b).grow.size
        replace k1 := k1.less hsz
        replace k2 := k2.less hsz
        obtain ⟨A5, c5, rfl⟩ := k1.form
        obtain ⟨A6, c6, rfl⟩ := k2.form
        clear hb hsz
        (try dsimp only)
        refine hK.out _ _ ⟨hS8, ?_⟩
        clear hK K
        (try simp only [Act.put, List.setIfInBounds_toArray, List.set_cons_zero, List.set_cons_succ, List.getElem_toArray, List.getElem_cons_succ, List.getElem_cons_zero, Nat.reduceAdd])
        refine wz_take (i := 12) (v := ?_) rfl (by kernel_rfl) (by kernel_rfl) (by kernel_rfl) (by kernel_rfl) (by decide) (fun _ _ _ h => h) (by kernel_rfl) ?_ ?_
        rotate_left
        (focus (intro w hSw; skip; go_simp; try with_reducible rfl))
        simp only [Act.put, List.setIfInBounds_toArray, List.set_cons_zero, List.set_cons_succ, List.getElem_toArray, List.getElem_cons_succ, List.getElem_cons_zero, Nat.reduceAdd]
        refine wz_take (i := 13) (v := ?_) rfl (by kernel_rfl) (by kernel_rfl) (by kernel_rfl) (by kernel_rfl) (by decide) (fun _ _ _ h => h) (by kernel_rfl) ?_ ?_
        rotate_left
        (focus (intro w hSw; skip; go_simp; try with_reducible rfl))
        simp only [Act.put, List.setIfInBounds_toArray, List.set_cons_zero, List.set_cons_succ, List.getElem_toArray, List.getElem_cons_succ, List.getElem_cons_zero, Nat.reduceAdd]
        refine wz_free (i := 14) (v := ?_) rfl (by kernel_rfl) (by kernel_rfl) (by kernel_rfl) (by decide) (fun _ _ _ h => h) (by kernel_rfl) ?_ ?_
        rotate_left
        (focus (intro w; go_simp; try with_reducible rfl))
        simp only [Act.put, List.setIfInBounds_toArray, List.set_cons_zero, List.set_cons_succ, List.getElem_toArray, List.getElem_cons_succ, List.getElem_cons_zero, Nat.reduceAdd]
        refine wz_last (by kernel_rfl) rfl (by kernel_rfl) ?_
        intro v9 hv9 hS9 K hK
        replace k1 := k1.below hv9
        replace k2 := k2.below hv9
        have hbx := (SW.out _ hS9).box
        have e0 : v9.cell? ⟨g, 0, none⟩ = some (.slice A1 ns.length c1) := by rw [hbx.cell]; rfl
        have e1 : v9.cell? ⟨g, 1, none⟩ = some (.slice A2 ls.length c2) := by rw [hbx.cell]; rfl
        have f0 : v9.frozen? ⟨g, 0, none⟩ = false := hbx.frozen 0
        have f1 : v9.frozen? ⟨g, 1, none⟩ = false := hbx.frozen 1
        go_simp
        have I9 := hid ((SW.out _ hS9).put k1 k2 (alL_ok (SW.out _ hS9).ok x y) G2.out.1 G2.out.2.1 G2.out.2.2.1)
        (try dsimp only)
        refine hK.out _ _ ?_
        clear hK K
        clear e0 e1 f0 f1 hbx k1 k2 hv9 hS9
        generalize (World.setCell _ _ _).setCell _ _ = w9 at I9 ⊢
        go_wp2
        go_roundw
        case rel => exact ⟨n, by omega, by go_num, _, _, _, _, I9⟩
        case measure => first | (simp [intOf]; done) | (simp [intOf]; omega)
      · have hxc : (ls.length : Int) < 1 ∨ (ls.length : Int) = 1 ∨ 1 < (ls.length : Int) := by omega
        rcases hxc with hx | hx | hx
        all_goals
          go_wp2_with fail
          refine wz_start (S := S) 11 (by kernel_rfl) (SU.out _ _ hS (Below.refl _ _).drew) ?_
          refine wz_take (i := 0) (v := ?_) rfl (by kernel_rfl) (by kernel_rfl) (by kernel_rfl) (by kernel_rfl) (by decide) (fun _ _ _ h => h) (by kernel_rfl) ?_ ?_
          rotate_left
          (focus (intro w hSw; obtain ⟨z0, z1⟩ := CELLS.out _ hSw; go_simp; try with_reducible rfl))
          simp only [Act.put, List.setIfInBounds_toArray, List.set_cons_zero, List.set_cons_succ, List.getElem_toArray, List.getElem_cons_succ, List.getElem_cons_zero, Nat.reduceAdd]
          refine wz_take (i := 1) (v := ?_) rfl (by kernel_rfl) (by kernel_rfl) (by kernel_rfl) (by kernel_rfl) (by decide) (fun _ _ _ h => h) (by kernel_rfl) ?_ ?_
          rotate_left
          (focus (intro w hSw; obtain ⟨z0, z1⟩ := CELLS.out _ hSw; go_simp; try with_reducible rfl))
          simp only [Act.put, List.setIfInBounds_toArray, List.set_cons_zero, List.set_cons_succ, List.getElem_toArray, List.getElem_cons_succ, List.getElem_cons_zero, Nat.reduceAdd]
          refine wz_take (i := 2) (v := ?_) rfl (by kernel_rfl) (by kernel_rfl) (by kernel_rfl) (by kernel_rfl) (by decide) (fun _ _ _ h => h) (by kernel_rfl) ?_ ?_
          rotate_left
          (focus (intro w hSw; obtain ⟨z0, z1⟩ := CELLS.out _ hSw; go_simp; try with_reducible rfl))
          simp only [Act.put, List.setIfInBounds_toArray, List.set_cons_zero, List.set_cons_succ, List.getElem_toArray, List.getElem_cons_succ, List.getElem_cons_zero, Nat.reduceAdd]
          refine wz_take (i := 3) (v := ?_) rfl (by kernel_rfl) (by kernel_rfl) (by kernel_rfl) (by kernel_rfl) (by decide) (fun _ _ _ h => h) (by kernel_rfl) ?_ ?_
          rotate_left
          (focus (intro w hSw; obtain ⟨z0, z1⟩ := CELLS.out _ hSw; go_simp; try with_reducible rfl))
          simp only [Act.put, List.setIfInBounds_toArray, List.set_cons_zero, List.set_cons_succ, List.getElem_toArray, List.getElem_cons_succ, List.getElem_cons_zero, Nat.reduceAdd]
          refine wz_take (i := 4) (v := ?_) rfl (by kernel_rfl) (by kernel_rfl) (by kernel_rfl) (by kernel_rfl) (by decide) (fun _ _ _ h => h) (by kernel_rfl) ?_ ?_
          rotate_left
          (focus (intro w hSw; obtain ⟨z0, z1⟩ := CELLS.out _ hSw; go_simp; try with_reducible rfl))
          simp only [Act.put, List.setIfInBounds_toArray, List.set_cons_zero, List.set_cons_succ, List.getElem_toArray, List.getElem_cons_succ, List.getElem_cons_zero, Nat.reduceAdd]
          refine wz_take (i := 5) (v := ?_) rfl (by kernel_rfl) (by kernel_rfl) (by kernel_rfl) (by kernel_rfl) (by decide) (fun _ _ _ h => h) (by kernel_rfl) ?_ ?_
          rotate_left
          (focus (intro w hSw; obtain ⟨z0, z1⟩ := CELLS.out _ hSw; go_simp; try with_reducible rfl))
          simp only [Act.put, List.setIfInBounds_toArray, List.set_cons_zero, List.set_cons_succ, List.getElem_toArray, List.getElem_cons_succ, List.getElem_cons_zero, Nat.reduceAdd]
          refine wz_each (i := 6) (by kernel_rfl) (by decide) rfl ?_
          intro v6 hv6 hS6 K hK
          go_simp
          refine (curBelow_any p _ _ (SC.out _ hS6) (by omega) (by omega)).mono ?_
          rintro e w6 ⟨x, x0, x1, rfl, hk, hg⟩
          have hS7 := SP.out _ _ hS6 hk hg
          clear hk hg x0 x1
          (try dsimp only)
          refine hK.out _ _ ⟨hS7, ?_⟩
          clear hK K
          (try simp only [Act.put, List.setIfInBounds_toArray, List.set_cons_zero, List.set_cons_succ, List.getElem_toArray, List.getElem_cons_succ, List.getElem_cons_zero, Nat.reduceAdd])
          refine wz_each (i := 7) (by kernel_rfl) (by decide) rfl ?_
          intro v7b hv7b hS7b K hK
          go_simp
          refine (sDrop_any _ _ ns ls x _ (SN.out _ hS7b).pairs (SL.out _ hS7b).pairs (by omega) (by omega)).mono ?_
          rintro e w7 ⟨q1, q2, rfl, k1, k2, hb⟩
          have hS8 := SU.out _ _ hS7b hb
          have hsz := (SW.out _ hS7b).grow.size
          replace k1 := k1.less hsz
          replace k2 := k2.less hsz
          obtain ⟨A5, c5, rfl⟩ := k1.form
          obtain ⟨A6, c6, rfl⟩ := k2.form
          clear hb hsz
          (try dsimp only)
          refine hK.out _ _ ⟨hS8, ?_⟩
          clear hK K
          (try simp only [Act.put, List.setIfInBounds_toArray, List.set_cons_zero, List.set_cons_succ, List.getElem_toArray, List.getElem_cons_succ, List.getElem_cons_zero, Nat.reduceAdd])
          refine wz_take (i := 8) (v := ?_) rfl (by kernel_rfl) (by kernel_rfl) (by kernel_rfl) (by kernel_rfl) (by decide) (fun _ _ _ h => h) (by kernel_rfl) ?_ ?_
          rotate_left
          (focus (intro w hSw; skip; go_simp; try with_reducible rfl))
          simp only [Act.put, List.setIfInBounds_toArray, List.set_cons_zero, List.set_cons_succ, List.getElem_toArray, List.getElem_cons_succ, List.getElem_cons_zero, Nat.reduceAdd]
          refine wz_take (i := 9) (v := ?_) rfl (by kernel_rfl) (by kernel_rfl) (by kernel_rfl) (by kernel_rfl) (by decide) (fun _ _ _ h => h) (by kernel_rfl) ?_ ?_
          rotate_left
          (focus (intro w hSw; skip; go_simp; try with_reducible rfl))
          simp only [Act.put, List.setIfInBounds_toArray, List.set_cons_zero, List.set_cons_succ, List.getElem_toArray, List.getElem_cons_succ, List.getElem_cons_zero, Nat.reduceAdd]
          refine wz_free (i := 10) (v := ?_) rfl (by kernel_rfl) (by kernel_rfl) (by kernel_rfl) (by decide) (fun _ _ _ h => h) (by kernel_rfl) ?_ ?_
          rotate_left
          (focus (intro w; go_simp; try with_reducible rfl))
          simp only [Act.put, List.setIfInBounds_toArray, List.set_cons_zero, List.set_cons_succ, List.getElem_toArray, List.getElem_cons_succ, List.getElem_cons_zero, Nat.reduceAdd]
          refine wz_last (by kernel_rfl) rfl (by kernel_rfl) ?_
          intro v9 hv9 hS9 K hK
          replace k1 := k1.below hv9
          replace k2 := k2.below hv9
          have hbx := (SW.out _ hS9).box
          have e0 : v9.cell? ⟨g, 0, none⟩ = some (.slice A1 ns.length c1) := by rw [hbx.cell]; rfl
          have e1 : v9.cell? ⟨g, 1, none⟩ = some (.slice A2 ls.length c2) := by rw [hbx.cell]; rfl
          have f0 : v9.frozen? ⟨g, 0, none⟩ = false := hbx.frozen 0
          have f1 : v9.frozen? ⟨g, 1, none⟩ = false := hbx.frozen 1
          go_simp
          have I9 := hid ((SW.out _ hS9).put k1 k2 (dlL_ok (SW.out _ hS9).ok x) G2.out.1 G2.out.2.1 G2.out.2.2.1)
          (try dsimp only)
          refine hK.out _ _ ?_
          clear hK K
          clear e0 e1 f0 f1 hbx k1 k2 hv9 hS9
          generalize (World.setCell _ _ _).setCell _ _ = w9 at I9 ⊢
          go_wp2
          go_roundw
          case rel => exact ⟨n, by omega, by go_num, _, _, _, _, I9⟩
          case measure => first | (simp [intOf]; done) | (simp [intOf]; omega)
    · have he : n = 0 := by omega
      subst he
      clear hn hn0
      go_wp2_with fail
      refine (curOnce_any p 4 _ I.out.cur (by omega) (by omega)).mono ?_
      rintro e w4 ⟨b, rfl, hk, hg⟩
      have J := hid (I.out.past hk hg plt G2.out.2.2.2.1 (by have := G2.out.1; omega))
      clear hk hg I
      cases b
      · skip
        obtain ⟨u9, v9', hR⟩ := J.out.res
        have hbx := J.out.box
        obtain ⟨t1, t2, t3, t4, t5⟩ := J.out.ret G2.out.2.2.2.2 (by have := HR.out; omega)
        have e0 : w4.cell? ⟨g, 0, none⟩ = some (.slice A1 ns.length c1) := by rw [hbx.cell]; rfl
        have e1 : w4.cell? ⟨g, 1, none⟩ = some (.slice A2 ls.length c2) := by rw [hbx.cell]; rfl
        have r0 : w4.cell? ⟨r, 0, none⟩ = some u9 := by rw [hR.cell]; rfl
        have r1 : w4.cell? ⟨r, 1, none⟩ = some v9' := by rw [hR.cell]; rfl
        have f0 : w4.frozen? ⟨r, 0, none⟩ = false := hR.frozen 0
        have f1 : w4.frozen? ⟨r, 1, none⟩ = false := hR.frozen 1
        have y0 : ((w4.setCell ⟨r, 0, none⟩ (.slice A1 ns.length c1)).setCell ⟨r, 1, none⟩ (.slice A2 ls.length c2)).cell? ⟨r, 0, none⟩ = some (.slice A1 ns.length c1) := by rw [t1.cell]; rfl
        have y1 : ((w4.setCell ⟨r, 0, none⟩ (.slice A1 ns.length c1)).setCell ⟨r, 1, none⟩ (.slice A2 ls.length c2)).cell? ⟨r, 1, none⟩ = some (.slice A2 ls.length c2) := by rw [t1.cell]; rfl
        have T2 := hid t2
        have T3 := hid t3
        have T4 := hid t4
        have T5 := hid t5
        have OKK := hid J.out.ok
        clear t1 t2 t3 t4 t5 hbx hR
        go_wp2
        exact bodyPost_ret (v := .agg #[(.slice A1 ns.length c1), (.slice A2 ls.length c2)]) (by simp [results, Try.results12, go_sem, y0, y1]) rfl ⟨_, _, _, _, rfl, T2.out, T3.out, OKK.out, T4.out, T5.out⟩
      · have hbx := J.out.box
        have z0 : w4.cell? ⟨g, 0, none⟩ = some (.slice A1 ns.length c1) := by rw [hbx.cell]; rfl
        have z1 : w4.cell? ⟨g, 1, none⟩ = some (.slice A2 ls.length c2) := by rw [hbx.cell]; rfl
        have hlen := win_len J.out.ok
        have hglt := hbx.lt
        clear hbx
        go_wp2_with fail
        refine (sCopy_any _ _ ns ls _ J.out.o1.pairs J.out.o2.pairs (by omega) (by omega)).mono ?_
        rintro e w5 ⟨q1, q2, rfl, k1, k2, hb⟩
        obtain ⟨A3, c3, rfl⟩ := k1.form
        obtain ⟨A4, c4, rfl⟩ := k2.form
        have a1 : Below w5.heap.size w5 (w5.alloc (.cells #[.slice A3 ns.length c3, .slice A4 ls.length c4] 27)) := (Below.refl _ _).alloc (Nat.le_refl _) _
        have LP1 := hid J.out.o1.lt
        have LP2 := hid J.out.o2.lt
        have LQ1 := hid k1.lt
        have hsz := J.out.grow.size
        have hrl : r < w4.heap.size := by obtain ⟨_, _, k⟩ := J.out.res; exact k.lt
        have hs5 := hb.size
        have J2 := hid ((J.out.below hb).below a1)
        have XX := hid (show WinSt p r w5.heap.size w (w5.alloc (.cells #[.slice A3 ns.length c3, .slice A4 ls.length c4] 27)) (.slice A3 ns.length c3) (.slice A4 ls.length c4) ns ls from ⟨J2.out.cur, J2.out.grow, J2.out.res, Blk.new _ _ _, (k1.below a1).less hsz, (k2.below a1).less hsz, J2.out.ok⟩)
        clear hb a1 k1 k2 J z0 z1
        go_wp2_with fail
        generalize hg5 : w5.heap.size = g5 at XX hs5 LQ1 ⊢
        clear hg5
        generalize w5.alloc _ = w6 at J2 XX ⊢
        have G5 := hid (show p < w4.heap.size ∧ w.heap.size ≤ w4.heap.size ∧ r < w4.heap.size ∧ g < w4.heap.size ∧ w4.heap.size ≤ g5 by have := G2.out.1; omega)
        generalize w4.heap.size = B5 at G5 LP1 LP2 LQ1 hs5 hsz hrl hglt ⊢
        obtain ⟨S, hSd⟩ : ∃ S : World → Prop, S = fun W => WinSt p r g w W (.slice A1 ns.length c1) (.slice A2 ls.length c2) ns ls ∧ WinSt p r g5 w W (.slice A3 ns.length c3) (.slice A4 ls.length c4) ns ls := ⟨_, rfl⟩
        have hS : S w6 := by rw [hSd]; exact ⟨J2.out, XX.out⟩
        have SW : Hid (∀ W, S W → WinSt p r g w W (.slice A1 ns.length c1) (.slice A2 ls.length c2) ns ls) := hid (fun W h => by rw [hSd] at h; exact h.1)
        have SX : Hid (∀ W, S W → WinSt p r g5 w W (.slice A3 ns.length c3) (.slice A4 ls.length c4) ns ls) := hid (fun W h => by rw [hSd] at h; exact h.2)
        have SU : Hid (∀ W W', S W → Below W.heap.size W W' → S W') := hid (fun W W' h hb => by rw [hSd] at h ⊢; exact ⟨h.1.below hb, h.2.below hb⟩)
        have SP : Hid (∀ W W', S W → Cur W' p → W.grownBy W' (some p) → S W') := hid (fun W W' h hc hg => by rw [hSd] at h ⊢; exact ⟨h.1.past hc hg plt G2.out.2.2.2.1 (by have := G2.out.1; omega), h.2.past hc hg plt G2.out.2.2.2.1 (by have := G5.out; omega)⟩)
        have CELLS : Hid (∀ W, S W → W.cell? ⟨g5, 0, none⟩ = some (.slice A3 ns.length c3) ∧ W.cell? ⟨g5, 1, none⟩ = some (.slice A4 ls.length c4)) := hid (fun W h => by
          have hb := (SX.out W h).box
          exact ⟨by rw [hb.cell]; rfl, by rw [hb.cell]; rfl⟩)
        have ht1 := Try.underlying24
        clear hSd J2 XX hs5 hsz hrl hglt
        refine wz_start (S := S) 5 (by kernel_rfl) (SU.out _ _ hS (Below.refl _ _).drew) ?_
        refine wz_free (i := 0) (v := ?_) rfl (by kernel_rfl) (by kernel_rfl) (by kernel_rfl) (by decide) (fun _ _ _ h => h) (by kernel_rfl) ?_ ?_
        rotate_left
        (focus (intro w; go_simp; try with_reducible rfl))
        simp only [Act.put, List.setIfInBounds_toArray, List.set_cons_zero, List.set_cons_succ, List.getElem_toArray, List.getElem_cons_succ, List.getElem_cons_zero, Nat.reduceAdd]
        refine wz_free (i := 2) (v := ?_) rfl (by kernel_rfl) (by kernel_rfl) (by kernel_rfl) (by decide) (fun _ _ _ h => h) (by kernel_rfl) ?_ ?_
        rotate_left
        (focus (intro w; go_simp; try with_reducible rfl))
        simp only [Act.put, List.setIfInBounds_toArray, List.set_cons_zero, List.set_cons_succ, List.getElem_toArray, List.getElem_cons_succ, List.getElem_cons_zero, Nat.reduceAdd]
        refine wz_take (i := 1) (v := ?_) rfl (by kernel_rfl) (by kernel_rfl) (by kernel_rfl) (by kernel_rfl) (by decide) (fun _ _ _ h => h) (by kernel_rfl) ?_ ?_
        rotate_left
        (focus (intro w hSw; obtain ⟨z0, z1⟩ := CELLS.out _ hSw; go_simp; try with_reducible rfl))
        simp only [Act.put, List.setIfInBounds_toArray, List.set_cons_zero, List.set_cons_succ, List.getElem_toArray, List.getElem_cons_succ, List.getElem_cons_zero, Nat.reduceAdd]
        refine wz_each (i := 3) (by kernel_rfl) (by decide) rfl ?_
        intro v3 hv3 hS3 K hK
        go_simp
        refine (drawNode_any p _ (SW.out _ hS3).cur).mono ?_
        rintro e w7 ⟨x, y, x0, x1, y0, y1, rfl, hk, hg⟩
        have hS7 := SP.out _ _ hS3 hk hg
        clear hk hg
        (try dsimp only)
        refine hK.out _ _ ⟨hS7, ?_⟩
        clear hK K
        (try simp only [Act.put, List.setIfInBounds_toArray, List.set_cons_zero, List.set_cons_succ, List.getElem_toArray, List.getElem_cons_succ, List.getElem_cons_zero, Nat.reduceAdd])
        refine wz_each (i := 4) (by kernel_rfl) (by decide) rfl ?_
        intro v4 hv4 hS4 K hK
        have hS8 := SU.out _ _ hS4 ((Below.refl _ _).alloc (Nat.le_refl _) (.cells #[.int .i64 x, .int .i64 y] 38))
        have PX := pairs_new v4 [(x, y)] 38 #[.int .i64 x, .int .i64 y] v4.heap.size 1 rfl rfl rfl
        go_simp
        (try dsimp only)
        refine hK.out _ _ ⟨hS8, ?_⟩
        clear hK K
        (try simp only [Act.put, List.setIfInBounds_toArray, List.set_cons_zero, List.set_cons_succ, List.getElem_toArray, List.getElem_cons_succ, List.getElem_cons_zero, Nat.reduceAdd])
        generalize hgx : v4.heap.size = gx at PX ⊢
        clear hgx
        generalize v4.alloc _ = v5 at PX ⊢
        refine wz_switch (by kernel_rfl) rfl ?_
        intro vs hvs hSs K hK
        replace PX := PX.below hvs
        have XO := (SX.out _ hSs)
        rw [if_pos (by kernel_rfl)]
        refine wp_append_pairs _ _ 24 38 rfl ht1 infoNode w.heap.size _ ns rfl XO.o1 _ [(x, y)] rfl PX (by simp; omega) XO.grow.size ?_
        intro v' w8 hown hgrow
        obtain ⟨A7, c7, rfl⟩ := hown.form
        have J3 := hid ((SW.out _ hSs).above hgrow (B := B5) (fun k e => (LQ1.out k e).1) G5.out.2.1 G5.out.1 G5.out.2.2.1 G5.out.2.2.2.1 (fun k e => (LP1.out k e).2) (fun k e => (LP2.out k e).2))
        have k2 := XO.o2.beside_row hgrow XO.o1 (by decide)
        have x5 := XO.box.grow hgrow (fun e => by have := (LQ1.out _ e.symm).2; exact absurd this (Nat.lt_irrefl _))
        generalize hns9 : ns ++ [(x, y)] = n9 at hown ⊢
        clear hns9
        have e0 : w8.cell? ⟨g5, 0, none⟩ = some (.slice A3 ns.length c3) := by rw [x5.cell]; rfl
        have f0 : w8.frozen? ⟨g5, 0, none⟩ = false := x5.frozen 0
        (try dsimp only)
        refine hK.out _ _ ?_
        clear hK K
        (try simp only [Act.put, List.setIfInBounds_toArray, List.set_cons_zero, List.set_cons_succ, List.getElem_toArray, List.getElem_cons_succ, List.getElem_cons_zero, Nat.reduceAdd])
        clear hgrow XO PX hSs hvs
        refine wa_one (i := 6) (by kernel_rfl) rfl (fun K hK => ?_)
        go_simp
        (try dsimp only)
        refine hK.out _ _ ?_
        clear hK K
        (try simp only [Act.put, List.setIfInBounds_toArray, List.set_cons_zero, List.set_cons_succ, List.getElem_toArray, List.getElem_cons_succ, List.getElem_cons_zero, Nat.reduceAdd])
        refine wa_one (i := 7) (by kernel_rfl) rfl (fun K hK => ?_)
        go_simp
        (try dsimp only)
        refine hK.out _ _ ?_
        clear hK K
        (try simp only [Act.put, List.setIfInBounds_toArray, List.set_cons_zero, List.set_cons_succ, List.getElem_toArray, List.getElem_cons_succ, List.getElem_cons_zero, Nat.reduceAdd])
        refine wa_done (by kernel_rfl) ?_
        have J4 := hid (J3.out.above (grown_set w8 g5 0 (.slice A7 n9.length c7)) (B := B5) (fun k e => by have := Option.some.inj e; have := G5.out.2.2.2.2; omega) G5.out.2.1 G5.out.1 G5.out.2.2.1 G5.out.2.2.2.1 (fun k e => (LP1.out k e).2) (fun k e => (LP2.out k e).2))
        have m1 := hown.set_far (World.ownsRow.other hown.1 x5 (by decide)) 0 (.slice A7 n9.length c7)
        have m2 := k2.set_far (World.ownsRow.other k2.1 x5 (by decide)) 0 (.slice A7 n9.length c7)
        replace x5 := x5.set_ 0 (.slice A7 n9.length c7)
        generalize w8.setCell _ _ = w9 at J4 m1 m2 x5 ⊢
        have y0 : w9.cell? ⟨g5, 0, none⟩ = some (.slice A7 n9.length c7) := by rw [x5.cell]; rfl
        have y1 : w9.cell? ⟨g5, 1, none⟩ = some (.slice A4 ls.length c4) := by rw [x5.cell]; rfl
        have M1 := hid m1
        have M2 := hid m2
        have X5 := hid x5
        clear hown k2 e0 f0 m1 m2 x5 J3 SW SX SU SP CELLS hS
        go_wp2_with fail
        refine (sWin_any _ _ n9 ls _ M1.out.pairs M2.out.pairs).mono ?_
        rintro e w10 ⟨rfl, hb⟩
        have J5 := hid (J4.out.below hb)
        replace M1 := hid (M1.out.below hb)
        replace M2 := hid (M2.out.below hb)
        replace X5 := hid (X5.out.below hb X5.out.lt)
        clear hb y0 y1 J4
        cases hq : winOkB n9 ls
        · clear hq
          obtain ⟨u9, v9', hR⟩ := J5.out.res
          have hbx := J5.out.box
          obtain ⟨t1, t2, t3, t4, t5⟩ := J5.out.ret G2.out.2.2.2.2 (by have := HR.out; omega)
          have e0 : w10.cell? ⟨g, 0, none⟩ = some (.slice A1 ns.length c1) := by rw [hbx.cell]; rfl
          have e1 : w10.cell? ⟨g, 1, none⟩ = some (.slice A2 ls.length c2) := by rw [hbx.cell]; rfl
          have r0 : w10.cell? ⟨r, 0, none⟩ = some u9 := by rw [hR.cell]; rfl
          have r1 : w10.cell? ⟨r, 1, none⟩ = some v9' := by rw [hR.cell]; rfl
          have f0 : w10.frozen? ⟨r, 0, none⟩ = false := hR.frozen 0
          have f1 : w10.frozen? ⟨r, 1, none⟩ = false := hR.frozen 1
          have y0 : ((w10.setCell ⟨r, 0, none⟩ (.slice A1 ns.length c1)).setCell ⟨r, 1, none⟩ (.slice A2 ls.length c2)).cell? ⟨r, 0, none⟩ = some (.slice A1 ns.length c1) := by rw [t1.cell]; rfl
          have y1 : ((w10.setCell ⟨r, 0, none⟩ (.slice A1 ns.length c1)).setCell ⟨r, 1, none⟩ (.slice A2 ls.length c2)).cell? ⟨r, 1, none⟩ = some (.slice A2 ls.length c2) := by rw [t1.cell]; rfl
          have T2 := hid t2
          have T3 := hid t3
          have T4 := hid t4
          have T5 := hid t5
          have OKK := hid J5.out.ok
          clear t1 t2 t3 t4 t5 hbx hR
          go_wp2
          exact bodyPost_ret (v := .agg #[(.slice A1 ns.length c1), (.slice A2 ls.length c2)]) (by simp [results, Try.results12, go_sem, y0, y1]) rfl ⟨_, _, _, _, rfl, T2.out, T3.out, OKK.out, T4.out, T5.out⟩
        · obtain ⟨S, hSd⟩ : ∃ S : World → Prop, S = fun W => WinSt p r g w W (.slice A1 ns.length c1) (.slice A2 ls.length c2) ns ls ∧ WinSt p r g5 w W (.slice A7 n9.length c7) (.slice A4 ls.length c4) n9 ls := ⟨_, rfl⟩
          have hS : S w10 := by rw [hSd]; exact ⟨J5.out, ⟨J5.out.cur, J5.out.grow, J5.out.res, X5.out, M1.out, M2.out, hq⟩⟩
          have SW : Hid (∀ W, S W → WinSt p r g w W (.slice A1 ns.length c1) (.slice A2 ls.length c2) ns ls) := hid (fun W h => by rw [hSd] at h; exact h.1)
          have SX : Hid (∀ W, S W → WinSt p r g5 w W (.slice A7 n9.length c7) (.slice A4 ls.length c4) n9 ls) := hid (fun W h => by rw [hSd] at h; exact h.2)
          have SU : Hid (∀ W W', S W → Below W.heap.size W W' → S W') := hid (fun W W' h hb => by rw [hSd] at h ⊢; exact ⟨h.1.below hb, h.2.below hb⟩)
          have SP : Hid (∀ W W', S W → Cur W' p → W.grownBy W' (some p) → S W') := hid (fun W W' h hc hg => by rw [hSd] at h ⊢; exact ⟨h.1.past hc hg plt G2.out.2.2.2.1 (by have := G2.out.1; omega), h.2.past hc hg plt G2.out.2.2.2.1 (by have := G5.out; omega)⟩)
          have CELLS : Hid (∀ W, S W → W.cell? ⟨g5, 0, none⟩ = some (.slice A7 n9.length c7) ∧ W.cell? ⟨g5, 1, none⟩ = some (.slice A4 ls.length c4) ∧ W.cell? ⟨g, 0, none⟩ = some (.slice A1 ns.length c1)) := hid (fun W h => by
            have hb := (SX.out W h).box
            have hb2 := (SW.out W h).box
            exact ⟨by rw [hb.cell]; rfl, by rw [hb.cell]; rfl, by rw [hb2.cell]; rfl⟩)
          have hlen9 := win_len hq
          clear hSd hq J5
          go_wp2_with fail
          refine wz_start (S := S) 13 (by kernel_rfl) (SU.out _ _ hS (Below.refl _ _).drew) ?_
          refine wz_take (i := 0) (v := ?_) rfl (by kernel_rfl) (by kernel_rfl) (by kernel_rfl) (by kernel_rfl) (by decide) (fun _ _ _ h => h) (by kernel_rfl) ?_ ?_
          rotate_left
          (focus (intro w hSw; obtain ⟨z0, z1, z2⟩ := CELLS.out _ hSw; go_simp; try with_reducible rfl))
          simp only [Act.put, List.setIfInBounds_toArray, List.set_cons_zero, List.set_cons_succ, List.getElem_toArray, List.getElem_cons_succ, List.getElem_cons_zero, Nat.reduceAdd]
          refine wz_take (i := 1) (v := ?_) rfl (by kernel_rfl) (by kernel_rfl) (by kernel_rfl) (by kernel_rfl) (by decide) (fun _ _ _ h => h) (by kernel_rfl) ?_ ?_
          rotate_left
          (focus (intro w hSw; obtain ⟨z0, z1, z2⟩ := CELLS.out _ hSw; go_simp; try with_reducible rfl))
          simp only [Act.put, List.setIfInBounds_toArray, List.set_cons_zero, List.set_cons_succ, List.getElem_toArray, List.getElem_cons_succ, List.getElem_cons_zero, Nat.reduceAdd]
          refine wz_take (i := 2) (v := ?_) rfl (by kernel_rfl) (by kernel_rfl) (by kernel_rfl) (by kernel_rfl) (by decide) (fun _ _ _ h => h) (by kernel_rfl) ?_ ?_
          rotate_left
          (focus (intro w hSw; obtain ⟨z0, z1, z2⟩ := CELLS.out _ hSw; go_simp; try with_reducible rfl))
          simp only [Act.put, List.setIfInBounds_toArray, List.set_cons_zero, List.set_cons_succ, List.getElem_toArray, List.getElem_cons_succ, List.getElem_cons_zero, Nat.reduceAdd]
          refine wz_take (i := 3) (v := ?_) rfl (by kernel_rfl) (by kernel_rfl) (by kernel_rfl) (by kernel_rfl) (by decide) (fun _ _ _ h => h) (by kernel_rfl) ?_ ?_
          rotate_left
          (focus (intro w hSw; obtain ⟨z0, z1, z2⟩ := CELLS.out _ hSw; go_simp; try with_reducible rfl))
          simp only [Act.put, List.setIfInBounds_toArray, List.set_cons_zero, List.set_cons_succ, List.getElem_toArray, List.getElem_cons_succ, List.getElem_cons_zero, Nat.reduceAdd]
          refine wz_take (i := 4) (v := ?_) rfl (by kernel_rfl) (by kernel_rfl) (by kernel_rfl) (by kernel_rfl) (by decide) (fun _ _ _ h => h) (by kernel_rfl) ?_ ?_
          rotate_left
          (focus (intro w hSw; obtain ⟨z0, z1, z2⟩ := CELLS.out _ hSw; go_simp; try with_reducible rfl))
          simp only [Act.put, List.setIfInBounds_toArray, List.set_cons_zero, List.set_cons_succ, List.getElem_toArray, List.getElem_cons_succ, List.getElem_cons_zero, Nat.reduceAdd]
          refine wz_take (i := 6) (v := ?_) rfl (by kernel_rfl) (by kernel_rfl) (by kernel_rfl) (by kernel_rfl) (by decide) (fun _ _ _ h => h) (by kernel_rfl) ?_ ?_
          rotate_left
          (focus (intro w hSw; obtain ⟨z0, z1, z2⟩ := CELLS.out _ hSw; go_simp; try with_reducible rfl))
          simp only [Act.put, List.setIfInBounds_toArray, List.set_cons_zero, List.set_cons_succ, List.getElem_toArray, List.getElem_cons_succ, List.getElem_cons_zero, Nat.reduceAdd]
          refine wz_take (i := 7) (v := ?_) rfl (by kernel_rfl) (by kernel_rfl) (by kernel_rfl) (by kernel_rfl) (by decide) (fun _ _ _ h => h) (by kernel_rfl) ?_ ?_
          rotate_left
          (focus (intro w hSw; obtain ⟨z0, z1, z2⟩ := CELLS.out _ hSw; go_simp; try with_reducible rfl))
          simp only [Act.put, List.setIfInBounds_toArray, List.set_cons_zero, List.set_cons_succ, List.getElem_toArray, List.getElem_cons_succ, List.getElem_cons_zero, Nat.reduceAdd]
          refine wz_take (i := 8) (v := ?_) rfl (by kernel_rfl) (by kernel_rfl) (by kernel_rfl) (by kernel_rfl) (by decide) (fun _ _ _ h => h) (by kernel_rfl) ?_ ?_
          rotate_left
          (focus (intro w hSw; obtain ⟨z0, z1, z2⟩ := CELLS.out _ hSw; go_simp; try with_reducible rfl))
          simp only [Act.put, List.setIfInBounds_toArray, List.set_cons_zero, List.set_cons_succ, List.getElem_toArray, List.getElem_cons_succ, List.getElem_cons_zero, Nat.reduceAdd]
          refine wz_each (i := 5) (by kernel_rfl) (by decide) rfl ?_
          intro v6 hv6 hS6 K hK
          go_simp
          refine (curBelow_any p _ _ (SW.out _ hS6).cur (by omega) (by omega)).mono ?_
          rintro e w6b ⟨x9, x0, x1, rfl, hk, hg⟩
          have hS7 := SP.out _ _ hS6 hk hg
          clear hk hg x0 x1
          (try dsimp only)
          refine hK.out _ _ ⟨hS7, ?_⟩
          clear hK K
          (try simp only [Act.put, List.setIfInBounds_toArray, List.set_cons_zero, List.set_cons_succ, List.getElem_toArray, List.getElem_cons_succ, List.getElem_cons_zero, Nat.reduceAdd])
          refine wz_each (i := 9) (by kernel_rfl) (by decide) rfl ?_
          intro v7b hv7b hS7b K hK
          go_simp
          refine (sAdd_any _ _ n9 ls x9 (ns.length : Int) _ (SX.out _ hS7b).o1.pairs (SX.out _ hS7b).o2.pairs (by omega) (by omega)).mono ?_
          rintro e w7 ⟨q1, q2, rfl, k1, k2, hb⟩
          have hS8 := SU.out _ _ hS7b hb
          have hsz := (SW.out _ hS7b).grow.size
          replace k1 := k1.less hsz
          replace k2 := k2.less hsz
          obtain ⟨A5, c5, rfl⟩ := k1.form
          obtain ⟨A6, c6, rfl⟩ := k2.form
          clear hb hsz
          (try dsimp only)
          refine hK.out _ _ ⟨hS8, ?_⟩
          clear hK K
          (try simp only [Act.put, List.setIfInBounds_toArray, List.set_cons_zero, List.set_cons_succ, List.getElem_toArray, List.getElem_cons_succ, List.getElem_cons_zero, Nat.reduceAdd])
          refine wz_take (i := 10) (v := ?_) rfl (by kernel_rfl) (by kernel_rfl) (by kernel_rfl) (by kernel_rfl) (by decide) (fun _ _ _ h => h) (by kernel_rfl) ?_ ?_
          rotate_left
          (focus (intro w hSw; skip; go_simp; try with_reducible rfl))
          simp only [Act.put, List.setIfInBounds_toArray, List.set_cons_zero, List.set_cons_succ, List.getElem_toArray, List.getElem_cons_succ, List.getElem_cons_zero, Nat.reduceAdd]
          refine wz_take (i := 11) (v := ?_) rfl (by kernel_rfl) (by kernel_rfl) (by kernel_rfl) (by kernel_rfl) (by decide) (fun _ _ _ h => h) (by kernel_rfl) ?_ ?_
          rotate_left
          (focus (intro w hSw; skip; go_simp; try with_reducible rfl))
          simp only [Act.put, List.setIfInBounds_toArray, List.set_cons_zero, List.set_cons_succ, List.getElem_toArray, List.getElem_cons_succ, List.getElem_cons_zero, Nat.reduceAdd]
          refine wz_free (i := 12) (v := ?_) rfl (by kernel_rfl) (by kernel_rfl) (by kernel_rfl) (by decide) (fun _ _ _ h => h) (by kernel_rfl) ?_ ?_
          rotate_left
          (focus (intro w; go_simp; try with_reducible rfl))
          simp only [Act.put, List.setIfInBounds_toArray, List.set_cons_zero, List.set_cons_succ, List.getElem_toArray, List.getElem_cons_succ, List.getElem_cons_zero, Nat.reduceAdd]
          refine wz_last (by kernel_rfl) rfl (by kernel_rfl) ?_
          intro v9 hv9 hS9 K hK
          replace k1 := k1.below hv9
          replace k2 := k2.below hv9
          have hbx := (SW.out _ hS9).box
          have e0 : v9.cell? ⟨g, 0, none⟩ = some (.slice A1 ns.length c1) := by rw [hbx.cell]; rfl
          have e1 : v9.cell? ⟨g, 1, none⟩ = some (.slice A2 ls.length c2) := by rw [hbx.cell]; rfl
          have f0 : v9.frozen? ⟨g, 0, none⟩ = false := hbx.frozen 0
          have f1 : v9.frozen? ⟨g, 1, none⟩ = false := hbx.frozen 1
          go_simp
          have I9 := hid ((SW.out _ hS9).put k1 k2 (alL_ok (SX.out _ hS9).ok x9 (ns.length : Int)) G2.out.1 G2.out.2.1 G2.out.2.2.1)
          (try dsimp only)
          refine hK.out _ _ ?_
          clear hK K
          clear e0 e1 f0 f1 hbx k1 k2 hv9 hS9
          generalize (World.setCell _ _ _).setCell _ _ = w9 at I9 ⊢
          obtain ⟨u9, v9', hR⟩ := I9.out.res
          have hbx := I9.out.box
          obtain ⟨t1, t2, t3, t4, t5⟩ := I9.out.ret G2.out.2.2.2.2 (by have := HR.out; omega)
          have e0 : w9.cell? ⟨g, 0, none⟩ = some (.slice A5 n9.length c5) := by rw [hbx.cell]; rfl
          have e1 : w9.cell? ⟨g, 1, none⟩ = some (.slice A6 (alL n9 ls x9 (ns.length : Int)).length c6) := by rw [hbx.cell]; rfl
          have r0 : w9.cell? ⟨r, 0, none⟩ = some u9 := by rw [hR.cell]; rfl
          have r1 : w9.cell? ⟨r, 1, none⟩ = some v9' := by rw [hR.cell]; rfl
          have f0 : w9.frozen? ⟨r, 0, none⟩ = false := hR.frozen 0
          have f1 : w9.frozen? ⟨r, 1, none⟩ = false := hR.frozen 1
          have y0 : ((w9.setCell ⟨r, 0, none⟩ (.slice A5 n9.length c5)).setCell ⟨r, 1, none⟩ (.slice A6 (alL n9 ls x9 (ns.length : Int)).length c6)).cell? ⟨r, 0, none⟩ = some (.slice A5 n9.length c5) := by rw [t1.cell]; rfl
          have y1 : ((w9.setCell ⟨r, 0, none⟩ (.slice A5 n9.length c5)).setCell ⟨r, 1, none⟩ (.slice A6 (alL n9 ls x9 (ns.length : Int)).length c6)).cell? ⟨r, 1, none⟩ = some (.slice A6 (alL n9 ls x9 (ns.length : Int)).length c6) := by rw [t1.cell]; rfl
          have T2 := hid t2
          have T3 := hid t3
          have T4 := hid t4
          have T5 := hid t5
          have OKK := hid I9.out.ok
          clear t1 t2 t3 t4 t5 hbx hR
          go_wp2
          exact bodyPost_ret (v := .agg #[(.slice A5 n9.length c5), (.slice A6 (alL n9 ls x9 (ns.length : Int)).length c6)]) (by simp [results, Try.results12, go_sem, y0, y1]) rfl ⟨_, _, _, _, rfl, T2.out, T3.out, OKK.out, T4.out, T5.out⟩
/-- a valid window, whatever it is -/
def GoodWin (w : World) (e : Ending) (w' : World) : Prop := ∃ p1 p2 ns ls, e = .returned (.agg #[p1, p2]) ∧ OwnR w.heap.size 38 w' p1 ns ∧ OwnR w.heap.size 30 w' p2 ls ∧ winOkB ns ls = true ∧ Below w.heap.size w w'
theorem drawWindow_any (A : Option Addr) (n c : Nat) (w : World) (hb : LoBytes w A n) (hn : n ≤ 1048576) : Calls Try.prog 5 #[.slice A n c] w (GoodWin w) := by
  have b0 : Below w.heap.size w (w.alloc (.cells #[.slice none 0 0, .slice none 0 0] 27)) := (Below.refl _ _).alloc (Nat.le_refl _) _
  have LB := hid (hb.below b0)
  have R0 := hid (Blk.new w 27 #[.slice none 0 0, .slice none 0 0])
  have B0 := hid b0
  clear hb b0
  go_enter Try.func5, Try.ntmps5
  go_wp2_with fail
  refine (curNew_any A n c _ LB.out hn).mono ?_
  rintro e w1 ⟨p, rfl, hp, hc, hb⟩
  have K1 := hid hc
  have R1 := hid (R0.out.below hb R0.out.lt)
  have B1 := hid (then_ B0.out hb B0.out.size)
  simp only [World.alloc, Array.size_push] at hp
  clear hc hb
  go_wp2_with fail
  refine (drawWin_any p _ K1.out).mono ?_
  rintro e w2 ⟨p1, p2, ns, ls, rfl, o1, o2, ok, hc, hg⟩
  obtain ⟨A1, c1, rfl⟩ := o1.form
  obtain ⟨A2, c2, rfl⟩ := o2.form
  have R2 := hid (R1.out.grow hg (fun e => by have := Option.some.inj e; omega))
  have B2 := hid (B1.out.grown hg B1.out.size (fun g hg => by cases hg; omega))
  have hs := B1.out.size
  have r0 : w2.cell? ⟨w.heap.size, 0, none⟩ = some (.slice none 0 0) := by rw [R2.out.cell]; rfl
  have r1 : w2.cell? ⟨w.heap.size, 1, none⟩ = some (.slice none 0 0) := by rw [R2.out.cell]; rfl
  have f0 : w2.frozen? ⟨w.heap.size, 0, none⟩ = false := R2.out.frozen 0
  have f1 : w2.frozen? ⟨w.heap.size, 1, none⟩ = false := R2.out.frozen 1
  have n1 := World.ownsRow.other o1.1 R2.out (by decide)
  have n2 := World.ownsRow.other o2.1 R2.out (by decide)
  have O1 := hid (((o1.less hs).set_far n1 0 (.slice A1 ns.length c1)).set_far n1 1 (.slice A2 ls.length c2))
  have O2 := hid (((o2.less hs).set_far n2 0 (.slice A1 ns.length c1)).set_far n2 1 (.slice A2 ls.length c2))
  have R3 := (R2.out.set_ 0 (.slice A1 ns.length c1)).set_ 1 (.slice A2 ls.length c2)
  have t0 : ((w2.setCell ⟨w.heap.size, 0, none⟩ (.slice A1 ns.length c1)).setCell ⟨w.heap.size, 1, none⟩ (.slice A2 ls.length c2)).cell? ⟨w.heap.size, 0, none⟩ = some (.slice A1 ns.length c1) := by rw [R3.cell]; rfl
  have t1 : ((w2.setCell ⟨w.heap.size, 0, none⟩ (.slice A1 ns.length c1)).setCell ⟨w.heap.size, 1, none⟩ (.slice A2 ls.length c2)).cell? ⟨w.heap.size, 1, none⟩ = some (.slice A2 ls.length c2) := by rw [R3.cell]; rfl
  have B3 := hid ((B2.out.setCell (p := ⟨w.heap.size, 0, none⟩) (Nat.le_refl _) (.slice A1 ns.length c1)).setCell (p := ⟨w.heap.size, 1, none⟩) (Nat.le_refl _) (.slice A2 ls.length c2))
  have OK := hid ok
  clear o1 o2 ok hc hg n1 n2 R3 hs
  go_wp2
  exact bodyPost_ret (v := .agg #[.slice A1 ns.length c1, .slice A2 ls.length c2]) (by simp [results, Try.results5, go_sem, t0, t1]) rfl ⟨_, _, _, _, rfl, O1.out, O2.out, OK.out, B3.out⟩
end Go.Proofs.Ytbijbohkpjnjnaa
