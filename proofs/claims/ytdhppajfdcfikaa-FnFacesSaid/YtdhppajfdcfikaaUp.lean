/- The contracts on which the comparison of two darts rests, once more: with the fact that no draw is taken back. No condition. -/
import Derived.Test.YtdhppajfdcfikaaDartb
import Derived.Test.YtdhppajfdcfikaaHeld
import Derived.Sort.Grow
import Derived.Deep.Draws
namespace Go.Proofs.Ytdhppajfdcfikaa.Up
open Go.ChangeShapes Go.WideShapes Go.ChangeAt Go.RowKit
set_option maxHeartbeats 2000000
set_option linter.unusedSimpArgs false
set_option linter.unusedVariables false
structure Below (B : Nat) (w w' : World) : Prop extends Go.RowKit.Below B w w' where
  drawn : w.drawn ≤ w'.drawn
instance {B : Nat} {w w' : World} : CoeOut (Below B w w') (Go.RowKit.Below B w w') := ⟨Below.toBelow⟩
theorem Below.refl (B : Nat) (w : World) : Below B w w := ⟨Go.RowKit.Below.refl B w, Nat.le_refl _⟩
theorem Below.trans {B : Nat} {a b c : World} (h : Below B a b) (k : Below B b c) : Below B a c := ⟨h.toBelow.trans k.toBelow, Nat.le_trans h.drawn k.drawn⟩
theorem Below.mono {B B' : Nat} {w w' : World} (h : Below B w w') (hB : B' ≤ B) : Below B' w w' := ⟨h.toBelow.mono hB, h.drawn⟩
theorem Below.drew {B : Nat} {a w : World} (h : Below B a w) : Below B a w.drew := ⟨h.toBelow.drew, Nat.le_succ_of_le h.drawn⟩
theorem Below.alloc {B : Nat} {a w : World} (h : Below B a w) (hB : B ≤ w.heap.size) (o : Obj) : Below B a (w.alloc o) := ⟨h.toBelow.alloc hB o, h.drawn⟩
theorem Below.setCell {B : Nat} {a w : World} (h : Below B a w) {p : Addr} (hp : B ≤ p.block) (u : Value) : Below B a (w.setCell p u) := ⟨h.toBelow.setCell hp u, h.drawn⟩
structure Mv where
  d : Nat
  os : Array Obj
instance : Inhabited Mv := ⟨⟨0, #[]⟩⟩
def mv (w : World) (p : Mv) : World := { w with heap := w.heap ++ p.os, drawn := w.drawn + p.d }
theorem size_mv (w : World) (p : Mv) : (mv w p).heap.size = w.heap.size + p.os.size := by simp [mv]
theorem heap_mv (w : World) (p : Mv) (k : Nat) (h : k < w.heap.size) : (mv w p).heap[k]? = w.heap[k]? := by
  simp only [mv]; rw [Array.getElem?_append_left h]
theorem below_mv (w : World) (p : Mv) : Below w.heap.size w (mv w p) := ⟨⟨rfl, rfl, rfl, by rw [size_mv]; omega, fun k hk => heap_mv w p k hk⟩, by simp [mv]⟩
theorem mv_of_below {w w' : World} (h : Below w.heap.size w w') : ∃ p, w' = mv w p := by
  refine ⟨⟨w'.drawn - w.drawn, w'.heap.extract w.heap.size w'.heap.size⟩, ?_⟩
  have hz := h.size
  have hh : w'.heap = w.heap ++ w'.heap.extract w.heap.size w'.heap.size := by
    apply Array.ext_getElem?
    intro k
    by_cases hk : k < w.heap.size
    · rw [Array.getElem?_append_left hk]; exact h.block k hk
    · rw [Array.getElem?_append_right (by omega), Array.getElem?_extract]
      by_cases hk2 : k < w'.heap.size
      · rw [if_pos (by omega)]; congr 1; omega
      · rw [if_neg (by omega), Array.getElem?_eq_none (by omega)]
  have hd : w'.drawn = w.drawn + (w'.drawn - w.drawn) := by have := h.drawn; omega
  have h1 := h.tape
  have h2 := h.os
  have h3 := h.output
  clear hz h
  cases w'
  simp only [mv, World.mk.injEq]
  exact ⟨hh, h1, hd, h2, h3⟩
theorem mv_mv (w : World) (p q : Mv) : mv (mv w p) q = mv w ⟨p.d + q.d, p.os ++ q.os⟩ := by simp [mv, Array.append_assoc, Nat.add_assoc]
theorem drew_mv (w : World) : w.drew = mv w ⟨1, #[]⟩ := by
  show ({ w with drawn := w.drawn + 1 } : World) = { w with heap := w.heap ++ #[], drawn := w.drawn + 1 }
  rw [Array.append_empty]
theorem cell_mv {w : World} {b o : Nat} {v : Value} (hb : b < w.heap.size) (h : w.cell? ⟨b, o, none⟩ = some v) (p : Mv) : (mv w p).cell? ⟨b, o, none⟩ = some v := by
  rw [(below_mv w p).cell (p := ⟨b, o, none⟩) hb]; exact h
theorem wp_region_mv {P : Program} {id : Nat} {Q : Exit → Act → World → Prop} {a : Act} {w : World} {l : List Oper} (hm : P.follows .mixedOrders = true) (hB : Region.lexB .any l.toArray = true)
    (h : wpQuiet P l.toArray (fun w' => ∃ p : Mv, w' = mv w p) (fun a' => ∀ w', (∃ p : Mv, w' = mv w p) → Q .normal a' w') l a) : (Code.region id l.toArray true).wp P Q a w :=
  wp_region_quiet (C := fun w' => ∃ p : Mv, w' = mv w p) hm hB ⟨⟨1, #[]⟩, drew_mv w⟩ (by simpa using h)
theorem calls_mv {P : Program} {f : FuncId} {args : Array Value} {w : World} {p : Mv} {v : Value}
    (h : Calls P f args (mv w p) fun e w' => e = .returned v ∧ Below (mv w p).heap.size (mv w p) w') : Calls P f args (mv w p) fun e w'' => e = .returned v ∧ ∃ q : Mv, w'' = mv w q :=
  h.mono fun _ _ ⟨he, hb⟩ => ⟨he, by obtain ⟨q, rfl⟩ := mv_of_below hb; exact ⟨_, mv_mv _ _ _⟩⟩
theorem calls_mv_same {P : Program} {f : FuncId} {args : Array Value} {w : World} {p : Mv} {v : Value}
    (h : Calls P f args (mv w p) fun e w' => e = .returned v ∧ mv w p = w') : Calls P f args (mv w p) fun e w'' => e = .returned v ∧ ∃ q : Mv, w'' = mv w q :=
  h.mono fun _ _ ⟨he, hb⟩ => ⟨he, ⟨p, hb.symm⟩⟩

/-! cells of new blocks -/
theorem cell_new (W : World) (cs : Array Value) (T : TypeId) (g i : Nat) (hg : g = W.heap.size) : (W.alloc (.cells cs T)).cell? ⟨g, i, none⟩ = cs[i]? := by
  subst hg; exact World.cell?_alloc_new ..

/-- block g holds the two ints x, y -/
structure Box2 (w : World) (g : Nat) (x y : Int) : Prop where
  lt : g < w.heap.size
  c0 : w.cell? ⟨g, 0, none⟩ = some (.int .i64 x)
  c1 : w.cell? ⟨g, 1, none⟩ = some (.int .i64 y)
theorem Box2.new (W : World) (x y : Int) (T : TypeId) (g : Nat) (hg : g = W.heap.size) : Box2 (W.alloc (.cells #[.int .i64 x, .int .i64 y] T)) g x y :=
  ⟨by simp; omega, by rw [cell_new _ _ _ _ _ hg]; rfl, by rw [cell_new _ _ _ _ _ hg]; rfl⟩
theorem Box2.below {w w' : World} {g : Nat} {x y : Int} (h : Box2 w g x y) (hb : Below w.heap.size w w') : Box2 w' g x y :=
  ⟨Nat.lt_of_lt_of_le h.lt hb.size, by rw [hb.cell (p := ⟨g, 0, none⟩) h.lt]; exact h.c0, by rw [hb.cell (p := ⟨g, 1, none⟩) h.lt]; exact h.c1⟩
theorem Box2.alloc {w : World} {g : Nat} {x y : Int} (h : Box2 w g x y) (o : Obj) : Box2 (w.alloc o) g x y := h.below ((Below.refl _ _).alloc (Nat.le_refl _) o)
theorem Box2.mv {w : World} {g : Nat} {x y : Int} (h : Box2 w g x y) (p : Mv) : Box2 (mv w p) g x y := h.below (below_mv w p)
theorem then_ {B : Nat} {a b c : World} (h : Below B a b) (k : Below b.heap.size b c) (hB : B ≤ b.heap.size) : Below B a c := h.trans (k.mono hB)

theorem up_grow {w w' : World} (h : Below w.heap.size w w') : ∃ q os, w' = Sort.grow (w.drewN q) os := by
  obtain ⟨p, rfl⟩ := mv_of_below h
  exact ⟨p.d, p.os, by simp [mv, Sort.grow, World.drewN]⟩
theorem within_any (n lo hi : Int) (w : World) : Calls Try.prog 72 #[.int .i64 n, .int .i64 lo, .int .i64 hi] w fun e w' => e = .returned (.bool (inB n lo hi)) ∧ w = w' := by
  go_enter Try.func72, Try.ntmps72
  go_wp2
  all_goals go_ret
  all_goals exact ⟨ret_bool (by unfold inB; rw [Bool.eq_iff_iff]; simp; try omega), rfl⟩
theorem iNodeOk_any (x y : Int) (w : World) : Calls Try.prog 111 #[.agg #[.int .i64 x, .int .i64 y]] w fun e w' => e = .returned (.bool (nodeOkB x y)) ∧ Below w.heap.size w w' := by
  go_enter Try.func111, Try.ntmps111
  cases h : inB x 0 20
  all_goals
    go_wp2_with (go_at_call 72; refine (within_any _ _ _ _).mono ?_; rintro e w' ⟨rfl, rfl⟩)
    go_ret
    exact ⟨ret_bool (by unfold nodeOkB; simp [h]), (Below.refl _ _).alloc (Nat.le_refl _) _⟩
theorem nodesOk_any (v : Value) (ns : List (Int × Int)) (w : World) (hv : PairsAt w v ns) : Calls Try.prog 95 #[v] w fun e w' => e = .returned (.bool (okAll ns)) ∧ Below w.heap.size w w' := by
  obtain ⟨A, c, rfl, hc, hm, hcell⟩ := hv
  unfold maxLen at hm
  have HC := hid hcell
  clear hcell
  go_enter Try.func95, Try.ntmps95
  go_wp2
  go_loopw [7] (fun i wr => ∃ k : Nat, k ≤ ns.length ∧ i = .int .i64 k ∧ okAll (ns.take k) = true ∧ Below w.heap.size w wr) (fun i _ => ns.length - (intOf i).toNat)
  case atStart => exact ⟨0, Nat.zero_le _, rfl, rfl, Below.refl _ _⟩
  case round =>
    obtain ⟨k, hk, rfl, ho, hb⟩ := hrel
    have hbs := hb.size
    by_cases hlt : k < ns.length
    · obtain ⟨⟨x, y⟩, hxy⟩ : ∃ p, ns[k]? = some p := ⟨_, List.getElem?_eq_getElem hlt⟩
      obtain ⟨b, off, rfl, hbb, h1, h2⟩ := HC.out k x y hxy
      have h1' : wr.cell? ⟨b, off + k * 2, none⟩ = some (.int .i64 x) := by rw [hb.cell (p := ⟨b, _, none⟩) hbb]; exact h1
      have h2' : wr.cell? ⟨b, off + k * 2 + 1, none⟩ = some (.int .i64 y) := by rw [hb.cell (p := ⟨b, _, none⟩) hbb]; exact h2
      have HX := hid hxy
      have HO := hid ho
      have HB := hid hb
      clear h1 h2 hxy ho hb
      cases hn : nodeOkB x y
      · go_wp2_with (go_at_call 111; refine (iNodeOk_any _ _ _).mono ?_; rintro e w1 ⟨rfl, hb1⟩)
        go_ret
        refine ⟨ret_bool ?_, ?_⟩
        · exact (okAll_no _ _ _ _ HX.out hn).symm
        · exact (HB.out.alloc hbs _).trans (hb1.mono (by simp; omega))
      · go_wp2_with (go_at_call 111; refine (iNodeOk_any _ _ _).mono ?_; rintro e w1 ⟨rfl, hb1⟩)
        go_roundw
        case rel => exact ⟨k + 1, by omega, by go_num, by rw [okAll_snoc _ _ _ _ HX.out, HO.out, hn]; rfl, (HB.out.alloc hbs _).trans (hb1.mono (by simp; omega))⟩
        case measure => simp [intOf]; omega
    · have he : k = ns.length := by omega
      subst he
      go_wp2
      go_ret
      exact ⟨ret_bool (by rw [List.take_length] at ho; exact ho.symm), hb⟩
theorem iTurnOf_any (ax ay bx by' cx cy : Int) (w : World) : Calls Try.prog 114 #[.agg #[.int .i64 ax, .int .i64 ay], .agg #[.int .i64 bx, .int .i64 by'], .agg #[.int .i64 cx, .int .i64 cy]] w fun e w' => e = .returned (.int .i64 (turnF ax ay bx by' cx cy)) ∧ Below w.heap.size w w' := by
  go_enter Try.func114, Try.ntmps114
  cases h : okAll [(ax, ay), (bx, by'), (cx, cy)]
  all_goals
    go_wp2_with fail
    refine (nodesOk_any _ [(ax, ay), (bx, by'), (cx, cy)] _ (pairs_new _ _ _ _ _ _ (by simp) rfl rfl)).mono ?_
    rintro e w' ⟨rfl, hb1⟩
    rw [h]
  · go_wp2
    go_ret
    refine ⟨ret_int (by simp [turnF, h]), ?_⟩
    exact ((((Below.refl _ _).alloc (Nat.le_refl _) _).alloc (by simp) _).alloc (by simp; omega) _).alloc (by simp; omega) _ |>.trans (hb1.mono (by simp; omega))
  · obtain ⟨hc1, hf1⟩ := bcell hb1.toBelow
    obtain ⟨⟨_, _⟩, ⟨_, _⟩, ⟨_, _⟩, ⟨_, _⟩, ⟨_, _⟩, ⟨_, _⟩⟩ := ok3 h
    have p1 := prod_bd (a := bx - ax) (b := cy - ay) (m := 20) (n := 20) (by omega) (by omega) (by omega)
    have p2 := prod_bd (a := by' - ay) (b := cx - ax) (m := 20) (n := 20) (by omega) (by omega) (by omega)
    go_wp2
    go_ret
    refine ⟨ret_int (by simp [turnF, h]; rfl), ?_⟩
    exact ((((Below.refl _ _).alloc (Nat.le_refl _) _).alloc (by simp) _).alloc (by simp; omega) _).alloc (by simp; omega) _ |>.trans (hb1.mono (by simp; omega))
theorem iHalf_any (ax ay bx by' : Int) (w : World) : Calls Try.prog 121 #[.agg #[.int .i64 ax, .int .i64 ay], .agg #[.int .i64 bx, .int .i64 by']] w fun e w' => e = .returned (.int .i64 (half ax ay bx by')) ∧ Below w.heap.size w w' := by
  go_enter Try.func121, Try.ntmps121
  go_wp2
  all_goals go_ret
  all_goals exact ⟨ret_int (by unfold half; repeat' split <;> omega), by repeat (first | exact Below.refl _ _ | refine Below.alloc ?_ (by simp; try omega) _)⟩
theorem iBef_any (ax ay bx by' cx cy : Int) (w : World) : Calls Try.prog 110 #[.agg #[.int .i64 ax, .int .i64 ay], .agg #[.int .i64 bx, .int .i64 by'], .agg #[.int .i64 cx, .int .i64 cy]] w fun e w' => e = .returned (.bool (bef ax ay bx by' cx cy)) ∧ Below w.heap.size w w' := by
  cases h : okAll [(ax, ay), (bx, by'), (cx, cy)]
  all_goals
    have H := hid h
    have hA0 : Box2 (((w.alloc (.cells #[.int .i64 ax, .int .i64 ay] 71)).alloc (.cells #[.int .i64 bx, .int .i64 by'] 71)).alloc (.cells #[.int .i64 cx, .int .i64 cy] 71)) w.heap.size ax ay := ((Box2.new _ _ _ _ _ rfl).alloc _).alloc _
    have hB0 : Box2 (((w.alloc (.cells #[.int .i64 ax, .int .i64 ay] 71)).alloc (.cells #[.int .i64 bx, .int .i64 by'] 71)).alloc (.cells #[.int .i64 cx, .int .i64 cy] 71)) (w.heap.size + 1) bx by' := (Box2.new _ _ _ _ _ (by simp)).alloc _
    have hC0 : Box2 (((w.alloc (.cells #[.int .i64 ax, .int .i64 ay] 71)).alloc (.cells #[.int .i64 bx, .int .i64 by'] 71)).alloc (.cells #[.int .i64 cx, .int .i64 cy] 71)) (w.heap.size + 1 + 1) cx cy := Box2.new _ _ _ _ _ (by simp)
    clear h
    go_enter Try.func110, Try.ntmps110
    go_wp2_with fail
    refine (nodesOk_any _ [(ax, ay), (bx, by'), (cx, cy)] _ (pairs_new _ _ _ _ _ _ (by simp) rfl rfl)).mono ?_
    rintro e w1 ⟨rfl, hb1⟩
    rw [H.out]
    have hA1 := (hA0.alloc _).below hb1
    have hB1 := (hB0.alloc _).below hb1
    have hC1 := (hC0.alloc _).below hb1
    have z1 : w.heap.size ≤ w1.heap.size := by have := hb1.size; simp at this; omega
  · go_wp2
    go_ret
    exact ⟨ret_bool (by simp [bef, H.out]), (then_ (((((Below.refl _ _).alloc (Nat.le_refl _) _).alloc (by simp) _).alloc (by simp; omega) _).alloc (by simp; omega) _) hb1 (by simp; omega))⟩
  · go_wp2_with fail
    have m2a0 := fun p => (hA1.mv p).c0
    have m2a1 := fun p => (hA1.mv p).c1
    have m2b0 := fun p => (hB1.mv p).c0
    have m2b1 := fun p => (hB1.mv p).c1
    have m2c0 := fun p => (hC1.mv p).c0
    have m2c1 := fun p => (hC1.mv p).c1
    refine wp_region_mv (by kernel_rfl) (by kernel_rfl) ?_
    repeat (quiet_step ((go_at_call 121; exact calls_mv (iHalf_any _ _ _ _ _))))
    refine wpQuiet_nil ?_
    intro _ hw'
    obtain ⟨q2, hw''⟩ := hw'
    subst hw''
    have hA3 := hA1.mv q2
    have hB3 := hB1.mv q2
    have hC3 := hC1.mv q2
    have c3a0 := hA3.c0
    have c3a1 := hA3.c1
    have c3b0 := hB3.c0
    have c3b1 := hB3.c1
    have c3c0 := hC3.c0
    have c3c1 := hC3.c1
    rcases Int.lt_trichotomy (half ax ay bx by') (half ax ay cx cy) with e1 | e1 | e1
    · go_wp2
      go_ret
      exact ⟨ret_bool (by simp [bef, H.out, e1]), then_ (then_ (((((Below.refl _ _).alloc (Nat.le_refl _) _).alloc (by simp) _).alloc (by simp; omega) _).alloc (by simp; omega) _) hb1 (by simp; omega)) (below_mv _ q2) (by omega)⟩
    · have E1 := hid e1
      have e2 : (half ax ay bx by' == half ax ay cx cy) = true := by simpa using e1
      have e3 : ¬ half ax ay bx by' < half ax ay cx cy := by omega
      clear e1
      go_wp2_with fail
      refine (iTurnOf_any _ _ _ _ _ _ _).mono ?_
      rintro e w4 ⟨rfl, hb4⟩
      go_wp2
      all_goals go_ret
      all_goals exact ⟨ret_bool (by have := E1.out; simp [bef, H.out, this, turnF]), then_ (then_ (then_ (((((Below.refl _ _).alloc (Nat.le_refl _) _).alloc (by simp) _).alloc (by simp; omega) _).alloc (by simp; omega) _) hb1 (by simp; omega)) (below_mv _ q2) (by omega)) hb4 (by rw [size_mv]; omega)⟩
    · have e2 : (half ax ay bx by' == half ax ay cx cy) = false := by simp; omega
      have e3 : ¬ half ax ay bx by' < half ax ay cx cy := by omega
      go_wp2
      go_ret
      exact ⟨ret_bool (by have : ¬ half ax ay bx by' = half ax ay cx cy := by omega
                          simp [bef, H.out, this]; omega), then_ (then_ (((((Below.refl _ _).alloc (Nat.le_refl _) _).alloc (by simp) _).alloc (by simp; omega) _).alloc (by simp; omega) _) hb1 (by simp; omega)) (below_mv _ q2) (by omega)⟩
theorem iDartFrom0 (vn vl : Value) (ns ls : List (Int × Int)) (d : Int) (w : World) (hn : PairsAt w vn ns) (hl : PairsAt w vl ls) (h0 : 0 ≤ d) (h9 : d < 2 * (ls.length : Int)) (h39 : d ≤ 39) : Calls Try.prog 82 #[.agg #[vn, vl], .int .i64 d] w fun e w' => e = .returned (.int .i64 (dFrom ls d)) ∧ Below w.heap.size w w' := by
  have s0 : Below w.heap.size w (w.alloc (.cells #[vn, vl] 31)) := (Below.refl _ _).alloc (Nat.le_refl _) _
  have HN := hid (hn.below s0.toBelow)
  have HL := hid (hl.below s0.toBelow)
  have B0 := hid (BoxV.new w vn vl 31 w.heap.size rfl)
  have S0 := hid s0
  clear s0
  obtain ⟨A, c, rfl, hcn, hm, _⟩ := id hn
  obtain ⟨A', c', rfl, hcl, hm', _⟩ := id hl
  unfold maxLen at hm hm'
  clear hn hl
  have v0 := B0.out.c0
  have v1 := B0.out.c1
  obtain ⟨⟨f, t⟩, hft⟩ : ∃ p, ls[(d / 2).toNat]? = some p := ⟨_, List.getElem?_eq_getElem (by omega)⟩
  obtain ⟨b1, off, rfl, hbb, h1, h2⟩ := HL.out.at_ hft
  have P := hid (ptN_of hft)
  clear hft
  have hd2 : 0 ≤ d / 2 := by omega
  have hd3 : d / 2 < (ls.length : Int) := by omega
  by_cases e : d % 2 = 0
  · have e' : (d % 2 == 0) = true := by simp [e]
    have E := hid e
    clear e
    go_enter Try.func82, Try.ntmps82
    go_wp2
    go_ret
    exact ⟨ret_int (by unfold dFrom; rw [if_pos E.out, P.out]), S0.out⟩
  · have e' : (d % 2 == 0) = false := by simp [e]
    have E := hid e
    clear e
    go_enter Try.func82, Try.ntmps82
    go_wp2
    go_ret
    exact ⟨ret_int (by unfold dFrom; rw [if_neg E.out, P.out]), S0.out⟩
section
variable {P : Program} {ops : Array Oper} {Q : Exit → Act → World → Prop} {md : Region.Mode} {S : World → Prop} {fuel : Nat} {listed : Array Bool} {a : Act} {w : World}
/-- in every world that meets S the operation yields v and leaves the old blocks as they are and S true -/
def YieldsM (P : Program) (ops : Array Oper) (S : World → Prop) (o : Oper) (v : Value) (a : Act) : Prop :=
  (Region.wanted o (yielded ops a.tmps) = true ∧ ∀ w, S w → ((execOp a.eval o).run P w = .ok (.value v) w ∨ ∃ f args, (execOp a.eval o).run P w = .ok (.enter f args) w ∧ Calls P f args w fun e w' => e = .returned v ∧ Below w.heap.size w w' ∧ S w')) ∨
  (Region.wanted o (yielded ops a.tmps) = false ∧ v = undef)
theorem YieldsM.wpOp {i : Nat} {o : Oper} {v : Value} {a : Act} (hi : ops[i]? = some o) (hy : YieldsM P ops S o v a) {K : Act → World → Prop} {w : World} (hS : S w)
    (h : ∀ w', Below w.heap.size w w' → S w' → K (a.put o.dst v) w') : wpOp P ops Q i K a w := by
  unfold Go.wpOp
  simp only [hi]
  rcases hy with ⟨hw, hv⟩ | ⟨hw, rfl⟩
  · simp only [hw, if_true]
    refine .inl ?_
    unfold Oper.wp
    rcases hv w hS with hv | ⟨f, args, hv, hc⟩
    · simp only [hv, Oper.upon]; exact h w (Below.refl _ _) hS
    · simp only [hv, Oper.upon]
      refine hc.mono ?_
      rintro e w' ⟨rfl, hb, hs⟩
      exact h w' hb hs
  · simp only [hw, Bool.false_eq_true, if_false]; exact h w (Below.refl _ _) hS
theorem YieldsM.of_same {o : Oper} {v : Value} {a a' : Act} (hy : YieldsM P ops S o v a) (he : execOp a'.eval o = execOp a.eval o)
    (hw : Region.wanted o (yielded ops a'.tmps) = Region.wanted o (yielded ops a.tmps)) : YieldsM P ops S o v a' := by
  unfold YieldsM at *
  rw [he, hw]
  exact hy
theorem wpOp_putM {j : Nat} {oi oj : Oper} {v : Value} (hj : ops[j]? = some oj) (hap : oi.apart ops oj = true)
    (hsi : ∀ cs b, oi.op ≠ .select cs b) (hsj : ∀ cs b, oj.op ≠ .select cs b)
    (hQ : ∀ c a w, Q (.panic c) (a.put oi.dst v) w → Q (.panic c) a w) {K : Act → World → Prop} {a : Act} {w : World}
    (hy : YieldsM P ops S oi v a) (h : wpOp P ops Q j K (a.put oi.dst v) w) :
    wpOp P ops Q j (fun a' w' => YieldsM P ops S oi v a' ∧ K (a'.put oi.dst v) w') a w := by
  obtain ⟨h1, h2, h3⟩ := Oper.apart_spec hap
  have keep : ∀ (a : Act), YieldsM P ops S oi v a → ∀ u, YieldsM P ops S oi v (a.put oj.dst u) := fun a hy u =>
    hy.of_same (execOp_put oi hsi a oj.dst u h3) (wanted_put oi a oj.dst u h3)
  have keepD : ∀ d, YieldsM P ops S oi v { a with defers := d :: a.defers } := fun d => hy.of_same rfl rfl
  unfold wpOp at *
  simp only [hj] at *
  rw [wanted_put oj a oi.dst v h1] at h
  split
  · rename_i hw
    simp only [hw, if_true] at h
    rcases h with h | ⟨hasks, hlets⟩
    case inr => exact .inr ⟨by unfold Oper.asks at *; rw [execOp_put oj hsj a oi.dst v h1] at hasks; exact hasks, hlets⟩
    refine .inl ?_
    unfold Oper.wp at *
    rw [execOp_put oj hsj a oi.dst v h1] at h
    generalize (execOp a.eval oj).run P w = r at *
    cases r with
    | ok n w' =>
      cases n <;> simp only [Oper.upon] at h ⊢
      case value u => exact ⟨keep a hy u, by rw [← Act.put_comm a v u h2]; exact h⟩
      case skip => exact ⟨keep a hy _, by rw [← Act.put_comm a v undef h2]; exact h⟩
      case defer d =>
        refine ⟨keep _ (keepD d) _, ?_⟩
        rw [← Act.put_comm _ v undef h2, ← Act.put_defers]
        exact h
      case enter f args =>
        refine Calls.mono h fun e w'' he => ?_
        cases e with
        | returned u => exact ⟨keep a hy u, by rw [← Act.put_comm a v u h2]; exact he⟩
        | panicked c => exact hQ _ _ _ he
        | outgrown => exact he
      case row row args => exact Rows.mono h fun u w'' he => ⟨keep a hy u, by rw [← Act.put_comm a v u h2]; exact he⟩
    | halt x w' =>
      cases x <;> simp only [Oper.upon] at h ⊢
      case panic u => exact hQ _ _ _ h
  · rename_i hw
    simp only [hw] at h
    exact ⟨keep a hy _, by rw [← Act.put_comm a v undef h2]; exact h⟩
/-- whatever order is picked from here on, from whatever world that keeps the blocks of this one -/
def wpAnyM (P : Program) (md : Region.Mode) (ops : Array Oper) (Q : Exit → Act → World → Prop) (S : World → Prop) : Nat → Array Bool → Act → World → Prop
  | 0, listed, a, w => ∀ w', Below w.heap.size w w' → S w' → Region.ready md ops listed = [] ∧ Q .normal a w'
  | fuel + 1, listed, a, w => ∀ w', Below w.heap.size w w' → S w' → (Region.ready md ops listed = [] → Q .normal a w') ∧
    ∀ i ∈ Region.ready md ops listed, wpOp P ops Q i (fun a' w'' => S w'' ∧ wpAnyM P md ops Q S fuel (listed.setIfInBounds i true) a' w'') a w'
theorem wpAnyM.ext {fuel : Nat} {listed : Array Bool} {a : Act} {w w1 : World} (h : wpAnyM P md ops Q S fuel listed a w) (hb : Below w.heap.size w w1) : wpAnyM P md ops Q S fuel listed a w1 := by
  cases fuel with
  | zero => exact fun w' hb' hS => h w' (then_ hb hb' hb.size) hS
  | succ n => exact fun w' hb' hS => h w' (then_ hb hb' hb.size) hS
theorem wpAny_of_M : ∀ (fuel : Nat) (listed : Array Bool) (a : Act) (w : World), S w → wpAnyM P md ops Q S fuel listed a w → wpAny P md ops Q fuel listed a w
  | 0, _, _, w, hS, h => h w (Below.refl _ _) hS
  | fuel + 1, _, _, w, hS, h => ⟨(h w (Below.refl _ _) hS).1, fun i hi => wpOp_mono (fun a' w' h' => wpAny_of_M fuel _ a' w' h'.1 h'.2) ((h w (Below.refl _ _) hS).2 i hi)⟩
theorem wpAnyM_first {i : Nat} {oi : Oper} {v : Value} (hi : ops[i]? = some oi) (hsel : ∀ (j : Nat) (o : Oper) cs b, ops[j]? = some o → o.op ≠ .select cs b)
    (hQ : ∀ c a w, Q (.panic c) (a.put oi.dst v) w → Q (.panic c) a w) :
    ∀ (fuel : Nat) (listed : Array Bool) (a : Act) (w : World),
      (∀ j oj, ops[j]? = some oj → j ≠ i → listed.getD j true = false → (∀ e ∈ oj.after, Region.binds md e = true → e.on ≠ i) → oi.apart ops oj = true) →
      i ∈ Region.ready md ops listed → YieldsM P ops S oi v a →
      wpAnyM P md ops Q S fuel (listed.setIfInBounds i true) (a.put oi.dst v) w → wpAnyM P md ops Q S (fuel + 1) listed a w := by
  intro fuel
  induction fuel with
  | zero =>
    intro listed a w _ hr hy H w' hb hS
    refine ⟨fun h => (by rw [h] at hr; cases hr), fun j hj => ?_⟩
    by_cases hji : j = i
    · subst hji; exact hy.wpOp hi hS fun w'' hb' hS' => ⟨hS', H.ext (then_ hb hb' hb.size)⟩
    · have := ready_mono hj hji
      rw [(H w' hb hS).1] at this
      cases this
  | succ fuel ih =>
    intro listed a w hfree hr hy H w' hb hS
    refine ⟨fun h => (by rw [h] at hr; cases hr), fun j hj => ?_⟩
    by_cases hji : j = i
    · subst hji; exact hy.wpOp hi hS fun w'' hb' hS' => ⟨hS', H.ext (then_ hb hb' hb.size)⟩
    · have h1 := (H w' hb hS).2 j (ready_mono hj hji)
      obtain ⟨hjun, oj, hoj, hall⟩ := mem_ready.1 hj
      have hnot : ∀ e ∈ oj.after, Region.binds md e = true → e.on ≠ i := fun e he hb heq => by
        have h1 := hall e he hb
        have h0 := (mem_ready.1 hr).1
        rw [heq] at h1
        rcases Nat.lt_or_ge i listed.size with h' | h'
        · simp [h'] at h0 h1; rw [h0] at h1; cases h1
        · simp [Array.getElem?_eq_none h'] at h1
      have h2 := wpOp_putM hoj (hfree j oj hoj hji hjun hnot) (fun cs b => hsel i oi cs b hi) (fun cs b => hsel j oj cs b hoj) hQ hy h1
      have hfree' : ∀ k ok, ops[k]? = some ok → k ≠ i → (listed.setIfInBounds j true).getD k true = false →
          (∀ e ∈ ok.after, Region.binds md e = true → e.on ≠ i) → oi.apart ops ok = true := fun k ok hk hki hun hno => by
        refine hfree k ok hk hki ?_ hno
        by_cases hjk : j = k
        · subst hjk; exact hjun
        · rw [getD_set_ne true hjk] at hun; exact hun
      refine wpOp_mono (fun a' w' h3 => ⟨h3.2.1, ih (listed.setIfInBounds j true) a' w' hfree' (ready_mono hr (Ne.symm hji)) h3.1 ?_⟩) h2
      rw [Array.setIfInBounds_comm _ _ hji]
      exact h3.2.2
theorem wm_start {id : Nat} (hm : P.follows .mixedOrders = true) (hS : S w.drew) (h : wpAnyM P .any ops Q S ops.size (Array.replicate ops.size false) a w.drew) : (Code.region id ops true).wp P Q a w :=
  wp_region_any hm (wpAny_of_M _ _ _ _ hS h)
theorem wm_take {i : Nat} {o : Oper} {v : Value} (hi : ops[i]? = some o) (hs : Region.noSelect ops = true) (hf : Region.free md ops listed i = true) (hr : (Region.ready md ops listed).contains i = true)
    (hQ : ∀ c a w, Q (.panic c) (a.put o.dst v) w → Q (.panic c) a w) (hw : Region.wanted o (yielded ops a.tmps) = true) (hy : ∀ w, S w → (execOp a.eval o).run P w = .ok (.value v) w) (h : wpAnyM P md ops Q S fuel (listed.setIfInBounds i true) (a.put o.dst v) w) : wpAnyM P md ops Q S (fuel + 1) listed a w :=
  wpAnyM_first hi (Region.noSelect_spec hs) hQ fuel listed a w (Region.free_spec hi hf) (by simpa using hr) (.inl ⟨hw, fun w hS => .inl (hy w hS)⟩) h
theorem wm_call {i : Nat} {o : Oper} {v : Value} {f : FuncId} {args : Array Value} (hi : ops[i]? = some o) (hs : Region.noSelect ops = true) (hf : Region.free md ops listed i = true) (hr : (Region.ready md ops listed).contains i = true)
    (hQ : ∀ c a w, Q (.panic c) (a.put o.dst v) w → Q (.panic c) a w) (hw : Region.wanted o (yielded ops a.tmps) = true) (hy : ∀ w, (execOp a.eval o).run P w = .ok (.enter f args) w) (hc : ∀ w, S w → Calls P f args w fun e w' => e = .returned v ∧ Below w.heap.size w w' ∧ S w') (h : wpAnyM P md ops Q S fuel (listed.setIfInBounds i true) (a.put o.dst v) w) : wpAnyM P md ops Q S (fuel + 1) listed a w :=
  wpAnyM_first hi (Region.noSelect_spec hs) hQ fuel listed a w (Region.free_spec hi hf) (by simpa using hr) (.inl ⟨hw, fun w hS => .inr ⟨f, args, hy w, hc w hS⟩⟩) h
theorem wm_skip {i : Nat} {o : Oper} (hi : ops[i]? = some o) (hs : Region.noSelect ops = true) (hf : Region.free md ops listed i = true) (hr : (Region.ready md ops listed).contains i = true)
    (hQ : ∀ c a w, Q (.panic c) (a.put o.dst undef) w → Q (.panic c) a w) (hw : Region.wanted o (yielded ops a.tmps) = false) (h : wpAnyM P md ops Q S fuel (listed.setIfInBounds i true) (a.put o.dst undef) w) : wpAnyM P md ops Q S (fuel + 1) listed a w :=
  wpAnyM_first hi (Region.noSelect_spec hs) hQ fuel listed a w (Region.free_spec hi hf) (by simpa using hr) (.inr ⟨hw, rfl⟩) h
/-- each of the operations of a list may come up -/
def Each (P : Program) (ops : Array Oper) (Q : Exit → Act → World → Prop) (K : Nat → Act → World → Prop) (a : Act) (w : World) (l : List Nat) : Prop := ∀ i ∈ l, wpOp P ops Q i (K i) a w
theorem Each.nil {K : Nat → Act → World → Prop} : Each P ops Q K a w [] := fun _ h => by cases h
theorem Each.cons {K : Nat → Act → World → Prop} {i : Nat} {l : List Nat} {o : Oper} (hi : ops[i]? = some o)
    (h : ∀ K' : Act → World → Prop, Shut (∀ a w, K i a w → K' a w) → if Region.wanted o (yielded ops a.tmps) = true then Oper.wp P o a w K' Q else K' (a.put o.dst undef) w) (ht : Each P ops Q K a w l) : Each P ops Q K a w (i :: l) := by
  intro j hj
  rcases List.mem_cons.1 hj with rfl | hj
  · have h' := h (K j) (fun _ _ h => h)
    unfold wpOp
    simp only [hi]
    split
    · rename_i hw; rw [if_pos hw] at h'; exact .inl h'
    · rename_i hw; rw [if_neg hw] at h'; exact h'
  · exact ht j hj
theorem wm_each {l : List Nat} (hr : Region.ready md ops listed = l) (hne : l ≠ []) (h : ∀ w', Below w.heap.size w w' → S w' → Each P ops Q (fun i a' w'' => S w'' ∧ wpAnyM P md ops Q S fuel (listed.setIfInBounds i true) a' w'') a w' l) : wpAnyM P md ops Q S (fuel + 1) listed a w :=
  fun w' hb hS => ⟨fun h0 => absurd (hr ▸ h0) hne, by rw [hr]; exact h w' hb hS⟩
theorem wm_done (hr : Region.ready md ops listed = []) (h : ∀ w', Below w.heap.size w w' → S w' → Q .normal a w') : wpAnyM P md ops Q S fuel listed a w := by
  cases fuel with
  | zero => exact fun w' hb hS => ⟨hr, h w' hb hS⟩
  | succ n => exact fun w' hb hS => ⟨fun _ => h w' hb hS, by rw [hr]; simp⟩
theorem wm_gen (h : ∀ ops' Q', ops' = ops → Q' = Q → wpAnyM P md ops' Q' S fuel listed a w) : wpAnyM P md ops Q S fuel listed a w := h ops Q rfl rfl
end
end Go.Proofs.Ytdhppajfdcfikaa.Up
