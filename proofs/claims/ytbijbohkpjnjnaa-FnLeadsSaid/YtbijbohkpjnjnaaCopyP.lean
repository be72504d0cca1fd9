/- Appending nodes or leads to a row that the call owns, out of any slice of pairs. No condition but the sizes that are named. -/
import Derived.Test.YtbijbohkpjnjnaaConv
import Derived.Test.YtbijbohkpjnjnaaHeldM
import Derived.Laws.AppendOwn
import Derived.Laws.OwnMore
import Derived.Deep.Upon
namespace Go.Proofs.Ytbijbohkpjnjnaa
open Go.ChangeShapes Go.WideShapes Go.ChangeAt Go.RowKit
set_option maxHeartbeats 2000000
set_option linter.unusedSimpArgs false
set_option linter.unusedVariables false
/-- a row of pairs of its own, in memory from block B on; it may have room -/
def OwnR (B : Nat) (T : TypeId) (w : World) (v : Value) (ns : List (Int × Int)) : Prop := w.ownsRow B T 2 v ns.length (flat ns) ∧ ns.length ≤ 2000000
theorem flat_cell : ∀ (ns : List (Int × Int)) (j : Nat) (u : Value), (flat ns)[j]? = some u → ∃ i x y, ns[i]? = some (x, y) ∧ ((j = i * 2 ∧ u = .int .i64 x) ∨ (j = i * 2 + 1 ∧ u = .int .i64 y))
  | [], j, u, h => by simp [flat] at h
  | p :: t, j, u, h => by
    have e : flat (p :: t) = .int .i64 p.1 :: .int .i64 p.2 :: flat t := rfl
    rw [e] at h
    match j, h with
    | 0, h => exact ⟨0, p.1, p.2, rfl, .inl ⟨rfl, by simpa using h.symm⟩⟩
    | 1, h => exact ⟨0, p.1, p.2, rfl, .inr ⟨rfl, by simpa using h.symm⟩⟩
    | j + 2, h =>
      obtain ⟨i, x, y, h1, h2⟩ := flat_cell t j u (by simpa using h)
      refine ⟨i + 1, x, y, by simpa using h1, ?_⟩
      rcases h2 with ⟨a, b⟩ | ⟨a, b⟩
      · exact .inl ⟨by omega, b⟩
      · exact .inr ⟨by omega, b⟩
theorem flat_one {ns : List (Int × Int)} {u : Value} (h : u ∈ flat ns) : u.oneCell' = true := by
  obtain ⟨j, hj⟩ := List.getElem?_of_mem h
  obtain ⟨i, x, y, _, h2⟩ := flat_cell ns j u hj
  rcases h2 with ⟨_, rfl⟩ | ⟨_, rfl⟩ <;> rfl
theorem flat_app2 (a b : List (Int × Int)) : flat (a ++ b) = flat a ++ flat b := by simp [flat]
theorem flat_take (ns : List (Int × Int)) : ∀ k, (flat ns).take (k * 2) = flat (ns.take k) := by
  induction ns with
  | nil => intro k; simp [flat]
  | cons p t ih =>
    intro k
    cases k with
    | zero => simp [flat]
    | succ k =>
      have e : flat (p :: t) = .int .i64 p.1 :: .int .i64 p.2 :: flat t := rfl
      rw [e, show (k + 1) * 2 = k * 2 + 1 + 1 by omega, List.take_succ_cons, List.take_succ_cons, ih]
      rfl
theorem OwnR.pairs {B : Nat} {T : TypeId} {w : World} {v : Value} {ns : List (Int × Int)} (h : OwnR B T w v ns) : PairsAt w v ns := by
  obtain ⟨h, hn⟩ := h
  rcases h.2 with ⟨a, b⟩ | ⟨g, cap, cur, a, b, c, d, e, f, k⟩
  · have : ns = [] := List.eq_nil_of_length_eq_zero b
    subst this
    exact ⟨none, 0, a, Nat.le_refl _, by unfold maxLen; omega, fun i x y hi => by simp at hi⟩
  · refine ⟨some ⟨g, 0, none⟩, cap, a, d, e, fun i x y hi => ⟨g, 0, rfl, (Array.getElem?_eq_some_iff.1 c).1, ?_⟩⟩
    subst a
    obtain ⟨q1, q2⟩ := flat_get ns i x y hi
    have hi' : i < ns.length := by
      rcases Nat.lt_or_ge i ns.length with q | q
      · exact q
      · rw [List.getElem?_eq_none q] at hi; cases hi
    rw [World.ownsRow.cellAt h (0 + i * 2) (by omega), World.ownsRow.cellAt h (0 + i * 2 + 1) (by omega)]
    simpa using ⟨q1, q2⟩
theorem OwnR.below {B : Nat} {T : TypeId} {w w' : World} {v : Value} {ns : List (Int × Int)} (h : OwnR B T w v ns) (hb : Below w.heap.size w w') : OwnR B T w' v ns := by
  refine ⟨World.ownsRow.kept (row := none) h.1 ⟨hb.os, hb.tape, hb.output, hb.size, fun k hk _ => hb.block k hk⟩ ?_, h.2⟩
  cases v.ownBlock <;> simp
theorem OwnR.less {B C : Nat} {T : TypeId} {w : World} {v : Value} {ns : List (Int × Int)} (h : OwnR B T w v ns) (hC : C ≤ B) : OwnR C T w v ns := by
  refine ⟨⟨h.1.1, ?_⟩, h.2⟩
  rcases h.1.2 with q | ⟨g, cap, cur, a, b, c⟩
  · exact .inl q
  · exact .inr ⟨g, cap, cur, a, by omega, c⟩
theorem OwnR.form {B : Nat} {T : TypeId} {w : World} {v : Value} {ns : List (Int × Int)} (h : OwnR B T w v ns) : ∃ A c, v = .slice A ns.length c := by
  rcases h.1.2 with ⟨a, b⟩ | ⟨g, cap, cur, a, _⟩
  · exact ⟨none, 0, by rw [a, b]⟩
  · exact ⟨_, _, a⟩
theorem OwnR.nil (B : Nat) (T : TypeId) (w : World) : OwnR B T w (.slice none 0 0) [] := ⟨World.ownsRow_nil _ _ _ _, by simp⟩
theorem OwnR.lit (B : Nat) (T : TypeId) (w : World) (hb : B ≤ w.heap.size) : OwnR B T (w.alloc (.cells #[] T)) (.slice (some ⟨w.heap.size, 0, none⟩) 0 0) [] := by
  have := World.ownsRow_lit w (base := B) (e := T) (size := 2) #[] 0 hb (by unfold maxLen; omega) (by simp)
  exact ⟨by simpa [flat] using this, by simp⟩
theorem OwnR.of_pairs {B : Nat} {T : TypeId} {w : World} {v : Value} {ns : List (Int × Int)} (h : OwnPairs B T w v ns) : OwnR B T w v ns := by
  obtain ⟨g, rfl, hB, hn, hb⟩ := h
  refine ⟨⟨by rw [flat_length]; omega, .inr ⟨g, ns.length, _, rfl, hB, hb, Nat.le_refl _, by unfold maxLen; omega, by simp [flat_length]; omega, ?_⟩⟩, by omega⟩
  exact List.take_of_length_le (by simp [flat_length]; omega)
theorem grown_none {w w' : World} (h : w.grownBy w' none) : Below w.heap.size w w' := ⟨h.os, h.tape, h.output, h.size, fun k hk => h.block k hk (by simp)⟩
theorem grown_row {B : Nat} {T : TypeId} {w w' : World} {v : Value} {ns : List (Int × Int)} (hg : w.grownBy w' v.ownBlock) (h : OwnR B T w v ns) (hB : B ≤ w.heap.size) : Below B w w' := by
  refine ⟨hg.os, hg.tape, hg.output, hg.size, fun k hk => hg.block k (by omega) fun e => ?_⟩
  have := World.ownsRow.lt h.1 k e.symm
  omega
theorem src_none (P : Program) (TS T : TypeId) (ht : P.underlying TS = some (.slice T)) (c : Nat) (w : World) : Src P 2 TS (.slice none 0 c) 0 [] w :=
  ⟨.inl ⟨T, ht⟩, fun w' => by simp [Builtin.lenOf], by simp [Builtin.firstCells, loadCells, loadCellsFrom], by simp [Builtin.firstCells, loadCells, loadCellsFrom], rfl, by simp⟩
theorem run_append_pairs {TS T ty : TypeId} (ht : Try.prog.underlying TS = some (.slice T)) (hinfo : (Try.prog.info? T).map (fun i => (i.zero, i.size, i.bytes)) = some (some (.agg #[.int .i64 0, .int .i64 0]), 2, 16))
    {base : Nat} {w : World} {v x : Value} {ks ms : List (Int × Int)} (hown : OwnR base T w v ks) (hx : PairsAt w x ms) (hn : ks.length + ms.length ≤ 2000000) (hbase : base ≤ w.heap.size) :
    ∃ v' w', (Builtin.append_ #[TS, TS] ty #[v, x]).run Try.prog w = .ok v' w' ∧ OwnR base T w' v' (ks ++ ms) ∧ w.grownBy w' v.ownBlock := by
  obtain ⟨i, hi, hz0, hz1, hz2⟩ := info_parts hinfo
  obtain ⟨A, c, rfl, hc, hm, hcell⟩ := hx
  cases A with
  | none =>
    have hms : ms = [] := by
      cases ms with
      | nil => rfl
      | cons p t => obtain ⟨b, off, e, _⟩ := hcell 0 p.1 p.2 rfl; cases e
    subst hms
    obtain ⟨A', c', rfl⟩ := hown.form
    obtain ⟨A9, c9, e9, hle, _⟩ := hown.pairs
    have e2 : c' = c9 := by injection e9
    rw [← e2] at hle
    refine ⟨_, w, ?_, by rw [List.append_nil]; exact hown, World.grownBy.refl w _⟩
    have hs := src_none Try.prog TS T ht c w
    rw [← hz1] at hs
    exact run_append_nothing w TS TS ty T i ht hi A' ks.length c' hle _ hs
  | some ad =>
    have hnews : ∀ j u, (flat ms)[j]? = some u → w.cell? (ad.add j) = some u := fun j u hu => by
      obtain ⟨i', x, y, h1, h2⟩ := flat_cell ms j u hu
      obtain ⟨b, off, e, _, h3, h4⟩ := hcell i' x y h1
      have e' := Option.some.inj e
      subst e'
      have hadd : (⟨b, off, none⟩ : Addr).add j = ⟨b, off + j, none⟩ := by unfold Addr.add; split <;> simp_all
      rw [hadd]
      rcases h2 with ⟨rfl, rfl⟩ | ⟨rfl, rfl⟩
      · exact h3
      · exact h4
    obtain ⟨v', w', h1, h2, h3, _⟩ := run_append_own (P := Try.prog) w base TS ty T i _ 2 16 ht hi hz0 hz1 hz2 (by rfl) (by omega) v ks.length (flat ks) hown.1 ad ms.length c (flat ms) (by rw [flat_length]; omega) hnews (fun u hu => flat_one hu) (by unfold maxLen; omega) (by omega) hbase
    exact ⟨v', w', h1, ⟨by rw [flat_app2, List.length_append]; exact h2, by rw [List.length_append]; exact hn⟩, h3⟩
theorem wp_append_pairs {o : Oper} {a : Act} {w : World} {K : Act → World → Prop} {Q : Exit → Act → World → Prop} (s x : Operand) (TS T : TypeId) (ho : o.op = .call { callee := .builtin .append, args := #[s, x], argTypes := #[TS, TS] })
    (ht : Try.prog.underlying TS = some (.slice T)) (hinfo : (Try.prog.info? T).map (fun i => (i.zero, i.size, i.bytes)) = some (some (.agg #[.int .i64 0, .int .i64 0]), 2, 16))
    (base : Nat) (v : Value) (ks : List (Int × Int)) (hs : a.eval s = v) (hown : OwnR base T w v ks) (xv : Value) (ms : List (Int × Int)) (hxv : a.eval x = xv) (hx : PairsAt w xv ms) (hn : ks.length + ms.length ≤ 2000000) (hbase : base ≤ w.heap.size)
    (h : ∀ v' w', OwnR base T w' v' (ks ++ ms) → w.grownBy w' v.ownBlock → K (a.put o.dst v') w') : o.wp Try.prog a w K Q := by
  obtain ⟨v', w', hr, h2, h3⟩ := run_append_pairs (ty := o.type) ht hinfo hown hx hn hbase
  unfold Oper.wp execOp
  simp only [ho, resolve, invoke, builtin, Sem.run_bind, Sem.run_pure, Result.andThen_ok, List.map_toArray, List.map_cons, List.map_nil, hs, hxv, hr]
  exact h v' w' h2 h3
theorem wpList_append_pairs {ops : Array Oper} {rest : List Oper} {o : Oper} {a : Act} {w : World} {Q : Exit → Act → World → Prop} (hgd : o.guard = none) (s x : Operand) (TS T : TypeId) (ho : o.op = .call { callee := .builtin .append, args := #[s, x], argTypes := #[TS, TS] })
    (ht : Try.prog.underlying TS = some (.slice T)) (hinfo : (Try.prog.info? T).map (fun i => (i.zero, i.size, i.bytes)) = some (some (.agg #[.int .i64 0, .int .i64 0]), 2, 16))
    (base : Nat) (v : Value) (ks : List (Int × Int)) (hs : a.eval s = v) (hown : OwnR base T w v ks) (xv : Value) (ms : List (Int × Int)) (hxv : a.eval x = xv) (hx : PairsAt w xv ms) (hn : ks.length + ms.length ≤ 2000000) (hbase : base ≤ w.heap.size)
    (h : ∀ v' w', OwnR base T w' v' (ks ++ ms) → w.grownBy w' v.ownBlock → wpList Try.prog ops Q rest (a.put o.dst v') w') : wpList Try.prog ops Q (o :: rest) a w :=
  wpList_plain hgd fun _ hK => wp_append_pairs s x TS T ho ht hinfo base v ks hs hown xv ms hxv hx hn hbase fun v' w' h2 h3 => hK _ _ (h v' w' h2 h3)
def NewWinR (ns ls : List (Int × Int)) (w : World) (e : Ending) (w' : World) : Prop := ∃ p1 p2, e = .returned (.agg #[p1, p2]) ∧ OwnR w.heap.size 38 w' p1 ns ∧ OwnR w.heap.size 30 w' p2 ls ∧ Below w.heap.size w w'
end Go.Proofs.Ytbijbohkpjnjnaa
