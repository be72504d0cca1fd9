/- Opening the arguments of a law: slices of structs of two ints, and a struct of two such slices. No condition. (open_slice_fields: after the guide's page of words for structs.) -/
import Derived.Test.YtmkgdilabpehlaaOpen
import Derived.Deep.Slices
import Derived.Deep.Fields
import Derived.ChangeSame
namespace Go.Proofs.Ytmkgdilabpehlaa
open Go.ChangeShapes Go.WideShapes Go.ChangeAt Go.RowKit Go.Joins Go.Deep
section
variable {H : Type} {enc : TypeId × Value → H} {P : Program} {w : World} {base : Nat} {spare : Nat → Bool} {held : Bool}
theorem open_slice_fields {t e : TypeId} {fs : Array Field} {fuel : Nat} {cs : List Value} {x : DataW H × List MemPlace} (ht : P.underlying t = some (.slice e)) (he : P.underlying e = some (.struct fs))
    (hone : oneCellFields P fs = true) (hC : P.cellsOf e = fs.size) (h : DataW.trod enc P w base spare held fuel t cs = some x) :
    (cs = [.slice none 0 0] ∧ x = (.nil, [])) ∨
    ∃ (a : Addr) (len cap m : Nat) (D : Nat → DataW H) (Pl : Nat → List MemPlace), cs = [.slice (some a) len cap] ∧ base ≤ a.block ∧ len ≤ cap ∧ cap ≤ maxLen ∧ m = (if spare a.block then cap else len) ∧
      x = (.slice ((List.range len).map D) ((List.range (m - len)).map fun j => D (len + j)), MemPlace.row a (m * fs.size) ++ (List.range m).flatMap Pl) ∧
      ∀ i, i < m → ∃ (ys : List (DataW H × List MemPlace)) (n : Nat), D i = .agg (ys.map (·.1)) ∧ Pl i = ys.flatMap (·.2) ∧ ys.length = fs.size ∧
        ∀ (j : Nat) (f : Field), fs[j]? = some f → ∃ (v : Value) (y : DataW H × List MemPlace), w.cell? (a.add (i * fs.size + j)) = some v ∧ ys[j]? = some y ∧ DataW.trod enc P w base spare held n f.type [v] = some y := by
  rcases open_slice ht h with h0 | ⟨a, len, cap, m, n, D, Pl, hcs, hb, hl, hm, hmm, hx, hi⟩
  · exact .inl h0
  · refine .inr ⟨a, len, cap, m, D, Pl, hcs, hb, hl, hm, hmm, by rw [hC] at hx; exact hx, fun i him => ?_⟩
    obtain ⟨cs', hc, ht'⟩ := hi i him
    rw [hC] at hc
    obtain ⟨ys, n', hn', hy, hlen, hyl, hf⟩ := DataW.trod_struct he ht'
    obtain ⟨_, hcl, hat⟩ := World.cells?_some hc
    simp only [Prod.mk.injEq] at hy
    refine ⟨ys, n', hy.1, hy.2, hyl, fun j f hj => ?_⟩
    obtain ⟨ho, hk⟩ := hone_of hone j f hj
    have hjl : j < fs.size := (Array.getElem?_eq_some_iff.1 hj).1
    have hcell := hat j hjl
    have hv : cs'[j]? = some (cs'[j]'(by omega)) := List.getElem?_eq_getElem (by omega)
    have h1 := hf j f hj
    rw [ho, hk] at h1
    have hone' : (cs'.drop j).take 1 = [cs'[j]'(by omega)] := by
      rw [List.drop_eq_getElem_cons (by omega)]
      rfl
    rw [hone'] at h1
    have hys : ys[j]? = some (ys[j]'(by omega)) := List.getElem?_eq_getElem (by omega)
    refine ⟨_, _, ?_, hys, h1.trans hys⟩
    rw [← Go.Deep.add_add, hcell, hv]
theorem exists_list {α : Type} {R : Nat → α → Prop} : ∀ (n : Nat), (∀ i, i < n → ∃ p, R i p) → ∃ l : List α, l.length = n ∧ ∀ i p, l[i]? = some p → R i p
  | 0, _ => ⟨[], rfl, fun i p h => by simp at h⟩
  | n + 1, h => by
    obtain ⟨l, hl, hR⟩ := exists_list n fun i hi => h i (by omega)
    obtain ⟨q, hq⟩ := h n (by omega)
    refine ⟨l ++ [q], by simp [hl], fun i p hp => ?_⟩
    by_cases hi : i < n
    · rw [List.getElem?_append_left (by omega)] at hp; exact hR i p hp
    · rw [List.getElem?_append_right (by omega)] at hp
      by_cases e : i = n
      · subst e; simp [hl] at hp; subst hp; exact hq
      · rw [List.getElem?_eq_none (by simp; omega)] at hp; cases hp
theorem addr_none {w : World} {a : Addr} {v : Value} (h : w.cell? a = some v) : a.spot = none := World.cell?_spot h
theorem open_pairs {t e ti : TypeId} {f0 f1 : Field} {fuel : Nat} {v : Value} {x : DataW H × List MemPlace} (ht : P.underlying t = some (.slice e)) (he : P.underlying e = some (.struct #[f0, f1])) (hi : P.underlying ti = some (.int .i64))
    (hone : (oneCellFields P #[f0, f1] && (f0.type == ti) && (f1.type == ti)) = true) (hC : P.cellsOf e = 2) {A : Option Addr} {n c : Nat} (hv : v = .slice A n c)
    (h : DataW.trod enc P w base spare held fuel t [v] = some x) : ∃ ns, PairsAt w v ns := by
  subst hv
  simp only [Bool.and_eq_true, beq_iff_eq] at hone
  obtain ⟨⟨ho, t0⟩, t1⟩ := hone
  rcases open_slice_fields ht he ho hC h with ⟨h0, _⟩ | ⟨a, len, cap, m, D, Pl, hcs, hb, hl, hm, hmm, hx, hf⟩
  · simp at h0
    obtain ⟨rfl, rfl, rfl⟩ := h0
    exact ⟨[], none, 0, rfl, Nat.le_refl _, by unfold maxLen; omega, fun i x y hi => by simp at hi⟩
  · simp at hcs
    obtain ⟨rfl, rfl, rfl⟩ := hcs
    have hlm : n ≤ m := by rw [hmm]; split <;> omega
    have hcell : ∀ i, i < n → ∃ p : Int × Int, w.cell? (a.add (i * 2)) = some (.int .i64 p.1) ∧ w.cell? (a.add (i * 2 + 1)) = some (.int .i64 p.2) := by
      intro i hin
      obtain ⟨ys, k, _, _, _, hfld⟩ := hf i (by omega)
      obtain ⟨v0, y0, c0, _, hy0⟩ := hfld 0 f0 rfl
      obtain ⟨v1, y1, c1, _, hy1⟩ := hfld 1 f1 rfl
      rw [t0] at hy0
      rw [t1] at hy1
      obtain ⟨q0, e0, _, _⟩ := DataW.trod_int hi hy0
      obtain ⟨q1, e1, _, _⟩ := DataW.trod_int hi hy1
      simp at e0 e1
      subst e0 e1
      exact ⟨(q0, q1), by simpa using c0, by simpa using c1⟩
    obtain ⟨ns, hlen, hns⟩ := exists_list n hcell
    subst hlen
    refine ⟨ns, some a, c, rfl, hl, hm, fun i x y hxy => ?_⟩
    obtain ⟨h1, h2⟩ := hns i (x, y) hxy
    have hi0 : 0 < ns.length := by
      rcases Nat.eq_zero_or_pos ns.length with h' | h'
      · rw [List.length_eq_zero_iff.1 h'] at hxy; simp at hxy
      · exact h'
    obtain ⟨p0, hp0⟩ : ∃ p, ns[0]? = some p := ⟨_, List.getElem?_eq_getElem hi0⟩
    have hsp := addr_none (hns 0 p0 hp0).1
    obtain ⟨b, off, spot⟩ := a
    have hspot : spot = none := by simpa [Addr.add] using hsp
    subst hspot
    have k1 : w.cell? ⟨b, off + i * 2, none⟩ = some (.int .i64 x) := by
      have := h1; simp only [Addr.add] at this; split at this
      · rename_i h0; rw [h0]; simpa using this
      · simpa using this
    have k2 : w.cell? ⟨b, off + i * 2 + 1, none⟩ = some (.int .i64 y) := by
      have := h2; simp only [Addr.add] at this; split at this
      · omega
      · simpa [Nat.add_assoc] using this
    exact ⟨b, off, rfl, World.block_lt_of_cell? w _ k1, k1, k2⟩
end
end Go.Proofs.Ytmkgdilabpehlaa
