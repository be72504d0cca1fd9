/- The faces of a whole window as rows of rows of ints; rows of slices of ints as they lie in new memory. No condition. -/
import Derived.Test.YtdhppajfdcfikaaWalkC
import Derived.Test.YtdhppajfdcfikaaWhole
import Derived.Test.YtdhppajfdcfikaaMarkp
namespace Go.Proofs.Ytdhppajfdcfikaa
open Go.ChangeShapes Go.WideShapes Go.ChangeAt Go.RowKit
set_option maxHeartbeats 1000000
set_option linter.unusedSimpArgs false
set_option linter.unusedVariables false
def fcI (ns ls : List (Int × Int)) (n : Nat) : List (List Int) := (fc (nxN ns ls) (2 * ls.length) n).map fun l => l.map fun x : Nat => (x : Int)
def facesF (ns ls : List (Int × Int)) : List (List Int) := if wholeB ns ls = true then fcI ns ls (2 * ls.length) else []
def seenP (ns ls : List (Int × Int)) (n d : Nat) : Bool := (fc (nxN ns ls) (2 * ls.length) n).any (·.contains d)
theorem fcI_yes {ns ls : List (Int × Int)} {n : Nat} (h : seenP ns ls n n = true) : fcI ns ls (n + 1) = fcI ns ls n := by unfold fcI; rw [fc_yes h]
theorem fcI_no {ns ls : List (Int × Int)} {n : Nat} (h : seenP ns ls n n = false) : fcI ns ls (n + 1) = fcI ns ls n ++ [walkI ns ls n] := by unfold fcI; rw [fc_no h, List.map_append]; rfl
theorem seenP_yes {ns ls : List (Int × Int)} {n : Nat} (h : seenP ns ls n n = true) : seenP ns ls (n + 1) = seenP ns ls n := by funext d; unfold seenP; rw [fc_yes h]
theorem seenP_no {ns ls : List (Int × Int)} {n : Nat} (h : seenP ns ls n n = false) (d : Nat) : seenP ns ls (n + 1) d = (seenP ns ls n d || (wk (nxN ns ls) (2 * ls.length) n).contains d) := by unfold seenP; rw [fc_no h, List.any_append]; simp
theorem fcI_len (ns ls : List (Int × Int)) (n : Nat) : (fcI ns ls n).length ≤ n := by unfold fcI; rw [List.length_map]; exact fc_len _ _ _
/-- a row of bools -/
def bRow (N : Nat) (P : Nat → Bool) : List Value := (List.range N).map fun i => .bool (P i)
theorem bRow_len (N : Nat) (P : Nat → Bool) : (bRow N P).length = N := by simp [bRow]
theorem bRow_get (N : Nat) (P : Nat → Bool) (i : Nat) (h : i < N) : (bRow N P)[i]? = some (.bool (P i)) := by simp [bRow, h]
theorem bRow_set (N : Nat) (P Q : Nat → Bool) (i : Nat) (hQ : ∀ j, j < N → Q j = (P j || j == i)) : (bRow N P).set i (.bool true) = bRow N Q := by
  apply List.ext_getElem?
  intro j
  rw [List.getElem?_set]
  by_cases hj : j < N
  · rw [bRow_get _ _ _ hj, bRow_get _ _ _ hj, hQ j hj]
    by_cases e : i = j
    · subst e
      rw [if_pos rfl, bRow_len, if_pos hj]; simp
    · rw [if_neg e]
      have : (j == i) = false := by simp; omega
      rw [this, Bool.or_false]
  · rw [List.getElem?_eq_none (by rw [bRow_len]; omega), List.getElem?_eq_none (by rw [bRow_len]; omega)]
    split
    · split
      · rename_i h1 h2; rw [bRow_len] at h2; omega
      · rfl
    · rfl
/-! rows of slices of ints -/
def Parted (us : List Value) : Prop := us.Pairwise fun u u' => ∀ g, u.ownBlock = some g → u'.ownBlock ≠ some g
structure RowsOf (B : Nat) (w : World) (us : List Value) (fs : List (List Int)) : Prop where
  len : us.length = fs.length
  at_ : ∀ (i : Nat) (u : Value) (l : List Int), us[i]? = some u → fs[i]? = some l → OwnInts B w u l
  part : Parted us
/-- the value is a new slice of new slices of ints -/
def OwnSS (B : Nat) (w : World) (v : Value) (fs : List (List Int)) : Prop := ∃ us, w.ownsRow B 37 1 v us.length us ∧ RowsOf B w us fs
theorem own_beside {B g n size : Nat} {T e : TypeId} {cs : Array Value} {xs : List Value} {w w' : World} {v : Value} (h : w.ownsRow B e size v n xs) (hg : w.grownBy w' (some g)) (hb : Blk w g T cs) (hT : T ≠ e) : w'.ownsRow B e size v n xs := by
  refine World.ownsRow.kept h hg ?_
  rcases h.2 with ⟨h1, h2⟩ | ⟨g', cap, cur, h1, h2, h3, h4⟩
  · exact .inl (by rw [h1]; rfl)
  · refine .inr (fun e => ?_)
    rw [h1] at e
    have e' : g' = g := by simpa [Value.ownBlock] using e
    subst e'
    unfold Blk at hb
    rw [hb] at h3
    injection h3 with h3
    injection h3 with _ h3 _
    exact hT h3
theorem OwnSS.below {B : Nat} {w w' : World} {v : Value} {fs : List (List Int)} (h : OwnSS B w v fs) (hb : Below w.heap.size w w') : OwnSS B w' v fs := by
  obtain ⟨us, h1, h2⟩ := h
  refine ⟨us, ?_, h2.len, fun i u l hu hl => own_below (h2.at_ i u l hu hl) hb, h2.part⟩
  have hg : w.grownBy w' none := ⟨hb.os, hb.tape, hb.output, hb.size, fun k hk _ => hb.block k hk⟩
  refine World.ownsRow.kept h1 hg ?_
  rcases h1.2 with ⟨h1, _⟩ | ⟨g', cap, cur, h1, _⟩
  · exact .inl (by rw [h1]; rfl)
  · exact .inr (by rw [h1]; simp [Value.ownBlock])
/-- a row of bools is written: the slices of ints stay -/
theorem OwnSS.beside {B g : Nat} {cs : Array Value} {w w' : World} {v : Value} {fs : List (List Int)} (h : OwnSS B w v fs) (hg : w.grownBy w' (some g)) (hb : Blk w g 4 cs) : OwnSS B w' v fs := by
  obtain ⟨us, h1, h2⟩ := h
  exact ⟨us, own_beside h1 hg hb (by decide), h2.len, fun i u l hu hl => own_beside (h2.at_ i u l hu hl) hg hb (by decide), h2.part⟩
theorem OwnSS.less {B C : Nat} {w : World} {v : Value} {fs : List (List Int)} (h : OwnSS B w v fs) (hC : C ≤ B) : OwnSS C w v fs := by
  obtain ⟨us, h1, h2⟩ := h
  refine ⟨us, ?_, h2.len, fun i u l hu hl => own_less (h2.at_ i u l hu hl) hC, h2.part⟩
  rcases h1 with ⟨a, b⟩
  refine ⟨a, ?_⟩
  rcases b with b | ⟨g, cap, cur, h1, h2, h3⟩
  · exact .inl b
  · exact .inr ⟨g, cap, cur, h1, by omega, h3⟩
theorem OwnSS.nil (B : Nat) (w : World) : OwnSS B w (.slice none 0 0) [] := ⟨[], World.ownsRow_nil _ _ _ _, rfl, fun i u l hu hl => by simp at hu, List.Pairwise.nil⟩
theorem ownSS_form {w : World} {B : Nat} {v : Value} {fs : List (List Int)} (h : OwnSS B w v fs) : ∃ A c, v = .slice A fs.length c := by
  obtain ⟨us, h1, h2⟩ := h
  rcases h1.2 with ⟨a, b⟩ | ⟨g, cap, cur, h3, _⟩
  · exact ⟨none, 0, by rw [a, ← h2.len, b]⟩
  · exact ⟨_, _, by rw [h3, h2.len]⟩
end Go.Proofs.Ytdhppajfdcfikaa
