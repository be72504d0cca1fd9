/- The step from a dart to the next one along a face is one-to-one. No program in sight. -/
import Derived.Test.YtmkgdilabpehlaaNext
import Derived.Test.YtmkgdilabpehlaaCycleP
namespace Go.Proofs.Ytmkgdilabpehlaa
set_option linter.unusedSimpArgs false
set_option linter.unusedVariables false
def nxN (ns ls : List (Int × Int)) (d : Nat) : Nat := (nxF ns ls d).toNat
theorem nodup_inj {l : List Int} (h : l.Nodup) {i j : Nat} {x : Int} (hi : l[i]? = some x) (hj : l[j]? = some x) : i = j := by
  have key : ∀ {i j : Nat}, l[i]? = some x → l[j]? = some x → i < j → False := fun {i j} hi hj hij => by
    have li : i < l.length := by
      rcases Nat.lt_or_ge i l.length with h' | h'
      · exact h'
      · rw [List.getElem?_eq_none h'] at hi; cases hi
    have lj : j < l.length := by
      rcases Nat.lt_or_ge j l.length with h' | h'
      · exact h'
      · rw [List.getElem?_eq_none h'] at hj; cases hj
    have := List.pairwise_iff_getElem.1 h i j li lj hij
    rw [List.getElem?_eq_getElem li] at hi
    rw [List.getElem?_eq_getElem lj] at hj
    exact this ((Option.some.inj hi).trans (Option.some.inj hj).symm)
  rcases Nat.lt_trichotomy i j with h1 | h1 | h1
  · exact (key hi hj h1).elim
  · exact h1
  · exact (key hj hi h1).elim
theorem idx_get {l : List Int} {t : Int} (ht : t ∈ l) : l[l.idxOf t]? = some t := by
  rw [List.getElem?_eq_getElem (List.idxOf_lt_length_of_mem ht), List.getElem_idxOf]
theorem bes_get {l : List Int} {t : Int} (ht : t ∈ l) (up : Bool) : l[turnI l.length (l.idxOf t) up]? = some (besL l t up) := by
  have hlt := turn_lt l.length (l.idxOf t) up (List.idxOf_lt_length_of_mem ht)
  unfold besL
  rw [List.getD_eq_getElem?_getD, List.getElem?_eq_getElem hlt]; rfl
theorem bes_mem {l : List Int} {t : Int} (ht : t ∈ l) (up : Bool) : besL l t up ∈ l := List.mem_of_getElem? (bes_get ht up)
theorem turnI_false (n i : Nat) (h : i < n) : turnI n i false = if i = 0 then n - 1 else i - 1 := by
  unfold turnI
  rw [if_neg (by simp)]
  split
  · rename_i e
    subst e
    rw [Nat.zero_add]; exact Nat.mod_eq_of_lt (by omega)
  · rw [show i + n - 1 = i - 1 + n by omega, Nat.add_mod_right]; exact Nat.mod_eq_of_lt (by omega)
theorem bes_inj {l : List Int} (hn : l.Nodup) {s t : Int} (hs : s ∈ l) (ht : t ∈ l) (e : besL l s false = besL l t false) : s = t := by
  have a := bes_get hs false
  have b := bes_get ht false
  rw [e] at a
  have hi := nodup_inj hn a b
  have li := List.idxOf_lt_length_of_mem hs
  have lj := List.idxOf_lt_length_of_mem ht
  rw [turnI_false _ _ li, turnI_false _ _ lj] at hi
  have : l.idxOf s = l.idxOf t := by
    split at hi <;> split at hi <;> omega
  have a := idx_get hs
  have b := idx_get ht
  rw [this, b] at a
  exact (Option.some.inj a).symm
/-- what the next dart is -/
theorem next_is {ns ls : List (Int × Int)} (F : WinFacts ns ls) {d : Nat} (hd : d < 2 * ls.length) : ∃ e : Nat, nxF ns ls d = (e : Int) ∧ nxN ns ls d = e ∧ e < 2 * ls.length ∧ dFrom ls (e : Int) = dTo ls (d : Int) := by
  have ht := twN_lt hd
  have hm := bes_mem (around_has (ns := ns) ht) false
  have he : nxF ns ls d = besL (aroundF ns ls (dFrom ls ((twN d : Nat) : Int))) ((twN d : Nat) : Int) false := rfl
  rw [← he] at hm
  obtain ⟨e, h1, h2, h3⟩ := (mem_around ns ls _ _).1 hm
  refine ⟨e, h2, by unfold nxN; rw [h2]; rfl, h1, ?_⟩
  rw [h3, ← dTo_eq ls (d : Int) (by omega)]
  unfold twN
  congr 1
  by_cases q : d % 2 = 0
  · rw [if_pos q, if_pos (by omega)]; rfl
  · rw [if_neg q, if_neg (by omega)]; omega
theorem twN_inj {d e : Nat} (h : twN d = twN e) : d = e := by
  unfold twN at h
  split at h <;> split at h <;> omega
theorem next_turns {ns ls : List (Int × Int)} (F : WinFacts ns ls) : Turns (nxN ns ls) (2 * ls.length) where
  lt d hd := by
    obtain ⟨e, _, h, h1, _⟩ := next_is F hd
    rw [h]; exact h1
  inj d d' hd hd' h := by
    obtain ⟨e, e1, e2, e3, e4⟩ := next_is F hd
    obtain ⟨e', e1', e2', e3', e4'⟩ := next_is F hd'
    have hee : e = e' := by rw [← e2, ← e2']; exact h
    subst hee
    have ht := twN_lt hd
    have ht' := twN_lt hd'
    have hk : dFrom ls ((twN d : Nat) : Int) = dFrom ls ((twN d' : Nat) : Int) := by
      have a : ∀ {d : Nat}, d < 2 * ls.length → dFrom ls ((twN d : Nat) : Int) = dTo ls (d : Int) := fun {d} hd => by
        rw [← dTo_eq ls (d : Int) (by omega)]
        unfold twN
        congr 1
        by_cases q : d % 2 = 0
        · rw [if_pos q, if_pos (by omega)]; rfl
        · rw [if_neg q, if_neg (by omega)]; omega
      rw [a hd, a hd', ← e4, ← e4']
    have hb : besL (aroundF ns ls (dFrom ls ((twN d : Nat) : Int))) ((twN d : Nat) : Int) false = besL (aroundF ns ls (dFrom ls ((twN d : Nat) : Int))) ((twN d' : Nat) : Int) false := by
      have a1 : besL (aroundF ns ls (dFrom ls ((twN d : Nat) : Int))) ((twN d : Nat) : Int) false = (e : Int) := e1
      have a2 : besL (aroundF ns ls (dFrom ls ((twN d' : Nat) : Int))) ((twN d' : Nat) : Int) false = (e : Int) := e1'
      rw [a1, hk, a2]
    have m1 := around_has (ns := ns) ht
    have m2 := around_has (ns := ns) ht'
    rw [← hk] at m2
    have := bes_inj (around_nodup ns ls _) m1 m2 hb
    exact twN_inj (by omega)
/-- the walk of a dart, as ints -/
def walkI (ns ls : List (Int × Int)) (d : Nat) : List Int := (wk (nxN ns ls) (2 * ls.length) d).map fun n : Nat => (n : Int)
def woF (ns ls : List (Int × Int)) (d : Int) : List Int := if isDart ns ls d = true then walkI ns ls d.toNat else []
theorem walkI_len (ns ls : List (Int × Int)) (d : Nat) : (walkI ns ls d).length = per (nxN ns ls) (2 * ls.length) d := by simp [walkI, wk_len]
end Go.Proofs.Ytmkgdilabpehlaa
