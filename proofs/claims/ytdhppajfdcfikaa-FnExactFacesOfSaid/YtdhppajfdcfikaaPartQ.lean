/- More plain law of the parts of a graph: the list of labels, the set of a part as bits, its least member, how many parts there are. No program in sight. -/
import Derived.Test.YtdhppajfdcfikaaPart
namespace Go.Proofs.Ytdhppajfdcfikaa
set_option linter.unusedSimpArgs false
set_option linter.unusedVariables false
def fnL (n : Nat) (f : Nat → Nat) : List Int := (List.range n).map fun i => ((f i : Nat) : Int)
theorem fnL_len (n : Nat) (f : Nat → Nat) : (fnL n f).length = n := by simp [fnL]
theorem fnL_get (n : Nat) (f : Nat → Nat) (i : Nat) (h : i < n) : (fnL n f)[i]? = some ((f i : Nat) : Int) := by simp [fnL, h]
theorem fnL_succ (n : Nat) (f : Nat → Nat) : fnL (n + 1) f = fnL n f ++ [((f n : Nat) : Int)] := by simp [fnL, List.range_succ]
theorem fnL_congr {n : Nat} {f g : Nat → Nat} (h : ∀ i, i < n → f i = g i) : fnL n f = fnL n g := by
  unfold fnL
  apply List.map_congr_left
  intro i hi
  rw [h i (by simpa using hi)]
theorem fnL_set (n : Nat) (f : Nat → Nat) (j x : Nat) (hj : j < n) : (fnL n f).set j (x : Int) = fnL n (fun i => if i = j then x else f i) := by
  apply List.ext_getElem?
  intro i
  by_cases hi : i < n
  · rw [fnL_get _ _ _ hi]
    by_cases e : i = j
    · subst e
      rw [List.getElem?_set_self (by rw [fnL_len]; exact hi), if_pos rfl]
    · rw [List.getElem?_set_ne (fun h => e h.symm), fnL_get _ _ _ hi, if_neg e]
  · rw [List.getElem?_eq_none (by rw [List.length_set, fnL_len]; omega), List.getElem?_eq_none (by rw [fnL_len]; omega)]
/-- the labels below j are those behind the step already -/
def stepTo (f : Nat → Nat) (p : Nat × Nat) (j : Nat) : Nat → Nat := fun i => if i < j then lbStep f p i else f i
theorem stepTo_zero (n : Nat) (f : Nat → Nat) (p : Nat × Nat) : fnL n (stepTo f p 0) = fnL n f := fnL_congr fun i _ => by simp [stepTo]
theorem stepTo_all (n : Nat) (f : Nat → Nat) (p : Nat × Nat) : fnL n (stepTo f p n) = fnL n (lbStep f p) := fnL_congr fun i hi => by simp [stepTo, hi]
theorem stepTo_yes (n : Nat) (f : Nat → Nat) (p : Nat × Nat) (j : Nat) (hj : j < n) (h : f j = max (f p.1) (f p.2)) : fnL n (stepTo f p (j + 1)) = (fnL n (stepTo f p j)).set j ((min (f p.1) (f p.2) : Nat) : Int) := by
  rw [fnL_set _ _ _ _ hj]
  refine fnL_congr fun i _ => ?_
  unfold stepTo
  by_cases e : i = j
  · subst e; rw [if_pos (by omega), if_pos rfl]; unfold lbStep; rw [if_pos h]
  · rw [if_neg e]
    by_cases hl : i < j
    · rw [if_pos (by omega), if_pos hl]
    · rw [if_neg (by omega), if_neg hl]
theorem stepTo_no (n : Nat) (f : Nat → Nat) (p : Nat × Nat) (j : Nat) (h : ¬ f j = max (f p.1) (f p.2)) : fnL n (stepTo f p (j + 1)) = fnL n (stepTo f p j) := by
  refine fnL_congr fun i _ => ?_
  unfold stepTo
  by_cases e : i = j
  · subst e; rw [if_pos (by omega), if_neg (by omega)]; unfold lbStep; rw [if_neg h]
  · by_cases hl : i < j
    · rw [if_pos (by omega), if_pos hl]
    · rw [if_neg (by omega), if_neg hl]
theorem lbAll_take_succ (ls : List (Nat × Nat)) (f : Nat → Nat) (k : Nat) (p : Nat × Nat) (h : ls[k]? = some p) : lbAll (ls.take (k + 1)) f = lbStep (lbAll (ls.take k) f) p := by
  unfold lbAll; rw [List.take_add_one, h]; simp
/-! the part of a node as bits -/
def bStep (s : Nat) (p : Nat × Nat) : Nat := if s.testBit p.1 || s.testBit p.2 then s ||| (2 ^ p.1 ||| 2 ^ p.2) else s
def bPass (ls : List (Nat × Nat)) (s : Nat) : Nat := ls.foldl bStep s
def bPasses (ls : List (Nat × Nat)) (s : Nat) : Nat → Nat
  | 0 => s
  | n + 1 => bPass ls (bPasses ls s n)
theorem bStep_bit (s : Nat) (p : Nat × Nat) : (bStep s p).testBit = inStep s.testBit p := by
  funext i
  unfold bStep inStep
  split
  · have e : ∀ a b : Nat, (a == b) = decide (b = a) := fun a b => by
      rw [Bool.eq_iff_iff, beq_iff_eq, decide_eq_true_iff]; exact eq_comm
    show _ = (s.testBit i || (i == p.1 || i == p.2))
    rw [Nat.testBit_or, Nat.testBit_or, Nat.testBit_two_pow, Nat.testBit_two_pow, e, e]
  · rfl
theorem bPass_bit (ls : List (Nat × Nat)) : ∀ s : Nat, (bPass ls s).testBit = inPass ls s.testBit := by
  induction ls with
  | nil => intro s; rfl
  | cons p t ih => intro s; show (bPass t (bStep s p)).testBit = inPass t (inStep s.testBit p); rw [ih, bStep_bit]
theorem bPasses_bit (ls : List (Nat × Nat)) (s : Nat) (n : Nat) : (bPasses ls s n).testBit = inPasses ls s.testBit n := by
  induction n with
  | zero => rfl
  | succ n ih => show (bPass ls (bPasses ls s n)).testBit = inPass ls (inPasses ls s.testBit n); rw [bPass_bit, ih]
theorem bStep_lt (m s : Nat) (p : Nat × Nat) (hs : s < 2 ^ m) (h1 : p.1 < m) (h2 : p.2 < m) : bStep s p < 2 ^ m := by
  unfold bStep
  split
  · exact Nat.or_lt_two_pow hs (Nat.or_lt_two_pow (Nat.pow_lt_pow_right (by omega) h1) (Nat.pow_lt_pow_right (by omega) h2))
  · exact hs
theorem bPass_take_succ (ls : List (Nat × Nat)) (s k : Nat) (p : Nat × Nat) (h : ls[k]? = some p) : bPass (ls.take (k + 1)) s = bStep (bPass (ls.take k) s) p := by
  unfold bPass; rw [List.take_add_one, h]; simp
theorem bPass_lt (m : Nat) (ls : List (Nat × Nat)) (hl : ∀ p, p ∈ ls → p.1 < m ∧ p.2 < m) : ∀ s : Nat, s < 2 ^ m → bPass ls s < 2 ^ m := by
  induction ls with
  | nil => intro s h; exact h
  | cons p t ih => intro s h; exact ih (fun q hq => hl q (List.mem_cons_of_mem _ hq)) (bStep s p) (bStep_lt m s p h (hl p (List.mem_cons_self ..)).1 (hl p (List.mem_cons_self ..)).2)
theorem bPasses_lt (m : Nat) (ls : List (Nat × Nat)) (hl : ∀ p, p ∈ ls → p.1 < m ∧ p.2 < m) (s : Nat) (h : s < 2 ^ m) (n : Nat) : bPasses ls s n < 2 ^ m := by
  induction n with
  | zero => exact h
  | succ n ih => exact bPass_lt m ls hl _ ih
/-- a node's part: the bits that are set are those of the nodes of its label -/
theorem part_bits (ls : List (Nat × Nat)) (n k : Nat) (hb : Below_ n ls) (hk : k < n) (i : Nat) : (bPasses ls (2 ^ k) n).testBit i = true ↔ lb ls i = lb ls k := by
  have e : (2 ^ k).testBit = fun i => i == k := by
    funext i
    rw [Nat.testBit_two_pow, Bool.eq_iff_iff, beq_iff_eq, decide_eq_true_iff]; exact eq_comm
  rw [bPasses_bit, e]
  exact part_law ls n k hb hk i
theorem filter_head (p : Nat → Bool) : ∀ (n k : Nat), k < n → p k = true → ∃ m, m ≤ k ∧ p m = true ∧ (∀ i, i < m → p i = false) ∧ ((List.range n).filter p)[0]? = some m
  | 0, k, h, _ => absurd h (by omega)
  | n + 1, k, h, hp => by
    by_cases hex : ∃ j, j < n ∧ p j = true
    · obtain ⟨j, hj, hpj⟩ := hex
      obtain ⟨m, h1, h2, h3, h4⟩ := filter_head p n j hj hpj
      refine ⟨m, ?_, h2, h3, ?_⟩
      · rcases Nat.lt_or_ge k m with hlt | hge
        · rw [h3 k hlt] at hp; cases hp
        · exact hge
      · rw [List.range_succ, List.filter_append]
        have hl : 0 < ((List.range n).filter p).length := by
          rcases Nat.eq_zero_or_pos ((List.range n).filter p).length with h0 | h0
          · rw [List.eq_nil_of_length_eq_zero h0] at h4; cases h4
          · exact h0
        rw [List.getElem?_append_left hl]; exact h4
    · have hk : k = n := by
        by_cases e : k = n
        · exact e
        · exact absurd ⟨k, by omega, hp⟩ hex
      subst hk
      have hall : ∀ i, i < k → p i = false := fun i hi => by
        cases h : p i
        · rfl
        · exact absurd ⟨i, hi, h⟩ hex
      have hnil : (List.range k).filter p = [] := by
        rw [List.filter_eq_nil_iff]
        intro a ha
        rw [hall a (by simpa using ha)]; simp
      refine ⟨k, Nat.le_refl _, hp, hall, ?_⟩
      rw [List.range_succ, List.filter_append, hnil]
      simp [hp]
theorem mem_head (s k : Nat) (hk : k < 12) (hb : s.testBit k = true) : ∃ m : Nat, m ≤ k ∧ s.testBit m = true ∧ (∀ i, i < m → s.testBit i = false) ∧ (mem s 12)[0]? = some (m : Int) := by
  obtain ⟨m, h1, h2, h3, h4⟩ := filter_head (fun i => s.testBit i) 12 k hk hb
  refine ⟨m, h1, h2, h3, ?_⟩
  unfold mem
  rw [List.getElem?_map, h4]; rfl
theorem filter_all (p : Nat → Bool) (n : Nat) : ((List.range n).filter p).length = n ↔ ∀ i, i < n → p i = true := by
  constructor
  · intro h i hi
    have := List.length_filter_eq_length_iff.1 (h.trans (List.length_range).symm)
    exact this i (by simpa using hi)
  · intro h
    have := List.length_filter_eq_length_iff.2 (fun a (ha : a ∈ List.range n) => h a (by simpa using ha))
    rw [this, List.length_range]
theorem mem_all (s n : Nat) (hn : n ≤ 12) (hs : s < 2 ^ n) : (mem s 12).length = n ↔ ∀ i, i < n → s.testBit i = true := by
  have e : mem s 12 = mem s n := mem_stop s n (Nat.div_eq_of_lt hs) 12 hn
  rw [e]
  unfold mem
  rw [List.length_map]
  exact filter_all (fun i => s.testBit i) n
def ptF (ns ls : List (Int × Int)) (k : Nat) : List Int := mem (bPasses ((ls.map fun p => (p.1.toNat, p.2.toNat))) (2 ^ k) ns.length) 12
end Go.Proofs.Ytdhppajfdcfikaa
