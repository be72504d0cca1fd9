/- The plain law of the parts of a graph: closing a set of nodes under the leads, pass by pass, finds the nodes of the same label. No program in sight. -/
import Derived.Test.YtdhppajfdcfikaaLeadb
namespace Go.Proofs.Ytdhppajfdcfikaa
set_option linter.unusedSimpArgs false
set_option linter.unusedVariables false
/-- one lead more in the set -/
def inStep (s : Nat → Bool) (p : Nat × Nat) : Nat → Bool := if s p.1 || s p.2 then fun i => s i || (i == p.1 || i == p.2) else s
def inPass (ls : List (Nat × Nat)) (s : Nat → Bool) : Nat → Bool := ls.foldl inStep s
def inPasses (ls : List (Nat × Nat)) (s : Nat → Bool) : Nat → Nat → Bool
  | 0 => s
  | n + 1 => inPass ls (inPasses ls s n)
/-- the labels when one lead more is looked at -/
def lbStep (f : Nat → Nat) (p : Nat × Nat) : Nat → Nat := fun i => if f i = max (f p.1) (f p.2) then min (f p.1) (f p.2) else f i
def lbAll (ls : List (Nat × Nat)) (f : Nat → Nat) : Nat → Nat := ls.foldl lbStep f
def lb (ls : List (Nat × Nat)) : Nat → Nat := lbAll ls fun i => i
theorem inStep_mono (s : Nat → Bool) (p : Nat × Nat) (i : Nat) (h : s i = true) : inStep s p i = true := by
  unfold inStep; split <;> simp [h]
theorem inPass_mono (ls : List (Nat × Nat)) : ∀ (s : Nat → Bool) (i : Nat), s i = true → inPass ls s i = true := by
  induction ls with
  | nil => intro s i h; exact h
  | cons p t ih => intro s i h; exact ih (inStep s p) i (inStep_mono s p i h)
theorem inPass_ends (ls : List (Nat × Nat)) : ∀ (s : Nat → Bool) (p : Nat × Nat), p ∈ ls → (s p.1 = true ∨ s p.2 = true) → inPass ls s p.1 = true ∧ inPass ls s p.2 = true := by
  induction ls with
  | nil => intro s p hp; cases hp
  | cons q t ih =>
    intro s p hp h
    rcases List.mem_cons.1 hp with rfl | hp
    · have e : inStep s p = fun i => s i || (i == p.1 || i == p.2) := by unfold inStep; rw [if_pos (by simpa using h)]
      exact ⟨inPass_mono t _ _ (by rw [e]; simp), inPass_mono t _ _ (by rw [e]; simp)⟩
    · exact ih (inStep s q) p hp (h.elim (fun h => .inl (inStep_mono s q _ h)) fun h => .inr (inStep_mono s q _ h))
theorem inPass_sound (ls : List (Nat × Nat)) (g : Nat → Bool) : ∀ (s : Nat → Bool), (∀ p, p ∈ ls → g p.1 = g p.2) → (∀ i, s i = true → g i = true) → ∀ i, inPass ls s i = true → g i = true := by
  induction ls with
  | nil => intro s _ h i hi; exact h i hi
  | cons p t ih =>
    intro s hg h
    refine ih (inStep s p) (fun q hq => hg q (List.mem_cons_of_mem _ hq)) (fun i hi => ?_)
    have hp := hg p (List.mem_cons_self ..)
    unfold inStep at hi
    split at hi
    · rename_i hc
      have hc' : s p.1 = true ∨ s p.2 = true := by simpa using hc
      have g1 : g p.1 = true := hc'.elim (h _) fun h2 => by rw [hp]; exact h _ h2
      simp only [Bool.or_eq_true, beq_iff_eq] at hi
      rcases hi with hi | rfl | rfl
      · exact h i hi
      · exact g1
      · rw [← hp]; exact g1
    · exact h i hi
/-- the set knows no more than n nodes -/
def cnt (n : Nat) (s : Nat → Bool) : Nat := (List.range n).countP s
theorem cnt_le (n : Nat) (s : Nat → Bool) : cnt n s ≤ n := by
  unfold cnt; exact Nat.le_trans List.countP_le_length (by simp)
theorem cnt_lt {n : Nat} {s t : Nat → Bool} (h : ∀ i, s i = true → t i = true) (j : Nat) (hj : j < n) (hs : s j = false) (ht : t j = true) : cnt n s < cnt n t := by
  unfold cnt
  induction n with
  | zero => omega
  | succ n ih =>
    rw [List.range_succ, List.countP_append, List.countP_append]
    have m : ∀ l : List Nat, l.countP s ≤ l.countP t := fun l => List.countP_mono_left fun x _ => h x
    by_cases he : j = n
    · subst he
      have := m (List.range j)
      simp [hs, ht]; omega
    · have := ih (by omega)
      have := m [n]
      omega
theorem same_of_cnt {n : Nat} {s t : Nat → Bool} (h : ∀ i, s i = true → t i = true) (hc : cnt n t ≤ cnt n s) (j : Nat) (hj : j < n) : s j = t j := by
  cases hs : s j with
  | true => exact (h j hs).symm
  | false =>
    cases ht : t j with
    | false => rfl
    | true => have := cnt_lt h j hj hs ht; omega
/-- ends lie below n -/
def Below_ (n : Nat) (ls : List (Nat × Nat)) : Prop := ∀ p, p ∈ ls → p.1 < n ∧ p.2 < n
theorem inPass_congr (ls : List (Nat × Nat)) (n : Nat) (hb : Below_ n ls) : ∀ (s t : Nat → Bool), (∀ i, i < n → s i = t i) → ∀ i, i < n → inPass ls s i = inPass ls t i := by
  induction ls with
  | nil => intro s t h i hi; exact h i hi
  | cons p r ih =>
    intro s t h
    have hp := hb p (List.mem_cons_self ..)
    refine ih (fun q hq => hb q (List.mem_cons_of_mem _ hq)) (inStep s p) (inStep t p) (fun i hi => ?_)
    unfold inStep
    rw [h _ hp.1, h _ hp.2]
    split
    · simp only [h i hi]
    · exact h i hi
theorem passes_mono (ls : List (Nat × Nat)) (s : Nat → Bool) (k : Nat) (i : Nat) (h : s i = true) : inPasses ls s k i = true := by
  induction k with
  | zero => exact h
  | succ k ih => exact inPass_mono ls _ i ih
theorem passes_grow (ls : List (Nat × Nat)) (n : Nat) (hb : Below_ n ls) (s : Nat → Bool) (k : Nat) : (cnt n s + k ≤ cnt n (inPasses ls s k)) ∨ ∀ i, i < n → inPass ls (inPasses ls s k) i = inPasses ls s k i := by
  induction k with
  | zero => exact .inl (Nat.le_refl _)
  | succ k ih =>
    rcases ih with ih | ih
    · by_cases hc : cnt n (inPasses ls s (k + 1)) ≤ cnt n (inPasses ls s k)
      · have e : ∀ i, i < n → inPasses ls s k i = inPasses ls s (k + 1) i := fun i hi => same_of_cnt (fun i h => inPass_mono ls _ i h) hc i hi
        refine .inr fun i hi => ?_
        rw [inPass_congr ls n hb _ _ (fun i hi => (e i hi).symm) i hi]
        rfl
      · exact .inl (by omega)
    · refine .inr fun i hi => ?_
      exact inPass_congr ls n hb _ _ ih i hi
/-- n passes close a set that is not empty -/
theorem passes_closed (ls : List (Nat × Nat)) (n : Nat) (hb : Below_ n ls) (s : Nat → Bool) (j : Nat) (hj : j < n) (hs : s j = true) (p : Nat × Nat) (hp : p ∈ ls) : inPasses ls s n p.1 = inPasses ls s n p.2 := by
  have h1 : 1 ≤ cnt n s := by
    unfold cnt
    exact List.countP_pos_iff.2 ⟨j, by simp [hj], hs⟩
  have hfix : ∀ i, i < n → inPass ls (inPasses ls s n) i = inPasses ls s n i := by
    rcases passes_grow ls n hb s n with h | h
    · have := cnt_le n (inPasses ls s n); omega
    · exact h
  have hpp := hb p hp
  have e := inPass_ends ls (inPasses ls s n) p hp
  rw [hfix _ hpp.1, hfix _ hpp.2] at e
  cases h1 : inPasses ls s n p.1 <;> cases h2 : inPasses ls s n p.2 <;> simp_all
theorem lbAll_class (ls : List (Nat × Nat)) (g : Nat → Bool) (hg : ∀ p, p ∈ ls → g p.1 = g p.2) : ∀ f : Nat → Nat, (∀ i j, f i = f j → g i = g j) → ∀ i j, lbAll ls f i = lbAll ls f j → g i = g j := by
  induction ls with
  | nil => intro f h; exact h
  | cons p t ih =>
    intro f h
    refine ih (fun q hq => hg q (List.mem_cons_of_mem _ hq)) (lbStep f p) (fun i j hij => ?_)
    have hp := hg p (List.mem_cons_self ..)
    have key : ∀ i, f i = f p.1 ∨ f i = f p.2 → g i = g p.1 := fun i hi => hi.elim (h i p.1) fun e => (h i p.2 e).trans hp.symm
    unfold lbStep at hij
    by_cases h1 : f i = max (f p.1) (f p.2) <;> by_cases h2 : f j = max (f p.1) (f p.2)
    · exact h i j (h1.trans h2.symm)
    · rw [if_pos h1, if_neg h2] at hij
      exact (key i (by omega)).trans (key j (by omega)).symm
    · rw [if_neg h1, if_pos h2] at hij
      exact (key i (by omega)).trans (key j (by omega)).symm
    · rw [if_neg h1, if_neg h2] at hij
      exact h i j hij
theorem lbAll_keeps (ls : List (Nat × Nat)) : ∀ (f : Nat → Nat) (i j : Nat), f i = f j → lbAll ls f i = lbAll ls f j := by
  induction ls with
  | nil => intro f i j h; exact h
  | cons p t ih => intro f i j h; exact ih (lbStep f p) i j (by unfold lbStep; rw [h])
theorem lbAll_lead (ls : List (Nat × Nat)) : ∀ (f : Nat → Nat) (p : Nat × Nat), p ∈ ls → lbAll ls f p.1 = lbAll ls f p.2 := by
  induction ls with
  | nil => intro f p hp; cases hp
  | cons q t ih =>
    intro f p hp
    rcases List.mem_cons.1 hp with rfl | hp
    · exact lbAll_keeps t (lbStep f p) p.1 p.2 (by unfold lbStep; split <;> split <;> omega)
    · exact ih (lbStep f q) p hp
theorem lbAll_le (ls : List (Nat × Nat)) : ∀ (f : Nat → Nat), (∀ i, f i ≤ i) → ∀ i, lbAll ls f i ≤ i := by
  induction ls with
  | nil => intro f h; exact h
  | cons p t ih => exact fun f h => ih (lbStep f p) (fun i => by have := h i; unfold lbStep; split <;> omega)
theorem lbAll_idem (ls : List (Nat × Nat)) : ∀ (f : Nat → Nat), (∀ i, f (f i) = f i) → ∀ i, lbAll ls f (lbAll ls f i) = lbAll ls f i := by
  induction ls with
  | nil => intro f h; exact h
  | cons p t ih =>
    refine fun f h => ih (lbStep f p) (fun i => ?_)
    have a := h p.1
    have b := h p.2
    have c := h i
    unfold lbStep
    rcases Nat.le_total (f p.1) (f p.2) with hle | hle
    · rw [Nat.max_eq_right hle, Nat.min_eq_left hle]
      by_cases h1 : f i = f p.2
      · rw [if_pos h1, a]; split <;> rfl
      · rw [if_neg h1, c, if_neg h1]
    · rw [Nat.max_eq_left hle, Nat.min_eq_right hle]
      by_cases h1 : f i = f p.1
      · rw [if_pos h1, b]; split <;> rfl
      · rw [if_neg h1, c, if_neg h1]
/-- the set that grows from node k is the set of the nodes of its label -/
theorem part_law (ls : List (Nat × Nat)) (n k : Nat) (hb : Below_ n ls) (hk : k < n) (i : Nat) : inPasses ls (fun i => i == k) n i = true ↔ lb ls i = lb ls k := by
  constructor
  · intro h
    have snd : ∀ m, ∀ i, inPasses ls (fun i => i == k) m i = true → (decide (lb ls i = lb ls k)) = true := by
      intro m
      induction m with
      | zero => intro i h; have : i = k := by simpa [inPasses] using h
                simp [this]
      | succ m ih => exact inPass_sound ls (fun i => decide (lb ls i = lb ls k)) _ (fun p hp => by have e : lb ls p.1 = lb ls p.2 := lbAll_lead ls (fun i => i) p hp; show decide (lb ls p.1 = _) = decide (lb ls p.2 = _); rw [e]) ih
    simpa using snd n i h
  · intro h
    have := lbAll_class ls (inPasses ls (fun i => i == k) n) (fun p hp => passes_closed ls n hb _ k hk (by simp) p hp) (fun i => i) (fun i j e => by rw [e]) i k h
    rw [this]
    exact passes_mono ls _ n k (by simp)
theorem lb_le (ls : List (Nat × Nat)) (i : Nat) : lb ls i ≤ i := lbAll_le ls _ (fun i => Nat.le_refl i) i
theorem lb_idem (ls : List (Nat × Nat)) (i : Nat) : lb ls (lb ls i) = lb ls i := lbAll_idem ls _ (fun i => rfl) i
/-- a node is the least of its part if and only if it is its label -/
theorem least_law (ls : List (Nat × Nat)) (n k : Nat) (hb : Below_ n ls) (hk : k < n) : (∀ i, i < k → inPasses ls (fun i => i == k) n i = false) ↔ lb ls k = k := by
  constructor
  · intro h
    rcases Nat.lt_or_ge (lb ls k) k with hlt | hge
    · have := (part_law ls n k hb hk (lb ls k)).2 (lb_idem ls k)
      rw [h _ hlt] at this; cases this
    · have := lb_le ls k; omega
  · intro h i hi
    cases hv : inPasses ls (fun i => i == k) n i with
    | false => rfl
    | true => have := (part_law ls n k hb hk i).1 hv
              have := lb_le ls i
              omega
end Go.Proofs.Ytdhppajfdcfikaa
