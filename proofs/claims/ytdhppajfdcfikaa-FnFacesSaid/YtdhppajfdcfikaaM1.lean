/- The plain law of the parts of a graph: closing a set of nodes under the leads, pass by pass, finds the nodes of the same label. No program in sight. -/
import Derived.Test.YtdhppajfdcfikaaLeadb
import Derived.Test.YtdhppajfdcfikaaLeadsAt
namespace Go.Proofs.Ytdhppajfdcfikaa
set_option linter.unusedSimpArgs false
set_option linter.unusedVariables false
/-- one lead more in the set -/
def inStep (s : Nat → Bool) (p : Nat × Nat) : Nat → Bool := if s p.1 || s p.2 then fun i => s i || (i == p.1 || i == p.2) else s
def inPass (ls : List (Nat × Nat)) (s : Nat → Bool) : Nat → Bool := ls.foldl inStep s
def inPasses (ls : List (Nat × Nat)) (s : Nat → Bool) : Nat → Nat → Bool
  | 0 => s
  | n + 1 => inPass ls (inPasses ls s n)
/-- the labels when one lead more is looked at -/
def lbStep (f : Nat → Nat) (p : Nat × Nat) : Nat → Nat := fun i => if f i = max (f p.1) (f p.2) then min (f p.1) (f p.2) else f i
def lbAll (ls : List (Nat × Nat)) (f : Nat → Nat) : Nat → Nat := ls.foldl lbStep f
def lb (ls : List (Nat × Nat)) : Nat → Nat := lbAll ls fun i => i
theorem inStep_mono (s : Nat → Bool) (p : Nat × Nat) (i : Nat) (h : s i = true) : inStep s p i = true := by
  unfold inStep; split <;> simp [h]
theorem inPass_mono (ls : List (Nat × Nat)) : ∀ (s : Nat → Bool) (i : Nat), s i = true → inPass ls s i = true := by
  induction ls with
  | nil => intro s i h; exact h
  | cons p t ih => intro s i h; exact ih (inStep s p) i (inStep_mono s p i h)
theorem inPass_ends (ls : List (Nat × Nat)) : ∀ (s : Nat → Bool) (p : Nat × Nat), p ∈ ls → (s p.1 = true ∨ s p.2 = true) → inPass ls s p.1 = true ∧ inPass ls s p.2 = true := by
  induction ls with
  | nil => intro s p hp; cases hp
  | cons q t ih =>
    intro s p hp h
    rcases List.mem_cons.1 hp with rfl | hp
    · have e : inStep s p = fun i => s i || (i == p.1 || i == p.2) := by unfold inStep; rw [if_pos (by simpa using h)]
      exact ⟨inPass_mono t _ _ (by rw [e]; simp), inPass_mono t _ _ (by rw [e]; simp)⟩
    · exact ih (inStep s q) p hp (h.elim (fun h => .inl (inStep_mono s q _ h)) fun h => .inr (inStep_mono s q _ h))
theorem inPass_sound (ls : List (Nat × Nat)) (g : Nat → Bool) : ∀ (s : Nat → Bool), (∀ p, p ∈ ls → g p.1 = g p.2) → (∀ i, s i = true → g i = true) → ∀ i, inPass ls s i = true → g i = true := by
  induction ls with
  | nil => intro s _ h i hi; exact h i hi
  | cons p t ih =>
    intro s hg h
    refine ih (inStep s p) (fun q hq => hg q (List.mem_cons_of_mem _ hq)) (fun i hi => ?_)
    have hp := hg p (List.mem_cons_self ..)
    unfold inStep at hi
    split at hi
    · rename_i hc
      have hc' : s p.1 = true ∨ s p.2 = true := by simpa using hc
      have g1 : g p.1 = true := hc'.elim (h _) fun h2 => by rw [hp]; exact h _ h2
      simp only [Bool.or_eq_true, beq_iff_eq] at hi
      rcases hi with hi | rfl | rfl
      · exact h i hi
      · exact g1
      · rw [← hp]; exact g1
    · exact h i hi
/-- the set knows no more than n nodes -/
def cnt (n : Nat) (s : Nat → Bool) : Nat := (List.range n).countP s
theorem cnt_le (n : Nat) (s : Nat → Bool) : cnt n s ≤ n := by
  unfold cnt; exact Nat.le_trans List.countP_le_length (by simp)
theorem cnt_lt {n : Nat} {s t : Nat → Bool} (h : ∀ i, s i = true → t i = true) (j : Nat) (hj : j < n) (hs : s j = false) (ht : t j = true) : cnt n s < cnt n t := by
  unfold cnt
  induction n with
  | zero => omega
  | succ n ih =>
    rw [List.range_succ, List.countP_append, List.countP_append]
    have m : ∀ l : List Nat, l.countP s ≤ l.countP t := fun l => List.countP_mono_left fun x _ => h x
    by_cases he : j = n
    · subst he
      have := m (List.range j)
      simp [hs, ht]; omega
    · have := ih (by omega)
      have := m [n]
      omega
theorem same_of_cnt {n : Nat} {s t : Nat → Bool} (h : ∀ i, s i = true → t i = true) (hc : cnt n t ≤ cnt n s) (j : Nat) (hj : j < n) : s j = t j := by
  cases hs : s j with
  | true => exact (h j hs).symm
  | false =>
    cases ht : t j with
    | false => rfl
    | true => have := cnt_lt h j hj hs ht; omega
/-- ends lie below n -/
def Below_ (n : Nat) (ls : List (Nat × Nat)) : Prop := ∀ p, p ∈ ls → p.1 < n ∧ p.2 < n
theorem inPass_congr (ls : List (Nat × Nat)) (n : Nat) (hb : Below_ n ls) : ∀ (s t : Nat → Bool), (∀ i, i < n → s i = t i) → ∀ i, i < n → inPass ls s i = inPass ls t i := by
  induction ls with
  | nil => intro s t h i hi; exact h i hi
  | cons p r ih =>
    intro s t h
    have hp := hb p (List.mem_cons_self ..)
    refine ih (fun q hq => hb q (List.mem_cons_of_mem _ hq)) (inStep s p) (inStep t p) (fun i hi => ?_)
    unfold inStep
    rw [h _ hp.1, h _ hp.2]
    split
    · simp only [h i hi]
    · exact h i hi
theorem passes_mono (ls : List (Nat × Nat)) (s : Nat → Bool) (k : Nat) (i : Nat) (h : s i = true) : inPasses ls s k i = true := by
  induction k with
  | zero => exact h
  | succ k ih => exact inPass_mono ls _ i ih
theorem passes_grow (ls : List (Nat × Nat)) (n : Nat) (hb : Below_ n ls) (s : Nat → Bool) (k : Nat) : (cnt n s + k ≤ cnt n (inPasses ls s k)) ∨ ∀ i, i < n → inPass ls (inPasses ls s k) i = inPasses ls s k i := by
  induction k with
  | zero => exact .inl (Nat.le_refl _)
  | succ k ih =>
    rcases ih with ih | ih
    · by_cases hc : cnt n (inPasses ls s (k + 1)) ≤ cnt n (inPasses ls s k)
      · have e : ∀ i, i < n → inPasses ls s k i = inPasses ls s (k + 1) i := fun i hi => same_of_cnt (fun i h => inPass_mono ls _ i h) hc i hi
        refine .inr fun i hi => ?_
        rw [inPass_congr ls n hb _ _ (fun i hi => (e i hi).symm) i hi]
        rfl
      · exact .inl (by omega)
    · refine .inr fun i hi => ?_
      exact inPass_congr ls n hb _ _ ih i hi
/-- n passes close a set that is not empty -/
theorem passes_closed (ls : List (Nat × Nat)) (n : Nat) (hb : Below_ n ls) (s : Nat → Bool) (j : Nat) (hj : j < n) (hs : s j = true) (p : Nat × Nat) (hp : p ∈ ls) : inPasses ls s n p.1 = inPasses ls s n p.2 := by
  have h1 : 1 ≤ cnt n s := by
    unfold cnt
    exact List.countP_pos_iff.2 ⟨j, by simp [hj], hs⟩
  have hfix : ∀ i, i < n → inPass ls (inPasses ls s n) i = inPasses ls s n i := by
    rcases passes_grow ls n hb s n with h | h
    · have := cnt_le n (inPasses ls s n); omega
    · exact h
  have hpp := hb p hp
  have e := inPass_ends ls (inPasses ls s n) p hp
  rw [hfix _ hpp.1, hfix _ hpp.2] at e
  cases h1 : inPasses ls s n p.1 <;> cases h2 : inPasses ls s n p.2 <;> simp_all
theorem lbAll_class (ls : List (Nat × Nat)) (g : Nat → Bool) (hg : ∀ p, p ∈ ls → g p.1 = g p.2) : ∀ f : Nat → Nat, (∀ i j, f i = f j → g i = g j) → ∀ i j, lbAll ls f i = lbAll ls f j → g i = g j := by
  induction ls with
  | nil => intro f h; exact h
  | cons p t ih =>
    intro f h
    refine ih (fun q hq => hg q (List.mem_cons_of_mem _ hq)) (lbStep f p) (fun i j hij => ?_)
    have hp := hg p (List.mem_cons_self ..)
    have key : ∀ i, f i = f p.1 ∨ f i = f p.2 → g i = g p.1 := fun i hi => hi.elim (h i p.1) fun e => (h i p.2 e).trans hp.symm
    unfold lbStep at hij
    by_cases h1 : f i = max (f p.1) (f p.2) <;> by_cases h2 : f j = max (f p.1) (f p.2)
    · exact h i j (h1.trans h2.symm)
    · rw [if_pos h1, if_neg h2] at hij
      exact (key i (by omega)).trans (key j (by omega)).symm
    · rw [if_neg h1, if_pos h2] at hij
      exact (key i (by omega)).trans (key j (by omega)).symm
    · rw [if_neg h1, if_neg h2] at hij
      exact h i j hij
theorem lbAll_keeps (ls : List (Nat × Nat)) : ∀ (f : Nat → Nat) (i j : Nat), f i = f j → lbAll ls f i = lbAll ls f j := by
  induction ls with
  | nil => intro f i j h; exact h
  | cons p t ih => intro f i j h; exact ih (lbStep f p) i j (by unfold lbStep; rw [h])
theorem lbAll_lead (ls : List (Nat × Nat)) : ∀ (f : Nat → Nat) (p : Nat × Nat), p ∈ ls → lbAll ls f p.1 = lbAll ls f p.2 := by
  induction ls with
  | nil => intro f p hp; cases hp
  | cons q t ih =>
    intro f p hp
    rcases List.mem_cons.1 hp with rfl | hp
    · exact lbAll_keeps t (lbStep f p) p.1 p.2 (by unfold lbStep; split <;> split <;> omega)
    · exact ih (lbStep f q) p hp
theorem lbAll_le (ls : List (Nat × Nat)) : ∀ (f : Nat → Nat), (∀ i, f i ≤ i) → ∀ i, lbAll ls f i ≤ i := by
  induction ls with
  | nil => intro f h; exact h
  | cons p t ih => exact fun f h => ih (lbStep f p) (fun i => by have := h i; unfold lbStep; split <;> omega)
theorem lbAll_idem (ls : List (Nat × Nat)) : ∀ (f : Nat → Nat), (∀ i, f (f i) = f i) → ∀ i, lbAll ls f (lbAll ls f i) = lbAll ls f i := by
  induction ls with
  | nil => intro f h; exact h
  | cons p t ih =>
    refine fun f h => ih (lbStep f p) (fun i => ?_)
    have a := h p.1
    have b := h p.2
    have c := h i
    unfold lbStep
    rcases Nat.le_total (f p.1) (f p.2) with hle | hle
    · rw [Nat.max_eq_right hle, Nat.min_eq_left hle]
      by_cases h1 : f i = f p.2
      · rw [if_pos h1, a]; split <;> rfl
      · rw [if_neg h1, c, if_neg h1]
    · rw [Nat.max_eq_left hle, Nat.min_eq_right hle]
      by_cases h1 : f i = f p.1
      · rw [if_pos h1, b]; split <;> rfl
      · rw [if_neg h1, c, if_neg h1]
/-- the set that grows from node k is the set of the nodes of its label -/
theorem part_law (ls : List (Nat × Nat)) (n k : Nat) (hb : Below_ n ls) (hk : k < n) (i : Nat) : inPasses ls (fun i => i == k) n i = true ↔ lb ls i = lb ls k := by
  constructor
  · intro h
    have snd : ∀ m, ∀ i, inPasses ls (fun i => i == k) m i = true → (decide (lb ls i = lb ls k)) = true := by
      intro m
      induction m with
      | zero => intro i h; have : i = k := by simpa [inPasses] using h
                simp [this]
      | succ m ih => exact inPass_sound ls (fun i => decide (lb ls i = lb ls k)) _ (fun p hp => by have e : lb ls p.1 = lb ls p.2 := lbAll_lead ls (fun i => i) p hp; show decide (lb ls p.1 = _) = decide (lb ls p.2 = _); rw [e]) ih
    simpa using snd n i h
  · intro h
    have := lbAll_class ls (inPasses ls (fun i => i == k) n) (fun p hp => passes_closed ls n hb _ k hk (by simp) p hp) (fun i => i) (fun i j e => by rw [e]) i k h
    rw [this]
    exact passes_mono ls _ n k (by simp)
theorem lb_le (ls : List (Nat × Nat)) (i : Nat) : lb ls i ≤ i := lbAll_le ls _ (fun i => Nat.le_refl i) i
theorem lb_idem (ls : List (Nat × Nat)) (i : Nat) : lb ls (lb ls i) = lb ls i := lbAll_idem ls _ (fun i => rfl) i
/-- a node is the least of its part if and only if it is its label -/
theorem least_law (ls : List (Nat × Nat)) (n k : Nat) (hb : Below_ n ls) (hk : k < n) : (∀ i, i < k → inPasses ls (fun i => i == k) n i = false) ↔ lb ls k = k := by
  constructor
  · intro h
    rcases Nat.lt_or_ge (lb ls k) k with hlt | hge
    · have := (part_law ls n k hb hk (lb ls k)).2 (lb_idem ls k)
      rw [h _ hlt] at this; cases this
    · have := lb_le ls k; omega
  · intro h i hi
    cases hv : inPasses ls (fun i => i == k) n i with
    | false => rfl
    | true => have := (part_law ls n k hb hk i).1 hv
              have := lb_le ls i
              omega
end Go.Proofs.Ytdhppajfdcfikaa

/- The program's set of nodes as bits, and its list of the members of such a set. No condition but the sizes that are named. -/
namespace Go.Proofs.Ytdhppajfdcfikaa
open Go.ChangeShapes Go.WideShapes Go.ChangeAt Go.RowKit
set_option maxHeartbeats 1000000
set_option linter.unusedSimpArgs false
set_option linter.unusedVariables false
theorem and_i64 (a b : Nat) (ha : a < 4294967296) (hb : b < 4294967296) : bits .and .i64 (a : Int) (b : Int) = ((a &&& b : Nat) : Int) := by
  have hx : a &&& b < 2 ^ 32 := Nat.and_lt_two_pow _ (by omega)
  have h1 : (BitVec.ofInt 64 (a : Int)).toNat = a := by
    rw [BitVec.ofInt_natCast, BitVec.toNat_ofNat]; exact Nat.mod_eq_of_lt (by omega)
  have h2 : (BitVec.ofInt 64 (b : Int)).toNat = b := by
    rw [BitVec.ofInt_natCast, BitVec.toNat_ofNat]; exact Nat.mod_eq_of_lt (by omega)
  show IntKind.i64.wrap ((BitVec.ofInt 64 (a : Int) &&& BitVec.ofInt 64 (b : Int)).toNat : Int) = _
  rw [BitVec.toNat_and, h1, h2, IntKind.wrap_i64]
  omega
theorem or_i64 (a b : Nat) (ha : a < 4294967296) (hb : b < 4294967296) : bits .or .i64 (a : Int) (b : Int) = ((a ||| b : Nat) : Int) := by
  have hx : a ||| b < 2 ^ 32 := Nat.or_lt_two_pow (by omega) (by omega)
  have h1 : (BitVec.ofInt 64 (a : Int)).toNat = a := by
    rw [BitVec.ofInt_natCast, BitVec.toNat_ofNat]; exact Nat.mod_eq_of_lt (by omega)
  have h2 : (BitVec.ofInt 64 (b : Int)).toNat = b := by
    rw [BitVec.ofInt_natCast, BitVec.toNat_ofNat]; exact Nat.mod_eq_of_lt (by omega)
  show IntKind.i64.wrap ((BitVec.ofInt 64 (a : Int) ||| BitVec.ofInt 64 (b : Int)).toNat : Int) = _
  rw [BitVec.toNat_or, h1, h2, IntKind.wrap_i64]
  omega
def mem (s : Nat) (k : Nat) : List Int := ((List.range k).filter fun i => s.testBit i).map fun i : Nat => (i : Int)
theorem mem_len (s k : Nat) : (mem s k).length ≤ k := by
  unfold mem; rw [List.length_map]; exact Nat.le_trans (List.length_filter_le _ _) (by simp)
theorem mem_succ (s k : Nat) : mem s (k + 1) = if s.testBit k then mem s k ++ [(k : Int)] else mem s k := by
  unfold mem; rw [List.range_succ, List.filter_append, List.map_append]
  by_cases h : s.testBit k <;> simp [h]
theorem mem_stop (s k : Nat) (h : s / 2 ^ k = 0) (j : Nat) (hj : k ≤ j) : mem s j = mem s k := by
  induction j with
  | zero => rw [show k = 0 by omega]
  | succ j ih =>
    by_cases he : k = j + 1
    · rw [he]
    · rw [mem_succ, if_neg, ih (by omega)]
      have hp : s < 2 ^ k := by rcases Nat.lt_or_ge s (2 ^ k) with h' | h'
                                · exact h'
                                · have := Nat.div_pos h' (Nat.two_pow_pos k); omega
      have hq : s < 2 ^ j := Nat.lt_of_lt_of_le hp (Nat.pow_le_pow_right (by omega) (by omega))
      simp [Nat.testBit_lt_two_pow hq]
theorem bit_of (s k : Nat) : s / 2 ^ k &&& 1 = if s.testBit k then 1 else 0 := by
  rw [Nat.testBit_eq_decide_div_mod_eq, Nat.and_one_is_mod]
  have := Nat.mod_two_eq_zero_or_one (s / 2 ^ k)
  split <;> simp_all
theorem membersOf_any (s : Nat) (hs : s < 4096) (w : World) : Calls Try.prog 100 #[.int .i64 (s : Int)] w (NewInts (mem s 12) w) := by
  obtain ⟨i0, hinf, hz0, hz1, hz2⟩ := info_parts infoI
  have HINF := hid (And.intro hinf (And.intro hz0 (And.intro hz1 hz2)))
  clear hinf hz0 hz1 hz2
  go_enter Try.func100, Try.ntmps100
  go_wp2_with fail
  go_loopw [3, 4] (fun v i wr => ∃ k : Nat, k ≤ 12 ∧ i = .int .i64 k ∧ Hid (OwnInts w.heap.size wr v (mem s k)) ∧ Below w.heap.size w wr) (fun _ i _ => 12 - (intOf i).toNat)
  case atStart => exact ⟨0, Nat.zero_le _, rfl, hid (World.ownsRow_nil _ _ _ _), Below.refl _ _⟩
  case round =>
    obtain ⟨k, hk, rfl, hown, hb⟩ := hrel
    have hk0 : (0 : Int) ≤ (k : Int) := by omega
    have hk1 : (k : Int) ≤ 64 := by omega
    have hq : (s : Int) / 2 ^ k = ((s / 2 ^ k : Nat) : Int) := by simp
    by_cases hz : s / 2 ^ k = 0
    · have hq0 : (s : Int) / 2 ^ k = 0 := by rw [hq, hz]; rfl
      have HZ := hid hz
      clear hq hz
      obtain ⟨A9, c9, rfl⟩ := own_form hown.out
      go_wp2
      go_ret
      exact ⟨_, rfl, by rw [mem_stop s k HZ.out 12 hk]; exact hown.out, hb⟩
    · have hk12 : k < 12 := by
        rcases Nat.lt_or_ge k 12 with h | h
        · exact h
        · have e : k = 12 := by omega
          subst e
          exact absurd (Nat.div_eq_of_lt (by simpa using hs)) hz
      have hpos : (0 : Int) < (s : Int) / 2 ^ k := by rw [hq]; exact Int.natCast_pos.2 (Nat.pos_of_ne_zero hz)
      have hsk : s / 2 ^ k < 4294967296 := Nat.lt_of_le_of_lt (Nat.div_le_self _ _) (by omega)
      have S9 := hid hb
      have HOW := hown
      have hbs := hb.size
      have AL := hid (mem_len s k)
      obtain ⟨A9, c9, rfl⟩ := own_form hown.out
      clear hown hb hz
      cases hbit : s.testBit k
      · have hand : bits .and .i64 ((s : Int) / 2 ^ k) 1 = 0 := by
          rw [hq]; have := and_i64 (s / 2 ^ k) 1 hsk (by decide); rw [bit_of, hbit] at this; exact this
        have E := hid (show mem s (k + 1) = mem s k by rw [mem_succ, hbit]; rfl)
        clear hq hbit hsk
        go_wp2
        go_roundw
        case rel => exact ⟨k + 1, by omega, by go_num, hid (by rw [E.out]; exact HOW.out), S9.out⟩
        case measure => simp [intOf]; omega
      · have hand : bits .and .i64 ((s : Int) / 2 ^ k) 1 = 1 := by
          rw [hq]; have := and_i64 (s / 2 ^ k) 1 hsk (by decide); rw [bit_of, hbit] at this; exact this
        have E := hid (show mem s (k + 1) = mem s k ++ [(k : Int)] by rw [mem_succ, hbit]; rfl)
        clear hq hbit hsk
        have C3 := hid (show (mem s k).length + 1 ≤ maxLen by have := AL.out; unfold maxLen; omega)
        have C4 := hid (show ((mem s k).length + 1) * 8 ≤ 140737488355328 by have := AL.out; omega)
        go_wp2_with (at_builtin; obtain ⟨hinf, hz0, hz1, hz2⟩ := HINF.out; refine wpList_append_own _ rfl _ _ 37 rfl w.heap.size 3 i0 (.int .i64 0) 1 8 Try.underlying37 hinf hz0 hz1 hz2 rfl (by decide) _ _ _ rfl (HOW.out.alloc _) ⟨wr.heap.size, 0, none⟩ 1 1 [.int .i64 k] rfl rfl (by have := cell_one_new wr (.int .i64 k) 3 ; simpa using this) (by simp [Value.oneCell']) C3.out C4.out (by simp; omega) ?_)
        intro v' w' hown' hgrow _
        have O9 := hid hown'
        have G9 := hid hgrow
        clear hown' hgrow
        have B9 := hid ((S9.out.alloc hbs (.cells #[.int .i64 k] 3)).grown G9.out (by simp; omega) (fun g hg => (HOW.out.lt g hg).1))
        go_wp2
        go_roundw
        case rel => exact ⟨k + 1, by omega, by go_num, hid (by unfold OwnInts; rw [E.out]; simpa [ints] using O9.out), B9.out⟩
        case measure => simp [intOf]; omega
end Go.Proofs.Ytdhppajfdcfikaa

/- More plain law of the parts of a graph: the list of labels, the set of a part as bits, its least member, how many parts there are. No program in sight. -/
namespace Go.Proofs.Ytdhppajfdcfikaa
set_option linter.unusedSimpArgs false
set_option linter.unusedVariables false
def fnL (n : Nat) (f : Nat → Nat) : List Int := (List.range n).map fun i => ((f i : Nat) : Int)
theorem fnL_len (n : Nat) (f : Nat → Nat) : (fnL n f).length = n := by simp [fnL]
theorem fnL_get (n : Nat) (f : Nat → Nat) (i : Nat) (h : i < n) : (fnL n f)[i]? = some ((f i : Nat) : Int) := by simp [fnL, h]
theorem fnL_succ (n : Nat) (f : Nat → Nat) : fnL (n + 1) f = fnL n f ++ [((f n : Nat) : Int)] := by simp [fnL, List.range_succ]
theorem fnL_congr {n : Nat} {f g : Nat → Nat} (h : ∀ i, i < n → f i = g i) : fnL n f = fnL n g := by
  unfold fnL
  apply List.map_congr_left
  intro i hi
  rw [h i (by simpa using hi)]
theorem fnL_set (n : Nat) (f : Nat → Nat) (j x : Nat) (hj : j < n) : (fnL n f).set j (x : Int) = fnL n (fun i => if i = j then x else f i) := by
  apply List.ext_getElem?
  intro i
  by_cases hi : i < n
  · rw [fnL_get _ _ _ hi]
    by_cases e : i = j
    · subst e
      rw [List.getElem?_set_self (by rw [fnL_len]; exact hi), if_pos rfl]
    · rw [List.getElem?_set_ne (fun h => e h.symm), fnL_get _ _ _ hi, if_neg e]
  · rw [List.getElem?_eq_none (by rw [List.length_set, fnL_len]; omega), List.getElem?_eq_none (by rw [fnL_len]; omega)]
/-- the labels below j are those behind the step already -/
def stepTo (f : Nat → Nat) (p : Nat × Nat) (j : Nat) : Nat → Nat := fun i => if i < j then lbStep f p i else f i
theorem stepTo_zero (n : Nat) (f : Nat → Nat) (p : Nat × Nat) : fnL n (stepTo f p 0) = fnL n f := fnL_congr fun i _ => by simp [stepTo]
theorem stepTo_all (n : Nat) (f : Nat → Nat) (p : Nat × Nat) : fnL n (stepTo f p n) = fnL n (lbStep f p) := fnL_congr fun i hi => by simp [stepTo, hi]
theorem stepTo_yes (n : Nat) (f : Nat → Nat) (p : Nat × Nat) (j : Nat) (hj : j < n) (h : f j = max (f p.1) (f p.2)) : fnL n (stepTo f p (j + 1)) = (fnL n (stepTo f p j)).set j ((min (f p.1) (f p.2) : Nat) : Int) := by
  rw [fnL_set _ _ _ _ hj]
  refine fnL_congr fun i _ => ?_
  unfold stepTo
  by_cases e : i = j
  · subst e; rw [if_pos (by omega), if_pos rfl]; unfold lbStep; rw [if_pos h]
  · rw [if_neg e]
    by_cases hl : i < j
    · rw [if_pos (by omega), if_pos hl]
    · rw [if_neg (by omega), if_neg hl]
theorem stepTo_no (n : Nat) (f : Nat → Nat) (p : Nat × Nat) (j : Nat) (h : ¬ f j = max (f p.1) (f p.2)) : fnL n (stepTo f p (j + 1)) = fnL n (stepTo f p j) := by
  refine fnL_congr fun i _ => ?_
  unfold stepTo
  by_cases e : i = j
  · subst e; rw [if_pos (by omega), if_neg (by omega)]; unfold lbStep; rw [if_neg h]
  · by_cases hl : i < j
    · rw [if_pos (by omega), if_pos hl]
    · rw [if_neg (by omega), if_neg hl]
theorem lbAll_take_succ (ls : List (Nat × Nat)) (f : Nat → Nat) (k : Nat) (p : Nat × Nat) (h : ls[k]? = some p) : lbAll (ls.take (k + 1)) f = lbStep (lbAll (ls.take k) f) p := by
  unfold lbAll; rw [List.take_add_one, h]; simp
/-! the part of a node as bits -/
def bStep (s : Nat) (p : Nat × Nat) : Nat := if s.testBit p.1 || s.testBit p.2 then s ||| (2 ^ p.1 ||| 2 ^ p.2) else s
def bPass (ls : List (Nat × Nat)) (s : Nat) : Nat := ls.foldl bStep s
def bPasses (ls : List (Nat × Nat)) (s : Nat) : Nat → Nat
  | 0 => s
  | n + 1 => bPass ls (bPasses ls s n)
theorem bStep_bit (s : Nat) (p : Nat × Nat) : (bStep s p).testBit = inStep s.testBit p := by
  funext i
  unfold bStep inStep
  split
  · have e : ∀ a b : Nat, (a == b) = decide (b = a) := fun a b => by
      rw [Bool.eq_iff_iff, beq_iff_eq, decide_eq_true_iff]; exact eq_comm
    show _ = (s.testBit i || (i == p.1 || i == p.2))
    rw [Nat.testBit_or, Nat.testBit_or, Nat.testBit_two_pow, Nat.testBit_two_pow, e, e]
  · rfl
theorem bPass_bit (ls : List (Nat × Nat)) : ∀ s : Nat, (bPass ls s).testBit = inPass ls s.testBit := by
  induction ls with
  | nil => intro s; rfl
  | cons p t ih => intro s; show (bPass t (bStep s p)).testBit = inPass t (inStep s.testBit p); rw [ih, bStep_bit]
theorem bPasses_bit (ls : List (Nat × Nat)) (s : Nat) (n : Nat) : (bPasses ls s n).testBit = inPasses ls s.testBit n := by
  induction n with
  | zero => rfl
  | succ n ih => show (bPass ls (bPasses ls s n)).testBit = inPass ls (inPasses ls s.testBit n); rw [bPass_bit, ih]
theorem bStep_lt (m s : Nat) (p : Nat × Nat) (hs : s < 2 ^ m) (h1 : p.1 < m) (h2 : p.2 < m) : bStep s p < 2 ^ m := by
  unfold bStep
  split
  · exact Nat.or_lt_two_pow hs (Nat.or_lt_two_pow (Nat.pow_lt_pow_right (by omega) h1) (Nat.pow_lt_pow_right (by omega) h2))
  · exact hs
theorem bPass_take_succ (ls : List (Nat × Nat)) (s k : Nat) (p : Nat × Nat) (h : ls[k]? = some p) : bPass (ls.take (k + 1)) s = bStep (bPass (ls.take k) s) p := by
  unfold bPass; rw [List.take_add_one, h]; simp
theorem bPass_lt (m : Nat) (ls : List (Nat × Nat)) (hl : ∀ p, p ∈ ls → p.1 < m ∧ p.2 < m) : ∀ s : Nat, s < 2 ^ m → bPass ls s < 2 ^ m := by
  induction ls with
  | nil => intro s h; exact h
  | cons p t ih => intro s h; exact ih (fun q hq => hl q (List.mem_cons_of_mem _ hq)) (bStep s p) (bStep_lt m s p h (hl p (List.mem_cons_self ..)).1 (hl p (List.mem_cons_self ..)).2)
theorem bPasses_lt (m : Nat) (ls : List (Nat × Nat)) (hl : ∀ p, p ∈ ls → p.1 < m ∧ p.2 < m) (s : Nat) (h : s < 2 ^ m) (n : Nat) : bPasses ls s n < 2 ^ m := by
  induction n with
  | zero => exact h
  | succ n ih => exact bPass_lt m ls hl _ ih
/-- a node's part: the bits that are set are those of the nodes of its label -/
theorem part_bits (ls : List (Nat × Nat)) (n k : Nat) (hb : Below_ n ls) (hk : k < n) (i : Nat) : (bPasses ls (2 ^ k) n).testBit i = true ↔ lb ls i = lb ls k := by
  have e : (2 ^ k).testBit = fun i => i == k := by
    funext i
    rw [Nat.testBit_two_pow, Bool.eq_iff_iff, beq_iff_eq, decide_eq_true_iff]; exact eq_comm
  rw [bPasses_bit, e]
  exact part_law ls n k hb hk i
theorem filter_head (p : Nat → Bool) : ∀ (n k : Nat), k < n → p k = true → ∃ m, m ≤ k ∧ p m = true ∧ (∀ i, i < m → p i = false) ∧ ((List.range n).filter p)[0]? = some m
  | 0, k, h, _ => absurd h (by omega)
  | n + 1, k, h, hp => by
    by_cases hex : ∃ j, j < n ∧ p j = true
    · obtain ⟨j, hj, hpj⟩ := hex
      obtain ⟨m, h1, h2, h3, h4⟩ := filter_head p n j hj hpj
      refine ⟨m, ?_, h2, h3, ?_⟩
      · rcases Nat.lt_or_ge k m with hlt | hge
        · rw [h3 k hlt] at hp; cases hp
        · exact hge
      · rw [List.range_succ, List.filter_append]
        have hl : 0 < ((List.range n).filter p).length := by
          rcases Nat.eq_zero_or_pos ((List.range n).filter p).length with h0 | h0
          · rw [List.eq_nil_of_length_eq_zero h0] at h4; cases h4
          · exact h0
        rw [List.getElem?_append_left hl]; exact h4
    · have hk : k = n := by
        by_cases e : k = n
        · exact e
        · exact absurd ⟨k, by omega, hp⟩ hex
      subst hk
      have hall : ∀ i, i < k → p i = false := fun i hi => by
        cases h : p i
        · rfl
        · exact absurd ⟨i, hi, h⟩ hex
      have hnil : (List.range k).filter p = [] := by
        rw [List.filter_eq_nil_iff]
        intro a ha
        rw [hall a (by simpa using ha)]; simp
      refine ⟨k, Nat.le_refl _, hp, hall, ?_⟩
      rw [List.range_succ, List.filter_append, hnil]
      simp [hp]
theorem mem_head (s k : Nat) (hk : k < 12) (hb : s.testBit k = true) : ∃ m : Nat, m ≤ k ∧ s.testBit m = true ∧ (∀ i, i < m → s.testBit i = false) ∧ (mem s 12)[0]? = some (m : Int) := by
  obtain ⟨m, h1, h2, h3, h4⟩ := filter_head (fun i => s.testBit i) 12 k hk hb
  refine ⟨m, h1, h2, h3, ?_⟩
  unfold mem
  rw [List.getElem?_map, h4]; rfl
theorem filter_all (p : Nat → Bool) (n : Nat) : ((List.range n).filter p).length = n ↔ ∀ i, i < n → p i = true := by
  constructor
  · intro h i hi
    have := List.length_filter_eq_length_iff.1 (h.trans (List.length_range).symm)
    exact this i (by simpa using hi)
  · intro h
    have := List.length_filter_eq_length_iff.2 (fun a (ha : a ∈ List.range n) => h a (by simpa using ha))
    rw [this, List.length_range]
theorem mem_all (s n : Nat) (hn : n ≤ 12) (hs : s < 2 ^ n) : (mem s 12).length = n ↔ ∀ i, i < n → s.testBit i = true := by
  have e : mem s 12 = mem s n := mem_stop s n (Nat.div_eq_of_lt hs) 12 hn
  rw [e]
  unfold mem
  rw [List.length_map]
  exact filter_all (fun i => s.testBit i) n
def ptF (ns ls : List (Int × Int)) (k : Nat) : List Int := mem (bPasses ((ls.map fun p => (p.1.toNat, p.2.toNat))) (2 ^ k) ns.length) 12
end Go.Proofs.Ytdhppajfdcfikaa
