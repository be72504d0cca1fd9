/- The plain law of the darts around a node of a valid window: their directions are all different, so they have one order. No program in sight. -/
import Derived.Test.YtbijbohkpjnjnaaDartb
import Derived.Test.YtbijbohkpjnjnaaOrderP
namespace Go.Proofs.Ytbijbohkpjnjnaa
set_option linter.unusedSimpArgs false
set_option linter.unusedVariables false
/-! what a valid window is -/
structure WinFacts (ns ls : List (Int × Int)) : Prop where
  n1 : 1 ≤ ns.length
  n2 : ns.length ≤ 12
  m2 : ls.length ≤ 20
  ok : okAll ns = true
  dist : ∀ i j, i < ns.length → j < i → ptN ns i ≠ ptN ns j
  line : ∀ i, i < ls.length → leadLine ns ls i = true
theorem win_facts {ns ls : List (Int × Int)} (h : winOkB ns ls = true) : WinFacts ns ls := by
  simp only [winOkB, Bool.and_eq_true, inB, decide_eq_true_iff] at h
  obtain ⟨h1, h2, h3, h4, h5⟩ := h
  refine ⟨by omega, by omega, by omega, h3, fun i j hi hj e => ?_, fun i hi => allB_get h5 hi⟩
  have := allB_get h4 hi
  simp only [Bool.not_eq_true', hasP] at this
  rw [List.any_eq_false] at this
  have hjl : j < ns.length := by omega
  have hm : ptN ns j ∈ ns.take i := by
    rw [List.mem_take_iff_getElem]
    exact ⟨j, by omega, by simp [ptN, List.getD, hjl]⟩
  have := this _ hm
  rw [e] at this
  exact this (by simp [eqP])
theorem ptN_mem {ns : List (Int × Int)} {i : Nat} (h : i < ns.length) : ptN ns i ∈ ns := by
  have : ns[i] = ptN ns i := by simp [ptN, List.getD, h]
  rw [← this]; exact List.getElem_mem h
theorem WinFacts.okN {ns ls : List (Int × Int)} (h : WinFacts ns ls) {i : Nat} (hi : i < ns.length) : nodeOkB (ptN ns i).1 (ptN ns i).2 = true := by
  have := h.ok
  unfold okAll at this
  rw [List.all_eq_true] at this
  exact this _ (ptN_mem hi)
theorem WinFacts.ok3 {ns ls : List (Int × Int)} (h : WinFacts ns ls) {i j k : Nat} (hi : i < ns.length) (hj : j < ns.length) (hk : k < ns.length) : okAll [ptN ns i, ptN ns j, ptN ns k] = true := by
  rw [okAll3, h.okN hi, h.okN hj, h.okN hk]; rfl
theorem WinFacts.ne {ns ls : List (Int × Int)} (h : WinFacts ns ls) {i j : Nat} (hi : i < ns.length) (hj : j < ns.length) (hij : i ≠ j) : ptN ns i ≠ ptN ns j := by
  rcases Nat.lt_or_ge j i with h1 | h1
  · exact h.dist i j hi h1
  · exact fun e => h.dist j i hj (by omega) e.symm
/-- lead number i of a valid window -/
theorem WinFacts.lead {ns ls : List (Int × Int)} (h : WinFacts ns ls) {i : Nat} (hi : i < ls.length) : ∃ f t : Nat, ptN ls i = ((f : Int), (t : Int)) ∧ f < t ∧ t < ns.length ∧ leadOkB ns (f : Int) (t : Int) = true := by
  have hl := h.line i hi
  simp only [leadLine, Bool.and_eq_true] at hl
  have hlo := hl.1
  have hb : 0 ≤ (ptN ls i).1 ∧ (ptN ls i).1 < (ptN ls i).2 ∧ (ptN ls i).2 < (ns.length : Int) := by
    have := hlo
    simp only [leadOkB, Bool.and_eq_true, decide_eq_true_iff] at this
    omega
  refine ⟨(ptN ls i).1.toNat, (ptN ls i).2.toNat, ?_, by omega, by omega, ?_⟩
  · exact Prod.ext (by simp; omega) (by simp; omega)
  · have e1 : (((ptN ls i).1.toNat : Nat) : Int) = (ptN ls i).1 := by omega
    have e2 : (((ptN ls i).2.toNat : Nat) : Int) = (ptN ls i).2 := by omega
    rw [e1, e2]; exact hlo
theorem atP_nat (ns : List (Int × Int)) (i : Nat) : atP ns (i : Int) = ptN ns i := by simp [atP, ptN]
/-- two leads of a valid window do not join the same nodes -/
theorem WinFacts.twice {ns ls : List (Int × Int)} (h : WinFacts ns ls) {i j : Nat} (hi : i < ls.length) (hj : j < ls.length) (e : ptN ls i = ptN ls j) : i = j := by
  have key : ∀ i j, i < ls.length → j < i → ptN ls i ≠ ptN ls j := fun i j hi hj e => by
    have hl := h.line i hi
    simp only [leadLine, Bool.and_eq_true] at hl
    have := allB_get hl.2.1 hj
    have hlo := hl.1
    rw [← e] at this
    simp only [Bool.not_eq_true', doCrossB, hlo, crossB, sameB] at this
    simp [eqP] at this
  rcases Nat.lt_trichotomy i j with h1 | h1 | h1
  · exact absurd e.symm (key j i hj h1)
  · exact h1
  · exact absurd e (key i j hi h1)
theorem tn_flip (ax ay bx by' cx cy : Int) : tn bx by' ax ay cx cy = -tn ax ay bx by' cx cy := by unfold tn; grind
/-- no node of a valid window lies on a lead between its ends -/
theorem WinFacts.clear_ {ns ls : List (Int × Int)} (h : WinFacts ns ls) {i : Nat} (hi : i < ls.length) {f t m : Nat} (e : ptN ls i = ((f : Int), (t : Int))) (ht : t < ns.length) (hft : f < t) (hm : m < ns.length) (hf : m ≠ f) (hm2 : m ≠ t)
    (hz : tn (ptN ns f).1 (ptN ns f).2 (ptN ns t).1 (ptN ns t).2 (ptN ns m).1 (ptN ns m).2 = 0)
    (hbx : min (ptN ns f).1 (ptN ns t).1 ≤ (ptN ns m).1 ∧ (ptN ns m).1 ≤ max (ptN ns f).1 (ptN ns t).1 ∧ min (ptN ns f).2 (ptN ns t).2 ≤ (ptN ns m).2 ∧ (ptN ns m).2 ≤ max (ptN ns f).2 (ptN ns t).2) : False := by
  have hl := h.line i hi
  simp only [leadLine, Bool.and_eq_true] at hl
  have hfr := allB_get hl.2.2 hm
  rw [e] at hfr
  have hlo := hl.1
  rw [e] at hlo
  have hlo' : leadOkB ns (f : Int) (t : Int) = true := hlo
  have q1 : ((m : Int) == (f : Int)) = false := by simp; omega
  have q2 : ((m : Int) == (t : Int)) = false := by simp; omega
  have ok := h.ok3 (i := f) (j := t) (k := m) (by omega) ht hm
  have n1 := h.ne (i := f) (j := t) (by omega) ht (by omega)
  have n2 := h.ne (i := f) (j := m) (by omega) hm (fun e => hf e.symm)
  have n3 := h.ne (i := t) (j := m) ht hm (fun e => hm2 e.symm)
  have ep : ∀ {p q : Int × Int}, p ≠ q → eqP p.1 p.2 q.1 q.2 = false := fun {p q} hne => by
    simp only [eqP, decide_eq_false_iff_not]
    exact fun e => hne (Prod.ext e.1 e.2)
  have hbt : betw (ptN ns f).1 (ptN ns f).2 (ptN ns t).1 (ptN ns t).2 (ptN ns m).1 (ptN ns m).2 = true := by
    unfold betw
    have ok' : okAll [((ptN ns f).1, (ptN ns f).2), ((ptN ns t).1, (ptN ns t).2), ((ptN ns m).1, (ptN ns m).2)] = true := ok
    rw [ok', ep n1, ep n2, ep n3, hz]
    simp [inB]; omega
  have hon : onLeadB ns (f : Int) (t : Int) (ptN ns m).1 (ptN ns m).2 = true := by
    unfold onLeadB onSeg
    rw [hlo', atP_nat, atP_nat]
    simp [hbt]
  simp only [freeB, q1, q2, hon] at hfr
  simp at hfr
/-! darts -/
/-- dart d lies on lead i -/
theorem WinFacts.dart {ns ls : List (Int × Int)} (h : WinFacts ns ls) {d : Nat} (hd : d < 2 * ls.length) : ∃ f t : Nat, ptN ls (d / 2) = ((f : Int), (t : Int)) ∧ f < t ∧ t < ns.length ∧
    ((d % 2 = 0 ∧ dFrom ls (d : Int) = (f : Int) ∧ dTo ls (d : Int) = (t : Int)) ∨ (d % 2 = 1 ∧ dFrom ls (d : Int) = (t : Int) ∧ dTo ls (d : Int) = (f : Int))) := by
  obtain ⟨f, t, e, h1, h2, _⟩ := h.lead (i := d / 2) (by omega)
  refine ⟨f, t, e, h1, h2, ?_⟩
  have hq : ((d : Int) / 2).toNat = d / 2 := by omega
  unfold dFrom dTo
  rw [hq, e]
  rcases Nat.mod_two_eq_zero_or_one d with hp | hp
  · left; rw [if_pos (by omega), if_pos (by omega)]; exact ⟨hp, rfl, rfl⟩
  · right; rw [if_neg (by omega), if_neg (by omega)]; exact ⟨hp, rfl, rfl⟩
theorem WinFacts.ends {ns ls : List (Int × Int)} (h : WinFacts ns ls) {d : Nat} (hd : d < 2 * ls.length) : ∃ a b : Nat, dFrom ls (d : Int) = (a : Int) ∧ dTo ls (d : Int) = (b : Int) ∧ a < ns.length ∧ b < ns.length ∧ a ≠ b := by
  obtain ⟨f, t, _, h1, h2, h3⟩ := h.dart hd
  rcases h3 with ⟨_, h4, h5⟩ | ⟨_, h4, h5⟩
  · exact ⟨f, t, h4, h5, by omega, h2, by omega⟩
  · exact ⟨t, f, h4, h5, h2, by omega, by omega⟩
/-- two darts with the same ends are one -/
theorem WinFacts.same {ns ls : List (Int × Int)} (h : WinFacts ns ls) {d e : Nat} (hd : d < 2 * ls.length) (he : e < 2 * ls.length) (h1 : dFrom ls (d : Int) = dFrom ls (e : Int)) (h2 : dTo ls (d : Int) = dTo ls (e : Int)) : d = e := by
  obtain ⟨f, t, a1, a2, a3, a4⟩ := h.dart hd
  obtain ⟨g, u, b1, b2, b3, b4⟩ := h.dart he
  have hfg : f = g ∧ t = u ∧ d % 2 = e % 2 := by omega
  have : d / 2 = e / 2 := h.twice (by omega) (by omega) (by rw [a1, b1, hfg.1, hfg.2.1])
  omega
/-- the order of the darts around the node from which they go -/
def befD (ns ls : List (Int × Int)) (k : Int) (d e : Int) : Bool := bef0 (ptN ns k.toNat) (ptN ns (dTo ls d).toNat) (ptN ns (dTo ls e).toNat)
/-- two darts at one node go into different directions -/
theorem WinFacts.differ {ns ls : List (Int × Int)} (h : WinFacts ns ls) {d e : Nat} (hd : d < 2 * ls.length) (he : e < 2 * ls.length) (hf : dFrom ls (d : Int) = dFrom ls (e : Int)) (hne : d ≠ e) :
    befD ns ls (dFrom ls (d : Int)) (d : Int) (e : Int) = true ∨ befD ns ls (dFrom ls (d : Int)) (e : Int) (d : Int) = true := by
  obtain ⟨a, b, a1, a2, a3, a4, a5⟩ := h.ends hd
  obtain ⟨a', c, b1, b2, b3, b4, b5⟩ := h.ends he
  obtain rfl : a = a' := by omega
  have hbc : b ≠ c := fun e' => hne (h.same hd he hf (by rw [a2, b2, e']))
  unfold befD
  rw [a1, a2, b2]
  simp only [Int.toNat_natCast]
  refine bef0_total fun hh => ?_
  have key : ∀ {x : Nat}, x < 2 * ls.length → dFrom ls (x : Int) = (a : Int) → ∀ {p q : Nat}, dTo ls (x : Int) = (p : Int) → p < ns.length → q < ns.length → q ≠ a → q ≠ p → tn (ptN ns a).1 (ptN ns a).2 (ptN ns p).1 (ptN ns p).2 (ptN ns q).1 (ptN ns q).2 = 0 →
      (min (ptN ns a).1 (ptN ns p).1 ≤ (ptN ns q).1 ∧ (ptN ns q).1 ≤ max (ptN ns a).1 (ptN ns p).1 ∧ min (ptN ns a).2 (ptN ns p).2 ≤ (ptN ns q).2 ∧ (ptN ns q).2 ≤ max (ptN ns a).2 (ptN ns p).2) → False := by
    intro x hx hxa p q hxp hp hq hqa hqp hz hbx
    obtain ⟨f, t, c1, c2, c3, c4⟩ := h.dart hx
    rcases c4 with ⟨_, c5, c6⟩ | ⟨_, c5, c6⟩
    · obtain rfl : f = a := by omega
      obtain rfl : t = p := by omega
      exact h.clear_ (by omega) c1 c3 c2 hq hqa hqp hz hbx
    · obtain rfl : t = a := by omega
      obtain rfl : f = p := by omega
      refine h.clear_ (by omega) c1 c3 c2 hq hqp hqa (by rw [tn_flip, hz]; rfl) ?_
      rw [Int.min_comm, Int.max_comm, Int.min_comm (ptN ns f).2, Int.max_comm (ptN ns f).2]; exact hbx
  rcases same_dir (h.ne a3 a4 a5) (h.ne a3 b4 b5) (h.ne a4 b4 hbc) hh.1 hh.2 with hx | hx
  · exact key hd a1 a2 a4 b4 (fun e' => b5 e'.symm) (fun e' => hbc e'.symm) hh.2 hx
  · refine key he b1 b2 b4 a4 (fun e' => a5 e'.symm) hbc ?_ hx
    rw [tn_anti, hh.2]; rfl
theorem WinFacts.befD_trans {ns ls : List (Int × Int)} (h : WinFacts ns ls) {d e g : Nat} (hd : d < 2 * ls.length) (he : e < 2 * ls.length) (hg : g < 2 * ls.length) {k : Int} (kd : dFrom ls (d : Int) = k) (ke : dFrom ls (e : Int) = k) (kg : dFrom ls (g : Int) = k)
    (h1 : befD ns ls k d e = true) (h2 : befD ns ls k e g = true) : befD ns ls k d g = true := by
  obtain ⟨a, b, a1, a2, a3, a4, a5⟩ := h.ends hd
  obtain ⟨a', c, b1, b2, b3, b4, b5⟩ := h.ends he
  obtain ⟨a'', r, c1, c2, c3, c4, c5⟩ := h.ends hg
  obtain rfl : a = a' := by omega
  obtain rfl : a = a'' := by omega
  unfold befD at h1 h2 ⊢
  rw [← kd, a1] at h1 h2 ⊢
  rw [a2, b2] at h1
  rw [b2, c2] at h2
  rw [a2, c2]
  simp only [Int.toNat_natCast] at h1 h2 ⊢
  exact bef0_trans (h.ne a3 a4 a5) (h.ne a3 b4 b5) (h.ne a3 c4 c5) h1 h2
theorem befD_asym {ns ls : List (Int × Int)} {k d e : Int} (h : befD ns ls k d e = true) : befD ns ls k e d = false := bef0_asym h
theorem befD_irr (ns ls : List (Int × Int)) (k d : Int) : befD ns ls k d d = false := by
  cases h : befD ns ls k d d
  · rfl
  · rw [befD_asym h] at h; cases h
/-- the first n darts that go from node k -/
def dartsAt (ls : List (Int × Int)) (k : Int) : Nat → List Int
  | 0 => []
  | n + 1 => if dFrom ls (n : Int) = k then dartsAt ls k n ++ [(n : Int)] else dartsAt ls k n
theorem dartsAt_len (ls : List (Int × Int)) (k : Int) (n : Nat) : (dartsAt ls k n).length ≤ n := by
  induction n with
  | zero => simp [dartsAt]
  | succ n ih => unfold dartsAt; split
                 · simp; omega
                 · omega
theorem mem_dartsAt (ls : List (Int × Int)) (k : Int) (n : Nat) (x : Int) : x ∈ dartsAt ls k n ↔ ∃ m : Nat, m < n ∧ x = (m : Int) ∧ dFrom ls (m : Int) = k := by
  induction n with
  | zero => simp [dartsAt]
  | succ n ih =>
    have e : (∃ m : Nat, m < n + 1 ∧ x = (m : Int) ∧ dFrom ls (m : Int) = k) ↔ (∃ m : Nat, m < n ∧ x = (m : Int) ∧ dFrom ls (m : Int) = k) ∨ (x = (n : Int) ∧ dFrom ls (n : Int) = k) := by
      constructor
      · rintro ⟨m, h1, h2, h3⟩
        by_cases hm : m = n
        · subst hm; exact .inr ⟨h2, h3⟩
        · exact .inl ⟨m, by omega, h2, h3⟩
      · rintro (⟨m, h1, h2, h3⟩ | ⟨h2, h3⟩)
        · exact ⟨m, by omega, h2, h3⟩
        · exact ⟨n, by omega, h2, h3⟩
    rw [e]
    unfold dartsAt
    split
    · rename_i h
      rw [List.mem_append, ih]
      simp [h]
    · rename_i h
      rw [ih]
      simp [h]
theorem dartsAt_nodup (ls : List (Int × Int)) (k : Int) (n : Nat) : (dartsAt ls k n).Nodup := by
  induction n with
  | zero => simp [dartsAt]
  | succ n ih =>
    unfold dartsAt
    split
    · rw [List.nodup_append]
      refine ⟨ih, by simp, ?_⟩
      intro a ha b hb e
      obtain ⟨m, h1, h2, _⟩ := (mem_dartsAt ls k n a).1 ha
      have : b = (n : Int) := by simpa using hb
      omega
    · exact ih
/-! inserting from the right -/
def insR (lt : Int → Int → Bool) (d : Int) : List Int → List Int
  | [] => [d]
  | x :: t => if lt d x then x :: insR lt d t else d :: x :: t
def insD (lt : Int → Int → Bool) (l : List Int) (d : Int) : List Int := (insR lt d l.reverse).reverse
theorem insR_perm (lt : Int → Int → Bool) (d : Int) : ∀ l, (insR lt d l).Perm (d :: l)
  | [] => List.Perm.refl _
  | x :: t => by
    unfold insR
    split
    · exact ((insR_perm lt d t).cons x).trans (List.Perm.swap d x t)
    · exact List.Perm.refl _
theorem insD_perm (lt : Int → Int → Bool) (d : Int) (l : List Int) : (insD lt l d).Perm (d :: l) := by
  unfold insD
  exact ((List.reverse_perm _).trans (insR_perm lt d l.reverse)).trans ((List.reverse_perm l).cons d)
/-- the order in which the darts lie around node k -/
def aroundN (ns ls : List (Int × Int)) (k : Int) (n : Nat) : List Int := (dartsAt ls k n).foldl (insD (befD ns ls k)) []
def aroundF (ns ls : List (Int × Int)) (k : Int) : List Int := aroundN ns ls k (2 * ls.length)
theorem aroundN_yes (ns ls : List (Int × Int)) (k : Int) (n : Nat) (h : dFrom ls (n : Int) = k) : aroundN ns ls k (n + 1) = insD (befD ns ls k) (aroundN ns ls k n) (n : Int) := by
  unfold aroundN; rw [dartsAt, if_pos h, List.foldl_append]; rfl
theorem aroundN_no (ns ls : List (Int × Int)) (k : Int) (n : Nat) (h : ¬ dFrom ls (n : Int) = k) : aroundN ns ls k (n + 1) = aroundN ns ls k n := by
  unfold aroundN; rw [dartsAt, if_neg h]
theorem aroundN_perm (ns ls : List (Int × Int)) (k : Int) (n : Nat) : (aroundN ns ls k n).Perm (dartsAt ls k n) := by
  induction n with
  | zero => exact List.Perm.refl _
  | succ n ih =>
    by_cases h : dFrom ls (n : Int) = k
    · rw [aroundN_yes _ _ _ _ h, dartsAt, if_pos h]
      exact (insD_perm _ _ _).trans ((ih.cons _).trans (List.perm_append_singleton _ _).symm)
    · rw [aroundN_no _ _ _ _ h, dartsAt, if_neg h]; exact ih
theorem insR_sorted {lt : Int → Int → Bool} {d : Int} : ∀ {l : List Int}, l.Pairwise (fun x y => lt y x = true) → (∀ x, x ∈ l → lt d x = true ∨ lt x d = true) → (∀ x y, x ∈ l → y ∈ l → lt x y = true → lt y d = true → lt x d = true) → (insR lt d l).Pairwise (fun x y => lt y x = true)
  | [], _, _, _ => by simp [insR]
  | x :: t, hp, ht, hr => by
    obtain ⟨h1, h2⟩ := List.pairwise_cons.1 hp
    unfold insR
    by_cases h : lt d x = true
    · rw [if_pos h]
      refine List.pairwise_cons.2 ⟨fun y hy => ?_, insR_sorted h2 (fun y hy => ht y (List.mem_cons_of_mem _ hy)) (fun a b ha hb => hr a b (List.mem_cons_of_mem _ ha) (List.mem_cons_of_mem _ hb))⟩
      rcases List.mem_cons.1 ((insR_perm lt d t).mem_iff.1 hy) with rfl | hy
      · exact h
      · exact h1 y hy
    · rw [if_neg h]
      have hx : lt x d = true := (ht x (List.mem_cons_self ..)).resolve_left h
      refine List.pairwise_cons.2 ⟨fun y hy => ?_, hp⟩
      rcases List.mem_cons.1 hy with rfl | hy
      · exact hx
      · exact hr y x (List.mem_cons_of_mem _ hy) (List.mem_cons_self ..) (h1 y hy) hx
theorem WinFacts.aroundN_sorted {ns ls : List (Int × Int)} (h : WinFacts ns ls) (k : Int) : ∀ n, n ≤ 2 * ls.length → (aroundN ns ls k n).Pairwise (fun x y => befD ns ls k x y = true)
  | 0, _ => by simp [aroundN, dartsAt]
  | n + 1, hn => by
    have ih := h.aroundN_sorted k n (by omega)
    by_cases hk : dFrom ls (n : Int) = k
    · rw [aroundN_yes _ _ _ _ hk]
      unfold insD
      rw [List.pairwise_reverse]
      have hm : ∀ x, x ∈ (aroundN ns ls k n).reverse → ∃ m : Nat, m < n ∧ x = (m : Int) ∧ dFrom ls (m : Int) = k := fun x hx => (mem_dartsAt ls k n x).1 ((aroundN_perm ns ls k n).mem_iff.1 (List.mem_reverse.1 hx))
      refine insR_sorted (List.pairwise_reverse.2 ih) ?_ ?_
      · intro x hx
        obtain ⟨m, h1, rfl, h3⟩ := hm x hx
        have := h.differ (d := n) (e := m) (by omega) (by omega) (by rw [hk, h3]) (by omega)
        rw [hk] at this
        exact this
      · intro x y hx hy hxy hyd
        obtain ⟨m, h1, rfl, h3⟩ := hm x hx
        obtain ⟨m', h1', rfl, h3'⟩ := hm y hy
        exact h.befD_trans (d := m) (e := m') (g := n) (by omega) (by omega) (by omega) h3 h3' hk hxy hyd
    · rw [aroundN_no _ _ _ _ hk]; exact ih
theorem mem_around (ns ls : List (Int × Int)) (k : Int) (x : Int) : x ∈ aroundF ns ls k ↔ ∃ m : Nat, m < 2 * ls.length ∧ x = (m : Int) ∧ dFrom ls (m : Int) = k := by
  unfold aroundF; rw [(aroundN_perm ns ls k _).mem_iff, mem_dartsAt]
theorem around_nodup (ns ls : List (Int × Int)) (k : Int) : (aroundF ns ls k).Nodup := ((aroundN_perm ns ls k _).nodup_iff).2 (dartsAt_nodup ls k _)
/-- a sorted arrangement of the same darts is the same list -/
theorem sorted_unique {lt : Int → Int → Bool} (hirr : ∀ x, lt x x = false) (hasym : ∀ x y, lt x y = true → lt y x = false) : ∀ {a b : List Int}, a.Perm b → a.Pairwise (fun x y => lt x y = true) → b.Pairwise (fun x y => lt x y = true) → a = b
  | [], b, hp, _, _ => (List.nil_perm.1 hp).symm ▸ rfl
  | x :: a, [], hp, _, _ => absurd hp (by simp)
  | x :: a, y :: b, hp, ha, hb => by
    obtain ⟨a1, a2⟩ := List.pairwise_cons.1 ha
    obtain ⟨b1, b2⟩ := List.pairwise_cons.1 hb
    have hxy : x = y := by
      rcases List.mem_cons.1 (hp.mem_iff.1 (List.mem_cons_self ..)) with e | hx
      · exact e
      · rcases List.mem_cons.1 (hp.mem_iff.2 (List.mem_cons_self ..)) with e | hy
        · exact e.symm
        · have h1 := b1 x hx
          have h2 := a1 y hy
          rw [hasym _ _ h1] at h2; cases h2
    subst hxy
    rw [sorted_unique hirr hasym ((List.perm_cons x).1 hp) a2 b2]
end Go.Proofs.Ytbijbohkpjnjnaa
