/- A one-to-one step on the numbers below N walks in cycles: the cycle of a number, and the cycles of all numbers in the order of their least members. No program in sight. -/
import Derived.Test.YtmkgdilabpehlaaPure
namespace Go.Proofs.Ytmkgdilabpehlaa
set_option linter.unusedSimpArgs false
set_option linter.unusedVariables false
def it (f : Nat → Nat) : Nat → Nat → Nat
  | 0, d => d
  | n + 1, d => f (it f n d)
theorem it_add (f : Nat → Nat) (m n d : Nat) : it f (m + n) d = it f m (it f n d) := by
  induction m with
  | zero => rw [Nat.zero_add]; rfl
  | succ m ih => rw [show m + 1 + n = (m + n) + 1 by omega]; show f (it f (m + n) d) = f (it f m (it f n d)); rw [ih]
theorem nodup_bound : ∀ (N : Nat) (l : List Nat), l.Nodup → (∀ x, x ∈ l → x < N) → l.length ≤ N
  | 0, l, _, h => by
    cases l with
    | nil => simp
    | cons a t => exact absurd (h a (List.mem_cons_self ..)) (by omega)
  | N + 1, l, hn, h => by
    have h1 := nodup_bound N (l.erase N) (hn.erase N) (fun x hx => by
      have := (hn.mem_erase_iff).1 hx
      have := h x this.2
      omega)
    have h2 : l.length ≤ (l.erase N).length + 1 := by
      rw [List.length_erase]; split <;> omega
    omega
/-- a one-to-one step on the numbers below N -/
structure Turns (f : Nat → Nat) (N : Nat) : Prop where
  lt : ∀ d, d < N → f d < N
  inj : ∀ d e, d < N → e < N → f d = f e → d = e
variable {f : Nat → Nat} {N : Nat}
theorem Turns.it_lt (h : Turns f N) {d : Nat} (hd : d < N) : ∀ n, it f n d < N
  | 0 => hd
  | n + 1 => h.lt _ (h.it_lt hd n)
theorem Turns.cancel (h : Turns f N) {d e : Nat} (hd : d < N) (he : e < N) : ∀ n, it f n d = it f n e → d = e
  | 0, e' => e'
  | n + 1, e' => h.cancel hd he n (h.inj _ _ (h.it_lt hd n) (h.it_lt he n) e')
theorem Turns.back (h : Turns f N) {d : Nat} (hd : d < N) : ∃ p, 1 ≤ p ∧ p ≤ N ∧ it f p d = d := by
  have hex : ∃ i j, i < j ∧ j ≤ N ∧ it f i d = it f j d := by
    apply Classical.byContradiction
    intro hno
    have hnd : ((List.range (N + 1)).map (fun i => it f i d)).Nodup := by
      unfold List.Nodup
      rw [List.pairwise_map, List.pairwise_iff_getElem]
      intro i j hi hj hij e
      simp only [List.getElem_range] at e
      exact hno ⟨i, j, hij, by simp at hj; omega, e⟩
    have := nodup_bound N _ hnd (fun x hx => by
      obtain ⟨i, _, rfl⟩ := List.mem_map.1 hx
      exact h.it_lt hd i)
    simp at this
    omega
  obtain ⟨i, j, hij, hj, e⟩ := hex
  refine ⟨j - i, by omega, by omega, ?_⟩
  have e2 : it f i (it f (j - i) d) = it f i d := by rw [← it_add, show i + (j - i) = j by omega]; exact e.symm
  exact h.cancel (h.it_lt hd _) hd i e2
/-- how many steps lead back -/
def per (f : Nat → Nat) (N d : Nat) : Nat := ((List.range N).find? (fun i => it f (i + 1) d == d)).getD 0 + 1
theorem Turns.per_law (h : Turns f N) {d : Nat} (hd : d < N) : 1 ≤ per f N d ∧ per f N d ≤ N ∧ it f (per f N d) d = d ∧ ∀ q, 0 < q → q < per f N d → it f q d ≠ d := by
  obtain ⟨p, h1, h2, h3⟩ := h.back hd
  unfold per
  cases hf : (List.range N).find? (fun i => it f (i + 1) d == d) with
  | none =>
    have := List.find?_eq_none.1 hf (p - 1) (by simp; omega)
    rw [show p - 1 + 1 = p by omega, h3] at this
    simp at this
  | some i =>
    rw [List.find?_range_eq_some] at hf
    obtain ⟨a, b, c⟩ := hf
    simp only [Option.getD_some]
    refine ⟨by omega, by simp at b; omega, by simpa using a, fun q hq hlt e => ?_⟩
    have := c (q - 1) (by omega)
    rw [show q - 1 + 1 = q by omega, e] at this
    simp at this
/-- the numbers that d's steps pass -/
def wk (f : Nat → Nat) (N d : Nat) : List Nat := (List.range (per f N d)).map fun i => it f i d
theorem wk_len (f : Nat → Nat) (N d : Nat) : (wk f N d).length = per f N d := by simp [wk]
theorem wk_get (f : Nat → Nat) (N d i : Nat) (hi : i < per f N d) : (wk f N d)[i]? = some (it f i d) := by simp [wk, hi]
theorem Turns.wk_lt (h : Turns f N) {d : Nat} (hd : d < N) {x : Nat} (hx : x ∈ wk f N d) : x < N := by
  obtain ⟨i, _, rfl⟩ := List.mem_map.1 hx
  exact h.it_lt hd i
theorem Turns.wk_nodup (h : Turns f N) {d : Nat} (hd : d < N) : (wk f N d).Nodup := by
  unfold wk List.Nodup
  rw [List.pairwise_map, List.pairwise_iff_getElem]
  intro i j hi hj hij e
  simp only [List.getElem_range] at e
  have hjp : j < per f N d := by simpa using hj
  refine (h.per_law hd).2.2.2 (j - i) (by omega) (by omega) (h.cancel (h.it_lt hd _) hd i ?_)
  rw [← it_add, show i + (j - i) = j by omega]; exact e.symm
theorem Turns.it_mod (h : Turns f N) {d : Nat} (hd : d < N) (n : Nat) : it f n d = it f (n % per f N d) d := by
  obtain ⟨h1, _, h3, _⟩ := h.per_law hd
  have key : ∀ k, it f (k * per f N d) d = d := by
    intro k
    induction k with
    | zero => rw [Nat.zero_mul]; rfl
    | succ k ih => rw [Nat.succ_mul, it_add, h3, ih]
  conv => lhs; rw [← Nat.mod_add_div n (per f N d), Nat.mul_comm, it_add, key]
theorem Turns.mem_wk (h : Turns f N) {d : Nat} (hd : d < N) (e : Nat) : e ∈ wk f N d ↔ ∃ n, e = it f n d := by
  constructor
  · intro hx
    obtain ⟨i, _, rfl⟩ := List.mem_map.1 hx
    exact ⟨i, rfl⟩
  · rintro ⟨n, rfl⟩
    rw [h.it_mod hd n]
    have h1 := (h.per_law hd).1
    exact List.mem_map.2 ⟨n % per f N d, by simpa using Nat.mod_lt _ (by omega), rfl⟩
theorem Turns.self_wk (h : Turns f N) {d : Nat} (hd : d < N) : d ∈ wk f N d := (h.mem_wk hd d).2 ⟨0, rfl⟩
theorem Turns.wk_next (h : Turns f N) {d : Nat} (hd : d < N) {i : Nat} (hi : i < per f N d) : (wk f N d)[(i + 1) % per f N d]? = some (f (it f i d)) := by
  have h1 := (h.per_law hd).1
  rw [wk_get _ _ _ _ (Nat.mod_lt _ (by omega)), ← h.it_mod hd]
  rfl
theorem Turns.wk_symm (h : Turns f N) {d e : Nat} (hd : d < N) (he : e ∈ wk f N d) : d ∈ wk f N e := by
  have hel := h.wk_lt hd he
  obtain ⟨i, hi, rfl⟩ := List.mem_map.1 he
  have hip : i < per f N d := by simpa using hi
  refine (h.mem_wk hel d).2 ⟨per f N d - i, ?_⟩
  rw [← it_add, show per f N d - i + i = per f N d by omega]
  exact (h.per_law hd).2.2.1.symm
theorem Turns.wk_trans (h : Turns f N) {d e x : Nat} (hd : d < N) (he : e ∈ wk f N d) (hx : x ∈ wk f N e) : x ∈ wk f N d := by
  have hel := h.wk_lt hd he
  obtain ⟨m, rfl⟩ := (h.mem_wk hel x).1 hx
  obtain ⟨n, rfl⟩ := (h.mem_wk hd e).1 he
  exact (h.mem_wk hd _).2 ⟨m + n, (it_add f m n d).symm⟩
theorem Turns.per_same (h : Turns f N) {d e : Nat} (hd : d < N) (he : e ∈ wk f N d) : per f N e = per f N d := by
  have hel := h.wk_lt hd he
  have one : ∀ {d e : Nat}, d < N → e ∈ wk f N d → per f N e ≤ per f N d := fun {d e} hd he => by
    have hel := h.wk_lt hd he
    have a := nodup_bound_sub (h.wk_nodup hel) (fun x hx => h.wk_trans hd he hx)
    rwa [wk_len, wk_len] at a
  exact Nat.le_antisymm (one hd he) (one hel (h.wk_symm hd he))
where
  nodup_bound_sub {a b : List Nat} (ha : a.Nodup) (hs : ∀ x, x ∈ a → x ∈ b) : a.length ≤ b.length := by
    induction a generalizing b with
    | nil => simp
    | cons x t ih =>
      have hx := hs x (List.mem_cons_self ..)
      have h1 := ih (b := b.erase x) (List.nodup_cons.1 ha).2 (fun y hy => by
        have hne : y ≠ x := fun e => (List.nodup_cons.1 ha).1 (e ▸ hy)
        exact (List.mem_erase_of_ne hne).2 (hs y (List.mem_cons_of_mem _ hy)))
      rw [List.length_erase_of_mem hx] at h1
      have : 0 < b.length := List.length_pos_of_mem hx
      simp; omega
/-! the cycles, in the order of their least members -/
def fc (f : Nat → Nat) (N : Nat) : Nat → List (List Nat)
  | 0 => []
  | n + 1 => if (fc f N n).any (·.contains n) = true then fc f N n else fc f N n ++ [wk f N n]
theorem fc_yes {n : Nat} (h : (fc f N n).any (·.contains n) = true) : fc f N (n + 1) = fc f N n := by rw [fc, if_pos h]
theorem fc_no {n : Nat} (h : (fc f N n).any (·.contains n) = false) : fc f N (n + 1) = fc f N n ++ [wk f N n] := by rw [fc, if_neg (by rw [h]; simp)]
theorem fc_len (f : Nat → Nat) (N : Nat) : ∀ n, (fc f N n).length ≤ n
  | 0 => by simp [fc]
  | n + 1 => by
    have := fc_len f N n
    unfold fc
    split
    · omega
    · simp; omega
theorem fc_any (f : Nat → Nat) (N n d : Nat) : (fc f N n).any (·.contains d) = true ↔ ∃ l, l ∈ fc f N n ∧ d ∈ l := by
  rw [List.any_eq_true]
  constructor
  · rintro ⟨l, h1, h2⟩; exact ⟨l, h1, by simpa using h2⟩
  · rintro ⟨l, h1, h2⟩; exact ⟨l, h1, by simpa using h2⟩
/-- each face is the cycle of a number -/
theorem fc_wk (f : Nat → Nat) (N : Nat) : ∀ n l, l ∈ fc f N n → ∃ d, d < n ∧ l = wk f N d
  | 0, l, h => by simp [fc] at h
  | n + 1, l, h => by
    cases hc : (fc f N n).any (·.contains n)
    · rw [fc_no hc, List.mem_append] at h
      rcases h with h | h
      · obtain ⟨d, h1, h2⟩ := fc_wk f N n l h
        exact ⟨d, by omega, h2⟩
      · exact ⟨n, by omega, by simpa using h⟩
    · rw [fc_yes hc] at h
      obtain ⟨d, h1, h2⟩ := fc_wk f N n l h
      exact ⟨d, by omega, h2⟩
theorem Turns.fc_all (h : Turns f N) : ∀ n, n ≤ N → ∀ d, d < n → ∃ l, l ∈ fc f N n ∧ d ∈ l
  | 0, _, d, hd => by omega
  | n + 1, hn, d, hd => by
    cases hc : (fc f N n).any (·.contains n)
    · rw [fc_no hc]
      by_cases e : d = n
      · subst e
        exact ⟨_, List.mem_append_right _ (List.mem_singleton.2 rfl), h.self_wk (by omega)⟩
      · obtain ⟨l, h1, h2⟩ := h.fc_all n (by omega) d (by omega)
        exact ⟨l, List.mem_append_left _ h1, h2⟩
    · rw [fc_yes hc]
      by_cases e : d = n
      · subst e
        exact (fc_any f N d d).1 hc
      · exact h.fc_all n (by omega) d (by omega)
/-- a number lies in one face -/
theorem Turns.fc_one (h : Turns f N) : ∀ n, n ≤ N → ∀ (i j : Nat) (l m : List Nat) (d : Nat), (fc f N n)[i]? = some l → (fc f N n)[j]? = some m → d ∈ l → d ∈ m → i = j
  | 0, _, i, j, l, m, d, hi, _, _, _ => by simp [fc] at hi
  | n + 1, hn, i, j, l, m, d, hi, hj, hl, hm => by
    cases hc : (fc f N n).any (·.contains n)
    · rw [fc_no hc] at hi hj
      have far : ∀ {i : Nat} {l : List Nat}, (fc f N n)[i]? = some l → d ∈ l → d ∈ wk f N n → False := fun {i l} hi hl hw => by
        obtain ⟨e, he, rfl⟩ := fc_wk f N n l (List.mem_of_getElem? hi)
        have h1 : n ∈ wk f N e := h.wk_trans (by omega) hl (h.wk_symm (by omega) hw)
        have : (fc f N n).any (·.contains n) = true := (fc_any f N n n).2 ⟨_, List.mem_of_getElem? hi, h1⟩
        rw [hc] at this; cases this
      have last : ∀ {i : Nat} {l : List Nat}, (fc f N n ++ [wk f N n])[i]? = some l → i < (fc f N n).length ∧ (fc f N n)[i]? = some l ∨ i = (fc f N n).length ∧ l = wk f N n := fun {i l} hi => by
        rcases Nat.lt_or_ge i (fc f N n).length with h' | h'
        · rw [List.getElem?_append_left h'] at hi; exact .inl ⟨h', hi⟩
        · rw [List.getElem?_append_right h'] at hi
          cases hk : i - (fc f N n).length with
          | zero => rw [hk] at hi; simp at hi; exact .inr ⟨by omega, hi.symm⟩
          | succ k => rw [hk] at hi; simp at hi
      rcases last hi with ⟨a1, a2⟩ | ⟨a1, rfl⟩ <;> rcases last hj with ⟨b1, b2⟩ | ⟨b1, rfl⟩
      · exact h.fc_one n (by omega) i j l m d a2 b2 hl hm
      · exact (far a2 hl hm).elim
      · exact (far b2 hm hl).elim
      · omega
    · rw [fc_yes hc] at hi hj
      exact h.fc_one n (by omega) i j l m d hi hj hl hm
end Go.Proofs.Ytmkgdilabpehlaa
