/- A one-to-one step on the numbers below N walks in cycles: the cycle of a number, and the cycles of all numbers in the order of their least members. No program in sight. -/
import Derived.Test.YtdhppajfdcfikaaPure
import Derived.Test.YtdhppajfdcfikaaM4
namespace Go.Proofs.Ytdhppajfdcfikaa
set_option linter.unusedSimpArgs false
set_option linter.unusedVariables false
def it (f : Nat → Nat) : Nat → Nat → Nat
  | 0, d => d
  | n + 1, d => f (it f n d)
theorem it_add (f : Nat → Nat) (m n d : Nat) : it f (m + n) d = it f m (it f n d) := by
  induction m with
  | zero => rw [Nat.zero_add]; rfl
  | succ m ih => rw [show m + 1 + n = (m + n) + 1 by omega]; show f (it f (m + n) d) = f (it f m (it f n d)); rw [ih]
theorem nodup_bound : ∀ (N : Nat) (l : List Nat), l.Nodup → (∀ x, x ∈ l → x < N) → l.length ≤ N
  | 0, l, _, h => by
    cases l with
    | nil => simp
    | cons a t => exact absurd (h a (List.mem_cons_self ..)) (by omega)
  | N + 1, l, hn, h => by
    have h1 := nodup_bound N (l.erase N) (hn.erase N) (fun x hx => by
      have := (hn.mem_erase_iff).1 hx
      have := h x this.2
      omega)
    have h2 : l.length ≤ (l.erase N).length + 1 := by
      rw [List.length_erase]; split <;> omega
    omega
/-- a one-to-one step on the numbers below N -/
structure Turns (f : Nat → Nat) (N : Nat) : Prop where
  lt : ∀ d, d < N → f d < N
  inj : ∀ d e, d < N → e < N → f d = f e → d = e
variable {f : Nat → Nat} {N : Nat}
theorem Turns.it_lt (h : Turns f N) {d : Nat} (hd : d < N) : ∀ n, it f n d < N
  | 0 => hd
  | n + 1 => h.lt _ (h.it_lt hd n)
theorem Turns.cancel (h : Turns f N) {d e : Nat} (hd : d < N) (he : e < N) : ∀ n, it f n d = it f n e → d = e
  | 0, e' => e'
  | n + 1, e' => h.cancel hd he n (h.inj _ _ (h.it_lt hd n) (h.it_lt he n) e')
theorem Turns.back (h : Turns f N) {d : Nat} (hd : d < N) : ∃ p, 1 ≤ p ∧ p ≤ N ∧ it f p d = d := by
  have hex : ∃ i j, i < j ∧ j ≤ N ∧ it f i d = it f j d := by
    apply Classical.byContradiction
    intro hno
    have hnd : ((List.range (N + 1)).map (fun i => it f i d)).Nodup := by
      unfold List.Nodup
      rw [List.pairwise_map, List.pairwise_iff_getElem]
      intro i j hi hj hij e
      simp only [List.getElem_range] at e
      exact hno ⟨i, j, hij, by simp at hj; omega, e⟩
    have := nodup_bound N _ hnd (fun x hx => by
      obtain ⟨i, _, rfl⟩ := List.mem_map.1 hx
      exact h.it_lt hd i)
    simp at this
    omega
  obtain ⟨i, j, hij, hj, e⟩ := hex
  refine ⟨j - i, by omega, by omega, ?_⟩
  have e2 : it f i (it f (j - i) d) = it f i d := by rw [← it_add, show i + (j - i) = j by omega]; exact e.symm
  exact h.cancel (h.it_lt hd _) hd i e2
/-- how many steps lead back -/
def per (f : Nat → Nat) (N d : Nat) : Nat := ((List.range N).find? (fun i => it f (i + 1) d == d)).getD 0 + 1
theorem Turns.per_law (h : Turns f N) {d : Nat} (hd : d < N) : 1 ≤ per f N d ∧ per f N d ≤ N ∧ it f (per f N d) d = d ∧ ∀ q, 0 < q → q < per f N d → it f q d ≠ d := by
  obtain ⟨p, h1, h2, h3⟩ := h.back hd
  unfold per
  cases hf : (List.range N).find? (fun i => it f (i + 1) d == d) with
  | none =>
    have := List.find?_eq_none.1 hf (p - 1) (by simp; omega)
    rw [show p - 1 + 1 = p by omega, h3] at this
    simp at this
  | some i =>
    rw [List.find?_range_eq_some] at hf
    obtain ⟨a, b, c⟩ := hf
    simp only [Option.getD_some]
    refine ⟨by omega, by simp at b; omega, by simpa using a, fun q hq hlt e => ?_⟩
    have := c (q - 1) (by omega)
    rw [show q - 1 + 1 = q by omega, e] at this
    simp at this
/-- the numbers that d's steps pass -/
def wk (f : Nat → Nat) (N d : Nat) : List Nat := (List.range (per f N d)).map fun i => it f i d
theorem wk_len (f : Nat → Nat) (N d : Nat) : (wk f N d).length = per f N d := by simp [wk]
theorem wk_get (f : Nat → Nat) (N d i : Nat) (hi : i < per f N d) : (wk f N d)[i]? = some (it f i d) := by simp [wk, hi]
theorem Turns.wk_lt (h : Turns f N) {d : Nat} (hd : d < N) {x : Nat} (hx : x ∈ wk f N d) : x < N := by
  obtain ⟨i, _, rfl⟩ := List.mem_map.1 hx
  exact h.it_lt hd i
theorem Turns.wk_nodup (h : Turns f N) {d : Nat} (hd : d < N) : (wk f N d).Nodup := by
  unfold wk List.Nodup
  rw [List.pairwise_map, List.pairwise_iff_getElem]
  intro i j hi hj hij e
  simp only [List.getElem_range] at e
  have hjp : j < per f N d := by simpa using hj
  refine (h.per_law hd).2.2.2 (j - i) (by omega) (by omega) (h.cancel (h.it_lt hd _) hd i ?_)
  rw [← it_add, show i + (j - i) = j by omega]; exact e.symm
theorem Turns.it_mod (h : Turns f N) {d : Nat} (hd : d < N) (n : Nat) : it f n d = it f (n % per f N d) d := by
  obtain ⟨h1, _, h3, _⟩ := h.per_law hd
  have key : ∀ k, it f (k * per f N d) d = d := by
    intro k
    induction k with
    | zero => rw [Nat.zero_mul]; rfl
    | succ k ih => rw [Nat.succ_mul, it_add, h3, ih]
  conv => lhs; rw [← Nat.mod_add_div n (per f N d), Nat.mul_comm, it_add, key]
theorem Turns.mem_wk (h : Turns f N) {d : Nat} (hd : d < N) (e : Nat) : e ∈ wk f N d ↔ ∃ n, e = it f n d := by
  constructor
  · intro hx
    obtain ⟨i, _, rfl⟩ := List.mem_map.1 hx
    exact ⟨i, rfl⟩
  · rintro ⟨n, rfl⟩
    rw [h.it_mod hd n]
    have h1 := (h.per_law hd).1
    exact List.mem_map.2 ⟨n % per f N d, by simpa using Nat.mod_lt _ (by omega), rfl⟩
theorem Turns.self_wk (h : Turns f N) {d : Nat} (hd : d < N) : d ∈ wk f N d := (h.mem_wk hd d).2 ⟨0, rfl⟩
theorem Turns.wk_next (h : Turns f N) {d : Nat} (hd : d < N) {i : Nat} (hi : i < per f N d) : (wk f N d)[(i + 1) % per f N d]? = some (f (it f i d)) := by
  have h1 := (h.per_law hd).1
  rw [wk_get _ _ _ _ (Nat.mod_lt _ (by omega)), ← h.it_mod hd]
  rfl
theorem Turns.wk_symm (h : Turns f N) {d e : Nat} (hd : d < N) (he : e ∈ wk f N d) : d ∈ wk f N e := by
  have hel := h.wk_lt hd he
  obtain ⟨i, hi, rfl⟩ := List.mem_map.1 he
  have hip : i < per f N d := by simpa using hi
  refine (h.mem_wk hel d).2 ⟨per f N d - i, ?_⟩
  rw [← it_add, show per f N d - i + i = per f N d by omega]
  exact (h.per_law hd).2.2.1.symm
theorem Turns.wk_trans (h : Turns f N) {d e x : Nat} (hd : d < N) (he : e ∈ wk f N d) (hx : x ∈ wk f N e) : x ∈ wk f N d := by
  have hel := h.wk_lt hd he
  obtain ⟨m, rfl⟩ := (h.mem_wk hel x).1 hx
  obtain ⟨n, rfl⟩ := (h.mem_wk hd e).1 he
  exact (h.mem_wk hd _).2 ⟨m + n, (it_add f m n d).symm⟩
theorem Turns.per_same (h : Turns f N) {d e : Nat} (hd : d < N) (he : e ∈ wk f N d) : per f N e = per f N d := by
  have hel := h.wk_lt hd he
  have one : ∀ {d e : Nat}, d < N → e ∈ wk f N d → per f N e ≤ per f N d := fun {d e} hd he => by
    have hel := h.wk_lt hd he
    have a := nodup_bound_sub (h.wk_nodup hel) (fun x hx => h.wk_trans hd he hx)
    rwa [wk_len, wk_len] at a
  exact Nat.le_antisymm (one hd he) (one hel (h.wk_symm hd he))
where
  nodup_bound_sub {a b : List Nat} (ha : a.Nodup) (hs : ∀ x, x ∈ a → x ∈ b) : a.length ≤ b.length := by
    induction a generalizing b with
    | nil => simp
    | cons x t ih =>
      have hx := hs x (List.mem_cons_self ..)
      have h1 := ih (b := b.erase x) (List.nodup_cons.1 ha).2 (fun y hy => by
        have hne : y ≠ x := fun e => (List.nodup_cons.1 ha).1 (e ▸ hy)
        exact (List.mem_erase_of_ne hne).2 (hs y (List.mem_cons_of_mem _ hy)))
      rw [List.length_erase_of_mem hx] at h1
      have : 0 < b.length := List.length_pos_of_mem hx
      simp; omega
/-! the cycles, in the order of their least members -/
def fc (f : Nat → Nat) (N : Nat) : Nat → List (List Nat)
  | 0 => []
  | n + 1 => if (fc f N n).any (·.contains n) = true then fc f N n else fc f N n ++ [wk f N n]
theorem fc_yes {n : Nat} (h : (fc f N n).any (·.contains n) = true) : fc f N (n + 1) = fc f N n := by rw [fc, if_pos h]
theorem fc_no {n : Nat} (h : (fc f N n).any (·.contains n) = false) : fc f N (n + 1) = fc f N n ++ [wk f N n] := by rw [fc, if_neg (by rw [h]; simp)]
theorem fc_len (f : Nat → Nat) (N : Nat) : ∀ n, (fc f N n).length ≤ n
  | 0 => by simp [fc]
  | n + 1 => by
    have := fc_len f N n
    unfold fc
    split
    · omega
    · simp; omega
theorem fc_any (f : Nat → Nat) (N n d : Nat) : (fc f N n).any (·.contains d) = true ↔ ∃ l, l ∈ fc f N n ∧ d ∈ l := by
  rw [List.any_eq_true]
  constructor
  · rintro ⟨l, h1, h2⟩; exact ⟨l, h1, by simpa using h2⟩
  · rintro ⟨l, h1, h2⟩; exact ⟨l, h1, by simpa using h2⟩
/-- each face is the cycle of a number -/
theorem fc_wk (f : Nat → Nat) (N : Nat) : ∀ n l, l ∈ fc f N n → ∃ d, d < n ∧ l = wk f N d
  | 0, l, h => by simp [fc] at h
  | n + 1, l, h => by
    cases hc : (fc f N n).any (·.contains n)
    · rw [fc_no hc, List.mem_append] at h
      rcases h with h | h
      · obtain ⟨d, h1, h2⟩ := fc_wk f N n l h
        exact ⟨d, by omega, h2⟩
      · exact ⟨n, by omega, by simpa using h⟩
    · rw [fc_yes hc] at h
      obtain ⟨d, h1, h2⟩ := fc_wk f N n l h
      exact ⟨d, by omega, h2⟩
theorem Turns.fc_all (h : Turns f N) : ∀ n, n ≤ N → ∀ d, d < n → ∃ l, l ∈ fc f N n ∧ d ∈ l
  | 0, _, d, hd => by omega
  | n + 1, hn, d, hd => by
    cases hc : (fc f N n).any (·.contains n)
    · rw [fc_no hc]
      by_cases e : d = n
      · subst e
        exact ⟨_, List.mem_append_right _ (List.mem_singleton.2 rfl), h.self_wk (by omega)⟩
      · obtain ⟨l, h1, h2⟩ := h.fc_all n (by omega) d (by omega)
        exact ⟨l, List.mem_append_left _ h1, h2⟩
    · rw [fc_yes hc]
      by_cases e : d = n
      · subst e
        exact (fc_any f N d d).1 hc
      · exact h.fc_all n (by omega) d (by omega)
/-- a number lies in one face -/
theorem Turns.fc_one (h : Turns f N) : ∀ n, n ≤ N → ∀ (i j : Nat) (l m : List Nat) (d : Nat), (fc f N n)[i]? = some l → (fc f N n)[j]? = some m → d ∈ l → d ∈ m → i = j
  | 0, _, i, j, l, m, d, hi, _, _, _ => by simp [fc] at hi
  | n + 1, hn, i, j, l, m, d, hi, hj, hl, hm => by
    cases hc : (fc f N n).any (·.contains n)
    · rw [fc_no hc] at hi hj
      have far : ∀ {i : Nat} {l : List Nat}, (fc f N n)[i]? = some l → d ∈ l → d ∈ wk f N n → False := fun {i l} hi hl hw => by
        obtain ⟨e, he, rfl⟩ := fc_wk f N n l (List.mem_of_getElem? hi)
        have h1 : n ∈ wk f N e := h.wk_trans (by omega) hl (h.wk_symm (by omega) hw)
        have : (fc f N n).any (·.contains n) = true := (fc_any f N n n).2 ⟨_, List.mem_of_getElem? hi, h1⟩
        rw [hc] at this; cases this
      have last : ∀ {i : Nat} {l : List Nat}, (fc f N n ++ [wk f N n])[i]? = some l → i < (fc f N n).length ∧ (fc f N n)[i]? = some l ∨ i = (fc f N n).length ∧ l = wk f N n := fun {i l} hi => by
        rcases Nat.lt_or_ge i (fc f N n).length with h' | h'
        · rw [List.getElem?_append_left h'] at hi; exact .inl ⟨h', hi⟩
        · rw [List.getElem?_append_right h'] at hi
          cases hk : i - (fc f N n).length with
          | zero => rw [hk] at hi; simp at hi; exact .inr ⟨by omega, hi.symm⟩
          | succ k => rw [hk] at hi; simp at hi
      rcases last hi with ⟨a1, a2⟩ | ⟨a1, rfl⟩ <;> rcases last hj with ⟨b1, b2⟩ | ⟨b1, rfl⟩
      · exact h.fc_one n (by omega) i j l m d a2 b2 hl hm
      · exact (far a2 hl hm).elim
      · exact (far b2 hm hl).elim
      · omega
    · rw [fc_yes hc] at hi hj
      exact h.fc_one n (by omega) i j l m d hi hj hl hm
end Go.Proofs.Ytdhppajfdcfikaa

/- The step from a dart to the next one along a face is one-to-one. No program in sight. -/
namespace Go.Proofs.Ytdhppajfdcfikaa
set_option linter.unusedSimpArgs false
set_option linter.unusedVariables false
def nxN (ns ls : List (Int × Int)) (d : Nat) : Nat := (nxF ns ls d).toNat
theorem nodup_inj {l : List Int} (h : l.Nodup) {i j : Nat} {x : Int} (hi : l[i]? = some x) (hj : l[j]? = some x) : i = j := by
  have key : ∀ {i j : Nat}, l[i]? = some x → l[j]? = some x → i < j → False := fun {i j} hi hj hij => by
    have li : i < l.length := by
      rcases Nat.lt_or_ge i l.length with h' | h'
      · exact h'
      · rw [List.getElem?_eq_none h'] at hi; cases hi
    have lj : j < l.length := by
      rcases Nat.lt_or_ge j l.length with h' | h'
      · exact h'
      · rw [List.getElem?_eq_none h'] at hj; cases hj
    have := List.pairwise_iff_getElem.1 h i j li lj hij
    rw [List.getElem?_eq_getElem li] at hi
    rw [List.getElem?_eq_getElem lj] at hj
    exact this ((Option.some.inj hi).trans (Option.some.inj hj).symm)
  rcases Nat.lt_trichotomy i j with h1 | h1 | h1
  · exact (key hi hj h1).elim
  · exact h1
  · exact (key hj hi h1).elim
theorem idx_get {l : List Int} {t : Int} (ht : t ∈ l) : l[l.idxOf t]? = some t := by
  rw [List.getElem?_eq_getElem (List.idxOf_lt_length_of_mem ht), List.getElem_idxOf]
theorem bes_get {l : List Int} {t : Int} (ht : t ∈ l) (up : Bool) : l[turnI l.length (l.idxOf t) up]? = some (besL l t up) := by
  have hlt := turn_lt l.length (l.idxOf t) up (List.idxOf_lt_length_of_mem ht)
  unfold besL
  rw [List.getD_eq_getElem?_getD, List.getElem?_eq_getElem hlt]; rfl
theorem bes_mem {l : List Int} {t : Int} (ht : t ∈ l) (up : Bool) : besL l t up ∈ l := List.mem_of_getElem? (bes_get ht up)
theorem turnI_false (n i : Nat) (h : i < n) : turnI n i false = if i = 0 then n - 1 else i - 1 := by
  unfold turnI
  rw [if_neg (by simp)]
  split
  · rename_i e
    subst e
    rw [Nat.zero_add]; exact Nat.mod_eq_of_lt (by omega)
  · rw [show i + n - 1 = i - 1 + n by omega, Nat.add_mod_right]; exact Nat.mod_eq_of_lt (by omega)
theorem bes_inj {l : List Int} (hn : l.Nodup) {s t : Int} (hs : s ∈ l) (ht : t ∈ l) (e : besL l s false = besL l t false) : s = t := by
  have a := bes_get hs false
  have b := bes_get ht false
  rw [e] at a
  have hi := nodup_inj hn a b
  have li := List.idxOf_lt_length_of_mem hs
  have lj := List.idxOf_lt_length_of_mem ht
  rw [turnI_false _ _ li, turnI_false _ _ lj] at hi
  have : l.idxOf s = l.idxOf t := by
    split at hi <;> split at hi <;> omega
  have a := idx_get hs
  have b := idx_get ht
  rw [this, b] at a
  exact (Option.some.inj a).symm
/-- what the next dart is -/
theorem next_is {ns ls : List (Int × Int)} (F : WinFacts ns ls) {d : Nat} (hd : d < 2 * ls.length) : ∃ e : Nat, nxF ns ls d = (e : Int) ∧ nxN ns ls d = e ∧ e < 2 * ls.length ∧ dFrom ls (e : Int) = dTo ls (d : Int) := by
  have ht := twN_lt hd
  have hm := bes_mem (around_has (ns := ns) ht) false
  have he : nxF ns ls d = besL (aroundF ns ls (dFrom ls ((twN d : Nat) : Int))) ((twN d : Nat) : Int) false := rfl
  rw [← he] at hm
  obtain ⟨e, h1, h2, h3⟩ := (mem_around ns ls _ _).1 hm
  refine ⟨e, h2, by unfold nxN; rw [h2]; rfl, h1, ?_⟩
  rw [h3, ← dTo_eq ls (d : Int) (by omega)]
  unfold twN
  congr 1
  by_cases q : d % 2 = 0
  · rw [if_pos q, if_pos (by omega)]; rfl
  · rw [if_neg q, if_neg (by omega)]; omega
theorem twN_inj {d e : Nat} (h : twN d = twN e) : d = e := by
  unfold twN at h
  split at h <;> split at h <;> omega
theorem next_turns {ns ls : List (Int × Int)} (F : WinFacts ns ls) : Turns (nxN ns ls) (2 * ls.length) where
  lt d hd := by
    obtain ⟨e, _, h, h1, _⟩ := next_is F hd
    rw [h]; exact h1
  inj d d' hd hd' h := by
    obtain ⟨e, e1, e2, e3, e4⟩ := next_is F hd
    obtain ⟨e', e1', e2', e3', e4'⟩ := next_is F hd'
    have hee : e = e' := by rw [← e2, ← e2']; exact h
    subst hee
    have ht := twN_lt hd
    have ht' := twN_lt hd'
    have hk : dFrom ls ((twN d : Nat) : Int) = dFrom ls ((twN d' : Nat) : Int) := by
      have a : ∀ {d : Nat}, d < 2 * ls.length → dFrom ls ((twN d : Nat) : Int) = dTo ls (d : Int) := fun {d} hd => by
        rw [← dTo_eq ls (d : Int) (by omega)]
        unfold twN
        congr 1
        by_cases q : d % 2 = 0
        · rw [if_pos q, if_pos (by omega)]; rfl
        · rw [if_neg q, if_neg (by omega)]; omega
      rw [a hd, a hd', ← e4, ← e4']
    have hb : besL (aroundF ns ls (dFrom ls ((twN d : Nat) : Int))) ((twN d : Nat) : Int) false = besL (aroundF ns ls (dFrom ls ((twN d : Nat) : Int))) ((twN d' : Nat) : Int) false := by
      have a1 : besL (aroundF ns ls (dFrom ls ((twN d : Nat) : Int))) ((twN d : Nat) : Int) false = (e : Int) := e1
      have a2 : besL (aroundF ns ls (dFrom ls ((twN d' : Nat) : Int))) ((twN d' : Nat) : Int) false = (e : Int) := e1'
      rw [a1, hk, a2]
    have m1 := around_has (ns := ns) ht
    have m2 := around_has (ns := ns) ht'
    rw [← hk] at m2
    have := bes_inj (around_nodup ns ls _) m1 m2 hb
    exact twN_inj (by omega)
/-- the walk of a dart, as ints -/
def walkI (ns ls : List (Int × Int)) (d : Nat) : List Int := (wk (nxN ns ls) (2 * ls.length) d).map fun n : Nat => (n : Int)
def woF (ns ls : List (Int × Int)) (d : Int) : List Int := if isDart ns ls d = true then walkI ns ls d.toNat else []
theorem walkI_len (ns ls : List (Int × Int)) (d : Nat) : (walkI ns ls d).length = per (nxN ns ls) (2 * ls.length) d := by simp [walkI, wk_len]
end Go.Proofs.Ytdhppajfdcfikaa

/- The plain law of plane drawings: of the closed walks round the faces of a drawing that hangs together, just those that pass the outer dart have an area that is not positive. Winding numbers, strip by strip. No program in sight. -/
namespace Go.Proofs.Ytdhppajfdcfikaa
set_option linter.unusedSimpArgs false
set_option linter.unusedVariables false
set_option linter.unusedSectionVars false
section
variable {f : Nat → Nat} {N : Nat}
/-! sums over the numbers below n -/
def sm (n : Nat) (f : Nat → Int) : Int := ((List.range n).map f).sum
theorem sm_zero (f : Nat → Int) : sm 0 f = 0 := rfl
theorem sm_succ (n : Nat) (f : Nat → Int) : sm (n + 1) f = sm n f + f n := by
  unfold sm; rw [List.range_succ, List.map_append, List.sum_append]; simp
theorem sm_congr {n : Nat} {f g : Nat → Int} (h : ∀ i, i < n → f i = g i) : sm n f = sm n g := by
  induction n with
  | zero => rfl
  | succ n ih => rw [sm_succ, sm_succ, ih fun i hi => h i (by omega), h n (by omega)]
theorem sm_add (n : Nat) (f g : Nat → Int) : sm n (fun i => f i + g i) = sm n f + sm n g := by
  induction n with
  | zero => rfl
  | succ n ih => rw [sm_succ, sm_succ, sm_succ, ih]; omega
theorem sm_neg (n : Nat) (f : Nat → Int) : sm n (fun i => -f i) = -sm n f := by
  induction n with
  | zero => rfl
  | succ n ih => rw [sm_succ, sm_succ, ih]; omega
theorem sm_sub (n : Nat) (f g : Nat → Int) : sm n (fun i => f i - g i) = sm n f - sm n g := by
  induction n with
  | zero => rfl
  | succ n ih => rw [sm_succ, sm_succ, sm_succ, ih]; omega
theorem sm_mul (n : Nat) (c : Int) (f : Nat → Int) : sm n (fun i => c * f i) = c * sm n f := by
  induction n with
  | zero => simp [sm_zero]
  | succ n ih => rw [sm_succ, sm_succ, ih, Int.mul_add]
theorem sm_nil {n : Nat} {f : Nat → Int} (h : ∀ i, i < n → f i = 0) : sm n f = 0 := by
  induction n with
  | zero => rfl
  | succ n ih => rw [sm_succ, ih fun i hi => h i (by omega), h n (by omega)]; rfl
theorem sm_one {n : Nat} {f : Nat → Int} (k : Nat) (hk : k < n) (h : ∀ i, i < n → i ≠ k → f i = 0) : sm n f = f k := by
  induction n with
  | zero => omega
  | succ n ih =>
    rw [sm_succ]
    by_cases e : k = n
    · subst e; rw [sm_nil fun i hi => h i (by omega) (by omega)]; omega
    · rw [ih (by omega) fun i hi hne => h i (by omega) hne, h n (by omega) (by omega)]; omega
theorem sm_pos {n : Nat} {f : Nat → Int} (h : ∀ i, i < n → 0 ≤ f i) : 0 ≤ sm n f := by
  induction n with
  | zero => simp [sm_zero]
  | succ n ih => rw [sm_succ]; have := ih fun i hi => h i (by omega); have := h n (by omega); omega
theorem perm_sum {l m : List Int} (h : l.Perm m) : l.sum = m.sum := by
  induction h with
  | nil => rfl
  | cons x _ ih => simp [ih]
  | swap x y l => simp; omega
  | trans _ _ h1 h2 => exact h1.trans h2
theorem Turns.perm (h : Turns f N) : ((List.range N).map f).Perm (List.range N) := by
  refine (List.perm_ext_iff_of_nodup ?_ List.nodup_range).2 fun a => ?_
  · unfold List.Nodup
    rw [List.pairwise_map, List.pairwise_iff_getElem]
    intro i j hi hj hij e
    simp only [List.getElem_range] at e
    simp at hi hj
    have := h.inj _ _ hi hj e
    omega
  · simp only [List.mem_map, List.mem_range]
    constructor
    · rintro ⟨d, hd, rfl⟩; exact h.lt d hd
    · intro ha
      obtain ⟨p, h1, _, h3⟩ := h.back ha
      refine ⟨it f (p - 1) a, h.it_lt ha _, ?_⟩
      have : it f (p - 1 + 1) a = a := by rw [show p - 1 + 1 = p by omega]; exact h3
      exact this
theorem sm_turns (h : Turns f N) (g : Nat → Int) : sm N (fun i => g (f i)) = sm N g := by
  unfold sm
  have e : (List.range N).map (fun i => g (f i)) = ((List.range N).map f).map g := by rw [List.map_map]; rfl
  rw [e]
  exact perm_sum (h.perm.map g)
end
/-! a weighted sum of heights, where the partial sums of the weights are not negative -/
def upTo (l : List (Rat × Int)) (h : Rat) : Int := (l.map fun p => if p.1 ≤ h then p.2 else 0).sum
def wsum (l : List (Rat × Int)) (Y : Rat) : Rat := (l.map fun p => (p.2 : Rat) * (Y - p.1)).sum
theorem wsum_cons (p : Rat × Int) (l : List (Rat × Int)) (Y : Rat) : wsum (p :: l) Y = (p.2 : Rat) * (Y - p.1) + wsum l Y := by simp [wsum]
theorem upTo_cons (p : Rat × Int) (l : List (Rat × Int)) (h : Rat) : upTo (p :: l) h = (if p.1 ≤ h then p.2 else 0) + upTo l h := by simp [upTo]
theorem wsum_shift (l : List (Rat × Int)) (Y Z : Rat) : wsum l Y = wsum l Z + (Y - Z) * ((l.map (·.2)).sum : Int) := by
  induction l with
  | nil => simp [wsum]; grind
  | cons p t ih =>
    rw [wsum_cons, wsum_cons, ih]
    simp only [List.map_cons, List.sum_cons, Rat.intCast_add]
    grind
theorem upTo_all (l : List (Rat × Int)) (Y : Rat) (h : ∀ p, p ∈ l → p.1 ≤ Y) : upTo l Y = (l.map (·.2)).sum := by
  unfold upTo
  congr 1
  exact List.map_congr_left fun p hp => by rw [if_pos (h p hp)]
theorem exists_top : ∀ (l : List (Rat × Int)), l ≠ [] → ∃ p, p ∈ l ∧ ∀ q, q ∈ l → q.1 ≤ p.1
  | [], h => absurd rfl h
  | [p], _ => ⟨p, by simp, by simp⟩
  | p :: q :: t, _ => by
    obtain ⟨r, h1, h2⟩ := exists_top (q :: t) (by simp)
    rcases Rat.le_total (a := p.1) (b := r.1) with h | h
    · exact ⟨r, List.mem_cons_of_mem _ h1, fun x hx => by
        rcases List.mem_cons.1 hx with rfl | hx
        · exact h
        · exact h2 x hx⟩
    · exact ⟨p, List.mem_cons_self .., fun x hx => by
        rcases List.mem_cons.1 hx with rfl | hx
        · exact Rat.le_refl
        · exact Rat.le_trans (h2 x hx) h⟩
theorem wsum_below (l : List (Rat × Int)) (Y : Rat) (h : ∀ p, p ∈ l → p.1 ≤ Y) : wsum l Y = wsum (l.filter fun p => decide (p.1 < Y)) Y := by
  induction l with
  | nil => rfl
  | cons p t ih =>
    rw [wsum_cons, ih fun q hq => h q (List.mem_cons_of_mem _ hq)]
    by_cases e : p.1 < Y
    · rw [List.filter_cons_of_pos (by simpa using e), wsum_cons]
    · rw [List.filter_cons_of_neg (by simpa using e)]
      have := h p (List.mem_cons_self ..)
      have : Y - p.1 = 0 := by grind
      rw [this]; grind
theorem upTo_below (l : List (Rat × Int)) (Y h : Rat) (hh : h < Y) : upTo (l.filter fun p => decide (p.1 < Y)) h = upTo l h := by
  induction l with
  | nil => rfl
  | cons p t ih =>
    by_cases e : p.1 < Y
    · rw [List.filter_cons_of_pos (by simpa using e), upTo_cons, upTo_cons, ih]
    · rw [List.filter_cons_of_neg (by simpa using e), upTo_cons, ih, if_neg (by grind)]; omega
theorem abel : ∀ (n : Nat) (l : List (Rat × Int)), l.length ≤ n → (∀ p, p ∈ l → 0 ≤ upTo l p.1) → ∀ Y, (∀ p, p ∈ l → p.1 ≤ Y) → 0 ≤ wsum l Y ∧ ((∃ p, p ∈ l ∧ 1 ≤ upTo l p.1 ∧ p.1 < Y) → 0 < wsum l Y)
  | 0, l, hn, _, Y, _ => by
    have : l = [] := List.length_eq_zero_iff.1 (by omega)
    subst this
    exact ⟨by simp [wsum], by rintro ⟨p, h, _⟩; simp at h⟩
  | n + 1, l, hn, hS, Y, hY => by
    by_cases hl : l = []
    · subst hl
      exact ⟨by simp [wsum], by rintro ⟨p, h, _⟩; simp at h⟩
    · obtain ⟨t, ht, htop⟩ := exists_top l hl
      have e := wsum_shift l Y t.1
      rw [wsum_below l t.1 htop] at e
      have hlen : (l.filter fun p => decide (p.1 < t.1)).length ≤ n := by
        have := List.length_filter_lt_length_iff_exists.2 (show ∃ x ∈ l, ¬ (decide (x.1 < t.1)) = true from ⟨t, ht, by simp⟩)
        omega
      have hm : ∀ p, p ∈ l.filter (fun p => decide (p.1 < t.1)) → p ∈ l ∧ p.1 < t.1 := fun p hp => by simpa using hp
      obtain ⟨i1, i2⟩ := abel n (l.filter fun p => decide (p.1 < t.1)) hlen (fun p hp => by
        rw [upTo_below _ _ _ (hm p hp).2]; exact hS p (hm p hp).1) t.1 (fun p hp => Rat.le_of_lt (hm p hp).2)
      have hc := hS t ht
      rw [upTo_all l t.1 htop] at hc
      have hYt := hY t ht
      have hc' : (0 : Rat) ≤ ((l.map (·.2)).sum : Int) := by exact_mod_cast hc
      have hm0 : (0 : Rat) ≤ (Y - t.1) * ((l.map (·.2)).sum : Int) := Rat.mul_nonneg (by grind) hc'
      refine ⟨by grind, ?_⟩
      rintro ⟨p, hp, h1, h2⟩
      by_cases hpt : p.1 < t.1
      · have := i2 ⟨p, by simp [hp, hpt], by rw [upTo_below _ _ _ hpt]; exact h1, hpt⟩
        grind
      · have hpe : p.1 = t.1 := by have := htop p hp; grind
        rw [hpe, upTo_all l t.1 htop] at h1
        have h1' : (0 : Rat) < ((l.map (·.2)).sum : Int) := by exact_mod_cast (show (0 : Int) < _ by omega)
        have := Rat.mul_pos (show (0 : Rat) < Y - t.1 by grind) h1'
        grind
/-! a plane graph: darts, their ends, the sweep coordinate s and the other one t -/
structure Pl where
  M : Nat
  fr : Nat → Nat
  tx : Nat → Nat
  tw : Nat → Nat
  nx : Nat → Nat
  s : Nat → Int
  t : Nat → Int
def ind (p : Prop) [Decidable p] : Int := if p then 1 else 0
namespace Pl
variable (G : Pl)
/-- the height of the lead of dart d over the place x -/
def lin (d : Nat) (x : Rat) : Rat := (G.t (G.fr d) : Rat) + ((G.t (G.tx d) : Rat) - (G.t (G.fr d) : Rat)) * (x - (G.s (G.fr d) : Rat)) / ((G.s (G.tx d) : Rat) - (G.s (G.fr d) : Rat))
def mid (k : Int) : Rat := (k : Rat) + 1 / 2
def dirs (k : Int) (d : Nat) : Int := ind (G.s (G.fr d) ≤ k) - ind (G.s (G.tx d) ≤ k)
def fwd (d : Nat) : Prop := G.s (G.fr d) < G.s (G.tx d)
instance (d : Nat) : Decidable (G.fwd d) := inferInstanceAs (Decidable (_ < _))
def under (k : Int) (x d : Nat) : Prop := G.lin x (mid k) < G.lin d (mid k)
instance (k : Int) (x d : Nat) : Decidable (G.under k x d) := inferInstanceAs (Decidable (_ < _))
/-- x counts below the left side of d in strip k -/
def cnt (k : Int) (d x : Nat) : Prop := if G.fwd d then ¬ G.under k d x else G.under k x d
instance (k : Int) (d x : Nat) : Decidable (G.cnt k d x) := by unfold cnt; infer_instance
/-- how often a set of closed walks winds around the left side of dart d in strip k -/
def L (c : Nat → Bool) (d : Nat) (k : Int) : Int := sm G.M fun x => if c x = true ∧ G.cnt k d x then G.dirs k x else 0
/-- the strip beside the node from which d goes -/
def st (d : Nat) : Int := if G.fwd d then G.s (G.fr d) else G.s (G.fr d) - 1
def spans (k : Int) (d : Nat) : Prop := (G.s (G.fr d) ≤ k ∧ k < G.s (G.tx d)) ∨ (G.s (G.tx d) ≤ k ∧ k < G.s (G.fr d))
structure Ok (bef : Nat → Nat → Prop) : Prop where
  tw_lt : ∀ d, d < G.M → G.tw d < G.M
  tw_tw : ∀ d, d < G.M → G.tw (G.tw d) = d
  fr_tw : ∀ d, d < G.M → G.fr (G.tw d) = G.tx d
  to_tw : ∀ d, d < G.M → G.tx (G.tw d) = G.fr d
  ne : ∀ d, d < G.M → G.s (G.fr d) ≠ G.s (G.tx d)
  inj : ∀ d e, d < G.M → e < G.M → G.s (G.fr d) = G.s (G.fr e) → G.fr d = G.fr e
  turns : Turns G.nx G.M
  nx_fr : ∀ d, d < G.M → G.fr (G.nx d) = G.tx d
  asym : ∀ d e, bef d e → ¬ bef e d
  total : ∀ d e, d < G.M → e < G.M → G.fr d = G.fr e → d ≠ e → bef d e ∨ bef e d
  bef_half : ∀ d e, d < G.M → e < G.M → G.fr d = G.fr e → bef d e → G.fwd e → G.fwd d
  bef_turn : ∀ d e, d < G.M → e < G.M → G.fr d = G.fr e → bef d e → (G.fwd d ↔ G.fwd e) → 0 < (G.s (G.tx d) - G.s (G.fr d)) * (G.t (G.tx e) - G.t (G.fr d)) - (G.t (G.tx d) - G.t (G.fr d)) * (G.s (G.tx e) - G.s (G.fr d))
  corner : ∀ d, d < G.M → (∀ y, y < G.M → G.fr y = G.tx d → (bef y (G.tw d) ↔ (bef y (G.nx d) ∨ y = G.nx d))) ∨ (∀ y, y < G.M → G.fr y = G.tx d → ¬ bef y (G.tw d) ∧ (bef y (G.nx d) ∨ y = G.nx d))
  /-- two leads that both pass from column k to column k+1 and on keep their order -/
  keep : ∀ d e, d < G.M → e < G.M → ∀ k, G.spans (k - 1) d → G.spans k d → G.spans (k - 1) e → G.spans k e → (G.under (k - 1) d e ↔ G.under k d e)
  /-- a node at column k is not on a lead that passes there -/
  clear : ∀ d z, d < G.M → z < G.M → G.spans (G.s (G.fr z) - 1) d → G.spans (G.s (G.fr z)) d → G.lin d (G.s (G.fr z)) ≠ G.t (G.fr z)
  /-- the leads of a node lie on the same side of a lead that passes -/
  side : ∀ d z, d < G.M → z < G.M → G.spans (G.s (G.fr z) - 1) d → G.spans (G.s (G.fr z)) d → (G.under (G.st z) d z ↔ G.lin d (G.s (G.fr z)) < G.t (G.fr z)) ∧ (G.under (G.st z) z d ↔ G.t (G.fr z) < G.lin d (G.s (G.fr z)))
  /-- leads that span a strip are equal in height only if they are one -/
  apart : ∀ d e, d < G.M → e < G.M → ∀ k, G.spans k d → G.spans k e → G.lin d (mid k) = G.lin e (mid k) → e = d ∨ e = G.tw d
variable {G} {bef : Nat → Nat → Prop}
theorem Ok.fwd_tw (O : G.Ok bef) {d : Nat} (hd : d < G.M) : G.fwd (G.tw d) ↔ ¬ G.fwd d := by
  unfold fwd; rw [O.fr_tw d hd, O.to_tw d hd]; have := O.ne d hd; omega
theorem Ok.twins (O : G.Ok bef) : Turns G.tw G.M := ⟨O.tw_lt, fun d e hd he h => by rw [← O.tw_tw d hd, h, O.tw_tw e he]⟩
theorem rat_ne {a b : Int} (h : a ≠ b) : (a : Rat) ≠ (b : Rat) := fun e => h (by exact_mod_cast e)
theorem Ok.lin_tw (O : G.Ok bef) {d : Nat} (hd : d < G.M) (x : Rat) : G.lin (G.tw d) x = G.lin d x := by
  unfold lin; rw [O.fr_tw d hd, O.to_tw d hd]
  have h := rat_ne (O.ne d hd)
  have h1 : (G.s (G.tx d) : Rat) - (G.s (G.fr d) : Rat) ≠ 0 := by grind
  have h2 : (G.s (G.fr d) : Rat) - (G.s (G.tx d) : Rat) ≠ 0 := by grind
  grind
theorem Ok.under_tw1 (O : G.Ok bef) {d : Nat} (hd : d < G.M) (k : Int) (x : Nat) : G.under k (G.tw d) x ↔ G.under k d x := by unfold under; rw [O.lin_tw hd]
theorem Ok.under_tw2 (O : G.Ok bef) {d : Nat} (hd : d < G.M) (k : Int) (x : Nat) : G.under k x (G.tw d) ↔ G.under k x d := by unfold under; rw [O.lin_tw hd]
theorem Ok.cnt_tw (O : G.Ok bef) {x : Nat} (hx : x < G.M) (k : Int) (d : Nat) : G.cnt k d (G.tw x) ↔ G.cnt k d x := by
  unfold cnt; split
  · rw [O.under_tw2 hx]
  · rw [O.under_tw1 hx]
theorem Ok.dirs_tw (O : G.Ok bef) {x : Nat} (hx : x < G.M) (k : Int) : G.dirs k (G.tw x) = -G.dirs k x := by
  unfold dirs; rw [O.fr_tw x hx, O.to_tw x hx]; omega
theorem dirs_out {k : Int} {d : Nat} (h : ¬ G.spans k d) : G.dirs k d = 0 := by
  unfold spans at h; unfold dirs ind; split <;> split <;> omega
theorem dirs_in {k : Int} {d : Nat} (h : G.spans k d) : G.dirs k d = if G.fwd d then 1 else -1 := by
  unfold spans at h
  by_cases hf : G.fwd d
  · rw [if_pos hf]; unfold fwd at hf; unfold dirs ind; rw [if_pos (by omega), if_neg (by omega)]; omega
  · rw [if_neg hf]; unfold fwd at hf; unfold dirs ind; rw [if_neg (by omega), if_pos (by omega)]; omega
/-- a sum over all darts, by the darts at a node and the others -/
theorem Ok.split (O : G.Ok bef) (v : Nat) (f : Nat → Int) : sm G.M f = sm G.M (fun x => if G.fr x = v then f x + f (G.tw x) else 0) + sm G.M (fun x => if G.fr x ≠ v ∧ G.tx x ≠ v then f x else 0) := by
  have e : sm G.M (fun x => if G.fr x = v then f (G.tw x) else 0) = sm G.M (fun x => if G.tx x = v then f x else 0) := by
    rw [← sm_turns O.twins (fun x => if G.tx x = v then f x else 0)]
    exact sm_congr fun x hx => by rw [O.to_tw x hx]
  have e2 : sm G.M (fun x => if G.fr x = v then f x + f (G.tw x) else 0) = sm G.M (fun x => if G.fr x = v then f x else 0) + sm G.M (fun x => if G.fr x = v then f (G.tw x) else 0) := by
    rw [← sm_add]; exact sm_congr fun x _ => by split <;> simp
  rw [e2, e, ← sm_add, ← sm_add]
  refine sm_congr fun x hx => ?_
  have hne : G.fr x ≠ G.tx x := fun h => O.ne x hx (by rw [h])
  by_cases h1 : G.fr x = v
  · have h2 : ¬ G.tx x = v := fun h => hne (h1.trans h.symm)
    simp [h1, h2]
  · by_cases h2 : G.tx x = v
    · simp [h1, h2]
    · simp [h1, h2]
/-- a set of darts that is made of closed walks -/
def Inv (G : Pl) (c : Nat → Bool) : Prop := ∀ d, d < G.M → c (G.nx d) = c d
def u (G : Pl) (c : Nat → Bool) (y : Nat) : Int := ind (c y = true) - ind (c (G.tw y) = true)
theorem Ok.flow (O : G.Ok bef) {c : Nat → Bool} (hc : G.Inv c) (g : Nat → Int) : sm G.M (fun d => if c d = true then g (G.tx d) - g (G.fr d) else 0) = 0 := by
  have e : sm G.M (fun d => if c d = true then g (G.fr d) else 0) = sm G.M (fun d => if c d = true then g (G.tx d) else 0) := by
    rw [← sm_turns O.turns (fun d => if c d = true then g (G.fr d) else 0)]
    exact sm_congr fun d hd => by rw [hc d hd, O.nx_fr d hd]
  have e2 : sm G.M (fun d => if c d = true then g (G.tx d) - g (G.fr d) else 0) = sm G.M (fun d => if c d = true then g (G.tx d) else 0) - sm G.M (fun d => if c d = true then g (G.fr d) else 0) := by
    rw [← sm_sub]; exact sm_congr fun d _ => by split <;> simp
  rw [e2, e]; omega
/-- as much comes into a node as goes out -/
theorem Ok.balance (O : G.Ok bef) {c : Nat → Bool} (hc : G.Inv c) (v : Nat) : sm G.M (fun y => if G.fr y = v then G.u c y else 0) = 0 := by
  have h := O.flow hc (fun w => ind (w = v))
  have h1 : sm G.M (fun y => if G.fr y = v then ind (c y = true) else 0) = sm G.M (fun d => if c d = true then ind (G.fr d = v) else 0) :=
    sm_congr fun d _ => by unfold ind; by_cases a : G.fr d = v <;> by_cases b : c d = true <;> simp [a, b]
  have h2 : sm G.M (fun y => if G.fr y = v then ind (c (G.tw y) = true) else 0) = sm G.M (fun d => if c d = true then ind (G.tx d = v) else 0) := by
    rw [← sm_turns O.twins (fun d => if c d = true then ind (G.tx d = v) else 0)]
    exact sm_congr fun d hd => by rw [O.to_tw d hd]; unfold ind; by_cases a : G.fr d = v <;> by_cases b : c (G.tw d) = true <;> simp [a, b]
  have h3 : sm G.M (fun d => if c d = true then ind (G.tx d = v) - ind (G.fr d = v) else 0) = sm G.M (fun d => if c d = true then ind (G.tx d = v) else 0) - sm G.M (fun d => if c d = true then ind (G.fr d = v) else 0) := by
    rw [← sm_sub]; exact sm_congr fun d _ => by split <;> simp
  have h4 : sm G.M (fun y => if G.fr y = v then G.u c y else 0) = sm G.M (fun y => if G.fr y = v then ind (c y = true) else 0) - sm G.M (fun y => if G.fr y = v then ind (c (G.tw y) = true) else 0) := by
    rw [← sm_sub]; exact sm_congr fun d _ => by unfold u; split <;> simp
  rw [h4, h1, h2]
  rw [h3] at h
  omega
theorem half_lt {p q a b h : Rat} (ha : 0 < a) (hb : 0 < b) (hh : 0 < h) (H : 0 < a * q - p * b) : p * h / a < q * h / b := by
  apply Classical.byContradiction
  intro hn
  have hn : q * h / b ≤ p * h / a := by grind
  have e1 : (p * h / a) * a = p * h := Rat.div_mul_cancel (by grind)
  have e2 : (q * h / b) * b = q * h := Rat.div_mul_cancel (by grind)
  have h3 := Rat.mul_le_mul_of_nonneg_right hn (Rat.le_of_lt (Rat.mul_pos ha hb))
  have h4 := Rat.mul_pos H hh
  generalize p * h / a = r at *
  generalize q * h / b = r' at *
  have : r' * (a * b) = a * (q * h) := by grind
  have : r * (a * b) = b * (p * h) := by grind
  grind
theorem Ok.at_fwd (O : G.Ok bef) {y z : Nat} (hy : y < G.M) (hz : z < G.M) (he : G.fr y = G.fr z) (fy : G.fwd y) (fz : G.fwd z) (hb : bef y z) : G.under (G.s (G.fr z)) y z := by
  have H := O.bef_turn y z hy hz he hb ⟨fun _ => fz, fun _ => fy⟩
  unfold fwd at fy fz
  unfold under lin mid
  rw [he] at H fy ⊢
  have fy' : (0 : Rat) < (G.s (G.tx y) : Rat) - (G.s (G.fr z) : Rat) := by have : (G.s (G.fr z) : Rat) < G.s (G.tx y) := by exact_mod_cast fy
                                                                           grind
  have fz' : (0 : Rat) < (G.s (G.tx z) : Rat) - (G.s (G.fr z) : Rat) := by have : (G.s (G.fr z) : Rat) < G.s (G.tx z) := by exact_mod_cast fz
                                                                           grind
  have H' : (0 : Rat) < ((G.s (G.tx y) : Rat) - (G.s (G.fr z) : Rat)) * ((G.t (G.tx z) : Rat) - (G.t (G.fr z) : Rat)) - ((G.t (G.tx y) : Rat) - (G.t (G.fr z) : Rat)) * ((G.s (G.tx z) : Rat) - (G.s (G.fr z) : Rat)) := by exact_mod_cast H
  have := half_lt fy' fz' (show (0 : Rat) < 1 / 2 by grind) H'
  have e : (G.s (G.fr z) : Rat) + 1 / 2 - (G.s (G.fr z) : Rat) = 1 / 2 := by grind
  rw [e]
  grind
theorem Ok.at_bwd (O : G.Ok bef) {y z : Nat} (hy : y < G.M) (hz : z < G.M) (he : G.fr y = G.fr z) (fy : ¬ G.fwd y) (fz : ¬ G.fwd z) (hb : bef y z) : G.under (G.s (G.fr z) - 1) z y := by
  have H := O.bef_turn y z hy hz he hb ⟨fun h => absurd h fy, fun h => absurd h fz⟩
  have ny := O.ne y hy
  have nz := O.ne z hz
  unfold fwd at fy fz
  unfold under lin mid
  rw [he] at H fy ny ⊢
  have fy' : (0 : Rat) < (G.s (G.fr z) : Rat) - (G.s (G.tx y) : Rat) := by have : (G.s (G.tx y) : Rat) < G.s (G.fr z) := by exact_mod_cast (show G.s (G.tx y) < G.s (G.fr z) by omega)
                                                                           grind
  have fz' : (0 : Rat) < (G.s (G.fr z) : Rat) - (G.s (G.tx z) : Rat) := by have : (G.s (G.tx z) : Rat) < G.s (G.fr z) := by exact_mod_cast (show G.s (G.tx z) < G.s (G.fr z) by omega)
                                                                           grind
  have H' : (0 : Rat) < ((G.s (G.tx y) : Rat) - (G.s (G.fr z) : Rat)) * ((G.t (G.tx z) : Rat) - (G.t (G.fr z) : Rat)) - ((G.t (G.tx y) : Rat) - (G.t (G.fr z) : Rat)) * ((G.s (G.tx z) : Rat) - (G.s (G.fr z) : Rat)) := by exact_mod_cast H
  have H2 : (0 : Rat) < ((G.s (G.fr z) : Rat) - (G.s (G.tx z) : Rat)) * ((G.t (G.tx y) : Rat) - (G.t (G.fr z) : Rat)) - ((G.t (G.tx z) : Rat) - (G.t (G.fr z) : Rat)) * ((G.s (G.fr z) : Rat) - (G.s (G.tx y) : Rat)) := by grind
  have := half_lt fz' fy' (show (0 : Rat) < 1 / 2 by grind) H2
  have e : ((G.s (G.fr z) - 1 : Int) : Rat) + 1 / 2 - (G.s (G.fr z) : Rat) = -(1 / 2) := by
    have : ((G.s (G.fr z) - 1 : Int) : Rat) = (G.s (G.fr z) : Rat) - 1 := by rw [Rat.intCast_sub]; rfl
    rw [this]; grind
  rw [e]
  have e2 : ∀ p a b : Rat, a - b ≠ 0 → p * -(1 / 2) / (a - b) = p * (1 / 2) / (b - a) := fun p a b h => by
    have : b - a ≠ 0 := by grind
    grind
  rw [e2 _ _ _ (by grind), e2 _ _ _ (by grind)]
  grind
theorem under_irr (k : Int) (x y : Nat) (h : G.under k x y) : ¬ G.under k y x := by unfold under at *; grind
theorem Ok.fwd_iff (O : G.Ok bef) {y z : Nat} (hy : y < G.M) (hz : z < G.M) (he : G.fr y = G.fr z) (fy : G.fwd y) (fz : G.fwd z) : G.under (G.s (G.fr z)) y z ↔ bef y z := by
  constructor
  · intro h
    by_cases e : y = z
    · subst e; exact absurd h (under_irr _ _ _ h)
    · rcases O.total y z hy hz he e with hb | hb
      · exact hb
      · have := O.at_fwd hz hy he.symm fz fy hb
        rw [he] at this
        exact absurd h (under_irr _ _ _ this)
  · exact O.at_fwd hy hz he fy fz
theorem Ok.bwd_iff (O : G.Ok bef) {y z : Nat} (hy : y < G.M) (hz : z < G.M) (he : G.fr y = G.fr z) (fy : ¬ G.fwd y) (fz : ¬ G.fwd z) : G.under (G.s (G.fr z) - 1) z y ↔ bef y z := by
  constructor
  · intro h
    by_cases e : y = z
    · subst e; exact absurd h (under_irr _ _ _ h)
    · rcases O.total y z hy hz he e with hb | hb
      · exact hb
      · have := O.at_bwd hz hy he.symm fz fy hb
        rw [he] at this
        exact absurd h (under_irr _ _ _ this)
  · exact O.at_bwd hy hz he fy fz
theorem Ok.not_bef (O : G.Ok bef) {y z : Nat} (hy : y < G.M) (hz : z < G.M) (he : G.fr y = G.fr z) : ¬ bef z y ↔ (bef y z ∨ y = z) := by
  constructor
  · intro h
    by_cases e : y = z
    · exact .inr e
    · exact .inl ((O.total y z hy hz he e).resolve_right h)
  · rintro (h | rfl)
    · exact O.asym _ _ h
    · exact fun h => O.asym _ _ h h
/-- what lies below a node, of the leads that pass -/
def B (G : Pl) (c : Nat → Bool) (v : Nat) : Int := sm G.M fun x => if G.fr x ≠ v ∧ G.tx x ≠ v then (if c x = true ∧ G.lin x (G.s v) < G.t v then G.dirs (G.s v) x else 0) else 0
theorem Ok.off (O : G.Ok bef) {x z : Nat} (hx : x < G.M) (hz : z < G.M) (h : G.fr x ≠ G.fr z ∧ G.tx x ≠ G.fr z) : G.s (G.fr x) ≠ G.s (G.fr z) ∧ G.s (G.tx x) ≠ G.s (G.fr z) :=
  ⟨fun e => h.1 (O.inj x z hx hz e), fun e => h.2 (by rw [← O.fr_tw x hx]; exact O.inj (G.tw x) z (O.tw_lt x hx) hz (by rw [O.fr_tw x hx]; exact e))⟩
theorem dirs_pass {x : Nat} {k : Int} (h : G.s (G.fr x) ≠ k ∧ G.s (G.tx x) ≠ k) : G.dirs (k - 1) x = G.dirs k x := by
  unfold dirs ind; split <;> split <;> split <;> split <;> omega
theorem spans_pass {x : Nat} {k : Int} (h : G.s (G.fr x) ≠ k ∧ G.s (G.tx x) ≠ k) : G.spans (k - 1) x ↔ G.spans k x := by unfold spans; omega
/-- the part of L of the darts at a node -/
theorem Ok.pair (O : G.Ok bef) (c : Nat → Bool) (d : Nat) (k : Int) {y : Nat} (hy : y < G.M) : (if c y = true ∧ G.cnt k d y then G.dirs k y else 0) + (if c (G.tw y) = true ∧ G.cnt k d (G.tw y) then G.dirs k (G.tw y) else 0) = if G.cnt k d y then G.dirs k y * G.u c y else 0 := by
  rw [O.dirs_tw hy]
  have := O.cnt_tw hy k d
  unfold u ind
  by_cases a : G.cnt k d y
  · have a' := this.2 a
    by_cases b1 : c y = true <;> by_cases b2 : c (G.tw y) = true <;> simp [a, a', b1, b2] <;> omega
  · have a' : ¬ G.cnt k d (G.tw y) := fun h => a (this.1 h)
    simp [a, a']
theorem out_dirs {y : Nat} (h : G.fwd y) : G.dirs (G.s (G.fr y)) y = 1 ∧ G.dirs (G.s (G.fr y) - 1) y = 0 := by
  unfold fwd at h; unfold dirs ind; constructor
  · rw [if_pos (by omega), if_neg (by omega)]; rfl
  · rw [if_neg (by omega), if_neg (by omega)]; rfl
theorem Ok.in_dirs (O : G.Ok bef) {y : Nat} (hy : y < G.M) (h : ¬ G.fwd y) : G.dirs (G.s (G.fr y)) y = 0 ∧ G.dirs (G.s (G.fr y) - 1) y = -1 := by
  have := O.ne y hy
  unfold fwd at h; unfold dirs ind; constructor
  · rw [if_pos (by omega), if_pos (by omega)]; rfl
  · rw [if_neg (by omega), if_pos (by omega)]; rfl
/-- the winding beside dart z of a node, by the order around the node -/
theorem Ok.key [DecidableRel bef] (O : G.Ok bef) {c : Nat → Bool} (hc : G.Inv c) {z : Nat} (hz : z < G.M) :
    G.L c z (G.st z) = G.B c (G.fr z) + sm G.M (fun y => if G.fr y = G.fr z then (if bef y z ∨ y = z then G.u c y else 0) else 0) ∧
    G.L c (G.tw z) (G.st z) = G.B c (G.fr z) + sm G.M (fun y => if G.fr y = G.fr z then (if bef y z then G.u c y else 0) else 0) := by
  have hbal := O.balance hc (G.fr z)
  have passes : ∀ d, (d = z ∨ d = G.tw z) → sm G.M (fun x => if G.fr x ≠ G.fr z ∧ G.tx x ≠ G.fr z then (if c x = true ∧ G.cnt (G.st z) d x then G.dirs (G.st z) x else 0) else 0) = G.B c (G.fr z) := by
    intro d hd
    refine sm_congr fun x hx => ?_
    by_cases h : G.fr x ≠ G.fr z ∧ G.tx x ≠ G.fr z
    · rw [if_pos h, if_pos h]
      have ho := O.off hx hz h
      have hdk : G.dirs (G.st z) x = G.dirs (G.s (G.fr z)) x := by
        unfold st; split
        · rfl
        · exact dirs_pass ho
      rw [hdk]
      by_cases hs : G.spans (G.s (G.fr z)) x
      · have hs1 := (spans_pass ho).2 hs
        have cl := O.clear x z hx hz hs1 hs
        have sd := O.side x z hx hz hs1 hs
        have hiff : G.cnt (G.st z) d x ↔ G.lin x (G.s (G.fr z)) < G.t (G.fr z) := by
          unfold cnt
          rcases hd with rfl | rfl
          · split
            · rw [sd.2]; grind
            · exact sd.1
          · rw [O.under_tw1 hz, O.under_tw2 hz]
            split
            · rw [sd.2]; grind
            · exact sd.1
        simp only [hiff]
      · rw [dirs_out hs]; simp
    · rw [if_neg h, if_neg h]
  have touch : ∀ d, sm G.M (fun y => if G.fr y = G.fr z then ((if c y = true ∧ G.cnt (G.st z) d y then G.dirs (G.st z) y else 0) + (if c (G.tw y) = true ∧ G.cnt (G.st z) d (G.tw y) then G.dirs (G.st z) (G.tw y) else 0)) else 0) = sm G.M (fun y => if G.fr y = G.fr z then (if G.cnt (G.st z) d y then G.dirs (G.st z) y * G.u c y else 0) else 0) :=
    fun d => sm_congr fun y hy => by split
                                     · exact O.pair c d _ hy
                                     · rfl
  have go : ∀ d, (d = z ∨ d = G.tw z) → G.L c d (G.st z) = G.B c (G.fr z) + sm G.M (fun y => if G.fr y = G.fr z then (if G.cnt (G.st z) d y then G.dirs (G.st z) y * G.u c y else 0) else 0) := fun d hd => by
    unfold L
    rw [O.split (G.fr z), passes d hd, touch d]; omega
  -- what the balance gives
  have turn : ∀ p : Nat → Prop, [DecidablePred p] → sm G.M (fun y => if G.fr y = G.fr z then (if p y then -G.u c y else 0) else 0) = sm G.M (fun y => if G.fr y = G.fr z then (if p y then 0 else G.u c y) else 0) := fun p _ => by
    have : sm G.M (fun y => if G.fr y = G.fr z then (if p y then 0 else G.u c y) else 0) - sm G.M (fun y => if G.fr y = G.fr z then (if p y then -G.u c y else 0) else 0) = sm G.M (fun y => if G.fr y = G.fr z then G.u c y else 0) := by
      rw [← sm_sub]
      exact sm_congr fun y _ => by
        by_cases h1 : G.fr y = G.fr z
        · by_cases h2 : p y <;> simp [h1, h2]
        · simp [h1]
    omega
  rw [go z (.inl rfl), go (G.tw z) (.inr rfl)]
  have ft := O.fwd_tw hz
  by_cases fz : G.fwd z
  · have hst : G.st z = G.s (G.fr z) := by unfold st; rw [if_pos fz]
    rw [hst]
    constructor
    · congr 1
      refine sm_congr fun y hy => ?_
      by_cases he : G.fr y = G.fr z
      · rw [if_pos he, if_pos he]
        by_cases fy : G.fwd y
        · have := (out_dirs fy).1
          rw [he] at this
          have e : G.cnt (G.s (G.fr z)) z y ↔ (bef y z ∨ y = z) := by
            unfold cnt; rw [if_pos fz, ← O.not_bef hy hz he, ← he, O.fwd_iff hz hy he.symm fz fy]
          simp only [e, this, Int.one_mul]
        · have := (O.in_dirs hy fy).1
          rw [he] at this
          rw [this, if_neg (show ¬ (bef y z ∨ y = z) from fun h => h.elim (fun h => fy (O.bef_half y z hy hz he h fz)) fun h => fy (h ▸ fz))]
          simp
      · rw [if_neg he, if_neg he]
    · congr 1
      refine sm_congr fun y hy => ?_
      by_cases he : G.fr y = G.fr z
      · rw [if_pos he, if_pos he]
        by_cases fy : G.fwd y
        · have := (out_dirs fy).1
          rw [he] at this
          have e : G.cnt (G.s (G.fr z)) (G.tw z) y ↔ bef y z := by
            unfold cnt; rw [if_neg (fun h => ft.1 h fz), O.under_tw2 hz, O.fwd_iff hy hz he fy fz]
          simp only [e, this, Int.one_mul]
        · have := (O.in_dirs hy fy).1
          rw [he] at this
          rw [this, if_neg (show ¬ bef y z from fun h => fy (O.bef_half y z hy hz he h fz))]
          simp
      · rw [if_neg he, if_neg he]
  · have hst : G.st z = G.s (G.fr z) - 1 := by unfold st; rw [if_neg fz]
    rw [hst]
    constructor
    · congr 1
      have e2 : sm G.M (fun y => if G.fr y = G.fr z then (if bef y z ∨ y = z then G.u c y else 0) else 0) = sm G.M (fun y => if G.fr y = G.fr z then (if bef z y then 0 else G.u c y) else 0) :=
        sm_congr fun y hy => by
          by_cases he : G.fr y = G.fr z
          · rw [if_pos he, if_pos he]
            have := O.not_bef hy hz he
            by_cases hb : bef z y
            · rw [if_pos hb, if_neg (fun h => this.2 h hb)]
            · rw [if_neg hb, if_pos (this.1 hb)]
          · rw [if_neg he, if_neg he]
      rw [e2, ← turn]
      refine sm_congr fun y hy => ?_
      by_cases he : G.fr y = G.fr z
      · rw [if_pos he, if_pos he]
        by_cases fy : G.fwd y
        · have := (out_dirs fy).2
          rw [he] at this
          rw [this, if_neg (show ¬ bef z y from fun h => fz (O.bef_half z y hz hy he.symm h fy))]
          simp
        · have := (O.in_dirs hy fy).2
          rw [he] at this
          have e : G.cnt (G.s (G.fr z) - 1) z y ↔ bef z y := by
            unfold cnt; rw [if_neg fz, ← he, O.bwd_iff hz hy he.symm fz fy]
          simp only [e, this]; split <;> omega
      · rw [if_neg he, if_neg he]
    · congr 1
      have e2 : sm G.M (fun y => if G.fr y = G.fr z then (if bef y z then G.u c y else 0) else 0) = sm G.M (fun y => if G.fr y = G.fr z then (if ¬ bef y z then 0 else G.u c y) else 0) :=
        sm_congr fun y hy => by
          by_cases he : G.fr y = G.fr z
          · rw [if_pos he, if_pos he]
            by_cases hb : bef y z
            · rw [if_pos hb, if_neg (fun h => h hb)]
            · rw [if_neg hb, if_pos hb]
          · rw [if_neg he, if_neg he]
      rw [e2, ← turn]
      refine sm_congr fun y hy => ?_
      by_cases he : G.fr y = G.fr z
      · rw [if_pos he, if_pos he]
        by_cases fy : G.fwd y
        · have := (out_dirs fy).2
          rw [he] at this
          have hb : bef y z := by
            rcases O.total y z hy hz he (fun h => fz (h ▸ fy)) with h | h
            · exact h
            · exact absurd (O.bef_half z y hz hy he.symm h fy) fz
          rw [this]
          simp [hb]
        · have := (O.in_dirs hy fy).2
          rw [he] at this
          have e : G.cnt (G.s (G.fr z) - 1) (G.tw z) y ↔ ¬ bef y z := by
            unfold cnt; rw [if_pos (ft.2 fz), O.under_tw1 hz, O.bwd_iff hy hz he fy fz]
          simp only [e, this]; split <;> omega
      · rw [if_neg he, if_neg he]
/-- the winding beside a dart is one along the dart -/
theorem Ok.along (O : G.Ok bef) {c : Nat → Bool} (hc : G.Inv c) {d : Nat} (hd : d < G.M) {k : Int} (h1 : G.spans (k - 1) d) (h2 : G.spans k d) : G.L c d (k - 1) = G.L c d k := by
  have same : ∀ x, x < G.M → G.s (G.fr x) ≠ k ∧ G.s (G.tx x) ≠ k → (if c x = true ∧ G.cnt (k - 1) d x then G.dirs (k - 1) x else 0) = (if c x = true ∧ G.cnt k d x then G.dirs k x else 0) := fun x hx ho => by
    rw [dirs_pass ho]
    by_cases hs : G.spans k x
    · have hs1 := (spans_pass ho).2 hs
      have e : G.cnt (k - 1) d x ↔ G.cnt k d x := by
        unfold cnt; split
        · rw [O.keep d x hd hx k h1 h2 hs1 hs]
        · exact O.keep x d hx hd k hs1 hs h1 h2
      simp only [e]
    · rw [dirs_out hs]; simp
  by_cases hz : ∃ z, z < G.M ∧ G.s (G.fr z) = k
  · obtain ⟨z, hz, rfl⟩ := hz
    have cl := O.clear d z hd hz h1 h2
    unfold L
    rw [O.split (G.fr z), O.split (G.fr z) (fun x => if c x = true ∧ G.cnt (G.s (G.fr z)) d x then G.dirs (G.s (G.fr z)) x else 0)]
    have e1 : sm G.M (fun x => if G.fr x ≠ G.fr z ∧ G.tx x ≠ G.fr z then (if c x = true ∧ G.cnt (G.s (G.fr z) - 1) d x then G.dirs (G.s (G.fr z) - 1) x else 0) else 0) = sm G.M (fun x => if G.fr x ≠ G.fr z ∧ G.tx x ≠ G.fr z then (if c x = true ∧ G.cnt (G.s (G.fr z)) d x then G.dirs (G.s (G.fr z)) x else 0) else 0) :=
      sm_congr fun x hx => by
        by_cases h : G.fr x ≠ G.fr z ∧ G.tx x ≠ G.fr z
        · rw [if_pos h, if_pos h]; exact same x hx (O.off hx hz h)
        · rw [if_neg h, if_neg h]
    have key : ∀ y, y < G.M → G.fr y = G.fr z → ((if c y = true ∧ G.cnt (G.s (G.fr z)) d y then G.dirs (G.s (G.fr z)) y else 0) + (if c (G.tw y) = true ∧ G.cnt (G.s (G.fr z)) d (G.tw y) then G.dirs (G.s (G.fr z)) (G.tw y) else 0)) - ((if c y = true ∧ G.cnt (G.s (G.fr z) - 1) d y then G.dirs (G.s (G.fr z) - 1) y else 0) + (if c (G.tw y) = true ∧ G.cnt (G.s (G.fr z) - 1) d (G.tw y) then G.dirs (G.s (G.fr z) - 1) (G.tw y) else 0)) = if G.t (G.fr z) < G.lin d (G.s (G.fr z)) then G.u c y else 0 := fun y hy he => by
      rw [O.pair c d _ hy, O.pair c d _ hy]
      have sd := O.side d y hd hy (by rw [he]; exact h1) (by rw [he]; exact h2)
      rw [he] at sd
      have ciff : G.cnt (G.st y) d y ↔ G.t (G.fr z) < G.lin d (G.s (G.fr z)) := by
        unfold cnt; split
        · rw [sd.1]; grind
        · exact sd.2
      by_cases fy : G.fwd y
      · have hst : G.st y = G.s (G.fr z) := by unfold st; rw [if_pos fy, he]
        rw [hst] at ciff
        have := out_dirs fy
        rw [he] at this
        rw [this.1, this.2]
        simp only [ciff]
        by_cases q : G.t (G.fr z) < G.lin d (G.s (G.fr z)) <;> simp [q]
      · have hst : G.st y = G.s (G.fr z) - 1 := by unfold st; rw [if_neg fy, he]
        rw [hst] at ciff
        have := O.in_dirs hy fy
        rw [he] at this
        rw [this.1, this.2]
        simp only [ciff]
        by_cases q : G.t (G.fr z) < G.lin d (G.s (G.fr z)) <;> simp [q]
    have e2 : sm G.M (fun y => if G.fr y = G.fr z then ((if c y = true ∧ G.cnt (G.s (G.fr z)) d y then G.dirs (G.s (G.fr z)) y else 0) + (if c (G.tw y) = true ∧ G.cnt (G.s (G.fr z)) d (G.tw y) then G.dirs (G.s (G.fr z)) (G.tw y) else 0)) else 0) - sm G.M (fun y => if G.fr y = G.fr z then ((if c y = true ∧ G.cnt (G.s (G.fr z) - 1) d y then G.dirs (G.s (G.fr z) - 1) y else 0) + (if c (G.tw y) = true ∧ G.cnt (G.s (G.fr z) - 1) d (G.tw y) then G.dirs (G.s (G.fr z) - 1) (G.tw y) else 0)) else 0) = 0 := by
      rw [← sm_sub]
      by_cases q : G.t (G.fr z) < G.lin d (G.s (G.fr z))
      · refine Eq.trans (sm_congr fun y hy => ?_) (O.balance hc (G.fr z))
        by_cases he : G.fr y = G.fr z
        · rw [if_pos he, if_pos he, if_pos he, key y hy he, if_pos q]
        · rw [if_neg he, if_neg he, if_neg he]; rfl
      · refine sm_nil fun y hy => ?_
        by_cases he : G.fr y = G.fr z
        · rw [if_pos he, if_pos he, key y hy he, if_neg q]
        · rw [if_neg he, if_neg he]; rfl
    omega
  · refine sm_congr fun x hx => same x hx ⟨fun e => hz ⟨x, hx, e⟩, fun e => hz ⟨G.tw x, O.tw_lt x hx, by rw [O.fr_tw x hx]; exact e⟩⟩
theorem Ok.along_n (O : G.Ok bef) {c : Nat → Bool} (hc : G.Inv c) {d : Nat} (hd : d < G.M) (k : Int) : ∀ n : Nat, G.spans k d → G.spans (k + n) d → G.L c d k = G.L c d (k + n)
  | 0, _, _ => by simp
  | n + 1, h1, h2 => by
    have h3 : G.spans (k + n) d := by unfold spans at *; omega
    rw [O.along_n hc hd k n h1 h3]
    have := O.along hc hd (k := k + (n + 1 : Nat)) (by rw [show k + (n + 1 : Nat) - 1 = k + n by omega]; exact h3) h2
    rw [show k + (n + 1 : Nat) - 1 = k + n by omega] at this
    exact this
theorem Ok.along_all (O : G.Ok bef) {c : Nat → Bool} (hc : G.Inv c) {d : Nat} (hd : d < G.M) {j k : Int} (h1 : G.spans j d) (h2 : G.spans k d) : G.L c d j = G.L c d k := by
  rcases Int.le_total j k with h | h
  · have := O.along_n hc hd j (k - j).toNat h1 (by rw [show j + ((k - j).toNat : Int) = k by omega]; exact h2)
    rw [show j + ((k - j).toNat : Int) = k by omega] at this
    exact this
  · have := O.along_n hc hd k (j - k).toNat h2 (by rw [show k + ((j - k).toNat : Int) = j by omega]; exact h1)
    rw [show k + ((j - k).toNat : Int) = j by omega] at this
    exact this.symm
theorem Ok.st_spans (O : G.Ok bef) {d : Nat} (hd : d < G.M) : G.spans (G.st d) d := by
  have := O.ne d hd
  by_cases f : G.fwd d
  · unfold st; rw [if_pos f]; unfold fwd at f; unfold spans; omega
  · unfold st; rw [if_neg f]; unfold fwd at f; unfold spans; omega
theorem Ok.spans_tw (O : G.Ok bef) {d : Nat} (hd : d < G.M) (k : Int) : G.spans k (G.tw d) ↔ G.spans k d := by
  unfold spans; rw [O.fr_tw d hd, O.to_tw d hd]; omega
/-- the winding beside a dart less whether the dart is in the set -/
def psi (G : Pl) (c : Nat → Bool) (d : Nat) : Int := G.L c d (G.st d) - ind (c d = true)
theorem Ok.psi_tw (O : G.Ok bef) {c : Nat → Bool} (hc : G.Inv c) {d : Nat} (hd : d < G.M) : G.psi c (G.tw d) = G.psi c d := by
  have : DecidableRel bef := fun _ _ => Classical.propDecidable _
  obtain ⟨k1, k2⟩ := O.key hc hd
  have ht := O.tw_lt d hd
  have e := O.along_all hc ht (O.st_spans ht) ((O.spans_tw hd _).2 (O.st_spans hd))
  have e2 : sm G.M (fun y => if G.fr y = G.fr d then (if bef y d ∨ y = d then G.u c y else 0) else 0) - sm G.M (fun y => if G.fr y = G.fr d then (if bef y d then G.u c y else 0) else 0) = G.u c d := by
    rw [← sm_sub]
    have h0 : ¬ bef d d := fun h => O.asym _ _ h h
    rw [sm_one d hd]
    · simp [h0]
    · intro y _ hne
      by_cases he : G.fr y = G.fr d
      · by_cases hb : bef y d <;> simp [he, hb, hne]
      · simp [he]
  have hu : G.u c d = ind (c d = true) - ind (c (G.tw d) = true) := rfl
  unfold psi
  omega
theorem Ok.psi_nx (O : G.Ok bef) {c : Nat → Bool} (hc : G.Inv c) {d : Nat} (hd : d < G.M) : G.psi c (G.nx d) = G.psi c d := by
  have : DecidableRel bef := fun _ _ => Classical.propDecidable _
  have ht := O.tw_lt d hd
  have hn := O.turns.lt d hd
  obtain ⟨k1, _⟩ := O.key hc hn
  obtain ⟨_, k2⟩ := O.key hc ht
  rw [O.tw_tw d hd, O.fr_tw d hd] at k2
  rw [O.nx_fr d hd] at k1
  have e := O.along_all hc hd (O.st_spans hd) ((O.spans_tw hd _).1 (O.st_spans ht))
  have e2 : sm G.M (fun y => if G.fr y = G.tx d then (if bef y (G.nx d) ∨ y = G.nx d then G.u c y else 0) else 0) = sm G.M (fun y => if G.fr y = G.tx d then (if bef y (G.tw d) then G.u c y else 0) else 0) := by
    rcases O.corner d hd with h | h
    · refine sm_congr fun y hy => ?_
      by_cases he : G.fr y = G.tx d
      · rw [if_pos he, if_pos he]
        have := h y hy he
        by_cases hb : bef y (G.tw d)
        · rw [if_pos hb, if_pos (this.1 hb)]
        · rw [if_neg hb, if_neg (fun q => hb (this.2 q))]
      · rw [if_neg he, if_neg he]
    · have z1 : sm G.M (fun y => if G.fr y = G.tx d then (if bef y (G.tw d) then G.u c y else 0) else 0) = 0 := sm_nil fun y hy => by
        by_cases he : G.fr y = G.tx d
        · rw [if_pos he, if_neg (h y hy he).1]
        · rw [if_neg he]
      rw [z1]
      refine Eq.trans (sm_congr fun y hy => ?_) (O.balance hc (G.tx d))
      by_cases he : G.fr y = G.tx d
      · rw [if_pos he, if_pos he, if_pos (h y hy he).2]
      · rw [if_neg he, if_neg he]
  unfold psi
  rw [hc d hd]
  omega
/-- the graph hangs together -/
def Conn (G : Pl) : Prop := ∀ g : Nat → Int, (∀ d, d < G.M → g (G.nx d) = g d) → (∀ d, d < G.M → g (G.tw d) = g d) → ∀ d e, d < G.M → e < G.M → g d = g e
theorem Ok.psi_all (O : G.Ok bef) (hC : G.Conn) {c : Nat → Bool} (hc : G.Inv c) {d e : Nat} (hd : d < G.M) (he : e < G.M) : G.psi c d = G.psi c e :=
  hC (G.psi c) (fun _ h => O.psi_nx hc h) (fun _ h => O.psi_tw hc h) d e hd he
theorem exists_min (p : Nat → Prop) (h : Nat → Rat) : ∀ n, (∃ x, x < n ∧ p x) → ∃ x, x < n ∧ p x ∧ ∀ y, y < n → p y → h x ≤ h y
  | 0, ⟨x, hx, _⟩ => by omega
  | n + 1, hex => by
    by_cases hn : ∃ x, x < n ∧ p x
    · obtain ⟨x, h1, h2, h3⟩ := exists_min p h n hn
      by_cases hp : p n ∧ h n < h x
      · refine ⟨n, by omega, hp.1, fun y hy hpy => ?_⟩
        by_cases e : y = n
        · subst e; exact Rat.le_refl
        · have := h3 y (by omega) hpy; grind
      · refine ⟨x, by omega, h2, fun y hy hpy => ?_⟩
        by_cases e : y = n
        · subst e; have : ¬ h y < h x := fun q => hp ⟨hpy, q⟩; grind
        · exact h3 y (by omega) hpy
    · obtain ⟨x, h1, h2⟩ := hex
      have : x = n := by
        apply Classical.byContradiction
        intro e
        exact hn ⟨x, by omega, h2⟩
      subst this
      refine ⟨x, by omega, h2, fun y hy hpy => ?_⟩
      have : y = x := by
        apply Classical.byContradiction
        intro e
        exact hn ⟨y, by omega, hpy⟩
      subst this; exact Rat.le_refl
/-- a dart beside which nothing winds -/
theorem Ok.outer (O : G.Ok bef) (h0 : 0 < G.M) : ∃ d, d < G.M ∧ ∀ c, G.Inv c → G.L c d (G.st d) = 0 := by
  obtain ⟨x, h1, h2, h3⟩ := exists_min (fun x => G.spans (G.st 0) x) (fun x => G.lin x (mid (G.st 0))) G.M ⟨0, h0, O.st_spans h0⟩
  have key : ∃ d, d < G.M ∧ G.spans (G.st 0) d ∧ ¬ G.fwd d ∧ G.lin d (mid (G.st 0)) = G.lin x (mid (G.st 0)) := by
    by_cases f : G.fwd x
    · exact ⟨G.tw x, O.tw_lt x h1, (O.spans_tw h1 _).2 h2, fun h => (O.fwd_tw h1).1 h f, O.lin_tw h1 _⟩
    · exact ⟨x, h1, h2, f, rfl⟩
  obtain ⟨d, hd, hs, hf, he⟩ := key
  refine ⟨d, hd, fun c hc => ?_⟩
  rw [O.along_all hc hd (O.st_spans hd) hs]
  refine sm_nil fun y hy => ?_
  by_cases hy2 : G.spans (G.st 0) y
  · have := h3 y hy hy2
    rw [if_neg]
    rintro ⟨_, h⟩
    unfold cnt at h
    rw [if_neg hf] at h
    unfold under at h
    grind
  · rw [dirs_out hy2]; simp
/-! areas -/
end Pl
def smr (n : Nat) (f : Nat → Rat) : Rat := ((List.range n).map f).sum
theorem smr_zero (f : Nat → Rat) : smr 0 f = 0 := rfl
theorem smr_succ (n : Nat) (f : Nat → Rat) : smr (n + 1) f = smr n f + f n := by
  unfold smr; rw [List.range_succ, List.map_append, List.sum_append]; simp; grind
theorem smr_congr {n : Nat} {f g : Nat → Rat} (h : ∀ i, i < n → f i = g i) : smr n f = smr n g := by
  induction n with
  | zero => rfl
  | succ n ih => rw [smr_succ, smr_succ, ih fun i hi => h i (by omega), h n (by omega)]
theorem smr_add (n : Nat) (f g : Nat → Rat) : smr n (fun i => f i + g i) = smr n f + smr n g := by
  induction n with
  | zero => simp only [smr_zero]; grind
  | succ n ih => rw [smr_succ, smr_succ, smr_succ, ih]; grind
theorem smr_sub (n : Nat) (f g : Nat → Rat) : smr n (fun i => f i - g i) = smr n f - smr n g := by
  induction n with
  | zero => simp only [smr_zero]; grind
  | succ n ih => rw [smr_succ, smr_succ, smr_succ, ih]; grind
theorem smr_mul (n : Nat) (c : Rat) (f : Nat → Rat) : smr n (fun i => c * f i) = c * smr n f := by
  induction n with
  | zero => simp [smr_zero]
  | succ n ih => rw [smr_succ, smr_succ, ih]; grind
theorem smr_nil (n : Nat) : smr n (fun _ => 0) = 0 := by
  induction n with
  | zero => rfl
  | succ n ih => rw [smr_succ, ih]; grind
theorem smr_swap (m n : Nat) (g : Nat → Nat → Rat) : smr m (fun d => smr n (fun k => g d k)) = smr n (fun k => smr m (fun d => g d k)) := by
  induction m with
  | zero => simp only [smr_zero]; rw [smr_nil]
  | succ m ih =>
    rw [smr_succ, ih, ← smr_add]
    exact smr_congr fun k _ => (smr_succ m fun d => g d k).symm
theorem smr_cast (n : Nat) (f : Nat → Int) : ((sm n f : Int) : Rat) = smr n (fun i => (f i : Rat)) := by
  induction n with
  | zero => rfl
  | succ n ih => rw [sm_succ, smr_succ, Rat.intCast_add, ih]
theorem smr_nonneg {n : Nat} {f : Nat → Rat} (h : ∀ i, i < n → 0 ≤ f i) : 0 ≤ smr n f := by
  induction n with
  | zero => exact Rat.le_refl
  | succ n ih => rw [smr_succ]; have := ih fun i hi => h i (by omega); have := h n (by omega); grind
theorem smr_pos {n : Nat} {f : Nat → Rat} (h : ∀ i, i < n → 0 ≤ f i) (k : Nat) (hk : k < n) (hp : 0 < f k) : 0 < smr n f := by
  induction n with
  | zero => omega
  | succ n ih =>
    rw [smr_succ]
    by_cases e : k = n
    · subst e
      have := smr_nonneg (n := k) (f := f) fun i hi => h i (by omega)
      grind
    · have := ih (fun i hi => h i (by omega)) (by omega)
      have := h n (by omega)
      grind
theorem sm_pos_one {n : Nat} {f : Nat → Int} (h : ∀ i, i < n → 0 ≤ f i) (k : Nat) (hk : k < n) (hp : 0 < f k) : 0 < sm n f := by
  have : (0 : Rat) < ((sm n f : Int) : Rat) := by
    rw [smr_cast]
    exact smr_pos (fun i hi => by have := h i hi; exact_mod_cast this) k hk (by exact_mod_cast hp)
  exact_mod_cast this
theorem smr_tele (q : Int → Rat) (a : Int) (h0 : 0 ≤ a) : ∀ n : Nat, smr n (fun k => (ind (a ≤ (k : Int)) : Rat) * (q ((k : Int) + 1) - q k)) = if a ≤ (n : Int) then q n - q a else 0
  | 0 => by
    by_cases h : a = 0
    · subst h; simp [smr_zero]; grind
    · rw [if_neg (by omega)]; rfl
  | n + 1 => by
    rw [smr_succ, smr_tele q a h0 n]
    unfold ind
    rcases Int.lt_trichotomy a ((n : Int) + 1) with h | h | h
    · rw [if_pos (by omega), if_pos (by omega), if_pos (by omega)]
      have : ((n + 1 : Nat) : Int) = (n : Int) + 1 := by omega
      rw [this]
      have : ((1 : Int) : Rat) = 1 := rfl
      rw [this]; grind
    · rw [if_neg (by omega), if_neg (by omega), if_pos (by omega)]
      have : ((n + 1 : Nat) : Int) = a := by omega
      rw [this]
      have : ((0 : Int) : Rat) = 0 := rfl
      rw [this]; grind
    · rw [if_neg (by omega), if_neg (by omega), if_neg (by omega)]
      have : ((0 : Int) : Rat) = 0 := rfl
      rw [this]; grind
namespace Pl
variable {G : Pl} {bef : Nat → Nat → Prop}
def cr (G : Pl) (d : Nat) : Int := G.s (G.fr d) * G.t (G.tx d) - G.t (G.fr d) * G.s (G.tx d)
def AR (G : Pl) (c : Nat → Bool) : Int := sm G.M fun d => if c d = true then G.cr d else 0
/-- the strips below a lead -/
theorem Ok.strips (O : G.Ok bef) {n : Nat} {d : Nat} (hd : d < G.M) (h1 : 0 ≤ G.s (G.fr d) ∧ G.s (G.fr d) ≤ n) (h2 : 0 ≤ G.s (G.tx d) ∧ G.s (G.tx d) ≤ n) :
    smr n (fun k => (G.dirs k d : Rat) * (2 * G.lin d (mid k))) = ((G.t (G.fr d) : Rat) + (G.t (G.tx d) : Rat)) * ((G.s (G.tx d) : Rat) - (G.s (G.fr d) : Rat)) := by
  have hne := rat_ne (O.ne d hd)
  obtain ⟨m, hm⟩ : ∃ m, m = ((G.t (G.tx d) : Rat) - (G.t (G.fr d) : Rat)) / ((G.s (G.tx d) : Rat) - (G.s (G.fr d) : Rat)) := ⟨_, rfl⟩
  have hm2 : m * ((G.s (G.tx d) : Rat) - (G.s (G.fr d) : Rat)) = (G.t (G.tx d) : Rat) - (G.t (G.fr d) : Rat) := by
    rw [hm]; exact Rat.div_mul_cancel (by grind)
  have hlin : ∀ x, G.lin d x = (G.t (G.fr d) : Rat) + m * (x - (G.s (G.fr d) : Rat)) := fun x => by
    unfold lin; rw [hm]; grind
  obtain ⟨q, hq⟩ : ∃ q : Int → Rat, ∀ x, q x = m * (x : Rat) * (x : Rat) + 2 * ((G.t (G.fr d) : Rat) - m * (G.s (G.fr d) : Rat)) * (x : Rat) := ⟨_, fun _ => rfl⟩
  have e : ∀ k : Nat, (G.dirs k d : Rat) * (2 * G.lin d (mid k)) = (ind (G.s (G.fr d) ≤ (k : Int)) : Rat) * (q ((k : Int) + 1) - q k) - (ind (G.s (G.tx d) ≤ (k : Int)) : Rat) * (q ((k : Int) + 1) - q k) := fun k => by
    rw [hlin, hq, hq]
    unfold mid dirs
    simp only [Rat.intCast_sub, Rat.intCast_add]
    have : ((1 : Int) : Rat) = 1 := rfl
    rw [this]
    grind
  rw [smr_congr fun k _ => e k, smr_sub, smr_tele q _ h1.1, smr_tele q _ h2.1, if_pos h1.2, if_pos h2.2, hq, hq, hq]
  grind
theorem Ok.area_is (O : G.Ok bef) {c : Nat → Bool} (hc : G.Inv c) {n : Nat} (hb : ∀ d, d < G.M → 0 ≤ G.s (G.fr d) ∧ G.s (G.fr d) ≤ n) :
    ((G.AR c : Int) : Rat) = smr n (fun k => smr G.M (fun d => -2 * (if c d = true then (G.dirs k d : Rat) * G.lin d (mid k) else 0))) := by
  have hb' : ∀ d, d < G.M → 0 ≤ G.s (G.tx d) ∧ G.s (G.tx d) ≤ n := fun d hd => by have := hb (G.tw d) (O.tw_lt d hd); rwa [O.fr_tw d hd] at this
  have f0 := O.flow hc (fun v => G.s v * G.t v)
  have f1 : ((G.AR c : Int) : Rat) = ((G.AR c - sm G.M (fun d => if c d = true then G.s (G.tx d) * G.t (G.tx d) - G.s (G.fr d) * G.t (G.fr d) else 0) : Int) : Rat) := by rw [f0]; simp
  rw [f1]
  unfold AR
  rw [← sm_sub, smr_cast, ← smr_swap]
  refine smr_congr fun d hd => ?_
  rw [smr_mul]
  by_cases h : c d = true
  · simp only [h, if_true]
    have := O.strips hd (hb d hd) (hb' d hd)
    have e : smr n (fun k => (G.dirs k d : Rat) * (2 * G.lin d (mid k))) = 2 * smr n (fun k => (G.dirs k d : Rat) * G.lin d (mid k)) := by
      rw [← smr_mul]; exact smr_congr fun k _ => by grind
    rw [e] at this
    unfold cr
    simp only [Rat.intCast_sub, Rat.intCast_mul]
    grind
  · simp only [h]
    simp [smr_nil]
def strip (G : Pl) (c : Nat → Bool) (k : Int) : List (Rat × Int) := ((List.range G.M).filter fun d => decide (G.dirs k d ≠ 0)).map fun d => (G.lin d (mid k), if c d = true then G.dirs k d else 0)
theorem filter_sum {α : Type} [Add α] [Zero α] (h0 : ∀ a : α, 0 + a = a) (l : List Nat) (p : Nat → Bool) (f : Nat → α) (h : ∀ x, x ∈ l → p x = false → f x = 0) : ((l.filter p).map f).sum = (l.map f).sum := by
  induction l with
  | nil => rfl
  | cons x t ih =>
    have ih := ih fun y hy => h y (List.mem_cons_of_mem _ hy)
    cases hp : p x
    · rw [List.filter_cons_of_neg (by rw [hp]; simp), ih, List.map_cons, List.sum_cons, h x (List.mem_cons_self ..) hp, h0]
    · rw [List.filter_cons_of_pos hp, List.map_cons, List.sum_cons, ih, List.map_cons, List.sum_cons]
theorem Ok.strip_upTo (O : G.Ok bef) (c : Nat → Bool) (k : Int) {x : Nat} (hf : G.fwd x) : upTo (G.strip c k) (G.lin x (mid k)) = G.L c x k := by
  unfold upTo strip L sm
  rw [List.map_map, filter_sum (by simp)]
  · congr 1
    refine List.map_congr_left fun d _ => ?_
    have e : G.cnt k x d ↔ G.lin d (mid k) ≤ G.lin x (mid k) := by unfold cnt under; rw [if_pos hf]; grind
    by_cases h : c d = true
    · by_cases h2 : G.lin d (mid k) ≤ G.lin x (mid k)
      · simp [h, h2, e.2 h2]
      · have : ¬ G.cnt k x d := fun q => h2 (e.1 q)
        simp [h, h2, this]
    · simp [h]
  · intro d _ hp
    have : G.dirs k d = 0 := by simpa using hp
    simp [this]
theorem Ok.strip_sum (O : G.Ok bef) {c : Nat → Bool} (hc : G.Inv c) (k : Int) (Y : Rat) : wsum (G.strip c k) Y = smr G.M (fun d => -(if c d = true then (G.dirs k d : Rat) * G.lin d (mid k) else 0)) := by
  have f0 := O.flow hc (fun v => -ind (G.s v ≤ k))
  have f1 : sm G.M (fun d => if c d = true then G.dirs k d else 0) = 0 := by
    rw [← f0]; exact sm_congr fun d _ => by unfold dirs; split <;> omega
  have f2 : smr G.M (fun d => Y * ((if c d = true then G.dirs k d else 0 : Int) : Rat)) = 0 := by
    rw [smr_mul, ← smr_cast, f1]; exact Rat.mul_zero _
  unfold wsum strip
  rw [List.map_map, filter_sum (by intro a; grind)]
  · have : smr G.M (fun d => -(if c d = true then (G.dirs k d : Rat) * G.lin d (mid k) else 0)) = smr G.M (fun d => -(if c d = true then (G.dirs k d : Rat) * G.lin d (mid k) else 0)) + smr G.M (fun d => Y * ((if c d = true then G.dirs k d else 0 : Int) : Rat)) := by rw [f2]; grind
    rw [this, ← smr_add]
    show smr G.M _ = _
    refine smr_congr fun d _ => ?_
    by_cases h : c d = true
    · simp only [h, if_true, Function.comp]; grind
    · simp [h]; grind
  · intro d _ hp
    have : G.dirs k d = 0 := by simpa using hp
    simp [this]
theorem dirs_ne {k : Int} {d : Nat} (h : G.dirs k d ≠ 0) : G.spans k d := by
  apply Classical.byContradiction
  exact fun q => h (dirs_out q)
theorem above_all (l : List (Rat × Int)) : ∃ Y, ∀ p, p ∈ l → p.1 < Y := by
  by_cases hl : l = []
  · subst hl; exact ⟨0, by simp⟩
  · obtain ⟨p, _, h⟩ := exists_top l hl
    exact ⟨p.1 + 1, fun q hq => by have := h q hq; grind⟩
/-- a set of closed walks that misses the outer dart has an area that is not negative, and a positive one if it has a dart -/
theorem Ok.area_pos (O : G.Ok bef) (hC : G.Conn) {n : Nat} (hb : ∀ d, d < G.M → 0 ≤ G.s (G.fr d) ∧ G.s (G.fr d) ≤ n) {d0 : Nat} (h0 : d0 < G.M) (hout : ∀ c, G.Inv c → G.L c d0 (G.st d0) = 0)
    {c : Nat → Bool} (hc : G.Inv c) (hcd : c d0 = false) : 0 ≤ G.AR c ∧ ((∃ d, d < G.M ∧ c d = true) → 0 < G.AR c) := by
  have val : ∀ x, x < G.M → ∀ k, G.spans k x → G.L c x k = ind (c x = true) := fun x hx k hs => by
    rw [O.along_all hc hx hs (O.st_spans hx)]
    have := O.psi_all hC hc hx h0
    unfold psi at this
    rw [hout c hc, hcd] at this
    have e : ind (false = true) = 0 := rfl
    omega
  have ind0 : ∀ b : Bool, 0 ≤ ind (b = true) := fun b => by unfold ind; split <;> omega
  have front : ∀ x, x < G.M → ∀ k, G.spans k x → ∃ y, y < G.M ∧ G.spans k y ∧ G.fwd y ∧ G.lin y (mid k) = G.lin x (mid k) := fun x hx k hs => by
    by_cases f : G.fwd x
    · exact ⟨x, hx, hs, f, rfl⟩
    · exact ⟨G.tw x, O.tw_lt x hx, (O.spans_tw hx _).2 hs, (O.fwd_tw hx).2 f, O.lin_tw hx _⟩
  have mem : ∀ k p, p ∈ G.strip c k → ∃ x, x < G.M ∧ G.spans k x ∧ G.fwd x ∧ p.1 = G.lin x (mid k) := fun k p hp => by
    unfold strip at hp
    obtain ⟨d, hd, rfl⟩ := List.mem_map.1 hp
    simp only [List.mem_filter, List.mem_range, decide_eq_true_iff] at hd
    obtain ⟨y, h1, h2, h3, h4⟩ := front d hd.1 k (dirs_ne hd.2)
    exact ⟨y, h1, h2, h3, h4.symm⟩
  have S : ∀ k p, p ∈ G.strip c k → 0 ≤ upTo (G.strip c k) p.1 := fun k p hp => by
    obtain ⟨x, h1, h2, h3, h4⟩ := mem k p hp
    rw [h4, O.strip_upTo c k h3, val x h1 k h2]
    exact ind0 _
  have A := O.area_is hc hb
  have parts : ∀ k : Int, smr G.M (fun d => -2 * (if c d = true then (G.dirs k d : Rat) * G.lin d (mid k) else 0)) = 2 * smr G.M (fun d => -(if c d = true then (G.dirs k d : Rat) * G.lin d (mid k) else 0)) := fun k => by
    rw [← smr_mul]; exact smr_congr fun d _ => by grind
  have pos : ∀ k : Int, 0 ≤ smr G.M (fun d => -2 * (if c d = true then (G.dirs k d : Rat) * G.lin d (mid k) else 0)) ∧ ((∃ x, x < G.M ∧ G.spans k x ∧ G.fwd x ∧ c x = true) → 0 < smr G.M (fun d => -2 * (if c d = true then (G.dirs k d : Rat) * G.lin d (mid k) else 0))) := fun k => by
    obtain ⟨Y, hY⟩ := above_all (G.strip c k)
    obtain ⟨a1, a2⟩ := abel _ (G.strip c k) (Nat.le_refl _) (S k) Y (fun p hp => Rat.le_of_lt (hY p hp))
    rw [O.strip_sum hc k Y] at a1 a2
    rw [parts]
    refine ⟨by grind, ?_⟩
    rintro ⟨x, h1, h2, h3, h4⟩
    have hp : (G.lin x (mid k), if c x = true then G.dirs k x else 0) ∈ G.strip c k := by
      unfold strip
      refine List.mem_map.2 ⟨x, ?_, rfl⟩
      simp only [List.mem_filter, List.mem_range, decide_eq_true_iff]
      refine ⟨h1, ?_⟩
      rw [dirs_in h2, if_pos h3]; omega
    have := a2 ⟨_, hp, by
      show 1 ≤ upTo _ (G.lin x (mid k))
      rw [O.strip_upTo c k h3, val x h1 k h2, h4]; unfold ind; rw [if_pos rfl]; omega, hY _ hp⟩
    grind
  constructor
  · have : (0 : Rat) ≤ ((G.AR c : Int) : Rat) := by rw [A]; exact smr_nonneg fun k _ => (pos k).1
    exact_mod_cast this
  · rintro ⟨d, hd, hcd⟩
    have hfw : ∃ x, x < G.M ∧ G.fwd x ∧ c x = true := by
      apply Classical.byContradiction
      intro hno
      have f0 := O.flow hc (fun v => -G.s v)
      have hall : ∀ x, x < G.M → c x = true → 0 < G.s (G.fr x) - G.s (G.tx x) := fun x hx h => by
        have := O.ne x hx
        have : ¬ G.fwd x := fun f => hno ⟨x, hx, f, h⟩
        unfold fwd at this; omega
      have := sm_pos_one (n := G.M) (f := fun d => if c d = true then -G.s (G.tx d) - -G.s (G.fr d) else 0) (fun i hi => by
        by_cases h : c i = true
        · have := hall i hi h; simp only [h, if_true]; omega
        · simp [h]) d hd (by have := hall d hd hcd; simp only [hcd, if_true]; omega)
      omega
    obtain ⟨x, h1, h2, h3⟩ := hfw
    have hs := O.st_spans h1
    have hst : G.st x = G.s (G.fr x) := by unfold st; rw [if_pos h2]
    have b1 := hb x h1
    have b2 := hb (G.tw x) (O.tw_lt x h1)
    rw [O.fr_tw x h1] at b2
    have h2' := h2
    unfold fwd at h2'
    have hk : ((G.s (G.fr x)).toNat : Int) = G.s (G.fr x) := by omega
    have : (0 : Rat) < ((G.AR c : Int) : Rat) := by
      rw [A]
      refine smr_pos (fun k _ => (pos k).1) (G.s (G.fr x)).toNat (by omega) ?_
      rw [hk]
      exact (pos _).2 ⟨x, h1, by rw [← hst]; exact hs, h2, h3⟩
    exact_mod_cast this
theorem Ok.area_all (O : G.Ok bef) : sm G.M G.cr = 0 := by
  have h := sm_turns O.twins G.cr
  have h2 : sm G.M (fun i => G.cr (G.tw i)) = -sm G.M G.cr := by
    rw [← sm_neg]
    refine sm_congr fun d hd => ?_
    unfold cr; rw [O.fr_tw d hd, O.to_tw d hd]
    have := Int.mul_comm (G.s (G.tx d)) (G.t (G.fr d))
    have := Int.mul_comm (G.t (G.tx d)) (G.s (G.fr d))
    omega
  omega
/-- of the sets of closed walks, those that have the outer dart have an area that is not positive, all others that have a dart a positive one -/
theorem Ok.areas (O : G.Ok bef) (hC : G.Conn) {n : Nat} (hb : ∀ d, d < G.M → 0 ≤ G.s (G.fr d) ∧ G.s (G.fr d) ≤ n) (h0 : 0 < G.M) :
    ∃ d0, d0 < G.M ∧ ∀ c, G.Inv c → (c d0 = true → G.AR c ≤ 0) ∧ (c d0 = false → (∃ d, d < G.M ∧ c d = true) → 0 < G.AR c) := by
  obtain ⟨d0, h1, h2⟩ := O.outer h0
  refine ⟨d0, h1, fun c hc => ⟨fun h => ?_, fun h => (O.area_pos hC hb h1 h2 hc h).2⟩⟩
  have hn : G.Inv (fun d => !c d) := fun d hd => by show (!c (G.nx d)) = !c d; rw [hc d hd]
  have := (O.area_pos hC hb h1 h2 hn (by show (!c d0) = false; rw [h]; rfl)).1
  have e : G.AR c + G.AR (fun d => !c d) = 0 := by
    rw [← O.area_all]
    unfold AR
    rw [← sm_add]
    refine sm_congr fun d _ => ?_
    cases h : c d <;> simp [h]
  omega
end Pl
end Go.Proofs.Ytdhppajfdcfikaa
