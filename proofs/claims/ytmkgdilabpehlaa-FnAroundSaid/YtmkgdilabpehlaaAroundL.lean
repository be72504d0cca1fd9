/- What the law FnAround asks of the darts around the nodes of a window. No program in sight. -/
import Derived.Test.YtmkgdilabpehlaaWalkP
import Derived.Test.YtmkgdilabpehlaaDartc
namespace Go.Proofs.Ytmkgdilabpehlaa
open Go.ChangeShapes Go.WideShapes Go.ChangeAt Go.RowKit
set_option maxHeartbeats 1000000
set_option linter.unusedSimpArgs false
set_option linter.unusedVariables false
/-- how many of the first n darts go from the first k nodes -/
def toA (ls : List (Int × Int)) (n : Nat) : Nat → Nat
  | 0 => 0
  | k + 1 => toA ls n k + (dartsAt ls (k : Int) n).length
theorem toA_zero (ls : List (Int × Int)) : ∀ k, toA ls 0 k = 0
  | 0 => rfl
  | k + 1 => by unfold toA; rw [toA_zero ls k]; simp [dartsAt]
theorem toA_succ (ls : List (Int × Int)) (n a : Nat) (h : dFrom ls (n : Int) = (a : Int)) : ∀ k, toA ls (n + 1) k = toA ls n k + if a < k then 1 else 0
  | 0 => by simp [toA]
  | k + 1 => by
    have ih := toA_succ ls n a h k
    unfold toA
    rw [ih]
    by_cases e : a = k
    · have e2 : dFrom ls (n : Int) = (k : Int) := by rw [h, e]
      rw [dartsAt, if_pos e2, List.length_append, if_neg (by omega), if_pos (by omega)]
      simp only [List.length_cons, List.length_nil]
      omega
    · have e2 : ¬ dFrom ls (n : Int) = (k : Int) := by rw [h]; omega
      rw [dartsAt, if_neg e2]
      by_cases e3 : a < k
      · rw [if_pos e3, if_pos (by omega)]; omega
      · rw [if_neg e3, if_neg (by omega)]; omega
theorem WinFacts.toA_all {ns ls : List (Int × Int)} (h : WinFacts ns ls) : ∀ n, n ≤ 2 * ls.length → toA ls n ns.length = n
  | 0, _ => toA_zero ls _
  | n + 1, hn => by
    obtain ⟨a, b, h1, _, h3, _⟩ := h.ends (d := n) (by omega)
    rw [toA_succ ls n a h1, if_pos h3, h.toA_all n (by omega)]
/-- how many darts go from the first k nodes -/
def tot (ls : List (Int × Int)) (k : Nat) : Nat := toA ls (2 * ls.length) k
theorem tot_next (ns ls : List (Int × Int)) (k : Nat) : tot ls (k + 1) = tot ls k + (aroundF ns ls (k : Int)).length := by
  unfold tot aroundF
  rw [(aroundN_perm ns ls (k : Int) _).length_eq]
  rfl
theorem tot_all {ns ls : List (Int × Int)} (hok : winOkB ns ls = true) : tot ls ns.length = 2 * ls.length := (win_facts hok).toA_all _ (Nat.le_refl _)
theorem tot_bd {ns ls : List (Int × Int)} (hok : winOkB ns ls = true) : ∀ k, tot ls k ≤ 40 * k
  | 0 => Nat.le_refl _
  | k + 1 => by
    have ih := tot_bd (ns := ns) hok k
    have h := around_len ns ls (k : Int)
    have := (win_facts hok).m2
    rw [tot_next ns]; omega
theorem dart_yes {ns ls : List (Int × Int)} (hok : winOkB ns ls = true) {d : Nat} (hd : d < 2 * ls.length) : isDart ns ls (d : Int) = true := by
  unfold isDart inB
  rw [hok]
  simp only [Bool.true_and, decide_eq_true_iff]
  omega
theorem anF_is {ns ls : List (Int × Int)} (hok : winOkB ns ls = true) {k : Nat} (hk : k < ns.length) : anF ns ls (k : Int) = aroundF ns ls (k : Int) := by
  unfold anF
  rw [if_pos (by unfold isNode inB; rw [hok]; simp only [Bool.true_and, decide_eq_true_iff]; omega)]
theorem idx_is {l : List Int} (hn : l.Nodup) {i : Nat} {x : Int} (hi : l[i]? = some x) : l.idxOf x = i := nodup_inj hn (idx_get (List.mem_of_getElem? hi)) hi
theorem around_at {ns ls : List (Int × Int)} (hok : winOkB ns ls = true) {k : Nat} (hk : k < ns.length) {i : Nat} (hi : i < (aroundF ns ls (k : Int)).length) :
    ∃ e x : Nat, (aroundF ns ls (k : Int))[i]? = some (e : Int) ∧ e < 2 * ls.length ∧ (aroundF ns ls (k : Int))[(i + 1) % (aroundF ns ls (k : Int)).length]? = some (x : Int) ∧ x < 2 * ls.length ∧ dfF ns ls (e : Int) = (k : Int) ∧ nextF ns ls (e : Int) true = (x : Int) ∧ nextF ns ls (x : Int) false = (e : Int) := by
  have hn := around_nodup ns ls (k : Int)
  have hg : (aroundF ns ls (k : Int))[i]? = some ((aroundF ns ls (k : Int))[i]'hi) := List.getElem?_eq_getElem hi
  obtain ⟨e, h1, h2, h3⟩ := (mem_around ns ls _ _).1 (List.mem_of_getElem? hg)
  rw [h2] at hg
  have hj : (i + 1) % (aroundF ns ls (k : Int)).length < (aroundF ns ls (k : Int)).length := Nat.mod_lt _ (by omega)
  have hx : (aroundF ns ls (k : Int))[(i + 1) % (aroundF ns ls (k : Int)).length]? = some ((aroundF ns ls (k : Int))[(i + 1) % (aroundF ns ls (k : Int)).length]'hj) := List.getElem?_eq_getElem hj
  obtain ⟨x, g1, g2, g3⟩ := (mem_around ns ls _ _).1 (List.mem_of_getElem? hx)
  rw [g2] at hx
  refine ⟨e, x, hg, h1, hx, g1, ?_, ?_, ?_⟩
  · unfold dfF; rw [if_pos (dart_yes hok h1)]; exact h3
  · unfold nextF besF besL
    rw [if_pos (dart_yes hok h1), h3, idx_is hn hg]
    unfold turnI
    rw [if_pos rfl, List.getD, hx]
    rfl
  · unfold nextF besF besL
    rw [if_pos (dart_yes hok g1), g3, idx_is hn hx]
    have ht : turnI (aroundF ns ls (k : Int)).length ((i + 1) % (aroundF ns ls (k : Int)).length) false = i := by
      rw [turnI_false _ _ hj]
      by_cases hl : i + 1 = (aroundF ns ls (k : Int)).length
      · rw [hl, Nat.mod_self, if_pos rfl]; omega
      · rw [Nat.mod_eq_of_lt (by omega), if_neg (by omega)]; omega
    rw [ht, List.getD, hg]
    rfl
theorem around_bef {ns ls : List (Int × Int)} (hok : winOkB ns ls = true) {k : Nat} (hk : k < ns.length) {i : Nat} (h0 : 0 < i) (hi : i < (aroundF ns ls (k : Int)).length) :
    ∃ d e a b : Nat, (aroundF ns ls (k : Int))[i - 1]? = some (d : Int) ∧ (aroundF ns ls (k : Int))[i]? = some (e : Int) ∧ dtF ns ls (d : Int) = (a : Int) ∧ dtF ns ls (e : Int) = (b : Int) ∧ a < ns.length ∧ b < ns.length ∧
      bef (ptN ns k).1 (ptN ns k).2 (ptN ns a).1 (ptN ns a).2 (ptN ns b).1 (ptN ns b).2 = true := by
  have F := win_facts hok
  have hs := F.aroundN_sorted (k : Int) _ (Nat.le_refl _)
  have hg : (aroundF ns ls (k : Int))[i]? = some ((aroundF ns ls (k : Int))[i]'hi) := List.getElem?_eq_getElem hi
  have hj : i - 1 < (aroundF ns ls (k : Int)).length := by omega
  have hp : (aroundF ns ls (k : Int))[i - 1]? = some ((aroundF ns ls (k : Int))[i - 1]'hj) := List.getElem?_eq_getElem hj
  have hb : befD ns ls (k : Int) ((aroundF ns ls (k : Int))[i - 1]'hj) ((aroundF ns ls (k : Int))[i]'hi) = true := (List.pairwise_iff_getElem.1 hs) (i - 1) i hj hi (by omega)
  obtain ⟨e, h1, h2, h3⟩ := (mem_around ns ls _ _).1 (List.mem_of_getElem? hg)
  obtain ⟨d, g1, g2, g3⟩ := (mem_around ns ls _ _).1 (List.mem_of_getElem? hp)
  rw [h2] at hg
  rw [g2] at hp
  rw [h2, g2] at hb
  obtain ⟨_, b, _, b2, _, b4, _⟩ := F.ends h1
  obtain ⟨_, a, _, a2, _, a4, _⟩ := F.ends g1
  refine ⟨d, e, a, b, hp, hg, ?_, ?_, a4, b4, ?_⟩
  · unfold dtF; rw [if_pos (dart_yes hok g1)]; exact a2
  · unfold dtF; rw [if_pos (dart_yes hok h1)]; exact b2
  · rw [bef_bef0 (F.ok3 hk a4 b4)]
    unfold befD at hb
    rw [a2, b2] at hb
    simpa only [Int.toNat_natCast] using hb
theorem idxAt_of : ∀ (ls : List (Int × Int)) (x y : Int) (s : Nat) (k : Nat), ls[k]? = some (x, y) → (∀ j, j < k → ls[j]? ≠ some (x, y)) → idxAt ls x y (s : Int) = ((s + k : Nat) : Int)
  | [], x, y, s, k, h, _ => by simp at h
  | p :: t, x, y, s, 0, h, _ => by
    have : p = (x, y) := by simpa using h
    subst this
    unfold idxAt
    rw [if_pos (by simp [eqP])]
    omega
  | p :: t, x, y, s, k + 1, h, hn => by
    have h0 : p ≠ (x, y) := fun e => hn 0 (by omega) (by simp [e])
    have ih := idxAt_of t x y (s + 1) k (by simpa using h) (fun j hj => by have := hn (j + 1) (by omega); simpa using this)
    unfold idxAt
    have he : eqP x y p.1 p.2 = false := by
      unfold eqP
      simp only [decide_eq_false_iff_not]
      exact fun e => h0 (Prod.ext e.1.symm e.2.symm)
    rw [he]
    simp only [Bool.false_eq_true, if_false]
    rw [show ((s : Int) + 1) = ((s + 1 : Nat) : Int) by omega, ih]
    omega
theorem WinFacts.idx {ns ls : List (Int × Int)} (h : WinFacts ns ls) {k : Nat} (hk : k < ls.length) : idxP ls (ptN ls k).1 (ptN ls k).2 = (k : Int) := by
  have hg : ∀ j, j < ls.length → ls[j]? = some (ptN ls j) := fun j hj => by
    unfold ptN
    simp [List.getD, List.getElem?_eq_getElem hj]
  have := idxAt_of ls (ptN ls k).1 (ptN ls k).2 0 k (hg k hk) (fun j hj e => by
    rw [hg j (by omega)] at e
    have := h.twice (by omega) hk (Option.some.inj e)
    omega)
  unfold idxP
  simpa using this
theorem dart_round {ns ls : List (Int × Int)} (hok : winOkB ns ls = true) {d : Nat} (hd : d < 2 * ls.length) :
    twinF (d : Int) = ((twN d : Nat) : Int) ∧ dfF ns ls (d : Int) = dtF ns ls ((twN d : Nat) : Int) ∧ twinF ((twN d : Nat) : Int) = (d : Int) ∧ ∃ a b : Nat, dfF ns ls (d : Int) = (a : Int) ∧ dtF ns ls (d : Int) = (b : Int) ∧ a < ns.length ∧ b < ns.length ∧ dbF ns ls (a : Int) (b : Int) = (d : Int) := by
  have F := win_facts hok
  have m2 := F.m2
  have ht := twN_lt hd
  have tw : ∀ n : Nat, n < 2 * ls.length → twinF (n : Int) = ((twN n : Nat) : Int) := fun n hn => by
    unfold twinF twN inB
    rw [if_pos (by simp only [decide_eq_true_iff]; omega)]
    split <;> split <;> omega
  have tt : twN (twN d) = d := by unfold twN; split <;> split <;> omega
  refine ⟨tw d hd, ?_, by rw [tw _ ht, tt], ?_⟩
  · unfold dfF dtF
    rw [if_pos (dart_yes hok hd), if_pos (dart_yes hok ht)]
    obtain ⟨f, t, e1, _, _, h1⟩ := F.dart hd
    obtain ⟨g, u, e2, _, _, h2⟩ := F.dart ht
    have hh : twN d / 2 = d / 2 := by unfold twN; split <;> omega
    have hp : twN d % 2 ≠ d % 2 := by unfold twN; split <;> omega
    rw [hh, e1] at e2
    have q1 : (f : Int) = (g : Int) := congrArg Prod.fst e2
    have q2 : (t : Int) = (u : Int) := congrArg Prod.snd e2
    omega
  · obtain ⟨f, t, e, h1, h2, h3⟩ := F.dart hd
    have hi := F.idx (k := d / 2) (by omega)
    rw [e] at hi
    unfold dfF dtF
    rw [if_pos (dart_yes hok hd), if_pos (dart_yes hok hd)]
    unfold dbF lbF
    rw [hok]
    simp only [if_true]
    rcases h3 with ⟨hp, hf, hto⟩ | ⟨hp, hf, hto⟩
    · refine ⟨f, t, hf, hto, by omega, h2, ?_⟩
      rw [Int.min_eq_left (by omega), Int.max_eq_right (by omega), hi, if_neg (by omega), if_pos (by omega)]
      omega
    · refine ⟨t, f, hf, hto, h2, by omega, ?_⟩
      rw [Int.min_eq_right (by omega), Int.max_eq_left (by omega), hi, if_neg (by omega), if_neg (by omega)]
      omega
end Go.Proofs.Ytmkgdilabpehlaa
