/- What the law FnWalks asks of the walks of a window. No program. -/
import Derived.Test.YtdhppajfdcfikaaM9
namespace Go.Proofs.Ytdhppajfdcfikaa
open Go.ChangeShapes Go.WideShapes Go.ChangeAt Go.RowKit
set_option maxHeartbeats 2000000
set_option linter.unusedSimpArgs false
set_option linter.unusedVariables false
theorem dart_is {ns ls : List (Int × Int)} (hok : winOkB ns ls = true) {d : Nat} (hd : d < 2 * ls.length) : isDart ns ls (d : Int) = true := by
  unfold isDart inB
  rw [hok]
  simp only [Bool.true_and, decide_eq_true_iff]
  omega
theorem seenP_walk {ns ls : List (Int × Int)} (hok : winOkB ns ls = true) {n : Nat} (hn : n < 2 * ls.length) {e : Nat} (he : e ∈ wk (nxN ns ls) (2 * ls.length) n) (hs : seenP ns ls n n = false) : seenP ns ls n e = false := by
  have T := next_turns (win_facts hok)
  rw [← Bool.not_eq_true] at hs ⊢
  intro h
  apply hs
  unfold seenP at h ⊢
  obtain ⟨l, hl, hel⟩ := (fc_any _ _ _ _).1 h
  obtain ⟨d, hd, rfl⟩ := fc_wk _ _ _ _ hl
  refine (fc_any _ _ _ _).2 ⟨_, hl, ?_⟩
  exact T.wk_trans (by omega) hel (T.wk_symm hn he)
theorem walk_round {ns ls : List (Int × Int)} (hok : winOkB ns ls = true) {n : Nat} (hn : n < 2 * ls.length) : woF ns ls (n : Int) = walkI ns ls n ∧ waF ns ls (n : Int) = areaL ns ls (walkI ns ls n) ∧ (walkI ns ls n)[0]? = some (n : Int) ∧ 0 < (walkI ns ls n).length ∧ (walkI ns ls n).length ≤ 2 * ls.length ∧ (-1000000 ≤ areaL ns ls (walkI ns ls n) ∧ areaL ns ls (walkI ns ls n) ≤ 1000000) := by
  have F := win_facts hok
  have T := next_turns F
  obtain ⟨h1, h2, _⟩ := T.per_law hn
  have e : woF ns ls (n : Int) = walkI ns ls n := by
    unfold woF; rw [if_pos (dart_is hok hn)]; rfl
  have hlen := walkI_len ns ls n
  refine ⟨e, by unfold waF; rw [e], ?_, by omega, by omega, ?_⟩
  · unfold walkI; rw [List.getElem?_map, wk_get _ _ _ _ (by omega)]; rfl
  · have hb := F.area_bd (walkI_darts F hn) (walkI ns ls n).length (Nat.le_refl _)
    rw [List.take_length] at hb
    have := F.m2
    omega
theorem walk_at {ns ls : List (Int × Int)} (hok : winOkB ns ls = true) {n : Nat} (hn : n < 2 * ls.length) {i : Nat} (hi : i < (walkI ns ls n).length) : ∃ e x : Nat, (walkI ns ls n)[i]? = some (e : Int) ∧ (wk (nxN ns ls) (2 * ls.length) n)[i]? = some e ∧ (walkI ns ls n)[(i + 1) % (walkI ns ls n).length]? = some (x : Int) ∧ e < 2 * ls.length ∧ ndF ns ls (e : Int) = (x : Int) ∧ dtF ns ls (e : Int) = dfF ns ls (x : Int) ∧ swF ns ls (n : Int) (e : Int) = true ∧ (seenP ns ls n n = false → seenP ns ls n e = false) := by
  have F := win_facts hok
  have T := next_turns F
  have hlen := walkI_len ns ls n
  have hip : i < per (nxN ns ls) (2 * ls.length) n := by omega
  have heN := T.it_lt hn i
  have hg := wk_get (nxN ns ls) (2 * ls.length) n i hip
  obtain ⟨x, h1, h2, h3, h4⟩ := next_is F heN
  have hmem : it (nxN ns ls) i n ∈ wk (nxN ns ls) (2 * ls.length) n := List.mem_of_getElem? hg
  refine ⟨it (nxN ns ls) i n, x, ?_, hg, ?_, heN, ?_, ?_, ?_, seenP_walk hok hn hmem⟩
  · unfold walkI; rw [List.getElem?_map, hg]; rfl
  · rw [hlen]; unfold walkI; rw [List.getElem?_map, T.wk_next hn hip, h2]; rfl
  · unfold ndF; rw [if_pos (dart_is hok heN)]; exact h1
  · unfold dtF dfF; rw [if_pos (dart_is hok heN), if_pos (dart_is hok h3)]; exact h4.symm
  · unfold swF
    rw [(walk_round hok hn).1, decide_eq_true_iff]
    unfold walkI
    exact List.mem_map.2 ⟨_, hmem, rfl⟩
/-- the areas of the walks that the first n darts found -/
def smW (ns ls : List (Int × Int)) (n : Nat) : Int := ((fcI ns ls n).map (areaL ns ls)).sum
theorem smW_same {ns ls : List (Int × Int)} {n : Nat} (h : seenP ns ls n n = true) : smW ns ls (n + 1) = smW ns ls n := by unfold smW; rw [fcI_yes h]
theorem smW_next {ns ls : List (Int × Int)} {n : Nat} (h : seenP ns ls n n = false) : smW ns ls (n + 1) = smW ns ls n + areaL ns ls (walkI ns ls n) := by unfold smW; rw [fcI_no h]; simp
theorem smW_zero {ns ls : List (Int × Int)} : smW ns ls 0 = 0 := rfl
theorem smW_bd {ns ls : List (Int × Int)} (hok : winOkB ns ls = true) : ∀ n, n ≤ 2 * ls.length → -1000000 * (n : Int) ≤ smW ns ls n ∧ smW ns ls n ≤ 1000000 * (n : Int)
  | 0, _ => by rw [smW_zero]; omega
  | n + 1, hn => by
    have ih := smW_bd hok n (by omega)
    have := (walk_round hok (n := n) (by omega)).2.2.2.2.2
    cases hs : seenP ns ls n n
    · rw [smW_next hs]; omega
    · rw [smW_same hs]; omega
theorem smW_all {ns ls : List (Int × Int)} (hok : winOkB ns ls = true) : smW ns ls (2 * ls.length) = 0 := areas_zero (win_facts hok)
end Go.Proofs.Ytdhppajfdcfikaa
