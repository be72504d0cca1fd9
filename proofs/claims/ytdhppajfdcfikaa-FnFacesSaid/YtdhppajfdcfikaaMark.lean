/- What the laws' helpers do that mark a slice of ints, look for the marks and compare two slices of ints. No condition but the sizes that are named. -/
import Derived.Test.YtdhppajfdcfikaaLeadsAt
namespace Go.Proofs.Ytdhppajfdcfikaa
open Go.ChangeShapes Go.WideShapes Go.ChangeAt Go.RowKit
set_option maxHeartbeats 1000000
set_option linter.unusedSimpArgs false
set_option linter.unusedVariables false
/-- the value is a slice of these ints -/
def IntsAt (w : World) (v : Value) (xs : List Int) : Prop :=
  ∃ A c, v = .slice A xs.length c ∧ xs.length ≤ 1000000000 ∧ ∀ i x, xs[i]? = some x → ∃ b off, A = some ⟨b, off, none⟩ ∧ b < w.heap.size ∧ w.cell? ⟨b, off + i, none⟩ = some (.int .i64 x)
theorem IntsAt.below {w w' : World} {v : Value} {xs : List Int} (h : IntsAt w v xs) (hb : Below w.heap.size w w') : IntsAt w' v xs := by
  obtain ⟨A, c, h1, h2, h3⟩ := h
  refine ⟨A, c, h1, h2, fun i x hi => ?_⟩
  obtain ⟨b, off, e1, e2, e3⟩ := h3 i x hi
  exact ⟨b, off, e1, Nat.lt_of_lt_of_le e2 hb.size, by rw [hb.cell (p := ⟨b, _, none⟩) e2]; exact e3⟩
theorem ints_get (xs : List Int) (i : Nat) (x : Int) (h : xs[i]? = some x) : (ints xs)[i]? = some (.int .i64 x) := by simp [ints, h]
theorem OwnInts.at_ {B : Nat} {w : World} {v : Value} {xs : List Int} (h : OwnInts B w v xs) (hn : xs.length ≤ 1000000000) : IntsAt w v xs := by
  rcases h.2 with ⟨h1, h2⟩ | ⟨g, cap, cur, h1, h2, h3, h4⟩
  · have hx : xs = [] := List.eq_nil_of_length_eq_zero h2
    subst hx
    exact ⟨none, 0, h1, by simp, fun i x hi => by simp at hi⟩
  · have hg : g < w.heap.size := by
      rcases Nat.lt_or_ge g w.heap.size with hlt | hge
      · exact hlt
      · rw [Array.getElem?_eq_none hge] at h3; cases h3
    refine ⟨_, cap, h1, hn, fun i x hi => ⟨g, 0, rfl, hg, ?_⟩⟩
    have hi2 : i < xs.length := by
      rcases Nat.lt_or_ge i xs.length with h' | h'
      · exact h'
      · rw [List.getElem?_eq_none h'] at hi; cases hi
    subst h1
    have := World.ownsRow.cellAt h i (by omega)
    rw [show 0 + i = i by omega, this]
    exact ints_get xs i x hi
def marks (k : Int) (n : Nat) : List Int := (List.range n).map (fun i : Nat => k + (i : Int))
theorem marks_len (k : Int) (n : Nat) : (marks k n).length = n := by simp [marks]
theorem marks_get (k : Int) (n i : Nat) (h : i < n) : (marks k n)[i]? = some (k + (i : Int)) := by simp [marks, h]
theorem marks_succ (k : Int) (n : Nat) : marks k (n + 1) = marks k n ++ [k + (n : Int)] := by simp [marks, List.range_succ]
theorem ints_append (a b : List Int) : ints (a ++ b) = ints a ++ ints b := by simp [ints]
theorem mark_step (k : Int) (xs : List Int) (j : Nat) (hj : j < xs.length) : (ints (marks k j ++ xs.drop j)).set j (.int .i64 (k + (j : Int))) = ints (marks k (j + 1) ++ xs.drop (j + 1)) := by
  have e : xs.drop j = xs[j] :: xs.drop (j + 1) := List.drop_eq_getElem_cons hj
  rw [marks_succ, e, ints_append, ints_append, ints_append]
  have hl : (ints (marks k j)).length = j := by simp [ints, marks_len]
  generalize xs.drop (j + 1) = t
  generalize xs[j] = x
  have e2 : ints (x :: t) = .int .i64 x :: ints t := rfl
  have e3 : ints [k + (j : Int)] = [.int .i64 (k + (j : Int))] := rfl
  rw [List.set_append_right _ _ (by omega), hl, Nat.sub_self, e2, e3, List.set_cons_zero, List.append_assoc, List.singleton_append]
def Marked (B : Nat) (v : Value) (k : Int) (n : Nat) (w : World) (e : Ending) (w' : World) : Prop := e = .returned (.int .i64 (k + (n : Int))) ∧ OwnInts B w' v (marks k n) ∧ w.grownBy w' v.ownBlock
theorem markIntS_any (B : Nat) (v : Value) (xs : List Int) (k : Int) (w : World) (h : OwnInts B w v xs) (hn : xs.length ≤ 1000000000) (h0 : 0 ≤ k) (h1 : k ≤ 1000000000) : Calls Try.prog 27 #[v, .int .i64 k] w (Marked B v k xs.length w) := by
  have H := hid h
  obtain ⟨A, c, hv⟩ := own_form h
  subst hv
  clear h
  go_enter Try.func27, Try.ntmps27
  go_wp2_with fail
  go_loopw [1, 5] (fun s i wr => ∃ j : Nat, j ≤ xs.length ∧ i = .int .i64 j ∧ s = .int .i64 (k + (j : Int)) ∧ Hid (wr.ownsRow B 3 1 (.slice A xs.length c) xs.length (ints (marks k j ++ xs.drop j))) ∧ Hid (w.grownBy wr (Value.slice A xs.length c).ownBlock)) (fun _ i _ => xs.length - (intOf i).toNat)
  case atStart => exact ⟨0, Nat.zero_le _, rfl, by simp, hid (by simpa [marks, OwnInts] using H.out), hid (World.grownBy.refl w _)⟩
  case round =>
    obtain ⟨j, hj, rfl, rfl, ho, hg⟩ := hrel
    by_cases hlt : j < xs.length
    · have hA : ∃ g, A = some ⟨g, 0, none⟩ := by
        rcases ho.out.2 with ⟨h', h''⟩ | ⟨g, cap, cur, h', _⟩
        · omega
        · injection h' with h' _ _; exact ⟨g, h'⟩
      obtain ⟨g, rfl⟩ := hA
      have hlen : j < (ints (marks k j ++ xs.drop j)).length := by simp [ints, marks_len]; omega
      have hc : wr.cell? ⟨g, j, none⟩ = some ((ints (marks k j ++ xs.drop j))[j]'hlen) := by
        rw [World.ownsRow.cellAt ho.out j (by omega)]; exact List.getElem?_eq_getElem hlen
      generalize (ints (marks k j ++ xs.drop j))[j]'hlen = old at hc
      clear hlen
      have hf : wr.frozen? ⟨g, j, none⟩ = false := World.ownsRow.frozenAt ho.out j
      have hj0 : (0 : Int) ≤ (j : Int) := by omega
      have hj1 : (j : Int) < (xs.length : Int) := by omega
      go_wp2
      go_roundw
      case rel =>
        have st := World.ownsRow.stored ho.out j (.int .i64 (k + (j : Int)))
        refine ⟨j + 1, by omega, by go_num, by go_num, hid ?_, hid ?_⟩
        · rw [← mark_step k xs j hlt]; exact st.1
        · exact hg.out.trans st.2
      case measure => simp [intOf]; omega
    · have he : j = xs.length := by omega
      subst he
      go_wp2
      go_ret
      exact ⟨rfl, by unfold OwnInts; rw [marks_len]; have := ho.out; rwa [List.drop_length, List.append_nil] at this, hg.out⟩
theorem heldIntS_any (v : Value) (n : Nat) (k : Int) (w : World) (h : IntsAt w v (marks k n)) (h0 : 0 ≤ k) (h1 : k ≤ 1000000000) : Calls Try.prog 28 #[v, .int .i64 k] w fun e w' => e = .returned (.int .i64 (k + (n : Int))) ∧ w = w' := by
  obtain ⟨A, c, rfl, hn, hcell⟩ := h
  rw [marks_len] at hn
  have HC := hid hcell
  clear hcell
  rw [marks_len]
  go_enter Try.func28, Try.ntmps28
  go_wp2_with fail
  go_loop [1, 5] (fun s i => ∃ j : Nat, j ≤ n ∧ i = .int .i64 j ∧ s = .int .i64 (k + (j : Int))) (fun _ i => n - (intOf i).toNat)
  case atStart => exact ⟨0, Nat.zero_le _, rfl, by simp⟩
  case round =>
    obtain ⟨j, hj, rfl, rfl⟩ := hrel
    by_cases hlt : j < n
    · obtain ⟨b, off, rfl, hbb, hc⟩ := HC.out j _ (marks_get k n j hlt)
      have hj0 : (0 : Int) ≤ (j : Int) := by omega
      have hj1 : (j : Int) < (n : Int) := by omega
      go_wp2
      go_round
      case rel => exact ⟨j + 1, by omega, by go_num, by go_num⟩
      case measure => simp [intOf]; omega
    · have he : j = n := by omega
      subst he
      go_wp2
      go_ret
      exact ⟨rfl, rfl⟩
theorem eqIntS_same (v v' : Value) (xs : List Int) (w : World) (hv : IntsAt w v xs) (hv' : IntsAt w v' xs) : Calls Try.prog 25 #[v, v'] w fun e w' => e = .returned (.bool true) ∧ Below w.heap.size w w' := by
  obtain ⟨A, c, rfl, hn, hcell⟩ := hv
  obtain ⟨A', c', rfl, _, hcell'⟩ := hv'
  have HC := hid hcell
  have HC' := hid hcell'
  clear hcell hcell'
  go_enter Try.func25, Try.ntmps25
  go_wp2
  go_loopw [5] (fun i wr => ∃ k : Nat, k ≤ xs.length ∧ i = .int .i64 k ∧ Below w.heap.size w wr) (fun i _ => xs.length - (intOf i).toNat)
  case atStart => exact ⟨0, Nat.zero_le _, rfl, Below.refl _ _⟩
  case round =>
    obtain ⟨k, hk, rfl, hb⟩ := hrel
    by_cases hlt : k < xs.length
    · obtain ⟨x, hxy⟩ : ∃ p, xs[k]? = some p := ⟨_, List.getElem?_eq_getElem hlt⟩
      obtain ⟨b, off, rfl, hbb, h1⟩ := HC.out k x hxy
      obtain ⟨b', off', rfl, hbb', h3⟩ := HC'.out k x hxy
      have hbs := hb.size
      have h1' : ∀ p, (mv wr p).cell? ⟨b, off + k, none⟩ = some (.int .i64 x) := fun p => cell_mv (by omega) (by rw [hb.cell (p := ⟨b, _, none⟩) hbb]; exact h1) p
      have h3' : ∀ p, (mv wr p).cell? ⟨b', off' + k, none⟩ = some (.int .i64 x) := fun p => cell_mv (by omega) (by rw [hb.cell (p := ⟨b', _, none⟩) hbb']; exact h3) p
      have hk0 : (0 : Int) ≤ (k : Int) := by omega
      have hk1 : (k : Int) < (xs.length : Int) := by omega
      have HB := hid hb
      clear h1 h3 hxy hb
      go_wp2_with fail
      refine wp_region_mv (by kernel_rfl) (by kernel_rfl) ?_
      repeat (go_big_quiet_step (fail))
      refine wpQuiet_nil ?_
      intro _ hw'
      obtain ⟨q, hw''⟩ := hw'
      subst hw''
      go_wp2
      go_roundw
      case rel => exact ⟨k + 1, by omega, by go_num, then_ HB.out (below_mv _ q) hbs⟩
      case measure => simp [intOf]; omega
    · go_wp2
      go_ret
      exact ⟨rfl, hb⟩
end Go.Proofs.Ytdhppajfdcfikaa
