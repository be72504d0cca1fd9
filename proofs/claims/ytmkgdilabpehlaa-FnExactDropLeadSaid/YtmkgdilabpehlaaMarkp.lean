/- What the laws' helpers do that mark a new window and look for the marks. No condition but the sizes that are named. -/
import Derived.Test.YtmkgdilabpehlaaMarkw
namespace Go.Proofs.Ytmkgdilabpehlaa
open Go.ChangeShapes Go.WideShapes Go.ChangeAt Go.RowKit
set_option maxHeartbeats 1000000
set_option linter.unusedSimpArgs false
set_option linter.unusedVariables false
def marksP (k : Int) (n : Nat) : List (Int × Int) := (List.range n).map (fun i : Nat => (k + 2 * (i : Int), k + 2 * (i : Int) + 1))
theorem marksP_len (k : Int) (n : Nat) : (marksP k n).length = n := by simp [marksP]
theorem marksP_get (k : Int) (n i : Nat) (h : i < n) : (marksP k n)[i]? = some (k + 2 * (i : Int), k + 2 * (i : Int) + 1) := by simp [marksP, h]
theorem marksP_succ (k : Int) (n : Nat) : marksP k (n + 1) = marksP k n ++ [(k + 2 * (n : Int), k + 2 * (n : Int) + 1)] := by simp [marksP, List.range_succ]
theorem flat_app (a b : List (Int × Int)) : flat (a ++ b) = flat a ++ flat b := by simp [flat]
theorem marksP_step (k : Int) (ns : List (Int × Int)) (j : Nat) (hj : j < ns.length) : ((flat (marksP k j ++ ns.drop j)).toArray.setIfInBounds (j * 2) (.int .i64 (k + 2 * (j : Int)))).setIfInBounds (j * 2 + 1) (.int .i64 (k + 2 * (j : Int) + 1)) = (flat (marksP k (j + 1) ++ ns.drop (j + 1))).toArray := by
  have e : ns.drop j = ns[j] :: ns.drop (j + 1) := List.drop_eq_getElem_cons hj
  rw [marksP_succ, e, flat_app, flat_app, flat_app]
  have hl : (flat (marksP k j)).length = j * 2 := by rw [flat_length, marksP_len]; omega
  generalize ns.drop (j + 1) = t
  generalize ns[j] = p
  have e2 : flat (p :: t) = .int .i64 p.1 :: .int .i64 p.2 :: flat t := rfl
  have e3 : flat [(k + 2 * (j : Int), k + 2 * (j : Int) + 1)] = [.int .i64 (k + 2 * (j : Int)), .int .i64 (k + 2 * (j : Int) + 1)] := rfl
  rw [e2, e3, List.setIfInBounds_toArray, List.setIfInBounds_toArray, List.set_append_right _ _ (by omega), hl, Nat.sub_self, List.set_cons_zero, List.set_append_right _ _ (by omega), hl, show j * 2 + 1 - j * 2 = 1 by omega, List.set_cons_succ, List.set_cons_zero, List.append_assoc]
  rfl
theorem markNodeS_all (B : Nat) (v : Value) (ns : List (Int × Int)) (k : Int) (w : World) (h : OwnPairs B 51 w v ns) (h0 : 0 ≤ k) (h1 : k ≤ 1000000000) : Calls Try.prog 62 #[v, .int .i64 k] w fun e w' => e = .returned (.int .i64 (k + 2 * (ns.length : Int))) ∧ OwnPairs B 51 w' v (marksP k ns.length) ∧ w.grownBy w' v.ownBlock := by
  obtain ⟨g, rfl, hB, hn, hb⟩ := h
  have H := hid hb
  clear hb
  go_enter Try.func62, Try.ntmps62
  go_wp2_with fail
  go_loopw [1, 5] (fun s i wr => ∃ j : Nat, j ≤ ns.length ∧ i = .int .i64 j ∧ s = .int .i64 (k + 2 * (j : Int)) ∧ Blk wr g 51 (flat (marksP k j ++ ns.drop j)).toArray ∧ w.grownBy wr (some g)) (fun _ i _ => ns.length - (intOf i).toNat)
  case atStart => exact ⟨0, Nat.zero_le _, rfl, by simp, by simpa [marksP] using H.out, World.grownBy.refl w _⟩
  case round =>
    obtain ⟨j, hj, rfl, rfl, hk, hg⟩ := hrel
    by_cases hlt : j < ns.length
    · have hl : (flat (marksP k j ++ ns.drop j)).length = 2 * ns.length := by rw [flat_length]; simp [marksP_len]; omega
      have f0 : wr.frozen? ⟨g, j * 2, none⟩ = false := hk.frozen _
      have f1 : wr.frozen? ⟨g, j * 2 + 1, none⟩ = false := hk.frozen _
      have c0 : wr.cell? ⟨g, j * 2, none⟩ = some ((flat (marksP k j ++ ns.drop j))[j * 2]'(by omega)) := by rw [hk.cell]; simp
      have c1 : wr.cell? ⟨g, j * 2 + 1, none⟩ = some ((flat (marksP k j ++ ns.drop j))[j * 2 + 1]'(by omega)) := by rw [hk.cell]; simp
      generalize (flat (marksP k j ++ ns.drop j))[j * 2]'(by omega) = o0 at c0
      generalize (flat (marksP k j ++ ns.drop j))[j * 2 + 1]'(by omega) = o1 at c1
      have HK := hid hk
      have HG := hid hg
      clear hk hg hl
      have hj0 : (0 : Int) ≤ (j : Int) := by omega
      have hj1 : (j : Int) < (ns.length : Int) := by omega
      go_wp2
      go_roundw
      case rel => exact ⟨j + 1, by omega, by go_num, by go_num, by rw [← marksP_step k ns j hlt]; exact (HK.out.set_ _ _).set_ _ _, (HG.out.trans (grown_set _ g _ _)).trans (grown_set _ g _ _)⟩
      case measure => simp [intOf]; omega
    · have he : j = ns.length := by omega
      subst he
      go_wp2
      go_ret
      exact ⟨rfl, ⟨g, by rw [marksP_len], hB, by rw [marksP_len]; exact hn, by rw [List.drop_length, List.append_nil] at hk; exact hk⟩, hg⟩
theorem heldNodeS_all (v : Value) (n : Nat) (k : Int) (w : World) (hv : PairsAt w v (marksP k n)) (hn : n ≤ 1048576) (h0 : 0 ≤ k) (h1 : k ≤ 1000000000) : Calls Try.prog 64 #[v, .int .i64 k] w fun e w' => e = .returned (.int .i64 (k + 2 * (n : Int))) ∧ w = w' := by
  obtain ⟨A, c, rfl, hc, hm, hcell⟩ := hv
  unfold maxLen at hm
  have HC := hid hcell
  clear hcell
  rw [marksP_len] at hc ⊢
  go_enter Try.func64, Try.ntmps64
  go_wp2_with fail
  go_loop [1, 5] (fun s i => ∃ j : Nat, j ≤ n ∧ i = .int .i64 j ∧ s = .int .i64 (k + 2 * (j : Int))) (fun _ i => n - (intOf i).toNat)
  case atStart => exact ⟨0, Nat.zero_le _, rfl, by simp⟩
  case round =>
    obtain ⟨j, hj, rfl, rfl⟩ := hrel
    by_cases hlt : j < n
    · obtain ⟨b, off, rfl, hbb, c0, c1⟩ := HC.out j _ _ (marksP_get k n j hlt)
      have hj0 : (0 : Int) ≤ (j : Int) := by omega
      have hj1 : (j : Int) < (n : Int) := by omega
      go_wp2
      go_round
      case rel => exact ⟨j + 1, by omega, by go_num, by go_num⟩
      case measure => simp [intOf]; omega
    · have he : j = n := by omega
      subst he
      go_wp2
      go_ret
      exact ⟨rfl, rfl⟩
theorem markLeadS_all (B : Nat) (v : Value) (ns : List (Int × Int)) (k : Int) (w : World) (h : OwnPairs B 67 w v ns) (h0 : 0 ≤ k) (h1 : k ≤ 1000000000) : Calls Try.prog 63 #[v, .int .i64 k] w fun e w' => e = .returned (.int .i64 (k + 2 * (ns.length : Int))) ∧ OwnPairs B 67 w' v (marksP k ns.length) ∧ w.grownBy w' v.ownBlock := by
  obtain ⟨g, rfl, hB, hn, hb⟩ := h
  have H := hid hb
  clear hb
  go_enter Try.func63, Try.ntmps63
  go_wp2_with fail
  go_loopw [1, 5] (fun s i wr => ∃ j : Nat, j ≤ ns.length ∧ i = .int .i64 j ∧ s = .int .i64 (k + 2 * (j : Int)) ∧ Blk wr g 67 (flat (marksP k j ++ ns.drop j)).toArray ∧ w.grownBy wr (some g)) (fun _ i _ => ns.length - (intOf i).toNat)
  case atStart => exact ⟨0, Nat.zero_le _, rfl, by simp, by simpa [marksP] using H.out, World.grownBy.refl w _⟩
  case round =>
    obtain ⟨j, hj, rfl, rfl, hk, hg⟩ := hrel
    by_cases hlt : j < ns.length
    · have hl : (flat (marksP k j ++ ns.drop j)).length = 2 * ns.length := by rw [flat_length]; simp [marksP_len]; omega
      have f0 : wr.frozen? ⟨g, j * 2, none⟩ = false := hk.frozen _
      have f1 : wr.frozen? ⟨g, j * 2 + 1, none⟩ = false := hk.frozen _
      have c0 : wr.cell? ⟨g, j * 2, none⟩ = some ((flat (marksP k j ++ ns.drop j))[j * 2]'(by omega)) := by rw [hk.cell]; simp
      have c1 : wr.cell? ⟨g, j * 2 + 1, none⟩ = some ((flat (marksP k j ++ ns.drop j))[j * 2 + 1]'(by omega)) := by rw [hk.cell]; simp
      generalize (flat (marksP k j ++ ns.drop j))[j * 2]'(by omega) = o0 at c0
      generalize (flat (marksP k j ++ ns.drop j))[j * 2 + 1]'(by omega) = o1 at c1
      have HK := hid hk
      have HG := hid hg
      clear hk hg hl
      have hj0 : (0 : Int) ≤ (j : Int) := by omega
      have hj1 : (j : Int) < (ns.length : Int) := by omega
      go_wp2
      go_roundw
      case rel => exact ⟨j + 1, by omega, by go_num, by go_num, by rw [← marksP_step k ns j hlt]; exact (HK.out.set_ _ _).set_ _ _, (HG.out.trans (grown_set _ g _ _)).trans (grown_set _ g _ _)⟩
      case measure => simp [intOf]; omega
    · have he : j = ns.length := by omega
      subst he
      go_wp2
      go_ret
      exact ⟨rfl, ⟨g, by rw [marksP_len], hB, by rw [marksP_len]; exact hn, by rw [List.drop_length, List.append_nil] at hk; exact hk⟩, hg⟩
theorem heldLeadS_all (v : Value) (n : Nat) (k : Int) (w : World) (hv : PairsAt w v (marksP k n)) (hn : n ≤ 1048576) (h0 : 0 ≤ k) (h1 : k ≤ 1000000000) : Calls Try.prog 65 #[v, .int .i64 k] w fun e w' => e = .returned (.int .i64 (k + 2 * (n : Int))) ∧ w = w' := by
  obtain ⟨A, c, rfl, hc, hm, hcell⟩ := hv
  unfold maxLen at hm
  have HC := hid hcell
  clear hcell
  rw [marksP_len] at hc ⊢
  go_enter Try.func65, Try.ntmps65
  go_wp2_with fail
  go_loop [1, 5] (fun s i => ∃ j : Nat, j ≤ n ∧ i = .int .i64 j ∧ s = .int .i64 (k + 2 * (j : Int))) (fun _ i => n - (intOf i).toNat)
  case atStart => exact ⟨0, Nat.zero_le _, rfl, by simp⟩
  case round =>
    obtain ⟨j, hj, rfl, rfl⟩ := hrel
    by_cases hlt : j < n
    · obtain ⟨b, off, rfl, hbb, c0, c1⟩ := HC.out j _ _ (marksP_get k n j hlt)
      have hj0 : (0 : Int) ≤ (j : Int) := by omega
      have hj1 : (j : Int) < (n : Int) := by omega
      go_wp2
      go_round
      case rel => exact ⟨j + 1, by omega, by go_num, by go_num⟩
      case measure => simp [intOf]; omega
    · have he : j = n := by omega
      subst he
      go_wp2
      go_ret
      exact ⟨rfl, rfl⟩
theorem OwnPairs.beside {B g : Nat} {T U : TypeId} {cs : Array Value} {w w' : World} {v : Value} {ns : List (Int × Int)} (h : OwnPairs B T w v ns) (hg : w.grownBy w' (some g)) (hb : Blk w g U cs) (hT : U ≠ T) : OwnPairs B T w' v ns := by
  obtain ⟨g', h1, h2, h3, h4⟩ := h
  refine ⟨g', h1, h2, h3, ?_⟩
  have hne : g' ≠ g := fun e => by
    subst e
    unfold Blk at hb h4
    rw [hb] at h4
    injection h4 with h4
    injection h4 with _ h4 _
    exact hT h4
  have lt := h4.lt
  unfold Blk at h4 ⊢
  rw [hg.block g' lt (fun e => by injection e with e; exact hne e)]
  exact h4
theorem pairs_own {B : Nat} {T : TypeId} {w w' : World} {v : Value} {ns : List (Int × Int)} (h : OwnPairs B T w v ns) (hg : w.grownBy w' v.ownBlock) (hB : B ≤ w.heap.size) : Below B w w' := by
  obtain ⟨g, rfl, h2, _, _⟩ := h
  exact grown_below hg h2 hB
/-- a window's two slices bear marks from k on -/
def MarksAt (B : Nat) (p1 p2 : Value) (n1 n2 : Nat) (k : Int) (w : World) (e : Ending) (w' : World) : Prop := e = .returned (.int .i64 (k + 2 * (n1 : Int) + 2 * (n2 : Int))) ∧ OwnPairs B 51 w' p1 (marksP k n1) ∧ OwnPairs B 67 w' p2 (marksP (k + 2 * (n1 : Int)) n2) ∧ Below B w w' ∧ ∀ j, j < w.heap.size → some j ≠ p1.ownBlock → some j ≠ p2.ownBlock → w'.heap[j]? = w.heap[j]?
theorem BoxV.other {w w' : World} {g : Nat} {u v : Value} (h : BoxV w g u v) (hb : w'.heap[g]? = w.heap[g]?) (hs : w.heap.size ≤ w'.heap.size) : BoxV w' g u v :=
  ⟨Nat.lt_of_lt_of_le h.lt hs, by rw [World.cell?_of_block (a := ⟨g, 0, none⟩) hb]; exact h.c0, by rw [World.cell?_of_block (a := ⟨g, 1, none⟩) hb]; exact h.c1⟩
theorem markWindow_all (B : Nat) (p1 p2 : Value) (ns ls : List (Int × Int)) (k : Int) (w : World) (h1 : OwnPairs B 51 w p1 ns) (h2 : OwnPairs B 67 w p2 ls) (k0 : 0 ≤ k) (k1 : k ≤ 1000) (hB : B ≤ w.heap.size) : Calls Try.prog 24 #[.agg #[p1, p2], .int .i64 k] w (MarksAt B p1 p2 ns.length ls.length k w) := by
  have s0 : Below w.heap.size w (w.alloc (.cells #[p1, p2] 31)) := (Below.refl _ _).alloc (Nat.le_refl _) _
  have H1 := hid (OwnPairs.below (C := 0) h1 s0)
  have H2 := hid (OwnPairs.below (C := 0) h2 s0)
  have X0 := hid (BoxV.new w p1 p2 31 w.heap.size rfl)
  have S0 := hid s0
  obtain ⟨g1, rfl, _, hn1, hb1⟩ := h1
  obtain ⟨g2, rfl, _, hn2, hb2⟩ := h2
  have l1 := hb1.lt
  have l2 := hb2.lt
  clear s0 hb1 hb2
  have x0 := X0.out.c0
  have x1 := X0.out.c1
  go_enter Try.func24, Try.ntmps24
  go_wp2_with fail
  refine (markNodeS_all B _ ns _ _ H1.out k0 (by omega)).mono ?_
  rintro e w1 ⟨rfl, ho, hg⟩
  have hsz := S0.out.size
  have x1 : w1.cell? ⟨w.heap.size, 1, none⟩ = some (.slice (some ⟨g2, 0, none⟩) ls.length ls.length) := hg.cell X0.out.c1 (fun e => by injection e with e; have : w.heap.size = g1 := e; omega)
  obtain ⟨g', e', _, _, hk1⟩ := id H1.out
  have e'' : g1 = g' := by injection e' with e' _ _; injection e' with e'; injection e'
  subst e''
  have H2' := hid (H2.out.beside hg hk1 (by decide))
  have HG := hid hg
  have HO := hid ho
  have A1 := hid (pairs_own H1.out hg (by omega))
  clear hg x0 ho hk1 e'
  go_wp2_with fail
  refine (markLeadS_all B _ ls _ _ H2'.out (by omega) (by omega)).mono ?_
  rintro e w2 ⟨rfl, ho2, hg2⟩
  have hsz1 := HG.out.size
  obtain ⟨g', e', _, _, hk1⟩ := id H2'.out
  have e'' : g2 = g' := by injection e' with e' _ _; injection e' with e'; injection e'
  subst e''
  have HO2 := hid ho2
  have HO1 := hid (HO.out.beside hg2 hk1 (by decide))
  have A2 := hid (pairs_own H2'.out hg2 (by omega))
  have HG2 := hid hg2
  clear ho2 hg2 hk1 e'
  go_wp2
  go_ret
  exact ⟨rfl, HO1.out, HO2.out, ((S0.out.mono hB).trans A1.out).trans A2.out, fun j hj n1 n2 => ((HG2.out.block j (by omega) n2).trans (HG.out.block j (by omega) n1)).trans (S0.out.block j hj)⟩
theorem heldWindow_all (p1 p2 : Value) (n1 n2 : Nat) (k : Int) (w : World) (h1 : PairsAt w p1 (marksP k n1)) (h2 : PairsAt w p2 (marksP (k + 2 * (n1 : Int)) n2)) (hn1 : n1 ≤ 1048576) (hn2 : n2 ≤ 1048576) (k0 : 0 ≤ k) (k1 : k ≤ 1000) : Calls Try.prog 25 #[.agg #[p1, p2], .int .i64 k] w fun e w' => e = .returned (.int .i64 (k + 2 * (n1 : Int) + 2 * (n2 : Int))) ∧ Below w.heap.size w w' := by
  have s0 : Below w.heap.size w (w.alloc (.cells #[p1, p2] 31)) := (Below.refl _ _).alloc (Nat.le_refl _) _
  have H1 := hid (h1.below s0)
  have H2 := hid (h2.below s0)
  have X0 := hid (BoxV.new w p1 p2 31 w.heap.size rfl)
  have S0 := hid s0
  obtain ⟨A, c, rfl, _, _, _⟩ := id h1
  obtain ⟨A', c', rfl, _, _, _⟩ := id h2
  clear s0 h1 h2
  have x0 := X0.out.c0
  have x1 := X0.out.c1
  go_enter Try.func25, Try.ntmps25
  go_wp2_with fail
  refine (heldNodeS_all _ n1 _ _ H1.out hn1 k0 (by omega)).mono ?_
  rintro e w1 ⟨rfl, rfl⟩
  go_wp2_with fail
  refine (heldLeadS_all _ n2 _ _ H2.out hn2 (by omega) (by omega)).mono ?_
  rintro e w1 ⟨rfl, rfl⟩
  go_wp2
  go_ret
  exact ⟨rfl, S0.out⟩
end Go.Proofs.Ytmkgdilabpehlaa
