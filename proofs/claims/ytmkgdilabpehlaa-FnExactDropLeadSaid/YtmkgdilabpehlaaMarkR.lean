/- What the laws' helper does that marks a window whose rows may have room. No condition but the sizes that are named. -/
import Derived.Test.YtmkgdilabpehlaaMarkp
import Derived.Test.YtmkgdilabpehlaaAdd
namespace Go.Proofs.Ytmkgdilabpehlaa
open Go.ChangeShapes Go.WideShapes Go.ChangeAt Go.RowKit
set_option maxHeartbeats 2000000
set_option linter.unusedSimpArgs false
set_option linter.unusedVariables false
theorem marksP_stepR (k : Int) (ns : List (Int × Int)) (j : Nat) (hj : j < ns.length) : ((flat (marksP k j ++ ns.drop j)).set (j * 2) (.int .i64 (k + 2 * (j : Int)))).set (j * 2 + 1) (.int .i64 (k + 2 * (j : Int) + 1)) = flat (marksP k (j + 1) ++ ns.drop (j + 1)) := by
  have := marksP_step k ns j hj
  rw [List.setIfInBounds_toArray, List.setIfInBounds_toArray] at this
  exact congrArg Array.toList this
theorem markNodeS_R (B : Nat) (v : Value) (ns : List (Int × Int)) (k : Int) (w : World) (h : OwnR B 51 w v ns) (h0 : 0 ≤ k) (h1 : k ≤ 1000000000) : Calls Try.prog 62 #[v, .int .i64 k] w fun e w' => e = .returned (.int .i64 (k + 2 * (ns.length : Int))) ∧ OwnR B 51 w' v (marksP k ns.length) ∧ w.grownBy w' v.ownBlock := by
  have H := hid h.1
  have hn := h.2
  obtain ⟨A, c, hv⟩ := h.form
  subst hv
  clear h
  go_enter Try.func62, Try.ntmps62
  go_wp2_with fail
  go_loopw [1, 5] (fun s i wr => ∃ j : Nat, j ≤ ns.length ∧ i = .int .i64 j ∧ s = .int .i64 (k + 2 * (j : Int)) ∧ Hid (wr.ownsRow B 51 2 (.slice A ns.length c) ns.length (flat (marksP k j ++ ns.drop j))) ∧ Hid (w.grownBy wr (Value.slice A ns.length c).ownBlock)) (fun _ i _ => ns.length - (intOf i).toNat)
  case atStart => exact ⟨0, Nat.zero_le _, rfl, by simp, hid (by simpa [marksP] using H.out), hid (World.grownBy.refl w _)⟩
  case round =>
    obtain ⟨j, hj, rfl, rfl, ho, hg⟩ := hrel
    by_cases hlt : j < ns.length
    · have hA : ∃ g, A = some ⟨g, 0, none⟩ := by
        rcases ho.out.2 with ⟨h', h''⟩ | ⟨g, cap, cur, h', _⟩
        · omega
        · injection h' with h' _ _; exact ⟨g, h'⟩
      obtain ⟨g, rfl⟩ := hA
      have hl : (flat (marksP k j ++ ns.drop j)).length = 2 * ns.length := by rw [flat_length]; simp [marksP_len]; omega
      have c0 : wr.cell? ⟨g, j * 2, none⟩ = some ((flat (marksP k j ++ ns.drop j))[j * 2]'(by omega)) := by
        rw [World.ownsRow.cellAt ho.out (j * 2) (by omega)]; exact List.getElem?_eq_getElem _
      have c1 : wr.cell? ⟨g, j * 2 + 1, none⟩ = some ((flat (marksP k j ++ ns.drop j))[j * 2 + 1]'(by omega)) := by
        rw [World.ownsRow.cellAt ho.out (j * 2 + 1) (by omega)]; exact List.getElem?_eq_getElem _
      generalize (flat (marksP k j ++ ns.drop j))[j * 2]'(by omega) = o0 at c0
      generalize (flat (marksP k j ++ ns.drop j))[j * 2 + 1]'(by omega) = o1 at c1
      have f0 : wr.frozen? ⟨g, j * 2, none⟩ = false := World.ownsRow.frozenAt ho.out _
      have f1 : wr.frozen? ⟨g, j * 2 + 1, none⟩ = false := World.ownsRow.frozenAt ho.out _
      clear hl
      have hj0 : (0 : Int) ≤ (j : Int) := by omega
      have hj1 : (j : Int) < (ns.length : Int) := by omega
      go_wp2
      go_roundw
      case rel =>
        have st := World.ownsRow.stored ho.out (j * 2) (.int .i64 (k + 2 * (j : Int)))
        have st2 := World.ownsRow.stored st.1 (j * 2 + 1) (.int .i64 (k + 2 * (j : Int) + 1))
        refine ⟨j + 1, by omega, by go_num, by go_num, hid ?_, hid ?_⟩
        · rw [← marksP_stepR k ns j hlt]; exact st2.1
        · exact (hg.out.trans st.2).trans st2.2
      case measure => simp [intOf]; omega
    · have he : j = ns.length := by omega
      subst he
      go_wp2
      go_ret
      exact ⟨rfl, ⟨by rw [marksP_len]; have := ho.out; rwa [List.drop_length, List.append_nil] at this, by rw [marksP_len]; exact hn⟩, hg.out⟩
theorem markLeadS_R (B : Nat) (v : Value) (ns : List (Int × Int)) (k : Int) (w : World) (h : OwnR B 67 w v ns) (h0 : 0 ≤ k) (h1 : k ≤ 1000000000) : Calls Try.prog 63 #[v, .int .i64 k] w fun e w' => e = .returned (.int .i64 (k + 2 * (ns.length : Int))) ∧ OwnR B 67 w' v (marksP k ns.length) ∧ w.grownBy w' v.ownBlock := by
  have H := hid h.1
  have hn := h.2
  obtain ⟨A, c, hv⟩ := h.form
  subst hv
  clear h
  go_enter Try.func63, Try.ntmps63
  go_wp2_with fail
  go_loopw [1, 5] (fun s i wr => ∃ j : Nat, j ≤ ns.length ∧ i = .int .i64 j ∧ s = .int .i64 (k + 2 * (j : Int)) ∧ Hid (wr.ownsRow B 67 2 (.slice A ns.length c) ns.length (flat (marksP k j ++ ns.drop j))) ∧ Hid (w.grownBy wr (Value.slice A ns.length c).ownBlock)) (fun _ i _ => ns.length - (intOf i).toNat)
  case atStart => exact ⟨0, Nat.zero_le _, rfl, by simp, hid (by simpa [marksP] using H.out), hid (World.grownBy.refl w _)⟩
  case round =>
    obtain ⟨j, hj, rfl, rfl, ho, hg⟩ := hrel
    by_cases hlt : j < ns.length
    · have hA : ∃ g, A = some ⟨g, 0, none⟩ := by
        rcases ho.out.2 with ⟨h', h''⟩ | ⟨g, cap, cur, h', _⟩
        · omega
        · injection h' with h' _ _; exact ⟨g, h'⟩
      obtain ⟨g, rfl⟩ := hA
      have hl : (flat (marksP k j ++ ns.drop j)).length = 2 * ns.length := by rw [flat_length]; simp [marksP_len]; omega
      have c0 : wr.cell? ⟨g, j * 2, none⟩ = some ((flat (marksP k j ++ ns.drop j))[j * 2]'(by omega)) := by
        rw [World.ownsRow.cellAt ho.out (j * 2) (by omega)]; exact List.getElem?_eq_getElem _
      have c1 : wr.cell? ⟨g, j * 2 + 1, none⟩ = some ((flat (marksP k j ++ ns.drop j))[j * 2 + 1]'(by omega)) := by
        rw [World.ownsRow.cellAt ho.out (j * 2 + 1) (by omega)]; exact List.getElem?_eq_getElem _
      generalize (flat (marksP k j ++ ns.drop j))[j * 2]'(by omega) = o0 at c0
      generalize (flat (marksP k j ++ ns.drop j))[j * 2 + 1]'(by omega) = o1 at c1
      have f0 : wr.frozen? ⟨g, j * 2, none⟩ = false := World.ownsRow.frozenAt ho.out _
      have f1 : wr.frozen? ⟨g, j * 2 + 1, none⟩ = false := World.ownsRow.frozenAt ho.out _
      clear hl
      have hj0 : (0 : Int) ≤ (j : Int) := by omega
      have hj1 : (j : Int) < (ns.length : Int) := by omega
      go_wp2
      go_roundw
      case rel =>
        have st := World.ownsRow.stored ho.out (j * 2) (.int .i64 (k + 2 * (j : Int)))
        have st2 := World.ownsRow.stored st.1 (j * 2 + 1) (.int .i64 (k + 2 * (j : Int) + 1))
        refine ⟨j + 1, by omega, by go_num, by go_num, hid ?_, hid ?_⟩
        · rw [← marksP_stepR k ns j hlt]; exact st2.1
        · exact (hg.out.trans st.2).trans st2.2
      case measure => simp [intOf]; omega
    · have he : j = ns.length := by omega
      subst he
      go_wp2
      go_ret
      exact ⟨rfl, ⟨by rw [marksP_len]; have := ho.out; rwa [List.drop_length, List.append_nil] at this, by rw [marksP_len]; exact hn⟩, hg.out⟩
/-- a window's two rows bear marks from k on -/
def MarksR (B : Nat) (p1 p2 : Value) (n1 n2 : Nat) (k : Int) (w : World) (e : Ending) (w' : World) : Prop := e = .returned (.int .i64 (k + 2 * (n1 : Int) + 2 * (n2 : Int))) ∧ OwnR B 51 w' p1 (marksP k n1) ∧ OwnR B 67 w' p2 (marksP (k + 2 * (n1 : Int)) n2) ∧ Below B w w' ∧ ∀ j, j < w.heap.size → some j ≠ p1.ownBlock → some j ≠ p2.ownBlock → w'.heap[j]? = w.heap[j]?
theorem markWindow_R (B : Nat) (p1 p2 : Value) (ns ls : List (Int × Int)) (k : Int) (w : World) (h1 : OwnR B 51 w p1 ns) (h2 : OwnR B 67 w p2 ls) (k0 : 0 ≤ k) (k1 : k ≤ 1000) (hB : B ≤ w.heap.size) : Calls Try.prog 24 #[.agg #[p1, p2], .int .i64 k] w (MarksR B p1 p2 ns.length ls.length k w) := by
  have s0 : Below w.heap.size w (w.alloc (.cells #[p1, p2] 31)) := (Below.refl _ _).alloc (Nat.le_refl _) _
  have H1 := hid (h1.below s0)
  have H2 := hid (h2.below s0)
  have X0 := hid (BoxV.new w p1 p2 31 w.heap.size rfl)
  have S0 := hid s0
  have hn1 := h1.2
  have hn2 := h2.2
  have L1 := hid h1.lt
  have L2 := hid h2.lt
  obtain ⟨A1, c1, rfl⟩ := h1.form
  obtain ⟨A2, c2, rfl⟩ := h2.form
  clear s0 h1 h2
  have x0 := X0.out.c0
  have x1 := X0.out.c1
  go_enter Try.func24, Try.ntmps24
  go_wp2_with fail
  refine (markNodeS_R B _ ns _ _ H1.out k0 (by omega)).mono ?_
  rintro e w1 ⟨rfl, ho, hg⟩
  have hsz := S0.out.size
  have x1 : w1.cell? ⟨w.heap.size, 1, none⟩ = some (.slice A2 ls.length c2) := hg.cell X0.out.c1 (fun e => by have := (L1.out _ e.symm).2; exact absurd this (Nat.lt_irrefl _))
  have H2' := hid (H2.out.beside_row hg H1.out (by decide))
  have HG := hid hg
  have HO := hid ho
  have A1' := hid (grown_row hg H1.out (by simp; omega))
  clear hg x0 ho
  go_wp2_with fail
  refine (markLeadS_R B _ ls _ _ H2'.out (by omega) (by omega)).mono ?_
  rintro e w2 ⟨rfl, ho2, hg2⟩
  have hsz1 := HG.out.size
  have HO2 := hid ho2
  have HO1 := hid (HO.out.beside_row hg2 H2'.out (by decide))
  have A2' := hid (grown_row hg2 H2'.out (by omega))
  have HG2 := hid hg2
  clear ho2 hg2
  go_wp2
  go_ret
  exact ⟨rfl, HO1.out, HO2.out, ((S0.out.mono hB).trans A1'.out).trans A2'.out, fun j hj n1 n2 => ((HG2.out.block j (by omega) n2).trans (HG.out.block j (by omega) n1)).trans (S0.out.block j hj)⟩
theorem OwnR.other {B : Nat} {T : TypeId} {w w' : World} {v : Value} {ns : List (Int × Int)} (h : OwnR B T w v ns) (hb : ∀ g, v.ownBlock = some g → w'.heap[g]? = w.heap[g]?) : OwnR B T w' v ns := by
  refine ⟨⟨h.1.1, ?_⟩, h.2⟩
  rcases h.1.2 with q | ⟨g, cap, cur, a1, a2, a3, a4⟩
  · exact .inl q
  · exact .inr ⟨g, cap, cur, a1, a2, by rw [hb g (by rw [a1]; rfl)]; exact a3, a4⟩
end Go.Proofs.Ytmkgdilabpehlaa
