/- What the laws' helper does that marks a new window: its two slices change, and no other memory. No condition but the sizes that are named. -/
import Derived.Test.YtdhppajfdcfikaaMark
import Derived.Test.YtdhppajfdcfikaaWconv
namespace Go.Proofs.Ytdhppajfdcfikaa
open Go.ChangeShapes Go.WideShapes Go.ChangeAt Go.RowKit
set_option maxHeartbeats 1000000
set_option linter.unusedSimpArgs false
set_option linter.unusedVariables false
theorem grown_set (w : World) (g i : Nat) (u : Value) : w.grownBy (w.setCell ⟨g, i, none⟩ u) (some g) :=
  ⟨rfl, rfl, rfl, by simp [World.setCell], fun k _ hk => Below.heap_setCell w ⟨g, i, none⟩ u k (fun e => hk (by rw [e]))⟩
theorem grown_below {B g : Nat} {w w' : World} (h : w.grownBy w' (some g)) (hg : B ≤ g) (hB : B ≤ w.heap.size) : Below B w w' :=
  ⟨h.os, h.tape, h.output, h.size, fun k hk => h.block k (by omega) (fun e => by injection e with e; omega)⟩
theorem OwnInts.beside {B g : Nat} {T : TypeId} {cs : Array Value} {w w' : World} {v : Value} {xs : List Int} (h : OwnInts B w v xs) (hg : w.grownBy w' (some g)) (hb : Blk w g T cs) (hT : T ≠ 3) : OwnInts B w' v xs := by
  refine World.ownsRow.kept h hg ?_
  rcases h.2 with ⟨h1, h2⟩ | ⟨g', cap, cur, h1, h2, h3, h4⟩
  · exact .inl (by rw [h1]; rfl)
  · refine .inr (fun e => ?_)
    rw [h1] at e
    have e' : g' = g := by simpa [Value.ownBlock] using e
    subst e'
    unfold Blk at hb
    rw [hb] at h3
    injection h3 with h3
    injection h3 with _ h3 _
    exact hT h3
theorem markNodeS_any (g n : Nat) (cs : Array Value) (k : Int) (w : World) (hb : Blk w g 71 cs) (hc : cs.size = 2 * n) (hn : n ≤ 1048576) (h0 : 0 ≤ k) (h1 : k ≤ 1000000000) : Calls Try.prog 64 #[.slice (some ⟨g, 0, none⟩) n n, .int .i64 k] w fun e w' => e = .returned (.int .i64 (k + 2 * (n : Int))) ∧ (∃ cs' : Array Value, cs'.size = 2 * n ∧ Blk w' g 71 cs') ∧ w.grownBy w' (some g) := by
  have H := hid hb
  clear hb
  go_enter Try.func64, Try.ntmps64
  go_wp2_with fail
  go_loopw [1, 5] (fun s i wr => ∃ j : Nat, j ≤ n ∧ i = .int .i64 j ∧ s = .int .i64 (k + 2 * (j : Int)) ∧ (∃ cs' : Array Value, cs'.size = 2 * n ∧ Blk wr g 71 cs') ∧ w.grownBy wr (some g)) (fun _ i _ => n - (intOf i).toNat)
  case atStart => exact ⟨0, Nat.zero_le _, rfl, by simp, ⟨cs, hc, H.out⟩, World.grownBy.refl w _⟩
  case round =>
    obtain ⟨j, hj, rfl, rfl, ⟨cs', hs, hk⟩, hg⟩ := hrel
    by_cases hlt : j < n
    · have f0 : wr.frozen? ⟨g, j * 2, none⟩ = false := hk.frozen _
      have f1 : wr.frozen? ⟨g, j * 2 + 1, none⟩ = false := hk.frozen _
      have c0 : wr.cell? ⟨g, j * 2, none⟩ = some (cs'[j * 2]'(by omega)) := by rw [hk.cell]; simp
      have c1 : wr.cell? ⟨g, j * 2 + 1, none⟩ = some (cs'[j * 2 + 1]'(by omega)) := by rw [hk.cell]; simp
      generalize cs'[j * 2]'(by omega) = o0 at c0
      generalize cs'[j * 2 + 1]'(by omega) = o1 at c1
      have HK := hid hk
      have HG := hid hg
      clear hk hg
      have hj0 : (0 : Int) ≤ (j : Int) := by omega
      have hj1 : (j : Int) < (n : Int) := by omega
      go_wp2
      go_roundw
      case rel => exact ⟨j + 1, by omega, by go_num, by go_num, ⟨_, by simp [hs], (HK.out.set_ _ _).set_ _ _⟩, (HG.out.trans (grown_set _ g _ _)).trans (grown_set _ g _ _)⟩
      case measure => simp [intOf]; omega
    · have he : j = n := by omega
      subst he
      go_wp2
      go_ret
      exact ⟨rfl, ⟨cs', hs, hk⟩, hg⟩
theorem markLeadS_any (g n : Nat) (cs : Array Value) (k : Int) (w : World) (hb : Blk w g 73 cs) (hc : cs.size = 2 * n) (hn : n ≤ 1048576) (h0 : 0 ≤ k) (h1 : k ≤ 1000000000) : Calls Try.prog 65 #[.slice (some ⟨g, 0, none⟩) n n, .int .i64 k] w fun e w' => e = .returned (.int .i64 (k + 2 * (n : Int))) ∧ (∃ cs' : Array Value, cs'.size = 2 * n ∧ Blk w' g 73 cs') ∧ w.grownBy w' (some g) := by
  have H := hid hb
  clear hb
  go_enter Try.func65, Try.ntmps65
  go_wp2_with fail
  go_loopw [1, 5] (fun s i wr => ∃ j : Nat, j ≤ n ∧ i = .int .i64 j ∧ s = .int .i64 (k + 2 * (j : Int)) ∧ (∃ cs' : Array Value, cs'.size = 2 * n ∧ Blk wr g 73 cs') ∧ w.grownBy wr (some g)) (fun _ i _ => n - (intOf i).toNat)
  case atStart => exact ⟨0, Nat.zero_le _, rfl, by simp, ⟨cs, hc, H.out⟩, World.grownBy.refl w _⟩
  case round =>
    obtain ⟨j, hj, rfl, rfl, ⟨cs', hs, hk⟩, hg⟩ := hrel
    by_cases hlt : j < n
    · have f0 : wr.frozen? ⟨g, j * 2, none⟩ = false := hk.frozen _
      have f1 : wr.frozen? ⟨g, j * 2 + 1, none⟩ = false := hk.frozen _
      have c0 : wr.cell? ⟨g, j * 2, none⟩ = some (cs'[j * 2]'(by omega)) := by rw [hk.cell]; simp
      have c1 : wr.cell? ⟨g, j * 2 + 1, none⟩ = some (cs'[j * 2 + 1]'(by omega)) := by rw [hk.cell]; simp
      generalize cs'[j * 2]'(by omega) = o0 at c0
      generalize cs'[j * 2 + 1]'(by omega) = o1 at c1
      have HK := hid hk
      have HG := hid hg
      clear hk hg
      have hj0 : (0 : Int) ≤ (j : Int) := by omega
      have hj1 : (j : Int) < (n : Int) := by omega
      go_wp2
      go_roundw
      case rel => exact ⟨j + 1, by omega, by go_num, by go_num, ⟨_, by simp [hs], (HK.out.set_ _ _).set_ _ _⟩, (HG.out.trans (grown_set _ g _ _)).trans (grown_set _ g _ _)⟩
      case measure => simp [intOf]; omega
    · have he : j = n := by omega
      subst he
      go_wp2
      go_ret
      exact ⟨rfl, ⟨cs', hs, hk⟩, hg⟩
/-- a window's two slices were marked -/
def MarkedWin (B : Nat) (w : World) (e : Ending) (w' : World) : Prop := (∃ q : Int, 0 ≤ q ∧ e = .returned (.int .i64 q)) ∧ Below B w w' ∧ ∀ B' v xs, OwnInts B' w v xs → OwnInts B' w' v xs
theorem markWindow_any (B : Nat) (p1 p2 : Value) (ns ls : List (Int × Int)) (k : Int) (w : World) (h1 : OwnPairs B 71 w p1 ns) (h2 : OwnPairs B 73 w p2 ls) (k0 : 0 ≤ k) (k1 : k ≤ 1000) : Calls Try.prog 26 #[.agg #[p1, p2], .int .i64 k] w (MarkedWin B w) := by
  obtain ⟨g1, rfl, hB1, hn1, hb1⟩ := h1
  obtain ⟨g2, rfl, hB2, hn2, hb2⟩ := h2
  have l1 := hb1.lt
  have l2 := hb2.lt
  have s0 : Below w.heap.size w (w.alloc (.cells #[.slice (some ⟨g1, 0, none⟩) ns.length ns.length, .slice (some ⟨g2, 0, none⟩) ls.length ls.length] 31)) := (Below.refl _ _).alloc (Nat.le_refl _) _
  have H1 := hid (hb1.below s0 l1)
  have H2 := hid (hb2.below s0 l2)
  have X0 := hid (BoxV.new w (.slice (some ⟨g1, 0, none⟩) ns.length ns.length) (.slice (some ⟨g2, 0, none⟩) ls.length ls.length) 31 w.heap.size rfl)
  have S0 := hid s0
  have hne : g1 ≠ g2 := fun e => by
    subst e
    unfold Blk at hb1 hb2
    rw [hb1] at hb2
    injection hb2 with h
    injection h with _ h _
    exact absurd h (by decide)
  have f1 := flat_length ns
  have f2 := flat_length ls
  clear s0 hb1 hb2
  have x0 := X0.out.c0
  have x1 := X0.out.c1
  go_enter Try.func26, Try.ntmps26
  go_wp2_with fail
  refine (markNodeS_any g1 ns.length _ k _ H1.out (by simpa using f1) hn1 k0 (by omega)).mono ?_
  rintro e w1 ⟨rfl, ⟨cs', hs, hk⟩, hg⟩
  have hsz := S0.out.size
  have lt2 := H2.out.lt
  have x1 : w1.cell? ⟨w.heap.size, 1, none⟩ = some (.slice (some ⟨g2, 0, none⟩) ls.length ls.length) := hg.cell X0.out.c1 (fun e => by injection e with e; have : w.heap.size = g1 := e; omega)
  have H2' : Hid (Blk w1 g2 73 (flat ls).toArray) := hid (by
    have := H2.out
    unfold Blk at this ⊢
    rw [hg.block g2 lt2 (fun e => by injection e with e; exact hne e.symm)]
    exact this)
  have HG := hid hg
  clear hk hg x0
  go_wp2_with fail
  refine (markLeadS_any g2 ls.length _ _ _ H2'.out (by simpa using f2) hn2 (by omega) (by omega)).mono ?_
  rintro e w2 ⟨rfl, ⟨cs2, hs2, hk2⟩, hg2⟩
  have HG2 := hid hg2
  clear hk2 hg2
  go_wp2
  go_ret
  have a := grown_below HG.out hB1 (by omega)
  have hsz1 := HG.out.size
  have b := grown_below HG2.out hB2 (by omega)
  refine ⟨⟨_, by omega, rfl⟩, ((S0.out.mono (by omega)).trans a).trans b, fun B' v xs ho => ?_⟩
  exact ((own_below ho S0.out).beside HG.out H1.out (by decide)).beside HG2.out H2'.out (by decide)
end Go.Proofs.Ytdhppajfdcfikaa
