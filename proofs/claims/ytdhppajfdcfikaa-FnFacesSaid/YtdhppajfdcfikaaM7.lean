/- What the laws' helpers do that mark a new window and look for the marks. No condition but the sizes that are named. -/
import Derived.Test.YtdhppajfdcfikaaMarkw
import Derived.Test.YtdhppajfdcfikaaM6
import Derived.Test.YtdhppajfdcfikaaM2
namespace Go.Proofs.Ytdhppajfdcfikaa
open Go.ChangeShapes Go.WideShapes Go.ChangeAt Go.RowKit
set_option maxHeartbeats 1000000
set_option linter.unusedSimpArgs false
set_option linter.unusedVariables false
def marksP (k : Int) (n : Nat) : List (Int × Int) := (List.range n).map (fun i : Nat => (k + 2 * (i : Int), k + 2 * (i : Int) + 1))
theorem marksP_len (k : Int) (n : Nat) : (marksP k n).length = n := by simp [marksP]
theorem marksP_get (k : Int) (n i : Nat) (h : i < n) : (marksP k n)[i]? = some (k + 2 * (i : Int), k + 2 * (i : Int) + 1) := by simp [marksP, h]
theorem marksP_succ (k : Int) (n : Nat) : marksP k (n + 1) = marksP k n ++ [(k + 2 * (n : Int), k + 2 * (n : Int) + 1)] := by simp [marksP, List.range_succ]
theorem flat_app (a b : List (Int × Int)) : flat (a ++ b) = flat a ++ flat b := by simp [flat]
theorem marksP_step (k : Int) (ns : List (Int × Int)) (j : Nat) (hj : j < ns.length) : ((flat (marksP k j ++ ns.drop j)).toArray.setIfInBounds (j * 2) (.int .i64 (k + 2 * (j : Int)))).setIfInBounds (j * 2 + 1) (.int .i64 (k + 2 * (j : Int) + 1)) = (flat (marksP k (j + 1) ++ ns.drop (j + 1))).toArray := by
  have e : ns.drop j = ns[j] :: ns.drop (j + 1) := List.drop_eq_getElem_cons hj
  rw [marksP_succ, e, flat_app, flat_app, flat_app]
  have hl : (flat (marksP k j)).length = j * 2 := by rw [flat_length, marksP_len]; omega
  generalize ns.drop (j + 1) = t
  generalize ns[j] = p
  have e2 : flat (p :: t) = .int .i64 p.1 :: .int .i64 p.2 :: flat t := rfl
  have e3 : flat [(k + 2 * (j : Int), k + 2 * (j : Int) + 1)] = [.int .i64 (k + 2 * (j : Int)), .int .i64 (k + 2 * (j : Int) + 1)] := rfl
  rw [e2, e3, List.setIfInBounds_toArray, List.setIfInBounds_toArray, List.set_append_right _ _ (by omega), hl, Nat.sub_self, List.set_cons_zero, List.set_append_right _ _ (by omega), hl, show j * 2 + 1 - j * 2 = 1 by omega, List.set_cons_succ, List.set_cons_zero, List.append_assoc]
  rfl
theorem markNodeS_all (B : Nat) (v : Value) (ns : List (Int × Int)) (k : Int) (w : World) (h : OwnPairs B 71 w v ns) (h0 : 0 ≤ k) (h1 : k ≤ 1000000000) : Calls Try.prog 64 #[v, .int .i64 k] w fun e w' => e = .returned (.int .i64 (k + 2 * (ns.length : Int))) ∧ OwnPairs B 71 w' v (marksP k ns.length) ∧ w.grownBy w' v.ownBlock := by
  obtain ⟨g, rfl, hB, hn, hb⟩ := h
  have H := hid hb
  clear hb
  go_enter Try.func64, Try.ntmps64
  go_wp2_with fail
  go_loopw [1, 5] (fun s i wr => ∃ j : Nat, j ≤ ns.length ∧ i = .int .i64 j ∧ s = .int .i64 (k + 2 * (j : Int)) ∧ Blk wr g 71 (flat (marksP k j ++ ns.drop j)).toArray ∧ w.grownBy wr (some g)) (fun _ i _ => ns.length - (intOf i).toNat)
  case atStart => exact ⟨0, Nat.zero_le _, rfl, by simp, by simpa [marksP] using H.out, World.grownBy.refl w _⟩
  case round =>
    obtain ⟨j, hj, rfl, rfl, hk, hg⟩ := hrel
    by_cases hlt : j < ns.length
    · have hl : (flat (marksP k j ++ ns.drop j)).length = 2 * ns.length := by rw [flat_length]; simp [marksP_len]; omega
      have f0 : wr.frozen? ⟨g, j * 2, none⟩ = false := hk.frozen _
      have f1 : wr.frozen? ⟨g, j * 2 + 1, none⟩ = false := hk.frozen _
      have c0 : wr.cell? ⟨g, j * 2, none⟩ = some ((flat (marksP k j ++ ns.drop j))[j * 2]'(by omega)) := by rw [hk.cell]; simp
      have c1 : wr.cell? ⟨g, j * 2 + 1, none⟩ = some ((flat (marksP k j ++ ns.drop j))[j * 2 + 1]'(by omega)) := by rw [hk.cell]; simp
      generalize (flat (marksP k j ++ ns.drop j))[j * 2]'(by omega) = o0 at c0
      generalize (flat (marksP k j ++ ns.drop j))[j * 2 + 1]'(by omega) = o1 at c1
      have HK := hid hk
      have HG := hid hg
      clear hk hg hl
      have hj0 : (0 : Int) ≤ (j : Int) := by omega
      have hj1 : (j : Int) < (ns.length : Int) := by omega
      go_wp2
      go_roundw
      case rel => exact ⟨j + 1, by omega, by go_num, by go_num, by rw [← marksP_step k ns j hlt]; exact (HK.out.set_ _ _).set_ _ _, (HG.out.trans (grown_set _ g _ _)).trans (grown_set _ g _ _)⟩
      case measure => simp [intOf]; omega
    · have he : j = ns.length := by omega
      subst he
      go_wp2
      go_ret
      exact ⟨rfl, ⟨g, by rw [marksP_len], hB, by rw [marksP_len]; exact hn, by rw [List.drop_length, List.append_nil] at hk; exact hk⟩, hg⟩
theorem markLeadS_all (B : Nat) (v : Value) (ns : List (Int × Int)) (k : Int) (w : World) (h : OwnPairs B 73 w v ns) (h0 : 0 ≤ k) (h1 : k ≤ 1000000000) : Calls Try.prog 65 #[v, .int .i64 k] w fun e w' => e = .returned (.int .i64 (k + 2 * (ns.length : Int))) ∧ OwnPairs B 73 w' v (marksP k ns.length) ∧ w.grownBy w' v.ownBlock := by
  obtain ⟨g, rfl, hB, hn, hb⟩ := h
  have H := hid hb
  clear hb
  go_enter Try.func65, Try.ntmps65
  go_wp2_with fail
  go_loopw [1, 5] (fun s i wr => ∃ j : Nat, j ≤ ns.length ∧ i = .int .i64 j ∧ s = .int .i64 (k + 2 * (j : Int)) ∧ Blk wr g 73 (flat (marksP k j ++ ns.drop j)).toArray ∧ w.grownBy wr (some g)) (fun _ i _ => ns.length - (intOf i).toNat)
  case atStart => exact ⟨0, Nat.zero_le _, rfl, by simp, by simpa [marksP] using H.out, World.grownBy.refl w _⟩
  case round =>
    obtain ⟨j, hj, rfl, rfl, hk, hg⟩ := hrel
    by_cases hlt : j < ns.length
    · have hl : (flat (marksP k j ++ ns.drop j)).length = 2 * ns.length := by rw [flat_length]; simp [marksP_len]; omega
      have f0 : wr.frozen? ⟨g, j * 2, none⟩ = false := hk.frozen _
      have f1 : wr.frozen? ⟨g, j * 2 + 1, none⟩ = false := hk.frozen _
      have c0 : wr.cell? ⟨g, j * 2, none⟩ = some ((flat (marksP k j ++ ns.drop j))[j * 2]'(by omega)) := by rw [hk.cell]; simp
      have c1 : wr.cell? ⟨g, j * 2 + 1, none⟩ = some ((flat (marksP k j ++ ns.drop j))[j * 2 + 1]'(by omega)) := by rw [hk.cell]; simp
      generalize (flat (marksP k j ++ ns.drop j))[j * 2]'(by omega) = o0 at c0
      generalize (flat (marksP k j ++ ns.drop j))[j * 2 + 1]'(by omega) = o1 at c1
      have HK := hid hk
      have HG := hid hg
      clear hk hg hl
      have hj0 : (0 : Int) ≤ (j : Int) := by omega
      have hj1 : (j : Int) < (ns.length : Int) := by omega
      go_wp2
      go_roundw
      case rel => exact ⟨j + 1, by omega, by go_num, by go_num, by rw [← marksP_step k ns j hlt]; exact (HK.out.set_ _ _).set_ _ _, (HG.out.trans (grown_set _ g _ _)).trans (grown_set _ g _ _)⟩
      case measure => simp [intOf]; omega
    · have he : j = ns.length := by omega
      subst he
      go_wp2
      go_ret
      exact ⟨rfl, ⟨g, by rw [marksP_len], hB, by rw [marksP_len]; exact hn, by rw [List.drop_length, List.append_nil] at hk; exact hk⟩, hg⟩
theorem OwnPairs.beside {B g : Nat} {T U : TypeId} {cs : Array Value} {w w' : World} {v : Value} {ns : List (Int × Int)} (h : OwnPairs B T w v ns) (hg : w.grownBy w' (some g)) (hb : Blk w g U cs) (hT : U ≠ T) : OwnPairs B T w' v ns := by
  obtain ⟨g', h1, h2, h3, h4⟩ := h
  refine ⟨g', h1, h2, h3, ?_⟩
  have hne : g' ≠ g := fun e => by
    subst e
    unfold Blk at hb h4
    rw [hb] at h4
    injection h4 with h4
    injection h4 with _ h4 _
    exact hT h4
  have lt := h4.lt
  unfold Blk at h4 ⊢
  rw [hg.block g' lt (fun e => by injection e with e; exact hne e)]
  exact h4
theorem pairs_own {B : Nat} {T : TypeId} {w w' : World} {v : Value} {ns : List (Int × Int)} (h : OwnPairs B T w v ns) (hg : w.grownBy w' v.ownBlock) (hB : B ≤ w.heap.size) : Below B w w' := by
  obtain ⟨g, rfl, h2, _, _⟩ := h
  exact grown_below hg h2 hB
/-- a window's two slices bear marks from k on -/
def MarksAt (B : Nat) (p1 p2 : Value) (n1 n2 : Nat) (k : Int) (w : World) (e : Ending) (w' : World) : Prop := e = .returned (.int .i64 (k + 2 * (n1 : Int) + 2 * (n2 : Int))) ∧ OwnPairs B 71 w' p1 (marksP k n1) ∧ OwnPairs B 73 w' p2 (marksP (k + 2 * (n1 : Int)) n2) ∧ Below B w w' ∧ ∀ j, j < w.heap.size → some j ≠ p1.ownBlock → some j ≠ p2.ownBlock → w'.heap[j]? = w.heap[j]?
theorem BoxV.other {w w' : World} {g : Nat} {u v : Value} (h : BoxV w g u v) (hb : w'.heap[g]? = w.heap[g]?) (hs : w.heap.size ≤ w'.heap.size) : BoxV w' g u v :=
  ⟨Nat.lt_of_lt_of_le h.lt hs, by rw [World.cell?_of_block (a := ⟨g, 0, none⟩) hb]; exact h.c0, by rw [World.cell?_of_block (a := ⟨g, 1, none⟩) hb]; exact h.c1⟩
theorem markWindow_all (B : Nat) (p1 p2 : Value) (ns ls : List (Int × Int)) (k : Int) (w : World) (h1 : OwnPairs B 71 w p1 ns) (h2 : OwnPairs B 73 w p2 ls) (k0 : 0 ≤ k) (k1 : k ≤ 1000) (hB : B ≤ w.heap.size) : Calls Try.prog 26 #[.agg #[p1, p2], .int .i64 k] w (MarksAt B p1 p2 ns.length ls.length k w) := by
  have s0 : Below w.heap.size w (w.alloc (.cells #[p1, p2] 31)) := (Below.refl _ _).alloc (Nat.le_refl _) _
  have H1 := hid (OwnPairs.below (C := 0) h1 s0)
  have H2 := hid (OwnPairs.below (C := 0) h2 s0)
  have X0 := hid (BoxV.new w p1 p2 31 w.heap.size rfl)
  have S0 := hid s0
  obtain ⟨g1, rfl, _, hn1, hb1⟩ := h1
  obtain ⟨g2, rfl, _, hn2, hb2⟩ := h2
  have l1 := hb1.lt
  have l2 := hb2.lt
  clear s0 hb1 hb2
  have x0 := X0.out.c0
  have x1 := X0.out.c1
  go_enter Try.func26, Try.ntmps26
  go_wp2_with fail
  refine (markNodeS_all B _ ns _ _ H1.out k0 (by omega)).mono ?_
  rintro e w1 ⟨rfl, ho, hg⟩
  have hsz := S0.out.size
  have x1 : w1.cell? ⟨w.heap.size, 1, none⟩ = some (.slice (some ⟨g2, 0, none⟩) ls.length ls.length) := hg.cell X0.out.c1 (fun e => by injection e with e; have : w.heap.size = g1 := e; omega)
  obtain ⟨g', e', _, _, hk1⟩ := id H1.out
  have e'' : g1 = g' := by injection e' with e' _ _; injection e' with e'; injection e'
  subst e''
  have H2' := hid (H2.out.beside hg hk1 (by decide))
  have HG := hid hg
  have HO := hid ho
  have A1 := hid (pairs_own H1.out hg (by omega))
  clear hg x0 ho hk1 e'
  go_wp2_with fail
  refine (markLeadS_all B _ ls _ _ H2'.out (by omega) (by omega)).mono ?_
  rintro e w2 ⟨rfl, ho2, hg2⟩
  have hsz1 := HG.out.size
  obtain ⟨g', e', _, _, hk1⟩ := id H2'.out
  have e'' : g2 = g' := by injection e' with e' _ _; injection e' with e'; injection e'
  subst e''
  have HO2 := hid ho2
  have HO1 := hid (HO.out.beside hg2 hk1 (by decide))
  have A2 := hid (pairs_own H2'.out hg2 (by omega))
  have HG2 := hid hg2
  clear ho2 hg2 hk1 e'
  go_wp2
  go_ret
  exact ⟨rfl, HO1.out, HO2.out, ((S0.out.mono hB).trans A1.out).trans A2.out, fun j hj n1 n2 => ((HG2.out.block j (by omega) n2).trans (HG.out.block j (by omega) n1)).trans (S0.out.block j hj)⟩
end Go.Proofs.Ytdhppajfdcfikaa

/- The faces of a whole window as rows of rows of ints; rows of slices of ints as they lie in new memory. No condition. -/
namespace Go.Proofs.Ytdhppajfdcfikaa
open Go.ChangeShapes Go.WideShapes Go.ChangeAt Go.RowKit
set_option maxHeartbeats 1000000
set_option linter.unusedSimpArgs false
set_option linter.unusedVariables false
def fcI (ns ls : List (Int × Int)) (n : Nat) : List (List Int) := (fc (nxN ns ls) (2 * ls.length) n).map fun l => l.map fun x : Nat => (x : Int)
def facesF (ns ls : List (Int × Int)) : List (List Int) := if wholeB ns ls = true then fcI ns ls (2 * ls.length) else []
def seenP (ns ls : List (Int × Int)) (n d : Nat) : Bool := (fc (nxN ns ls) (2 * ls.length) n).any (·.contains d)
theorem fcI_yes {ns ls : List (Int × Int)} {n : Nat} (h : seenP ns ls n n = true) : fcI ns ls (n + 1) = fcI ns ls n := by unfold fcI; rw [fc_yes h]
theorem fcI_no {ns ls : List (Int × Int)} {n : Nat} (h : seenP ns ls n n = false) : fcI ns ls (n + 1) = fcI ns ls n ++ [walkI ns ls n] := by unfold fcI; rw [fc_no h, List.map_append]; rfl
theorem seenP_yes {ns ls : List (Int × Int)} {n : Nat} (h : seenP ns ls n n = true) : seenP ns ls (n + 1) = seenP ns ls n := by funext d; unfold seenP; rw [fc_yes h]
theorem seenP_no {ns ls : List (Int × Int)} {n : Nat} (h : seenP ns ls n n = false) (d : Nat) : seenP ns ls (n + 1) d = (seenP ns ls n d || (wk (nxN ns ls) (2 * ls.length) n).contains d) := by unfold seenP; rw [fc_no h, List.any_append]; simp
theorem fcI_len (ns ls : List (Int × Int)) (n : Nat) : (fcI ns ls n).length ≤ n := by unfold fcI; rw [List.length_map]; exact fc_len _ _ _
/-- a row of bools -/
def bRow (N : Nat) (P : Nat → Bool) : List Value := (List.range N).map fun i => .bool (P i)
theorem bRow_len (N : Nat) (P : Nat → Bool) : (bRow N P).length = N := by simp [bRow]
theorem bRow_get (N : Nat) (P : Nat → Bool) (i : Nat) (h : i < N) : (bRow N P)[i]? = some (.bool (P i)) := by simp [bRow, h]
theorem bRow_set (N : Nat) (P Q : Nat → Bool) (i : Nat) (hQ : ∀ j, j < N → Q j = (P j || j == i)) : (bRow N P).set i (.bool true) = bRow N Q := by
  apply List.ext_getElem?
  intro j
  rw [List.getElem?_set]
  by_cases hj : j < N
  · rw [bRow_get _ _ _ hj, bRow_get _ _ _ hj, hQ j hj]
    by_cases e : i = j
    · subst e
      rw [if_pos rfl, bRow_len, if_pos hj]; simp
    · rw [if_neg e]
      have : (j == i) = false := by simp; omega
      rw [this, Bool.or_false]
  · rw [List.getElem?_eq_none (by rw [bRow_len]; omega), List.getElem?_eq_none (by rw [bRow_len]; omega)]
    split
    · split
      · rename_i h1 h2; rw [bRow_len] at h2; omega
      · rfl
    · rfl
/-! rows of slices of ints -/
def Parted (us : List Value) : Prop := us.Pairwise fun u u' => ∀ g, u.ownBlock = some g → u'.ownBlock ≠ some g
structure RowsOf (B : Nat) (w : World) (us : List Value) (fs : List (List Int)) : Prop where
  len : us.length = fs.length
  at_ : ∀ (i : Nat) (u : Value) (l : List Int), us[i]? = some u → fs[i]? = some l → OwnInts B w u l
  part : Parted us
/-- the value is a new slice of new slices of ints -/
def OwnSS (B : Nat) (w : World) (v : Value) (fs : List (List Int)) : Prop := ∃ us, w.ownsRow B 37 1 v us.length us ∧ RowsOf B w us fs
theorem own_beside {B g n size : Nat} {T e : TypeId} {cs : Array Value} {xs : List Value} {w w' : World} {v : Value} (h : w.ownsRow B e size v n xs) (hg : w.grownBy w' (some g)) (hb : Blk w g T cs) (hT : T ≠ e) : w'.ownsRow B e size v n xs := by
  refine World.ownsRow.kept h hg ?_
  rcases h.2 with ⟨h1, h2⟩ | ⟨g', cap, cur, h1, h2, h3, h4⟩
  · exact .inl (by rw [h1]; rfl)
  · refine .inr (fun e => ?_)
    rw [h1] at e
    have e' : g' = g := by simpa [Value.ownBlock] using e
    subst e'
    unfold Blk at hb
    rw [hb] at h3
    injection h3 with h3
    injection h3 with _ h3 _
    exact hT h3
theorem OwnSS.below {B : Nat} {w w' : World} {v : Value} {fs : List (List Int)} (h : OwnSS B w v fs) (hb : Below w.heap.size w w') : OwnSS B w' v fs := by
  obtain ⟨us, h1, h2⟩ := h
  refine ⟨us, ?_, h2.len, fun i u l hu hl => own_below (h2.at_ i u l hu hl) hb, h2.part⟩
  have hg : w.grownBy w' none := ⟨hb.os, hb.tape, hb.output, hb.size, fun k hk _ => hb.block k hk⟩
  refine World.ownsRow.kept h1 hg ?_
  rcases h1.2 with ⟨h1, _⟩ | ⟨g', cap, cur, h1, _⟩
  · exact .inl (by rw [h1]; rfl)
  · exact .inr (by rw [h1]; simp [Value.ownBlock])
/-- a row of bools is written: the slices of ints stay -/
theorem OwnSS.beside {B g : Nat} {cs : Array Value} {w w' : World} {v : Value} {fs : List (List Int)} (h : OwnSS B w v fs) (hg : w.grownBy w' (some g)) (hb : Blk w g 4 cs) : OwnSS B w' v fs := by
  obtain ⟨us, h1, h2⟩ := h
  exact ⟨us, own_beside h1 hg hb (by decide), h2.len, fun i u l hu hl => own_beside (h2.at_ i u l hu hl) hg hb (by decide), h2.part⟩
theorem OwnSS.less {B C : Nat} {w : World} {v : Value} {fs : List (List Int)} (h : OwnSS B w v fs) (hC : C ≤ B) : OwnSS C w v fs := by
  obtain ⟨us, h1, h2⟩ := h
  refine ⟨us, ?_, h2.len, fun i u l hu hl => own_less (h2.at_ i u l hu hl) hC, h2.part⟩
  rcases h1 with ⟨a, b⟩
  refine ⟨a, ?_⟩
  rcases b with b | ⟨g, cap, cur, h1, h2, h3⟩
  · exact .inl b
  · exact .inr ⟨g, cap, cur, h1, by omega, h3⟩
theorem OwnSS.nil (B : Nat) (w : World) : OwnSS B w (.slice none 0 0) [] := ⟨[], World.ownsRow_nil _ _ _ _, rfl, fun i u l hu hl => by simp at hu, List.Pairwise.nil⟩
theorem ownSS_form {w : World} {B : Nat} {v : Value} {fs : List (List Int)} (h : OwnSS B w v fs) : ∃ A c, v = .slice A fs.length c := by
  obtain ⟨us, h1, h2⟩ := h
  rcases h1.2 with ⟨a, b⟩ | ⟨g, cap, cur, h3, _⟩
  · exact ⟨none, 0, by rw [a, ← h2.len, b]⟩
  · exact ⟨_, _, by rw [h3, h2.len]⟩
end Go.Proofs.Ytdhppajfdcfikaa
