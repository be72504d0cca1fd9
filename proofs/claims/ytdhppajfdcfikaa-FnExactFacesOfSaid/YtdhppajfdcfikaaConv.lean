/- What the laws' helpers on slices of nodes and leads do: the size, the copy, the comparison. No condition but the sizes that are named. -/
import Derived.Test.YtdhppajfdcfikaaNode
import Derived.Laws.MakeOwn
namespace Go.Proofs.Ytdhppajfdcfikaa
open Go.ChangeShapes Go.WideShapes Go.ChangeAt Go.RowKit
set_option maxHeartbeats 1000000
set_option linter.unusedSimpArgs false
set_option linter.unusedVariables false

/-- block g is just these cells -/
def Blk (w : World) (g : Nat) (t : TypeId) (cs : Array Value) : Prop := w.heap[g]? = some (.cells cs t (0, 0))
section
variable {w w' : World} {g : Nat} {t : TypeId} {cs : Array Value}
theorem Blk.lt (h : Blk w g t cs) : g < w.heap.size := by
  rcases Nat.lt_or_ge g w.heap.size with hlt | hge
  · exact hlt
  · unfold Blk at h; rw [Array.getElem?_eq_none hge] at h; cases h
theorem Blk.cell (h : Blk w g t cs) (i : Nat) : w.cell? ⟨g, i, none⟩ = cs[i]? := cell_of_row w g i cs t (0, 0) h
theorem Blk.frozen (h : Blk w g t cs) (i : Nat) : w.frozen? ⟨g, i, none⟩ = false := by
  unfold Blk at h
  simp [World.frozen?, h]
theorem Blk.new (w : World) (t : TypeId) (cs : Array Value) : Blk (w.alloc (.cells cs t)) w.heap.size t cs := heap_alloc_new w _
theorem Blk.set_ (h : Blk w g t cs) (i : Nat) (u : Value) : Blk (w.setCell ⟨g, i, none⟩ u) g t (cs.setIfInBounds i u) := by
  unfold Blk at h ⊢
  simp [World.setCell, Array.getElem?_modify, h]
theorem Blk.below {B : Nat} (h : Blk w g t cs) (hb : Below B w w') (hg : g < B) : Blk w' g t cs := (hb.block g hg).trans h
end
theorem Blk.grow {g : Nat} {T : TypeId} {cs : Array Value} {w w' : World} {row : Option Nat} (h : Blk w g T cs) (hg : w.grownBy w' row) (hr : some g ≠ row) : Blk w' g T cs := by
  have hlt := h.lt
  unfold Blk at h ⊢; rw [hg.block g hlt hr]; exact h
/-- a new slice of pairs in memory from block B on -/
def OwnPairs (B : Nat) (T : TypeId) (w : World) (v : Value) (ns : List (Int × Int)) : Prop := ∃ g, v = .slice (some ⟨g, 0, none⟩) ns.length ns.length ∧ B ≤ g ∧ ns.length ≤ 1048576 ∧ Blk w g T (flat ns).toArray
theorem flat_length (ns : List (Int × Int)) : (flat ns).length = 2 * ns.length := by
  induction ns with
  | nil => rfl
  | cons p t ih => have e : flat (p :: t) = .int .i64 p.1 :: .int .i64 p.2 :: flat t := rfl
                   rw [e]; simp [ih]; omega
theorem OwnPairs.pairs {B : Nat} {T : TypeId} {w : World} {v : Value} {ns : List (Int × Int)} (h : OwnPairs B T w v ns) : PairsAt w v ns := by
  obtain ⟨g, rfl, hB, hn, hb⟩ := h
  refine ⟨_, _, rfl, Nat.le_refl _, by unfold maxLen; omega, fun i x y hi => ⟨g, 0, rfl, hb.lt, ?_⟩⟩
  have := flat_get ns i x y hi
  rw [hb.cell, hb.cell]
  simpa using this
theorem OwnPairs.below {B C : Nat} {T : TypeId} {w w' : World} {v : Value} {ns : List (Int × Int)} (h : OwnPairs B T w v ns) (hb : Below w.heap.size w w') : OwnPairs B T w' v ns := by
  obtain ⟨g, h1, h2, h3, h4⟩ := h
  exact ⟨g, h1, h2, h3, h4.below hb h4.lt⟩
theorem OwnPairs.less {B C : Nat} {T : TypeId} {w : World} {v : Value} {ns : List (Int × Int)} (h : OwnPairs B T w v ns) (hB : C ≤ B) : OwnPairs C T w v ns := by
  obtain ⟨g, h1, h2, h3, h4⟩ := h
  exact ⟨g, h1, by omega, h3, h4⟩
/-- the made slice, the first k pairs filled in -/
def filled (ns : List (Int × Int)) (k : Nat) : List Value := flat (ns.take k) ++ List.replicate (2 * (ns.length - k)) (.int .i64 0)
theorem filled_start (ns : List (Int × Int)) : (filled ns 0).toArray = madeCells #[.int .i64 0, .int .i64 0] (ns.length * 2) := by
  apply Array.ext_getElem?
  intro i
  simp only [filled, flat, List.take_zero, List.flatMap_nil, List.nil_append, Nat.sub_zero, List.getElem?_toArray, madeCells, Array.getElem?_map, Array.getElem?_range]
  by_cases h : i < ns.length * 2
  · rw [List.getElem?_replicate, if_pos (by omega), if_pos h]
    have : i % 2 = 0 ∨ i % 2 = 1 := by omega
    rcases this with e | e <;> simp [e]
  · rw [List.getElem?_replicate, if_neg (by omega), if_neg h]; rfl
theorem filled_length (ns : List (Int × Int)) (k : Nat) (hk : k ≤ ns.length) : (filled ns k).length = 2 * ns.length := by
  simp [filled, flat_length]; omega
theorem filled_end (ns : List (Int × Int)) : filled ns ns.length = flat ns := by simp [filled]
theorem flat_snoc (ns : List (Int × Int)) (x y : Int) : flat (ns ++ [(x, y)]) = flat ns ++ [.int .i64 x, .int .i64 y] := by simp [flat]
theorem filled_step (ns : List (Int × Int)) (k : Nat) (x y : Int) (h : ns[k]? = some (x, y)) : (((filled ns k).toArray.setIfInBounds (k * 2) (.int .i64 x)).setIfInBounds (k * 2 + 1) (.int .i64 y)) = (filled ns (k + 1)).toArray := by
  have hk : k < ns.length := by
    rcases Nat.lt_or_ge k ns.length with h' | h'
    · exact h'
    · rw [List.getElem?_eq_none h'] at h; cases h
  have hl : (flat (ns.take k)).length = k * 2 := by rw [flat_length, List.length_take]; omega
  have e1 : filled ns k = flat (ns.take k) ++ (.int .i64 0 :: .int .i64 0 :: List.replicate (2 * (ns.length - (k + 1))) (.int .i64 0)) := by
    unfold filled
    rw [show 2 * (ns.length - k) = 2 * (ns.length - (k + 1)) + 1 + 1 by omega, List.replicate_succ, List.replicate_succ]
  have e2 : filled ns (k + 1) = flat (ns.take k) ++ (.int .i64 x :: .int .i64 y :: List.replicate (2 * (ns.length - (k + 1))) (.int .i64 0)) := by
    unfold filled
    rw [List.take_add_one, h]
    simp only [Option.toList_some]
    rw [flat_snoc, List.append_assoc]; rfl
  rw [e1, e2]
  simp only [List.setIfInBounds_toArray]
  congr 1
  rw [List.set_append_right _ _ (by omega), hl, Nat.sub_self, List.set_append_right _ _ (by omega), hl]
  simp
def szF (left n : Int) : Int := if left - n < 0 then -1 else left - n
theorem szNodeS_any (v : Value) (ns : List (Int × Int)) (left : Int) (w : World) (hv : PairsAt w v ns) (h0 : 0 ≤ left) (h1 : left ≤ 1048576) : Calls Try.prog 50 #[v, .int .i64 left] w fun e w' => e = .returned (.int .i64 (szF left ns.length)) ∧ w = w' := by
  obtain ⟨A, c, rfl, hc, hm, hcell⟩ := hv
  unfold maxLen at hm
  clear hcell
  by_cases h : left - (ns.length : Int) < 0
  · have hd : left < (ns.length : Int) := by omega
    go_enter Try.func50, Try.ntmps50
    go_wp2
    go_ret
    exact ⟨ret_int (by simp [szF, h]), rfl⟩
  · have hd : (ns.length : Int) ≤ left := by omega
    go_enter Try.func50, Try.ntmps50
    go_wp2
    go_ret
    exact ⟨ret_int (by unfold szF; rw [if_neg (by omega)]), rfl⟩
def NewNodeS (ns : List (Int × Int)) (w : World) (e : Ending) (w' : World) : Prop := ∃ v, e = .returned v ∧ OwnPairs w.heap.size 71 w' v ns ∧ Below w.heap.size w w'
theorem infoNode : (Try.prog.info? 71).map (fun i => (i.zero, i.size, i.bytes)) = some (some (.agg #[.int .i64 0, .int .i64 0]), 2, 16) := by kernel_rfl
theorem toNodeS_any (v : Value) (ns : List (Int × Int)) (w : World) (hv : PairsAt w v ns) (hn : ns.length ≤ 1048576) : Calls Try.prog 52 #[v] w (NewNodeS ns w) := by
  obtain ⟨A, c, rfl, hc, hm, hcell⟩ := hv
  unfold maxLen at hm
  have HC := hid hcell
  clear hcell
  obtain ⟨i0, hi, hz0, hz1, hz2⟩ := info_parts infoNode
  have hmk : ∀ W : World, (Instr.makeSlice 28 (.int .i64 (ns.length : Int)) (.int .i64 (ns.length : Int))).run Try.prog W = .ok (.slice (some ⟨W.heap.size, 0, none⟩) ns.length ns.length) (W.alloc (.cells (madeCells #[.int .i64 0, .int .i64 0] (ns.length * 2)) 71)) := fun W => by
    have := run_make (P := Try.prog) W 28 71 i0 _ Try.underlying28 hi hz0 .i64 .i64 (ns.length : Int) (ns.length : Int) (by omega) (by omega) (by rw [hz2]; omega) (by omega)
    rw [hz1] at this
    simp only [Int.toNat_natCast] at this
    exact this
  clear hi hz0 hz1 hz2
  go_enter Try.func52, Try.ntmps52
  go_wp2
  go_loopw [4] (fun i wr => ∃ k : Nat, k ≤ ns.length ∧ i = .int .i64 k ∧ Blk wr w.heap.size 71 (filled ns k).toArray ∧ Below w.heap.size w wr) (fun i _ => ns.length - (intOf i).toNat)
  case atStart => exact ⟨0, Nat.zero_le _, rfl, by rw [filled_start]; exact Blk.new _ _ _, (Below.refl _ _).alloc (Nat.le_refl _) _⟩
  case round =>
    clear hmk
    obtain ⟨k, hk, rfl, hblk, hb⟩ := hrel
    have hbs := hb.size
    by_cases hlt : k < ns.length
    · obtain ⟨⟨x, y⟩, hxy⟩ : ∃ p, ns[k]? = some p := ⟨_, List.getElem?_eq_getElem hlt⟩
      obtain ⟨b, off, rfl, hbb, h1, h2⟩ := HC.out k x y hxy
      have h1' : wr.cell? ⟨b, off + k * 2, none⟩ = some (.int .i64 x) := by rw [hb.cell (p := ⟨b, _, none⟩) hbb]; exact h1
      have h2' : wr.cell? ⟨b, off + k * 2 + 1, none⟩ = some (.int .i64 y) := by rw [hb.cell (p := ⟨b, _, none⟩) hbb]; exact h2
      have HX := hid hxy
      have HB := hid hb
      have HK := hid hblk
      clear h1 h2 hxy hb hblk
      go_wp2_with fail
      refine (toNode_any _ _ _).mono ?_
      rintro e w1 ⟨rfl, hb1⟩
      have hblk := HK.out.below hb1 HK.out.lt
      have fl := filled_length ns k hk
      have c0 : w1.cell? ⟨w.heap.size, k * 2, none⟩ = some ((filled ns k)[k * 2]'(by omega)) := by rw [hblk.cell]; simp
      have c1 : w1.cell? ⟨w.heap.size, k * 2 + 1, none⟩ = some ((filled ns k)[k * 2 + 1]'(by omega)) := by rw [hblk.cell]; simp
      have f0 : w1.frozen? ⟨w.heap.size, k * 2, none⟩ = false := hblk.frozen _
      have f1 : w1.frozen? ⟨w.heap.size, k * 2 + 1, none⟩ = false := hblk.frozen _
      have HK1 := hid hblk
      generalize (filled ns k)[k * 2]'(by omega) = o0 at c0
      generalize (filled ns k)[k * 2 + 1]'(by omega) = o1 at c1
      clear hblk fl
      have HB1 := hid hb1
      clear hb1
      go_wp2
      go_roundw
      case rel => exact ⟨k + 1, by omega, by go_num, by rw [← filled_step ns k x y HX.out]; exact (HK1.out.set_ _ _).set_ _ _, ((HB.out.trans (HB1.out.mono hbs)).setCell (p := ⟨w.heap.size, _, none⟩) (Nat.le_refl _) _).setCell (p := ⟨w.heap.size, _, none⟩) (Nat.le_refl _) _⟩
      case measure => simp [intOf]; omega
    · have he : k = ns.length := by omega
      subst he
      go_wp2
      go_ret
      exact ⟨_, rfl, ⟨w.heap.size, rfl, Nat.le_refl _, hn, by rw [filled_end] at hblk; exact hblk⟩, hb⟩
theorem eqNode_any (a b c d : Int) (w : World) : Calls Try.prog 80 #[.agg #[.int .i64 a, .int .i64 b], .agg #[.int .i64 c, .int .i64 d]] w fun e w' => e = .returned (.bool (eqP a b c d)) ∧ Below w.heap.size w w' := by
  by_cases h1 : a = c
  · subst h1
    by_cases h2 : b = d
    · subst h2
      go_enter Try.func80, Try.ntmps80
      go_wp2
      go_ret
      exact ⟨ret_bool (by simp [eqP]), ((Below.refl _ _).alloc (Nat.le_refl _) _).alloc (by simp) _⟩
    · have h2' : (b != d) = true := by simpa using h2
      go_enter Try.func80, Try.ntmps80
      go_wp2
      go_ret
      exact ⟨ret_bool (by simp [eqP, h2]), ((Below.refl _ _).alloc (Nat.le_refl _) _).alloc (by simp) _⟩
  · have h1' : (a != c) = true := by simpa using h1
    go_enter Try.func80, Try.ntmps80
    go_wp2
    go_ret
    exact ⟨ret_bool (by simp [eqP, h1]), ((Below.refl _ _).alloc (Nat.le_refl _) _).alloc (by simp) _⟩
theorem eqNodeS_same (v v' : Value) (ns : List (Int × Int)) (w : World) (hv : PairsAt w v ns) (hv' : PairsAt w v' ns) : Calls Try.prog 54 #[v, v'] w fun e w' => e = .returned (.bool true) ∧ Below w.heap.size w w' := by
  obtain ⟨A, c, rfl, hc, hm, hcell⟩ := hv
  obtain ⟨A', c', rfl, hc', hm', hcell'⟩ := hv'
  unfold maxLen at hm hm'
  have HC := hid hcell
  have HC' := hid hcell'
  clear hcell hcell'
  go_enter Try.func54, Try.ntmps54
  go_wp2
  go_loopw [5] (fun i wr => ∃ k : Nat, k ≤ ns.length ∧ i = .int .i64 k ∧ Below w.heap.size w wr) (fun i _ => ns.length - (intOf i).toNat)
  case atStart => exact ⟨0, Nat.zero_le _, rfl, Below.refl _ _⟩
  case round =>
    obtain ⟨k, hk, rfl, hb⟩ := hrel
    by_cases hlt : k < ns.length
    · obtain ⟨⟨x, y⟩, hxy⟩ : ∃ p, ns[k]? = some p := ⟨_, List.getElem?_eq_getElem hlt⟩
      obtain ⟨b, off, rfl, hbb, h1, h2⟩ := HC.out k x y hxy
      obtain ⟨b', off', rfl, hbb', h3, h4⟩ := HC'.out k x y hxy
      have hbs := hb.size
      have h1' : ∀ p, (mv wr p).cell? ⟨b, off + k * 2, none⟩ = some (.int .i64 x) := fun p => cell_mv (by omega) (by rw [hb.cell (p := ⟨b, _, none⟩) hbb]; exact h1) p
      have h2' : ∀ p, (mv wr p).cell? ⟨b, off + k * 2 + 1, none⟩ = some (.int .i64 y) := fun p => cell_mv (by omega) (by rw [hb.cell (p := ⟨b, _, none⟩) hbb]; exact h2) p
      have h3' : ∀ p, (mv wr p).cell? ⟨b', off' + k * 2, none⟩ = some (.int .i64 x) := fun p => cell_mv (by omega) (by rw [hb.cell (p := ⟨b', _, none⟩) hbb']; exact h3) p
      have h4' : ∀ p, (mv wr p).cell? ⟨b', off' + k * 2 + 1, none⟩ = some (.int .i64 y) := fun p => cell_mv (by omega) (by rw [hb.cell (p := ⟨b', _, none⟩) hbb']; exact h4) p
      have hk0 : (0 : Int) ≤ (k : Int) := by omega
      have hk1 : (k : Int) < (ns.length : Int) := by omega
      have e : eqP x y x y = true := by simp [eqP]
      have HB := hid hb
      clear h1 h2 h3 h4 hxy hb
      go_wp2_with fail
      refine wp_region_mv (by kernel_rfl) (by kernel_rfl) ?_
      repeat (go_big_quiet_step ((go_at_call 80; exact calls_mv ((eqNode_any _ _ _ _ _).mono fun _ _ h => ⟨h.1.trans (ret_bool e), h.2⟩))))
      refine wpQuiet_nil ?_
      intro _ hw'
      obtain ⟨q, hw''⟩ := hw'
      subst hw''
      clear e
      go_wp2
      go_roundw
      case rel => exact ⟨k + 1, by omega, by go_num, then_ HB.out (below_mv _ q) hbs⟩
      case measure => simp [intOf]; omega
    · go_wp2
      go_ret
      exact ⟨rfl, hb⟩
theorem szLeadS_any (v : Value) (ns : List (Int × Int)) (left : Int) (w : World) (hv : PairsAt w v ns) (h0 : 0 ≤ left) (h1 : left ≤ 1048576) : Calls Try.prog 51 #[v, .int .i64 left] w fun e w' => e = .returned (.int .i64 (szF left ns.length)) ∧ w = w' := by
  obtain ⟨A, c, rfl, hc, hm, hcell⟩ := hv
  unfold maxLen at hm
  clear hcell
  by_cases h : left - (ns.length : Int) < 0
  · have hd : left < (ns.length : Int) := by omega
    go_enter Try.func51, Try.ntmps51
    go_wp2
    go_ret
    exact ⟨ret_int (by simp [szF, h]), rfl⟩
  · have hd : (ns.length : Int) ≤ left := by omega
    go_enter Try.func51, Try.ntmps51
    go_wp2
    go_ret
    exact ⟨ret_int (by unfold szF; rw [if_neg (by omega)]), rfl⟩
def NewLeadS (ns : List (Int × Int)) (w : World) (e : Ending) (w' : World) : Prop := ∃ v, e = .returned v ∧ OwnPairs w.heap.size 73 w' v ns ∧ Below w.heap.size w w'
theorem infoLead : (Try.prog.info? 73).map (fun i => (i.zero, i.size, i.bytes)) = some (some (.agg #[.int .i64 0, .int .i64 0]), 2, 16) := by kernel_rfl
theorem toLeadS_any (v : Value) (ns : List (Int × Int)) (w : World) (hv : PairsAt w v ns) (hn : ns.length ≤ 1048576) : Calls Try.prog 53 #[v] w (NewLeadS ns w) := by
  obtain ⟨A, c, rfl, hc, hm, hcell⟩ := hv
  unfold maxLen at hm
  have HC := hid hcell
  clear hcell
  obtain ⟨i0, hi, hz0, hz1, hz2⟩ := info_parts infoLead
  have hmk : ∀ W : World, (Instr.makeSlice 29 (.int .i64 (ns.length : Int)) (.int .i64 (ns.length : Int))).run Try.prog W = .ok (.slice (some ⟨W.heap.size, 0, none⟩) ns.length ns.length) (W.alloc (.cells (madeCells #[.int .i64 0, .int .i64 0] (ns.length * 2)) 73)) := fun W => by
    have := run_make (P := Try.prog) W 29 73 i0 _ Try.underlying29 hi hz0 .i64 .i64 (ns.length : Int) (ns.length : Int) (by omega) (by omega) (by rw [hz2]; omega) (by omega)
    rw [hz1] at this
    simp only [Int.toNat_natCast] at this
    exact this
  clear hi hz0 hz1 hz2
  go_enter Try.func53, Try.ntmps53
  go_wp2
  go_loopw [4] (fun i wr => ∃ k : Nat, k ≤ ns.length ∧ i = .int .i64 k ∧ Blk wr w.heap.size 73 (filled ns k).toArray ∧ Below w.heap.size w wr) (fun i _ => ns.length - (intOf i).toNat)
  case atStart => exact ⟨0, Nat.zero_le _, rfl, by rw [filled_start]; exact Blk.new _ _ _, (Below.refl _ _).alloc (Nat.le_refl _) _⟩
  case round =>
    clear hmk
    obtain ⟨k, hk, rfl, hblk, hb⟩ := hrel
    have hbs := hb.size
    by_cases hlt : k < ns.length
    · obtain ⟨⟨x, y⟩, hxy⟩ : ∃ p, ns[k]? = some p := ⟨_, List.getElem?_eq_getElem hlt⟩
      obtain ⟨b, off, rfl, hbb, h1, h2⟩ := HC.out k x y hxy
      have h1' : wr.cell? ⟨b, off + k * 2, none⟩ = some (.int .i64 x) := by rw [hb.cell (p := ⟨b, _, none⟩) hbb]; exact h1
      have h2' : wr.cell? ⟨b, off + k * 2 + 1, none⟩ = some (.int .i64 y) := by rw [hb.cell (p := ⟨b, _, none⟩) hbb]; exact h2
      have HX := hid hxy
      have HB := hid hb
      have HK := hid hblk
      clear h1 h2 hxy hb hblk
      go_wp2_with fail
      refine (toLead_any _ _ _).mono ?_
      rintro e w1 ⟨rfl, hb1⟩
      have hblk := HK.out.below hb1 HK.out.lt
      have fl := filled_length ns k hk
      have c0 : w1.cell? ⟨w.heap.size, k * 2, none⟩ = some ((filled ns k)[k * 2]'(by omega)) := by rw [hblk.cell]; simp
      have c1 : w1.cell? ⟨w.heap.size, k * 2 + 1, none⟩ = some ((filled ns k)[k * 2 + 1]'(by omega)) := by rw [hblk.cell]; simp
      have f0 : w1.frozen? ⟨w.heap.size, k * 2, none⟩ = false := hblk.frozen _
      have f1 : w1.frozen? ⟨w.heap.size, k * 2 + 1, none⟩ = false := hblk.frozen _
      have HK1 := hid hblk
      generalize (filled ns k)[k * 2]'(by omega) = o0 at c0
      generalize (filled ns k)[k * 2 + 1]'(by omega) = o1 at c1
      clear hblk fl
      have HB1 := hid hb1
      clear hb1
      go_wp2
      go_roundw
      case rel => exact ⟨k + 1, by omega, by go_num, by rw [← filled_step ns k x y HX.out]; exact (HK1.out.set_ _ _).set_ _ _, ((HB.out.trans (HB1.out.mono hbs)).setCell (p := ⟨w.heap.size, _, none⟩) (Nat.le_refl _) _).setCell (p := ⟨w.heap.size, _, none⟩) (Nat.le_refl _) _⟩
      case measure => simp [intOf]; omega
    · have he : k = ns.length := by omega
      subst he
      go_wp2
      go_ret
      exact ⟨_, rfl, ⟨w.heap.size, rfl, Nat.le_refl _, hn, by rw [filled_end] at hblk; exact hblk⟩, hb⟩
theorem eqLead_any (a b c d : Int) (w : World) : Calls Try.prog 81 #[.agg #[.int .i64 a, .int .i64 b], .agg #[.int .i64 c, .int .i64 d]] w fun e w' => e = .returned (.bool (eqP a b c d)) ∧ Below w.heap.size w w' := by
  by_cases h1 : a = c
  · subst h1
    by_cases h2 : b = d
    · subst h2
      go_enter Try.func81, Try.ntmps81
      go_wp2
      go_ret
      exact ⟨ret_bool (by simp [eqP]), ((Below.refl _ _).alloc (Nat.le_refl _) _).alloc (by simp) _⟩
    · have h2' : (b != d) = true := by simpa using h2
      go_enter Try.func81, Try.ntmps81
      go_wp2
      go_ret
      exact ⟨ret_bool (by simp [eqP, h2]), ((Below.refl _ _).alloc (Nat.le_refl _) _).alloc (by simp) _⟩
  · have h1' : (a != c) = true := by simpa using h1
    go_enter Try.func81, Try.ntmps81
    go_wp2
    go_ret
    exact ⟨ret_bool (by simp [eqP, h1]), ((Below.refl _ _).alloc (Nat.le_refl _) _).alloc (by simp) _⟩
theorem eqLeadS_same (v v' : Value) (ns : List (Int × Int)) (w : World) (hv : PairsAt w v ns) (hv' : PairsAt w v' ns) : Calls Try.prog 55 #[v, v'] w fun e w' => e = .returned (.bool true) ∧ Below w.heap.size w w' := by
  obtain ⟨A, c, rfl, hc, hm, hcell⟩ := hv
  obtain ⟨A', c', rfl, hc', hm', hcell'⟩ := hv'
  unfold maxLen at hm hm'
  have HC := hid hcell
  have HC' := hid hcell'
  clear hcell hcell'
  go_enter Try.func55, Try.ntmps55
  go_wp2
  go_loopw [5] (fun i wr => ∃ k : Nat, k ≤ ns.length ∧ i = .int .i64 k ∧ Below w.heap.size w wr) (fun i _ => ns.length - (intOf i).toNat)
  case atStart => exact ⟨0, Nat.zero_le _, rfl, Below.refl _ _⟩
  case round =>
    obtain ⟨k, hk, rfl, hb⟩ := hrel
    by_cases hlt : k < ns.length
    · obtain ⟨⟨x, y⟩, hxy⟩ : ∃ p, ns[k]? = some p := ⟨_, List.getElem?_eq_getElem hlt⟩
      obtain ⟨b, off, rfl, hbb, h1, h2⟩ := HC.out k x y hxy
      obtain ⟨b', off', rfl, hbb', h3, h4⟩ := HC'.out k x y hxy
      have hbs := hb.size
      have h1' : ∀ p, (mv wr p).cell? ⟨b, off + k * 2, none⟩ = some (.int .i64 x) := fun p => cell_mv (by omega) (by rw [hb.cell (p := ⟨b, _, none⟩) hbb]; exact h1) p
      have h2' : ∀ p, (mv wr p).cell? ⟨b, off + k * 2 + 1, none⟩ = some (.int .i64 y) := fun p => cell_mv (by omega) (by rw [hb.cell (p := ⟨b, _, none⟩) hbb]; exact h2) p
      have h3' : ∀ p, (mv wr p).cell? ⟨b', off' + k * 2, none⟩ = some (.int .i64 x) := fun p => cell_mv (by omega) (by rw [hb.cell (p := ⟨b', _, none⟩) hbb']; exact h3) p
      have h4' : ∀ p, (mv wr p).cell? ⟨b', off' + k * 2 + 1, none⟩ = some (.int .i64 y) := fun p => cell_mv (by omega) (by rw [hb.cell (p := ⟨b', _, none⟩) hbb']; exact h4) p
      have hk0 : (0 : Int) ≤ (k : Int) := by omega
      have hk1 : (k : Int) < (ns.length : Int) := by omega
      have e : eqP x y x y = true := by simp [eqP]
      have HB := hid hb
      clear h1 h2 h3 h4 hxy hb
      go_wp2_with fail
      refine wp_region_mv (by kernel_rfl) (by kernel_rfl) ?_
      repeat (go_big_quiet_step ((go_at_call 81; exact calls_mv ((eqLead_any _ _ _ _ _).mono fun _ _ h => ⟨h.1.trans (ret_bool e), h.2⟩))))
      refine wpQuiet_nil ?_
      intro _ hw'
      obtain ⟨q, hw''⟩ := hw'
      subst hw''
      clear e
      go_wp2
      go_roundw
      case rel => exact ⟨k + 1, by omega, by go_num, then_ HB.out (below_mv _ q) hbs⟩
      case measure => simp [intOf]; omega
    · go_wp2
      go_ret
      exact ⟨rfl, hb⟩
end Go.Proofs.Ytdhppajfdcfikaa
