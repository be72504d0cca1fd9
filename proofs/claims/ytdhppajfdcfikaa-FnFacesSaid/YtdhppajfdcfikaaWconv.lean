/- What the laws' helpers on windows do: the size, the copy, the comparison. No condition but the sizes that are named. -/
import Derived.Test.YtdhppajfdcfikaaConv
import Derived.Test.YtdhppajfdcfikaaWinP
namespace Go.Proofs.Ytdhppajfdcfikaa
open Go.ChangeShapes Go.WideShapes Go.ChangeAt Go.RowKit
set_option maxHeartbeats 1000000
set_option linter.unusedSimpArgs false
set_option linter.unusedVariables false

def szW (left n m : Int) : Int := if left - n < 0 then -1 else szF (left - n) m
theorem szWindow_any (vn vl : Value) (ns ls : List (Int × Int)) (left : Int) (w : World) (hn : PairsAt w vn ns) (hl : PairsAt w vl ls) (h0 : 0 ≤ left) (h1 : left ≤ 1048576) : Calls Try.prog 14 #[.agg #[vn, vl], .int .i64 left] w fun e w' => e = .returned (.int .i64 (szW left ns.length ls.length)) ∧ Below w.heap.size w w' := by
  have s0 : Below w.heap.size w (w.alloc (.cells #[vn, vl] 25)) := (Below.refl _ _).alloc (Nat.le_refl _) _
  have HN := hid (hn.below s0)
  have HL := hid (hl.below s0)
  have B0 := hid (BoxV.new w vn vl 25 w.heap.size rfl)
  have S0 := hid s0
  clear s0
  obtain ⟨A, c, rfl, hcn, hm, _⟩ := id hn
  obtain ⟨A', c', rfl, hcl, hm', _⟩ := id hl
  clear hn hl
  unfold maxLen at hm hm'
  have v0 := B0.out.c0
  have v1 := B0.out.c1
  by_cases h : left - (ns.length : Int) < 0
  · have e1 : szF left ns.length = -1 := by unfold szF; rw [if_pos h]
    have E1 := hid e1
    clear e1
    go_enter Try.func14, Try.ntmps14
    go_wp2_with fail
    refine (szNodeS_any _ ns _ _ HN.out h0 h1).mono ?_
    rintro e w' ⟨rfl, rfl⟩
    rw [E1.out]
    go_wp2
    go_ret
    exact ⟨ret_int (by unfold szW; rw [if_pos h]), S0.out⟩
  · have e1 : szF left ns.length = left - ns.length := by unfold szF; rw [if_neg h]
    have E1 := hid e1
    clear e1
    have hge : (ns.length : Int) ≤ left := by omega
    by_cases h2 : left - (ns.length : Int) - (ls.length : Int) < 0
    · have e2 : szF (left - ns.length) ls.length = -1 := by unfold szF; rw [if_pos h2]
      have E2 := hid e2
      clear e2
      go_enter Try.func14, Try.ntmps14
      go_wp2_with fail
      refine (szNodeS_any _ ns _ _ HN.out h0 h1).mono ?_
      rintro e w' ⟨rfl, rfl⟩
      rw [E1.out]
      go_wp2_with fail
      refine (szLeadS_any _ ls _ _ HL.out (by omega) (by omega)).mono ?_
      rintro e w' ⟨rfl, rfl⟩
      rw [E2.out]
      go_wp2
      go_ret
      exact ⟨ret_int (by unfold szW; rw [if_neg (by omega), E2.out]), S0.out⟩
    · have e2 : szF (left - ns.length) ls.length = left - ns.length - ls.length := by unfold szF; rw [if_neg h2]
      have E2 := hid e2
      clear e2
      go_enter Try.func14, Try.ntmps14
      go_wp2_with fail
      refine (szNodeS_any _ ns _ _ HN.out h0 h1).mono ?_
      rintro e w' ⟨rfl, rfl⟩
      rw [E1.out]
      go_wp2_with fail
      refine (szLeadS_any _ ls _ _ HL.out (by omega) (by omega)).mono ?_
      rintro e w' ⟨rfl, rfl⟩
      rw [E2.out]
      have hge2 : 0 ≤ left - (ns.length : Int) - (ls.length : Int) := by omega
      go_wp2
      go_ret
      exact ⟨ret_int (by unfold szW; rw [if_neg (by omega), E2.out]), S0.out⟩
def NewWin (ns ls : List (Int × Int)) (w : World) (e : Ending) (w' : World) : Prop := ∃ p1 p2, e = .returned (.agg #[p1, p2]) ∧ OwnPairs w.heap.size 71 w' p1 ns ∧ OwnPairs w.heap.size 73 w' p2 ls ∧ Below w.heap.size w w'
theorem Blk.far {w : World} {g : Nat} {t : TypeId} {cs : Array Value} (h : Blk w g t cs) {p : Addr} (hp : g ≠ p.block) (u : Value) : Blk (w.setCell p u) g t cs := (Below.heap_setCell w p u g hp).trans h
theorem toWindow_any (vn vl : Value) (ns ls : List (Int × Int)) (w : World) (hn : PairsAt w vn ns) (hl : PairsAt w vl ls) (h1 : ns.length ≤ 1048576) (h2 : ls.length ≤ 1048576) : Calls Try.prog 16 #[.agg #[vn, vl]] w (NewWin ns ls w) := by
  obtain ⟨W0, hW0⟩ : ∃ W : World, W = ((w.alloc (.cells #[vn, vl] 25)).alloc (.cells #[.slice none 0 0, .slice none 0 0] 31)).alloc (.cells #[.slice none 0 0, .slice none 0 0] 31) := ⟨_, rfl⟩
  have s0 : Below w.heap.size w W0 := by rw [hW0]; exact (((Below.refl _ _).alloc (Nat.le_refl _) _).alloc (by simp) _).alloc (by simp; omega) _
  have B0 : Hid (BoxV W0 w.heap.size vn vl) := hid (by rw [hW0]; exact ((BoxV.new w vn vl _ _ rfl).alloc _).alloc _)
  have R0 : Hid (Blk W0 (w.heap.size + 1) 31 #[.slice none 0 0, .slice none 0 0]) := hid (by
    rw [hW0]
    have hb : Blk ((w.alloc (.cells #[vn, vl] 25)).alloc (.cells #[.slice none 0 0, .slice none 0 0] 31)) (w.heap.size + 1) 31 #[.slice none 0 0, .slice none 0 0] := by
      have := Blk.new (w.alloc (.cells #[vn, vl] 25)) 31 #[.slice none 0 0, .slice none 0 0]
      simpa using this
    exact hb.below ((Below.refl _ _).alloc (Nat.le_refl _) _) hb.lt)
  have O0 : Hid (Blk W0 (w.heap.size + 1 + 1) 31 #[.slice none 0 0, .slice none 0 0]) := hid (by
    rw [hW0]
    have := Blk.new ((w.alloc (.cells #[vn, vl] 25)).alloc (.cells #[.slice none 0 0, .slice none 0 0] 31)) 31 #[.slice none 0 0, .slice none 0 0]
    simpa using this)
  have HN := hid (hn.below s0)
  have HLw := hid hl
  have S0 := hid s0
  have v0 := B0.out.c0
  have v1 := B0.out.c1
  clear s0
  have z0 : w.heap.size + 1 + 1 + 1 = W0.heap.size := by rw [hW0]; simp
  obtain ⟨A, c, rfl, hcn, hm, _⟩ := id hn
  obtain ⟨A', c', rfl, hcl, hm', _⟩ := id hl
  clear hn hl
  go_enter Try.func16, Try.ntmps16
  have Z0 := hid z0
  clear z0 v0 v1
  go_wp2_with fail
  rw [← hW0]
  clear hW0
  refine (toNodeS_any _ ns _ HN.out h1).mono ?_
  rintro e w1 ⟨p1, rfl, ho1, hb1⟩
  have hz := hb1.size
  obtain ⟨g1, rfl, hg1, hl1, hk1⟩ := ho1
  have B1 := hid (B0.out.below hb1)
  have R1 := hid (R0.out.below hb1 R0.out.lt)
  have O1 := hid (O0.out.below hb1 O0.out.lt)
  have S1 := hid (then_ S0.out hb1 S0.out.size)
  have K1 := hid hk1
  have zz := Z0.out
  have ne1 : g1 ≠ w.heap.size + 1 + 1 := by omega
  have ne2 : g1 ≠ w.heap.size + 1 := by omega
  have zs1 : w.heap.size + 1 + 1 + 1 ≤ w1.heap.size := by omega
  have lt1 := hk1.lt
  clear zz hb1 hk1 hz
  have o0 : w1.cell? ⟨w.heap.size + 1 + 1, 0, none⟩ = some (.slice none 0 0) := by rw [O1.out.cell]; rfl
  have of0 : w1.frozen? ⟨w.heap.size + 1 + 1, 0, none⟩ = false := O1.out.frozen 0
  have b1 := B1.out.c1
  go_wp2_with fail
  obtain ⟨W2, hW2⟩ : ∃ W : World, W = w1.setCell ⟨w.heap.size + 1 + 1, 0, none⟩ (.slice (some ⟨g1, 0, none⟩) ns.length ns.length) := ⟨_, rfl⟩
  rw [← hW2]
  have S2 : Hid (Below w.heap.size w W2) := hid (by rw [hW2]; exact S1.out.setCell (by simp; omega) _)
  have O2 : Hid (Blk W2 (w.heap.size + 1 + 1) 31 #[.slice (some ⟨g1, 0, none⟩) ns.length ns.length, .slice none 0 0]) := hid (by rw [hW2]; exact O1.out.set_ 0 _)
  have R2 : Hid (Blk W2 (w.heap.size + 1) 31 #[.slice none 0 0, .slice none 0 0]) := hid (by rw [hW2]; exact R1.out.far (by simp) _)
  have K2 : Hid (Blk W2 g1 71 (flat ns).toArray) := hid (by rw [hW2]; exact K1.out.far (by simpa using ne1) _)
  have zs2 : w.heap.size + 1 + 1 + 1 ≤ W2.heap.size := by rw [hW2]; simp [World.setCell]; omega
  clear hW2 o0 of0 b1 lt1 zs1
  refine (toLeadS_any _ ls _ (HLw.out.below S2.out) h2).mono ?_
  rintro e w3 ⟨p3, rfl, ho3, hb3⟩
  have hz := hb3.size
  obtain ⟨g3, rfl, hg3, hl3, hk3⟩ := ho3
  have S3 := hid (then_ S2.out hb3 S2.out.size)
  have O3 := hid (O2.out.below hb3 O2.out.lt)
  have R3 := hid (R2.out.below hb3 R2.out.lt)
  have K3 := hid (K2.out.below hb3 K2.out.lt)
  have L3 := hid hk3
  have ne3 : g3 ≠ w.heap.size + 1 + 1 := by omega
  have ne4 : g3 ≠ w.heap.size + 1 := by omega
  have lt3 := hk3.lt
  have zs3 : w.heap.size + 1 + 1 + 1 ≤ w3.heap.size := by omega
  clear hb3 hk3 hz
  have o0 : w3.cell? ⟨w.heap.size + 1 + 1, 0, none⟩ = some (.slice (some ⟨g1, 0, none⟩) ns.length ns.length) := by rw [O3.out.cell]; rfl
  have o1 : w3.cell? ⟨w.heap.size + 1 + 1, 1, none⟩ = some (.slice none 0 0) := by rw [O3.out.cell]; rfl
  have of0 : w3.frozen? ⟨w.heap.size + 1 + 1, 0, none⟩ = false := O3.out.frozen 0
  have of1 : w3.frozen? ⟨w.heap.size + 1 + 1, 1, none⟩ = false := O3.out.frozen 1
  have r0 : w3.cell? ⟨w.heap.size + 1, 0, none⟩ = some (.slice none 0 0) := by rw [R3.out.cell]; rfl
  have r1 : w3.cell? ⟨w.heap.size + 1, 1, none⟩ = some (.slice none 0 0) := by rw [R3.out.cell]; rfl
  have rf0 : w3.frozen? ⟨w.heap.size + 1, 0, none⟩ = false := R3.out.frozen 0
  have rf1 : w3.frozen? ⟨w.heap.size + 1, 1, none⟩ = false := R3.out.frozen 1
  go_wp2
  refine bodyPost_ret (v := .agg #[.slice (some ⟨g1, 0, none⟩) ns.length ns.length, .slice (some ⟨g3, 0, none⟩) ls.length ls.length]) (by simp [results, Try.results16, go_sem, o0, o1, r0, r1]) rfl ⟨_, _, rfl, ⟨g1, rfl, by have := Z0.out; omega, hl1, ?_⟩, ⟨g3, rfl, by omega, hl3, ?_⟩, ?_⟩
  · exact ((K3.out.far (by simpa using ne1) _).far (by simpa using ne2) _).far (by simpa using ne2) _
  · exact ((L3.out.far (by simpa using ne3) _).far (by simpa using ne4) _).far (by simpa using ne4) _
  · exact ((S3.out.setCell (by simp; omega) _).setCell (by simp) _).setCell (by simp) _
theorem eqWindow_same (a b c d : Value) (ns ls : List (Int × Int)) (w : World) (ha : PairsAt w a ns) (hb : PairsAt w b ls) (hc : PairsAt w c ns) (hd : PairsAt w d ls) : Calls Try.prog 18 #[.agg #[a, b], .agg #[c, d]] w fun e w' => e = .returned (.bool true) ∧ Below w.heap.size w w' := by
  have s0 : Below w.heap.size w ((w.alloc (.cells #[a, b] 31)).alloc (.cells #[c, d] 31)) := ((Below.refl _ _).alloc (Nat.le_refl _) _).alloc (by simp) _
  have HA := hid (ha.below s0)
  have HB := hid (hb.below s0)
  have HC := hid (hc.below s0)
  have HD := hid (hd.below s0)
  have S0 := hid s0
  have X0 := hid ((BoxV.new w a b 31 w.heap.size rfl).alloc (.cells #[c, d] 31))
  have Y0 := hid (BoxV.new (w.alloc (.cells #[a, b] 31)) c d 31 (w.heap.size + 1) (by simp))
  clear s0
  obtain ⟨A1, c1, rfl, _, _, _⟩ := id ha
  obtain ⟨A2, c2, rfl, _, _, _⟩ := id hb
  obtain ⟨A3, c3, rfl, _, _, _⟩ := id hc
  obtain ⟨A4, c4, rfl, _, _, _⟩ := id hd
  clear ha hb hc hd
  go_enter Try.func18, Try.ntmps18
  go_wp2_with fail
  refine (eqNodeS_same _ _ ns _ HA.out HC.out).mono ?_
  rintro e w1 ⟨rfl, hb1⟩
  have X1 := hid (X0.out.below hb1)
  have Y1 := hid (Y0.out.below hb1)
  have S1 := hid (then_ S0.out hb1 S0.out.size)
  have HB1 := hid (HB.out.below hb1)
  have HD1 := hid (HD.out.below hb1)
  clear hb1
  have x1 := X1.out.c1
  have y1 := Y1.out.c1
  go_wp2_with fail
  refine (eqLeadS_same _ _ ls _ HB1.out HD1.out).mono ?_
  rintro e w2 ⟨rfl, hb2⟩
  go_wp2
  go_ret
  exact ⟨rfl, then_ S1.out hb2 S1.out.size⟩
end Go.Proofs.Ytdhppajfdcfikaa
