/- The strings that the laws draw: what the drawing functions return. No condition but the sizes that are named. -/
import Derived.Test.YtmngmmjimkdcfaaDoorMarkT
import Derived.Test.YtmngmmjimkdcfaaDoorCurN
namespace Go.Proofs.YtmngmmjimkdcfaaDoor
open Go.ChangeShapes Go.WideShapes Go.ChangeAt Go.RowKit
set_option maxHeartbeats 1000000
set_option linter.unusedSimpArgs false
set_option linter.unusedVariables false
def StrLen (lo hi : Nat) (w : World) (e : Ending) (w' : World) : Prop := ∃ s : ByteArray, lo ≤ s.size ∧ s.size ≤ hi ∧ e = .returned (.string s) ∧ Below w.heap.size w w'
theorem grown_new {w w1 w' : World} {r r' : Option Nat} (h : w.grownBy w1 r) (h' : w1.grownBy w' r') (hr : ∀ g, r' = some g → w.heap.size ≤ g) : w.grownBy w' r :=
  ⟨h'.os.trans h.os, h'.tape.trans h.tape, h'.output.trans h.output, Nat.le_trans h.size h'.size, fun k hk hne => (h'.block k (Nat.lt_of_lt_of_le hk h.size) (fun e => by have := hr k e.symm; omega)).trans (h.block k hk hne)⟩
theorem bytesV_set (l : List UInt8) (k : Nat) (c : UInt8) : (bytesV l).set k (.int .u8 (c.toNat : Int)) = bytesV (l.set k c) := by simp [bytesV, List.map_set]
theorem long_any (n : Nat) (x : Int) (w : World) (hn : n ≤ 100000) (hx : ∃ c : UInt8, (c.toNat : Int) = x) : Calls Tryd.prog 27 #[.int .i64 (n : Int), .int .u8 x] w (StrLen n n w) := by
  obtain ⟨c, rfl⟩ := hx
  obtain ⟨i0, hinf, hz0, hz1, hz2⟩ := info_parts infoB
  have HINF := hid (And.intro hinf (And.intro hz0 (And.intro hz1 hz2)))
  have HB2 := hid (show i0.bytes * n ≤ 281474976710656 by rw [hz2]; omega)
  have HM := hid (show n ≤ maxLen by unfold maxLen; omega)
  clear hinf hz0 hz1 hz2
  go_enter Tryd.func27, Tryd.ntmps27
  go_wp2_with (obtain ⟨hinf, hz0, hz1, hz2⟩ := HINF.out; refine wpList_make_full _ rfl _ _ 27 rfl w.heap.size 5 i0 (.int .u8 0) 1 Tryd.underlying27 hinf hz0 hz1 .i64 .i64 (n : Int) (n : Int) n rfl rfl rfl rfl HB2.out HM.out (Nat.le_refl _) ?_)
  intro w1 hown hgrow
  have O1 := hid (show OwnBytes w.heap.size w1 (.slice (some ⟨w.heap.size, 0, none⟩) (List.replicate n (0 : UInt8)).length n) (List.replicate n 0) by
    unfold OwnBytes
    rw [List.length_replicate]
    have e : bytesV (List.replicate n 0) = (madeCells #[.int .u8 0] n).toList := by rw [toList_madeCells_one]; simp [bytesV]
    rw [e]
    exact hown)
  have B1 := hid (show Below w.heap.size w w1 from ⟨hgrow.os, hgrow.tape, hgrow.output, hgrow.size, fun k hk => hgrow.block k hk (by simp)⟩)
  clear hown hgrow
  go_wp2_with fail
  go_loopw [6] (fun i wr => ∃ (k : Nat) (l : List UInt8), k ≤ n ∧ i = .int .i64 k ∧ l.length = n ∧ Hid (wr.ownsRow w.heap.size 5 1 (.slice (some ⟨w.heap.size, 0, none⟩) n n) n (bytesV l)) ∧ Hid (Below w.heap.size w wr)) (fun i _ => n - (intOf i).toNat)
  case atStart => exact ⟨0, List.replicate n 0, Nat.zero_le _, rfl, by simp, hid (by have := O1.out; unfold OwnBytes at this; rw [List.length_replicate] at this; exact this), B1⟩
  case round =>
    obtain ⟨k, l, hk, rfl, hl, ho, hb⟩ := hrel
    have HL := hid hl
    by_cases hlt : k < n
    · have hk0 : (0 : Int) ≤ (k : Int) := by omega
      have hk1 : (k : Int) < (n : Int) := by omega
      have hc : wr.cell? ⟨w.heap.size, k, none⟩ = some (.int .u8 ((l[k]'(by omega)).toNat : Int)) := by
        rw [World.ownsRow.cellAt ho.out k (by omega)]; exact bytesV_get (by omega)
      have hf : wr.frozen? ⟨w.heap.size, k, none⟩ = false := World.ownsRow.frozenAt ho.out k
      generalize (l[k]'(by omega)) = old at hc
      clear hl
      go_wp2
      go_roundw
      case rel =>
        have st := World.ownsRow.stored ho.out k (.int .u8 (c.toNat : Int))
        refine ⟨k + 1, l.set k c, by omega, by go_num, by rw [List.length_set]; exact HL.out, hid ?_, hid ?_⟩
        · rw [← bytesV_set]; exact st.1
        · exact hb.out.grown st.2 hb.out.size (fun g hg => by cases hg; exact Nat.le_refl _)
      case measure => simp [intOf]; omega
    · have he : k = n := by omega
      have cv := conv_own (show OwnBytes w.heap.size wr (.slice (some ⟨w.heap.size, 0, none⟩) n n) l by unfold OwnBytes; rw [HL.out]; exact ho.out)
      clear hl he
      go_wp2
      go_ret
      exact ⟨⟨l.toArray⟩, by simp [ByteArray.size, HL.out], by simp [ByteArray.size, HL.out], rfl, hb.out⟩
def TextDraw (p n : Nat) (w : World) (e : Ending) (w' : World) : Prop := ∃ s : ByteArray, s.size = n ∧ e = .returned (.string s) ∧ Cur w' p ∧ w.grownBy w' (some p)
theorem toText_any (p n : Nat) (w : World) (H : Cur w p) (hn : n ≤ 5000) : Calls Tryd.prog 28 #[.pointer (some ⟨p, 0, none⟩), .int .i64 (n : Int)] w (TextDraw p n w) := by
  have HH := hid H
  have hpl := H.lt
  clear H
  obtain ⟨i0, hinf, hz0, hz1, hz2⟩ := info_parts infoB
  have HINF := hid (And.intro hinf (And.intro hz0 (And.intro hz1 hz2)))
  clear hinf hz0 hz1 hz2
  have nil0 : OwnBytes w.heap.size (w.alloc (.cells #[] 5)) (.slice (some ⟨w.heap.size, 0, none⟩) 0 0) [] := by
    have := World.ownsRow_lit w (base := w.heap.size) (e := 5) (size := 1) #[] 0 (by simp) (by unfold maxLen; omega) (by simp)
    simpa [OwnBytes, bytesV] using this
  have N0 := hid nil0
  have K0 := hid (HH.out.alloc (.cells #[] 5))
  have G0 := hid (World.grownBy_alloc w (.cells #[] 5) (some p))
  clear nil0
  go_enter Tryd.func28, Tryd.ntmps28
  go_wp2_with fail
  go_loopw [5, 6] (fun v i wr => ∃ (k : Nat) (l : List UInt8), k ≤ n ∧ i = .int .i64 k ∧ l.length = k ∧ Hid (OwnBytes w.heap.size wr v l) ∧ Hid (Cur wr p) ∧ Hid (w.grownBy wr (some p) )) (fun _ i _ => n - (intOf i).toNat)
  case atStart => exact ⟨0, [], Nat.zero_le _, rfl, rfl, N0, K0, G0⟩
  case round =>
    obtain ⟨k, l, hk, rfl, hl, ho, hc, hg⟩ := hrel
    have HL := hid hl
    clear hl
    by_cases hlt : k < n
    · go_wp2_with fail
      refine (curByte_any p _ hc.out).mono ?_
      rintro e w1 ⟨x, hx0, hx1, rfl, hc1, hg1⟩
      have K1 := hid hc1
      have G1 := hid (hg.out.trans hg1)
      have O1 := hid (show OwnBytes w.heap.size w1 _ l from ho.out.kept (row := some p) hg1 (.inr (fun e => by have := (ho.out.lt p e).1; omega)))
      clear hc1 hg1 ho hc hg
      have q0 : IntKind.u8.wrap x = x := by rw [IntKind.wrap_u8]; omega
      have CC := hid (show ((UInt8.ofNat x.toNat).toNat : Int) = x by rw [UInt8.toNat_ofNat_of_lt' (by show _ < 256; omega)]; omega)
      have C3 := hid (show l.length + 1 ≤ maxLen by have := HL.out; unfold maxLen; omega)
      have C4 := hid (show (l.length + 1) * 1 ≤ 140737488355328 by have := HL.out; omega)
      have Z1 := hid (show w.heap.size ≤ w1.heap.size from G1.out.size)
      go_wp2_with (at_builtin; obtain ⟨hinf, hz0, hz1, hz2⟩ := HINF.out; refine wpList_append_own _ rfl _ _ 27 rfl w.heap.size 5 i0 (.int .u8 0) 1 1 Tryd.underlying27 hinf hz0 hz1 hz2 rfl (by decide) _ _ _ rfl (O1.out.alloc _) ⟨w1.heap.size, 0, none⟩ 1 1 [.int .u8 x] rfl rfl (cell_one_new w1 (.int .u8 x) 5) (by simp [Value.oneCell']) C3.out C4.out (by have := Z1.out; simp; omega) ?_)
      intro v' w' hown' hgrow _
      have O9 := hid hown'
      have hrow : ∀ g, _ = some g → p < g := fun g hg => by have := (O1.out.lt g hg).1; omega
      have K9 := hid ((K1.out.alloc (.cells #[.int .u8 x] 5)).keep _ hrow hgrow)
      have G9 := hid (show w.grownBy w' (some p) from grown_new (G1.out.trans (World.grownBy_alloc w1 _ _)) hgrow (fun g hg => (O1.out.lt g hg).1))
      clear hown' hgrow
      go_wp2
      go_roundw
      case rel => exact ⟨k + 1, l ++ [UInt8.ofNat x.toNat], by omega, by go_num, by simp [HL.out], hid (ownB_snoc O9.out CC.out), K9, G9⟩
      case measure => simp [intOf]; omega
    · have he : k = n := by omega
      have cv := conv_own ho.out
      obtain ⟨A9, c9, hv9⟩ := ownB_form ho.out
      subst hv9
      have G := hid hg.out
      have K := hid hc.out
      clear he ho hg hc
      go_wp2
      go_ret
      exact ⟨⟨l.toArray⟩, by simp [ByteArray.size]; have := HL.out; omega, rfl, K.out, G.out⟩
def DrawStr (hi : Nat) (w : World) (e : Ending) (w' : World) : Prop := ∃ s : ByteArray, s.size ≤ hi ∧ e = .returned (.string s) ∧ Below w.heap.size w w'
theorem drawEnc_any (A : Option Addr) (n c : Nat) (w : World) (hb : LoBytes w A n) (hn : n ≤ 1048576) : Calls Tryd.prog 14 #[.slice A n c] w (DrawStr 20001 w) := by
  have LB := hid hb
  clear hb
  go_enter Tryd.func14, Tryd.ntmps14
  go_wp2_with fail
  refine (curNew_any A n c _ LB.out hn).mono ?_
  rintro e w1 ⟨p, rfl, hp, hc, hb⟩
  have K1 := hid hc
  have B1 := hid hb
  clear hc hb
  go_wp2_with fail
  refine (curOnce_any p 60 _ K1.out (by omega) (by omega)).mono ?_
  rintro e w2 ⟨b, rfl, hc, hg⟩
  have K2 := hid hc
  have B2 := hid (B1.out.grown hg B1.out.size (fun g hg => by cases hg; exact hp))
  clear hc hg
  cases b
  · go_wp2_with fail
    refine (curBelow_any p 30 _ K2.out (by omega) (by omega)).mono ?_
    rintro e w3 ⟨x, x0, x1, rfl, hc, hg⟩
    have K3 := hid hc
    have B3 := hid (B2.out.grown hg B2.out.size (fun g hg => by cases hg; exact hp))
    clear hc hg
    obtain ⟨m, rfl⟩ : ∃ m : Nat, x = (m : Int) := ⟨x.toNat, by omega⟩
    go_wp2_with fail
    refine (toText_any p m _ K3.out (by omega)).mono ?_
    rintro e w4 ⟨s, hs, rfl, hc, hg⟩
    have B4 := hid (B3.out.grown hg B3.out.size (fun g hg => by cases hg; exact hp))
    have HS := hid hs
    clear hc hg hs
    go_wp2
    go_ret
    exact ⟨s, by have := HS.out; omega, rfl, B4.out⟩
  · go_wp2_with fail
    refine (curBelow_any p 2 _ K2.out (by omega) (by omega)).mono ?_
    rintro e w3 ⟨x, x0, x1, rfl, hc, hg⟩
    have B3 := hid (B2.out.grown hg B2.out.size (fun g hg => by cases hg; exact hp))
    clear hc hg
    obtain ⟨m, rfl⟩ : ∃ m : Nat, x = (m : Int) := ⟨x.toNat, by omega⟩
    have hcast : (20000 + (m : Int)) = ((20000 + m : Nat) : Int) := by omega
    have LA := hid (fun W => show Calls Tryd.prog 27 #[.int .i64 (20000 + (m : Int)), .int .u8 200] W (StrLen (20000 + m) (20000 + m) W) by
      rw [hcast]; exact long_any (20000 + m) 200 W (by omega) ⟨200, rfl⟩)
    clear hcast
    go_wp2_with fail
    refine (LA.out _).mono ?_
    rintro e w4 ⟨s, hs0, hs, rfl, hb⟩
    have B4 := hid (then_ B3.out hb B3.out.size)
    have HS := hid hs
    clear hb hs hs0
    go_wp2
    go_ret
    exact ⟨s, by have := HS.out; omega, rfl, B4.out⟩
end Go.Proofs.YtmngmmjimkdcfaaDoor
