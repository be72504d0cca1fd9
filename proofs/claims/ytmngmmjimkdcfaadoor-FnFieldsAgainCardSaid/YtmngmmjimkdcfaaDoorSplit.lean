/- What SplitFields returns, in the program and in the reference, for every line within the limit that the law asks. No other condition. -/
import Derived.Test.YtmngmmjimkdcfaaDoorMarkT
namespace Go.Proofs.YtmngmmjimkdcfaaDoor
open Go.ChangeShapes Go.WideShapes Go.ChangeAt Go.RowKit
set_option maxHeartbeats 1000000
set_option linter.unusedSimpArgs false
set_option linter.unusedVariables false
def SplitRes (s : ByteArray) (w : World) (e : Ending) (w' : World) : Prop := ∃ v, e = .returned (.tuple #[v, .bool (fldOk s)]) ∧ OwnStrs w.heap.size w' v (fldF s) ∧ Below w.heap.size w w'
theorem infoS : (Tryd.prog.info? 9).map (fun i => (i.zero, i.size, i.bytes)) = some (some (.string ⟨#[]⟩), 1, 16) := by kernel_rfl
def stI (s : ByteArray) (k : Nat) : Int := if (fldS s k).2 < k then ((fldS s k).2 : Int) else -1
theorem split_no {s : ByteArray} {w w' : World} {v : Value} (h : fldOk s = false) (ho : OwnStrs w.heap.size w' v []) (hb : Below w.heap.size w w') : SplitRes s w (.returned (.tuple #[v, .bool false])) w' :=
  ⟨v, by rw [h], by unfold fldF; rw [h]; exact ho, hb⟩
theorem nilS (B : Nat) (w : World) : OwnStrs B w (.slice none 0 0) [] := World.ownsRow_nil _ _ _ _
theorem okByte_no {c : UInt8} (h : okByte c = false) : (c.toNat : Int) < 32 ∨ (32 ≤ (c.toNat : Int) ∧ 126 < (c.toNat : Int)) := by
  unfold okByte at h
  by_cases h1 : 32 ≤ c.toNat
  · by_cases h2 : c.toNat ≤ 126
    · simp [h1, h2] at h
    · right; omega
  · left; omega
theorem okByte_yes {c : UInt8} (h : okByte c = true) : 32 ≤ (c.toNat : Int) ∧ (c.toNat : Int) ≤ 126 := by
  unfold okByte at h
  simp only [Bool.and_eq_true, decide_eq_true_iff] at h
  omega
theorem byte_ne {c : UInt8} (h : ¬ c = 32) : ((c.toNat : Int) == 32) = false ∧ ((c.toNat : Int) != 32) = true := by
  have : c.toNat ≠ 32 := fun e => h (by apply UInt8.toNat_inj.1; simpa using e)
  constructor
  · simp; omega
  · simp; omega
theorem ownS_snoc {B : Nat} {w : World} {v : Value} {l : List ByteArray} {c : ByteArray} (h : w.ownsRow B 9 1 v (l.length + 1) (strs l ++ [.string c])) : OwnStrs B w v (l ++ [c]) := by
  unfold OwnStrs
  rw [strs_append, List.length_append]
  exact h
theorem fldOk_long {s : ByteArray} (h : 600 < s.size) : fldOk s = false := by
  have : ¬ s.size ≤ 600 := by omega
  simp [fldOk, this]
theorem iSplit_any (s : ByteArray) (w : World) (hm : s.size ≤ 1048576) : Calls Tryd.prog 18 #[.string s] w (SplitRes s w) := by
  by_cases hl : 600 < s.size
  · have NO := hid (fldOk_long hl)
    go_enter Tryd.func18, Tryd.ntmps18
    go_wp2
    go_ret2
    exact split_no NO.out (nilS _ _) (Below.refl _ _)
  obtain ⟨i0, hinf, hz0, hz1, hz2⟩ := info_parts infoS
  have HINF := hid (And.intro hinf (And.intro hz0 (And.intro hz1 hz2)))
  clear hinf hz0 hz1 hz2
  go_enter Tryd.func18, Tryd.ntmps18
  go_wp2_with fail
  go_loop [4] (fun i => ∃ k : Nat, k ≤ s.size ∧ i = .int .i64 k ∧ Hid (okUpto s k)) (fun i => s.size - (intOf i).toNat)
  case atStart => exact ⟨0, Nat.zero_le _, rfl, hid (fun i hi => absurd hi (by omega))⟩
  case round =>
    obtain ⟨k, hk, rfl, hok⟩ := hrel
    by_cases hlt : k < s.size
    · have hk0 : (0 : Int) ≤ (k : Int) := by omega
      have hk1 : (k : Int) < (s.size : Int) := by omega
      have BA := hid (byteAt_eq s k hlt)
      have hbl := s[k].toNat_lt
      cases hc : okByte s[k]
      · have NO := hid (fldOk_byte hlt (by rw [BA.out]; exact hc))
        have hcs := okByte_no hc
        clear hc
        rcases hcs with hc | ⟨hc, hc'⟩
        all_goals
          go_wp2
          go_ret2
          exact split_no NO.out (nilS _ _) (Below.refl _ _)
      · have OK := hid (okUpto_succ hok.out (by rw [BA.out]; exact hc))
        obtain ⟨h1, h2⟩ := okByte_yes hc
        clear hc
        go_wp2
        go_round
        case rel => exact ⟨k + 1, by omega, by go_num, OK⟩
        case measure => simp [intOf]; omega
    · have he : k = s.size := by omega
      subst he
      have ALL := hid hok.out
      clear hok
      go_wp2_with fail
      go_loopw [5, 6, 7] (fun v st i wr => ∃ k : Nat, k ≤ s.size + 1 ∧ i = .int .i64 k ∧ st = .int .i64 (stI s k) ∧ Hid (OwnStrs w.heap.size wr v (fldS s k).1) ∧ Below w.heap.size w wr) (fun _ _ i _ => s.size + 1 - (intOf i).toNat)
      case atStart => exact ⟨0, Nat.zero_le _, rfl, by simp [stI, fldS], hid (nilS _ _), Below.refl _ _⟩
      case round =>
        obtain ⟨k, hk, rfl, rfl, hown, hb⟩ := hrel
        have S9 := hid hb
        have HOW := hown
        have hbs := hb.size
        clear hown hb
        by_cases hlt : k ≤ s.size
        · have hk0 : (0 : Int) ≤ (k : Int) := by omega
          have hk1 : (k : Int) ≤ (s.size : Int) := by omega
          by_cases hin : k < s.size ∧ byteAt s k ≠ 32
          · obtain ⟨hk2, hne⟩ := hin
            have F := hid (fldS_in hk2 hne)
            have hk3 : (k : Int) < (s.size : Int) := by omega
            have hke : ((k : Int) == (s.size : Int)) = false := by simp; omega
            rw [byteAt_eq s k hk2] at hne
            obtain ⟨hn1, hn2⟩ := byte_ne hne
            clear hne
            have hbl := s[k].toNat_lt
            by_cases hst : (fldS s k).2 < k
            · have hs : stI s k = ((fldS s k).2 : Int) := by unfold stI; rw [if_pos hst]
              have G := hid (show stI s (k + 1) = ((fldS s k).2 : Int) by unfold stI; rw [F.out, if_pos (by omega)])
              rw [hs]
              clear hs
              generalize (fldS s k).2 = b at hst G
              have hb0 : (0 : Int) ≤ (b : Int) := by omega
              go_wp2
              go_roundw
              case rel => exact ⟨k + 1, by omega, by go_num, by rw [G.out], hid (by rw [F.out]; exact HOW.out), S9.out⟩
              case measure => simp [intOf]; omega
            · have hs : stI s k = -1 := by unfold stI; rw [if_neg hst]
              have G := hid (show stI s (k + 1) = (k : Int) by have := fldS_le s k; unfold stI; rw [F.out, if_pos (by omega)]; omega)
              rw [hs]
              clear hs hst
              go_wp2
              go_roundw
              case rel => exact ⟨k + 1, by omega, by go_num, by rw [G.out], hid (by rw [F.out]; exact HOW.out), S9.out⟩
              case measure => simp [intOf]; omega
          · have hsp : ((k : Int) == (s.size : Int)) = true ∨ (((k : Int) == (s.size : Int)) = false ∧ ∃ h : k < s.size, ((s[k].toNat : Int) == 32) = true) := by
              by_cases e : k = s.size
              · left; simp [e]
              · right
                refine ⟨by simp; omega, by omega, ?_⟩
                have : byteAt s k = 32 := by
                  by_cases e2 : byteAt s k = 32
                  · exact e2
                  · exact absurd ⟨by omega, e2⟩ hin
                rw [byteAt_eq s k (by omega)] at this
                rw [this]; rfl
            by_cases hst : (fldS s k).2 < k
            · have F := hid (fldS_cut hin hst)
              have hs : stI s k = ((fldS s k).2 : Int) := by unfold stI; rw [if_pos hst]
              have G := hid (show stI s (k + 1) = -1 by unfold stI; rw [F.out]; simp)
              have L := fldS_len s k
              have C3 := hid (show (fldS s k).1.length + 1 ≤ maxLen by unfold maxLen; omega)
              have C4 := hid (show ((fldS s k).1.length + 1) * 16 ≤ 140737488355328 by omega)
              clear L
              rw [hs]
              clear hs hin
              generalize (fldS s k).2 = b at hst G F
              have hb0 : (0 : Int) ≤ (b : Int) := by omega
              have hb1 : (b : Int) ≤ (k : Int) := by omega
              rcases hsp with hsp | ⟨hsp, hk2, hsp2⟩
              all_goals
                go_wp2_with (at_builtin; obtain ⟨hinf, hz0, hz1, hz2⟩ := HINF.out; refine wpList_append_own _ rfl _ _ 33 rfl w.heap.size 9 i0 (.string ⟨#[]⟩) 1 16 Tryd.underlying33 hinf hz0 hz1 hz2 rfl (by decide) _ _ _ rfl (HOW.out.alloc _) ⟨wr.heap.size, 0, none⟩ 1 1 [.string (s.extract b k)] rfl rfl (cell_one_new wr (.string (s.extract b k)) 9) (by simp [Value.oneCell']) C3.out C4.out (by simp; omega) ?_)
                intro v' w' hown' hgrow _
                have O9 := hid hown'
                have B9 := hid ((S9.out.alloc hbs (.cells #[.string (s.extract b k)] 9)).grown hgrow (by simp; omega) (fun g hg => (HOW.out.lt g hg).1))
                clear hown' hgrow
                go_wp2
                go_roundw
                case rel => exact ⟨k + 1, by omega, by go_num, by rw [G.out], hid (by rw [F.out]; exact ownS_snoc O9.out), B9.out⟩
                case measure => simp [intOf]; omega
            · have F := hid (fldS_skip hin hst)
              have hs : stI s k = -1 := by unfold stI; rw [if_neg hst]
              have G := hid (show stI s (k + 1) = -1 by unfold stI; rw [F.out]; simp)
              rw [hs]
              clear hs hst hin
              rcases hsp with hsp | ⟨hsp, hk2, hsp2⟩
              all_goals
                go_wp2
                go_roundw
                case rel => exact ⟨k + 1, by omega, by go_num, by rw [G.out], hid (by rw [F.out]; exact HOW.out), S9.out⟩
                case measure => simp [intOf]; omega
        · have he : k = s.size + 1 := by omega
          have HE := hid he
          obtain ⟨A9, c9, hv9⟩ := ownS_form HOW.out
          subst hv9
          have hk1 : (s.size : Int) < (k : Int) := by omega
          clear he
          have hl0 : (0 : Int) ≤ ((fldS s k).1.length : Int) := by omega
          by_cases h24 : 24 < (fldS s k).1.length
          · have NO := hid (show fldOk s = false by
              have h : ¬ (fldS s (s.size + 1)).1.length ≤ 24 := by rw [← HE.out]; omega
              simp [fldOk, h])
            go_wp2
            go_ret2
            exact split_no NO.out (nilS _ _) S9.out
          · have YES := hid (show fldOk s = true by
              have h : (fldS s (s.size + 1)).1.length ≤ 24 := by rw [← HE.out]; omega
              have h2 : s.size ≤ 600 := by omega
              simp [fldOk, h, h2, ALL.out])
            go_wp2
            go_ret2
            exact ⟨_, by rw [YES.out]; rfl, by unfold fldF; rw [YES.out, if_pos rfl, ← HE.out]; exact HOW.out, S9.out⟩
theorem litS (B : Nat) (W : World) (h : B ≤ W.heap.size) : OwnStrs B (W.alloc (.cells #[] 9)) (.slice (some ⟨W.heap.size, 0, none⟩) 0 0) [] := by
  have := World.ownsRow_lit W (base := B) (e := 9) (size := 1) #[] 0 h (by unfold maxLen; omega) (by simp)
  simpa [OwnStrs, strs] using this
theorem sSplit_any (s : ByteArray) (w : World) (hm : s.size ≤ 1048576) : Calls Tryd.prog 19 #[.string s] w (SplitRes s w) := by
  have N0 := hid (litS w.heap.size w (Nat.le_refl _))
  have V0 := hid ((Below.refl w.heap.size w).alloc (Nat.le_refl _) (.cells #[] 9))
  by_cases hl : 600 < s.size
  · have NO := hid (fldOk_long hl)
    go_enter Tryd.func19, Tryd.ntmps19
    go_wp2
    go_ret2
    exact split_no NO.out N0.out V0.out
  obtain ⟨i0, hinf, hz0, hz1, hz2⟩ := info_parts infoS
  have HINF := hid (And.intro hinf (And.intro hz0 (And.intro hz1 hz2)))
  clear hinf hz0 hz1 hz2
  go_enter Tryd.func19, Tryd.ntmps19
  go_wp2_with fail
  go_loopw [4, 5, 6] (fun v st i wr => ∃ k : Nat, k ≤ s.size + 1 ∧ i = .int .i64 k ∧ st = .int .i64 ((fldS s k).2 : Int) ∧ Hid (OwnStrs w.heap.size wr v (fldS s k).1) ∧ Below w.heap.size w wr ∧ Hid (okUpto s (min k s.size))) (fun _ _ i _ => s.size + 1 - (intOf i).toNat)
  case atStart => exact ⟨0, Nat.zero_le _, rfl, rfl, N0, V0.out, hid (fun i hi => absurd hi (by omega))⟩
  case round =>
    obtain ⟨k, hk, rfl, rfl, hown, hb, hok⟩ := hrel
    have S9 := hid hb
    have HOW := hown
    have hbs := hb.size
    clear hown hb
    by_cases hlt : k ≤ s.size
    · have hk0 : (0 : Int) ≤ (k : Int) := by omega
      have hk1 : (k : Int) ≤ (s.size : Int) := by omega
      by_cases hin0 : k < s.size ∧ okByte (byteAt s k) = false
      · obtain ⟨hk2, hc⟩ := hin0
        have NO := hid (fldOk_byte hk2 hc)
        have hk3 : (k : Int) < (s.size : Int) := by omega
        have LIT := hid (litS w.heap.size wr hbs)
        have B9 := hid (S9.out.alloc hbs (.cells #[] 9))
        rw [byteAt_eq s k hk2] at hc
        have hbl := s[k].toNat_lt
        have hcs := okByte_no hc
        clear hc
        generalize (fldS s k).2 = b
        rcases hcs with hc | ⟨hc, hc'⟩
        all_goals
          go_wp2
          go_ret2
          exact split_no NO.out LIT.out B9.out
      have OK := hid (show okUpto s (min (k + 1) s.size) by
        by_cases hk2 : k < s.size
        · have h1 := hok.out
          rw [Nat.min_eq_left (by omega)] at h1 ⊢
          refine okUpto_succ h1 ?_
          cases h2 : okByte (byteAt s k)
          · exact absurd ⟨hk2, h2⟩ hin0
          · rfl
        · have h1 := hok.out
          rw [Nat.min_eq_right (by omega)] at h1 ⊢
          exact h1)
      by_cases hin : k < s.size ∧ byteAt s k ≠ 32
      · obtain ⟨hk2, hne⟩ := hin
        have F := hid (fldS_in hk2 hne)
        have hk3 : (k : Int) < (s.size : Int) := by omega
        have hok2 : okByte (byteAt s k) = true := by
          cases h2 : okByte (byteAt s k)
          · exact absurd ⟨hk2, h2⟩ hin0
          · rfl
        clear hin0
        rw [byteAt_eq s k hk2] at hne hok2
        obtain ⟨h1, h2⟩ := okByte_yes hok2
        obtain ⟨hn1, hn2⟩ := byte_ne hne
        clear hne hok2
        have G := hid (show (fldS s (k + 1)).2 = (fldS s k).2 by rw [F.out])
        generalize (fldS s k).2 = b at G
        go_wp2
        go_roundw
        case rel => exact ⟨k + 1, by omega, by go_num, by rw [G.out], hid (by rw [F.out]; exact HOW.out), S9.out, OK⟩
        case measure => simp [intOf]; omega
      · have hsp : (¬ (k : Int) < (s.size : Int)) ∨ ((k : Int) < (s.size : Int) ∧ ∃ h : k < s.size, (s[k].toNat : Int) = 32) := by
          by_cases e : k = s.size
          · left; omega
          · right
            refine ⟨by omega, by omega, ?_⟩
            have : byteAt s k = 32 := by
              by_cases e2 : byteAt s k = 32
              · exact e2
              · exact absurd ⟨by omega, e2⟩ hin
            rw [byteAt_eq s k (by omega)] at this
            rw [this]; rfl
        clear hin0
        by_cases hst : (fldS s k).2 < k
        · have F := hid (fldS_cut hin hst)
          have G := hid (show (fldS s (k + 1)).2 = k + 1 by rw [F.out])
          have L := fldS_len s k
          have C3 := hid (show (fldS s k).1.length + 1 ≤ maxLen by unfold maxLen; omega)
          have C4 := hid (show ((fldS s k).1.length + 1) * 16 ≤ 140737488355328 by omega)
          clear L hin
          generalize (fldS s k).2 = b at hst F
          have hb0 : (0 : Int) ≤ (b : Int) := by omega
          have hb1 : (b : Int) < (k : Int) := by omega
          rcases hsp with hsp | ⟨hsp, hk2, hsp2⟩
          rotate_left
          have hsp3 : ((s[k].toNat : Int) != 32) = false := by simp; omega
          have hsp4 : (32 : Int) ≤ (s[k].toNat : Int) := by omega
          have hsp5 : (s[k].toNat : Int) ≤ 126 := by omega
          clear hsp2
          rotate_left
          all_goals
            go_wp2_with (at_builtin; obtain ⟨hinf, hz0, hz1, hz2⟩ := HINF.out; refine wpList_append_own _ rfl _ _ 33 rfl w.heap.size 9 i0 (.string ⟨#[]⟩) 1 16 Tryd.underlying33 hinf hz0 hz1 hz2 rfl (by decide) _ _ _ rfl (HOW.out.alloc _) ⟨wr.heap.size, 0, none⟩ 1 1 [.string (s.extract b k)] rfl rfl (cell_one_new wr (.string (s.extract b k)) 9) (by simp [Value.oneCell']) C3.out C4.out (by simp; omega) ?_)
            intro v' w' hown' hgrow _
            have O9 := hid hown'
            have B9 := hid ((S9.out.alloc hbs (.cells #[.string (s.extract b k)] 9)).grown hgrow (by simp; omega) (fun g hg => (HOW.out.lt g hg).1))
            clear hown' hgrow
            go_wp2
            go_roundw
            case rel => exact ⟨k + 1, by omega, by go_num, by rw [G.out]; go_num, hid (by rw [F.out]; exact ownS_snoc O9.out), B9.out, OK⟩
            case measure => simp [intOf]; omega
        · have F := hid (fldS_skip hin hst)
          have G := hid (show (fldS s (k + 1)).2 = k + 1 by rw [F.out])
          clear hin
          have hbk := fldS_le s k
          generalize (fldS s k).2 = b at hst F hbk
          have hb1 : ¬ (b : Int) < (k : Int) := by omega
          rcases hsp with hsp | ⟨hsp, hk2, hsp2⟩
          rotate_left
          have hsp3 : ((s[k].toNat : Int) != 32) = false := by simp; omega
          have hsp4 : (32 : Int) ≤ (s[k].toNat : Int) := by omega
          have hsp5 : (s[k].toNat : Int) ≤ 126 := by omega
          clear hsp2
          rotate_left
          all_goals
            go_wp2
            go_roundw
            case rel => exact ⟨k + 1, by omega, by go_num, by rw [G.out]; go_num, hid (by rw [F.out]; exact HOW.out), S9.out, OK⟩
            case measure => simp [intOf]; omega
    · have he : k = s.size + 1 := by omega
      have HE := hid he
      have ALL := hid (show okUpto s s.size by have h1 := hok.out; rw [Nat.min_eq_right (by omega)] at h1; exact h1)
      obtain ⟨A9, c9, hv9⟩ := ownS_form HOW.out
      subst hv9
      have hk1 : (s.size : Int) < (k : Int) := by omega
      have hl0 : (0 : Int) ≤ ((fldS s k).1.length : Int) := by omega
      clear he
      generalize (fldS s k).2 = b
      by_cases h24 : 24 < (fldS s k).1.length
      · have NO := hid (show fldOk s = false by
          have h : ¬ (fldS s (s.size + 1)).1.length ≤ 24 := by rw [← HE.out]; omega
          simp [fldOk, h])
        have LIT := hid (litS w.heap.size wr hbs)
        have B9 := hid (S9.out.alloc hbs (.cells #[] 9))
        go_wp2
        go_ret2
        exact split_no NO.out LIT.out B9.out
      · have YES := hid (show fldOk s = true by
          have h : (fldS s (s.size + 1)).1.length ≤ 24 := by rw [← HE.out]; omega
          have h2 : s.size ≤ 600 := by omega
          simp [fldOk, h, h2, ALL.out])
        go_wp2
        go_ret2
        exact ⟨_, by rw [YES.out]; rfl, by unfold fldF; rw [YES.out, if_pos rfl, ← HE.out]; exact HOW.out, S9.out⟩
end Go.Proofs.YtmngmmjimkdcfaaDoor
