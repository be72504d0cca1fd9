/- What EncodeHex and DecodeHex return, in the program and in the reference, for every string within the limit that a law asks. No other condition. -/
import Derived.Test.YtmngmmjimkdcfaaDoorTextP
import Derived.Test.YtmngmmjimkdcfaaDoorHeld
import Derived.Test.YtmngmmjimkdcfaaDoorRows
import Derived.OwnWalk
import Derived.Laws.IdiomStrings
import Derived.Laws.BytesString
import Derived.Deep.AppendLies
namespace Go.Proofs.YtmngmmjimkdcfaaDoor
open Go.ChangeShapes Go.WideShapes Go.ChangeAt Go.RowKit
set_option maxHeartbeats 1000000
set_option linter.unusedSimpArgs false
set_option linter.unusedVariables false
/-- a new slice of bytes in memory from block B on -/
def OwnBytes (B : Nat) (w : World) (v : Value) (l : List UInt8) : Prop := w.ownsRow B 5 1 v l.length (bytesV l)
theorem infoB : (Tryd.prog.info? 5).map (fun i => (i.zero, i.size, i.bytes)) = some (some (.int .u8 0), 1, 1) := by kernel_rfl
theorem ownB_form {w : World} {B : Nat} {v : Value} {l : List UInt8} (h : OwnBytes B w v l) : ∃ A c, v = .slice A l.length c := by
  rcases h.2 with ⟨h1, h2⟩ | ⟨g, cap, cur, h1, _⟩
  · exact ⟨none, 0, by rw [h1, h2]⟩
  · exact ⟨_, _, h1⟩
theorem bytesV_get {l : List UInt8} {i : Nat} (hi : i < l.length) : (bytesV l)[i]? = some (.int .u8 ((l[i]'hi).toNat : Int)) := by simp [bytesV, hi]
theorem conv_own {w : World} {B : Nat} {v : Value} {l : List UInt8} (h : OwnBytes B w v l) : (convert 27 9 v).run Tryd.prog w = .ok (.string ⟨l.toArray⟩) w := by
  by_cases hl : 0 < l.length
  · have h' : w.ownsRow B 5 1 v l.length (bytesV l) := h
    obtain ⟨g, cap, hv, _, hlt⟩ := h'.form hl
    have hc := h'.cells (g := g) (by rw [hv]; rfl)
    subst hv
    exact run_convert_bytes_back w 27 9 5 ⟨g, 0, none⟩ cap l Tryd.underlying27 Tryd.underlying5 Tryd.underlying9 (fun i hi => hc i _ (bytesV_get hi))
  · obtain rfl : l = [] := List.eq_nil_of_length_eq_zero (by omega)
    obtain ⟨A, c, rfl⟩ := ownB_form h
    rw [run_convert_bytes_string w 27 9 5 A _ c Tryd.underlying27 Tryd.underlying5 Tryd.underlying9]
    unfold Conv.bytesToString
    cases A <;> rfl
theorem step_append_own {P : Program} {ops : Array Oper} {o : Oper} {a : Act} {w : World} {K : Act → World → Prop} {Q : Exit → Act → World → Prop} {E : Prop} (hgd : o.guard = none) (s x : Operand) (t : TypeId)
    (ho : o.op = .call { callee := .builtin .append, args := #[s, x], argTypes := #[t, t] })
    (base : Nat) (e : TypeId) (i : TypeInfo) (z : Value) (size bytes : Nat) (ht : P.underlying t = some (.slice e)) (hi : P.info? e = some i) (hz : i.zero = some z)
    (hsize : i.size = size) (hby : i.bytes = bytes) (hzs : z.cells.size = size) (hsz : 0 < size)
    (v : Value) (n : Nat) (xs : List Value) (hs : a.eval s = v) (hown : w.ownsRow base e size v n xs)
    (ad : Addr) (m c : Nat) (news : List Value) (hx : a.eval x = .slice (some ad) m c) (hl : news.length = m * size) (hnews : ∀ j u, news[j]? = some u → w.cell? (ad.add j) = some u) (h1 : ∀ u ∈ news, u.oneCell' = true)
    (h63 : n + m ≤ maxLen) (hbytes : (n + m) * bytes ≤ 140737488355328) (hbase : base ≤ w.heap.size)
    (h : ∀ v' w', w'.ownsRow base e size v' (n + m) (xs ++ news) → w.grownBy w' v.ownBlock → K (a.put o.dst v') w') :
    if Region.wanted o (yielded ops a.tmps) = true then Oper.wp P o a w K Q else E := by
  have hw : Region.wanted o (yielded ops a.tmps) = true := by simp [Region.wanted, hgd]
  rw [if_pos hw]
  exact wp_append_own w s x t ho base e i z size bytes ht hi hz hsize hby hzs hsz v n xs hs hown ad m c news hx hl hnews h1 h63 hbytes hbase fun v' w' h2 h3 _ => h v' w' h2 h3
abbrev figures : ByteArray := ⟨#[48, 49, 50, 51, 52, 53, 54, 55, 56, 57, 97, 98, 99, 100, 101, 102]⟩
theorem fig_exec (o : Oper) (ev : Operand → Value) (x : Operand) (n : Nat) (h : n < 16) (ho : o.op = .index 9 (.const (.string figures)) x) (hx : ev x = .int .u8 (n : Int)) (hc : ∀ v, ev (.const v) = v) (w : World) : (execOp ev o).run Tryd.prog w = .ok (.value (.int .u8 ((figN n).toNat : Int))) w := by
  have hn : n = 0 ∨ n = 1 ∨ n = 2 ∨ n = 3 ∨ n = 4 ∨ n = 5 ∨ n = 6 ∨ n = 7 ∨ n = 8 ∨ n = 9 ∨ n = 10 ∨ n = 11 ∨ n = 12 ∨ n = 13 ∨ n = 14 ∨ n = 15 := by omega
  unfold execOp
  simp only [ho, hx, hc]
  rcases hn with rfl | rfl | rfl | rfl | rfl | rfl | rfl | rfl | rfl | rfl | rfl | rfl | rfl | rfl | rfl | rfl <;> rfl
theorem new_two (W : World) (a b : Value) (T : TypeId) (ha : a.oneCell' = true) (hb : b.oneCell' = true) : (∀ j u, [a, b][j]? = some u → (W.alloc (.cells #[a, b] T)).cell? ((⟨W.heap.size, 0, none⟩ : Addr).add j) = some u) ∧ ∀ u ∈ [a, b], u.oneCell' = true := by
  refine ⟨fun j u hj => ?_, fun u hu => ?_⟩
  · match j, hj with
    | 0, hj => simp at hj; subst hj; simp [Addr.add, cell_new W #[a, b] T W.heap.size 0 rfl]
    | 1, hj => simp at hj; subst hj; simp [Addr.add, cell_new W #[a, b] T W.heap.size 1 rfl]
  · simp at hu; rcases hu with rfl | rfl <;> assumption
theorem iEnc_no (s : ByteArray) (w : World) (hs : s.size > 20000) (hm : s.size ≤ 1048576) : Calls Tryd.prog 15 #[.string s] w fun e w' => e = .returned (.tuple #[.string ⟨#[]⟩, .bool false]) ∧ Below w.heap.size w w' := by
  go_enter Tryd.func15, Tryd.ntmps15
  go_wp2
  go_ret2
  exact ⟨rfl, Below.refl _ _⟩
theorem iEnc_yes (s : ByteArray) (w : World) (hs : s.size ≤ 20000) : Calls Tryd.prog 15 #[.string s] w fun e w' => e = .returned (.tuple #[.string ⟨(encL s.data.toList).toArray⟩, .bool true]) ∧ Below w.heap.size w w' := by
  obtain ⟨i0, hinf, hz0, hz1, hz2⟩ := info_parts infoB
  have HINF := hid (And.intro hinf (And.intro hz0 (And.intro hz1 hz2)))
  clear hinf hz0 hz1 hz2
  go_enter Tryd.func15, Tryd.ntmps15
  go_wp2_with fail
  go_loopw [4, 5] (fun v i wr => ∃ k : Nat, k ≤ s.size ∧ i = .int .i64 k ∧ Hid (OwnBytes w.heap.size wr v (encL (s.data.toList.take k))) ∧ Below w.heap.size w wr) (fun _ i _ => s.size - (intOf i).toNat)
  case atStart => exact ⟨0, Nat.zero_le _, rfl, hid (World.ownsRow_nil _ _ _ _), Below.refl _ _⟩
  case round =>
    obtain ⟨k, hk, rfl, hown, hb⟩ := hrel
    have S9 := hid hb
    have HOW := hown
    have hbs := hb.size
    clear hown hb
    by_cases hlt : k < s.size
    · have hk0 : (0 : Int) ≤ (k : Int) := by omega
      have hk1 : (k : Int) < (s.size : Int) := by omega
      have E := hid (show encL (s.data.toList.take (k + 1)) = encL (s.data.toList.take k) ++ [figN ((byteAt s k).toNat / 16), figN ((byteAt s k).toNat % 16)] by rw [take_snoc s k hlt, encL_snoc])
      have LN := (show (encL (s.data.toList.take k)).length ≤ 2 * k by rw [encL_len]; have := List.length_take_le k s.data.toList; omega)
      have C3 := hid (show (encL (s.data.toList.take k)).length + 2 ≤ maxLen by unfold maxLen; omega)
      have C4 := hid (show ((encL (s.data.toList.take k)).length + 2) * 1 ≤ 140737488355328 by omega)
      clear LN
      obtain ⟨n1, hn1⟩ : ∃ n1, n1 = (byteAt s k).toNat / 16 := ⟨_, rfl⟩
      obtain ⟨n2, hn2⟩ : ∃ n2, n2 = (byteAt s k).toNat % 16 := ⟨_, rfl⟩
      have hbl := (byteAt s k).toNat_lt
      have N1 : n1 < 16 := by omega
      have N2 : n2 < 16 := by omega
      rw [← hn1, ← hn2] at E
      rw [byteAt_eq s k hlt] at hn1 hn2 hbl
      have q1 : IntKind.u8.wrap ((s[k].toNat : Int) / 16) = (n1 : Int) := by rw [hn1, IntKind.wrap_u8]; omega
      have q2 : (s[k].toNat : Int).tmod 16 = (n2 : Int) := by rw [hn2, Int.tmod_eq_emod_of_nonneg (by omega)]; omega
      clear hn1 hn2
      go_wp2_with fail
      refine wh_start (S := (fun _ => True)) (by kernel_rfl) trivial ?_
      refine wh_take (i := 0) (v := ?_) rfl (by kernel_rfl) (by kernel_rfl) (by kernel_rfl) (fun _ _ _ h => h) (by kernel_rfl) ?_ ?_
      rotate_left
      (focus (intro w hSw; (try dsimp only at hSw); go_simp; try with_reducible rfl))
      simp only [Act.put, List.setIfInBounds_toArray, List.set_cons_zero, List.set_cons_succ, List.getElem_toArray, List.getElem_cons_succ, List.getElem_cons_zero, Nat.reduceAdd]
      refine wh_take (i := 1) (v := ?_) rfl (by kernel_rfl) (by kernel_rfl) (by kernel_rfl) (fun _ _ _ h => h) (by kernel_rfl) ?_ ?_
      rotate_left
      (focus (intro w hSw; (try dsimp only at hSw); go_simp; try with_reducible rfl))
      simp only [Act.put, List.setIfInBounds_toArray, List.set_cons_zero, List.set_cons_succ, List.getElem_toArray, List.getElem_cons_succ, List.getElem_cons_zero, Nat.reduceAdd]
      refine wh_take (i := 2) (v := ?_) rfl (by kernel_rfl) (by kernel_rfl) (by kernel_rfl) (fun _ _ _ h => h) (by kernel_rfl) ?_ ?_
      rotate_left
      (focus (intro w hSw; (try dsimp only at hSw); go_simp; try with_reducible rfl))
      simp only [Act.put, List.setIfInBounds_toArray, List.set_cons_zero, List.set_cons_succ, List.getElem_toArray, List.getElem_cons_succ, List.getElem_cons_zero, Nat.reduceAdd]
      refine wh_take (i := 3) (v := ?_) rfl (by kernel_rfl) (by kernel_rfl) (by kernel_rfl) (fun _ _ _ h => h) (by kernel_rfl) ?_ ?_
      rotate_left
      (focus (intro w hSw; (try dsimp only at hSw); go_simp; try with_reducible rfl))
      simp only [Act.put, List.setIfInBounds_toArray, List.set_cons_zero, List.set_cons_succ, List.getElem_toArray, List.getElem_cons_succ, List.getElem_cons_zero, Nat.reduceAdd]
      refine wh_take (i := 4) (v := ?_) rfl (by kernel_rfl) (by kernel_rfl) (by kernel_rfl) (fun _ _ _ h => h) (by kernel_rfl) ?_ ?_
      rotate_left
      (focus (intro w hSw; (try dsimp only at hSw); go_simp; try with_reducible rfl))
      simp only [Act.put, List.setIfInBounds_toArray, List.set_cons_zero, List.set_cons_succ, List.getElem_toArray, List.getElem_cons_succ, List.getElem_cons_zero, Nat.reduceAdd]
      refine wh_take (i := 5) (v := .int .u8 ((figN n1).toNat : Int)) rfl (by kernel_rfl) (by kernel_rfl) (by kernel_rfl) (fun _ _ _ h => h) (by kernel_rfl) (fun w _ => fig_exec _ _ _ n1 N1 rfl rfl (fun _ => rfl) w) ?_
      simp only [Act.put, List.setIfInBounds_toArray, List.set_cons_zero, List.set_cons_succ, List.getElem_toArray, List.getElem_cons_succ, List.getElem_cons_zero, Nat.reduceAdd]
      refine wh_take (i := 6) (v := ?_) rfl (by kernel_rfl) (by kernel_rfl) (by kernel_rfl) (fun _ _ _ h => h) (by kernel_rfl) ?_ ?_
      rotate_left
      (focus (intro w hSw; (try dsimp only at hSw); go_simp; try with_reducible rfl))
      simp only [Act.put, List.setIfInBounds_toArray, List.set_cons_zero, List.set_cons_succ, List.getElem_toArray, List.getElem_cons_succ, List.getElem_cons_zero, Nat.reduceAdd]
      refine wh_take (i := 7) (v := ?_) rfl (by kernel_rfl) (by kernel_rfl) (by kernel_rfl) (fun _ _ _ h => h) (by kernel_rfl) ?_ ?_
      rotate_left
      (focus (intro w hSw; (try dsimp only at hSw); go_simp; try with_reducible rfl))
      simp only [Act.put, List.setIfInBounds_toArray, List.set_cons_zero, List.set_cons_succ, List.getElem_toArray, List.getElem_cons_succ, List.getElem_cons_zero, Nat.reduceAdd]
      refine wh_take (i := 8) (v := ?_) rfl (by kernel_rfl) (by kernel_rfl) (by kernel_rfl) (fun _ _ _ h => h) (by kernel_rfl) ?_ ?_
      rotate_left
      (focus (intro w hSw; (try dsimp only at hSw); go_simp; try with_reducible rfl))
      simp only [Act.put, List.setIfInBounds_toArray, List.set_cons_zero, List.set_cons_succ, List.getElem_toArray, List.getElem_cons_succ, List.getElem_cons_zero, Nat.reduceAdd]
      refine wh_take (i := 9) (v := ?_) rfl (by kernel_rfl) (by kernel_rfl) (by kernel_rfl) (fun _ _ _ h => h) (by kernel_rfl) ?_ ?_
      rotate_left
      (focus (intro w hSw; (try dsimp only at hSw); go_simp; try with_reducible rfl))
      simp only [Act.put, List.setIfInBounds_toArray, List.set_cons_zero, List.set_cons_succ, List.getElem_toArray, List.getElem_cons_succ, List.getElem_cons_zero, Nat.reduceAdd]
      refine wh_take (i := 10) (v := .int .u8 ((figN n2).toNat : Int)) rfl (by kernel_rfl) (by kernel_rfl) (by kernel_rfl) (fun _ _ _ h => h) (by kernel_rfl) (fun w _ => fig_exec _ _ _ n2 N2 rfl rfl (fun _ => rfl) w) ?_
      simp only [Act.put, List.setIfInBounds_toArray, List.set_cons_zero, List.set_cons_succ, List.getElem_toArray, List.getElem_cons_succ, List.getElem_cons_zero, Nat.reduceAdd]
      refine wh_step (i := 11) rfl (by kernel_rfl) (fun K hK => ?_)
      go_simp
      (try dsimp only)
      refine hK.out _ _ trivial ?_
      clear hK K
      (try simp only [Act.put, List.setIfInBounds_toArray, List.set_cons_zero, List.set_cons_succ, List.getElem_toArray, List.getElem_cons_succ, List.getElem_cons_zero, Nat.reduceAdd])
      refine wh_step (i := 12) rfl (by kernel_rfl) (fun K hK => ?_)
      obtain ⟨hinf, hz0, hz1, hz2⟩ := HINF.out
      refine step_append_own rfl _ _ 27 rfl w.heap.size 5 i0 (.int .u8 0) 1 1 Tryd.underlying27 hinf hz0 hz1 hz2 rfl (by decide) _ _ _ rfl (HOW.out.drew.alloc _) ⟨wr.heap.size, 0, none⟩ 2 2 [.int .u8 ((figN n1).toNat : Int), .int .u8 ((figN n2).toNat : Int)] rfl rfl (new_two wr.drew _ _ 5 rfl rfl).1 (new_two wr.drew (.int .u8 ((figN n1).toNat : Int)) (.int .u8 ((figN n2).toNat : Int)) 5 rfl rfl).2 C3.out C4.out (by simp; omega) ?_
      intro v' w' hown' hgrow
      have O9 := hid hown'
      have B9 := hid ((S9.out.drew.alloc (by simpa using hbs) (.cells #[.int .u8 ((figN n1).toNat : Int), .int .u8 ((figN n2).toNat : Int)] 5)).grown hgrow (by simp; omega) (fun g hg => (HOW.out.lt g hg).1))
      clear hown' hgrow
      (try dsimp only)
      refine hK.out _ _ trivial ?_
      clear hK K
      (try simp only [Act.put, List.setIfInBounds_toArray, List.set_cons_zero, List.set_cons_succ, List.getElem_toArray, List.getElem_cons_succ, List.getElem_cons_zero, Nat.reduceAdd])
      refine wh_take (i := 13) (v := ?_) rfl (by kernel_rfl) (by kernel_rfl) (by kernel_rfl) (fun _ _ _ h => h) (by kernel_rfl) ?_ ?_
      rotate_left
      (focus (intro w hSw; (try dsimp only at hSw); go_simp; try with_reducible rfl))
      simp only [Act.put, List.setIfInBounds_toArray, List.set_cons_zero, List.set_cons_succ, List.getElem_toArray, List.getElem_cons_succ, List.getElem_cons_zero, Nat.reduceAdd]
      refine wh_done (by kernel_rfl) ?_
      go_wp2
      go_roundw
      case rel => exact ⟨k + 1, by omega, by go_num, hid (by unfold OwnBytes; rw [E.out]; simpa [bytesV] using O9.out), B9.out⟩
      case measure => simp [intOf]; omega
    · have he : k = s.size := by omega
      subst he
      have CV := hid (conv_own HOW.out)
      obtain ⟨A9, c9, hv9⟩ := ownB_form HOW.out
      subst hv9
      have cv := CV.out
      clear CV
      go_wp2
      go_ret2
      exact ⟨by rw [List.take_of_length_le (by simp)]; rfl, S9.out⟩
theorem figS_any (n : Nat) (w : World) (h : n < 16) : Calls Tryd.prog 21 #[.int .i64 (n : Int)] w fun e w' => e = .returned (.int .u8 ((figN n).toNat : Int)) ∧ w = w' := by
  have hv := figN_val n h
  have V := hid hv
  clear hv
  by_cases hx : n < 10
  · have q1 : IntKind.u8.wrap (48 + (n : Int)) = 48 + (n : Int) := by rw [IntKind.wrap_u8]; omega
    go_enter Tryd.func21, Tryd.ntmps21
    go_wp2
    go_ret
    exact ⟨ret_int (by rw [V.out, if_pos hx]; omega), rfl⟩
  · have q1 : IntKind.u8.wrap (97 + (n : Int) - 10) = 87 + (n : Int) := by rw [IntKind.wrap_u8]; omega
    go_enter Tryd.func21, Tryd.ntmps21
    go_wp2
    go_ret
    exact ⟨ret_int (by rw [V.out, if_neg hx]; omega), rfl⟩
