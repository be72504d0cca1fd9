/- What the laws' helpers do that mark a slice of strings, look for the marks and compare two slices of strings. No condition but the sizes that are named. -/
import Derived.Test.YtmngmmjimkdcfaaTextd
import Derived.Test.YtmngmmjimkdcfaaFieldsP
namespace Go.Proofs.Ytmngmmjimkdcfaa
open Go.ChangeShapes Go.WideShapes Go.ChangeAt Go.RowKit
set_option maxHeartbeats 1000000
set_option linter.unusedSimpArgs false
set_option linter.unusedVariables false
/-- the decimal figures of a number, ahead of what is there already -/
def digW (n : Nat) (acc : List UInt8) : List UInt8 := if h : n = 0 then acc else digW (n / 10) (UInt8.ofNat (48 + n % 10) :: acc)
termination_by n
decreasing_by exact Nat.div_lt_self (by omega) (by omega)
theorem digW_zero (acc : List UInt8) : digW 0 acc = acc := by rw [digW]; simp
theorem digW_step (n : Nat) (h : 0 < n) (acc : List UInt8) : digW n acc = digW (n / 10) (UInt8.ofNat (48 + n % 10) :: acc) := by rw [digW, dif_neg (by omega)]
def mk (k : Nat) : ByteArray := ⟨#[109]⟩ ++ ⟨(digW k []).toArray⟩
theorem cons_bytes (c : UInt8) (l : List UInt8) : (⟨#[c]⟩ : ByteArray) ++ ⟨l.toArray⟩ = ⟨(c :: l).toArray⟩ := by
  apply ByteArray.ext
  simp [ByteArray.data_append]
theorem fig_byte (n : Nat) : ((UInt8.ofNat (48 + n % 10)).toNat : Int) = 48 + (n : Int) % 10 := by
  rw [UInt8.toNat_ofNat_of_lt' (by show _ < 256; omega)]; omega
theorem conv_one (w : World) (c : UInt8) (x : Int) (hx : (c.toNat : Int) = x) : (convert 30 9 (.slice (some ⟨w.heap.size, 0, none⟩) 1 1)).run Try.prog (w.alloc (.cells #[.int .u8 x] 5)) = .ok (.string ⟨#[c]⟩) (w.alloc (.cells #[.int .u8 x] 5)) := by
  subst hx
  exact run_convert_bytes_back _ 30 9 5 ⟨w.heap.size, 0, none⟩ 1 [c] Try.underlying30 Try.underlying5 Try.underlying9 (fun i hi => by
    have : i = 0 := by simpa using hi
    subst this
    simp [Addr.add, cell_new w #[.int .u8 (c.toNat : Int)] 5 w.heap.size 0 rfl])
theorem markText_any (k : Nat) (w : World) (h0 : 0 < k) (h1 : k ≤ 1000000000000) : Calls Try.prog 21 #[.int .i64 (k : Int)] w fun e w' => e = .returned (.string (mk k)) ∧ Below w.heap.size w w' := by
  have h0' : (0 : Int) < (k : Int) := by omega
  clear h0
  go_enter Try.func21, Try.ntmps21
  go_wp2_with fail
  go_loopw [0, 3] (fun i o wr => ∃ (n : Nat) (l : List UInt8), i = .int .i64 (n : Int) ∧ o = .string ⟨l.toArray⟩ ∧ l.length + n ≤ k ∧ Hid (digW k [] = digW n l) ∧ Below w.heap.size w wr) (fun i _ _ => (intOf i).toNat)
  case atStart => exact ⟨k, [], rfl, rfl, by simp, hid rfl, Below.refl _ _⟩
  case round =>
    obtain ⟨n, l, rfl, rfl, hl, hd, hb⟩ := hrel
    have S9 := hid hb
    have hbs := hb.size
    clear hb h0'
    by_cases hn : 0 < n
    · have hn0 : (0 : Int) < (n : Int) := by omega
      have hn1 : (n : Int) ≤ 1000000000000 := by omega
      have q0 : IntKind.u8.wrap (48 + (n : Int) % 10) = 48 + (n : Int) % 10 := by rw [IntKind.wrap_u8]; omega
      have cv := conv_one wr (UInt8.ofNat (48 + n % 10)) (48 + (n : Int) % 10) (fig_byte n)
      have E := hid (show digW k [] = digW (n / 10) (UInt8.ofNat (48 + n % 10) :: l) by rw [hd.out, digW_step n hn])
      have CB := hid (cons_bytes (UInt8.ofNat (48 + n % 10)) l)
      have LE := hid (show (UInt8.ofNat (48 + n % 10) :: l).length + n / 10 ≤ k by have := Nat.div_lt_self hn (show 1 < 10 by omega); simp; omega)
      have B9 := hid (S9.out.alloc hbs (.cells #[.int .u8 (48 + (n : Int) % 10)] 5))
      generalize UInt8.ofNat (48 + n % 10) = c at cv E CB LE
      have hsz : (⟨#[c]⟩ : ByteArray).size + (⟨l.toArray⟩ : ByteArray).size ≤ 9223372036854775807 := by
        show 1 + l.toArray.size ≤ _; simp; omega
      go_wp2
      go_roundw
      case rel => exact ⟨n / 10, c :: l, by simp, congrArg Value.string CB.out, LE.out, E, B9.out⟩
      case measure => simp [intOf]; omega
    · have hz : n = 0 := by omega
      subst hz
      have E := hid (show mk k = ⟨#[109]⟩ ++ ⟨l.toArray⟩ by unfold mk; rw [hd.out, digW_zero])
      have hsz : (⟨#[109]⟩ : ByteArray).size + (⟨l.toArray⟩ : ByteArray).size ≤ 9223372036854775807 := by
        show 1 + l.toArray.size ≤ _; simp; omega
      go_wp2
      go_ret
      exact ⟨ret_val (by rw [E.out]; rfl), S9.out⟩
def strs (xs : List ByteArray) : List Value := xs.map Value.string
/-- the value is a slice of these strings -/
def StrsAt (w : World) (v : Value) (xs : List ByteArray) : Prop :=
  ∃ A c, v = .slice A xs.length c ∧ xs.length ≤ 1000000000 ∧ ∀ i x, xs[i]? = some x → ∃ b off, A = some ⟨b, off, none⟩ ∧ b < w.heap.size ∧ w.cell? ⟨b, off + i, none⟩ = some (.string x)
theorem StrsAt.below {w w' : World} {v : Value} {xs : List ByteArray} (h : StrsAt w v xs) (hb : Below w.heap.size w w') : StrsAt w' v xs := by
  obtain ⟨A, c, h1, h2, h3⟩ := h
  refine ⟨A, c, h1, h2, fun i x hi => ?_⟩
  obtain ⟨b, off, e1, e2, e3⟩ := h3 i x hi
  exact ⟨b, off, e1, Nat.lt_of_lt_of_le e2 hb.size, by rw [hb.cell (p := ⟨b, _, none⟩) e2]; exact e3⟩
/-- a new slice of strings in memory from block B on -/
def OwnStrs (B : Nat) (w : World) (v : Value) (xs : List ByteArray) : Prop := w.ownsRow B 9 1 v xs.length (strs xs)
theorem ownS_form {w : World} {B : Nat} {v : Value} {xs : List ByteArray} (h : OwnStrs B w v xs) : ∃ A c, v = .slice A xs.length c := by
  rcases h.2 with ⟨h1, h2⟩ | ⟨g, cap, cur, h1, _⟩
  · exact ⟨none, 0, by rw [h1, h2]⟩
  · exact ⟨_, _, h1⟩
theorem ownS_less {B C : Nat} {w : World} {v : Value} {xs : List ByteArray} (h : OwnStrs B w v xs) (hC : C ≤ B) : OwnStrs C w v xs := by
  refine ⟨h.1, ?_⟩
  rcases h.2 with h' | ⟨g, cap, cur, h1, h2, h3⟩
  · exact .inl h'
  · exact .inr ⟨g, cap, cur, h1, by omega, h3⟩
theorem ownS_below {B : Nat} {w w' : World} {v : Value} {xs : List ByteArray} (h : OwnStrs B w v xs) (hb : Below w.heap.size w w') : OwnStrs B w' v xs := by
  refine ⟨h.1, ?_⟩
  rcases h.2 with h' | ⟨g, cap, cur, h1, h2, h3, h4⟩
  · exact .inl h'
  · have hg : g < w.heap.size := by
      rcases Nat.lt_or_ge g w.heap.size with hlt | hge
      · exact hlt
      · rw [Array.getElem?_eq_none hge] at h3; cases h3
    exact .inr ⟨g, cap, cur, h1, h2, (hb.block g hg).trans h3, h4⟩
theorem strs_get (xs : List ByteArray) (i : Nat) (x : ByteArray) (h : xs[i]? = some x) : (strs xs)[i]? = some (.string x) := by simp [strs, h]
theorem OwnStrs.at_ {B : Nat} {w : World} {v : Value} {xs : List ByteArray} (h : OwnStrs B w v xs) (hn : xs.length ≤ 1000000000) : StrsAt w v xs := by
  rcases h.2 with ⟨h1, h2⟩ | ⟨g, cap, cur, h1, h2, h3, h4⟩
  · have hx : xs = [] := List.eq_nil_of_length_eq_zero h2
    subst hx
    exact ⟨none, 0, h1, by simp, fun i x hi => by simp at hi⟩
  · have hg : g < w.heap.size := by
      rcases Nat.lt_or_ge g w.heap.size with hlt | hge
      · exact hlt
      · rw [Array.getElem?_eq_none hge] at h3; cases h3
    refine ⟨_, cap, h1, hn, fun i x hi => ⟨g, 0, rfl, hg, ?_⟩⟩
    have hi2 : i < xs.length := by
      rcases Nat.lt_or_ge i xs.length with h' | h'
      · exact h'
      · rw [List.getElem?_eq_none h'] at hi; cases hi
    subst h1
    have := World.ownsRow.cellAt h i (by omega)
    rw [show 0 + i = i by omega, this]
    exact strs_get xs i x hi
def marksT (k n : Nat) : List ByteArray := (List.range n).map (fun i : Nat => mk (k + i))
theorem marksT_len (k n : Nat) : (marksT k n).length = n := by simp [marksT]
theorem marksT_get (k n i : Nat) (h : i < n) : (marksT k n)[i]? = some (mk (k + i)) := by simp [marksT, h]
theorem marksT_succ (k n : Nat) : marksT k (n + 1) = marksT k n ++ [mk (k + n)] := by simp [marksT, List.range_succ]
theorem strs_append (a b : List ByteArray) : strs (a ++ b) = strs a ++ strs b := by simp [strs]
theorem markT_step (k : Nat) (xs : List ByteArray) (j : Nat) (hj : j < xs.length) : (strs (marksT k j ++ xs.drop j)).set j (.string (mk (k + j))) = strs (marksT k (j + 1) ++ xs.drop (j + 1)) := by
  have e : xs.drop j = xs[j] :: xs.drop (j + 1) := List.drop_eq_getElem_cons hj
  rw [marksT_succ, e, strs_append, strs_append, strs_append]
  have hl : (strs (marksT k j)).length = j := by simp [strs, marksT_len]
  generalize xs.drop (j + 1) = t
  generalize xs[j] = x
  have e2 : strs (x :: t) = .string x :: strs t := rfl
  have e3 : strs [mk (k + j)] = [.string (mk (k + j))] := rfl
  rw [List.set_append_right _ _ (by omega), hl, Nat.sub_self, e2, e3, List.set_cons_zero, List.append_assoc, List.singleton_append]
def MarkedT (B : Nat) (v : Value) (k n : Nat) (w : World) (e : Ending) (w' : World) : Prop := e = .returned (.int .i64 ((k : Int) + (n : Int))) ∧ OwnStrs B w' v (marksT k n) ∧ w.grownBy w' v.ownBlock
theorem grownBy_below {w w' : World} {row : Option Nat} (h : Below w.heap.size w w') : w.grownBy w' row := ⟨h.os, h.tape, h.output, h.size, fun k hk _ => h.block k hk⟩
theorem markS_any (B : Nat) (v : Value) (xs : List ByteArray) (k : Nat) (w : World) (h : OwnStrs B w v xs) (hn : xs.length ≤ 1000000000) (h0 : 0 < k) (h1 : k ≤ 1000000000) : Calls Try.prog 14 #[v, .int .i64 (k : Int)] w (MarkedT B v k xs.length w) := by
  have H := hid h
  obtain ⟨A, c, hv⟩ := ownS_form h
  subst hv
  clear h
  go_enter Try.func14, Try.ntmps14
  go_wp2_with fail
  go_loopw [1, 5] (fun s i wr => ∃ j : Nat, j ≤ xs.length ∧ i = .int .i64 j ∧ s = .int .i64 ((k + j : Nat) : Int) ∧ Hid (wr.ownsRow B 9 1 (.slice A xs.length c) xs.length (strs (marksT k j ++ xs.drop j))) ∧ Hid (w.grownBy wr (Value.slice A xs.length c).ownBlock)) (fun _ i _ => xs.length - (intOf i).toNat)
  case atStart => exact ⟨0, Nat.zero_le _, rfl, rfl, hid (by simpa [marksT, OwnStrs] using H.out), hid (World.grownBy.refl w _)⟩
  case round =>
    obtain ⟨j, hj, rfl, rfl, ho, hg⟩ := hrel
    by_cases hlt : j < xs.length
    · have hA : ∃ g, A = some ⟨g, 0, none⟩ := by
        rcases ho.out.2 with ⟨h', h''⟩ | ⟨g, cap, cur, h', _⟩
        · omega
        · injection h' with h' _ _; exact ⟨g, h'⟩
      obtain ⟨g, rfl⟩ := hA
      have hj0 : (0 : Int) ≤ (j : Int) := by omega
      have hj1 : (j : Int) < (xs.length : Int) := by omega
      have hs1 : ((k + j : Nat) : Int) ≤ 2000000000 := by omega
      go_wp2_with fail
      refine (markText_any (k + j) _ (by omega) (by omega)).mono ?_
      rintro e w1 ⟨rfl, hb1⟩
      have ho1 : Hid (w1.ownsRow B 9 1 (.slice (some ⟨g, 0, none⟩) xs.length c) xs.length (strs (marksT k j ++ xs.drop j))) := hid (ho.out.kept (row := none) (grownBy_below hb1) (.inr (by simp [Value.ownBlock])))
      have hg1 := hid (hg.out.trans (grownBy_below hb1))
      clear ho hg hb1
      have hlen : j < (strs (marksT k j ++ xs.drop j)).length := by simp [strs, marksT_len]; omega
      have hc : w1.cell? ⟨g, j, none⟩ = some ((strs (marksT k j ++ xs.drop j))[j]'hlen) := by
        rw [World.ownsRow.cellAt ho1.out j (by omega)]; exact List.getElem?_eq_getElem hlen
      generalize (strs (marksT k j ++ xs.drop j))[j]'hlen = old at hc
      clear hlen
      have hf : w1.frozen? ⟨g, j, none⟩ = false := World.ownsRow.frozenAt ho1.out j
      go_wp2
      go_roundw
      case rel =>
        have st := World.ownsRow.stored ho1.out j (.string (mk (k + j)))
        refine ⟨j + 1, by omega, by go_num, by go_num, hid ?_, hid ?_⟩
        · rw [← markT_step k xs j hlt]; exact st.1
        · exact hg1.out.trans st.2
      case measure => simp [intOf]; omega
    · have he : j = xs.length := by omega
      subst he
      go_wp2
      go_ret
      exact ⟨by simp, by unfold OwnStrs; rw [marksT_len]; have := ho.out; rwa [List.drop_length, List.append_nil] at this, hg.out⟩
theorem heldS_any (v : Value) (n k : Nat) (w : World) (h : StrsAt w v (marksT k n)) (h0 : 0 < k) (h1 : k ≤ 1000000000) : Calls Try.prog 15 #[v, .int .i64 (k : Int)] w fun e w' => e = .returned (.int .i64 ((k : Int) + (n : Int))) ∧ Below w.heap.size w w' := by
  obtain ⟨A, c, rfl, hn, hcell⟩ := h
  rw [marksT_len] at hn
  have HC := hid hcell
  clear hcell
  rw [marksT_len]
  go_enter Try.func15, Try.ntmps15
  go_wp2_with fail
  go_loopw [1, 5] (fun s i wr => ∃ j : Nat, j ≤ n ∧ i = .int .i64 j ∧ s = .int .i64 ((k + j : Nat) : Int) ∧ Below w.heap.size w wr) (fun _ i _ => n - (intOf i).toNat)
  case atStart => exact ⟨0, Nat.zero_le _, rfl, rfl, Below.refl _ _⟩
  case round =>
    obtain ⟨j, hj, rfl, rfl, hb⟩ := hrel
    by_cases hlt : j < n
    · obtain ⟨b, off, rfl, hbb, hc⟩ := HC.out j _ (marksT_get k n j hlt)
      have hj0 : (0 : Int) ≤ (j : Int) := by omega
      have hj1 : (j : Int) < (n : Int) := by omega
      have hs1 : ((k + j : Nat) : Int) ≤ 2000000000 := by omega
      have hbs := hb.size
      have m1 : ∀ p, (mv wr p).cell? ⟨b, off + j, none⟩ = some (.string (mk (k + j))) := fun p => cell_mv (by omega) (by rw [hb.cell (p := ⟨b, _, none⟩) hbb]; exact hc) p
      have HB := hid hb
      clear hc hb
      have MT := hid (fun W => markText_any (k + j) W (by omega) (by omega))
      generalize mk (k + j) = t at m1 MT
      go_wp2_with fail
      refine wp_region_mv (by kernel_rfl) (by kernel_rfl) ?_
      repeat (go_big_quiet_step ((go_at_call 21; exact calls_mv (MT.out _))))
      refine wpQuiet_nil ?_
      intro _ hw'
      obtain ⟨q, hw''⟩ := hw'
      subst hw''
      go_wp2
      go_roundw
      case rel => exact ⟨j + 1, by omega, by go_num, by go_num, then_ HB.out (below_mv _ q) hbs⟩
      case measure => simp [intOf]; omega
    · have he : j = n := by omega
      subst he
      go_wp2
      go_ret
      exact ⟨by simp, hb⟩
theorem eqStrs_same (v v' : Value) (xs : List ByteArray) (w : World) (hv : StrsAt w v xs) (hv' : StrsAt w v' xs) : Calls Try.prog 13 #[v, v'] w fun e w' => e = .returned (.bool true) ∧ Below w.heap.size w w' := by
  obtain ⟨A, c, rfl, hn, hcell⟩ := hv
  obtain ⟨A', c', rfl, _, hcell'⟩ := hv'
  have HC := hid hcell
  have HC' := hid hcell'
  clear hcell hcell'
  go_enter Try.func13, Try.ntmps13
  go_wp2
  go_loopw [5] (fun i wr => ∃ k : Nat, k ≤ xs.length ∧ i = .int .i64 k ∧ Below w.heap.size w wr) (fun i _ => xs.length - (intOf i).toNat)
  case atStart => exact ⟨0, Nat.zero_le _, rfl, Below.refl _ _⟩
  case round =>
    obtain ⟨k, hk, rfl, hb⟩ := hrel
    by_cases hlt : k < xs.length
    · obtain ⟨x, hxy⟩ : ∃ p, xs[k]? = some p := ⟨_, List.getElem?_eq_getElem hlt⟩
      obtain ⟨b, off, rfl, hbb, h1⟩ := HC.out k x hxy
      obtain ⟨b', off', rfl, hbb', h3⟩ := HC'.out k x hxy
      have hbs := hb.size
      have h1' : ∀ p, (mv wr p).cell? ⟨b, off + k, none⟩ = some (.string x) := fun p => cell_mv (by omega) (by rw [hb.cell (p := ⟨b, _, none⟩) hbb]; exact h1) p
      have h3' : ∀ p, (mv wr p).cell? ⟨b', off' + k, none⟩ = some (.string x) := fun p => cell_mv (by omega) (by rw [hb.cell (p := ⟨b', _, none⟩) hbb']; exact h3) p
      have hk0 : (0 : Int) ≤ (k : Int) := by omega
      have hk1 : (k : Int) < (xs.length : Int) := by omega
      have HB := hid hb
      clear h1 h3 hxy hb
      go_wp2_with fail
      refine wp_region_mv (by kernel_rfl) (by kernel_rfl) ?_
      repeat (go_big_quiet_step (fail))
      refine wpQuiet_nil ?_
      intro _ hw'
      obtain ⟨q, hw''⟩ := hw'
      subst hw''
      go_wp2
      go_roundw
      case rel => exact ⟨k + 1, by omega, by go_num, then_ HB.out (below_mv _ q) hbs⟩
      case measure => simp [intOf]; omega
    · go_wp2
      go_ret
      exact ⟨rfl, hb⟩
end Go.Proofs.Ytmngmmjimkdcfaa
