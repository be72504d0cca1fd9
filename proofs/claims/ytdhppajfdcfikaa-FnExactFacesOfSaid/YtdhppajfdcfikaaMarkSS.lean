/- What the laws' helpers do that mark a slice of slices of ints, look for the marks and compare two of them. No condition but the sizes that are named. -/
import Derived.Test.YtdhppajfdcfikaaFaceC
import Derived.Test.YtdhppajfdcfikaaMarkp
namespace Go.Proofs.Ytdhppajfdcfikaa
open Go.ChangeShapes Go.WideShapes Go.ChangeAt Go.RowKit
set_option maxHeartbeats 2000000
set_option linter.unusedSimpArgs false
set_option linter.unusedVariables false
def tot (fs : List (List Int)) : Nat := (fs.map List.length).sum
theorem tot_take {fs : List (List Int)} {i : Nat} {l : List Int} (h : fs[i]? = some l) : tot (fs.take (i + 1)) = tot (fs.take i) + l.length := by
  unfold tot; rw [List.take_add_one, h]; simp
theorem tot_take_le (fs : List (List Int)) (i : Nat) : tot (fs.take i) ≤ tot fs := by
  conv => rhs; rw [← List.take_append_drop i fs]
  unfold tot; rw [List.map_append, List.sum_append]; omega
/-- the first i rows hold marks -/
def mixSS (k : Int) (fs : List (List Int)) (i : Nat) : List (List Int) := (List.range fs.length).map fun j => if j < i then marks (k + (tot (fs.take j) : Int)) (fs.getD j []).length else fs.getD j []
def allSS (k : Int) (fs : List (List Int)) : List (List Int) := mixSS k fs fs.length
theorem mixSS_len (k : Int) (fs : List (List Int)) (i : Nat) : (mixSS k fs i).length = fs.length := by simp [mixSS]
theorem mixSS_lt {k : Int} {fs : List (List Int)} {i j : Nat} {l : List Int} (h : fs[j]? = some l) (hj : j < i) : (mixSS k fs i)[j]? = some (marks (k + (tot (fs.take j) : Int)) l.length) := by
  have hl : j < fs.length := by
    rcases Nat.lt_or_ge j fs.length with q | q
    · exact q
    · rw [List.getElem?_eq_none q] at h; cases h
  unfold mixSS
  rw [List.getElem?_map, List.getElem?_range hl]
  simp [hj, List.getD, h]
theorem mixSS_ge {k : Int} {fs : List (List Int)} {i j : Nat} {l : List Int} (h : fs[j]? = some l) (hj : i ≤ j) : (mixSS k fs i)[j]? = some l := by
  have hl : j < fs.length := by
    rcases Nat.lt_or_ge j fs.length with q | q
    · exact q
    · rw [List.getElem?_eq_none q] at h; cases h
  unfold mixSS
  rw [List.getElem?_map, List.getElem?_range hl]
  simp [show ¬ j < i by omega, List.getD, h]
theorem mixSS_zero (k : Int) (fs : List (List Int)) : mixSS k fs 0 = fs := by
  apply List.ext_getElem?
  intro j
  cases h : fs[j]? with
  | some l => exact mixSS_ge h (by omega)
  | none =>
    rw [List.getElem?_eq_none_iff] at h ⊢
    rw [mixSS_len]; exact h
/-- a row of ints in its own block is written -/
theorem RowsOf.write {B i : Nat} {w w' : World} {us : List Value} {fs : List (List Int)} {k : Int} {u : Value} {l : List Int} (h : RowsOf B w us (mixSS k fs i)) (hu : us[i]? = some u) (hl : fs[i]? = some l)
    (hg : w.grownBy w' u.ownBlock) (ho : OwnInts B w' u (marks (k + (tot (fs.take i) : Int)) l.length)) : RowsOf B w' us (mixSS k fs (i + 1)) := by
  have hlen := h.len
  rw [mixSS_len] at hlen
  refine ⟨by rw [mixSS_len]; exact hlen, fun j x m hx hm => ?_, h.part⟩
  have hjl : j < fs.length := by
    rcases Nat.lt_or_ge j fs.length with q | q
    · exact q
    · rw [List.getElem?_eq_none (by omega)] at hx; cases hx
  obtain ⟨lj, hlj⟩ : ∃ lj, fs[j]? = some lj := ⟨_, List.getElem?_eq_getElem hjl⟩
  by_cases e : j = i
  · subst e
    rw [hu] at hx
    rw [mixSS_lt hlj (by omega)] at hm
    rw [hl] at hlj
    cases hx; cases hm; cases hlj
    exact ho
  · have same : (mixSS k fs (i + 1))[j]? = (mixSS k fs i)[j]? := by
      rcases Nat.lt_or_ge j i with q | q
      · rw [mixSS_lt hlj (by omega), mixSS_lt hlj q]
      · rw [mixSS_ge hlj (by omega), mixSS_ge hlj q]
    rw [same] at hm
    have h9 := h.at_ j x m hx hm
    refine World.ownsRow.kept h9 hg ?_
    cases hb : x.ownBlock with
    | none => exact .inl rfl
    | some g =>
      refine .inr fun e2 => ?_
      have hp := h.part
      unfold Parted at hp
      rw [List.pairwise_iff_getElem] at hp
      have li : i < us.length := by
        rcases Nat.lt_or_ge i us.length with q | q
        · exact q
        · rw [List.getElem?_eq_none q] at hu; cases hu
      have lj : j < us.length := by omega
      rw [List.getElem?_eq_getElem li] at hu
      rw [List.getElem?_eq_getElem lj] at hx
      have hu' : us[i] = u := Option.some.inj hu
      have hx' : us[j] = x := Option.some.inj hx
      rcases Nat.lt_or_ge j i with q | q
      · have := hp j i lj li q g (by rw [hx']; exact hb)
        rw [hu'] at this
        exact this e2.symm
      · have := hp i j li lj (by omega) g (by rw [hu']; exact e2.symm)
        rw [hx'] at this
        exact this hb
theorem apart_ints {B B' n m : Nat} {w : World} {v u : Value} {us xs : List Value} (h : w.ownsRow B 37 1 v n us) (h2 : w.ownsRow B' 3 1 u m xs) : v.ownBlock = none ∨ v.ownBlock ≠ u.ownBlock := by
  rcases h.2 with ⟨a, _⟩ | ⟨g, _, cur, a, _, b, _⟩
  · exact .inl (by rw [a]; rfl)
  · refine .inr fun e => ?_
    rcases h2.2 with ⟨a2, _⟩ | ⟨g2, _, cur2, a2, _, b2, _⟩
    · rw [a, a2] at e; simp [Value.ownBlock] at e
    · rw [a, a2] at e
      have e' : g = g2 := by simpa [Value.ownBlock] using e
      subst e'
      rw [b] at b2
      injection b2 with b2
      injection b2 with _ b2 _
      exact absurd b2 (by decide)
theorem grown_ints {B n : Nat} {w w' : World} {v : Value} {xs : List Value} {e : TypeId} (h : w.grownBy w' v.ownBlock) (ho : w.ownsRow B e 1 v n xs) (hB : B ≤ w.heap.size) : Below B w w' := by
  refine ⟨h.os, h.tape, h.output, h.size, fun k hk => h.block k (by omega) (fun e => ?_)⟩
  have := World.ownsRow.lt ho k e.symm
  omega
theorem row_cell {w : World} {B n c : Nat} {A : Option Addr} {us : List Value} {e : TypeId} (h : w.ownsRow B e 1 (.slice A n c) n us) {i : Nat} {u : Value} (hu : us[i]? = some u) : ∃ g, A = some ⟨g, 0, none⟩ ∧ w.cell? ⟨g, i, none⟩ = some u := by
  rcases h.2 with ⟨a, b⟩ | ⟨g, cap, cur, a, _⟩
  · exfalso
    have := h.1
    have : us = [] := List.length_eq_zero_iff.1 (by omega)
    rw [this] at hu; simp at hu
  · injection a with a _ _
    refine ⟨g, a, ?_⟩
    subst a
    have := World.ownsRow.cells h (g := g) rfl i u hu
    have hadd : (⟨g, 0, none⟩ : Addr).add i = ⟨g, i, none⟩ := by unfold Addr.add; split <;> simp_all
    rw [hadd] at this
    exact this
theorem markIntSS_any (B : Nat) (v : Value) (fs : List (List Int)) (k : Int) (w : World) (h : OwnSS B w v fs) (hn : fs.length ≤ 1000) (ht : tot fs ≤ 1000000) (h0 : 0 ≤ k) (h1 : k ≤ 1000) (hB : B ≤ w.heap.size) : Calls Try.prog 40 #[v, .int .i64 k] w fun e w' => e = .returned (.int .i64 (k + (tot fs : Int))) ∧ OwnSS B w' v (allSS k fs) ∧ Below B w w' := by
  obtain ⟨us, ho, hr⟩ := h
  have HL := hid hr.len
  rw [HL.out] at ho
  obtain ⟨A, c, rfl⟩ := row_form ho
  have HO := hid ho
  have HR := hid hr
  clear ho hr
  go_enter Try.func40, Try.ntmps40
  go_wp2_with fail
  go_loopw [1, 5] (fun s i wr => ∃ j : Nat, j ≤ fs.length ∧ i = .int .i64 j ∧ s = .int .i64 (k + (tot (fs.take j) : Int)) ∧ Hid (wr.ownsRow B 37 1 (.slice A fs.length c) fs.length us) ∧ Hid (RowsOf B wr us (mixSS k fs j)) ∧ Hid (Below B w wr)) (fun _ i _ => fs.length - (intOf i).toNat)
  case atStart => exact ⟨0, Nat.zero_le _, rfl, by simp [tot], HO, by rw [mixSS_zero]; exact HR, hid (Below.refl _ _)⟩
  case round =>
    clear HO HR
    obtain ⟨j, hj, rfl, rfl, HO, HR, HB⟩ := hrel
    by_cases hlt : j < fs.length
    · obtain ⟨l, hx⟩ : ∃ l, fs[j]? = some l := ⟨_, List.getElem?_eq_getElem (by omega)⟩
      obtain ⟨u, hu⟩ : ∃ u, us[j]? = some u := ⟨_, List.getElem?_eq_getElem (by rw [HL.out]; exact hlt)⟩
      have hI := HR.out.at_ j u l hu (mixSS_ge hx (Nat.le_refl _))
      obtain ⟨g, rfl, hc⟩ := row_cell HO.out hu
      obtain ⟨Au, cu, rfl⟩ := own_form hI
      have htk := tot_take hx
      have htl := tot_take_le fs (j + 1)
      have HX := hid hx
      have HU := hid hu
      have HI := hid hI
      have HT := hid htk
      have hj0 : (0 : Int) ≤ (j : Int) := by omega
      have hj1 : (j : Int) < (fs.length : Int) := by omega
      have hk1 : k + (tot (fs.take j) : Int) ≤ 1000000000 := by omega
      have hll : l.length ≤ 1000000000 := by omega
      clear hI hx hu htk htl
      generalize hs : k + (tot (fs.take j) : Int) = s at hk1 ⊢
      have HS := hid hs
      have hs0 : 0 ≤ s := by omega
      clear hs
      go_wp2_with fail
      refine (markIntS_any B _ l s _ HI.out hll hs0 hk1).mono ?_
      rintro e w3 ⟨rfl, ho3, hg⟩
      have R3 := hid (HR.out.write HU.out HX.out hg (by rw [HS.out]; exact ho3))
      have O3 := hid (World.ownsRow.kept HO.out hg (apart_ints HO.out HI.out))
      have B3 := hid (HB.out.trans (grown_ints hg HI.out (Nat.le_trans hB HB.out.size)))
      clear hg ho3 hc
      go_wp2
      go_roundw
      case rel => exact ⟨j + 1, by omega, by go_num, by rw [HT.out]; have := HS.out; go_num, O3, R3, B3⟩
      case measure => simp [intOf]; omega
    · have he : j = fs.length := by omega
      subst he
      go_wp2
      go_ret
      exact ⟨ret_int (by rw [List.take_length]), ⟨us, by rw [HL.out]; exact HO.out, HR.out⟩, HB.out⟩
theorem heldIntSS_any (v : Value) (fs : List (List Int)) (k : Int) (w : World) (h : SSAt w v (allSS k fs)) (hn : fs.length ≤ 1000) (ht : tot fs ≤ 1000000) (h0 : 0 ≤ k) (h1 : k ≤ 1000) : Calls Try.prog 41 #[v, .int .i64 k] w fun e w' => e = .returned (.int .i64 (k + (tot fs : Int))) ∧ w = w' := by
  obtain ⟨A, c, rfl, _, hc⟩ := h
  unfold allSS at hc ⊢
  rw [mixSS_len]
  have HC := hid hc
  clear hc
  go_enter Try.func41, Try.ntmps41
  go_wp2_with fail
  go_loop [1, 5] (fun s i => ∃ j : Nat, j ≤ fs.length ∧ i = .int .i64 j ∧ s = .int .i64 (k + (tot (fs.take j) : Int))) (fun _ i => fs.length - (intOf i).toNat)
  case atStart => exact ⟨0, Nat.zero_le _, rfl, by simp [tot]⟩
  case round =>
    obtain ⟨j, hj, rfl, rfl⟩ := hrel
    by_cases hlt : j < fs.length
    · obtain ⟨l, hx⟩ : ∃ l, fs[j]? = some l := ⟨_, List.getElem?_eq_getElem hlt⟩
      obtain ⟨b, off, u, rfl, hbb, hcell, hI⟩ := HC.out j _ (mixSS_lt hx hlt)
      have htk := tot_take hx
      have htl := tot_take_le fs (j + 1)
      have HT := hid htk
      have HI := hid hI
      have hj0 : (0 : Int) ≤ (j : Int) := by omega
      have hj1 : (j : Int) < (fs.length : Int) := by omega
      have hk1 : k + (tot (fs.take j) : Int) ≤ 1000000000 := by omega
      have hk2 : 0 ≤ k + (tot (fs.take j) : Int) + (l.length : Int) := by omega
      have hk3 : k + (tot (fs.take j) : Int) + (l.length : Int) ≤ 1000000000 := by omega
      obtain ⟨Au, cu, rfl, _, _⟩ := id hI
      clear hI hx htk htl
      generalize hs : k + (tot (fs.take j) : Int) = s at hk1 hk2 hk3 ⊢
      have HS := hid hs
      have hs0 : 0 ≤ s := by omega
      clear hs
      go_wp2_with fail
      refine (heldIntS_any _ l.length s _ (by rw [← HS.out]; exact HI.out) hs0 hk1).mono ?_
      rintro e w3 ⟨rfl, rfl⟩
      go_wp2
      go_round
      case rel => exact ⟨j + 1, by omega, by go_num, by rw [HT.out]; have := HS.out; go_num⟩
      case measure => simp [intOf]; omega
    · have he : j = fs.length := by omega
      subst he
      go_wp2
      go_ret
      exact ⟨rfl, rfl⟩
theorem eqIntSS_same (v v' : Value) (fs : List (List Int)) (w : World) (hv : SSAt w v fs) (hv' : SSAt w v' fs) : Calls Try.prog 39 #[v, v'] w fun e w' => e = .returned (.bool true) ∧ Below w.heap.size w w' := by
  obtain ⟨A, c, rfl, hn, hc⟩ := hv
  obtain ⟨A', c', rfl, _, hc'⟩ := hv'
  have HC := hid hc
  have HC' := hid hc'
  clear hc hc'
  go_enter Try.func39, Try.ntmps39
  go_wp2_with fail
  go_loopw [5] (fun i wr => ∃ j : Nat, j ≤ fs.length ∧ i = .int .i64 j ∧ Hid (Below w.heap.size w wr)) (fun i _ => fs.length - (intOf i).toNat)
  case atStart => exact ⟨0, Nat.zero_le _, rfl, hid (Below.refl _ _)⟩
  case round =>
    obtain ⟨j, hj, rfl, HB⟩ := hrel
    by_cases hlt : j < fs.length
    · obtain ⟨l, hx⟩ : ∃ l, fs[j]? = some l := ⟨_, List.getElem?_eq_getElem hlt⟩
      obtain ⟨b, off, u, rfl, hbb, hcell, hI⟩ := HC.out j _ hx
      obtain ⟨b', off', u', rfl, hbb', hcell', hI'⟩ := HC'.out j _ hx
      have hj0 : (0 : Int) ≤ (j : Int) := by omega
      have hj1 : (j : Int) < (fs.length : Int) := by omega
      have TB := fun q => then_ HB.out (below_mv wr q) HB.out.size
      have n1 : ∀ q, (mv wr q).cell? ⟨b, off + j, none⟩ = some u := fun q => ((TB q).cell (p := ⟨b, _, none⟩) hbb).trans hcell
      have n2 : ∀ q, (mv wr q).cell? ⟨b', off' + j, none⟩ = some u' := fun q => ((TB q).cell (p := ⟨b', _, none⟩) hbb').trans hcell'
      have CE := hid (fun q => eqIntS_same u u' l (mv wr q) (hI.below (TB q)) (hI'.below (TB q)))
      clear hI hI' TB hx
      go_wp2_with fail
      refine wp_region_mv (by kernel_rfl) (by kernel_rfl) ?_
      repeat (go_big_quiet_step ((go_at_call 25; exact calls_mv (CE.out _))))
      refine wpQuiet_nil ?_
      intro _ hw'
      obtain ⟨q, hw''⟩ := hw'
      subst hw''
      have HB3 := hid (then_ HB.out (below_mv wr q) HB.out.size)
      clear n1 n2 CE
      go_wp2
      go_roundw
      case rel => exact ⟨j + 1, by omega, by go_num, HB3⟩
      case measure => simp [intOf]; omega
    · have he : j = fs.length := by omega
      subst he
      go_wp2
      go_ret
      exact ⟨rfl, HB.out⟩
/-- the marks on a window leave the rows as they are -/
theorem OwnSS.marked {B B' : Nat} {w w' : World} {v p1 p2 : Value} {fs : List (List Int)} {ns ls : List (Int × Int)} (h : OwnSS B w v fs) (h1 : OwnPairs B' 71 w p1 ns) (h2 : OwnPairs B' 73 w p2 ls)
    (hk : ∀ j, j < w.heap.size → some j ≠ p1.ownBlock → some j ≠ p2.ownBlock → w'.heap[j]? = w.heap[j]?) (hs : w.heap.size ≤ w'.heap.size) : OwnSS B w' v fs := by
  obtain ⟨g1, rfl, _, _, b1⟩ := h1
  obtain ⟨g2, rfl, _, _, b2⟩ := h2
  have keep : ∀ {B n : Nat} {e : TypeId} {x : Value} {xs : List Value}, e ≠ 71 → e ≠ 73 → w.ownsRow B e 1 x n xs → w'.ownsRow B e 1 x n xs := fun {B n e x xs} n1 n2 ho => by
    refine ⟨ho.1, ?_⟩
    rcases ho.2 with q | ⟨g, cap, cur, a1, a2, a3, a4⟩
    · exact .inl q
    · refine .inr ⟨g, cap, cur, a1, a2, ?_, a4⟩
      rw [hk g (Array.getElem?_eq_some_iff.1 a3).1 (fun q => ?_) (fun q => ?_)]
      · exact a3
      · have q' : g = g1 := by simpa [Value.ownBlock] using q
        subst q'
        unfold Blk at b1
        rw [b1] at a3
        injection a3 with a3
        injection a3 with _ a3 _
        exact n1 a3.symm
      · have q' : g = g2 := by simpa [Value.ownBlock] using q
        subst q'
        unfold Blk at b2
        rw [b2] at a3
        injection a3 with a3
        injection a3 with _ a3 _
        exact n2 a3.symm
  obtain ⟨us, ho, hr⟩ := h
  exact ⟨us, keep (by decide) (by decide) ho, hr.len, fun i u l hu hl => keep (by decide) (by decide) (hr.at_ i u l hu hl), hr.part⟩
theorem tot_le (m : Nat) : ∀ fs : List (List Int), (∀ l, l ∈ fs → l.length ≤ m) → tot fs ≤ m * fs.length
  | [], _ => by simp [tot]
  | l :: t, h => by
    have h1 := h l (List.mem_cons_self ..)
    have h2 := tot_le m t fun x hx => h x (List.mem_cons_of_mem _ hx)
    unfold tot at h2 ⊢
    rw [List.map_cons, List.sum_cons, List.length_cons, Nat.mul_add]
    omega
theorem face_len {ns ls : List (Int × Int)} {l : List Int} (h : l ∈ facesF ns ls) : l.length ≤ 40 := by
  obtain ⟨i, hi⟩ := List.getElem?_of_mem h
  obtain ⟨h1, h2, _⟩ := faces_at hi
  have := (win_facts h1).m2
  omega
theorem faces_tot (ns ls : List (Int × Int)) : tot (facesF ns ls) ≤ 1600 := by
  have h1 := tot_le 40 (facesF ns ls) fun l hl => face_len hl
  have h2 := faces_len ns ls
  omega
theorem allSS_ss {B : Nat} {w : World} {v : Value} {ns ls : List (Int × Int)} {k : Int} (h : OwnSS B w v (allSS k (facesF ns ls))) : SSAt w v (allSS k (facesF ns ls)) := by
  refine OwnSS.at_ h ?_ fun i m hm => ?_
  · unfold allSS; rw [mixSS_len]; have := faces_len ns ls; omega
  · unfold allSS at hm
    have hl : i < (facesF ns ls).length := by
      rcases Nat.lt_or_ge i (facesF ns ls).length with q | q
      · exact q
      · rw [List.getElem?_eq_none (by rw [mixSS_len]; exact q)] at hm; cases hm
    obtain ⟨l, hx⟩ : ∃ l, (facesF ns ls)[i]? = some l := ⟨_, List.getElem?_eq_getElem hl⟩
    rw [mixSS_lt hx hl] at hm
    have := face_len (List.mem_of_getElem? hx)
    cases hm
    rw [marks_len]; omega
end Go.Proofs.Ytdhppajfdcfikaa
