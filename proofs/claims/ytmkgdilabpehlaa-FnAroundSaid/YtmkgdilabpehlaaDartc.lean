/- What DartBetween returns, in the program and in the reference. No condition. -/
import Derived.Test.YtmkgdilabpehlaaDartb
namespace Go.Proofs.Ytmkgdilabpehlaa
open Go.ChangeShapes Go.WideShapes Go.ChangeAt Go.RowKit
set_option maxHeartbeats 1000000
set_option linter.unusedSimpArgs false
set_option linter.unusedVariables false
theorem idxAt_get : ∀ (ns : List (Int × Int)) (x y : Int) (s : Nat), 0 ≤ idxAt ns x y s → ∃ k : Nat, idxAt ns x y s = ((s + k : Nat) : Int) ∧ ns[k]? = some (x, y)
  | [], x, y, s, h => by simp [idxAt] at h
  | p :: t, x, y, s, h => by
    unfold idxAt at h ⊢
    cases e : eqP x y p.1 p.2
    · simp only [e] at h ⊢
      obtain ⟨k, hk, hg⟩ := idxAt_get t x y (s + 1) (by simpa using h)
      refine ⟨k + 1, ?_, by simpa using hg⟩
      have : ((s : Int) + 1) = ((s + 1 : Nat) : Int) := by omega
      simp only [Bool.false_eq_true, if_false]
      rw [this, hk]; congr 1; omega
    · obtain ⟨h1, h2⟩ := eqP_eq e
      refine ⟨0, by simp, ?_⟩
      simp [h1, h2]
theorem idxP_get {ns : List (Int × Int)} {x y : Int} (h : 0 ≤ idxP ns x y) : ∃ k : Nat, idxP ns x y = (k : Int) ∧ k < ns.length ∧ ns[k]? = some (x, y) := by
  obtain ⟨k, hk, hg⟩ := idxAt_get ns x y 0 (show 0 ≤ idxAt ns x y ((0 : Nat) : Int) from h)
  refine ⟨k, by unfold idxP; simpa using hk, ?_, hg⟩
  rcases Nat.lt_or_ge k ns.length with h' | h'
  · exact h'
  · rw [List.getElem?_eq_none h'] at hg; cases hg
theorem win_lead {ns ls : List (Int × Int)} (h : winOkB ns ls = true) {k : Nat} {f t : Int} (hk : ls[k]? = some (f, t)) : leadOkB ns f t = true := by
  simp only [winOkB, Bool.and_eq_true] at h
  have hl : k < ls.length := by
    rcases Nat.lt_or_ge k ls.length with h' | h'
    · exact h'
    · rw [List.getElem?_eq_none h'] at hk; cases hk
  have := allB_get h.2.2.2.2 hl
  unfold leadLine at this
  rw [ptN_of hk] at this
  simp only [Bool.and_eq_true] at this
  exact this.1
theorem lbF_get {ns ls : List (Int × Int)} {a b : Int} (h : 0 ≤ lbF ns ls a b) : ∃ k : Nat, lbF ns ls a b = (k : Int) ∧ k < ls.length ∧ k ≤ 20 ∧ ls[k]? = some (min a b, max a b) ∧ (min a b = a ↔ a < b) ∧ a ≠ b := by
  unfold lbF at h ⊢
  cases hw : winOkB ns ls
  · rw [hw] at h; simp at h
  · rw [hw] at h
    simp only [if_true] at h ⊢
    obtain ⟨k, hk, hl, hg⟩ := idxP_get h
    have hlo := win_lead hw hg
    obtain ⟨h0, h1, h2, _⟩ := lead_ends hlo
    have := win_leads hw
    exact ⟨k, hk, hl, by omega, hg, by omega, by omega⟩
def dbF (ns ls : List (Int × Int)) (a b : Int) : Int := if lbF ns ls a b < 0 then -1 else if a < b then 2 * lbF ns ls a b else 2 * lbF ns ls a b + 1
theorem iDB_any (vn vl : Value) (ns ls : List (Int × Int)) (a b : Int) (w : World) (hn : PairsAt w vn ns) (hl : PairsAt w vl ls) : Calls Try.prog 46 #[.agg #[vn, vl], .int .i64 a, .int .i64 b] w fun e w' => e = .returned (.int .i64 (dbF ns ls a b)) ∧ Below w.heap.size w w' := by
  have s0 : Below w.heap.size w (w.alloc (.cells #[vn, vl] 31)) := (Below.refl _ _).alloc (Nat.le_refl _) _
  have HN := hid (hn.below s0)
  have HL := hid (hl.below s0)
  have B0 := hid (BoxV.new w vn vl 31 w.heap.size rfl)
  have S0 := hid s0
  clear s0
  obtain ⟨A, c, rfl, hcn, hm, _⟩ := id hn
  obtain ⟨A', c', rfl, hcl, hm', _⟩ := id hl
  unfold maxLen at hm hm'
  clear hn hl
  have v0 := B0.out.c0
  have v1 := B0.out.c1
  by_cases h : lbF ns ls a b < 0
  · have H := hid h
    go_enter Try.func46, Try.ntmps46
    go_wp2_with fail
    refine (iLB_any _ _ ns ls _ _ _ HN.out HL.out).mono ?_
    rintro e w1 ⟨rfl, hb⟩
    go_wp2
    go_ret
    exact ⟨ret_int (by unfold dbF; rw [if_pos H.out]), then_ S0.out hb S0.out.size⟩
  · have H := hid h
    obtain ⟨k, hk, hkl, hk20, hg, hmn, hne⟩ := lbF_get (ns := ns) (ls := ls) (a := a) (b := b) (by omega)
    have HK := hid hk
    have HG := hid hg
    have HM := hid hmn
    have HNE := hid hne
    have hk0 : (0 : Int) ≤ (k : Int) := by omega
    have hk1 : (k : Int) < (ls.length : Int) := by omega
    have hk2 : (k : Int) ≤ 20 := by omega
    clear hk hg hmn h hne
    by_cases q : min a b = a
    · have hab := HM.out.1 q
      have q' : ((min a b) == a) = true := by simp [q]
      have HAB := hid hab
      have QM := hid q
      clear q hab
      go_enter Try.func46, Try.ntmps46
      go_wp2_with fail
      refine (iLB_any _ _ ns ls _ _ _ HN.out HL.out).mono ?_
      rintro e w1 ⟨rfl, hb⟩
      rw [HK.out]
      have B0 := hid (B0.out.below hb)
      have S0 := hid (then_ S0.out hb S0.out.size)
      have HN := hid (HN.out.below hb)
      have HL := hid (HL.out.below hb)
      have v0 := B0.out.c0
      have v1 := B0.out.c1
      have vlt := B0.out.lt
      clear hb
      have S9 := hid S0.out
      obtain ⟨b1, off, rfl, hbb, h1, h2⟩ := HL.out.at_ HG.out
      rw [QM.out] at h1
      clear q'
      go_wp2
      go_ret
      exact ⟨ret_int (by unfold dbF; rw [if_neg (by have := H.out; omega), if_pos HAB.out, HK.out]), S9.out⟩
    · have hab : ¬ a < b := fun h' => q (HM.out.2 h')
      have HAB := hid hab
      obtain ⟨m, hm1⟩ : ∃ m, m = min a b := ⟨_, rfl⟩
      have q' : (m == a) = false := by simp [hm1, q]
      have QM := hid hm1
      clear q hab hm1
      go_enter Try.func46, Try.ntmps46
      go_wp2_with fail
      refine (iLB_any _ _ ns ls _ _ _ HN.out HL.out).mono ?_
      rintro e w1 ⟨rfl, hb⟩
      rw [HK.out]
      have B0 := hid (B0.out.below hb)
      have S0 := hid (then_ S0.out hb S0.out.size)
      have HN := hid (HN.out.below hb)
      have HL := hid (HL.out.below hb)
      have v0 := B0.out.c0
      have v1 := B0.out.c1
      have vlt := B0.out.lt
      clear hb
      have S9 := hid S0.out
      obtain ⟨b1, off, rfl, hbb, h1, h2⟩ := HL.out.at_ HG.out
      rw [← QM.out] at h1
      go_wp2
      go_ret
      exact ⟨ret_int (by unfold dbF; rw [if_neg (by have := H.out; omega), if_neg (by have := HAB.out; omega), HK.out]), S9.out⟩
end Go.Proofs.Ytmkgdilabpehlaa
