/- What the functions on darts return, in the program and in the reference. No condition but that a window has at most 1048576 leads. -/
import Derived.Test.YtdhppajfdcfikaaDart
namespace Go.Proofs.Ytdhppajfdcfikaa
open Go.ChangeShapes Go.WideShapes Go.ChangeAt Go.RowKit
set_option maxHeartbeats 1000000
set_option linter.unusedSimpArgs false
set_option linter.unusedVariables false
def isDart (ns ls : List (Int × Int)) (d : Int) : Bool := winOkB ns ls && inB d 0 (2 * (ls.length : Int) - 1)
def dFrom (ls : List (Int × Int)) (d : Int) : Int := if d % 2 = 0 then (ptN ls (d / 2).toNat).1 else (ptN ls (d / 2).toNat).2
def dTo (ls : List (Int × Int)) (d : Int) : Int := if d % 2 = 0 then (ptN ls (d / 2).toNat).2 else (ptN ls (d / 2).toNat).1
theorem win_leads {ns ls : List (Int × Int)} (h : winOkB ns ls = true) : ls.length ≤ 20 ∧ ns.length ≤ 12 ∧ 1 ≤ ns.length := by
  simp only [winOkB, Bool.and_eq_true, decide_eq_true_iff, inB] at h; omega
theorem dart_bd {ns ls : List (Int × Int)} {d : Int} (h : isDart ns ls d = true) : 0 ≤ d ∧ d < 2 * (ls.length : Int) ∧ d ≤ 39 := by
  simp only [isDart, Bool.and_eq_true] at h
  have := win_leads h.1
  simp only [inB, decide_eq_true_iff] at h
  omega
theorem dTo_eq (ls : List (Int × Int)) (d : Int) (h : 0 ≤ d) : dFrom ls (if d % 2 = 0 then d + 1 else d - 1) = dTo ls d := by
  unfold dFrom dTo
  by_cases e : d % 2 = 0
  · rw [if_pos e, if_pos e, if_neg (by omega), show (d + 1) / 2 = d / 2 by omega]
  · rw [if_neg e, if_neg e, if_pos (by omega), show (d - 1) / 2 = d / 2 by omega]
theorem xor_one (d : Int) (h0 : 0 ≤ d) (h1 : d ≤ 100) : bits .xor .i64 d 1 = if d % 2 = 0 then d + 1 else d - 1 := by
  have : ∀ k : Fin 101, bits .xor .i64 (k.val : Int) 1 = if (k.val : Int) % 2 = 0 then (k.val : Int) + 1 else (k.val : Int) - 1 := by decide +kernel
  have := this ⟨d.toNat, by omega⟩
  rw [show ((d.toNat : Nat) : Int) = d by omega] at this
  exact this
def dfF (ns ls : List (Int × Int)) (d : Int) : Int := if isDart ns ls d then dFrom ls d else -1
def dtF (ns ls : List (Int × Int)) (d : Int) : Int := if isDart ns ls d then dTo ls d else -1
theorem iHasDart_any (vn vl : Value) (ns ls : List (Int × Int)) (d : Int) (w : World) (hn : PairsAt w vn ns) (hl : PairsAt w vl ls) : Calls Try.prog 57 #[.agg #[vn, vl], .int .i64 d] w fun e w' => e = .returned (.bool (isDart ns ls d)) ∧ Below w.heap.size w w' := by
  have s0 : Below w.heap.size w (w.alloc (.cells #[vn, vl] 31)) := (Below.refl _ _).alloc (Nat.le_refl _) _
  have HN := hid (hn.below s0)
  have HL := hid (hl.below s0)
  have B0 := hid (BoxV.new w vn vl 31 w.heap.size rfl)
  have S0 := hid s0
  clear s0
  obtain ⟨A, c, rfl, hcn, hm, _⟩ := id hn
  obtain ⟨A', c', rfl, hcl, hm', _⟩ := id hl
  unfold maxLen at hm hm'
  clear hn hl
  have v0 := B0.out.c0
  have v1 := B0.out.c1
  cases hw : winOkB ns ls
  all_goals
    have HW := hid hw
    go_enter Try.func57, Try.ntmps57
    go_wp2_with fail
    refine (iWin_any _ _ ns ls _ HN.out HL.out).mono ?_
    rintro e w1 ⟨rfl, hb⟩
    rw [HW.out]
    have B0 := hid (B0.out.below hb)
    have S0 := hid (then_ S0.out hb S0.out.size)
    have HN := hid (HN.out.below hb)
    have HL := hid (HL.out.below hb)
    have v0 := B0.out.c0
    have v1 := B0.out.c1
    have vlt := B0.out.lt
    clear hb
  · go_wp2
    go_ret
    exact ⟨ret_bool (by unfold isDart; rw [HW.out]; rfl), S0.out⟩
  · have hl20 := (win_leads hw).1
    clear hw
    go_wp2_with (go_at_call 72; refine (within_any _ _ _ _).mono ?_; rintro e w' ⟨rfl, rfl⟩)
    go_ret
    exact ⟨ret_bool (by unfold isDart; rw [HW.out]; rfl), S0.out⟩
theorem sHasDart_any (vn vl : Value) (ns ls : List (Int × Int)) (d : Int) (w : World) (hn : PairsAt w vn ns) (hl : PairsAt w vl ls) (hbig : ls.length ≤ 1048576) : Calls Try.prog 61 #[.agg #[vn, vl], .int .i64 d] w fun e w' => e = .returned (.bool (isDart ns ls d)) ∧ Below w.heap.size w w' := by
  have s0 : Below w.heap.size w (w.alloc (.cells #[vn, vl] 31)) := (Below.refl _ _).alloc (Nat.le_refl _) _
  have HN := hid (hn.below s0)
  have HL := hid (hl.below s0)
  have B0 := hid (BoxV.new w vn vl 31 w.heap.size rfl)
  have S0 := hid s0
  clear s0
  obtain ⟨A, c, rfl, hcn, hm, _⟩ := id hn
  obtain ⟨A', c', rfl, hcl, hm', _⟩ := id hl
  unfold maxLen at hm hm'
  clear hn hl
  have v0 := B0.out.c0
  have v1 := B0.out.c1
  cases hi : inB d 0 (2 * (ls.length : Int) - 1)
  · have HI := hid hi
    go_enter Try.func61, Try.ntmps61
    go_wp2_with (go_at_call 73; refine (l01In_any _ _ _ _).mono ?_; rintro e w' ⟨rfl, rfl⟩)
    go_ret
    exact ⟨ret_bool (by unfold isDart; rw [HI.out]; simp), S0.out⟩
  · have HI := hid hi
    go_enter Try.func61, Try.ntmps61
    go_wp2_with (go_at_call 73; refine (l01In_any _ _ _ _).mono ?_; rintro e w' ⟨rfl, rfl⟩)
    refine (sWin_any _ _ ns ls _ HN.out HL.out).mono ?_
    rintro e w1 ⟨rfl, hb⟩
    go_wp2
    go_ret
    exact ⟨ret_bool (by unfold isDart; rw [HI.out]; simp), then_ S0.out hb S0.out.size⟩
theorem iDartFrom0 (vn vl : Value) (ns ls : List (Int × Int)) (d : Int) (w : World) (hn : PairsAt w vn ns) (hl : PairsAt w vl ls) (h0 : 0 ≤ d) (h9 : d < 2 * (ls.length : Int)) (h39 : d ≤ 39) : Calls Try.prog 82 #[.agg #[vn, vl], .int .i64 d] w fun e w' => e = .returned (.int .i64 (dFrom ls d)) ∧ Below w.heap.size w w' := by
  have s0 : Below w.heap.size w (w.alloc (.cells #[vn, vl] 31)) := (Below.refl _ _).alloc (Nat.le_refl _) _
  have HN := hid (hn.below s0)
  have HL := hid (hl.below s0)
  have B0 := hid (BoxV.new w vn vl 31 w.heap.size rfl)
  have S0 := hid s0
  clear s0
  obtain ⟨A, c, rfl, hcn, hm, _⟩ := id hn
  obtain ⟨A', c', rfl, hcl, hm', _⟩ := id hl
  unfold maxLen at hm hm'
  clear hn hl
  have v0 := B0.out.c0
  have v1 := B0.out.c1
  obtain ⟨⟨f, t⟩, hft⟩ : ∃ p, ls[(d / 2).toNat]? = some p := ⟨_, List.getElem?_eq_getElem (by omega)⟩
  obtain ⟨b1, off, rfl, hbb, h1, h2⟩ := HL.out.at_ hft
  have P := hid (ptN_of hft)
  clear hft
  have hd2 : 0 ≤ d / 2 := by omega
  have hd3 : d / 2 < (ls.length : Int) := by omega
  by_cases e : d % 2 = 0
  · have e' : (d % 2 == 0) = true := by simp [e]
    have E := hid e
    clear e
    go_enter Try.func82, Try.ntmps82
    go_wp2
    go_ret
    exact ⟨ret_int (by unfold dFrom; rw [if_pos E.out, P.out]), S0.out⟩
  · have e' : (d % 2 == 0) = false := by simp [e]
    have E := hid e
    clear e
    go_enter Try.func82, Try.ntmps82
    go_wp2
    go_ret
    exact ⟨ret_int (by unfold dFrom; rw [if_neg E.out, P.out]), S0.out⟩
theorem sEnds (vn vl : Value) (ns ls : List (Int × Int)) (d : Int) (w : World) (hn : PairsAt w vn ns) (hl : PairsAt w vl ls) (h0 : 0 ≤ d) (h9 : d < 2 * (ls.length : Int)) (h39 : d ≤ 39) : Calls Try.prog 69 #[.agg #[vn, vl], .int .i64 d] w fun e w' => e = .returned (.tuple #[.int .i64 (dFrom ls d), .int .i64 (dTo ls d)]) ∧ Below w.heap.size w w' := by
  have s0 : Below w.heap.size w (w.alloc (.cells #[vn, vl] 31)) := (Below.refl _ _).alloc (Nat.le_refl _) _
  have HN := hid (hn.below s0)
  have HL := hid (hl.below s0)
  have B0 := hid (BoxV.new w vn vl 31 w.heap.size rfl)
  have S0 := hid s0
  clear s0
  obtain ⟨A, c, rfl, hcn, hm, _⟩ := id hn
  obtain ⟨A', c', rfl, hcl, hm', _⟩ := id hl
  unfold maxLen at hm hm'
  clear hn hl
  have v0 := B0.out.c0
  have v1 := B0.out.c1
  obtain ⟨⟨f, t⟩, hft⟩ : ∃ p, ls[(d / 2).toNat]? = some p := ⟨_, List.getElem?_eq_getElem (by omega)⟩
  obtain ⟨b1, off, rfl, hbb, h1, h2⟩ := HL.out.at_ hft
  have P := hid (ptN_of hft)
  clear hft
  have hd2 : 0 ≤ d / 2 := by omega
  have hd3 : d / 2 < (ls.length : Int) := by omega
  have HT := hid (And.intro h1 h2)
  by_cases e : d % 2 = 1
  · have e' : (d % 2 == 1) = true := by simp [e]
    have E := hid (show ¬ d % 2 = 0 by omega)
    clear e
    go_enter Try.func69, Try.ntmps69
    go_wp2_with fail
    have X := hid (Box2.new (w.alloc (.cells #[.slice A ns.length c, .slice (some ⟨b1, off, none⟩) ls.length c'] 31)) f t 73 (w.heap.size + 1) (by simp))
    have m0 := fun p => (X.out.mv p).c0
    have m1 := fun p => (X.out.mv p).c1
    have zz := S0.out.size
    refine wp_region_mv (by kernel_rfl) (by kernel_rfl) ?_
    repeat (go_big_quiet_step (fail))
    refine wpQuiet_nil ?_
    intro _ hw'
    obtain ⟨q, hw''⟩ := hw'
    subst hw''
    go_wp2
    go_ret2
    have e1 : dFrom ls d = t := by unfold dFrom; rw [if_neg E.out, P.out]
    have e2 : dTo ls d = f := by unfold dTo; rw [if_neg E.out, P.out]
    rw [e1, e2]
    exact ⟨rfl, then_ (S0.out.alloc zz _) (below_mv _ q) (by simp; omega)⟩
  · have e' : (d % 2 == 1) = false := by simp [e]
    have E := hid (show d % 2 = 0 by omega)
    clear e
    go_enter Try.func69, Try.ntmps69
    go_wp2_with fail
    have X := hid (Box2.new (w.alloc (.cells #[.slice A ns.length c, .slice (some ⟨b1, off, none⟩) ls.length c'] 31)) f t 73 (w.heap.size + 1) (by simp))
    have m0 := fun p => (X.out.mv p).c0
    have m1 := fun p => (X.out.mv p).c1
    have zz := S0.out.size
    refine wp_region_mv (by kernel_rfl) (by kernel_rfl) ?_
    repeat (go_big_quiet_step (fail))
    refine wpQuiet_nil ?_
    intro _ hw'
    obtain ⟨q, hw''⟩ := hw'
    subst hw''
    go_wp2
    go_ret2
    have e1 : dFrom ls d = f := by unfold dFrom; rw [if_pos E.out, P.out]
    have e2 : dTo ls d = t := by unfold dTo; rw [if_pos E.out, P.out]
    rw [e1, e2]
    exact ⟨rfl, then_ (S0.out.alloc zz _) (below_mv _ q) (by simp; omega)⟩
theorem sDF_any (vn vl : Value) (ns ls : List (Int × Int)) (d : Int) (w : World) (hn : PairsAt w vn ns) (hl : PairsAt w vl ls) (hbig : ls.length ≤ 1048576) : Calls Try.prog 33 #[.agg #[vn, vl], .int .i64 d] w fun e w' => e = .returned (.int .i64 (dfF ns ls d)) ∧ Below w.heap.size w w' := by
  have s0 : Below w.heap.size w (w.alloc (.cells #[vn, vl] 31)) := (Below.refl _ _).alloc (Nat.le_refl _) _
  have HN := hid (hn.below s0)
  have HL := hid (hl.below s0)
  have B0 := hid (BoxV.new w vn vl 31 w.heap.size rfl)
  have S0 := hid s0
  clear s0
  obtain ⟨A, c, rfl, hcn, hm, _⟩ := id hn
  obtain ⟨A', c', rfl, hcl, hm', _⟩ := id hl
  unfold maxLen at hm hm'
  clear hn hl
  have v0 := B0.out.c0
  have v1 := B0.out.c1
  cases hd : isDart ns ls d
  all_goals
    have HD := hid hd
    go_enter Try.func33, Try.ntmps33
    go_wp2_with fail
    refine (sHasDart_any _ _ ns ls _ _ HN.out HL.out hbig).mono ?_
    rintro e w1 ⟨rfl, hb⟩
    rw [HD.out]
    have B0 := hid (B0.out.below hb)
    have S0 := hid (then_ S0.out hb S0.out.size)
    have HN := hid (HN.out.below hb)
    have HL := hid (HL.out.below hb)
    have v0 := B0.out.c0
    have v1 := B0.out.c1
    have vlt := B0.out.lt
    clear hb
  · go_wp2
    go_ret
    exact ⟨ret_int (by unfold dfF; rw [HD.out]; rfl), S0.out⟩
  · have hbd := dart_bd hd
    have HB := hid hbd
    clear hd hbd
    go_wp2_with fail
    refine (sEnds _ _ ns ls _ _ HN.out HL.out HB.out.1 HB.out.2.1 HB.out.2.2).mono ?_
    rintro e w2 ⟨rfl, hb⟩
    go_wp2
    go_ret
    exact ⟨ret_int (by unfold dfF; rw [HD.out]; rfl), then_ S0.out hb S0.out.size⟩
theorem sDT_any (vn vl : Value) (ns ls : List (Int × Int)) (d : Int) (w : World) (hn : PairsAt w vn ns) (hl : PairsAt w vl ls) (hbig : ls.length ≤ 1048576) : Calls Try.prog 32 #[.agg #[vn, vl], .int .i64 d] w fun e w' => e = .returned (.int .i64 (dtF ns ls d)) ∧ Below w.heap.size w w' := by
  have s0 : Below w.heap.size w (w.alloc (.cells #[vn, vl] 31)) := (Below.refl _ _).alloc (Nat.le_refl _) _
  have HN := hid (hn.below s0)
  have HL := hid (hl.below s0)
  have B0 := hid (BoxV.new w vn vl 31 w.heap.size rfl)
  have S0 := hid s0
  clear s0
  obtain ⟨A, c, rfl, hcn, hm, _⟩ := id hn
  obtain ⟨A', c', rfl, hcl, hm', _⟩ := id hl
  unfold maxLen at hm hm'
  clear hn hl
  have v0 := B0.out.c0
  have v1 := B0.out.c1
  cases hd : isDart ns ls d
  all_goals
    have HD := hid hd
    go_enter Try.func32, Try.ntmps32
    go_wp2_with fail
    refine (sHasDart_any _ _ ns ls _ _ HN.out HL.out hbig).mono ?_
    rintro e w1 ⟨rfl, hb⟩
    rw [HD.out]
    have B0 := hid (B0.out.below hb)
    have S0 := hid (then_ S0.out hb S0.out.size)
    have HN := hid (HN.out.below hb)
    have HL := hid (HL.out.below hb)
    have v0 := B0.out.c0
    have v1 := B0.out.c1
    have vlt := B0.out.lt
    clear hb
  · go_wp2
    go_ret
    exact ⟨ret_int (by unfold dtF; rw [HD.out]; rfl), S0.out⟩
  · have hbd := dart_bd hd
    have HB := hid hbd
    clear hd hbd
    go_wp2_with fail
    refine (sEnds _ _ ns ls _ _ HN.out HL.out HB.out.1 HB.out.2.1 HB.out.2.2).mono ?_
    rintro e w2 ⟨rfl, hb⟩
    go_wp2
    go_ret
    exact ⟨ret_int (by unfold dtF; rw [HD.out]; rfl), then_ S0.out hb S0.out.size⟩
end Go.Proofs.Ytdhppajfdcfikaa
