/- The next dart along a face: NextDart in the program and in the reference. No condition. -/
import Derived.Test.YtmkgdilabpehlaaStep
namespace Go.Proofs.Ytmkgdilabpehlaa
open Go.ChangeShapes Go.WideShapes Go.ChangeAt Go.RowKit
set_option maxHeartbeats 2000000
set_option linter.unusedSimpArgs false
set_option linter.unusedVariables false
/-- the other dart of the same lead -/
def twN (d : Nat) : Nat := if d % 2 = 0 then d + 1 else d - 1
theorem twN_lt {d n : Nat} (h : d < 2 * n) : twN d < 2 * n := by unfold twN; split <;> omega
theorem xor_twN (d : Nat) (h : d ≤ 100) : bits .xor .i64 (d : Int) 1 = ((twN d : Nat) : Int) := by
  rw [xor_one _ (by omega) (by omega)]
  unfold twN
  by_cases e : d % 2 = 0
  · rw [if_pos (by omega), if_pos e]; rfl
  · rw [if_neg (by omega), if_neg e]; omega
/-- the dart after d along the face on its left -/
def nxF (ns ls : List (Int × Int)) (d : Nat) : Int := besF ns ls ((twN d : Nat) : Int) false
def ndF (ns ls : List (Int × Int)) (d : Int) : Int := if isDart ns ls d = true then nxF ns ls d.toNat else -1
theorem by_false : byI false = -1 := rfl
theorem l06Next_any (vn vl : Value) (ns ls : List (Int × Int)) (d : Nat) (w : World) (hn : PairsAt w vn ns) (hl : PairsAt w vl ls) (hok : winOkB ns ls = true) (hd : d < 2 * ls.length) : Calls Try.prog 70 #[.agg #[vn, vl], .int .i64 (d : Int)] w fun e w' => e = .returned (.int .i64 (nxF ns ls d)) ∧ Below w.heap.size w w' := by
  have s0 : Below w.heap.size w (w.alloc (.cells #[vn, vl] 31)) := (Below.refl _ _).alloc (Nat.le_refl _) _
  have HN := hid (hn.below s0)
  have HL := hid (hl.below s0)
  have B0 := hid (BoxV.new w vn vl 31 w.heap.size rfl)
  have S0 := hid s0
  clear s0
  obtain ⟨A, c, rfl, hcn, hm, _⟩ := id hn
  obtain ⟨A', c', rfl, hcl, hm', _⟩ := id hl
  unfold maxLen at hm hm'
  clear hn hl
  have v0 := B0.out.c0
  have v1 := B0.out.c1
  have hl20 := win_leads hok
  have HOK := hid hok
  have hx := xor_twN d (by omega)
  have hlt := twN_lt hd
  have C := hid (fun W h1 h2 => sStep_any (.slice A ns.length c) (.slice A' ls.length c') ns ls (twN d) false W h1 h2 HOK.out hlt)
  rw [by_false] at C
  have E := hid (show besF ns ls ((twN d : Nat) : Int) false = nxF ns ls d from rfl)
  generalize twN d = t at hx C E
  clear hok hlt
  go_enter Try.func70, Try.ntmps70
  go_wp2_with fail
  refine (C.out _ HN.out HL.out).mono ?_
  rintro e w1 ⟨rfl, hb⟩
  go_wp2
  go_ret
  exact ⟨ret_int (by rw [E.out]), then_ S0.out hb S0.out.size⟩
theorem iND_any (vn vl : Value) (ns ls : List (Int × Int)) (d : Int) (w : World) (hn : PairsAt w vn ns) (hl : PairsAt w vl ls) (hbig : ls.length ≤ 1048576) : Calls Try.prog 33 #[.agg #[vn, vl], .int .i64 d] w fun e w' => e = .returned (.int .i64 (ndF ns ls d)) ∧ Below w.heap.size w w' := by
  have s0 : Below w.heap.size w (w.alloc (.cells #[vn, vl] 31)) := (Below.refl _ _).alloc (Nat.le_refl _) _
  have HN := hid (hn.below s0)
  have HL := hid (hl.below s0)
  have B0 := hid (BoxV.new w vn vl 31 w.heap.size rfl)
  have S0 := hid s0
  clear s0
  obtain ⟨A, c, rfl, hcn, hm, _⟩ := id hn
  obtain ⟨A', c', rfl, hcl, hm', _⟩ := id hl
  unfold maxLen at hm hm'
  clear hn hl
  have v0 := B0.out.c0
  have v1 := B0.out.c1
  cases hd : isDart ns ls d
  · have HD := hid hd
    clear hd
    go_enter Try.func33, Try.ntmps33
    go_wp2_with fail
    refine (iHasDart_any _ _ ns ls _ _ HN.out HL.out).mono ?_
    rintro e w1 ⟨rfl, hb⟩
    rw [HD.out]
    go_wp2
    go_ret
    exact ⟨ret_int (by unfold ndF; rw [HD.out]; rfl), then_ S0.out hb S0.out.size⟩
  · have HD := hid hd
    obtain ⟨hok, n, rfl, hnl⟩ := dart_nat hd
    have HOK := hid hok
    have HNL := hid hnl
    have hl20 := win_leads hok
    have hx := xor_twN n (by omega)
    have hlt := twN_lt hnl
    have C := hid (fun W h1 h2 => iBeside_any (.slice A ns.length c) (.slice A' ls.length c') ns ls (twN n) false W h1 h2 HOK.out hlt)
    rw [by_false] at C
    have E := hid (show besF ns ls ((twN n : Nat) : Int) false = ndF ns ls (n : Int) by unfold ndF; rw [hd, if_pos rfl]; rfl)
    generalize twN n = t at hx C E
    clear hd hok hlt hnl
    go_enter Try.func33, Try.ntmps33
    go_wp2_with fail
    refine (iHasDart_any _ _ ns ls _ _ HN.out HL.out).mono ?_
    rintro e w1 ⟨rfl, hb⟩
    rw [HD.out]
    have B0 := hid (B0.out.below hb)
    have S0 := hid (then_ S0.out hb S0.out.size)
    have HN := hid (HN.out.below hb)
    have HL := hid (HL.out.below hb)
    clear v0 v1
    have v0 := B0.out.c0
    have v1 := B0.out.c1
    have vlt := B0.out.lt
    clear hb
    go_wp2_with fail
    refine (C.out _ HN.out HL.out).mono ?_
    rintro e w2 ⟨rfl, hb⟩
    go_wp2
    go_ret
    exact ⟨ret_int (by rw [E.out]), then_ S0.out hb S0.out.size⟩
theorem sND_any (vn vl : Value) (ns ls : List (Int × Int)) (d : Int) (w : World) (hn : PairsAt w vn ns) (hl : PairsAt w vl ls) (hbig : ls.length ≤ 1048576) : Calls Try.prog 32 #[.agg #[vn, vl], .int .i64 d] w fun e w' => e = .returned (.int .i64 (ndF ns ls d)) ∧ Below w.heap.size w w' := by
  have s0 : Below w.heap.size w (w.alloc (.cells #[vn, vl] 31)) := (Below.refl _ _).alloc (Nat.le_refl _) _
  have HN := hid (hn.below s0)
  have HL := hid (hl.below s0)
  have B0 := hid (BoxV.new w vn vl 31 w.heap.size rfl)
  have S0 := hid s0
  clear s0
  obtain ⟨A, c, rfl, hcn, hm, _⟩ := id hn
  obtain ⟨A', c', rfl, hcl, hm', _⟩ := id hl
  unfold maxLen at hm hm'
  clear hn hl
  have v0 := B0.out.c0
  have v1 := B0.out.c1
  cases hd : isDart ns ls d
  · have HD := hid hd
    clear hd
    go_enter Try.func32, Try.ntmps32
    go_wp2_with fail
    refine (sHasDart_any _ _ ns ls _ _ HN.out HL.out hbig).mono ?_
    rintro e w1 ⟨rfl, hb⟩
    rw [HD.out]
    go_wp2
    go_ret
    exact ⟨ret_int (by unfold ndF; rw [HD.out]; rfl), then_ S0.out hb S0.out.size⟩
  · have HD := hid hd
    obtain ⟨hok, n, rfl, hnl⟩ := dart_nat hd
    have HOK := hid hok
    have HNL := hid hnl
    have hl20 := win_leads hok
    have E := hid (show nxF ns ls n = ndF ns ls (n : Int) by unfold ndF; rw [hd, if_pos rfl]; rfl)
    clear hd hok hnl
    go_enter Try.func32, Try.ntmps32
    go_wp2_with fail
    refine (sHasDart_any _ _ ns ls _ _ HN.out HL.out hbig).mono ?_
    rintro e w1 ⟨rfl, hb⟩
    rw [HD.out]
    have B0 := hid (B0.out.below hb)
    have S0 := hid (then_ S0.out hb S0.out.size)
    have HN := hid (HN.out.below hb)
    have HL := hid (HL.out.below hb)
    clear v0 v1
    have v0 := B0.out.c0
    have v1 := B0.out.c1
    have vlt := B0.out.lt
    clear hb
    go_wp2_with fail
    refine (l06Next_any _ _ ns ls n _ HN.out HL.out HOK.out HNL.out).mono ?_
    rintro e w2 ⟨rfl, hb⟩
    go_wp2
    go_ret
    exact ⟨ret_int (by rw [E.out]), then_ S0.out hb S0.out.size⟩
end Go.Proofs.Ytmkgdilabpehlaa
