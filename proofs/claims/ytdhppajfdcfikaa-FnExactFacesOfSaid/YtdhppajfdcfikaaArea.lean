/- The area of a row of darts of a valid window, in the program and in the reference. No condition but that the window is valid and the darts are its own. -/
import Derived.Test.YtdhppajfdcfikaaWalkP
import Derived.Test.YtdhppajfdcfikaaCmp
import Derived.Test.YtdhppajfdcfikaaHeldM
namespace Go.Proofs.Ytdhppajfdcfikaa
open Go.ChangeShapes Go.WideShapes Go.ChangeAt Go.RowKit
set_option maxHeartbeats 4000000
set_option linter.unusedSimpArgs false
set_option linter.unusedVariables false
/-- twice the area to the left of a dart, as seen from (0, 0) -/
def crossD (ns ls : List (Int × Int)) (d : Int) : Int := (ptN ns (dFrom ls d).toNat).1 * (ptN ns (dTo ls d).toNat).2 - (ptN ns (dFrom ls d).toNat).2 * (ptN ns (dTo ls d).toNat).1
def areaL (ns ls : List (Int × Int)) (l : List Int) : Int := (l.map (crossD ns ls)).sum
theorem areaL_succ (ns ls : List (Int × Int)) (l : List Int) (i : Nat) (x : Int) (h : l[i]? = some x) : areaL ns ls (l.take (i + 1)) = areaL ns ls (l.take i) + crossD ns ls x := by
  unfold areaL; rw [List.take_add_one, h]; simp
theorem WinFacts.box {ns ls : List (Int × Int)} (h : WinFacts ns ls) {i : Nat} {x y : Int} (hi : ns[i]? = some (x, y)) : 0 ≤ x ∧ x ≤ 20 ∧ 0 ≤ y ∧ y ≤ 20 := by
  have hl : i < ns.length := by
    rcases Nat.lt_or_ge i ns.length with h' | h'
    · exact h'
    · rw [List.getElem?_eq_none h'] at hi; cases hi
  have := h.okN hl
  rw [ptN_of hi] at this
  simp only [nodeOkB, inB, Bool.and_eq_true, decide_eq_true_iff] at this
  omega
theorem WinFacts.cross_bd {ns ls : List (Int × Int)} (h : WinFacts ns ls) {d : Nat} (hd : d < 2 * ls.length) : -400 ≤ crossD ns ls (d : Int) ∧ crossD ns ls (d : Int) ≤ 400 := by
  obtain ⟨a, b, ea, eb, la, lb, _⟩ := h.ends hd
  obtain ⟨x0, y0, f0⟩ : ∃ x y, ns[a]? = some (x, y) := ⟨_, _, List.getElem?_eq_getElem la⟩
  obtain ⟨x1, y1, f1⟩ : ∃ x y, ns[b]? = some (x, y) := ⟨_, _, List.getElem?_eq_getElem lb⟩
  have b0 := h.box f0
  have b1 := h.box f1
  unfold crossD
  rw [ea, eb]
  simp only [Int.toNat_natCast]
  rw [ptN_of f0, ptN_of f1]
  have p1 : 0 ≤ x0 * y1 := Int.mul_nonneg b0.1 b1.2.2.1
  have p2 : 0 ≤ y0 * x1 := Int.mul_nonneg b0.2.2.1 b1.1
  have p3 : x0 * y1 ≤ 20 * 20 := Int.mul_le_mul b0.2.1 b1.2.2.2 b1.2.2.1 (by omega)
  have p4 : y0 * x1 ≤ 20 * 20 := Int.mul_le_mul b0.2.2.2 b1.2.1 b1.1 (by omega)
  show -400 ≤ x0 * y1 - y0 * x1 ∧ x0 * y1 - y0 * x1 ≤ 400
  omega
theorem IntsAt.at_ {w : World} {A : Option Addr} {n c : Nat} {xs : List Int} {k : Nat} {x : Int} (h : IntsAt w (.slice A n c) xs) (hk : xs[k]? = some x) : ∃ b off, A = some ⟨b, off, none⟩ ∧ b < w.heap.size ∧ w.cell? ⟨b, off + k, none⟩ = some (.int .i64 x) := by
  obtain ⟨A', c', e, _, h3⟩ := h
  injection e with eA _ _
  subst eA
  exact h3 k x hk
theorem nbox_ext {w w' : World} {g : Nat} {x y : Int} (h : Up.NBox w g x y) (hb : Below w.heap.size w w') : Up.NBox w' g x y := by
  have lt := h.lt
  unfold Up.NBox at *; rw [hb.block g lt]; exact h
theorem wr2_ext {B : Nat} {w0 w : World} {g : Nat} (h : Below B w0 w) (hg : B ≤ g) (x y : Int) : Below B w0 (Up.wr2 w g x y) := (h.setCell (p := ⟨g, 0, none⟩) hg _).setCell (p := ⟨g, 1, none⟩) hg _
/-- the darts of a row are the window's -/
def Darts (ls : List (Int × Int)) (l : List Int) : Prop := l.length ≤ 2 * ls.length ∧ ∀ (i : Nat) (x : Int), l[i]? = some x → ∃ m : Nat, x = (m : Int) ∧ m < 2 * ls.length
theorem WinFacts.area_bd {ns ls : List (Int × Int)} (h : WinFacts ns ls) {l : List Int} (hl : Darts ls l) : ∀ i, i ≤ l.length → -(400 * (i : Int)) ≤ areaL ns ls (l.take i) ∧ areaL ns ls (l.take i) ≤ 400 * (i : Int)
  | 0, _ => by simp [areaL]
  | i + 1, hi => by
    have ih := h.area_bd hl i (by omega)
    obtain ⟨x, hx⟩ : ∃ x, l[i]? = some x := ⟨_, List.getElem?_eq_getElem (by omega)⟩
    rw [areaL_succ _ _ _ _ _ hx]
    obtain ⟨m, rfl, hm⟩ := hl.2 i x hx
    have := h.cross_bd hm
    omega
theorem sArea_any (vn vl : Value) (ns ls : List (Int × Int)) (v : Value) (l : List Int) (w : World) (hn : PairsAt w vn ns) (hl : PairsAt w vl ls) (hok : winOkB ns ls = true) (hv : IntsAt w v l) (hd : Darts ls l) : Calls Try.prog 59 #[.agg #[vn, vl], v] w fun e w' => e = .returned (.int .i64 (areaL ns ls l)) ∧ Below w.heap.size w w' := by
  have s0 : Below w.heap.size w (w.alloc (.cells #[vn, vl] 31)) := (Below.refl _ _).alloc (Nat.le_refl _) _
  have HV := hid (hv.below s0)
  clear s0
  have s0 : Below w.heap.size w (w.alloc (.cells #[vn, vl] 31)) := (Below.refl _ _).alloc (Nat.le_refl _) _
  have HN := hid (hn.below s0)
  have HL := hid (hl.below s0)
  have B0 := hid (BoxV.new w vn vl 31 w.heap.size rfl)
  have S0 := hid s0
  clear s0
  obtain ⟨A, c, rfl, hcn, hm, _⟩ := id hn
  obtain ⟨A', c', rfl, hcl, hm', _⟩ := id hl
  unfold maxLen at hm hm'
  clear hn hl
  have v0 := B0.out.c0
  have v1 := B0.out.c1
  have WF := hid (win_facts hok)
  have hl20 := WF.out.m2
  have hn12 := WF.out.n2
  have HD := hid hd
  have hd40 := hd.1
  clear hok hd
  obtain ⟨A2, c2, rfl, hm2, _⟩ := id hv
  clear hv
  have WW : Hid (∀ wr, Below (w.heap.size + 1) (w.alloc (.cells #[.slice A ns.length c, .slice A' ls.length c'] 31)) wr → BoxV wr w.heap.size (.slice A ns.length c) (.slice A' ls.length c') ∧ PairsAt wr (.slice A ns.length c) ns ∧ PairsAt wr (.slice A' ls.length c') ls ∧ IntsAt wr (.slice A2 l.length c2) l ∧ w.heap.size + 1 ≤ wr.heap.size) := hid (fun wr h => by
    have h' : Below (w.alloc (.cells #[.slice A ns.length c, .slice A' ls.length c'] 31)).heap.size (w.alloc (.cells #[.slice A ns.length c, .slice A' ls.length c'] 31)) wr := by simpa using h
    exact ⟨B0.out.below h', HN.out.below h', HL.out.below h', HV.out.below h', by have := h'.size; simpa using this⟩)
  have V0 : Hid (Below (w.heap.size + 1) (w.alloc (.cells #[.slice A ns.length c, .slice A' ls.length c'] 31)) (w.alloc (.cells #[.slice A ns.length c, .slice A' ls.length c'] 31))) := hid (Below.refl _ _)
  go_enter Try.func59, Try.ntmps59
  go_wp2_with fail
  go_loopw [5, 6] (fun s j wr => ∃ i : Nat, i ≤ l.length ∧ j = .int .i64 i ∧ s = .int .i64 (areaL ns ls (l.take i)) ∧ Hid (Below (w.heap.size + 1) (w.alloc (.cells #[.slice A ns.length c, .slice A' ls.length c'] 31)) wr)) (fun _ j _ => l.length - (intOf j).toNat)
  case atStart => exact ⟨0, Nat.zero_le _, rfl, by simp [areaL], V0⟩
  case round =>
    obtain ⟨i, hi, rfl, rfl, HB⟩ := hrel
    obtain ⟨bx, pn, px, pv, z1⟩ := WW.out _ HB.out
    clear v0 v1
    have v0 := bx.c0
    have v1 := bx.c1
    have vlt := bx.lt
    have BX := hid bx
    have PN := hid pn
    have PL := hid px
    have PV := hid pv
    clear bx pn px pv
    by_cases hlt : i < l.length
    · obtain ⟨x, hx⟩ : ∃ x, l[i]? = some x := ⟨_, List.getElem?_eq_getElem hlt⟩
      obtain ⟨d, rfl, hd⟩ := HD.out.2 i x hx
      have AS := hid (areaL_succ ns ls l i (d : Int) hx)
      have AB := WF.out.area_bd HD.out i hi
      obtain ⟨b2, off2, rfl, hbb2, g1⟩ := PV.out.at_ hx
      obtain ⟨a, b, ea, eb, la, lb', hab⟩ := WF.out.ends hd
      obtain ⟨x0, y0, f0⟩ : ∃ x y, ns[a]? = some (x, y) := ⟨_, _, List.getElem?_eq_getElem la⟩
      obtain ⟨x1, y1, f1⟩ : ∃ x y, ns[b]? = some (x, y) := ⟨_, _, List.getElem?_eq_getElem lb'⟩
      have bd0 := WF.out.box f0
      have bd1 := WF.out.box f1
      have CR := hid (show crossD ns ls (d : Int) = x0 * y1 - y0 * x1 by unfold crossD; rw [ea, eb]; simp only [Int.toNat_natCast]; rw [ptN_of f0, ptN_of f1])
      have p1 : 0 ≤ x0 * y1 := Int.mul_nonneg bd0.1 bd1.2.2.1
      have p2 : 0 ≤ y0 * x1 := Int.mul_nonneg bd0.2.2.1 bd1.1
      have p3 : x0 * y1 ≤ 20 * 20 := Int.mul_le_mul bd0.2.1 bd1.2.2.2 bd1.2.2.1 (by omega)
      have p4 : y0 * x1 ≤ 20 * 20 := Int.mul_le_mul bd0.2.2.2 bd1.2.1 bd1.1 (by omega)
      have m1 : IntKind.i64.wrap (x0 * y1) = x0 * y1 := IntWalk.i64_in _ (by omega)
      have m2 : IntKind.i64.wrap (y0 * x1) = y0 * x1 := IntWalk.i64_in _ (by omega)
      obtain ⟨b1, off, rfl, hbb, h1, h2⟩ := PN.out.at_ f0
      obtain ⟨b', off', e', hbb', h3, h4⟩ := PN.out.at_ f1
      obtain ⟨rfl, rfl⟩ : b1 = b' ∧ off = off' := by simpa using e'
      clear e' hbb' hab
      have hd0 : (0 : Int) ≤ (d : Int) := by omega
      have hd1 : (d : Int) < 2 * (ls.length : Int) := by omega
      have hi0 : (0 : Int) ≤ (i : Int) := by omega
      have hi1 : (i : Int) < (l.length : Int) := by omega
      have ha0 : (0 : Int) ≤ (a : Int) := by omega
      have ha1 : (a : Int) < (ns.length : Int) := by omega
      have hb0 : (0 : Int) ≤ (b : Int) := by omega
      have hb1 : (b : Int) < (ns.length : Int) := by omega
      have q3 : IntKind.i64.wrap (areaL ns ls (l.take i) + x0 * y1) = areaL ns ls (l.take i) + x0 * y1 := IntWalk.i64_in _ (by omega)
      have q4 : IntKind.i64.wrap (areaL ns ls (l.take i) + x0 * y1 - y0 * x1) = areaL ns ls (l.take i) + x0 * y1 - y0 * x1 := IntWalk.i64_in _ (by omega)
      have RES := hid (show areaL ns ls (l.take i) + x0 * y1 - y0 * x1 = areaL ns ls (l.take (i + 1)) by rw [AS.out, CR.out]; omega)
      have CE := hid (fun q => sEnds _ _ ns ls d (mv wr q) (PN.out.below (below_mv wr q)) (PL.out.below (below_mv wr q)) hd0 hd1 (by omega))
      rw [ea, eb] at CE
      clear ea eb p1 p2 p3 p4 bd0 bd1 AB f0 f1 hx
      generalize areaL ns ls (l.take i) = s at q3 q4 RES ⊢
      have WR := hid (show wrap64 (wrap64 (s + wrap64 (x0 * y1)) - wrap64 (y0 * x1)) = s + x0 * y1 - y0 * x1 by
        have e1 : wrap64 (x0 * y1) = x0 * y1 := by unfold wrap64; exact (IntKind.wrap_i64 _).symm.trans m1
        have e2 : wrap64 (y0 * x1) = y0 * x1 := by unfold wrap64; exact (IntKind.wrap_i64 _).symm.trans m2
        have e3 : wrap64 (s + x0 * y1) = s + x0 * y1 := by unfold wrap64; exact (IntKind.wrap_i64 _).symm.trans q3
        have e4 : wrap64 (s + x0 * y1 - y0 * x1) = s + x0 * y1 - y0 * x1 := by unfold wrap64; exact (IntKind.wrap_i64 _).symm.trans q4
        rw [e1, e2, e3, e4])
      clear m1 m2 q3 q4
      have n0 := fun q => (BX.out.mv q).c0
      have n1 := fun q => (BX.out.mv q).c1
      have n2 := fun q => cell_mv hbb2 g1 q
      go_wp2_with fail
      refine wp_region_mv (by kernel_rfl) (by kernel_rfl) ?_
      repeat (go_big_quiet_step ((go_at_call 69; exact calls_mv (CE.out _))))
      refine wpQuiet_nil ?_
      intro _ hw'
      obtain ⟨q, hw''⟩ := hw'
      subst hw''
      clear n0 n1 n2 CE
      have BX2 := hid (BX.out.mv q)
      have k1 := cell_mv hbb h1 q
      have k2 := cell_mv hbb h2 q
      have k3 := cell_mv hbb h3 q
      have k4 := cell_mv hbb h4 q
      have hbb3 : b1 < (mv wr q).heap.size := by rw [size_mv]; omega
      have HB2 := hid (HB.out.trans ((below_mv wr q).mono z1))
      clear h1 h2 h3 h4 v0 v1 vlt BX HB
      generalize mv wr q = w3 at k1 k2 k3 k4 hbb3 BX2 HB2 ⊢
      have n0 := fun q => (BX2.out.mv q).c0
      have n1 := fun q => (BX2.out.mv q).c1
      have j1 := fun q => cell_mv hbb3 k1 q
      have j2 := fun q => cell_mv hbb3 k2 q
      have j3 := fun q => cell_mv hbb3 k3 q
      have j4 := fun q => cell_mv hbb3 k4 q
      go_wp2_with fail
      refine wp_region_mv (by kernel_rfl) (by kernel_rfl) ?_
      repeat (go_big_quiet_step (fail))
      refine wpQuiet_nil ?_
      intro _ hw'
      obtain ⟨q, hw''⟩ := hw'
      subst hw''
      have z3 : w.heap.size + 1 ≤ w3.heap.size := by obtain ⟨_, _, _, _, z⟩ := WW.out _ HB2.out; exact z
      have HB3 := hid (HB2.out.trans ((below_mv w3 q).mono z3))
      clear n0 n1 j1 j2 j3 j4 k1 k2 k3 k4
      go_wp2
      go_roundw
      case rel => exact ⟨i + 1, by omega, by go_num, by rw [WR.out, RES.out], HB3⟩
      case measure => simp [intOf]; omega
    · have he : i = l.length := by omega
      subst he
      go_wp2
      go_ret
      exact ⟨ret_int (by rw [List.take_length]), then_ S0.out (by have := HB.out; simpa using this) S0.out.size⟩
theorem iArea_any (vn vl : Value) (ns ls : List (Int × Int)) (v : Value) (l : List Int) (w : World) (hn : PairsAt w vn ns) (hl : PairsAt w vl ls) (hok : winOkB ns ls = true) (hv : IntsAt w v l) (hd : Darts ls l) : Calls Try.prog 60 #[.agg #[vn, vl], v] w fun e w' => e = .returned (.int .i64 (areaL ns ls l)) ∧ Below w.heap.size w w' := by
  have s0 : Below w.heap.size w (w.alloc (.cells #[vn, vl] 31)) := (Below.refl _ _).alloc (Nat.le_refl _) _
  have HV := hid (hv.below s0)
  clear s0
  have s0 : Below w.heap.size w (w.alloc (.cells #[vn, vl] 31)) := (Below.refl _ _).alloc (Nat.le_refl _) _
  have HN := hid (hn.below s0)
  have HL := hid (hl.below s0)
  have B0 := hid (BoxV.new w vn vl 31 w.heap.size rfl)
  have S0 := hid s0
  clear s0
  obtain ⟨A, c, rfl, hcn, hm, _⟩ := id hn
  obtain ⟨A', c', rfl, hcl, hm', _⟩ := id hl
  unfold maxLen at hm hm'
  clear hn hl
  have v0 := B0.out.c0
  have v1 := B0.out.c1
  have WF := hid (win_facts hok)
  have hl20 := WF.out.m2
  have hn12 := WF.out.n2
  have HD := hid hd
  have hd40 := hd.1
  clear hok hd
  obtain ⟨A2, c2, rfl, hm2, _⟩ := id hv
  clear hv
  have WW : Hid (∀ wr, Below (w.heap.size + 1) (w.alloc (.cells #[.slice A ns.length c, .slice A' ls.length c'] 31)) wr → BoxV wr w.heap.size (.slice A ns.length c) (.slice A' ls.length c') ∧ PairsAt wr (.slice A ns.length c) ns ∧ PairsAt wr (.slice A' ls.length c') ls ∧ IntsAt wr (.slice A2 l.length c2) l ∧ w.heap.size + 1 ≤ wr.heap.size) := hid (fun wr h => by
    have h' : Below (w.alloc (.cells #[.slice A ns.length c, .slice A' ls.length c'] 31)).heap.size (w.alloc (.cells #[.slice A ns.length c, .slice A' ls.length c'] 31)) wr := by simpa using h
    exact ⟨B0.out.below h', HN.out.below h', HL.out.below h', HV.out.below h', by have := h'.size; simpa using this⟩)
  have V0 : Hid (Below (w.heap.size + 1) (w.alloc (.cells #[.slice A ns.length c, .slice A' ls.length c'] 31)) (w.alloc (.cells #[.slice A ns.length c, .slice A' ls.length c'] 31))) := hid (Below.refl _ _)
  go_enter Try.func60, Try.ntmps60
  go_wp2_with fail
  go_loopw [5, 12] (fun s j wr => ∃ i : Nat, i ≤ l.length ∧ j = .int .i64 i ∧ s = .int .i64 (areaL ns ls (l.take i)) ∧ Hid (Below (w.heap.size + 1) (w.alloc (.cells #[.slice A ns.length c, .slice A' ls.length c'] 31)) wr)) (fun _ j _ => l.length - (intOf j).toNat)
  case atStart => exact ⟨0, Nat.zero_le _, rfl, by simp [areaL], V0⟩
  case round =>
    obtain ⟨i, hi, rfl, rfl, HB⟩ := hrel
    obtain ⟨bx, pn, px, pv, z1⟩ := WW.out _ HB.out
    clear v0 v1
    have v0 := bx.c0
    have v1 := bx.c1
    have vlt := bx.lt
    have BX := hid bx
    have PN := hid pn
    have PL := hid px
    have PV := hid pv
    clear bx pn px pv
    by_cases hlt : i < l.length
    · obtain ⟨x, hx⟩ : ∃ x, l[i]? = some x := ⟨_, List.getElem?_eq_getElem hlt⟩
      obtain ⟨d, rfl, hd⟩ := HD.out.2 i x hx
      have AS := hid (areaL_succ ns ls l i (d : Int) hx)
      have AB := WF.out.area_bd HD.out i hi
      obtain ⟨b2, off2, rfl, hbb2, g1⟩ := PV.out.at_ hx
      obtain ⟨a, b, ea, eb, la, lb', hab⟩ := WF.out.ends hd
      obtain ⟨x0, y0, f0⟩ : ∃ x y, ns[a]? = some (x, y) := ⟨_, _, List.getElem?_eq_getElem la⟩
      obtain ⟨x1, y1, f1⟩ : ∃ x y, ns[b]? = some (x, y) := ⟨_, _, List.getElem?_eq_getElem lb'⟩
      have bd0 := WF.out.box f0
      have bd1 := WF.out.box f1
      have CR := hid (show crossD ns ls (d : Int) = x0 * y1 - y0 * x1 by unfold crossD; rw [ea, eb]; simp only [Int.toNat_natCast]; rw [ptN_of f0, ptN_of f1])
      have p1 : 0 ≤ x0 * y1 := Int.mul_nonneg bd0.1 bd1.2.2.1
      have p2 : 0 ≤ y0 * x1 := Int.mul_nonneg bd0.2.2.1 bd1.1
      have p3 : x0 * y1 ≤ 20 * 20 := Int.mul_le_mul bd0.2.1 bd1.2.2.2 bd1.2.2.1 (by omega)
      have p4 : y0 * x1 ≤ 20 * 20 := Int.mul_le_mul bd0.2.2.2 bd1.2.1 bd1.1 (by omega)
      have m1 : IntKind.i64.wrap (x0 * y1) = x0 * y1 := IntWalk.i64_in _ (by omega)
      have m2 : IntKind.i64.wrap (y0 * x1) = y0 * x1 := IntWalk.i64_in _ (by omega)
      obtain ⟨b1, off, rfl, hbb, h1, h2⟩ := PN.out.at_ f0
      obtain ⟨b', off', e', hbb', h3, h4⟩ := PN.out.at_ f1
      obtain ⟨rfl, rfl⟩ : b1 = b' ∧ off = off' := by simpa using e'
      clear e' hbb' hab
      have hd0 : (0 : Int) ≤ (d : Int) := by omega
      have hd1 : (d : Int) < 2 * (ls.length : Int) := by omega
      have hi0 : (0 : Int) ≤ (i : Int) := by omega
      have hi1 : (i : Int) < (l.length : Int) := by omega
      have ha0 : (0 : Int) ≤ (a : Int) := by omega
      have ha1 : (a : Int) < (ns.length : Int) := by omega
      have hb0 : (0 : Int) ≤ (b : Int) := by omega
      have hb1 : (b : Int) < (ns.length : Int) := by omega
      have q3 : IntKind.i64.wrap (x0 * y1 - y0 * x1) = x0 * y1 - y0 * x1 := IntWalk.i64_in _ (by omega)
      have q4 : IntKind.i64.wrap (areaL ns ls (l.take i) + (x0 * y1 - y0 * x1)) = areaL ns ls (l.take i) + (x0 * y1 - y0 * x1) := IntWalk.i64_in _ (by omega)
      have RES := hid (show areaL ns ls (l.take i) + (x0 * y1 - y0 * x1) = areaL ns ls (l.take (i + 1)) by rw [AS.out, CR.out])
      obtain ⟨xd, xd1, xd2, xd3, xd4, xd5⟩ := Up.xor_dart hd hl20
      have C1 := hid (fun W (h : Below wr.heap.size wr W) => iDartFrom0 _ _ ns ls d W (PN.out.below h) (PL.out.below h) hd0 hd1 (by omega))
      have C2 := hid (fun W (h : Below wr.heap.size wr W) => iDartFrom0 _ _ ns ls xd W (PN.out.below h) (PL.out.below h) xd2 xd3 xd4)
      rw [ea] at C1
      rw [xd5, eb] at C2
      have CELLS := hid (fun W (h : Below wr.heap.size wr W) => And.intro (BX.out.below h).c0 (And.intro (BX.out.below h).c1 (And.intro ((h.cell (p := ⟨b1, _, none⟩) hbb).trans h1) (And.intro ((h.cell (p := ⟨b1, _, none⟩) hbb).trans h2) (And.intro ((h.cell (p := ⟨b1, _, none⟩) hbb).trans h3) ((h.cell (p := ⟨b1, _, none⟩) hbb).trans h4))))))
      clear ea eb p1 p2 p3 p4 bd0 bd1 AB f0 f1 hx h1 h2 h3 h4
      generalize areaL ns ls (l.take i) = s at q4 RES ⊢
      generalize hP : x0 * y1 = P at m1 q3 q4 RES ⊢
      generalize hR : y0 * x1 = R at m2 q3 q4 RES ⊢
      have HP := hid hP
      have HR := hid hR
      rw [← hP] at m1
      rw [← hR] at m2
      clear hP hR
      go_wp2_with fail
      refine wm_start (S := fun W => Below wr.heap.size wr W) (by kernel_rfl) (Below.refl _ _).drew ?_
      refine wm_take (i := 0) (v := ?_) rfl (by kernel_rfl) (by kernel_rfl) (by kernel_rfl) (fun _ _ _ h => h) (by kernel_rfl) ?_ ?_
      rotate_left
      (focus (intro w hSw; obtain ⟨z0, z1, z2, z3, z4, z5⟩ := CELLS.out _ hSw; go_simp; try with_reducible rfl))
      simp only [Act.put, List.setIfInBounds_toArray, List.set_cons_zero, List.set_cons_succ, List.getElem_toArray, List.getElem_cons_succ, List.getElem_cons_zero, Nat.reduceAdd]
      refine wm_take (i := 1) (v := ?_) rfl (by kernel_rfl) (by kernel_rfl) (by kernel_rfl) (fun _ _ _ h => h) (by kernel_rfl) ?_ ?_
      rotate_left
      (focus (intro w hSw; obtain ⟨z0, z1, z2, z3, z4, z5⟩ := CELLS.out _ hSw; go_simp; try with_reducible rfl))
      simp only [Act.put, List.setIfInBounds_toArray, List.set_cons_zero, List.set_cons_succ, List.getElem_toArray, List.getElem_cons_succ, List.getElem_cons_zero, Nat.reduceAdd]
      refine wm_take (i := 2) (v := ?_) rfl (by kernel_rfl) (by kernel_rfl) (by kernel_rfl) (fun _ _ _ h => h) (by kernel_rfl) ?_ ?_
      rotate_left
      (focus (intro w hSw; obtain ⟨z0, z1, z2, z3, z4, z5⟩ := CELLS.out _ hSw; go_simp; try with_reducible rfl))
      simp only [Act.put, List.setIfInBounds_toArray, List.set_cons_zero, List.set_cons_succ, List.getElem_toArray, List.getElem_cons_succ, List.getElem_cons_zero, Nat.reduceAdd]
      refine wm_take (i := 3) (v := ?_) rfl (by kernel_rfl) (by kernel_rfl) (by kernel_rfl) (fun _ _ _ h => h) (by kernel_rfl) ?_ ?_
      rotate_left
      (focus (intro w hSw; obtain ⟨z0, z1, z2, z3, z4, z5⟩ := CELLS.out _ hSw; go_simp; try with_reducible rfl))
      simp only [Act.put, List.setIfInBounds_toArray, List.set_cons_zero, List.set_cons_succ, List.getElem_toArray, List.getElem_cons_succ, List.getElem_cons_zero, Nat.reduceAdd]
      refine wm_call (i := 4) (v := .int .i64 (a : Int)) (f := ?_) (args := ?_) rfl (by kernel_rfl) (by kernel_rfl) (by kernel_rfl) (fun _ _ _ h => h) (by kernel_rfl) ?_ ?_ ?_
      rotate_left 2
      (focus (intro w; go_simp; refine ⟨?_, ?_⟩ <;> with_reducible rfl))
      (focus (intro w hSw; refine (C1.out w hSw).mono ?_; rintro e w3 ⟨rfl, hb3⟩; exact ⟨rfl, hb3, then_ hSw hb3 hSw.size⟩))
      simp only [Act.put, List.setIfInBounds_toArray, List.set_cons_zero, List.set_cons_succ, List.getElem_toArray, List.getElem_cons_succ, List.getElem_cons_zero, Nat.reduceAdd]
      refine wm_take (i := 5) (v := ?_) rfl (by kernel_rfl) (by kernel_rfl) (by kernel_rfl) (fun _ _ _ h => h) (by kernel_rfl) ?_ ?_
      rotate_left
      (focus (intro w hSw; obtain ⟨z0, z1, z2, z3, z4, z5⟩ := CELLS.out _ hSw; go_simp; try with_reducible rfl))
      simp only [Act.put, List.setIfInBounds_toArray, List.set_cons_zero, List.set_cons_succ, List.getElem_toArray, List.getElem_cons_succ, List.getElem_cons_zero, Nat.reduceAdd]
      refine wm_take (i := 6) (v := ?_) rfl (by kernel_rfl) (by kernel_rfl) (by kernel_rfl) (fun _ _ _ h => h) (by kernel_rfl) ?_ ?_
      rotate_left
      (focus (intro w hSw; obtain ⟨z0, z1, z2, z3, z4, z5⟩ := CELLS.out _ hSw; go_simp; try with_reducible rfl))
      simp only [Act.put, List.setIfInBounds_toArray, List.set_cons_zero, List.set_cons_succ, List.getElem_toArray, List.getElem_cons_succ, List.getElem_cons_zero, Nat.reduceAdd]
      refine wm_take (i := 7) (v := ?_) rfl (by kernel_rfl) (by kernel_rfl) (by kernel_rfl) (fun _ _ _ h => h) (by kernel_rfl) ?_ ?_
      rotate_left
      (focus (intro w hSw; obtain ⟨z0, z1, z2, z3, z4, z5⟩ := CELLS.out _ hSw; go_simp; try with_reducible rfl))
      simp only [Act.put, List.setIfInBounds_toArray, List.set_cons_zero, List.set_cons_succ, List.getElem_toArray, List.getElem_cons_succ, List.getElem_cons_zero, Nat.reduceAdd]
      refine wm_take (i := 8) (v := ?_) rfl (by kernel_rfl) (by kernel_rfl) (by kernel_rfl) (fun _ _ _ h => h) (by kernel_rfl) ?_ ?_
      rotate_left
      (focus (intro w hSw; obtain ⟨z0, z1, z2, z3, z4, z5⟩ := CELLS.out _ hSw; go_simp; try with_reducible rfl))
      simp only [Act.put, List.setIfInBounds_toArray, List.set_cons_zero, List.set_cons_succ, List.getElem_toArray, List.getElem_cons_succ, List.getElem_cons_zero, Nat.reduceAdd]
      refine wm_take (i := 9) (v := ?_) rfl (by kernel_rfl) (by kernel_rfl) (by kernel_rfl) (fun _ _ _ h => h) (by kernel_rfl) ?_ ?_
      rotate_left
      (focus (intro w hSw; obtain ⟨z0, z1, z2, z3, z4, z5⟩ := CELLS.out _ hSw; go_simp; try with_reducible rfl))
      simp only [Act.put, List.setIfInBounds_toArray, List.set_cons_zero, List.set_cons_succ, List.getElem_toArray, List.getElem_cons_succ, List.getElem_cons_zero, Nat.reduceAdd]
      refine wm_take (i := 10) (v := ?_) rfl (by kernel_rfl) (by kernel_rfl) (by kernel_rfl) (fun _ _ _ h => h) (by kernel_rfl) ?_ ?_
      rotate_left
      (focus (intro w hSw; obtain ⟨z0, z1, z2, z3, z4, z5⟩ := CELLS.out _ hSw; go_simp; try with_reducible rfl))
      simp only [Act.put, List.setIfInBounds_toArray, List.set_cons_zero, List.set_cons_succ, List.getElem_toArray, List.getElem_cons_succ, List.getElem_cons_zero, Nat.reduceAdd]
      refine wm_take (i := 11) (v := ?_) rfl (by kernel_rfl) (by kernel_rfl) (by kernel_rfl) (fun _ _ _ h => h) (by kernel_rfl) ?_ ?_
      rotate_left
      (focus (intro w hSw; obtain ⟨z0, z1, z2, z3, z4, z5⟩ := CELLS.out _ hSw; go_simp; try with_reducible rfl))
      simp only [Act.put, List.setIfInBounds_toArray, List.set_cons_zero, List.set_cons_succ, List.getElem_toArray, List.getElem_cons_succ, List.getElem_cons_zero, Nat.reduceAdd]
      refine wm_call (i := 12) (v := .int .i64 (b : Int)) (f := ?_) (args := ?_) rfl (by kernel_rfl) (by kernel_rfl) (by kernel_rfl) (fun _ _ _ h => h) (by kernel_rfl) ?_ ?_ ?_
      rotate_left 2
      (focus (intro w; go_simp; refine ⟨?_, ?_⟩ <;> with_reducible rfl))
      (focus (intro w hSw; refine (C2.out w hSw).mono ?_; rintro e w3 ⟨rfl, hb3⟩; exact ⟨rfl, hb3, then_ hSw hb3 hSw.size⟩))
      simp only [Act.put, List.setIfInBounds_toArray, List.set_cons_zero, List.set_cons_succ, List.getElem_toArray, List.getElem_cons_succ, List.getElem_cons_zero, Nat.reduceAdd]
      refine wm_take (i := 13) (v := ?_) rfl (by kernel_rfl) (by kernel_rfl) (by kernel_rfl) (fun _ _ _ h => h) (by kernel_rfl) ?_ ?_
      rotate_left
      (focus (intro w hSw; obtain ⟨z0, z1, z2, z3, z4, z5⟩ := CELLS.out _ hSw; go_simp; try with_reducible rfl))
      simp only [Act.put, List.setIfInBounds_toArray, List.set_cons_zero, List.set_cons_succ, List.getElem_toArray, List.getElem_cons_succ, List.getElem_cons_zero, Nat.reduceAdd]
      refine wm_take (i := 14) (v := ?_) rfl (by kernel_rfl) (by kernel_rfl) (by kernel_rfl) (fun _ _ _ h => h) (by kernel_rfl) ?_ ?_
      rotate_left
      (focus (intro w hSw; obtain ⟨z0, z1, z2, z3, z4, z5⟩ := CELLS.out _ hSw; go_simp; try with_reducible rfl))
      simp only [Act.put, List.setIfInBounds_toArray, List.set_cons_zero, List.set_cons_succ, List.getElem_toArray, List.getElem_cons_succ, List.getElem_cons_zero, Nat.reduceAdd]
      refine wm_each (l := [15, 16]) (by kernel_rfl) (by simp) ?_
      intro W1 hb1 hS1
      refine Each.cons rfl (fun K hK => ?_) (Each.cons rfl (fun K hK => ?_) (Each.nil))
      · have hS := hS1.alloc hS1.size (.cells #[.int .i64 0, .int .i64 0] 71)
        go_simp
        refine hK.out _ _ ⟨hS, ?_⟩
        clear hK K
        (try simp only [Act.put, List.setIfInBounds_toArray, List.set_cons_zero, List.set_cons_succ, List.getElem_toArray, List.getElem_cons_succ, List.getElem_cons_zero, Nat.reduceAdd])
        refine wm_each (l := [16]) (by kernel_rfl) (by simp) ?_
        intro W2 hb2 hS2
        refine Each.cons rfl (fun K hK => ?_) (Each.nil)
        · have hS := hS2.alloc hS2.size (.cells #[.int .i64 0, .int .i64 0] 71)
          go_simp
          refine hK.out _ _ ⟨hS, ?_⟩
          clear hK K
          (try simp only [Act.put, List.setIfInBounds_toArray, List.set_cons_zero, List.set_cons_succ, List.getElem_toArray, List.getElem_cons_succ, List.getElem_cons_zero, Nat.reduceAdd])
          have n8 := Up.NBox.new W1 0 0
          have n8 := nbox_ext (nbox_ext n8 hb2) ((Below.refl _ _).alloc (Nat.le_refl _) (.cells #[.int .i64 0, .int .i64 0] 71))
          have g8 := hS1.size
          have n9 := Up.NBox.new W2 0 0
          have g9 := hS2.size
          have d12 : W1.heap.size < W2.heap.size := by have := hb2.size; simp at this; omega
          obtain ⟨p8, e8⟩ : ∃ p, p = W1.heap.size := ⟨_, rfl⟩
          obtain ⟨p9, e9⟩ : ∃ p, p = W2.heap.size := ⟨_, rfl⟩
          rw [← e8] at n8 g8
          rw [← e9] at n9 g9
          have D := hid (show p8 ≠ p9 by omega)
          rw [← e8, ← e9]
          clear hb2 hS1 hS2 hS d12 e8 e9
          generalize W2.alloc _ = V0 at n8 n9 ⊢
          refine wm_each (l := [17]) (by kernel_rfl) (by simp) ?_
          intro V1 hv1 hT1
          replace n8 := nbox_ext n8 hv1
          replace n9 := nbox_ext n9 hv1
          have c0 := n8.c0
          have c1 := n8.c1
          have z0 := n8.fz (i := 0)
          have z1 := n8.fz (i := 1)
          refine Each.cons rfl (fun K hK => ?_) Each.nil
          go_simp
          refine hK.out _ _ ⟨wr2_ext hT1 g8 x0 y0, ?_⟩
          clear hK K c0 c1 z0 z1
          (try simp only [Act.put, List.setIfInBounds_toArray, List.set_cons_zero, List.set_cons_succ, List.getElem_toArray, List.getElem_cons_succ, List.getElem_cons_zero, Nat.reduceAdd])
          change wpAnyM _ _ _ _ _ _ _ _ (Up.wr2 V1 p8 x0 y0)
          replace n8 := n8.set x0 y0
          replace n9 := n9.other (by have := D.out; omega) x0 y0 (g' := p8)
          generalize Up.wr2 V1 p8 x0 y0 = V0 at n8 n9 ⊢
          clear hv1 hT1
          refine wm_each (l := [18]) (by kernel_rfl) (by simp) ?_
          intro V1 hv1 hT1
          replace n8 := nbox_ext n8 hv1
          replace n9 := nbox_ext n9 hv1
          have c0 := n9.c0
          have c1 := n9.c1
          have z0 := n9.fz (i := 0)
          have z1 := n9.fz (i := 1)
          refine Each.cons rfl (fun K hK => ?_) Each.nil
          go_simp
          refine hK.out _ _ ⟨wr2_ext hT1 g9 x1 y1, ?_⟩
          clear hK K c0 c1 z0 z1
          (try simp only [Act.put, List.setIfInBounds_toArray, List.set_cons_zero, List.set_cons_succ, List.getElem_toArray, List.getElem_cons_succ, List.getElem_cons_zero, Nat.reduceAdd])
          change wpAnyM _ _ _ _ _ _ _ _ (Up.wr2 V1 p9 x1 y1)
          replace n9 := n9.set x1 y1
          replace n8 := n8.other (by have := D.out; omega) x1 y1 (g' := p9)
          generalize Up.wr2 V1 p9 x1 y1 = V0 at n8 n9 ⊢
          clear hv1 hT1
          refine wm_done (by kernel_rfl) ?_
          intro V1 hv1 hT1
          replace n8 := nbox_ext n8 hv1
          replace n9 := nbox_ext n9 hv1
          have a8 := n8.c0
          have b8 := n8.c1
          have a9 := n9.c0
          have b9 := n9.c1
          have HB3 := hid (HB.out.trans (hT1.mono z1))
          clear n8 n9 hv1 hT1 D g8 g9 v0 v1 vlt
          rw [HP.out] at m1
          rw [HR.out] at m2
          have pp := HP.out
          have pr := HR.out
          go_wp2
          go_roundw
          case rel => exact ⟨i + 1, by omega, by go_num, by rw [RES.out], HB3⟩
          case measure => simp [intOf]; omega
      · have hS := hS1.alloc hS1.size (.cells #[.int .i64 0, .int .i64 0] 71)
        go_simp
        refine hK.out _ _ ⟨hS, ?_⟩
        clear hK K
        (try simp only [Act.put, List.setIfInBounds_toArray, List.set_cons_zero, List.set_cons_succ, List.getElem_toArray, List.getElem_cons_succ, List.getElem_cons_zero, Nat.reduceAdd])
        refine wm_each (l := [15]) (by kernel_rfl) (by simp) ?_
        intro W2 hb2 hS2
        refine Each.cons rfl (fun K hK => ?_) (Each.nil)
        · have hS := hS2.alloc hS2.size (.cells #[.int .i64 0, .int .i64 0] 71)
          go_simp
          refine hK.out _ _ ⟨hS, ?_⟩
          clear hK K
          (try simp only [Act.put, List.setIfInBounds_toArray, List.set_cons_zero, List.set_cons_succ, List.getElem_toArray, List.getElem_cons_succ, List.getElem_cons_zero, Nat.reduceAdd])
          have n8 := Up.NBox.new W2 0 0
          have g8 := hS2.size
          have n9 := Up.NBox.new W1 0 0
          have n9 := nbox_ext (nbox_ext n9 hb2) ((Below.refl _ _).alloc (Nat.le_refl _) (.cells #[.int .i64 0, .int .i64 0] 71))
          have g9 := hS1.size
          have d12 : W1.heap.size < W2.heap.size := by have := hb2.size; simp at this; omega
          obtain ⟨p8, e8⟩ : ∃ p, p = W2.heap.size := ⟨_, rfl⟩
          obtain ⟨p9, e9⟩ : ∃ p, p = W1.heap.size := ⟨_, rfl⟩
          rw [← e8] at n8 g8
          rw [← e9] at n9 g9
          have D := hid (show p8 ≠ p9 by omega)
          rw [← e8, ← e9]
          clear hb2 hS1 hS2 hS d12 e8 e9
          generalize W2.alloc _ = V0 at n8 n9 ⊢
          refine wm_each (l := [17]) (by kernel_rfl) (by simp) ?_
          intro V1 hv1 hT1
          replace n8 := nbox_ext n8 hv1
          replace n9 := nbox_ext n9 hv1
          have c0 := n8.c0
          have c1 := n8.c1
          have z0 := n8.fz (i := 0)
          have z1 := n8.fz (i := 1)
          refine Each.cons rfl (fun K hK => ?_) Each.nil
          go_simp
          refine hK.out _ _ ⟨wr2_ext hT1 g8 x0 y0, ?_⟩
          clear hK K c0 c1 z0 z1
          (try simp only [Act.put, List.setIfInBounds_toArray, List.set_cons_zero, List.set_cons_succ, List.getElem_toArray, List.getElem_cons_succ, List.getElem_cons_zero, Nat.reduceAdd])
          change wpAnyM _ _ _ _ _ _ _ _ (Up.wr2 V1 p8 x0 y0)
          replace n8 := n8.set x0 y0
          replace n9 := n9.other (by have := D.out; omega) x0 y0 (g' := p8)
          generalize Up.wr2 V1 p8 x0 y0 = V0 at n8 n9 ⊢
          clear hv1 hT1
          refine wm_each (l := [18]) (by kernel_rfl) (by simp) ?_
          intro V1 hv1 hT1
          replace n8 := nbox_ext n8 hv1
          replace n9 := nbox_ext n9 hv1
          have c0 := n9.c0
          have c1 := n9.c1
          have z0 := n9.fz (i := 0)
          have z1 := n9.fz (i := 1)
          refine Each.cons rfl (fun K hK => ?_) Each.nil
          go_simp
          refine hK.out _ _ ⟨wr2_ext hT1 g9 x1 y1, ?_⟩
          clear hK K c0 c1 z0 z1
          (try simp only [Act.put, List.setIfInBounds_toArray, List.set_cons_zero, List.set_cons_succ, List.getElem_toArray, List.getElem_cons_succ, List.getElem_cons_zero, Nat.reduceAdd])
          change wpAnyM _ _ _ _ _ _ _ _ (Up.wr2 V1 p9 x1 y1)
          replace n9 := n9.set x1 y1
          replace n8 := n8.other (by have := D.out; omega) x1 y1 (g' := p9)
          generalize Up.wr2 V1 p9 x1 y1 = V0 at n8 n9 ⊢
          clear hv1 hT1
          refine wm_done (by kernel_rfl) ?_
          intro V1 hv1 hT1
          replace n8 := nbox_ext n8 hv1
          replace n9 := nbox_ext n9 hv1
          have a8 := n8.c0
          have b8 := n8.c1
          have a9 := n9.c0
          have b9 := n9.c1
          have HB3 := hid (HB.out.trans (hT1.mono z1))
          clear n8 n9 hv1 hT1 D g8 g9 v0 v1 vlt
          rw [HP.out] at m1
          rw [HR.out] at m2
          have pp := HP.out
          have pr := HR.out
          go_wp2
          go_roundw
          case rel => exact ⟨i + 1, by omega, by go_num, by rw [RES.out], HB3⟩
          case measure => simp [intOf]; omega
    · have he : i = l.length := by omega
      subst he
      go_wp2
      go_ret
      exact ⟨ret_int (by rw [List.take_length]), then_ S0.out (by have := HB.out; simpa using this) S0.out.size⟩
end Go.Proofs.Ytdhppajfdcfikaa
