/- What WindowOk of the program returns, for all arguments. No condition. -/
import Derived.Test.YtdhppajfdcfikaaWinP
import Derived.Test.YtdhppajfdcfikaaCross
namespace Go.Proofs.Ytdhppajfdcfikaa
open Go.ChangeShapes Go.WideShapes Go.ChangeAt Go.RowKit
set_option maxHeartbeats 2000000
set_option maxRecDepth 100000
set_option linter.unusedSimpArgs false
set_option linter.unusedVariables false

theorem PairsAt.at_ {w : World} {A : Option Addr} {n c : Nat} {ns : List (Int × Int)} {k : Nat} {x y : Int} (h : PairsAt w (.slice A n c) ns) (hk : ns[k]? = some (x, y)) : ∃ b off, A = some ⟨b, off, none⟩ ∧ b < w.heap.size ∧
    w.cell? ⟨b, off + k * 2, none⟩ = some (.int .i64 x) ∧ w.cell? ⟨b, off + k * 2 + 1, none⟩ = some (.int .i64 y) := by
  obtain ⟨A', c', e, _, _, h3⟩ := h
  injection e with eA _ _
  subst eA
  exact h3 k x y hk
theorem iWin_early (vn vl : Value) (ns ls : List (Int × Int)) (w : World) (hn : PairsAt w vn ns) (hl : PairsAt w vl ls) (h : (inB ns.length 1 12 && (decide ((ls.length : Int) ≤ 20) && okAll ns)) = false) : Calls Try.prog 76 #[.agg #[vn, vl]] w fun e w' => e = .returned (.bool false) ∧ Below w.heap.size w w' := by
  have s0 : Below w.heap.size w (w.alloc (.cells #[vn, vl] 31)) := (Below.refl _ _).alloc (Nat.le_refl _) _
  have HN := hid (hn.below s0)
  have S0 := hid s0
  clear s0
  obtain ⟨A, c, rfl, _, hm, _⟩ := id hn
  obtain ⟨A', c', rfl, _, hm', _⟩ := id hl
  unfold maxLen at hm hm'
  clear hn hl
  have hl0 : (ns.length : Int) ≤ 9223372036854775807 := by omega
  have hl1 : (ls.length : Int) ≤ 9223372036854775807 := by omega
  clear hm hm'
  cases c1 : inB ns.length 1 12
  · go_enter Try.func76, Try.ntmps76
    go_wp2_with (go_at_call 72; refine (within_any _ _ _ _).mono ?_; rintro e w' ⟨rfl, rfl⟩)
    go_ret
    exact ⟨rfl, S0.out⟩
  by_cases c2 : (ls.length : Int) ≤ 20
  rotate_left
  · have c2' : 20 < (ls.length : Int) := by omega
    go_enter Try.func76, Try.ntmps76
    go_wp2_with (go_at_call 72; refine (within_any _ _ _ _).mono ?_; rintro e w' ⟨rfl, rfl⟩)
    go_ret
    exact ⟨rfl, S0.out⟩
  · have c3 : okAll ns = false := by simpa [c1, c2] using h
    have C3 := hid c3
    clear c3 h
    go_enter Try.func76, Try.ntmps76
    go_wp2_with (go_at_call 72; refine (within_any _ _ _ _).mono ?_; rintro e w' ⟨rfl, rfl⟩)
    refine (nodesOk_any _ ns _ HN.out).mono ?_
    rintro e w1 ⟨rfl, hb1⟩
    rw [C3.out]
    go_wp2
    go_ret
    exact ⟨rfl, then_ S0.out hb1 S0.out.size⟩
theorem iWin_late (vn vl : Value) (ns ls : List (Int × Int)) (w : World) (hn : PairsAt w vn ns) (hl : PairsAt w vl ls) (c1 : inB ns.length 1 12 = true) (c2 : (ls.length : Int) ≤ 20) (c3 : okAll ns = true) : Calls Try.prog 76 #[.agg #[vn, vl]] w fun e w' => e = .returned (.bool (distinctB ns && allB ls.length (leadLine ns ls))) ∧ Below w.heap.size w w' := by
  have s0 : Below w.heap.size w (w.alloc (.cells #[vn, vl] 31)) := (Below.refl _ _).alloc (Nat.le_refl _) _
  have HN := hid (hn.below s0)
  have HL := hid (hl.below s0)
  have B0 := hid (BoxV.new w vn vl 31 w.heap.size rfl)
  have S0 := hid s0
  clear s0
  obtain ⟨A, c, rfl, hcn, hm, _⟩ := id hn
  obtain ⟨A', c', rfl, hcl, hm', _⟩ := id hl
  have hn12 : ns.length ≤ 12 := by simp [inB] at c1; omega
  have hl20 : ls.length ≤ 20 := by omega
  unfold maxLen at hm hm'
  clear hn hl
  have C3 := hid c3
  clear c3
  have heq := eql_node
  have heql := eql_lead
  have HEQ := hid heq
  have HEQL := hid heql
  clear heq heql
  go_enter Try.func76, Try.ntmps76
  go_wp2_with (go_at_call 72; refine (within_any _ _ _ _).mono ?_; rintro e w' ⟨rfl, rfl⟩)
  refine (nodesOk_any _ ns _ HN.out).mono ?_
  rintro e w1 ⟨rfl, hb1⟩
  rw [C3.out]
  have S1 := hid (then_ S0.out hb1 S0.out.size)
  have B1 := hid (B0.out.below hb1)
  have HN1 := hid (HN.out.below hb1)
  have HL1 := hid (HL.out.below hb1)
  have v0 := B1.out.c0
  have v1 := B1.out.c1
  clear hb1 HN HL B0 S0
  go_wp2
  go_loopw [31] (fun i wr => ∃ k : Nat, k ≤ ns.length ∧ i = .int .i64 k ∧ Hid (allB k (fun i => !hasP (ns.take i) (ptN ns i).1 (ptN ns i).2) = true) ∧ Below w1.heap.size w1 wr) (fun i _ => ns.length - (intOf i).toNat)
  case atStart => exact ⟨0, Nat.zero_le _, rfl, hid rfl, Below.refl _ _⟩
  case round =>
    obtain ⟨k, hk, rfl, hd, hb⟩ := hrel
    clear v0 v1
    have S2 := hid (then_ S1.out hb S1.out.size)
    have B2 := hid (B1.out.below hb)
    have HN2 := hid (HN1.out.below hb)
    have HL2 := hid (HL1.out.below hb)
    have HB := hid hb
    clear hb
    have v0 := B2.out.c0
    have v1 := B2.out.c1
    have vlt := B2.out.lt
    by_cases hlt : k < ns.length
    · obtain ⟨⟨x, y⟩, hxy⟩ : ∃ p, ns[k]? = some p := ⟨_, List.getElem?_eq_getElem hlt⟩
      obtain ⟨b, off, rfl, hbb, h1, h2⟩ := HN2.out.at_ hxy
      have HX := hid hxy
      clear hxy
      have hk0 : (0 : Int) ≤ (k : Int) := by omega
      have hk1 : (k : Int) ≤ (c : Int) := by omega
      have hk2 : k ≤ c := by omega
      have hkn : k ≤ ns.length := hk
      go_wp2_with fail
      have X0 := hid (Box2.new wr x y 71 wr.heap.size rfl)
      have hal : Below wr.heap.size wr (wr.alloc (.cells #[.int .i64 x, .int .i64 y] 71)) := (Below.refl _ _).alloc (Nat.le_refl _) _
      have B3 := hid (B2.out.below hal)
      have HT := hid ((HN2.out.below hal).take k hkn)
      have S3 := hid (then_ S2.out hal S2.out.size)
      clear hal h1 h2 v0 v1
      have m0 := fun p => (X0.out.mv p).c0
      have m1 := fun p => (X0.out.mv p).c1
      have m2 := fun p => (B3.out.mv p).c0
      have m3 := fun p => (B3.out.mv p).c1
      have D := hid (show (!hasP (ns.take k) (ptN ns k).1 (ptN ns k).2) = !hasP (ns.take k) x y by simp [ptN_of HX.out])
      cases e : hasP (ns.take k) x y
      all_goals
        refine wp_region_mv (by kernel_rfl) (by kernel_rfl) ?_
        repeat (go_big_quiet_step ((go_at_call 96; exact calls_mv ((containsNode_any _ (ns.take k) _ _ _ (HT.out.below (below_mv _ _))).mono fun _ _ h => ⟨h.1.trans (ret_bool e), h.2⟩))))
        refine wpQuiet_nil ?_
        intro _ hw'
        obtain ⟨q, hw''⟩ := hw'
        subst hw''
        go_wp2
      · go_roundw
        case rel => exact ⟨k + 1, by omega, by go_num, hid (by rw [allB_succ, hd.out, D.out, e]; rfl), then_ (HB.out.alloc HB.out.size _) (below_mv _ q) (by have := HB.out.size; simp; omega)⟩
        case measure => simp [intOf]; omega
      · go_ret
        exact ⟨ret_bool (by rw [show distinctB ns = false from allB_no hlt (show (!hasP (ns.take k) (ptN ns k).1 (ptN ns k).2) = false by rw [D.out, e]; rfl)]; rfl), then_ S3.out (below_mv _ q) S3.out.size⟩
    · have he : k = ns.length := by omega
      subst he
      have DD := hid (show distinctB ns = true from hd.out)
      clear hd
      obtain ⟨wo, hwo⟩ : ∃ W : World, W = wr := ⟨_, rfl⟩
      subst hwo
      go_wp2
      go_loopw [46] (fun i wr => ∃ k : Nat, k ≤ ls.length ∧ i = .int .i64 k ∧ Hid (allB k (leadLine ns ls) = true) ∧ Below wo.heap.size wo wr) (fun i _ => ls.length - (intOf i).toNat)
      case atStart => exact ⟨0, Nat.zero_le _, rfl, hid rfl, Below.refl _ _⟩
      case round =>
        obtain ⟨k, hk, rfl, hd, hb⟩ := hrel
        clear v0 v1
        have S3 := hid (then_ S2.out hb S2.out.size)
        have B3 := hid (B2.out.below hb)
        have HN3 := hid (HN2.out.below hb)
        have HL3 := hid (HL2.out.below hb)
        have HB3 := hid hb
        clear hb
        have v0 := B3.out.c0
        have v1 := B3.out.c1
        have vlt := B3.out.lt
        by_cases hlt : k < ls.length
        · obtain ⟨⟨f, t⟩, hft⟩ : ∃ p, ls[k]? = some p := ⟨_, List.getElem?_eq_getElem hlt⟩
          obtain ⟨b, off, rfl, hbb, h1, h2⟩ := HL3.out.at_ hft
          have HF := hid hft
          clear hft
          have hk0 : (0 : Int) ≤ (k : Int) := by omega
          have hk1 : (k : Int) ≤ (c' : Int) := by omega
          have hk2 : k ≤ c' := by omega
          have hkl : k ≤ ls.length := hk
          go_wp2_with fail
          have X3 := hid (Box2.new wr f t 73 wr.heap.size rfl)
          have hal : Below wr.heap.size wr (wr.alloc (.cells #[.int .i64 f, .int .i64 t] 73)) := (Below.refl _ _).alloc (Nat.le_refl _) _
          have B4 := hid (B3.out.below hal)
          have HN4 := hid (HN3.out.below hal)
          have HL4 := hid (HL3.out.below hal)
          have S4 := hid (then_ S3.out hal S3.out.size)
          have HB4 := hid (then_ HB3.out hal HB3.out.size)
          clear hal h1 h2 v0 v1 vlt hbb
          refine (iLeadOk_any _ ns _ _ _ HN4.out).mono ?_
          rintro e w5 ⟨rfl, hb5⟩
          have X5 := hid (X3.out.below hb5)
          have B5 := hid (B4.out.below hb5)
          have HN5 := hid (HN4.out.below hb5)
          have HL5 := hid (HL4.out.below hb5)
          have S5 := hid (then_ S4.out hb5 S4.out.size)
          have HB5 := hid (then_ HB4.out hb5 HB4.out.size)
          clear hb5
          have LL := hid (show leadLine ns ls k = (leadOkB ns f t && (allB k (fun j => !doCrossB ns f t (ptN ls j).1 (ptN ls j).2) && allB ns.length (freeB ns (f, t)))) by unfold leadLine; rw [ptN_of HF.out])
          cases e1 : leadOkB ns f t
          · go_wp2
            go_ret
            exact ⟨ret_bool (by rw [show allB ls.length (leadLine ns ls) = false from allB_no hlt (by rw [LL.out, e1]; rfl)]; simp), S5.out⟩
          · have E1 := hid e1
            clear e1
            have x0 := X5.out.c0
            have x1 := X5.out.c1
            have v0 := B5.out.c0
            have v1 := B5.out.c1
            go_wp2
            go_loopw [61] (fun i wr => ∃ j : Nat, j ≤ k ∧ i = .int .i64 j ∧ Hid (allB j (fun j => !doCrossB ns f t (ptN ls j).1 (ptN ls j).2) = true) ∧ Below w5.heap.size w5 wr) (fun i _ => k - (intOf i).toNat)
            case atStart => exact ⟨0, Nat.zero_le _, rfl, hid rfl, Below.refl _ _⟩
            case round =>
              obtain ⟨j, hj, rfl, hdj, hb⟩ := hrel
              clear v0 v1 x0 x1
              have S6 := hid (then_ S5.out hb S5.out.size)
              have X6 := hid (X5.out.below hb)
              have B6 := hid (B5.out.below hb)
              have HN6 := hid (HN5.out.below hb)
              have HL6 := hid (HL5.out.below hb)
              have HB6 := hid hb
              have HC6 := hid (then_ HB5.out hb HB5.out.size)
              clear hb
              have v0 := B6.out.c0
              have v1 := B6.out.c1
              have x0 := X6.out.c0
              have x1 := X6.out.c1
              have vlt := B6.out.lt
              have xlt := X6.out.lt
              by_cases hjt : j < k
              · obtain ⟨⟨g, u⟩, hgu⟩ : ∃ p, ls[j]? = some p := ⟨_, List.getElem?_eq_getElem (by omega)⟩
                obtain ⟨b', off', hAA, hbb, h1, h2⟩ := HL6.out.at_ hgu
                injection hAA with hAA
                injection hAA with hA1 hA2
                subst hA1 hA2
                have HG := hid hgu
                clear hgu
                have hj0 : (0 : Int) ≤ (j : Int) := by omega
                have hj1 : (j : Int) < (k : Int) := by omega
                go_wp2_with fail
                have Y6 := hid (Box2.new wr g u 73 wr.heap.size rfl)
                have hal : Below wr.heap.size wr (wr.alloc (.cells #[.int .i64 g, .int .i64 u] 73)) := (Below.refl _ _).alloc (Nat.le_refl _) _
                have HN7 := hid (HN6.out.below hal)
                have S7 := hid (then_ S6.out hal S6.out.size)
                have HB7 := hid (then_ HB6.out hal HB6.out.size)
                clear hal
                refine (iCross_any _ ns _ _ _ _ _ HN7.out).mono ?_
                rintro e w8 ⟨rfl, hb8⟩
                have S8 := hid (then_ S7.out hb8 S7.out.size)
                have HB8 := hid (then_ HB7.out hb8 HB7.out.size)
                clear hb8 h1 h2 v0 v1 x0 x1 vlt xlt hbb
                have D := hid (show (!doCrossB ns f t (ptN ls j).1 (ptN ls j).2) = !doCrossB ns f t g u by rw [ptN_of HG.out])
                cases e2 : doCrossB ns f t g u
                · have E2 := hid e2
                  go_wp2
                  go_roundw
                  case rel => exact ⟨j + 1, by omega, by go_num, hid (by rw [allB_succ, hdj.out, D.out, E2.out]; rfl), HB8.out⟩
                  case measure => simp [intOf]; omega
                · have E2 := hid e2
                  go_wp2
                  go_ret
                  exact ⟨ret_bool (by rw [show allB ls.length (leadLine ns ls) = false from allB_no hlt (by rw [LL.out, show allB k (fun j => !doCrossB ns f t (ptN ls j).1 (ptN ls j).2) = false from allB_no hjt (show (!doCrossB ns f t (ptN ls j).1 (ptN ls j).2) = false by rw [D.out, E2.out]; rfl)]; simp)]; simp), S8.out⟩
              · have he : j = k := by omega
                subst he
                have DJ := hid hdj.out
                clear hdj
                obtain ⟨w9, hw9⟩ : ∃ W : World, W = wr := ⟨_, rfl⟩
                subst hw9
                go_wp2_with fail
                go_loopw [74] (fun i wr => ∃ m : Nat, m ≤ ns.length ∧ i = .int .i64 m ∧ Hid (allB m (freeB ns (f, t)) = true) ∧ Below w9.heap.size w9 wr) (fun i _ => ns.length - (intOf i).toNat)
                case atStart => exact ⟨0, Nat.zero_le _, rfl, hid rfl, Below.refl _ _⟩
                case round =>
                  obtain ⟨m, hmm, rfl, hdm, hb⟩ := hrel
                  clear v0 v1 x0 x1 vlt xlt
                  have S10 := hid (then_ S6.out hb S6.out.size)
                  have X10 := hid (X6.out.below hb)
                  have B10 := hid (B6.out.below hb)
                  have HN10 := hid (HN6.out.below hb)
                  have HB10 := hid hb
                  have HC10 := hid (then_ HC6.out hb HC6.out.size)
                  clear hb
                  have v0 := B10.out.c0
                  have v1 := B10.out.c1
                  have x0 := X10.out.c0
                  have x1 := X10.out.c1
                  have vlt := B10.out.lt
                  have xlt := X10.out.lt
                  by_cases hmt : m < ns.length
                  · obtain ⟨⟨x, y⟩, hxy⟩ : ∃ p, ns[m]? = some p := ⟨_, List.getElem?_eq_getElem hmt⟩
                    obtain ⟨b', off', rfl, hbb, h1, h2⟩ := HN10.out.at_ hxy
                    have HXY := hid hxy
                    clear hxy
                    have hm0 : (0 : Int) ≤ (m : Int) := by omega
                    have hm1 : (m : Int) < (ns.length : Int) := by omega
                    have hal : Below wr.heap.size wr (wr.alloc (.cells #[.int .i64 x, .int .i64 y] 71)) := (Below.refl _ _).alloc (Nat.le_refl _) _
                    have HN11 := hid (HN10.out.below hal)
                    have S11 := hid (then_ S10.out hal S10.out.size)
                    have HB11 := hid (then_ HB10.out hal HB10.out.size)
                    clear hal
                    have D := hid (show freeB ns (f, t) m = (((m : Int) == f) || (((m : Int) == t) || !onLeadB ns f t x y)) by unfold freeB; rw [ptN_of HXY.out])
                    by_cases q1 : (m : Int) = f
                    · have q1' : ((m : Int) != f) = false := by simp [q1]
                      have Q1 := hid q1
                      clear q1
                      go_wp2
                      go_roundw
                      case rel => exact ⟨m + 1, by omega, by go_num, hid (by rw [allB_succ, hdm.out, D.out]; simp [Q1.out]), HB11.out⟩
                      case measure => simp [intOf]; omega
                    · have q1' : ((m : Int) != f) = true := by simp [q1]
                      by_cases q2 : (m : Int) = t
                      · have q2' : ((m : Int) != t) = false := by simp [q2]
                        have Q2 := hid q2
                        clear q2 q1
                        go_wp2
                        go_roundw
                        case rel => exact ⟨m + 1, by omega, by go_num, hid (by rw [allB_succ, hdm.out, D.out]; simp [Q2.out]), HB11.out⟩
                        case measure => simp [intOf]; omega
                      · have q2' : ((m : Int) != t) = true := by simp [q2]
                        go_wp2_with fail
                        refine (iOn_any _ ns _ _ _ _ _ HN11.out).mono ?_
                        rintro e w12 ⟨rfl, hb12⟩
                        have S12 := hid (then_ S11.out hb12 S11.out.size)
                        have HB12 := hid (then_ HB11.out hb12 HB11.out.size)
                        clear hb12 h1 h2 v0 v1 x0 x1 vlt xlt hbb
                        cases e2 : onLeadB ns f t x y
                        · have E2 := hid e2
                          go_wp2
                          go_roundw
                          case rel => exact ⟨m + 1, by omega, by go_num, hid (by rw [allB_succ, hdm.out, D.out, E2.out]; simp), HB12.out⟩
                          case measure => simp [intOf]; omega
                        · have E2 := hid e2
                          go_wp2
                          go_ret
                          exact ⟨ret_bool (by rw [show allB ls.length (leadLine ns ls) = false from allB_no hlt (by rw [LL.out, show allB ns.length (freeB ns (f, t)) = false from allB_no hmt (by rw [D.out, E2.out]; simp [q1, q2])]; simp)]; simp), S12.out⟩
                  · have he : m = ns.length := by omega
                    subst he
                    go_wp2
                    go_roundw
                    case rel => exact ⟨j + 1, by omega, by go_num, hid (by rw [allB_succ, hd.out, LL.out, E1.out, DJ.out, hdm.out]; rfl), HC10.out⟩
                    case measure => simp [intOf]; omega
        · have he : k = ls.length := by omega
          subst he
          go_wp2
          go_ret
          exact ⟨ret_bool (by rw [DD.out, hd.out]; rfl), S3.out⟩
theorem iWin_any (vn vl : Value) (ns ls : List (Int × Int)) (w : World) (hn : PairsAt w vn ns) (hl : PairsAt w vl ls) : Calls Try.prog 76 #[.agg #[vn, vl]] w fun e w' => e = .returned (.bool (winOkB ns ls)) ∧ Below w.heap.size w w' := by
  cases h : (inB ns.length 1 12 && (decide ((ls.length : Int) ≤ 20) && okAll ns))
  · refine (iWin_early vn vl ns ls w hn hl h).mono fun _ _ ⟨he, hb⟩ => ⟨he.trans (ret_bool ?_), hb⟩
    rw [show winOkB ns ls = ((inB ns.length 1 12 && (decide ((ls.length : Int) ≤ 20) && okAll ns)) && (distinctB ns && allB ls.length (leadLine ns ls))) by simp [winOkB, Bool.and_assoc], h]; rfl
  · simp only [Bool.and_eq_true, decide_eq_true_iff] at h
    obtain ⟨h1, h2, h3⟩ := h
    refine (iWin_late vn vl ns ls w hn hl h1 h2 h3).mono fun _ _ ⟨he, hb⟩ => ⟨he.trans (ret_bool ?_), hb⟩
    simp [winOkB, h1, h2, h3]
end Go.Proofs.Ytdhppajfdcfikaa
