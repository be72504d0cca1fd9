/- What WindowOk of the reference returns, for all arguments. No condition. -/
import Derived.Test.YtbijbohkpjnjnaaWinP
import Derived.Test.YtbijbohkpjnjnaaWin
import Derived.Test.YtbijbohkpjnjnaaCrossS
namespace Go.Proofs.Ytbijbohkpjnjnaa
open Go.ChangeShapes Go.WideShapes Go.ChangeAt Go.RowKit
set_option maxHeartbeats 2000000
set_option maxRecDepth 100000
set_option linter.unusedSimpArgs false
set_option linter.unusedVariables false

theorem has_allB (ns : List (Int × Int)) (x y : Int) : ∀ k, k ≤ ns.length → (!hasP (ns.take k) x y) = allB k (fun j => !eqP (ptN ns j).1 (ptN ns j).2 x y)
  | 0, _ => by simp [hasP, allB]
  | k + 1, h => by
    rw [allB_succ, ← has_allB ns x y k (by omega)]
    have hk : ns[k]? = some ns[k] := List.getElem?_eq_getElem (by omega)
    rw [List.take_add_one, hk, ptN_of hk]
    simp only [hasP, Option.toList_some, List.any_append, List.any_cons, List.any_nil, eqP_comm x y, Bool.or_false, Bool.not_or]
theorem sameB_comm (a b c d : Int × Int) : sameB a b c d = sameB c d a b := by
  unfold sameB
  rw [eqP_comm a.1 a.2 c.1 c.2, eqP_comm b.1 b.2 d.1 d.2, eqP_comm a.1 a.2 d.1 d.2, eqP_comm b.1 b.2 c.1 c.2, Bool.and_comm (eqP d.1 d.2 a.1 a.2)]
theorem midB_comm (a b c d : Int × Int) : midB a b c d = midB c d a b := by
  unfold midB
  cases betw a.1 a.2 b.1 b.2 c.1 c.2 <;> cases betw a.1 a.2 b.1 b.2 d.1 d.2 <;> cases betw c.1 c.2 d.1 d.2 a.1 a.2 <;> cases betw c.1 c.2 d.1 d.2 b.1 b.2 <;> rfl
theorem overB_comm (a b c d : Int × Int) : overB a b c d = overB c d a b := by unfold overB; rw [Bool.and_comm]
theorem crossB_comm (a b c d : Int × Int) : crossB a b c d = crossB c d a b := by unfold crossB; rw [sameB_comm, midB_comm, overB_comm]
theorem doCrossB_comm (ns : List (Int × Int)) (f t g u : Int) : doCrossB ns f t g u = doCrossB ns g u f t := by
  unfold doCrossB; rw [crossB_comm, Bool.and_comm (leadOkB ns f t)]
theorem sWin_early (vn vl : Value) (ns ls : List (Int × Int)) (w : World) (hn : PairsAt w vn ns) (hl : PairsAt w vl ls) (h : (inB ns.length 1 12 && decide ((ls.length : Int) ≤ 20)) = false) : Calls Try.prog 26 #[.agg #[vn, vl]] w fun e w' => e = .returned (.bool false) ∧ Below w.heap.size w w' := by
  have s0 : Below w.heap.size w (w.alloc (.cells #[vn, vl] 27)) := (Below.refl _ _).alloc (Nat.le_refl _) _
  have HN := hid (hn.below s0)
  have S0 := hid s0
  clear s0
  obtain ⟨A, c, rfl, _, hm, _⟩ := id hn
  obtain ⟨A', c', rfl, _, hm', _⟩ := id hl
  unfold maxLen at hm hm'
  clear hn hl
  have hl0 : (ns.length : Int) ≤ 9223372036854775807 := by omega
  have hl1 : (ls.length : Int) ≤ 9223372036854775807 := by omega
  clear hm hm'
  cases c1 : inB ns.length 1 12
  · go_enter Try.func26, Try.ntmps26
    go_wp2_with (go_at_call 34; refine (l01In_any _ _ _ _).mono ?_; rintro e w' ⟨rfl, rfl⟩)
    go_ret
    exact ⟨rfl, S0.out⟩
  by_cases c2 : (ls.length : Int) ≤ 20
  rotate_left
  · have c2' : 20 < (ls.length : Int) := by omega
    go_enter Try.func26, Try.ntmps26
    go_wp2_with (go_at_call 34; refine (l01In_any _ _ _ _).mono ?_; rintro e w' ⟨rfl, rfl⟩)
    go_ret
    exact ⟨rfl, S0.out⟩
  · simp [c1, c2] at h
theorem sWin_late (vn vl : Value) (ns ls : List (Int × Int)) (w : World) (hn : PairsAt w vn ns) (hl : PairsAt w vl ls) (c1 : inB ns.length 1 12 = true) (c2 : (ls.length : Int) ≤ 20) : Calls Try.prog 26 #[.agg #[vn, vl]] w fun e w' => e = .returned (.bool (okAll ns && (distinctB ns && allB ls.length (leadLine ns ls)))) ∧ Below w.heap.size w w' := by
  have s0 : Below w.heap.size w (w.alloc (.cells #[vn, vl] 27)) := (Below.refl _ _).alloc (Nat.le_refl _) _
  have HN := hid (hn.below s0)
  have HL := hid (hl.below s0)
  have B0 := hid (BoxV.new w vn vl 27 w.heap.size rfl)
  have S0 := hid s0
  have Z0 := hid (Below.refl (w.alloc (.cells #[vn, vl] 27)).heap.size (w.alloc (.cells #[vn, vl] 27)))
  clear s0
  obtain ⟨A, c, rfl, hcn, hm, _⟩ := id hn
  obtain ⟨A', c', rfl, hcl, hm', _⟩ := id hl
  have hn12 : ns.length ≤ 12 := by simp [inB] at c1; omega
  have hl20 : ls.length ≤ 20 := by omega
  unfold maxLen at hm hm'
  clear hn hl
  have heq := eql_node
  have heql := eql_lead
  have HEQ := hid heq
  have HEQL := hid heql
  clear heql
  have v0 := B0.out.c0
  have v1 := B0.out.c1
  go_enter Try.func26, Try.ntmps26
  have c2' : ¬ 20 < (ls.length : Int) := by omega
  go_wp2_with (go_at_call 34; refine (l01In_any _ _ _ _).mono ?_; rintro e w' ⟨rfl, rfl⟩)
  go_loopw [3] (fun i wr => ∃ k : Nat, k ≤ ns.length ∧ i = .int .i64 k ∧ Hid (okAll (ns.take k) = true) ∧ Hid (allB k (fun i => !hasP (ns.take i) (ptN ns i).1 (ptN ns i).2) = true) ∧ Below (w.alloc (.cells #[.slice A ns.length c, .slice A' ls.length c'] 27)).heap.size (w.alloc (.cells #[.slice A ns.length c, .slice A' ls.length c'] 27)) wr) (fun i _ => ns.length - (intOf i).toNat)
  case atStart => exact ⟨0, Nat.zero_le _, rfl, hid rfl, hid rfl, Below.refl _ _⟩
  case round =>
    obtain ⟨k, hk, rfl, ho, hd, hb⟩ := hrel
    clear v0 v1
    have S2 := hid (then_ S0.out hb S0.out.size)
    have B2 := hid (B0.out.below hb)
    have HN2 := hid (HN.out.below hb)
    have HL2 := hid (HL.out.below hb)
    have HB := hid hb
    clear hb
    have v0 := B2.out.c0
    have v1 := B2.out.c1
    have vlt := B2.out.lt
    by_cases hlt : k < ns.length
    · obtain ⟨⟨x, y⟩, hxy⟩ : ∃ p, ns[k]? = some p := ⟨_, List.getElem?_eq_getElem hlt⟩
      obtain ⟨b, off, rfl, hbb, h1, h2⟩ := HN2.out.at_ hxy
      have HX := hid hxy
      clear hxy
      have hk0 : (0 : Int) ≤ (k : Int) := by omega
      have hk1 : (k : Int) < (ns.length : Int) := by omega
      go_wp2_with fail
      refine (sNodeOk_any _ _ _).mono ?_
      rintro e w3 ⟨rfl, hb3⟩
      have S3 := hid (then_ S2.out hb3 S2.out.size)
      have B3 := hid (B2.out.below hb3)
      have HN3 := hid (HN2.out.below hb3)
      have HB3 := hid (then_ HB.out hb3 HB.out.size)
      clear hb3 h1 h2 v0 v1 vlt hbb
      have v0 := B3.out.c0
      have v1 := B3.out.c1
      cases en : nodeOkB x y
      · have EN := hid en
        go_wp2
        go_ret
        exact ⟨ret_bool (by rw [okAll_no _ _ _ _ HX.out EN.out]; rfl), S3.out⟩
      · have EN := hid en
        clear en
        go_wp2
        go_loopw [4] (fun i wr => ∃ j : Nat, j ≤ k ∧ i = .int .i64 j ∧ Hid (allB j (fun j => !eqP (ptN ns j).1 (ptN ns j).2 x y) = true) ∧ Below w3.heap.size w3 wr) (fun i _ => k - (intOf i).toNat)
        case atStart => exact ⟨0, Nat.zero_le _, rfl, hid rfl, Below.refl _ _⟩
        case round =>
          obtain ⟨j, hj, rfl, hdj, hb⟩ := hrel
          clear v0 v1
          have S4 := hid (then_ S3.out hb S3.out.size)
          have B4 := hid (B3.out.below hb)
          have HN4 := hid (HN3.out.below hb)
          have HB4 := hid hb
          have HC4 := hid (then_ HB3.out hb HB3.out.size)
          clear hb
          have v0 := B4.out.c0
          have v1 := B4.out.c1
          by_cases hjt : j < k
          · obtain ⟨⟨x', y'⟩, hxy'⟩ : ∃ p, ns[j]? = some p := ⟨_, List.getElem?_eq_getElem (by omega)⟩
            obtain ⟨b1, off1, hA1, hbb, h1, h2⟩ := HN4.out.at_ HX.out
            injection hA1 with hA1
            injection hA1 with hA2 hA3
            subst hA2 hA3
            obtain ⟨b1, off1, hA1, _, h3, h4⟩ := HN4.out.at_ hxy'
            injection hA1 with hA1
            injection hA1 with hA2 hA3
            subst hA2 hA3
            have HX' := hid hxy'
            have hj0 : (0 : Int) ≤ (j : Int) := by omega
            have hj1 : (j : Int) < (ns.length : Int) := by omega
            have hj2 : (j : Int) < (k : Int) := by omega
            have m0 := fun p => (B4.out.mv p).c0
            have m1 := fun p => (B4.out.mv p).c1
            have m2 := fun p => cell_mv hbb h1 p
            have m3 := fun p => cell_mv hbb h2 p
            have m4 := fun p => cell_mv hbb h3 p
            have m5 := fun p => cell_mv hbb h4 p
            clear h1 h2 h3 h4 hbb hxy'
            have D := hid (show (!eqP (ptN ns j).1 (ptN ns j).2 x y) = !eqP x' y' x y by rw [ptN_of HX'.out])
            cases e2 : eqP x' y' x y
            all_goals
              have E2 := hid e2
              go_wp2_with fail
              refine wp_region_mv (by kernel_rfl) (by kernel_rfl) ?_
              repeat (go_big_quiet_step (fail))
              refine wpQuiet_nil ?_
              intro _ hw'
              obtain ⟨q, hw''⟩ := hw'
              subst hw''
              go_wp2
            · go_roundw
              case rel => exact ⟨j + 1, by omega, by go_num, hid (by rw [allB_succ, hdj.out, D.out, E2.out]; rfl), then_ HB4.out (below_mv _ q) HB4.out.size⟩
              case measure => simp [intOf]; omega
            · go_ret
              have ZZ : (!hasP (ns.take k) (ptN ns k).1 (ptN ns k).2) = false := by
                rw [ptN_of HX.out, has_allB ns x y k hk]
                exact allB_no hjt (show (!eqP (ptN ns j).1 (ptN ns j).2 x y) = false by rw [D.out, E2.out]; rfl)
              exact ⟨ret_bool (by rw [show distinctB ns = false from allB_no hlt ZZ]; simp), then_ S4.out (below_mv _ q) S4.out.size⟩
          · have he : j = k := by omega
            subst he
            have ZZ := hid (show (!hasP (ns.take j) (ptN ns j).1 (ptN ns j).2) = true by rw [ptN_of HX.out, has_allB ns x y j hk]; exact hdj.out)
            go_wp2
            go_roundw
            case rel => exact ⟨j + 1, by omega, by go_num, hid (by rw [okAll_snoc _ _ _ _ HX.out, ho.out, EN.out]; rfl), hid (by rw [allB_succ, hd.out, ZZ.out]; rfl), HC4.out⟩
            case measure => simp [intOf]; omega
    · have he : k = ns.length := by omega
      subst he
      have OO := hid (show okAll ns = true by have := ho.out; rwa [List.take_length] at this)
      have DD := hid (show distinctB ns = true from hd.out)
      clear hd ho
      obtain ⟨wo, hwo⟩ : ∃ W : World, W = wr := ⟨_, rfl⟩
      subst hwo
      go_wp2
      go_loopw [5] (fun i wr => ∃ k : Nat, k ≤ ls.length ∧ i = .int .i64 k ∧ Hid (allB k (leadLine ns ls) = true) ∧ Below wo.heap.size wo wr) (fun i _ => ls.length - (intOf i).toNat)
      case atStart => exact ⟨0, Nat.zero_le _, rfl, hid rfl, Below.refl _ _⟩
      case round =>
        obtain ⟨k, hk, rfl, hd, hb⟩ := hrel
        clear v0 v1
        have S3 := hid (then_ S2.out hb S2.out.size)
        have B3 := hid (B2.out.below hb)
        have HN3 := hid (HN2.out.below hb)
        have HL3 := hid (HL2.out.below hb)
        have HB3 := hid hb
        clear hb
        have v0 := B3.out.c0
        have v1 := B3.out.c1
        have vlt := B3.out.lt
        by_cases hlt : k < ls.length
        · obtain ⟨⟨f, t⟩, hft⟩ : ∃ p, ls[k]? = some p := ⟨_, List.getElem?_eq_getElem hlt⟩
          obtain ⟨b, off, rfl, hbb, h1, h2⟩ := HL3.out.at_ hft
          have HF := hid hft
          clear hft
          have hk0 : (0 : Int) ≤ (k : Int) := by omega
          have hk1 : (k : Int) ≤ (c' : Int) := by omega
          have hk2 : k ≤ c' := by omega
          have hkl : k ≤ ls.length := hk
          go_wp2_with fail
          have X3 := hid (Box2.new wr f t 30 wr.heap.size rfl)
          have hal : Below wr.heap.size wr (wr.alloc (.cells #[.int .i64 f, .int .i64 t] 30)) := (Below.refl _ _).alloc (Nat.le_refl _) _
          have B4 := hid (B3.out.below hal)
          have HN4 := hid (HN3.out.below hal)
          have HL4 := hid (HL3.out.below hal)
          have S4 := hid (then_ S3.out hal S3.out.size)
          have HB4 := hid (then_ HB3.out hal HB3.out.size)
          clear hal h1 h2 v0 v1 vlt hbb
          refine (sLeadOk_any _ ns _ _ _ HN4.out).mono ?_
          rintro e w5 ⟨rfl, hb5⟩
          have X5 := hid (X3.out.below hb5)
          have B5 := hid (B4.out.below hb5)
          have HN5 := hid (HN4.out.below hb5)
          have HL5 := hid (HL4.out.below hb5)
          have S5 := hid (then_ S4.out hb5 S4.out.size)
          have HB5 := hid (then_ HB4.out hb5 HB4.out.size)
          clear hb5
          have LL := hid (show leadLine ns ls k = (leadOkB ns f t && (allB k (fun j => !doCrossB ns f t (ptN ls j).1 (ptN ls j).2) && allB ns.length (freeB ns (f, t)))) by unfold leadLine; rw [ptN_of HF.out])
          cases e1 : leadOkB ns f t
          · go_wp2
            go_ret
            exact ⟨ret_bool (by rw [show allB ls.length (leadLine ns ls) = false from allB_no hlt (by rw [LL.out, e1]; rfl)]; simp), S5.out⟩
          · have E1 := hid e1
            clear e1
            have x0 := X5.out.c0
            have x1 := X5.out.c1
            have v0 := B5.out.c0
            have v1 := B5.out.c1
            go_wp2
            go_loopw [7] (fun i wr => ∃ j : Nat, j ≤ k ∧ i = .int .i64 j ∧ Hid (allB j (fun j => !doCrossB ns f t (ptN ls j).1 (ptN ls j).2) = true) ∧ Below w5.heap.size w5 wr) (fun i _ => k - (intOf i).toNat)
            case atStart => exact ⟨0, Nat.zero_le _, rfl, hid rfl, Below.refl _ _⟩
            case round =>
              obtain ⟨j, hj, rfl, hdj, hb⟩ := hrel
              clear v0 v1 x0 x1
              have S6 := hid (then_ S5.out hb S5.out.size)
              have X6 := hid (X5.out.below hb)
              have B6 := hid (B5.out.below hb)
              have HN6 := hid (HN5.out.below hb)
              have HL6 := hid (HL5.out.below hb)
              have HB6 := hid hb
              have HC6 := hid (then_ HB5.out hb HB5.out.size)
              clear hb
              have v0 := B6.out.c0
              have v1 := B6.out.c1
              have x0 := X6.out.c0
              have x1 := X6.out.c1
              have vlt := B6.out.lt
              have xlt := X6.out.lt
              by_cases hjt : j < k
              · obtain ⟨⟨g, u⟩, hgu⟩ : ∃ p, ls[j]? = some p := ⟨_, List.getElem?_eq_getElem (by omega)⟩
                obtain ⟨b', off', hAA, hbb, h1, h2⟩ := HL6.out.at_ hgu
                injection hAA with hAA
                injection hAA with hA1 hA2
                subst hA1 hA2
                have HG := hid hgu
                clear hgu
                have hj0 : (0 : Int) ≤ (j : Int) := by omega
                have hj1 : (j : Int) < (k : Int) := by omega
                have m0 := fun p => (B6.out.mv p).c0
                have m1 := fun p => (B6.out.mv p).c1
                have m2 := fun p => (X6.out.mv p).c0
                have m3 := fun p => (X6.out.mv p).c1
                have m4 := fun p => cell_mv hbb h1 p
                have m5 := fun p => cell_mv hbb h2 p
                clear h1 h2 hbb
                have hj2 : (j : Int) < (ls.length : Int) := by omega
                have D := hid (show (!doCrossB ns f t (ptN ls j).1 (ptN ls j).2) = !doCrossB ns f t g u by rw [ptN_of HG.out])
                cases e2 : doCrossB ns f t g u
                all_goals
                  have E2 := hid e2
                  have e3 : doCrossB ns g u f t = doCrossB ns f t g u := doCrossB_comm ..
                  rw [e2] at e3
                  clear e2
                  have E3 := hid e3
                  clear e3
                  go_wp2_with fail
                  refine wp_region_mv (by kernel_rfl) (by kernel_rfl) ?_
                  repeat (go_big_quiet_step ((go_at_call 37; exact calls_mv ((sCross_any _ ns _ _ _ _ _ (HN6.out.below (below_mv _ _))).mono fun _ _ h => ⟨h.1.trans (ret_bool E3.out), h.2⟩))))
                  refine wpQuiet_nil ?_
                  intro _ hw'
                  obtain ⟨q, hw''⟩ := hw'
                  subst hw''
                  go_wp2
                · go_roundw
                  case rel => exact ⟨j + 1, by omega, by go_num, hid (by rw [allB_succ, hdj.out, D.out, E2.out]; rfl), then_ HB6.out (below_mv _ q) HB6.out.size⟩
                  case measure => simp [intOf]; omega
                · go_ret
                  exact ⟨ret_bool (by rw [show allB ls.length (leadLine ns ls) = false from allB_no hlt (by rw [LL.out, show allB k (fun j => !doCrossB ns f t (ptN ls j).1 (ptN ls j).2) = false from allB_no hjt (show (!doCrossB ns f t (ptN ls j).1 (ptN ls j).2) = false by rw [D.out, E2.out]; rfl)]; simp)]; simp), then_ S6.out (below_mv _ q) S6.out.size⟩
              · have he : j = k := by omega
                subst he
                have DJ := hid hdj.out
                clear hdj
                obtain ⟨w9, hw9⟩ : ∃ W : World, W = wr := ⟨_, rfl⟩
                subst hw9
                go_wp2_with fail
                go_loopw [8] (fun i wr => ∃ m : Nat, m ≤ ns.length ∧ i = .int .i64 m ∧ Hid (allB m (freeB ns (f, t)) = true) ∧ Below w9.heap.size w9 wr) (fun i _ => ns.length - (intOf i).toNat)
                case atStart => exact ⟨0, Nat.zero_le _, rfl, hid rfl, Below.refl _ _⟩
                case round =>
                  obtain ⟨m, hmm, rfl, hdm, hb⟩ := hrel
                  clear v0 v1 x0 x1 vlt xlt
                  have S10 := hid (then_ S6.out hb S6.out.size)
                  have X10 := hid (X6.out.below hb)
                  have B10 := hid (B6.out.below hb)
                  have HN10 := hid (HN6.out.below hb)
                  have HB10 := hid hb
                  have HC10 := hid (then_ HC6.out hb HC6.out.size)
                  clear hb
                  have v0 := B10.out.c0
                  have v1 := B10.out.c1
                  have x0 := X10.out.c0
                  have x1 := X10.out.c1
                  have vlt := B10.out.lt
                  have xlt := X10.out.lt
                  by_cases hmt : m < ns.length
                  · obtain ⟨⟨x, y⟩, hxy⟩ : ∃ p, ns[m]? = some p := ⟨_, List.getElem?_eq_getElem hmt⟩
                    obtain ⟨b', off', rfl, hbb, h1, h2⟩ := HN10.out.at_ hxy
                    have HXY := hid hxy
                    clear hxy
                    have hm0 : (0 : Int) ≤ (m : Int) := by omega
                    have hm1 : (m : Int) < (ns.length : Int) := by omega
                    have m0 := fun p => (B10.out.mv p).c0
                    have m1 := fun p => (B10.out.mv p).c1
                    have m2 := fun p => (X10.out.mv p).c0
                    have m3 := fun p => (X10.out.mv p).c1
                    have m4 := fun p => cell_mv hbb h1 p
                    have m5 := fun p => cell_mv hbb h2 p
                    clear h1 h2 hbb
                    have D := hid (show freeB ns (f, t) m = (((m : Int) == f) || (((m : Int) == t) || !onLeadB ns f t x y)) by unfold freeB; rw [ptN_of HXY.out])
                    by_cases q1 : (m : Int) = f
                    · have q1' : ((m : Int) != f) = false := by simp [q1]
                      have Q1 := hid q1
                      clear q1
                      go_wp2_with fail
                      refine wp_region_mv (by kernel_rfl) (by kernel_rfl) ?_
                      repeat (go_big_quiet_step (fail))
                      refine wpQuiet_nil ?_
                      intro _ hw'
                      obtain ⟨q, hw''⟩ := hw'
                      subst hw''
                      go_wp2
                      go_roundw
                      case rel => exact ⟨m + 1, by omega, by go_num, hid (by rw [allB_succ, hdm.out, D.out]; simp [Q1.out]), then_ HB10.out (below_mv _ q) HB10.out.size⟩
                      case measure => simp [intOf]; omega
                    · have q1' : ((m : Int) != f) = true := by simp [q1]
                      by_cases q2 : (m : Int) = t
                      · have q2' : ((m : Int) != t) = false := by simp [q2]
                        have Q2 := hid q2
                        clear q2 q1
                        go_wp2_with fail
                        refine wp_region_mv (by kernel_rfl) (by kernel_rfl) ?_
                        repeat (go_big_quiet_step (fail))
                        refine wpQuiet_nil ?_
                        intro _ hw'
                        obtain ⟨q, hw''⟩ := hw'
                        subst hw''
                        go_wp2
                        go_roundw
                        case rel => exact ⟨m + 1, by omega, by go_num, hid (by rw [allB_succ, hdm.out, D.out]; simp [Q2.out]), then_ HB10.out (below_mv _ q) HB10.out.size⟩
                        case measure => simp [intOf]; omega
                      · have q2' : ((m : Int) != t) = true := by simp [q2]
                        cases e2 : onLeadB ns f t x y
                        all_goals
                          have E2 := hid e2
                          clear e2
                          go_wp2_with fail
                          refine wp_region_mv (by kernel_rfl) (by kernel_rfl) ?_
                          repeat (go_big_quiet_step (((go_at_call 38; exact calls_mv ((sOn_any _ ns _ _ _ _ _ (HN10.out.below (below_mv _ _))).mono fun _ _ h => ⟨h.1.trans (ret_bool E2.out), h.2⟩)))))
                          refine wpQuiet_nil ?_
                          intro _ hw'
                          obtain ⟨q, hw''⟩ := hw'
                          subst hw''
                          go_wp2
                        · go_roundw
                          case rel => exact ⟨m + 1, by omega, by go_num, hid (by rw [allB_succ, hdm.out, D.out, E2.out]; simp), then_ HB10.out (below_mv _ q) HB10.out.size⟩
                          case measure => simp [intOf]; omega
                        · go_ret
                          exact ⟨ret_bool (by rw [show allB ls.length (leadLine ns ls) = false from allB_no hlt (by rw [LL.out, show allB ns.length (freeB ns (f, t)) = false from allB_no hmt (by rw [D.out, E2.out]; simp [q1, q2])]; simp)]; simp), then_ S10.out (below_mv _ q) S10.out.size⟩
                  · have he : m = ns.length := by omega
                    subst he
                    go_wp2
                    go_roundw
                    case rel => exact ⟨j + 1, by omega, by go_num, hid (by rw [allB_succ, hd.out, LL.out, E1.out, DJ.out, hdm.out]; rfl), HC10.out⟩
                    case measure => simp [intOf]; omega
        · have he : k = ls.length := by omega
          subst he
          go_wp2
          go_ret
          exact ⟨ret_bool (by rw [OO.out, DD.out, hd.out]; rfl), S3.out⟩
theorem sWin_any (vn vl : Value) (ns ls : List (Int × Int)) (w : World) (hn : PairsAt w vn ns) (hl : PairsAt w vl ls) : Calls Try.prog 26 #[.agg #[vn, vl]] w fun e w' => e = .returned (.bool (winOkB ns ls)) ∧ Below w.heap.size w w' := by
  cases h : (inB ns.length 1 12 && decide ((ls.length : Int) ≤ 20))
  · refine (sWin_early vn vl ns ls w hn hl h).mono fun _ _ ⟨he, hb⟩ => ⟨he.trans (ret_bool ?_), hb⟩
    rw [show winOkB ns ls = ((inB ns.length 1 12 && decide ((ls.length : Int) ≤ 20)) && (okAll ns && (distinctB ns && allB ls.length (leadLine ns ls)))) by simp [winOkB, Bool.and_assoc], h]; rfl
  · simp only [Bool.and_eq_true, decide_eq_true_iff] at h
    obtain ⟨h1, h2⟩ := h
    refine (sWin_late vn vl ns ls w hn hl h1 h2).mono fun _ _ ⟨he, hb⟩ => ⟨he.trans (ret_bool ?_), hb⟩
    simp [winOkB, h1, h2]
end Go.Proofs.Ytbijbohkpjnjnaa
