/- The reference's list of the labels of the nodes of a valid window. No condition but that the window is valid. -/
import Derived.Test.YtdhppajfdcfikaaPartw
namespace Go.Proofs.Ytdhppajfdcfikaa
open Go.ChangeShapes Go.WideShapes Go.ChangeAt Go.RowKit
set_option maxHeartbeats 2000000
set_option linter.unusedSimpArgs false
set_option linter.unusedVariables false
theorem sParts_any (vn vl : Value) (ns ls : List (Int × Int)) (w : World) (hn : PairsAt w vn ns) (hl : PairsAt w vl ls) (hok : winOkB ns ls = true) : Calls Try.prog 94 #[.agg #[vn, vl]] w (NewInts (fnL ns.length (lb (nl ls))) w) := by
  have s0 : Below w.heap.size w (w.alloc (.cells #[vn, vl] 31)) := (Below.refl _ _).alloc (Nat.le_refl _) _
  have HL := hid (hl.below s0)
  have B0 := hid (BoxV.new w vn vl 31 w.heap.size rfl)
  have S0 := hid s0
  clear s0
  obtain ⟨A, c, rfl, hcn, hm, _⟩ := id hn
  obtain ⟨A', c', rfl, hcl, hm', _⟩ := id hl
  unfold maxLen at hm hm'
  clear hn hl
  have hwl := win_leads hok
  have hnl := win_nl hok
  have HOK := hid hok
  obtain ⟨i0, hinf, hz0, hz1, hz2⟩ := info_parts infoI
  have HINF := hid (And.intro hinf (And.intro hz0 (And.intro hz1 hz2)))
  clear hinf hz0 hz1 hz2
  have nil0 : OwnInts (w.heap.size + 1) ((w.alloc (.cells #[.slice A ns.length c, .slice A' ls.length c'] 31)).alloc (.cells #[] 3)) (.slice (some ⟨w.heap.size + 1, 0, none⟩) 0 0) [] := by
    have := World.ownsRow_lit (w.alloc (.cells #[.slice A ns.length c, .slice A' ls.length c'] 31)) (base := w.heap.size + 1) (e := 3) (size := 1) #[] 0 (by simp) (by unfold maxLen; omega) (by simp)
    simpa [OwnInts, ints] using this
  have N0 := hid nil0
  clear nil0
  have V0 : Hid (Below (w.heap.size + 1) (w.alloc (.cells #[.slice A ns.length c, .slice A' ls.length c'] 31)) ((w.alloc (.cells #[.slice A ns.length c, .slice A' ls.length c'] 31)).alloc (.cells #[] 3))) := hid ((Below.refl _ _).alloc (by simp) _)
  have v0 := B0.out.c0
  have v1 := B0.out.c1
  have WW : Hid (∀ wr, Below (w.heap.size + 1) (w.alloc (.cells #[.slice A ns.length c, .slice A' ls.length c'] 31)) wr → BoxV wr w.heap.size (.slice A ns.length c) (.slice A' ls.length c') ∧ PairsAt wr (.slice A' ls.length c') ls ∧ w.heap.size + 1 ≤ wr.heap.size) := hid (fun wr h => by
    have h' : Below (w.alloc (.cells #[.slice A ns.length c, .slice A' ls.length c'] 31)).heap.size (w.alloc (.cells #[.slice A ns.length c, .slice A' ls.length c'] 31)) wr := by simpa using h
    exact ⟨B0.out.below h', HL.out.below h', by have := h'.size; simpa using this⟩)
  go_enter Try.func94, Try.ntmps94
  go_wp2_with fail
  go_loopw [3, 4] (fun v i wr => ∃ k : Nat, k ≤ ns.length ∧ i = .int .i64 k ∧ Hid (OwnInts (w.heap.size + 1) wr v (fnL k (fun i => i))) ∧ Hid (Below (w.heap.size + 1) (w.alloc (.cells #[.slice A ns.length c, .slice A' ls.length c'] 31)) wr)) (fun _ i _ => ns.length - (intOf i).toNat)
  case atStart => exact ⟨0, Nat.zero_le _, rfl, N0, V0⟩
  case round =>
    obtain ⟨k, hk, rfl, HOW, HB⟩ := hrel
    obtain ⟨bx, px, z1⟩ := WW.out _ HB.out
    clear v0 v1
    have v0 := bx.c0
    have v1 := bx.c1
    have vlt := bx.lt
    clear bx px
    by_cases hlt : k < ns.length
    · have hk0 : (0 : Int) ≤ (k : Int) := by omega
      have hk1 : (k : Int) < (ns.length : Int) := by omega
      have C3 := hid (show (fnL k (fun i => i)).length + 1 ≤ maxLen by rw [fnL_len]; unfold maxLen; omega)
      have C4 := hid (show ((fnL k (fun i => i)).length + 1) * 8 ≤ 140737488355328 by rw [fnL_len]; omega)
      go_wp2_with (at_builtin; obtain ⟨hinf, hz0, hz1, hz2⟩ := HINF.out; refine wpList_append_own _ rfl _ _ 37 rfl (w.heap.size + 1) 3 i0 (.int .i64 0) 1 8 Try.underlying37 hinf hz0 hz1 hz2 rfl (by decide) _ _ _ rfl (HOW.out.alloc _) ⟨wr.heap.size, 0, none⟩ 1 1 [.int .i64 k] rfl rfl (cell_one_new wr (.int .i64 k) 3) (by simp [Value.oneCell']) C3.out C4.out (by simp; omega) ?_)
      intro v' w' hown' hgrow _
      have O9 := hid hown'
      have B9 := hid ((HB.out.alloc z1 (.cells #[.int .i64 k] 3)).grown hgrow (by simp; omega) (fun g hg => (HOW.out.lt g hg).1))
      clear hown' hgrow
      go_wp2
      go_roundw
      case rel => exact ⟨k + 1, by omega, by go_num, hid (by unfold OwnInts; rw [fnL_succ]; simpa [ints] using O9.out), B9⟩
      case measure => simp [intOf]; omega
    · have he : k = ns.length := by omega
      subst he
      obtain ⟨A9, c9, hv9⟩ := own_form HOW.out
      rw [fnL_len] at hv9
      have hA9 : ∃ g, A9 = some ⟨g, 0, none⟩ := by
        rcases HOW.out.2 with ⟨h', h''⟩ | ⟨g, cap, cur, h', _⟩
        · rw [fnL_len] at h''; omega
        · rw [hv9] at h'; injection h' with h' _ _; exact ⟨g, h'⟩
      obtain ⟨g, rfl⟩ := hA9
      subst hv9
      have O1 : Hid (wr.ownsRow (w.heap.size + 1) 3 1 (.slice (some ⟨g, 0, none⟩) ns.length c9) ns.length (ints (fnL ns.length (lbAll ((nl ls).take 0) (fun i => i))))) := hid (by
        have := HOW.out; unfold OwnInts at this; rw [fnL_len] at this; exact this)
      clear HOW
      have GB := hid (show w.heap.size + 1 ≤ g from (O1.out.lt g rfl).1)
      go_wp2_with fail
      go_loopw [5] (fun i wr => ∃ k : Nat, k ≤ ls.length ∧ i = .int .i64 k ∧ Hid (wr.ownsRow (w.heap.size + 1) 3 1 (.slice (some ⟨g, 0, none⟩) ns.length c9) ns.length (ints (fnL ns.length (lbAll ((nl ls).take k) (fun i => i))))) ∧ Hid (Below (w.heap.size + 1) (w.alloc (.cells #[.slice A ns.length c, .slice A' ls.length c'] 31)) wr)) (fun i _ => ls.length - (intOf i).toNat)
      case atStart => exact ⟨0, Nat.zero_le _, rfl, O1, HB⟩
      case round =>
        clear v0 v1 vlt O1 HB
        obtain ⟨k, hk, rfl, HO, HB⟩ := hrel
        obtain ⟨bx, px, z1⟩ := WW.out _ HB.out
        have v0 := bx.c0
        have v1 := bx.c1
        have vlt := bx.lt
        have L2 := hid px
        clear bx px
        by_cases hkt : k < ls.length
        · obtain ⟨⟨f0, t0⟩, hft⟩ : ∃ p, ls[k]? = some p := ⟨_, List.getElem?_eq_getElem hkt⟩
          obtain ⟨e0, e1, e2⟩ := win_ends HOK.out hft
          obtain ⟨b1, off, rfl, hbb, h1, h2⟩ := L2.out.at_ hft
          have hn := nl_get hft
          obtain ⟨f, rfl⟩ : ∃ f : Nat, f0 = (f : Int) := ⟨f0.toNat, by omega⟩
          obtain ⟨t, rfl⟩ : ∃ t : Nat, t0 = (t : Int) := ⟨t0.toNat, by omega⟩
          have E := hid (show lbAll ((nl ls).take (k + 1)) (fun i => i) = lbStep (lbAll ((nl ls).take k) (fun i => i)) (f, t) from lbAll_take_succ _ _ _ _ hn)
          have LE := hid (lbAll_le ((nl ls).take k) (fun i => i) (fun i => Nat.le_refl i))
          clear hft hn
          generalize lbAll ((nl ls).take k) (fun i => i) = F at HO E LE
          have hk0 : (0 : Int) ≤ (k : Int) := by omega
          have hk1 : (k : Int) < (ls.length : Int) := by omega
          have hf0 : (0 : Int) ≤ (f : Int) := by omega
          have hf1 : (f : Int) < (ns.length : Int) := by omega
          have ht0 : (0 : Int) ≤ (t : Int) := by omega
          have ht1 : (t : Int) < (ns.length : Int) := by omega
          have cellv : Hid (∀ (W : World) (G : Nat → Nat), W.ownsRow (w.heap.size + 1) 3 1 (.slice (some ⟨g, 0, none⟩) ns.length c9) ns.length (ints (fnL ns.length G)) → ∀ i, i < ns.length → W.cell? ⟨g, i, none⟩ = some (.int .i64 ((G i : Nat) : Int))) := hid (fun W G ho i hi => by
            rw [World.ownsRow.cellAt ho i (by omega)]
            unfold ints
            rw [List.getElem?_map, fnL_get _ _ _ hi]; rfl)
          have ca := cellv.out wr F HO.out f (by omega)
          have cb := cellv.out wr F HO.out t (by omega)
          obtain ⟨a, ha⟩ : ∃ a, a = F f := ⟨_, rfl⟩
          obtain ⟨b, hb⟩ : ∃ b, b = F t := ⟨_, rfl⟩
          rw [← ha] at ca
          rw [← hb] at cb
          have HA := hid ha
          have HBB := hid hb
          have la : a ≤ 12 := by have := LE.out f; omega
          have lb' : b ≤ 12 := by have := LE.out t; omega
          clear ha hb
          go_wp2_with fail
          obtain ⟨wo, rfl⟩ : ∃ wo : World, wo = wr := ⟨_, rfl⟩
          go_loopw [8] (fun i wr => ∃ j : Nat, j ≤ ns.length ∧ i = .int .i64 j ∧ Hid (wr.ownsRow (w.heap.size + 1) 3 1 (.slice (some ⟨g, 0, none⟩) ns.length c9) ns.length (ints (fnL ns.length (stepTo F (f, t) j)))) ∧ Hid (Below (w.heap.size + 1) (w.alloc (.cells #[.slice A ns.length c, .slice (some ⟨b1, off, none⟩) ls.length c'] 31)) wr)) (fun i _ => ns.length - (intOf i).toNat)
          case atStart => exact ⟨0, Nat.zero_le _, rfl, hid (by rw [stepTo_zero]; exact HO.out), HB⟩
          case round =>
            clear v0 v1 vlt ca cb HB
            obtain ⟨j, hj, rfl, HO, HB⟩ := hrel
            by_cases hjt : j < ns.length
            · have cj := cellv.out wr _ HO.out j hjt
              have ej : stepTo F (f, t) j j = F j := by unfold stepTo; rw [if_neg (by omega)]
              rw [ej] at cj
              have lj : F j ≤ 12 := by have := LE.out j; omega
              have hj0 : (0 : Int) ≤ (j : Int) := by omega
              have hj1 : (j : Int) < (ns.length : Int) := by omega
              have fz : wr.frozen? ⟨g, j, none⟩ = false := World.ownsRow.frozenAt HO.out j
              clear ej
              have hab : a < b ∨ a = b ∨ b < a := by omega
              by_cases hyes : F j = max (F f) (F t)
              · have Y := hid (stepTo_yes ns.length F (f, t) j hjt hyes)
                have hmx : F j = max a b := by rw [HA.out, HBB.out]; exact hyes
                have HM := hid (show min (F f) (F t) = min a b by rw [HA.out, HBB.out])
                obtain ⟨x, hx⟩ : ∃ x, x = F j := ⟨_, rfl⟩
                rw [← hx] at cj hmx lj
                clear hyes hx
                rcases hab with hab | rfl | hab
                all_goals
                  have hx2 := hmx
                  first | rw [Nat.max_eq_right (Nat.le_of_lt hab)] at hx2 | rw [Nat.max_eq_left (Nat.le_of_lt hab)] at hx2 | rw [Nat.max_self] at hx2
                  subst hx2
                  clear hmx
                  go_wp2
                  go_roundw
                  case rel =>
                    have st := fun u => World.ownsRow.stored HO.out j (.int .i64 u)
                    refine ⟨j + 1, by omega, by go_num, hid ?_, hid ?_⟩
                    · rw [Y.out]
                      have e : ∀ (xs : List Int) (i : Nat) (u : Int), ints (xs.set i u) = (ints xs).set i (.int .i64 u) := fun xs i u => by simp [ints, List.map_set]
                      rw [e]
                      show World.ownsRow _ _ _ _ _ _ ((ints (fnL ns.length (stepTo F (f, t) j))).set j (.int .i64 ((min (F f) (F t) : Nat) : Int)))
                      rw [HM.out]
                      first | rw [Nat.min_eq_left (Nat.le_of_lt hab)] | rw [Nat.min_eq_right (Nat.le_of_lt hab)] | rw [Nat.min_self]
                      exact (st _).1
                    · exact HB.out.grown (st _).2 (by have := HB.out.size; simpa using this) (fun g' hg' => by cases hg'; exact GB.out)
                  case measure => simp [intOf]; omega
              · have Y := hid (stepTo_no ns.length F (f, t) j hyes)
                have hmx : ¬ F j = max a b := by rw [HA.out, HBB.out]; exact hyes
                obtain ⟨x, hx⟩ : ∃ x, x = F j := ⟨_, rfl⟩
                rw [← hx] at cj hmx lj
                clear hyes hx
                rcases hab with hab | rfl | hab
                all_goals
                  have hx2 := hmx
                  first | rw [Nat.max_eq_right (Nat.le_of_lt hab)] at hx2 | rw [Nat.max_eq_left (Nat.le_of_lt hab)] at hx2 | rw [Nat.max_self] at hx2
                  clear hmx
                  first | have hx3 : ((x : Int) == (b : Int)) = false := (by simp; omega) | have hx3 : ((x : Int) == (a : Int)) = false := (by simp; omega)
                  go_wp2
                  go_roundw
                  case rel => exact ⟨j + 1, by omega, by go_num, hid (by rw [Y.out]; exact HO.out), HB⟩
                  case measure => simp [intOf]; omega
            · have he : j = ns.length := by omega
              subst he
              have HO2 := hid (show wr.ownsRow (w.heap.size + 1) 3 1 (.slice (some ⟨g, 0, none⟩) ns.length c9) ns.length (ints (fnL ns.length (lbAll ((nl ls).take (k + 1)) (fun i => i)))) by rw [E.out, ← stepTo_all]; exact HO.out)
              go_wp2
              go_roundw
              case rel => exact ⟨k + 1, by omega, by go_num, HO2, HB⟩
              case measure => simp [intOf]; omega
        · have he : k = ls.length := by omega
          subst he
          have HO2 := hid (show OwnInts (w.heap.size + 1) wr (.slice (some ⟨g, 0, none⟩) ns.length c9) (fnL ns.length (lb (nl ls))) by
            have := HO.out
            rw [List.take_of_length_le (by simp [nl])] at this
            unfold OwnInts; rw [fnL_len]; exact this)
          have HF := hid (S0.out.trans (HB.out.mono (by omega)))
          go_wp2
          go_ret
          exact ⟨_, rfl, own_less HO2.out (by omega), HF.out⟩
end Go.Proofs.Ytdhppajfdcfikaa
