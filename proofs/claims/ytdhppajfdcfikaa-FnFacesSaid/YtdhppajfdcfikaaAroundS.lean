/- The reference's list of the darts around a node of a valid window. No condition but that the window is valid and has the node. -/
import Derived.Test.YtdhppajfdcfikaaAroundP
import Derived.Test.YtdhppajfdcfikaaLeadsAt
namespace Go.Proofs.Ytdhppajfdcfikaa
open Go.ChangeShapes Go.WideShapes Go.ChangeAt Go.RowKit
set_option maxHeartbeats 2000000
set_option linter.unusedSimpArgs false
set_option linter.unusedVariables false
/-! a row into which one number is being put -/
def row (l : List Int) (t : Nat) (x : Int) : List Int := l.take t ++ x :: l.drop t
theorem row_len (l : List Int) (t : Nat) (x : Int) : (row l t x).length = l.length + 1 := by
  unfold row; simp; omega
theorem row_end (l : List Int) (x : Int) : row l l.length x = l ++ [x] := by simp [row]
theorem row_set (l : List Int) (t : Nat) (x y : Int) (h : t ≤ l.length) : (row l t x).set t y = row l t y := by
  unfold row
  have e : t = (l.take t).length := by simp; omega
  rw [List.set_append_right _ _ (by omega)]
  rw [show t - (l.take t).length = 0 by omega]; rfl
theorem row_step (l : List Int) (m : Nat) (p : Int) (h : l[m]? = some p) : row l (m + 1) p = row l m p := by
  have hm : m < l.length := by
    rcases Nat.lt_or_ge m l.length with h' | h'
    · exact h'
    · rw [List.getElem?_eq_none h'] at h; cases h
  have hp : l[m] = p := by rw [List.getElem?_eq_getElem hm] at h; exact Option.some.inj h
  unfold row
  rw [List.take_add_one, h, List.drop_eq_getElem_cons hm, hp]; simp
theorem row_at (l : List Int) (t : Nat) (x : Int) (h : t ≤ l.length) : (row l t x)[t]? = some x := by
  unfold row
  rw [List.getElem?_append_right (by simp; omega)]
  rw [show t - (l.take t).length = 0 by simp; omega]; rfl
theorem row_prev (l : List Int) (m : Nat) (x p : Int) (h : l[m]? = some p) : (row l (m + 1) x)[m]? = some p := by
  have hm : m < l.length := by
    rcases Nat.lt_or_ge m l.length with h' | h'
    · exact h'
    · rw [List.getElem?_eq_none h'] at h; cases h
  unfold row
  rw [List.getElem?_append_left (by simp; omega), List.getElem?_take_of_lt (by omega)]; exact h
/-- d still has to find its place among the first t -/
def Ins (lt : Int → Int → Bool) (l : List Int) (t : Nat) (d : Int) : Prop := insD lt l d = (insR lt d (l.take t).reverse).reverse ++ l.drop t
theorem Ins.start (lt : Int → Int → Bool) (l : List Int) (d : Int) : Ins lt l l.length d := by
  unfold Ins insD; simp
theorem Ins.zero {lt : Int → Int → Bool} {l : List Int} {d : Int} (h : Ins lt l 0 d) : insD lt l d = row l 0 d := by
  unfold Ins at h; rw [h]; simp [insR, row]
theorem take_rev {l : List Int} {m : Nat} {p : Int} (hp : l[m]? = some p) : (l.take (m + 1)).reverse = p :: (l.take m).reverse := by
  rw [List.take_add_one, hp]; simp
theorem drop_one {l : List Int} {m : Nat} {p : Int} (hp : l[m]? = some p) : l.drop m = p :: l.drop (m + 1) := by
  have hm : m < l.length := by
    rcases Nat.lt_or_ge m l.length with h' | h'
    · exact h'
    · rw [List.getElem?_eq_none h'] at hp; cases hp
  rw [List.drop_eq_getElem_cons hm]
  rw [List.getElem?_eq_getElem hm] at hp; rw [Option.some.inj hp]
theorem Ins.yes {lt : Int → Int → Bool} {l : List Int} {m : Nat} {d p : Int} (h : Ins lt l (m + 1) d) (hp : l[m]? = some p) (hl : lt d p = true) : Ins lt l m d := by
  unfold Ins at *
  rw [h, take_rev hp, insR, if_pos hl, drop_one hp]; simp
theorem Ins.no {lt : Int → Int → Bool} {l : List Int} {m : Nat} {d p : Int} (h : Ins lt l (m + 1) d) (hp : l[m]? = some p) (hl : lt d p = false) : insD lt l d = row l (m + 1) d := by
  unfold Ins at h
  rw [h, take_rev hp, insR, if_neg (by rw [hl]; simp)]
  unfold row
  rw [List.take_add_one, hp]; simp
theorem own_cons {w : World} {B : Nat} {v : Value} {xs : List Int} (h : OwnInts B w v xs) (hne : 0 < xs.length) : ∃ g c, v = .slice (some ⟨g, 0, none⟩) xs.length c ∧ B ≤ g ∧ g < w.heap.size := by
  obtain ⟨A9, c9, hv9⟩ := own_form h
  rcases h.2 with ⟨h', h''⟩ | ⟨g, cap, cur, h', _⟩
  · omega
  · exact ⟨g, cap, h', (h.lt g (by rw [h']; rfl)).1, (h.lt g (by rw [h']; rfl)).2⟩
theorem own_cell {w : World} {B g c : Nat} {n : Nat} {xs : List Int} (h : w.ownsRow B 3 1 (.slice (some ⟨g, 0, none⟩) n c) n (ints xs)) (hn : xs.length = n) {i : Nat} {x : Int} (hi : xs[i]? = some x) : w.cell? ⟨g, i, none⟩ = some (.int .i64 x) := by
  have hlt : i < xs.length := by
    rcases Nat.lt_or_ge i xs.length with h' | h'
    · exact h'
    · rw [List.getElem?_eq_none h'] at hi; cases hi
  rw [World.ownsRow.cellAt h i (by omega)]
  unfold ints
  rw [List.getElem?_map, hi]; rfl
theorem around_dart {ns ls : List (Int × Int)} {k : Int} {n i : Nat} {p : Int} (h : (aroundN ns ls k n)[i]? = some p) : ∃ m : Nat, p = (m : Int) ∧ m < n ∧ dFrom ls (m : Int) = k := by
  have hm := List.mem_of_getElem? h
  rw [(aroundN_perm ns ls k n).mem_iff, mem_dartsAt] at hm
  obtain ⟨m, h1, h2, h3⟩ := hm
  exact ⟨m, h2, h1, h3⟩
theorem aroundN_len (ns ls : List (Int × Int)) (k : Int) (n : Nat) : (aroundN ns ls k n).length ≤ n := by
  rw [(aroundN_perm ns ls k n).length_eq]; exact dartsAt_len ls k n
theorem sAround_any (vn vl : Value) (ns ls : List (Int × Int)) (k : Nat) (w : World) (hn : PairsAt w vn ns) (hl : PairsAt w vl ls) (hok : winOkB ns ls = true) (hk : k < ns.length) : Calls Try.prog 118 #[.agg #[vn, vl], .int .i64 (k : Int)] w (NewInts (aroundF ns ls k) w) := by
  have s0 : Below w.heap.size w (w.alloc (.cells #[vn, vl] 31)) := (Below.refl _ _).alloc (Nat.le_refl _) _
  have HL := hid (hl.below s0)
  have HN := hid (hn.below s0)
  have B0 := hid (BoxV.new w vn vl 31 w.heap.size rfl)
  have S0 := hid s0
  clear s0
  obtain ⟨A, c, rfl, hcn, hm, _⟩ := id hn
  obtain ⟨A', c', rfl, hcl, hm', _⟩ := id hl
  unfold maxLen at hm hm'
  clear hn hl
  have WF := hid (win_facts hok)
  have hl20 := WF.out.m2
  have hn12 := WF.out.n2
  clear hok
  obtain ⟨i0, hinf, hz0, hz1, hz2⟩ := info_parts infoI
  have HINF := hid (And.intro hinf (And.intro hz0 (And.intro hz1 hz2)))
  clear hinf hz0 hz1 hz2
  have nil0 : OwnInts (w.heap.size + 1) ((w.alloc (.cells #[.slice A ns.length c, .slice A' ls.length c'] 31)).alloc (.cells #[] 3)) (.slice (some ⟨w.heap.size + 1, 0, none⟩) 0 0) [] := by
    have := World.ownsRow_lit (w.alloc (.cells #[.slice A ns.length c, .slice A' ls.length c'] 31)) (base := w.heap.size + 1) (e := 3) (size := 1) #[] 0 (by simp) (by unfold maxLen; omega) (by simp)
    simpa [OwnInts, ints] using this
  have N0 := hid nil0
  clear nil0
  have V0 : Hid (Below (w.heap.size + 1) (w.alloc (.cells #[.slice A ns.length c, .slice A' ls.length c'] 31)) ((w.alloc (.cells #[.slice A ns.length c, .slice A' ls.length c'] 31)).alloc (.cells #[] 3))) := hid ((Below.refl _ _).alloc (by simp) _)
  have v0 := B0.out.c0
  have v1 := B0.out.c1
  have WW : Hid (∀ wr, Below (w.heap.size + 1) (w.alloc (.cells #[.slice A ns.length c, .slice A' ls.length c'] 31)) wr → BoxV wr w.heap.size (.slice A ns.length c) (.slice A' ls.length c') ∧ PairsAt wr (.slice A ns.length c) ns ∧ PairsAt wr (.slice A' ls.length c') ls ∧ w.heap.size + 1 ≤ wr.heap.size) := hid (fun wr h => by
    have h' : Below (w.alloc (.cells #[.slice A ns.length c, .slice A' ls.length c'] 31)).heap.size (w.alloc (.cells #[.slice A ns.length c, .slice A' ls.length c'] 31)) wr := by simpa using h
    exact ⟨B0.out.below h', HN.out.below h', HL.out.below h', by have := h'.size; simpa using this⟩)
  have hk0 : (0 : Int) ≤ (k : Int) := by omega
  have hk1 : (k : Int) < (ns.length : Int) := by omega
  have q0 : IntKind.i64.wrap (2 * (ls.length : Int)) = 2 * (ls.length : Int) := IntWalk.i64_in _ (by omega)
  go_enter Try.func118, Try.ntmps118
  go_wp2_with fail
  go_loopw [5, 6] (fun v i wr => ∃ n : Nat, n ≤ 2 * ls.length ∧ i = .int .i64 n ∧ Hid (OwnInts (w.heap.size + 1) wr v (aroundN ns ls k n)) ∧ Hid (Below (w.heap.size + 1) (w.alloc (.cells #[.slice A ns.length c, .slice A' ls.length c'] 31)) wr)) (fun _ i _ => 2 * ls.length - (intOf i).toNat)
  case atStart => exact ⟨0, Nat.zero_le _, rfl, N0, V0⟩
  case round =>
    obtain ⟨n, hn2, rfl, HOW, HB⟩ := hrel
    obtain ⟨bx, pn, px, z1⟩ := WW.out _ HB.out
    clear v0 v1
    have v0 := bx.c0
    have v1 := bx.c1
    have vlt := bx.lt
    have PN := hid pn
    have PL := hid px
    clear bx pn px
    by_cases hlt : n < 2 * ls.length
    · have hd0 : (0 : Int) ≤ (n : Int) := by omega
      have hd1 : (n : Int) < 2 * (ls.length : Int) := by omega
      obtain ⟨a, b, ea, eb, la, lb', hab⟩ := WF.out.ends hlt
      have EA := hid ea
      have EB := hid eb
      have HAB := hid hab
      clear ea eb hab
      go_wp2_with fail
      refine (sEnds _ _ ns ls n _ PN.out PL.out hd0 hd1 (by omega)).mono ?_
      rintro e w1 ⟨rfl, hb⟩
      rw [EA.out, EB.out]
      have HB1 := hid (HB.out.trans (hb.mono z1))
      have HO1 := hid (own_below HOW.out hb)
      clear HB HOW hb v0 v1 vlt PN PL z1
      obtain ⟨bx, pn, px, z1⟩ := WW.out _ HB1.out
      have v0 := bx.c0
      have v1 := bx.c1
      have vlt := bx.lt
      clear bx pn px
      by_cases hak : a = k
      · subst hak
        have AL := hid (aroundN_len ns ls a n)
        have C3 := hid (show (aroundN ns ls a n).length + 1 ≤ maxLen by have := AL.out; unfold maxLen; omega)
        have C4 := hid (show ((aroundN ns ls a n).length + 1) * 8 ≤ 140737488355328 by have := AL.out; omega)
        obtain ⟨A9, c9, rfl⟩ := own_form HO1.out
        go_wp2_with (at_builtin; obtain ⟨hinf, hz0, hz1, hz2⟩ := HINF.out; refine wpList_append_own _ rfl _ _ 37 rfl (w.heap.size + 1) 3 i0 (.int .i64 0) 1 8 Try.underlying37 hinf hz0 hz1 hz2 rfl (by decide) _ _ _ rfl (HO1.out.alloc _) ⟨w1.heap.size, 0, none⟩ 1 1 [.int .i64 n] rfl rfl (cell_one_new w1 (.int .i64 n) 3) (by simp [Value.oneCell']) C3.out C4.out (by simp; omega) ?_)
        intro v' w' hown' hgrow _
        have HB2 := hid ((HB1.out.alloc z1 (.cells #[.int .i64 n] 3)).grown hgrow (by simp; omega) (fun g hg => (HO1.out.lt g hg).1))
        have O9 : Hid (OwnInts (w.heap.size + 1) w' v' (aroundN ns ls a n ++ [(n : Int)])) := hid (by unfold OwnInts; simpa [ints] using hown')
        clear hown' hgrow HO1 HB1
        obtain ⟨g, c8, hv', hg1, hg2⟩ := own_cons O9.out (by simp)
        subst hv'
        have INS := hid (Ins.start (befD ns ls a) (aroundN ns ls a n) (n : Int))
        have STEP := hid (aroundN_yes ns ls a n EA.out)
        have RO : Hid (w'.ownsRow (w.heap.size + 1) 3 1 (.slice (some ⟨g, 0, none⟩) (aroundN ns ls a n ++ [(n : Int)]).length c8) (aroundN ns ls a n ++ [(n : Int)]).length (ints (row (aroundN ns ls a n) (aroundN ns ls a n).length (n : Int)))) := hid (by rw [row_end]; exact O9.out)
        obtain ⟨L, hL⟩ : ∃ L, L = (aroundN ns ls a n ++ [(n : Int)]).length := ⟨_, rfl⟩
        rw [← hL] at RO ⊢
        have hL1 : L = (aroundN ns ls a n).length + 1 := by rw [hL]; simp
        clear hL O9 C3 C4
        have MEM := hid (fun i p h => around_dart (ns := ns) (ls := ls) (k := a) (n := n) (i := i) (p := p) h)
        have hLn : L ≤ n + 1 := by have := AL.out; omega
        clear AL
        generalize aroundN ns ls a n = l at RO INS STEP MEM hL1 ⊢
        have HL1 := hid hL1
        have GB := hid hg1
        have G2 := hid hg2
        clear v0 v1 vlt z1 hg1 hg2
        obtain ⟨x0, y0, hk9⟩ : ∃ x y, ns[a]? = some (x, y) := ⟨_, _, List.getElem?_eq_getElem hk⟩
        obtain ⟨x1, y1, hb9⟩ : ∃ x y, ns[b]? = some (x, y) := ⟨_, _, List.getElem?_eq_getElem lb'⟩
        have K9 := hid hk9
        have B9 := hid hb9
        clear hk9 hb9
        clear hL1
        go_wp2_with fail
        go_loopw [9] (fun i wr => ∃ t : Nat, ∃ x : Int, t ≤ l.length ∧ i = .int .i64 t ∧ Hid (wr.ownsRow (w.heap.size + 1) 3 1 (.slice (some ⟨g, 0, none⟩) L c8) L (ints (row l t x))) ∧ Hid (Ins (befD ns ls a) l t (n : Int)) ∧ Hid (Below (w.heap.size + 1) (w.alloc (.cells #[.slice A ns.length c, .slice A' ls.length c'] 31)) wr)) (fun i _ => (intOf i).toNat)
        case atStart => exact ⟨l.length, n, Nat.le_refl _, rfl, RO, INS, HB2⟩
        case round =>
          clear RO INS HB2
          obtain ⟨t, x, ht, rfl, RO, INS, HB2⟩ := hrel
          obtain ⟨bx, pn, px, z1⟩ := WW.out _ HB2.out
          have v0 := bx.c0
          have v1 := bx.c1
          have vlt := bx.lt
          have BX := hid bx
          have PN := hid pn
          have PL := hid px
          clear bx pn px
          have ct : wr.cell? ⟨g, t, none⟩ = some (.int .i64 x) := own_cell RO.out (by rw [row_len, HL1.out]) (row_at l t x ht)
          have fz : wr.frozen? ⟨g, t, none⟩ = false := World.ownsRow.frozenAt RO.out t
          have hg3 : g < wr.heap.size := (RO.out.lt g rfl).2
          have ht0 : (0 : Int) ≤ (t : Int) := by omega
          have ht1 : (t : Int) < (L : Int) := by have := HL1.out; omega
          by_cases hz : t = 0
          · subst hz
            go_wp2
            go_roundw
            case rel =>
              have st := World.ownsRow.stored RO.out 0 (.int .i64 n)
              refine ⟨n + 1, by omega, by go_num, hid ?_, hid ?_⟩
              · rw [STEP.out, INS.out.zero, ← row_set l 0 x n (Nat.zero_le _)]
                have e : ∀ (xs : List Int) (i : Nat) (u : Int), ints (xs.set i u) = (ints xs).set i (.int .i64 u) := fun xs i u => by simp [ints, List.map_set]
                unfold OwnInts
                rw [e]
                rw [List.length_set, row_len, ← HL1.out]
                exact st.1
              · exact HB2.out.grown st.2 z1 (fun g' hg' => by cases hg'; exact GB.out)
            case measure => simp [intOf]; omega
          · obtain ⟨m, rfl⟩ : ∃ m, t = m + 1 := ⟨t - 1, by omega⟩
            obtain ⟨p, hp⟩ : ∃ p, l[m]? = some p := ⟨_, List.getElem?_eq_getElem (by omega)⟩
            obtain ⟨p, rfl, hpn, hpk⟩ := MEM.out _ _ hp
            have cm : wr.cell? ⟨g, m, none⟩ = some (.int .i64 p) := own_cell RO.out (by rw [row_len, HL1.out]) (row_prev l m x p hp)
            obtain ⟨a', u, ea, eu, _, lu, hau⟩ := WF.out.ends (d := p) (by omega)
            have EU := hid eu
            have EA' := hid ea
            obtain ⟨x2, y2, hu9⟩ : ∃ x y, ns[u]? = some (x, y) := ⟨_, _, List.getElem?_eq_getElem lu⟩
            have U9 := hid hu9
            have HP := hid hp
            clear ea eu hu9 hp
            have qm : IntKind.i64.wrap (((m + 1 : Nat) : Int) - 1) = (m : Int) := by rw [IntWalk.i64_in _ (by omega)]; omega
            have hm0 : (0 : Int) ≤ (m : Int) := by omega
            have hm1 : (m : Int) < (L : Int) := by have := HL1.out; omega
            have hpos : (0 : Int) < ((m + 1 : Nat) : Int) := by omega
            have m0 := fun q => (BX.out.mv q).c0
            have m1 := fun q => (BX.out.mv q).c1
            have m2 := fun q => cell_mv hg3 cm q
            have CE := hid (fun q => sEnds _ _ ns ls p (mv wr q) (PN.out.below (below_mv wr q)) (PL.out.below (below_mv wr q)) (by omega) (by omega) (by omega))
            rw [EU.out, EA'.out] at CE
            go_wp2_with fail
            refine wp_region_mv (by kernel_rfl) (by kernel_rfl) ?_
            repeat (go_big_quiet_step ((go_at_call 69; exact calls_mv (CE.out _))))
            refine wpQuiet_nil ?_
            intro _ hw'
            obtain ⟨q, hw''⟩ := hw'
            subst hw''
            clear m0 m1 m2 CE
            have hb := below_mv wr q
            have HB3 := hid (HB2.out.trans (hb.mono z1))
            have RO3 : Hid ((mv wr q).ownsRow (w.heap.size + 1) 3 1 (.slice (some ⟨g, 0, none⟩) L c8) L (ints (row l (m + 1) x))) := hid (by
              have h1 : OwnInts (w.heap.size + 1) wr (.slice (some ⟨g, 0, none⟩) L c8) (row l (m + 1) x) := by unfold OwnInts; rw [row_len, ← HL1.out]; exact RO.out
              have h2 := own_below h1 hb
              unfold OwnInts at h2; rw [row_len, ← HL1.out] at h2; exact h2)
            clear RO HB2 v0 v1 vlt hb ct cm fz hg3 PN PL BX z1
            generalize mv wr q = w3 at HB3 RO3 ⊢
            obtain ⟨bx, pn, px, z1⟩ := WW.out _ HB3.out
            have v0 := bx.c0
            have v1 := bx.c1
            have vlt := bx.lt
            have BX := hid bx
            obtain ⟨g1, off, hAe, hbb, h1, h2⟩ := pn.at_ K9.out
            obtain ⟨g1', off', hAe', hbb', h3, h4⟩ := pn.at_ B9.out
            obtain ⟨g1'', off'', hAe'', hbb'', h5, h6⟩ := pn.at_ U9.out
            rw [hAe] at hAe' hAe''
            obtain ⟨rfl, rfl⟩ : g1 = g1' ∧ off = off' := by simpa using hAe'
            obtain ⟨rfl, rfl⟩ : g1 = g1'' ∧ off = off'' := by simpa using hAe''
            clear hAe' hAe'' hbb' hbb'' pn px
            subst hAe
            have m0 := fun q => (BX.out.mv q).c0
            have m1 := fun q => (BX.out.mv q).c1
            have k1 := fun q => cell_mv hbb h1 q
            have k2 := fun q => cell_mv hbb h2 q
            have k3 := fun q => cell_mv hbb h3 q
            have k4 := fun q => cell_mv hbb h4 q
            have k5 := fun q => cell_mv hbb h5 q
            have k6 := fun q => cell_mv hbb h6 q
            have hb0 : (0 : Int) ≤ (b : Int) := by omega
            have hb1 : (b : Int) < (ns.length : Int) := by omega
            have hu0 : (0 : Int) ≤ (u : Int) := by omega
            have hu1 : (u : Int) < (ns.length : Int) := by omega
            clear h1 h2 h3 h4 h5 h6
            have CB : Hid (∀ q, Calls Try.prog 122 #[.agg #[.int .i64 x0, .int .i64 y0], .agg #[.int .i64 x1, .int .i64 y1], .agg #[.int .i64 x2, .int .i64 y2]] (mv w3 q) fun e w' => e = .returned (.bool (befD ns ls a n p)) ∧ Below (mv w3 q).heap.size (mv w3 q) w') := hid (fun q => by
              have h := sBef_any x0 y0 x1 y1 x2 y2 (mv w3 q)
              have f0 : ptN ns a = (x0, y0) := ptN_of K9.out
              have f1 : ptN ns b = (x1, y1) := ptN_of B9.out
              have f2 : ptN ns u = (x2, y2) := ptN_of U9.out
              have e : bef x0 y0 x1 y1 x2 y2 = befD ns ls a n p := by
                have := bef_bef0 (WF.out.ok3 hk lb' lu)
                rw [f0, f1, f2] at this
                unfold befD
                rw [EB.out, EU.out]
                simp only [Int.toNat_natCast]
                rw [f0, f1, f2]; exact this
              rw [← e]; exact h)
            cases hbf : befD ns ls a n p
            all_goals
              have HBF := hid hbf
              have CB' := CB
              rw [hbf] at CB'
              clear hbf
              go_wp2_with fail
              refine wp_region_mv (by kernel_rfl) (by kernel_rfl) ?_
              repeat (go_big_quiet_step ((go_at_call 122; exact calls_mv (CB'.out _))))
              refine wpQuiet_nil ?_
              intro _ hw'
              obtain ⟨q2, hw''⟩ := hw'
              subst hw''
              clear m0 m1 k1 k2 k3 k4 k5 k6 CB' CB v0 v1 vlt BX hbb
              have hb := below_mv w3 q2
              have HB4 := hid (HB3.out.trans (hb.mono z1))
              have RO4 : Hid ((mv w3 q2).ownsRow (w.heap.size + 1) 3 1 (.slice (some ⟨g, 0, none⟩) L c8) L (ints (row l (m + 1) x))) := hid (by
                have h1 : OwnInts (w.heap.size + 1) w3 (.slice (some ⟨g, 0, none⟩) L c8) (row l (m + 1) x) := by unfold OwnInts; rw [row_len, ← HL1.out]; exact RO3.out
                have h2 := own_below h1 hb
                unfold OwnInts at h2; rw [row_len, ← HL1.out] at h2; exact h2)
              have z4 : w.heap.size + 1 ≤ (mv w3 q2).heap.size := Nat.le_trans z1 hb.size
              clear RO3 HB3 hb z1
              generalize mv w3 q2 = w4 at HB4 RO4 z4 ⊢
              have ct : w4.cell? ⟨g, m + 1, none⟩ = some (.int .i64 x) := own_cell RO4.out (by rw [row_len, HL1.out]) (row_at l (m + 1) x ht)
              have cm : w4.cell? ⟨g, m, none⟩ = some (.int .i64 p) := own_cell RO4.out (by rw [row_len, HL1.out]) (row_prev l m x p HP.out)
              have fz : w4.frozen? ⟨g, m + 1, none⟩ = false := World.ownsRow.frozenAt RO4.out (m + 1)
              go_wp2
              go_roundw
            · skip
              have st := World.ownsRow.stored RO4.out (m + 1) (.int .i64 n)
              refine ⟨n + 1, by omega, by go_num, hid ?_, hid ?_⟩
              · rw [STEP.out, INS.out.no HP.out HBF.out, ← row_set l (m + 1) x n ht]
                have e : ∀ (xs : List Int) (i : Nat) (u : Int), ints (xs.set i u) = (ints xs).set i (.int .i64 u) := fun xs i u => by simp [ints, List.map_set]
                unfold OwnInts
                rw [e]
                rw [List.length_set, row_len, ← HL1.out]
                exact st.1
              · exact HB4.out.grown st.2 z4 (fun g' hg' => by cases hg'; exact GB.out)
            · simp [intOf] <;> omega
            · skip
              have st := World.ownsRow.stored RO4.out (m + 1) (.int .i64 p)
              refine ⟨m, p, by omega, by go_num, hid ?_, hid (INS.out.yes HP.out HBF.out), hid ?_⟩
              · rw [← row_step l m p HP.out, ← row_set l (m + 1) x p ht]
                have e : ∀ (xs : List Int) (i : Nat) (u : Int), ints (xs.set i u) = (ints xs).set i (.int .i64 u) := fun xs i u => by simp [ints, List.map_set]
                rw [e]
                exact st.1
              · exact HB4.out.grown st.2 z4 (fun g' hg' => by cases hg'; exact GB.out)
            · simp [intOf] <;> omega
      · have E := hid (aroundN_no ns ls k n (by rw [EA.out]; omega))
        have hne : ((a : Int) != (k : Int)) = true := by simp; omega
        go_wp2
        go_roundw
        case rel => exact ⟨n + 1, by omega, by go_num, by rw [E.out]; exact HO1, HB1⟩
        case measure => simp [intOf]; omega
    · have he : n = 2 * ls.length := by omega
      subst he
      obtain ⟨A9, c9, rfl⟩ := own_form HOW.out
      go_wp2
      go_ret
      exact ⟨_, rfl, own_less HOW.out (by omega), then_ S0.out (by have := HB.out; simpa using this) S0.out.size⟩
end Go.Proofs.Ytdhppajfdcfikaa
