/- What FaceAt returns, in the program and in the reference. No condition. -/
import Derived.Test.YtdhppajfdcfikaaFaceC
namespace Go.Proofs.Ytdhppajfdcfikaa
open Go.ChangeShapes Go.WideShapes Go.ChangeAt Go.RowKit
set_option maxHeartbeats 4000000
set_option maxRecDepth 100000
set_option linter.unusedSimpArgs false
set_option linter.unusedVariables false
theorem first_is (p : List Int → Bool) : ∀ (fs : List (List Int)) (i : Nat) (l : List Int) (s : Int), fs[i]? = some l → p l = true → (∀ j m, j < i → fs[j]? = some m → p m = false) → firstF p fs s = s + (i : Int)
  | [], i, l, s, h, _, _ => by simp at h
  | x :: t, 0, l, s, h, hp, _ => by
    have : x = l := by simpa using h
    subst this
    rw [firstF, if_pos hp]; simp
  | x :: t, i + 1, l, s, h, hp, hno => by
    have h0 := hno 0 x (by omega) rfl
    rw [firstF, if_neg (by rw [h0]; simp), first_is p t i l (s + 1) (by simpa using h) hp (fun j m hj hm => hno (j + 1) m (by omega) (by simpa using hm))]
    omega
theorem first_none (p : List Int → Bool) : ∀ (fs : List (List Int)) (s : Int), (∀ l, l ∈ fs → p l = false) → firstF p fs s = -1
  | [], s, _ => rfl
  | x :: t, s, h => by
    rw [firstF, if_neg (by rw [h x (List.mem_cons_self ..)]; simp)]
    exact first_none p t (s + 1) fun l hl => h l (List.mem_cons_of_mem _ hl)
/-- a dart lies in one face -/
theorem faces_one {ns ls : List (Int × Int)} (hw : wholeB ns ls = true) {i j : Nat} {l m : List Int} {x : Int} (hi : (facesF ns ls)[i]? = some l) (hj : (facesF ns ls)[j]? = some m) (hl : x ∈ l) (hm : x ∈ m) : i = j := by
  have hok : winOkB ns ls = true := by unfold wholeB at hw; simp only [Bool.and_eq_true] at hw; exact hw.1
  have T := next_turns (win_facts hok)
  have e : facesF ns ls = fcI ns ls (2 * ls.length) := by unfold facesF; rw [hw, if_pos rfl]
  rw [e] at hi hj
  unfold fcI at hi hj
  rw [List.getElem?_map] at hi hj
  cases h1 : (fc (nxN ns ls) (2 * ls.length) (2 * ls.length))[i]? with
  | none => rw [h1] at hi; cases hi
  | some l' =>
    cases h2 : (fc (nxN ns ls) (2 * ls.length) (2 * ls.length))[j]? with
    | none => rw [h2] at hj; cases hj
    | some m' =>
      rw [h1] at hi; rw [h2] at hj
      have hi' : l'.map (fun x : Nat => (x : Int)) = l := by simpa using hi
      have hj' : m'.map (fun x : Nat => (x : Int)) = m := by simpa using hj
      rw [← hi'] at hl; rw [← hj'] at hm
      obtain ⟨a, ha, rfl⟩ := List.mem_map.1 hl
      obtain ⟨b, hb, hab⟩ := List.mem_map.1 hm
      have : b = a := by omega
      subst this
      exact T.fc_one _ (Nat.le_refl _) i j l' m' b h1 h2 ha hb
theorem faces_all {ns ls : List (Int × Int)} (hw : wholeB ns ls = true) {d : Nat} (hd : d < 2 * ls.length) : ∃ l, l ∈ facesF ns ls ∧ (d : Int) ∈ l := by
  have hok : winOkB ns ls = true := by unfold wholeB at hw; simp only [Bool.and_eq_true] at hw; exact hw.1
  have T := next_turns (win_facts hok)
  have e : facesF ns ls = fcI ns ls (2 * ls.length) := by unfold facesF; rw [hw, if_pos rfl]
  obtain ⟨l, h1, h2⟩ := T.fc_all _ (Nat.le_refl _) d hd
  rw [e]
  exact ⟨l.map fun x : Nat => (x : Int), List.mem_map.2 ⟨l, h1, rfl⟩, List.mem_map.2 ⟨d, h2, rfl⟩⟩
theorem faF_at {ns ls : List (Int × Int)} (hw : wholeB ns ls = true) {i : Nat} {l : List Int} {x : Int} (hi : (facesF ns ls)[i]? = some l) (hx : x ∈ l) : faF ns ls x = (i : Int) := by
  unfold faF
  rw [first_is _ (facesF ns ls) i l 0 hi (by simpa using hx) (fun j m hj hm => by
    cases h : decide (x ∈ m)
    · rfl
    · have := faces_one hw hi hm hx (by simpa using h)
      omega)]
  simp
theorem faF_out {ns ls : List (Int × Int)} {d : Int} (h : ¬ (0 ≤ d ∧ d < 2 * (ls.length : Int))) : faF ns ls d = -1 := by
  unfold faF
  refine first_none _ _ _ fun l hl => ?_
  rw [decide_eq_false_iff_not]
  intro hm
  obtain ⟨i, hi⟩ := List.getElem?_of_mem hl
  obtain ⟨j, hj⟩ := List.getElem?_of_mem hm
  obtain ⟨m, rfl, hlt⟩ := (faces_at hi).2.2 j d hj
  omega
/-- a row of ints -/
def iRow (N : Nat) (P : Nat → Int) : List Value := (List.range N).map fun i => .int .i64 (P i)
theorem iRow_len (N : Nat) (P : Nat → Int) : (iRow N P).length = N := by simp [iRow]
theorem iRow_get (N : Nat) (P : Nat → Int) (i : Nat) (h : i < N) : (iRow N P)[i]? = some (.int .i64 (P i)) := by simp [iRow, h]
theorem iRow_set (N : Nat) (P Q : Nat → Int) (i : Nat) (x : Int) (hQ : ∀ j, j < N → Q j = if j = i then x else P j) : (iRow N P).set i (.int .i64 x) = iRow N Q := by
  apply List.ext_getElem?
  intro j
  rw [List.getElem?_set]
  by_cases hj : j < N
  · rw [iRow_get _ _ _ hj, iRow_get _ _ _ hj, hQ j hj]
    by_cases e : i = j
    · subst e
      rw [if_pos rfl, iRow_len, if_pos hj, if_pos rfl]
    · rw [if_neg e, if_neg (fun h => e h.symm)]
  · rw [List.getElem?_eq_none (by rw [iRow_len]; omega), List.getElem?_eq_none (by rw [iRow_len]; omega)]
    split
    · split
      · rename_i h1 h2; rw [iRow_len] at h2; omega
      · rfl
    · rfl
theorem iRow_start (N : Nat) : (iRow N (fun _ => 0)).toArray = madeCells #[.int .i64 0] N := by
  rw [← Array.toList_inj]
  apply List.ext_getElem?
  intro j
  by_cases hj : j < N
  · rw [List.toList_toArray, iRow_get _ _ _ hj]; simp [madeCells, hj, Nat.mod_one]
  · rw [List.toList_toArray, List.getElem?_eq_none (by rw [iRow_len]; omega), List.getElem?_eq_none (by simp [madeCells]; omega)]
/-- the places of the darts of the first i faces and of the first j darts of l -/
def rowP (F : Int → Int) (fs : List (List Int)) (i : Nat) (l : List Int) (j : Nat) (d : Nat) : Int := if ((fs.take i).any (·.contains (d : Int)) || (l.take j).contains (d : Int)) = true then F d else 0
theorem rowP_step (F : Int → Int) (fs : List (List Int)) (i : Nat) (l : List Int) (j e : Nat) (x : Int) (h : l[j]? = some (e : Int)) (hF : F (e : Int) = x) (d : Nat) : rowP F fs i l (j + 1) d = if d = e then x else rowP F fs i l j d := by
  unfold rowP
  have ht : (l.take (j + 1)).contains (d : Int) = ((l.take j).contains (d : Int) || decide (d = e)) := by
    rw [List.take_add_one, h]
    simp only [Option.toList_some, List.contains_eq_mem, List.mem_append, List.mem_singleton]
    rw [Bool.eq_iff_iff]
    simp only [Bool.or_eq_true, decide_eq_true_iff]
    constructor
    · rintro (h | h)
      · exact .inl h
      · exact .inr (by omega)
    · rintro (h | h)
      · exact .inl h
      · exact .inr (by omega)
  rw [ht]
  by_cases hd : d = e
  · subst hd; simp [hF]
  · rw [if_neg hd]; simp [hd]
theorem rowP_next (F : Int → Int) (fs : List (List Int)) (i : Nat) (l m : List Int) (h : fs[i]? = some l) (d : Nat) : rowP F fs i l l.length d = rowP F fs (i + 1) m 0 d := by
  unfold rowP
  have : (fs.take (i + 1)).any (·.contains (d : Int)) = ((fs.take i).any (·.contains (d : Int)) || l.contains (d : Int)) := by
    rw [List.take_add_one, h]; simp
  rw [this, List.take_length]; simp
theorem rowP_zero (F : Int → Int) (fs : List (List Int)) (i : Nat) (l m : List Int) (d : Nat) : rowP F fs i l 0 d = rowP F fs i m 0 d := by unfold rowP; simp
theorem iFaces_no (vn vl : Value) (ns ls : List (Int × Int)) (w : World) (hn : PairsAt w vn ns) (hl : PairsAt w vl ls) (hw : wholeB ns ls = false) : Calls Try.prog 38 #[.agg #[vn, vl]] w fun e w' => e = .returned (.slice none 0 0) ∧ Below w.heap.size w w' := by
  have s0 : Below w.heap.size w (w.alloc (.cells #[vn, vl] 31)) := (Below.refl _ _).alloc (Nat.le_refl _) _
  have HN := hid (hn.below s0)
  have HL := hid (hl.below s0)
  have B0 := hid (BoxV.new w vn vl 31 w.heap.size rfl)
  have S0 := hid s0
  clear s0
  obtain ⟨A, c, rfl, hcn, hm, _⟩ := id hn
  obtain ⟨A', c', rfl, hcl, hm', _⟩ := id hl
  unfold maxLen at hm hm'
  clear hn hl
  have v0 := B0.out.c0
  have v1 := B0.out.c1
  have HW := hid hw
  clear hw
  go_enter Try.func38, Try.ntmps38
  go_wp2_with fail
  refine (iWhole_any _ _ ns ls _ HN.out HL.out).mono ?_
  rintro e w1 ⟨rfl, hb⟩
  rw [HW.out]
  go_wp2
  go_ret
  exact ⟨rfl, then_ S0.out hb S0.out.size⟩
def faceRow (ns ls : List (Int × Int)) : List Int := if wholeB ns ls = true then (List.range (2 * ls.length)).map (fun d : Nat => faF ns ls d) else []
theorem facesAt_no (vn vl : Value) (ns ls : List (Int × Int)) (w : World) (hn : PairsAt w vn ns) (hl : PairsAt w vl ls) (hw : wholeB ns ls = false) : Calls Try.prog 71 #[.agg #[vn, vl]] w fun e w' => e = .returned (.slice none 0 0) ∧ Below w.heap.size w w' := by
  have s0 : Below w.heap.size w (w.alloc (.cells #[vn, vl] 31)) := (Below.refl _ _).alloc (Nat.le_refl _) _
  have HN := hid (hn.below s0)
  have HL := hid (hl.below s0)
  have B0 := hid (BoxV.new w vn vl 31 w.heap.size rfl)
  have S0 := hid s0
  clear s0
  obtain ⟨A, c, rfl, hcn, hm, _⟩ := id hn
  obtain ⟨A', c', rfl, hcl, hm', _⟩ := id hl
  unfold maxLen at hm hm'
  clear hn hl
  have v0 := B0.out.c0
  have v1 := B0.out.c1
  have HW := hid hw
  clear hw
  have hnil : ∀ (w : World) (a : Option Addr) (n c n' c' : Nat), (binOp .eql 48 (.slice a n c) (.slice none n' c')).run Try.prog w = .ok (.bool a.isNone) w := fun w a n c n' c' => Lib.run_eql_slice_nil w _ _ a n c n' c' Try.underlying48
  go_enter Try.func71, Try.ntmps71
  go_wp2_with fail
  refine (iFaces_no _ _ ns ls _ HN.out HL.out HW.out).mono ?_
  rintro e w1 ⟨rfl, hb⟩
  go_wp2
  go_ret
  exact ⟨rfl, then_ S0.out hb S0.out.size⟩
theorem facesAt_yes (vn vl : Value) (ns ls : List (Int × Int)) (w : World) (hn : PairsAt w vn ns) (hl : PairsAt w vl ls) (hw : wholeB ns ls = true) : Calls Try.prog 71 #[.agg #[vn, vl]] w fun e w' => ∃ g : Nat, e = .returned (.slice (some ⟨g, 0, none⟩) (2 * ls.length) (2 * ls.length)) ∧ Blk w' g 3 (iRow (2 * ls.length) (fun d => faF ns ls d)).toArray ∧ Below w.heap.size w w' := by
  have s0 : Below w.heap.size w (w.alloc (.cells #[vn, vl] 31)) := (Below.refl _ _).alloc (Nat.le_refl _) _
  have HN := hid (hn.below s0)
  have HL := hid (hl.below s0)
  have B0 := hid (BoxV.new w vn vl 31 w.heap.size rfl)
  have S0 := hid s0
  clear s0
  obtain ⟨A, c, rfl, hcn, hm, _⟩ := id hn
  obtain ⟨A', c', rfl, hcl, hm', _⟩ := id hl
  unfold maxLen at hm hm'
  clear hn hl
  have v0 := B0.out.c0
  have v1 := B0.out.c1
  have WW : Hid (∀ wr, Below (w.heap.size + 1) (w.alloc (.cells #[.slice A ns.length c, .slice A' ls.length c'] 31)) wr → BoxV wr w.heap.size (.slice A ns.length c) (.slice A' ls.length c') ∧ PairsAt wr (.slice A ns.length c) ns ∧ PairsAt wr (.slice A' ls.length c') ls ∧ w.heap.size + 1 ≤ wr.heap.size) := hid (fun wr h => by
    have h' : Below (w.alloc (.cells #[.slice A ns.length c, .slice A' ls.length c'] 31)).heap.size (w.alloc (.cells #[.slice A ns.length c, .slice A' ls.length c'] 31)) wr := by simpa using h
    exact ⟨B0.out.below h', HN.out.below h', HL.out.below h', by have := h'.size; simpa using this⟩)
  have V0 : Hid (Below (w.heap.size + 1) (w.alloc (.cells #[.slice A ns.length c, .slice A' ls.length c'] 31)) (w.alloc (.cells #[.slice A ns.length c, .slice A' ls.length c'] 31))) := hid (Below.refl _ _)
  have hok : winOkB ns ls = true := by unfold wholeB at hw; simp only [Bool.and_eq_true] at hw; exact hw.1
  have hl0 : 0 < ls.length := by unfold wholeB at hw; simp only [Bool.and_eq_true, decide_eq_true_iff] at hw; exact hw.2.1
  have hl20 := (win_facts hok).m2
  have FA := hid (fun i l h => faces_at (ns := ns) (ls := ls) (i := i) (l := l) h)
  have FI := hid (fun i l x h hx => faF_at hw (i := i) (l := l) (x := x) h hx)
  have FALL := hid (fun d hd => faces_all hw (d := d) hd)
  have hne : 0 < (facesF ns ls).length := by
    obtain ⟨l, hl, _⟩ := FALL.out 0 (by omega)
    exact List.length_pos_of_mem hl
  obtain ⟨N, hN⟩ : ∃ N, N = 2 * ls.length := ⟨_, rfl⟩
  have q0 : IntKind.i64.wrap (2 * (ls.length : Int)) = (N : Int) := by rw [IntWalk.i64_in _ (by omega)]; omega
  have HN2 := hid hN
  have hN40 : N ≤ 40 := by omega
  rw [← hN]
  clear hN hok hw
  obtain ⟨i1, bi, bz0, bz1, bz2⟩ := info_parts infoI
  have hmk : ∀ W : World, (Instr.makeSlice 37 (.int .i64 (N : Int)) (.int .i64 (N : Int))).run Try.prog W = .ok (.slice (some ⟨W.heap.size, 0, none⟩) N N) (W.alloc (.cells (madeCells #[.int .i64 0] N) 3)) := fun W => by
    have := run_make (P := Try.prog) W 37 3 i1 _ Try.underlying37 bi bz0 .i64 .i64 (N : Int) (N : Int) (by omega) (by omega) (by rw [bz2]; omega) (by omega)
    rw [bz1] at this
    simp only [Int.toNat_natCast, Nat.mul_one] at this
    exact this
  clear bi bz0 bz1 bz2
  have hnil : ∀ (w : World) (a : Option Addr) (n c n' c' : Nat), (binOp .eql 48 (.slice a n c) (.slice none n' c')).run Try.prog w = .ok (.bool a.isNone) w := fun w a n c n' c' => Lib.run_eql_slice_nil w _ _ a n c n' c' Try.underlying48
  go_enter Try.func71, Try.ntmps71
  go_wp2_with fail
  refine (iFaces_any _ _ ns ls _ HN.out HL.out).mono ?_
  rintro e w1 ⟨v, rfl, ho, hb⟩
  have SS := hid (faces_ss ho)
  have V1 := hid (V0.out.trans (hb.mono (by simp)))
  obtain ⟨A9, c9, hv9, hm9, hc9⟩ := id SS.out
  obtain ⟨l0, hx0⟩ : ∃ l, (facesF ns ls)[0]? = some l := ⟨_, List.getElem?_eq_getElem hne⟩
  obtain ⟨b9, off9, u0, hA9, _, _, _⟩ := hc9 0 l0 hx0
  subst hA9
  subst hv9
  have C9 := hid hc9
  clear ho hb v0 v1 V0 hc9 hx0 SS
  obtain ⟨bx, pn, px, z1⟩ := WW.out _ V1.out
  have v0 := bx.c0
  have v1 := bx.c1
  have vlt := bx.lt
  clear bx pn px
  have KB := hid (show Blk (w1.alloc (.cells (madeCells #[.int .i64 0] N) 3)) w1.heap.size 3 (iRow N (rowP (faF ns ls) (facesF ns ls) 0 [] 0)).toArray by
    have e : rowP (faF ns ls) (facesF ns ls) 0 [] 0 = fun _ => 0 := by funext d; unfold rowP; simp
    rw [e, iRow_start]; exact Blk.new _ _ _)
  have H1 := hid (show Below w1.heap.size w1 (w1.alloc (.cells (madeCells #[.int .i64 0] N) 3)) from (Below.refl _ _).alloc (Nat.le_refl _) _)
  have Z1 := hid z1
  clear z1
  obtain ⟨fs, hfs⟩ : ∃ fs, fs = facesF ns ls := ⟨_, rfl⟩
  rw [← hfs] at KB C9 hne hm9 FA FI FALL ⊢
  clear hfs
  go_wp2_with fail
  clear hmk v0 v1 vlt
  obtain ⟨g, hg⟩ : ∃ g, g = w1.heap.size := ⟨_, rfl⟩
  have HG := hid hg
  rw [← hg] at KB H1 C9 Z1 ⊢
  clear hg
  generalize w1.alloc _ = wA at KB H1 ⊢
  go_loopw [20] (fun j wr => ∃ i : Nat, i ≤ fs.length ∧ j = .int .i64 i ∧ Hid (Blk wr g 3 (iRow N (rowP (faF ns ls) fs i [] 0)).toArray) ∧ Hid (Below g w1 wr)) (fun j _ => fs.length - (intOf j).toNat)
  case atStart => exact ⟨0, Nat.zero_le _, rfl, KB, H1⟩
  case round =>
    clear KB H1
    obtain ⟨i, hi, rfl, KB, HB⟩ := hrel
    by_cases hlt : i < fs.length
    · have hi0 : (0 : Int) ≤ (i : Int) := by omega
      have hi1 : (i : Int) < (fs.length : Int) := by omega
      obtain ⟨l, hx⟩ : ∃ l, fs[i]? = some l := ⟨_, List.getElem?_eq_getElem hlt⟩
      have HDAR := hid (FA.out i l hx).2
      have HFI := hid (fun x h => FI.out i l x hx h)
      have HX := hid hx
      obtain ⟨b, off, u, hA, hbb, hcell, hI⟩ := C9.out i l hx
      injection hA with hA
      injection hA with hA hA2 _
      subst hA
      subst hA2
      obtain ⟨Au, cu, hu, hul, _⟩ := id hI
      subst hu
      have HI := hid hI
      have ck : wr.cell? ⟨b9, off9 + i, none⟩ = some (.slice Au l.length cu) := by rw [HB.out.cell (p := ⟨b9, _, none⟩) hbb]; exact hcell
      have KS := hid (show Blk wr g 3 (iRow N (rowP (faF ns ls) fs i l 0)).toArray by
        have e : rowP (faF ns ls) fs i l 0 = rowP (faF ns ls) fs i [] 0 := by funext d; exact rowP_zero _ _ _ _ _ _
        rw [e]; exact KB.out)
      clear KB hI hcell hx
      go_wp2_with fail
      clear ck
      go_loopw [27] (fun j wr => ∃ k : Nat, k ≤ l.length ∧ j = .int .i64 k ∧ Hid (Blk wr g 3 (iRow N (rowP (faF ns ls) fs i l k)).toArray) ∧ Hid (Below g w1 wr)) (fun j _ => l.length - (intOf j).toNat)
      case atStart => exact ⟨0, Nat.zero_le _, rfl, KS, HB⟩
      case round =>
        clear KS HB
        obtain ⟨k, hk, rfl, KB, HB⟩ := hrel
        by_cases hkl : k < l.length
        · have hk0 : (0 : Int) ≤ (k : Int) := by omega
          have hk1 : (k : Int) < (l.length : Int) := by omega
          obtain ⟨x, hxk⟩ : ∃ x, l[k]? = some x := ⟨_, List.getElem?_eq_getElem hkl⟩
          obtain ⟨e, hxe, heN⟩ := HDAR.out.2 k x hxk
          subst hxe
          rw [← HN2.out] at heN
          obtain ⟨bu, ou, hAu, hbu, hcu⟩ := HI.out.at_ hxk
          subst hAu
          have cu4 : wr.cell? ⟨bu, ou + k, none⟩ = some (.int .i64 (e : Int)) := by rw [HB.out.cell (p := ⟨bu, _, none⟩) (by rw [HG.out]; exact hbu)]; exact hcu
          have ce : wr.cell? ⟨g, e, none⟩ = some (.int .i64 (rowP (faF ns ls) fs i l k e)) := by rw [KB.out.cell, List.getElem?_toArray, iRow_get _ _ _ heN]
          have fe : wr.frozen? ⟨g, e, none⟩ = false := KB.out.frozen e
          generalize rowP (faF ns ls) fs i l k e = b9 at ce
          have he0 : (0 : Int) ≤ (e : Int) := by omega
          have he1 : (e : Int) < (N : Int) := by omega
          have HXK := hid hxk
          clear hcu hxk
          go_wp2
          go_roundw
          case rel =>
            refine ⟨k + 1, by omega, by go_num, hid ?_, hid (HB.out.setCell (p := ⟨g, e, none⟩) (Nat.le_refl _) _)⟩
            have hset := KB.out.set_ e (.int .i64 (i : Int))
            rw [List.setIfInBounds_toArray, iRow_set N _ (rowP (faF ns ls) fs i l (k + 1)) e (i : Int) (fun j _ => rowP_step _ _ _ _ _ _ _ HXK.out (HFI.out _ (List.mem_of_getElem? HXK.out)) j)] at hset
            exact hset
          case measure => simp [intOf]; omega
        · have he : k = l.length := by omega
          subst he
          go_wp2
          go_roundw
          case rel =>
            refine ⟨i + 1, by omega, by go_num, hid ?_, HB⟩
            have e : rowP (faF ns ls) fs (i + 1) [] 0 = rowP (faF ns ls) fs i l l.length := by funext d; exact (rowP_next _ _ _ _ _ HX.out d).symm
            rw [e]; exact KB.out
          case measure => simp [intOf]; omega
    · have he : i = fs.length := by omega
      subst he
      go_wp2
      go_ret
      refine ⟨g, rfl, ?_, then_ S0.out (by have := V1.out.trans (HB.out.mono Z1.out); simpa using this) S0.out.size⟩
      have e : iRow N (rowP (faF ns ls) fs fs.length [] 0) = iRow N (fun d => faF ns ls d) := by
        unfold iRow
        refine List.map_congr_left fun d hd => ?_
        have hdN : d < N := by simpa using hd
        obtain ⟨l, hl, hm⟩ := FALL.out d (by rw [← HN2.out]; exact hdN)
        unfold rowP
        rw [List.take_length, if_pos]
        rw [Bool.or_eq_true, List.any_eq_true]
        exact .inl ⟨l, hl, by simpa using hm⟩
      rw [e] at KB
      exact KB.out
theorem iFA_any (vn vl : Value) (ns ls : List (Int × Int)) (d : Int) (w : World) (hn : PairsAt w vn ns) (hl : PairsAt w vl ls) : Calls Try.prog 45 #[.agg #[vn, vl], .int .i64 d] w fun e w' => e = .returned (.int .i64 (faF ns ls d)) ∧ Below w.heap.size w w' := by
  have s0 : Below w.heap.size w (w.alloc (.cells #[vn, vl] 31)) := (Below.refl _ _).alloc (Nat.le_refl _) _
  have HN := hid (hn.below s0)
  have HL := hid (hl.below s0)
  have B0 := hid (BoxV.new w vn vl 31 w.heap.size rfl)
  have S0 := hid s0
  clear s0
  obtain ⟨A, c, rfl, hcn, hm, _⟩ := id hn
  obtain ⟨A', c', rfl, hcl, hm', _⟩ := id hl
  unfold maxLen at hm hm'
  clear hn hl
  have v0 := B0.out.c0
  have v1 := B0.out.c1
  cases hw : wholeB ns ls
  · have HW := hid hw
    have HF := hid (show faF ns ls d = -1 by unfold faF facesF; rw [hw]; rfl)
    clear hw
    go_enter Try.func45, Try.ntmps45
    go_wp2_with fail
    refine (facesAt_no _ _ ns ls _ HN.out HL.out HW.out).mono ?_
    rintro e w1 ⟨rfl, hb⟩
    have q : inB d 0 (-1) = false := by unfold inB; rw [decide_eq_false_iff_not]; omega
    go_wp2_with fail
    refine (within_any _ _ _ _).mono ?_
    rintro e w2 ⟨rfl, rfl⟩
    rw [q]
    go_wp2
    go_ret
    exact ⟨ret_int HF.out.symm, then_ S0.out hb S0.out.size⟩
  · have HW := hid hw
    have hok : winOkB ns ls = true := by unfold wholeB at hw; simp only [Bool.and_eq_true] at hw; exact hw.1
    have hl20 := (win_facts hok).m2
    obtain ⟨N, hN⟩ : ∃ N, N = 2 * ls.length := ⟨_, rfl⟩
    have hN40 : N ≤ 40 := by omega
    have HN2 := hid hN
    have HO := hid (fun h => faF_out (ns := ns) (ls := ls) (d := d) h)
    clear hw hok
    go_enter Try.func45, Try.ntmps45
    go_wp2_with fail
    refine (facesAt_yes _ _ ns ls _ HN.out HL.out HW.out).mono ?_
    rintro e w1 ⟨g, rfl, KB, hb⟩
    rw [← hN] at KB ⊢
    have HK := hid KB
    have HB := hid hb
    clear KB hb hN hl20
    have hw1 : IntKind.i64.wrap ((N : Int) - 1) = (N : Int) - 1 := IntWalk.i64_in _ (by omega)
    cases q : inB d 0 ((N : Int) - 1)
    all_goals
      have HQ := hid q
      have hq2 := q
      simp only [inB, decide_eq_true_iff, decide_eq_false_iff_not] at hq2
      clear q
      go_wp2_with fail
      refine (within_any _ _ _ _).mono ?_
      rintro e w2 ⟨rfl, rfl⟩
      rw [HQ.out]
    · go_wp2
      go_ret
      exact ⟨ret_int (HO.out (by rw [HN2.out] at hq2; omega)).symm, then_ S0.out HB.out S0.out.size⟩
    · obtain ⟨e, rfl⟩ : ∃ e : Nat, d = (e : Int) := ⟨d.toNat, by omega⟩
      have ce : w1.cell? ⟨g, e, none⟩ = some (.int .i64 (faF ns ls e)) := by rw [HK.out.cell, List.getElem?_toArray, iRow_get _ _ _ (by omega)]
      have he0 : (0 : Int) ≤ (e : Int) := by omega
      have he1 : (e : Int) < (N : Int) := by omega
      go_wp2
      go_ret
      exact ⟨rfl, then_ S0.out HB.out S0.out.size⟩
theorem sFA_any (vn vl : Value) (ns ls : List (Int × Int)) (d : Int) (w : World) (hn : PairsAt w vn ns) (hl : PairsAt w vl ls) : Calls Try.prog 44 #[.agg #[vn, vl], .int .i64 d] w fun e w' => e = .returned (.int .i64 (faF ns ls d)) ∧ Below w.heap.size w w' := by
  have s0 : Below w.heap.size w (w.alloc (.cells #[vn, vl] 31)) := (Below.refl _ _).alloc (Nat.le_refl _) _
  have HN := hid (hn.below s0)
  have HL := hid (hl.below s0)
  have B0 := hid (BoxV.new w vn vl 31 w.heap.size rfl)
  have S0 := hid s0
  clear s0
  obtain ⟨A, c, rfl, hcn, hm, _⟩ := id hn
  obtain ⟨A', c', rfl, hcl, hm', _⟩ := id hl
  unfold maxLen at hm hm'
  clear hn hl
  have v0 := B0.out.c0
  have v1 := B0.out.c1
  have WW : Hid (∀ wr, Below (w.heap.size + 1) (w.alloc (.cells #[.slice A ns.length c, .slice A' ls.length c'] 31)) wr → BoxV wr w.heap.size (.slice A ns.length c) (.slice A' ls.length c') ∧ PairsAt wr (.slice A ns.length c) ns ∧ PairsAt wr (.slice A' ls.length c') ls ∧ w.heap.size + 1 ≤ wr.heap.size) := hid (fun wr h => by
    have h' : Below (w.alloc (.cells #[.slice A ns.length c, .slice A' ls.length c'] 31)).heap.size (w.alloc (.cells #[.slice A ns.length c, .slice A' ls.length c'] 31)) wr := by simpa using h
    exact ⟨B0.out.below h', HN.out.below h', HL.out.below h', by have := h'.size; simpa using this⟩)
  have V0 : Hid (Below (w.heap.size + 1) (w.alloc (.cells #[.slice A ns.length c, .slice A' ls.length c'] 31)) (w.alloc (.cells #[.slice A ns.length c, .slice A' ls.length c'] 31))) := hid (Below.refl _ _)
  have OF := hid (show faF ns ls d = firstF (fun l => decide (d ∈ l)) ((facesF ns ls).drop 0) ((0 : Nat) : Int) from rfl)
  go_enter Try.func44, Try.ntmps44
  go_wp2_with fail
  refine (sFaces_any _ _ ns ls _ HN.out HL.out).mono ?_
  rintro e w1 ⟨v, rfl, ho, hb⟩
  have SS := hid (faces_ss ho)
  have V1 := hid (V0.out.trans (hb.mono (by simp)))
  obtain ⟨A9, c9, hv9, hm9, _⟩ := id SS.out
  subst hv9
  clear ho hb v0 v1 V0
  obtain ⟨bx, pn, px, z1⟩ := WW.out _ V1.out
  have v0 := bx.c0
  have v1 := bx.c1
  have vlt := bx.lt
  clear bx pn px z1
  generalize facesF ns ls = fs at SS OF hm9 ⊢
  go_wp2_with fail
  go_loopw [6] (fun j wr => ∃ i : Nat, i ≤ fs.length ∧ j = .int .i64 i ∧ Hid (faF ns ls d = firstF (fun l => decide (d ∈ l)) (fs.drop i) (i : Int)) ∧ Hid (Below w1.heap.size w1 wr)) (fun j _ => fs.length - (intOf j).toNat)
  case atStart => exact ⟨0, Nat.zero_le _, rfl, OF, hid (Below.refl _ _)⟩
  case round =>
    obtain ⟨i, hi, rfl, OI, HB⟩ := hrel
    clear v0 v1 vlt
    have z1 : w.heap.size + 1 ≤ w1.heap.size := (WW.out _ V1.out).2.2.2
    have VR := hid (V1.out.trans (HB.out.mono z1))
    obtain ⟨bx, pn, px, z2⟩ := WW.out _ VR.out
    have v0 := bx.c0
    have v1 := bx.c1
    have vlt := bx.lt
    have BX := hid bx
    have PN := hid pn
    have PL := hid px
    have S2 := hid (SS.out.below HB.out)
    clear bx pn px
    by_cases hlt : i < fs.length
    · have hi0 : (0 : Int) ≤ (i : Int) := by omega
      have hi1 : (i : Int) < (fs.length : Int) := by omega
      obtain ⟨l, hx⟩ : ∃ l, fs[i]? = some l := ⟨_, List.getElem?_eq_getElem hlt⟩
      have ST := hid (first_step (fun l => decide (d ∈ l)) fs i l hx)
      obtain ⟨A8, c8, hv8, _, hc8⟩ := S2.out
      obtain ⟨b, off, u, hA, hbb, hcell, hI⟩ := hc8 i l hx
      have hAA : A9 = A8 := by injection hv8
      rw [← hAA] at hA
      subst hA
      obtain ⟨Au, cu, hu, hul, _⟩ := id hI
      subst hu
      have HI := hid hI
      clear hv8 hc8 hAA hI hx
      cases hq : decide (d ∈ l)
      all_goals
        have HQ := hid hq
        have hq2 := hq
        simp only [decide_eq_true_iff, decide_eq_false_iff_not] at hq2
        clear hq
        have n2 : wr.cell? ⟨b, off + i, none⟩ = some (.slice Au l.length cu) := hcell
        go_wp2_with fail
        refine (l06Has_any _ l d _ HI.out).mono ?_
        rintro e w3 ⟨rfl, hw3⟩
        subst hw3
        rw [HQ.out]
        have HB3 := HB
        clear n2
      · go_wp2
        go_roundw
        case rel => exact ⟨i + 1, by omega, by go_num, hid (by rw [OI.out, ST.out, if_neg (by rw [HQ.out]; simp)]), HB3⟩
        case measure => simp [intOf]; omega
      · go_wp2
        go_ret
        exact ⟨ret_int (by rw [OI.out, ST.out, if_pos HQ.out]), then_ S0.out (by have := V1.out.trans (HB3.out.mono z1); simpa using this) S0.out.size⟩
    · have he : i = fs.length := by omega
      subst he
      go_wp2
      go_ret
      exact ⟨ret_int (by rw [OI.out, first_end]), then_ S0.out (by have := VR.out; simpa using this) S0.out.size⟩
end Go.Proofs.Ytdhppajfdcfikaa
