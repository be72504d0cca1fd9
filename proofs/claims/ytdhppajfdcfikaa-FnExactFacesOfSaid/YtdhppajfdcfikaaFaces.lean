/- What FacesOf returns, in the program and in the reference. No condition. -/
import Derived.Test.YtdhppajfdcfikaaFacesP
namespace Go.Proofs.Ytdhppajfdcfikaa
open Go.ChangeShapes Go.WideShapes Go.ChangeAt Go.RowKit
set_option maxHeartbeats 4000000
set_option linter.unusedSimpArgs false
set_option linter.unusedVariables false
theorem infoSl : (Try.prog.info? 37).map (fun i => (i.zero, i.size, i.bytes)) = some (some (.slice none 0 0), 1, 24) := by kernel_rfl
theorem infoBl : (Try.prog.info? 4).map (fun i => (i.zero, i.size, i.bytes)) = some (some (.bool false), 1, 1) := by kernel_rfl
theorem RowsOf.below {B : Nat} {w w' : World} {us : List Value} {fs : List (List Int)} (h : RowsOf B w us fs) (hb : Below w.heap.size w w') : RowsOf B w' us fs :=
  ⟨h.len, fun i u l hu hl => own_below (h.at_ i u l hu hl) hb, h.part⟩
theorem RowsOf.beside {B g : Nat} {T : TypeId} {cs : Array Value} {w w' : World} {us : List Value} {fs : List (List Int)} (h : RowsOf B w us fs) (hg : w.grownBy w' (some g)) (hb : Blk w g T cs) (hT : T ≠ 3) : RowsOf B w' us fs :=
  ⟨h.len, fun i u l hu hl => own_beside (h.at_ i u l hu hl) hg hb hT, h.part⟩
theorem RowsOf.grown {B n : Nat} {xs : List Value} {w w' : World} {v : Value} {us : List Value} {fs : List (List Int)} (h : RowsOf B w us fs) (hg : w.grownBy w' v.ownBlock) (ho : w.ownsRow B 37 1 v n xs) : RowsOf B w' us fs := by
  rcases ho.2 with ⟨h1, _⟩ | ⟨g, cap, cur, h1, h2, h3, _⟩
  · subst h1
    refine ⟨h.len, fun i u l hu hl => ?_, h.part⟩
    have h9 := h.at_ i u l hu hl
    refine World.ownsRow.kept h9 hg ?_
    rcases h9.2 with ⟨a, _⟩ | ⟨g', _, _, a, _⟩
    · exact .inl (by rw [a]; rfl)
    · exact .inr (by rw [a]; simp [Value.ownBlock])
  · subst h1
    exact h.beside hg (show Blk w g 37 cur from h3) (by decide)
theorem RowsOf.snoc {B : Nat} {w w' : World} {us : List Value} {fs : List (List Int)} {u : Value} {l : List Int} (h : RowsOf B w us fs) (hb : Below w.heap.size w w') (ho : OwnInts w.heap.size w' u l) (hB : B ≤ w.heap.size) : RowsOf B w' (us ++ [u]) (fs ++ [l]) := by
  refine ⟨by simp [h.len], fun i x m hx hm => ?_, ?_⟩
  · rcases Nat.lt_or_ge i us.length with h' | h'
    · rw [List.getElem?_append_left h'] at hx
      rw [List.getElem?_append_left (by rw [← h.len]; exact h')] at hm
      exact own_below (h.at_ i x m hx hm) hb
    · rw [List.getElem?_append_right h'] at hx
      rw [List.getElem?_append_right (by rw [← h.len]; exact h'), ← h.len] at hm
      cases hk : i - us.length with
      | zero =>
        rw [hk] at hx hm
        simp at hx hm
        subst hx; subst hm
        exact own_less ho hB
      | succ k => rw [hk] at hx; simp at hx
  · unfold Parted
    rw [List.pairwise_append]
    refine ⟨h.part, by simp, fun x hx y hy g hg e => ?_⟩
    have hy' : y = u := by simpa using hy
    subst hy'
    obtain ⟨i, hi⟩ := List.getElem?_of_mem hx
    have hil : i < fs.length := by
      rw [← h.len]
      rcases Nat.lt_or_ge i us.length with h' | h'
      · exact h'
      · rw [List.getElem?_eq_none h'] at hi; cases hi
    have h9 := (h.at_ i x _ hi (List.getElem?_eq_getElem hil)).lt g hg
    have h8 := ho.lt g e
    omega
theorem bRow_start (N : Nat) : (bRow N (fun _ => false)).toArray = madeCells #[.bool false] N := by
  rw [← Array.toList_inj]
  apply List.ext_getElem?
  intro j
  by_cases hj : j < N
  · rw [List.toList_toArray, bRow_get _ _ _ hj]; simp [madeCells, hj, Nat.mod_one]
  · rw [List.toList_toArray, List.getElem?_eq_none (by rw [bRow_len]; omega), List.getElem?_eq_none (by simp [madeCells]; omega)]
theorem Blk.bool {w : World} {g N : Nat} {P : Nat → Bool} (h : Blk w g 4 (bRow N P).toArray) {i : Nat} (hi : i < N) : w.cell? ⟨g, i, none⟩ = some (.bool (P i)) := by
  rw [h.cell]; rw [List.getElem?_toArray, bRow_get _ _ _ hi]
theorem row_form {w : World} {B n : Nat} {e : TypeId} {v : Value} {xs : List Value} (h : w.ownsRow B e 1 v n xs) : ∃ A c, v = .slice A n c := by
  rcases h.2 with ⟨a, b⟩ | ⟨g, cap, cur, a, _⟩
  · exact ⟨none, 0, by rw [a, b]⟩
  · exact ⟨_, _, a⟩
theorem take_has {l : List Nat} {i e : Nat} (h : l[i]? = some e) (j : Nat) : (l.take (i + 1)).contains j = ((l.take i).contains j || j == e) := by
  rw [List.take_add_one, h]
  simp only [Option.toList_some, List.contains_eq_mem, List.mem_append, List.mem_singleton]
  rw [Bool.eq_iff_iff]; simp
theorem iFaces_any (vn vl : Value) (ns ls : List (Int × Int)) (w : World) (hn : PairsAt w vn ns) (hl : PairsAt w vl ls) : Calls Try.prog 38 #[.agg #[vn, vl]] w fun e w' => ∃ v, e = .returned v ∧ OwnSS w.heap.size w' v (facesF ns ls) ∧ Below w.heap.size w w' := by
  have s0 : Below w.heap.size w (w.alloc (.cells #[vn, vl] 31)) := (Below.refl _ _).alloc (Nat.le_refl _) _
  have HN := hid (hn.below s0)
  have HL := hid (hl.below s0)
  have B0 := hid (BoxV.new w vn vl 31 w.heap.size rfl)
  have S0 := hid s0
  clear s0
  obtain ⟨A, c, rfl, hcn, hm, _⟩ := id hn
  obtain ⟨A', c', rfl, hcl, hm', _⟩ := id hl
  unfold maxLen at hm hm'
  clear hn hl
  have v0 := B0.out.c0
  have v1 := B0.out.c1
  have WW : Hid (∀ wr, Below (w.heap.size + 1) (w.alloc (.cells #[.slice A ns.length c, .slice A' ls.length c'] 31)) wr → BoxV wr w.heap.size (.slice A ns.length c) (.slice A' ls.length c') ∧ PairsAt wr (.slice A ns.length c) ns ∧ PairsAt wr (.slice A' ls.length c') ls ∧ w.heap.size + 1 ≤ wr.heap.size) := hid (fun wr h => by
    have h' : Below (w.alloc (.cells #[.slice A ns.length c, .slice A' ls.length c'] 31)).heap.size (w.alloc (.cells #[.slice A ns.length c, .slice A' ls.length c'] 31)) wr := by simpa using h
    exact ⟨B0.out.below h', HN.out.below h', HL.out.below h', by have := h'.size; simpa using this⟩)
  have V0 : Hid (Below (w.heap.size + 1) (w.alloc (.cells #[.slice A ns.length c, .slice A' ls.length c'] 31)) (w.alloc (.cells #[.slice A ns.length c, .slice A' ls.length c'] 31))) := hid (Below.refl _ _)
  have N0 : Hid (OwnSS (w.heap.size + 1) (w.alloc (.cells #[.slice A ns.length c, .slice A' ls.length c'] 31)) (.slice none 0 0) []) := hid (OwnSS.nil _ _)
  cases hw : wholeB ns ls
  · have HW := hid hw
    have FF := hid (show facesF ns ls = [] by unfold facesF; rw [hw]; rfl)
    clear hw
    go_enter Try.func38, Try.ntmps38
    go_wp2_with fail
    obtain ⟨_, pn, px, z1⟩ := WW.out _ V0.out
    refine (iWhole_any _ _ ns ls _ pn px).mono ?_
    rintro e w1 ⟨rfl, hb⟩
    rw [HW.out]
    have N1 := hid (N0.out.below hb)
    have V1 := hid (V0.out.trans (hb.mono z1))
    clear hb pn px
    go_wp2
    go_ret
    exact ⟨_, rfl, by rw [FF.out]; exact N1.out.less (by omega), then_ S0.out (by have := V1.out; simpa using this) S0.out.size⟩
  · have HW := hid hw
    have hok : winOkB ns ls = true := by
      unfold wholeB at hw; simp only [Bool.and_eq_true] at hw; exact hw.1
    have WF := hid (win_facts hok)
    have HOK := hid hok
    have hl20 := WF.out.m2
    obtain ⟨N, hN⟩ : ∃ N, N = 2 * ls.length := ⟨_, rfl⟩
    have FF := hid (show facesF ns ls = fcI ns ls N by unfold facesF; rw [hw, if_pos rfl, hN])
    have hN40 : N ≤ 40 := by omega
    have q0 : IntKind.i64.wrap (2 * (ls.length : Int)) = (N : Int) := by rw [IntWalk.i64_in _ (by omega)]; omega
    have HN2 := hid hN
    have TU := hid (next_turns WF.out)
    rw [← hN] at TU
    clear hw hok hN
    obtain ⟨i1, bi, bz0, bz1, bz2⟩ := info_parts infoBl
    have hmk : ∀ W : World, (Instr.makeSlice 44 (.int .i64 (N : Int)) (.int .i64 (N : Int))).run Try.prog W = .ok (.slice (some ⟨W.heap.size, 0, none⟩) N N) (W.alloc (.cells (madeCells #[.bool false] N) 4)) := fun W => by
      have := run_make (P := Try.prog) W 44 4 i1 _ Try.underlying44 bi bz0 .i64 .i64 (N : Int) (N : Int) (by omega) (by omega) (by rw [bz2]; omega) (by omega)
      rw [bz1] at this
      simp only [Int.toNat_natCast, Nat.mul_one] at this
      exact this
    clear bi bz0 bz1 bz2
    obtain ⟨i0, hinf, hz0, hz1, hz2⟩ := info_parts infoSl
    have HINF := hid (And.intro hinf (And.intro hz0 (And.intro hz1 hz2)))
    clear hinf hz0 hz1 hz2
    go_enter Try.func38, Try.ntmps38
    go_wp2_with fail
    obtain ⟨_, pn, px, z1⟩ := WW.out _ V0.out
    refine (iWhole_any _ _ ns ls _ pn px).mono ?_
    rintro e w1 ⟨rfl, hb⟩
    rw [HW.out]
    have N1 := hid (N0.out.below hb)
    have V1 := hid (V0.out.trans (hb.mono z1))
    clear hb pn px z1 N0 V0 v0 v1
    obtain ⟨bx, pn, px, z1⟩ := WW.out _ V1.out
    have v0 := bx.c0
    have v1 := bx.c1
    have vlt := bx.lt
    clear bx pn px
    have KB := hid (show Blk (w1.alloc (.cells (madeCells #[.bool false] N) 4)) w1.heap.size 4 (bRow N (seenP ns ls 0)).toArray by
      have e : seenP ns ls 0 = fun _ => false := by funext d; rfl
      rw [e, bRow_start]; exact Blk.new _ _ _)
    have N2 := hid (N1.out.below ((Below.refl _ _).alloc (Nat.le_refl _) (.cells (madeCells #[.bool false] N) 4)))
    have V2 := hid (V1.out.alloc z1 (.cells (madeCells #[.bool false] N) 4))
    have GB := hid z1
    have F0 := hid (show fcI ns ls 0 = [] from rfl)
    rw [← F0.out] at N2
    clear N1 V1 z1
    go_wp2_with fail
    clear hmk
    obtain ⟨g, hg⟩ : ∃ g, g = w1.heap.size := ⟨_, rfl⟩
    rw [← hg] at KB GB ⊢
    clear hg
    generalize w1.alloc _ = w1 at KB N2 V2 ⊢
    go_loopw [4, 19] (fun v j wr => ∃ n : Nat, n ≤ N ∧ j = .int .i64 n ∧ Hid (OwnSS (w.heap.size + 1) wr v (fcI ns ls n)) ∧ Hid (Blk wr g 4 (bRow N (seenP ns ls n)).toArray) ∧ Hid (Below (w.heap.size + 1) (w.alloc (.cells #[.slice A ns.length c, .slice A' ls.length c'] 31)) wr)) (fun _ j _ => N - (intOf j).toNat)
    case atStart => exact ⟨0, Nat.zero_le _, rfl, N2, KB, V2⟩
    case round =>
      clear v0 v1 vlt KB N2 V2
      obtain ⟨n, hn2, rfl, HO, KB, HB⟩ := hrel
      obtain ⟨bx, pn, px, z1⟩ := WW.out _ HB.out
      have v0 := bx.c0
      have v1 := bx.c1
      have vlt := bx.lt
      have PN := hid pn
      have PL := hid px
      clear bx pn px
      by_cases hlt : n < N
      · have hn0 : (0 : Int) ≤ (n : Int) := by omega
        have hn1 : (n : Int) < (N : Int) := by omega
        cases hs : seenP ns ls n n
        · have HS := hid hs
          have cs : wr.cell? ⟨g, n, none⟩ = some (.bool false) := by rw [KB.out.bool hlt, hs]
          clear hs
          go_wp2_with fail
          refine (iWalk_any _ _ ns ls n _ PN.out PL.out HOK.out (by rw [← HN2.out]; exact hlt)).mono ?_
          rintro e w3 ⟨u, rfl, hu, hb⟩
          obtain ⟨us, ho1, ho2⟩ := HO.out
          obtain ⟨A7, c7, hv7⟩ := row_form ho1
          subst hv7
          have R3 := hid (ho2.snoc hb hu z1)
          have O3 := hid (show w3.ownsRow (w.heap.size + 1) 37 1 _ us.length us from by
            refine World.ownsRow.kept (row := none) ho1 ⟨hb.os, hb.tape, hb.output, hb.size, fun k hk _ => hb.block k hk⟩ ?_
            rcases ho1.2 with ⟨a, _⟩ | ⟨_, _, _, a, _⟩
            · exact .inl (by rw [a]; rfl)
            · exact .inr (by rw [a]; simp [Value.ownBlock]))
          have K3 := hid (KB.out.below hb KB.out.lt)
          have B3 := hid (HB.out.trans (hb.mono z1))
          have WL := hid (TU.out.per_law hlt)
          have hlen : (walkI ns ls n).length = per (nxN ns ls) N n := by rw [walkI_len, HN2.out]
          obtain ⟨gu, cu, rfl, hgu1, hgu2⟩ := own_cons hu (by rw [hlen]; have := WL.out.1; omega)
          have U3 := hid (own_less hu z1)
          have HLEN := hid hlen
          have ULE := hid ho2.len
          have ul40 : us.length ≤ 40 := by rw [ho2.len]; have := fcI_len ns ls n; omega
          have HGU := hid hgu1
          clear hu hb ho1 ho2 HO KB HB cs v0 v1 vlt PN PL hlen hgu1 hgu2
          obtain ⟨L, hL⟩ : ∃ L, L = (walkI ns ls n).length := ⟨_, rfl⟩
          have HL3 := hid hL
          have hL40 : L ≤ 40 := by rw [hL, HLEN.out]; have := WL.out.2.1; omega
          rw [← hL] at U3 R3 ⊢
          clear hL
          obtain ⟨bx, pn, px, z3⟩ := WW.out _ B3.out
          have v0 := bx.c0
          have v1 := bx.c1
          have vlt := bx.lt
          clear bx pn px
          have KS := hid (show Blk w3 g 4 (bRow N (fun j => seenP ns ls n j || ((wk (nxN ns ls) N n).take 0).contains j)).toArray by
            have e : (fun j => seenP ns ls n j || ((wk (nxN ns ls) N n).take 0).contains j) = seenP ns ls n := by funext j; simp
            rw [e]; exact K3.out)
          go_wp2_with fail
          go_loopw [31] (fun j wr => ∃ i : Nat, i ≤ L ∧ j = .int .i64 i ∧ Hid (wr.ownsRow (w.heap.size + 1) 37 1 (.slice A7 us.length c7) us.length us) ∧ Hid (RowsOf (w.heap.size + 1) wr (us ++ [.slice (some ⟨gu, 0, none⟩) L cu]) (fcI ns ls n ++ [walkI ns ls n])) ∧ Hid (Blk wr g 4 (bRow N (fun j => seenP ns ls n j || ((wk (nxN ns ls) N n).take i).contains j)).toArray) ∧ Hid (Below (w.heap.size + 1) (w.alloc (.cells #[.slice A ns.length c, .slice A' ls.length c'] 31)) wr)) (fun j _ => L - (intOf j).toNat)
          case atStart => exact ⟨0, Nat.zero_le _, rfl, O3, R3, KS, B3⟩
          case round =>
            clear v0 v1 vlt
            obtain ⟨i, hi, rfl, O4, R4, K4, B4⟩ := hrel
            obtain ⟨bx, pn, px, z4⟩ := WW.out _ B4.out
            have v0 := bx.c0
            have v1 := bx.c1
            have vlt := bx.lt
            clear bx pn px
            have U4 := hid (R4.out.at_ us.length (.slice (some ⟨gu, 0, none⟩) L cu) (walkI ns ls n) (by simp) (by rw [ULE.out]; simp))
            by_cases hil : i < L
            · have hi0 : (0 : Int) ≤ (i : Int) := by omega
              have hi1 : (i : Int) < (L : Int) := by omega
              have hip : i < per (nxN ns ls) N n := by rw [← HLEN.out, ← HL3.out]; exact hil
              have hwk := wk_get (nxN ns ls) N n i hip
              obtain ⟨e, he⟩ : ∃ e, e = it (nxN ns ls) i n := ⟨_, rfl⟩
              rw [← he] at hwk
              have heN : e < N := by rw [he]; exact TU.out.it_lt hlt i
              have hci : (walkI ns ls n)[i]? = some (e : Int) := by
                unfold walkI; rw [← HN2.out, List.getElem?_map, hwk]; rfl
              have hu := U4.out
              unfold OwnInts at hu
              rw [← HL3.out] at hu
              have cu4 : wr.cell? ⟨gu, i, none⟩ = some (.int .i64 e) := own_cell hu HL3.out.symm hci
              have ce : wr.cell? ⟨g, e, none⟩ = some (.bool (seenP ns ls n e || ((wk (nxN ns ls) N n).take i).contains e)) := K4.out.bool heN
              have fe : wr.frozen? ⟨g, e, none⟩ = false := K4.out.frozen e
              generalize (seenP ns ls n e || ((wk (nxN ns ls) N n).take i).contains e) = b9 at ce
              have he0 : (0 : Int) ≤ (e : Int) := by omega
              have he1 : (e : Int) < (N : Int) := by omega
              have WKE := hid hwk
              clear he hwk hci hu
              go_wp2
              go_roundw
              case rel =>
                have gs := grown_set wr g e (.bool true)
                refine ⟨i + 1, by omega, by go_num, hid (own_beside O4.out gs K4.out (by decide)), hid (R4.out.beside gs K4.out (by decide)), hid ?_, hid (B4.out.setCell (p := ⟨g, e, none⟩) GB.out _)⟩
                have hset := K4.out.set_ e (.bool true)
                rw [List.setIfInBounds_toArray, bRow_set N _ (fun j => seenP ns ls n j || ((wk (nxN ns ls) N n).take (i + 1)).contains j) e (fun j _ => by rw [take_has WKE.out, Bool.or_assoc])] at hset
                exact hset
              case measure => simp [intOf]; omega
            · have he : i = L := by omega
              have FN := hid (fcI_no HS.out)
              have SN := hid (show (bRow N (fun j => seenP ns ls n j || ((wk (nxN ns ls) N n).take i).contains j)) = bRow N (seenP ns ls (n + 1)) by
                congr 1; funext j
                rw [seenP_no HS.out, ← HN2.out, List.take_of_length_le (by rw [wk_len, ← HLEN.out, ← HL3.out]; omega)])
              rw [SN.out] at K4
              clear he
              have C3 := hid (show us.length + 1 ≤ maxLen by unfold maxLen; omega)
              have C4 := hid (show (us.length + 1) * 24 ≤ 140737488355328 by omega)
              have O5 := hid (show (wr.alloc (.cells #[.slice (some ⟨gu, 0, none⟩) L cu] 37)).ownsRow (w.heap.size + 1) 37 1 _ us.length us from O4.out.alloc _)
              go_wp2_with (at_builtin; obtain ⟨hinf, hz0, hz1, hz2⟩ := HINF.out; refine wpList_append_own _ rfl _ _ 48 rfl (w.heap.size + 1) 37 i0 (.slice none 0 0) 1 24 Try.underlying48 hinf hz0 hz1 hz2 rfl (by decide) _ _ _ rfl O5.out ⟨wr.heap.size, 0, none⟩ 1 1 [.slice (some ⟨gu, 0, none⟩) L cu] rfl rfl (cell_one_new wr (.slice (some ⟨gu, 0, none⟩) L cu) 37) (by simp [Value.oneCell']) C3.out C4.out (by simp; omega) ?_)
              intro v' w' hown' hgrow _
              have R5 := hid ((R4.out.below ((Below.refl _ _).alloc (Nat.le_refl _) (.cells #[.slice (some ⟨gu, 0, none⟩) L cu] 37))).grown hgrow O5.out)
              have K5 := hid (show Blk w' g 4 (bRow N (seenP ns ls (n + 1))).toArray by
                have k1 := K4.out.below ((Below.refl wr.heap.size wr).alloc (Nat.le_refl _) (.cells #[.slice (some ⟨gu, 0, none⟩) L cu] 37)) K4.out.lt
                have hb := hgrow.block g k1.lt (fun e => by
                  rcases O5.out.2 with ⟨a, _⟩ | ⟨g', _, cur, a, _, h3, _⟩
                  · rw [a] at e; cases e
                  · rw [a] at e
                    have e' : g = g' := by simpa [Value.ownBlock] using e
                    subst e'
                    unfold Blk at k1
                    rw [k1] at h3
                    injection h3 with h3
                    injection h3 with _ h3 _
                    exact absurd h3 (by decide))
                unfold Blk at k1 ⊢; rw [hb]; exact k1)
              have HB2 := hid ((B4.out.alloc z4 (.cells #[.slice (some ⟨gu, 0, none⟩) L cu] 37)).grown hgrow (by simp; omega) (fun g' hg' => (O5.out.lt g' hg').1))
              have N5 := hid (show OwnSS (w.heap.size + 1) w' v' (fcI ns ls (n + 1)) by
                rw [FN.out]
                exact ⟨us ++ [.slice (some ⟨gu, 0, none⟩) L cu], by simpa using hown', R5.out⟩)
              clear hown' hgrow O5 O4 R4 K4 B4 R5
              go_wp2
              go_roundw
              case rel => exact ⟨n + 1, by omega, by go_num, N5, K5, HB2⟩
              case measure => simp [intOf]; omega
        · have HS := hid hs
          have cs : wr.cell? ⟨g, n, none⟩ = some (.bool true) := by rw [KB.out.bool hlt, hs]
          have FY := hid (fcI_yes hs)
          have SY := hid (seenP_yes hs)
          clear hs
          go_wp2
          go_roundw
          case rel => exact ⟨n + 1, by omega, by go_num, by rw [FY.out]; exact HO, by rw [SY.out]; exact KB, HB⟩
          case measure => simp [intOf]; omega
      · have he : n = N := by omega
        subst he
        go_wp2
        go_ret
        exact ⟨_, rfl, by rw [FF.out]; exact HO.out.less (by omega), then_ S0.out (by have := HB.out; simpa using this) S0.out.size⟩
theorem sFaces_any (vn vl : Value) (ns ls : List (Int × Int)) (w : World) (hn : PairsAt w vn ns) (hl : PairsAt w vl ls) : Calls Try.prog 37 #[.agg #[vn, vl]] w fun e w' => ∃ v, e = .returned v ∧ OwnSS w.heap.size w' v (facesF ns ls) ∧ Below w.heap.size w w' := by
  have s0 : Below w.heap.size w (w.alloc (.cells #[vn, vl] 31)) := (Below.refl _ _).alloc (Nat.le_refl _) _
  have HN := hid (hn.below s0)
  have HL := hid (hl.below s0)
  have B0 := hid (BoxV.new w vn vl 31 w.heap.size rfl)
  have S0 := hid s0
  clear s0
  obtain ⟨A, c, rfl, hcn, hm, _⟩ := id hn
  obtain ⟨A', c', rfl, hcl, hm', _⟩ := id hl
  unfold maxLen at hm hm'
  clear hn hl
  have v0 := B0.out.c0
  have v1 := B0.out.c1
  have WW : Hid (∀ wr, Below (w.heap.size + 1) (w.alloc (.cells #[.slice A ns.length c, .slice A' ls.length c'] 31)) wr → BoxV wr w.heap.size (.slice A ns.length c) (.slice A' ls.length c') ∧ PairsAt wr (.slice A ns.length c) ns ∧ PairsAt wr (.slice A' ls.length c') ls ∧ w.heap.size + 1 ≤ wr.heap.size) := hid (fun wr h => by
    have h' : Below (w.alloc (.cells #[.slice A ns.length c, .slice A' ls.length c'] 31)).heap.size (w.alloc (.cells #[.slice A ns.length c, .slice A' ls.length c'] 31)) wr := by simpa using h
    exact ⟨B0.out.below h', HN.out.below h', HL.out.below h', by have := h'.size; simpa using this⟩)
  have nil0 : OwnSS (w.heap.size + 1) ((w.alloc (.cells #[.slice A ns.length c, .slice A' ls.length c'] 31)).alloc (.cells #[] 37)) (.slice (some ⟨w.heap.size + 1, 0, none⟩) 0 0) [] := by
    have := World.ownsRow_lit (w.alloc (.cells #[.slice A ns.length c, .slice A' ls.length c'] 31)) (base := w.heap.size + 1) (e := 37) (size := 1) #[] 0 (by simp) (by unfold maxLen; omega) (by simp)
    exact ⟨[], by simpa using this, rfl, fun i u l hu hl => by simp at hu, List.Pairwise.nil⟩
  have N0 := hid nil0
  clear nil0
  have V0 : Hid (Below (w.heap.size + 1) (w.alloc (.cells #[.slice A ns.length c, .slice A' ls.length c'] 31)) ((w.alloc (.cells #[.slice A ns.length c, .slice A' ls.length c'] 31)).alloc (.cells #[] 37))) := hid ((Below.refl _ _).alloc (by simp) _)
  cases hw : wholeB ns ls
  · have HW := hid hw
    have FF := hid (show facesF ns ls = [] by unfold facesF; rw [hw]; rfl)
    clear hw
    go_enter Try.func37, Try.ntmps37
    go_wp2_with fail
    obtain ⟨_, pn, px, z1⟩ := WW.out _ V0.out
    refine (sWhole_any _ _ ns ls _ pn px).mono ?_
    rintro e w1 ⟨rfl, hb⟩
    rw [HW.out]
    have N1 := hid (N0.out.below hb)
    have V1 := hid (V0.out.trans (hb.mono z1))
    clear hb pn px
    go_wp2
    go_ret
    exact ⟨_, rfl, by rw [FF.out]; exact N1.out.less (by omega), then_ S0.out (by have := V1.out; simpa using this) S0.out.size⟩
  · have HW := hid hw
    have hok : winOkB ns ls = true := by
      unfold wholeB at hw; simp only [Bool.and_eq_true] at hw; exact hw.1
    have WF := hid (win_facts hok)
    have HOK := hid hok
    have hl20 := WF.out.m2
    obtain ⟨N, hN⟩ : ∃ N, N = 2 * ls.length := ⟨_, rfl⟩
    have FF := hid (show facesF ns ls = fcI ns ls N by unfold facesF; rw [hw, if_pos rfl, hN])
    have hN40 : N ≤ 40 := by omega
    have q0 : IntKind.i64.wrap (2 * (ls.length : Int)) = (N : Int) := by rw [IntWalk.i64_in _ (by omega)]; omega
    have HN2 := hid hN
    have TU := hid (next_turns WF.out)
    rw [← hN] at TU
    clear hw hok hN
    obtain ⟨i1, bi, bz0, bz1, bz2⟩ := info_parts infoBl
    have hmk : ∀ W : World, (Instr.makeSlice 44 (.int .i64 (N : Int)) (.int .i64 (N : Int))).run Try.prog W = .ok (.slice (some ⟨W.heap.size, 0, none⟩) N N) (W.alloc (.cells (madeCells #[.bool false] N) 4)) := fun W => by
      have := run_make (P := Try.prog) W 44 4 i1 _ Try.underlying44 bi bz0 .i64 .i64 (N : Int) (N : Int) (by omega) (by omega) (by rw [bz2]; omega) (by omega)
      rw [bz1] at this
      simp only [Int.toNat_natCast, Nat.mul_one] at this
      exact this
    clear bi bz0 bz1 bz2
    obtain ⟨i0, hinf, hz0, hz1, hz2⟩ := info_parts infoSl
    have HINF := hid (And.intro hinf (And.intro hz0 (And.intro hz1 hz2)))
    clear hinf hz0 hz1 hz2
    go_enter Try.func37, Try.ntmps37
    go_wp2_with fail
    obtain ⟨_, pn, px, z1⟩ := WW.out _ V0.out
    refine (sWhole_any _ _ ns ls _ pn px).mono ?_
    rintro e w1 ⟨rfl, hb⟩
    rw [HW.out]
    have N1 := hid (N0.out.below hb)
    have V1 := hid (V0.out.trans (hb.mono z1))
    clear hb pn px z1 N0 V0 v0 v1
    obtain ⟨bx, pn, px, z1⟩ := WW.out _ V1.out
    have v0 := bx.c0
    have v1 := bx.c1
    have vlt := bx.lt
    clear bx pn px
    have KB := hid (show Blk (w1.alloc (.cells (madeCells #[.bool false] N) 4)) w1.heap.size 4 (bRow N (seenP ns ls 0)).toArray by
      have e : seenP ns ls 0 = fun _ => false := by funext d; rfl
      rw [e, bRow_start]; exact Blk.new _ _ _)
    have N2 := hid (N1.out.below ((Below.refl _ _).alloc (Nat.le_refl _) (.cells (madeCells #[.bool false] N) 4)))
    have V2 := hid (V1.out.alloc z1 (.cells (madeCells #[.bool false] N) 4))
    have GB := hid z1
    have F0 := hid (show fcI ns ls 0 = [] from rfl)
    rw [← F0.out] at N2
    clear N1 V1 z1
    go_wp2_with fail
    clear hmk
    obtain ⟨g, hg⟩ : ∃ g, g = w1.heap.size := ⟨_, rfl⟩
    rw [← hg] at KB GB ⊢
    clear hg
    generalize w1.alloc _ = w1 at KB N2 V2 ⊢
    go_loopw [3, 5] (fun v j wr => ∃ n : Nat, n ≤ N ∧ j = .int .i64 n ∧ Hid (OwnSS (w.heap.size + 1) wr v (fcI ns ls n)) ∧ Hid (Blk wr g 4 (bRow N (seenP ns ls n)).toArray) ∧ Hid (Below (w.heap.size + 1) (w.alloc (.cells #[.slice A ns.length c, .slice A' ls.length c'] 31)) wr)) (fun _ j _ => N - (intOf j).toNat)
    case atStart => exact ⟨0, Nat.zero_le _, rfl, N2, KB, V2⟩
    case round =>
      clear v0 v1 vlt KB N2 V2
      obtain ⟨n, hn2, rfl, HO, KB, HB⟩ := hrel
      obtain ⟨bx, pn, px, z1⟩ := WW.out _ HB.out
      have v0 := bx.c0
      have v1 := bx.c1
      have vlt := bx.lt
      have PN := hid pn
      have PL := hid px
      clear bx pn px
      by_cases hlt : n < N
      · have hn0 : (0 : Int) ≤ (n : Int) := by omega
        have hn1 : (n : Int) < (N : Int) := by omega
        cases hs : seenP ns ls n n
        · have HS := hid hs
          have cs : wr.cell? ⟨g, n, none⟩ = some (.bool false) := by rw [KB.out.bool hlt, hs]
          clear hs
          go_wp2_with fail
          refine (sWalk_any _ _ ns ls n _ PN.out PL.out HOK.out (by rw [← HN2.out]; exact hlt)).mono ?_
          rintro e w3 ⟨u, rfl, hu, hb⟩
          obtain ⟨us, ho1, ho2⟩ := HO.out
          obtain ⟨A7, c7, hv7⟩ := row_form ho1
          subst hv7
          have R3 := hid (ho2.snoc hb hu z1)
          have O3 := hid (show w3.ownsRow (w.heap.size + 1) 37 1 _ us.length us from by
            refine World.ownsRow.kept (row := none) ho1 ⟨hb.os, hb.tape, hb.output, hb.size, fun k hk _ => hb.block k hk⟩ ?_
            rcases ho1.2 with ⟨a, _⟩ | ⟨_, _, _, a, _⟩
            · exact .inl (by rw [a]; rfl)
            · exact .inr (by rw [a]; simp [Value.ownBlock]))
          have K3 := hid (KB.out.below hb KB.out.lt)
          have B3 := hid (HB.out.trans (hb.mono z1))
          have WL := hid (TU.out.per_law hlt)
          have hlen : (walkI ns ls n).length = per (nxN ns ls) N n := by rw [walkI_len, HN2.out]
          obtain ⟨gu, cu, rfl, hgu1, hgu2⟩ := own_cons hu (by rw [hlen]; have := WL.out.1; omega)
          have U3 := hid (own_less hu z1)
          have HLEN := hid hlen
          have ULE := hid ho2.len
          have ul40 : us.length ≤ 40 := by rw [ho2.len]; have := fcI_len ns ls n; omega
          have HGU := hid hgu1
          clear hu hb ho1 ho2 HO KB HB cs v0 v1 vlt PN PL hlen hgu1 hgu2
          obtain ⟨L, hL⟩ : ∃ L, L = (walkI ns ls n).length := ⟨_, rfl⟩
          have HL3 := hid hL
          have hL40 : L ≤ 40 := by rw [hL, HLEN.out]; have := WL.out.2.1; omega
          rw [← hL] at U3 R3 ⊢
          clear hL
          obtain ⟨bx, pn, px, z3⟩ := WW.out _ B3.out
          have v0 := bx.c0
          have v1 := bx.c1
          have vlt := bx.lt
          clear bx pn px
          have KS := hid (show Blk w3 g 4 (bRow N (fun j => seenP ns ls n j || ((wk (nxN ns ls) N n).take 0).contains j)).toArray by
            have e : (fun j => seenP ns ls n j || ((wk (nxN ns ls) N n).take 0).contains j) = seenP ns ls n := by funext j; simp
            rw [e]; exact K3.out)
          go_wp2_with fail
          go_loopw [7] (fun j wr => ∃ i : Nat, i ≤ L ∧ j = .int .i64 i ∧ Hid (wr.ownsRow (w.heap.size + 1) 37 1 (.slice A7 us.length c7) us.length us) ∧ Hid (RowsOf (w.heap.size + 1) wr (us ++ [.slice (some ⟨gu, 0, none⟩) L cu]) (fcI ns ls n ++ [walkI ns ls n])) ∧ Hid (Blk wr g 4 (bRow N (fun j => seenP ns ls n j || ((wk (nxN ns ls) N n).take i).contains j)).toArray) ∧ Hid (Below (w.heap.size + 1) (w.alloc (.cells #[.slice A ns.length c, .slice A' ls.length c'] 31)) wr)) (fun j _ => L - (intOf j).toNat)
          case atStart => exact ⟨0, Nat.zero_le _, rfl, O3, R3, KS, B3⟩
          case round =>
            clear v0 v1 vlt
            obtain ⟨i, hi, rfl, O4, R4, K4, B4⟩ := hrel
            obtain ⟨bx, pn, px, z4⟩ := WW.out _ B4.out
            have v0 := bx.c0
            have v1 := bx.c1
            have vlt := bx.lt
            clear bx pn px
            have U4 := hid (R4.out.at_ us.length (.slice (some ⟨gu, 0, none⟩) L cu) (walkI ns ls n) (by simp) (by rw [ULE.out]; simp))
            by_cases hil : i < L
            · have hi0 : (0 : Int) ≤ (i : Int) := by omega
              have hi1 : (i : Int) < (L : Int) := by omega
              have hip : i < per (nxN ns ls) N n := by rw [← HLEN.out, ← HL3.out]; exact hil
              have hwk := wk_get (nxN ns ls) N n i hip
              obtain ⟨e, he⟩ : ∃ e, e = it (nxN ns ls) i n := ⟨_, rfl⟩
              rw [← he] at hwk
              have heN : e < N := by rw [he]; exact TU.out.it_lt hlt i
              have hci : (walkI ns ls n)[i]? = some (e : Int) := by
                unfold walkI; rw [← HN2.out, List.getElem?_map, hwk]; rfl
              have hu := U4.out
              unfold OwnInts at hu
              rw [← HL3.out] at hu
              have cu4 : wr.cell? ⟨gu, i, none⟩ = some (.int .i64 e) := own_cell hu HL3.out.symm hci
              have ce : wr.cell? ⟨g, e, none⟩ = some (.bool (seenP ns ls n e || ((wk (nxN ns ls) N n).take i).contains e)) := K4.out.bool heN
              have fe : wr.frozen? ⟨g, e, none⟩ = false := K4.out.frozen e
              generalize (seenP ns ls n e || ((wk (nxN ns ls) N n).take i).contains e) = b9 at ce
              have he0 : (0 : Int) ≤ (e : Int) := by omega
              have he1 : (e : Int) < (N : Int) := by omega
              have WKE := hid hwk
              clear he hwk hci hu
              go_wp2
              go_roundw
              case rel =>
                have gs := grown_set wr g e (.bool true)
                refine ⟨i + 1, by omega, by go_num, hid (own_beside O4.out gs K4.out (by decide)), hid (R4.out.beside gs K4.out (by decide)), hid ?_, hid (B4.out.setCell (p := ⟨g, e, none⟩) GB.out _)⟩
                have hset := K4.out.set_ e (.bool true)
                rw [List.setIfInBounds_toArray, bRow_set N _ (fun j => seenP ns ls n j || ((wk (nxN ns ls) N n).take (i + 1)).contains j) e (fun j _ => by rw [take_has WKE.out, Bool.or_assoc])] at hset
                exact hset
              case measure => simp [intOf]; omega
            · have he : i = L := by omega
              have FN := hid (fcI_no HS.out)
              have SN := hid (show (bRow N (fun j => seenP ns ls n j || ((wk (nxN ns ls) N n).take i).contains j)) = bRow N (seenP ns ls (n + 1)) by
                congr 1; funext j
                rw [seenP_no HS.out, ← HN2.out, List.take_of_length_le (by rw [wk_len, ← HLEN.out, ← HL3.out]; omega)])
              rw [SN.out] at K4
              clear he
              have C3 := hid (show us.length + 1 ≤ maxLen by unfold maxLen; omega)
              have C4 := hid (show (us.length + 1) * 24 ≤ 140737488355328 by omega)
              have O5 := hid (show (wr.alloc (.cells #[.slice (some ⟨gu, 0, none⟩) L cu] 37)).ownsRow (w.heap.size + 1) 37 1 _ us.length us from O4.out.alloc _)
              go_wp2_with (at_builtin; obtain ⟨hinf, hz0, hz1, hz2⟩ := HINF.out; refine wpList_append_own _ rfl _ _ 48 rfl (w.heap.size + 1) 37 i0 (.slice none 0 0) 1 24 Try.underlying48 hinf hz0 hz1 hz2 rfl (by decide) _ _ _ rfl O5.out ⟨wr.heap.size, 0, none⟩ 1 1 [.slice (some ⟨gu, 0, none⟩) L cu] rfl rfl (cell_one_new wr (.slice (some ⟨gu, 0, none⟩) L cu) 37) (by simp [Value.oneCell']) C3.out C4.out (by simp; omega) ?_)
              intro v' w' hown' hgrow _
              have R5 := hid ((R4.out.below ((Below.refl _ _).alloc (Nat.le_refl _) (.cells #[.slice (some ⟨gu, 0, none⟩) L cu] 37))).grown hgrow O5.out)
              have K5 := hid (show Blk w' g 4 (bRow N (seenP ns ls (n + 1))).toArray by
                have k1 := K4.out.below ((Below.refl wr.heap.size wr).alloc (Nat.le_refl _) (.cells #[.slice (some ⟨gu, 0, none⟩) L cu] 37)) K4.out.lt
                have hb := hgrow.block g k1.lt (fun e => by
                  rcases O5.out.2 with ⟨a, _⟩ | ⟨g', _, cur, a, _, h3, _⟩
                  · rw [a] at e; cases e
                  · rw [a] at e
                    have e' : g = g' := by simpa [Value.ownBlock] using e
                    subst e'
                    unfold Blk at k1
                    rw [k1] at h3
                    injection h3 with h3
                    injection h3 with _ h3 _
                    exact absurd h3 (by decide))
                unfold Blk at k1 ⊢; rw [hb]; exact k1)
              have HB2 := hid ((B4.out.alloc z4 (.cells #[.slice (some ⟨gu, 0, none⟩) L cu] 37)).grown hgrow (by simp; omega) (fun g' hg' => (O5.out.lt g' hg').1))
              have N5 := hid (show OwnSS (w.heap.size + 1) w' v' (fcI ns ls (n + 1)) by
                rw [FN.out]
                exact ⟨us ++ [.slice (some ⟨gu, 0, none⟩) L cu], by simpa using hown', R5.out⟩)
              clear hown' hgrow O5 O4 R4 K4 B4 R5
              go_wp2
              go_roundw
              case rel => exact ⟨n + 1, by omega, by go_num, N5, K5, HB2⟩
              case measure => simp [intOf]; omega
        · have HS := hid hs
          have cs : wr.cell? ⟨g, n, none⟩ = some (.bool true) := by rw [KB.out.bool hlt, hs]
          have FY := hid (fcI_yes hs)
          have SY := hid (seenP_yes hs)
          clear hs
          go_wp2
          go_roundw
          case rel => exact ⟨n + 1, by omega, by go_num, by rw [FY.out]; exact HO, by rw [SY.out]; exact KB, HB⟩
          case measure => simp [intOf]; omega
      · have he : n = N := by omega
        subst he
        go_wp2
        go_ret
        exact ⟨_, rfl, by rw [FF.out]; exact HO.out.less (by omega), then_ S0.out (by have := HB.out; simpa using this) S0.out.size⟩
end Go.Proofs.Ytdhppajfdcfikaa
