/- What FacesOf returns, in the program and in the reference. No condition. -/
import Derived.Test.YtdhppajfdcfikaaM7
namespace Go.Proofs.Ytdhppajfdcfikaa
open Go.ChangeShapes Go.WideShapes Go.ChangeAt Go.RowKit
set_option maxHeartbeats 4000000
set_option linter.unusedSimpArgs false
set_option linter.unusedVariables false
theorem infoSl : (Try.prog.info? 37).map (fun i => (i.zero, i.size, i.bytes)) = some (some (.slice none 0 0), 1, 24) := by kernel_rfl
theorem infoBl : (Try.prog.info? 4).map (fun i => (i.zero, i.size, i.bytes)) = some (some (.bool false), 1, 1) := by kernel_rfl
theorem RowsOf.below {B : Nat} {w w' : World} {us : List Value} {fs : List (List Int)} (h : RowsOf B w us fs) (hb : Below w.heap.size w w') : RowsOf B w' us fs :=
  ⟨h.len, fun i u l hu hl => own_below (h.at_ i u l hu hl) hb, h.part⟩
theorem RowsOf.beside {B g : Nat} {T : TypeId} {cs : Array Value} {w w' : World} {us : List Value} {fs : List (List Int)} (h : RowsOf B w us fs) (hg : w.grownBy w' (some g)) (hb : Blk w g T cs) (hT : T ≠ 3) : RowsOf B w' us fs :=
  ⟨h.len, fun i u l hu hl => own_beside (h.at_ i u l hu hl) hg hb hT, h.part⟩
theorem RowsOf.grown {B n : Nat} {xs : List Value} {w w' : World} {v : Value} {us : List Value} {fs : List (List Int)} (h : RowsOf B w us fs) (hg : w.grownBy w' v.ownBlock) (ho : w.ownsRow B 37 1 v n xs) : RowsOf B w' us fs := by
  rcases ho.2 with ⟨h1, _⟩ | ⟨g, cap, cur, h1, h2, h3, _⟩
  · subst h1
    refine ⟨h.len, fun i u l hu hl => ?_, h.part⟩
    have h9 := h.at_ i u l hu hl
    refine World.ownsRow.kept h9 hg ?_
    rcases h9.2 with ⟨a, _⟩ | ⟨g', _, _, a, _⟩
    · exact .inl (by rw [a]; rfl)
    · exact .inr (by rw [a]; simp [Value.ownBlock])
  · subst h1
    exact h.beside hg (show Blk w g 37 cur from h3) (by decide)
theorem RowsOf.snoc {B : Nat} {w w' : World} {us : List Value} {fs : List (List Int)} {u : Value} {l : List Int} (h : RowsOf B w us fs) (hb : Below w.heap.size w w') (ho : OwnInts w.heap.size w' u l) (hB : B ≤ w.heap.size) : RowsOf B w' (us ++ [u]) (fs ++ [l]) := by
  refine ⟨by simp [h.len], fun i x m hx hm => ?_, ?_⟩
  · rcases Nat.lt_or_ge i us.length with h' | h'
    · rw [List.getElem?_append_left h'] at hx
      rw [List.getElem?_append_left (by rw [← h.len]; exact h')] at hm
      exact own_below (h.at_ i x m hx hm) hb
    · rw [List.getElem?_append_right h'] at hx
      rw [List.getElem?_append_right (by rw [← h.len]; exact h'), ← h.len] at hm
      cases hk : i - us.length with
      | zero =>
        rw [hk] at hx hm
        simp at hx hm
        subst hx; subst hm
        exact own_less ho hB
      | succ k => rw [hk] at hx; simp at hx
  · unfold Parted
    rw [List.pairwise_append]
    refine ⟨h.part, by simp, fun x hx y hy g hg e => ?_⟩
    have hy' : y = u := by simpa using hy
    subst hy'
    obtain ⟨i, hi⟩ := List.getElem?_of_mem hx
    have hil : i < fs.length := by
      rw [← h.len]
      rcases Nat.lt_or_ge i us.length with h' | h'
      · exact h'
      · rw [List.getElem?_eq_none h'] at hi; cases hi
    have h9 := (h.at_ i x _ hi (List.getElem?_eq_getElem hil)).lt g hg
    have h8 := ho.lt g e
    omega
theorem bRow_start (N : Nat) : (bRow N (fun _ => false)).toArray = madeCells #[.bool false] N := by
  rw [← Array.toList_inj]
  apply List.ext_getElem?
  intro j
  by_cases hj : j < N
  · rw [List.toList_toArray, bRow_get _ _ _ hj]; simp [madeCells, hj, Nat.mod_one]
  · rw [List.toList_toArray, List.getElem?_eq_none (by rw [bRow_len]; omega), List.getElem?_eq_none (by simp [madeCells]; omega)]
theorem Blk.bool {w : World} {g N : Nat} {P : Nat → Bool} (h : Blk w g 4 (bRow N P).toArray) {i : Nat} (hi : i < N) : w.cell? ⟨g, i, none⟩ = some (.bool (P i)) := by
  rw [h.cell]; rw [List.getElem?_toArray, bRow_get _ _ _ hi]
theorem row_form {w : World} {B n : Nat} {e : TypeId} {v : Value} {xs : List Value} (h : w.ownsRow B e 1 v n xs) : ∃ A c, v = .slice A n c := by
  rcases h.2 with ⟨a, b⟩ | ⟨g, cap, cur, a, _⟩
  · exact ⟨none, 0, by rw [a, b]⟩
  · exact ⟨_, _, a⟩
theorem take_has {l : List Nat} {i e : Nat} (h : l[i]? = some e) (j : Nat) : (l.take (i + 1)).contains j = ((l.take i).contains j || j == e) := by
  rw [List.take_add_one, h]
  simp only [Option.toList_some, List.contains_eq_mem, List.mem_append, List.mem_singleton]
  rw [Bool.eq_iff_iff]; simp
theorem iFaces_any (vn vl : Value) (ns ls : List (Int × Int)) (w : World) (hn : PairsAt w vn ns) (hl : PairsAt w vl ls) : Calls Try.prog 38 #[.agg #[vn, vl]] w fun e w' => ∃ v, e = .returned v ∧ OwnSS w.heap.size w' v (facesF ns ls) ∧ Below w.heap.size w w' := by
  have s0 : Below w.heap.size w (w.alloc (.cells #[vn, vl] 31)) := (Below.refl _ _).alloc (Nat.le_refl _) _
  have HN := hid (hn.below s0)
  have HL := hid (hl.below s0)
  have B0 := hid (BoxV.new w vn vl 31 w.heap.size rfl)
  have S0 := hid s0
  clear s0
  obtain ⟨A, c, rfl, hcn, hm, _⟩ := id hn
  obtain ⟨A', c', rfl, hcl, hm', _⟩ := id hl
  unfold maxLen at hm hm'
  clear hn hl
  have v0 := B0.out.c0
  have v1 := B0.out.c1
  have WW : Hid (∀ wr, Below (w.heap.size + 1) (w.alloc (.cells #[.slice A ns.length c, .slice A' ls.length c'] 31)) wr → BoxV wr w.heap.size (.slice A ns.length c) (.slice A' ls.length c') ∧ PairsAt wr (.slice A ns.length c) ns ∧ PairsAt wr (.slice A' ls.length c') ls ∧ w.heap.size + 1 ≤ wr.heap.size) := hid (fun wr h => by
    have h' : Below (w.alloc (.cells #[.slice A ns.length c, .slice A' ls.length c'] 31)).heap.size (w.alloc (.cells #[.slice A ns.length c, .slice A' ls.length c'] 31)) wr := by simpa using h
    exact ⟨B0.out.below h', HN.out.below h', HL.out.below h', by have := h'.size; simpa using this⟩)
  have V0 : Hid (Below (w.heap.size + 1) (w.alloc (.cells #[.slice A ns.length c, .slice A' ls.length c'] 31)) (w.alloc (.cells #[.slice A ns.length c, .slice A' ls.length c'] 31))) := hid (Below.refl _ _)
  have N0 : Hid (OwnSS (w.heap.size + 1) (w.alloc (.cells #[.slice A ns.length c, .slice A' ls.length c'] 31)) (.slice none 0 0) []) := hid (OwnSS.nil _ _)
  cases hw : wholeB ns ls
  · have HW := hid hw
    have FF := hid (show facesF ns ls = [] by unfold facesF; rw [hw]; rfl)
    clear hw
    go_enter Try.func38, Try.ntmps38
    go_wp2_with fail
    obtain ⟨_, pn, px, z1⟩ := WW.out _ V0.out
    refine (iWhole_any _ _ ns ls _ pn px).mono ?_
    rintro e w1 ⟨rfl, hb⟩
    rw [HW.out]
    have N1 := hid (N0.out.below hb)
    have V1 := hid (V0.out.trans (hb.mono z1))
    clear hb pn px
    go_wp2
    go_ret
    exact ⟨_, rfl, by rw [FF.out]; exact N1.out.less (by omega), then_ S0.out (by have := V1.out; simpa using this) S0.out.size⟩
  · have HW := hid hw
    have hok : winOkB ns ls = true := by
      unfold wholeB at hw; simp only [Bool.and_eq_true] at hw; exact hw.1
    have WF := hid (win_facts hok)
    have HOK := hid hok
    have hl20 := WF.out.m2
    obtain ⟨N, hN⟩ : ∃ N, N = 2 * ls.length := ⟨_, rfl⟩
    have FF := hid (show facesF ns ls = fcI ns ls N by unfold facesF; rw [hw, if_pos rfl, hN])
    have hN40 : N ≤ 40 := by omega
    have q0 : IntKind.i64.wrap (2 * (ls.length : Int)) = (N : Int) := by rw [IntWalk.i64_in _ (by omega)]; omega
    have HN2 := hid hN
    have TU := hid (next_turns WF.out)
    rw [← hN] at TU
    clear hw hok hN
    obtain ⟨i1, bi, bz0, bz1, bz2⟩ := info_parts infoBl
    have hmk : ∀ W : World, (Instr.makeSlice 44 (.int .i64 (N : Int)) (.int .i64 (N : Int))).run Try.prog W = .ok (.slice (some ⟨W.heap.size, 0, none⟩) N N) (W.alloc (.cells (madeCells #[.bool false] N) 4)) := fun W => by
      have := run_make (P := Try.prog) W 44 4 i1 _ Try.underlying44 bi bz0 .i64 .i64 (N : Int) (N : Int) (by omega) (by omega) (by rw [bz2]; omega) (by omega)
      rw [bz1] at this
      simp only [Int.toNat_natCast, Nat.mul_one] at this
      exact this
    clear bi bz0 bz1 bz2
    obtain ⟨i0, hinf, hz0, hz1, hz2⟩ := info_parts infoSl
    have HINF := hid (And.intro hinf (And.intro hz0 (And.intro hz1 hz2)))
    clear hinf hz0 hz1 hz2
    go_enter Try.func38, Try.ntmps38
    go_wp2_with fail
    obtain ⟨_, pn, px, z1⟩ := WW.out _ V0.out
    refine (iWhole_any _ _ ns ls _ pn px).mono ?_
    rintro e w1 ⟨rfl, hb⟩
    rw [HW.out]
    have N1 := hid (N0.out.below hb)
    have V1 := hid (V0.out.trans (hb.mono z1))
    clear hb pn px z1 N0 V0 v0 v1
    obtain ⟨bx, pn, px, z1⟩ := WW.out _ V1.out
    have v0 := bx.c0
    have v1 := bx.c1
    have vlt := bx.lt
    clear bx pn px
    have KB := hid (show Blk (w1.alloc (.cells (madeCells #[.bool false] N) 4)) w1.heap.size 4 (bRow N (seenP ns ls 0)).toArray by
      have e : seenP ns ls 0 = fun _ => false := by funext d; rfl
      rw [e, bRow_start]; exact Blk.new _ _ _)
    have N2 := hid (N1.out.below ((Below.refl _ _).alloc (Nat.le_refl _) (.cells (madeCells #[.bool false] N) 4)))
    have V2 := hid (V1.out.alloc z1 (.cells (madeCells #[.bool false] N) 4))
    have GB := hid z1
    have F0 := hid (show fcI ns ls 0 = [] from rfl)
    rw [← F0.out] at N2
    clear N1 V1 z1
    go_wp2_with fail
    clear hmk
    obtain ⟨g, hg⟩ : ∃ g, g = w1.heap.size := ⟨_, rfl⟩
    rw [← hg] at KB GB ⊢
    clear hg
    generalize w1.alloc _ = w1 at KB N2 V2 ⊢
    go_loopw [4, 19] (fun v j wr => ∃ n : Nat, n ≤ N ∧ j = .int .i64 n ∧ Hid (OwnSS (w.heap.size + 1) wr v (fcI ns ls n)) ∧ Hid (Blk wr g 4 (bRow N (seenP ns ls n)).toArray) ∧ Hid (Below (w.heap.size + 1) (w.alloc (.cells #[.slice A ns.length c, .slice A' ls.length c'] 31)) wr)) (fun _ j _ => N - (intOf j).toNat)
    case atStart => exact ⟨0, Nat.zero_le _, rfl, N2, KB, V2⟩
    case round =>
      clear v0 v1 vlt KB N2 V2
      obtain ⟨n, hn2, rfl, HO, KB, HB⟩ := hrel
      obtain ⟨bx, pn, px, z1⟩ := WW.out _ HB.out
      have v0 := bx.c0
      have v1 := bx.c1
      have vlt := bx.lt
      have PN := hid pn
      have PL := hid px
      clear bx pn px
      by_cases hlt : n < N
      · have hn0 : (0 : Int) ≤ (n : Int) := by omega
        have hn1 : (n : Int) < (N : Int) := by omega
        cases hs : seenP ns ls n n
        · have HS := hid hs
          have cs : wr.cell? ⟨g, n, none⟩ = some (.bool false) := by rw [KB.out.bool hlt, hs]
          clear hs
          go_wp2_with fail
          refine (iWalk_any _ _ ns ls n _ PN.out PL.out HOK.out (by rw [← HN2.out]; exact hlt)).mono ?_
          rintro e w3 ⟨u, rfl, hu, hb⟩
          obtain ⟨us, ho1, ho2⟩ := HO.out
          obtain ⟨A7, c7, hv7⟩ := row_form ho1
          subst hv7
          have R3 := hid (ho2.snoc hb hu z1)
          have O3 := hid (show w3.ownsRow (w.heap.size + 1) 37 1 _ us.length us from by
            refine World.ownsRow.kept (row := none) ho1 ⟨hb.os, hb.tape, hb.output, hb.size, fun k hk _ => hb.block k hk⟩ ?_
            rcases ho1.2 with ⟨a, _⟩ | ⟨_, _, _, a, _⟩
            · exact .inl (by rw [a]; rfl)
            · exact .inr (by rw [a]; simp [Value.ownBlock]))
          have K3 := hid (KB.out.below hb KB.out.lt)
          have B3 := hid (HB.out.trans (hb.mono z1))
          have WL := hid (TU.out.per_law hlt)
          have hlen : (walkI ns ls n).length = per (nxN ns ls) N n := by rw [walkI_len, HN2.out]
          obtain ⟨gu, cu, rfl, hgu1, hgu2⟩ := own_cons hu (by rw [hlen]; have := WL.out.1; omega)
          have U3 := hid (own_less hu z1)
          have HLEN := hid hlen
          have ULE := hid ho2.len
          have ul40 : us.length ≤ 40 := by rw [ho2.len]; have := fcI_len ns ls n; omega
          have HGU := hid hgu1
          clear hu hb ho1 ho2 HO KB HB cs v0 v1 vlt PN PL hlen hgu1 hgu2
          obtain ⟨L, hL⟩ : ∃ L, L = (walkI ns ls n).length := ⟨_, rfl⟩
          have HL3 := hid hL
          have hL40 : L ≤ 40 := by rw [hL, HLEN.out]; have := WL.out.2.1; omega
          rw [← hL] at U3 R3 ⊢
          clear hL
          obtain ⟨bx, pn, px, z3⟩ := WW.out _ B3.out
          have v0 := bx.c0
          have v1 := bx.c1
          have vlt := bx.lt
          clear bx pn px
          have KS := hid (show Blk w3 g 4 (bRow N (fun j => seenP ns ls n j || ((wk (nxN ns ls) N n).take 0).contains j)).toArray by
            have e : (fun j => seenP ns ls n j || ((wk (nxN ns ls) N n).take 0).contains j) = seenP ns ls n := by funext j; simp
            rw [e]; exact K3.out)
          go_wp2_with fail
          go_loopw [31] (fun j wr => ∃ i : Nat, i ≤ L ∧ j = .int .i64 i ∧ Hid (wr.ownsRow (w.heap.size + 1) 37 1 (.slice A7 us.length c7) us.length us) ∧ Hid (RowsOf (w.heap.size + 1) wr (us ++ [.slice (some ⟨gu, 0, none⟩) L cu]) (fcI ns ls n ++ [walkI ns ls n])) ∧ Hid (Blk wr g 4 (bRow N (fun j => seenP ns ls n j || ((wk (nxN ns ls) N n).take i).contains j)).toArray) ∧ Hid (Below (w.heap.size + 1) (w.alloc (.cells #[.slice A ns.length c, .slice A' ls.length c'] 31)) wr)) (fun j _ => L - (intOf j).toNat)
          case atStart => exact ⟨0, Nat.zero_le _, rfl, O3, R3, KS, B3⟩
          case round =>
            clear v0 v1 vlt
            obtain ⟨i, hi, rfl, O4, R4, K4, B4⟩ := hrel
            obtain ⟨bx, pn, px, z4⟩ := WW.out _ B4.out
            have v0 := bx.c0
            have v1 := bx.c1
            have vlt := bx.lt
            clear bx pn px
            have U4 := hid (R4.out.at_ us.length (.slice (some ⟨gu, 0, none⟩) L cu) (walkI ns ls n) (by simp) (by rw [ULE.out]; simp))
            by_cases hil : i < L
            · have hi0 : (0 : Int) ≤ (i : Int) := by omega
              have hi1 : (i : Int) < (L : Int) := by omega
              have hip : i < per (nxN ns ls) N n := by rw [← HLEN.out, ← HL3.out]; exact hil
              have hwk := wk_get (nxN ns ls) N n i hip
              obtain ⟨e, he⟩ : ∃ e, e = it (nxN ns ls) i n := ⟨_, rfl⟩
              rw [← he] at hwk
              have heN : e < N := by rw [he]; exact TU.out.it_lt hlt i
              have hci : (walkI ns ls n)[i]? = some (e : Int) := by
                unfold walkI; rw [← HN2.out, List.getElem?_map, hwk]; rfl
              have hu := U4.out
              unfold OwnInts at hu
              rw [← HL3.out] at hu
              have cu4 : wr.cell? ⟨gu, i, none⟩ = some (.int .i64 e) := own_cell hu HL3.out.symm hci
              have ce : wr.cell? ⟨g, e, none⟩ = some (.bool (seenP ns ls n e || ((wk (nxN ns ls) N n).take i).contains e)) := K4.out.bool heN
              have fe : wr.frozen? ⟨g, e, none⟩ = false := K4.out.frozen e
              generalize (seenP ns ls n e || ((wk (nxN ns ls) N n).take i).contains e) = b9 at ce
              have he0 : (0 : Int) ≤ (e : Int) := by omega
              have he1 : (e : Int) < (N : Int) := by omega
              have WKE := hid hwk
              clear he hwk hci hu
              go_wp2
              go_roundw
              case rel =>
                have gs := grown_set wr g e (.bool true)
                refine ⟨i + 1, by omega, by go_num, hid (own_beside O4.out gs K4.out (by decide)), hid (R4.out.beside gs K4.out (by decide)), hid ?_, hid (B4.out.setCell (p := ⟨g, e, none⟩) GB.out _)⟩
                have hset := K4.out.set_ e (.bool true)
                rw [List.setIfInBounds_toArray, bRow_set N _ (fun j => seenP ns ls n j || ((wk (nxN ns ls) N n).take (i + 1)).contains j) e (fun j _ => by rw [take_has WKE.out, Bool.or_assoc])] at hset
                exact hset
              case measure => simp [intOf]; omega
            · have he : i = L := by omega
              have FN := hid (fcI_no HS.out)
              have SN := hid (show (bRow N (fun j => seenP ns ls n j || ((wk (nxN ns ls) N n).take i).contains j)) = bRow N (seenP ns ls (n + 1)) by
                congr 1; funext j
                rw [seenP_no HS.out, ← HN2.out, List.take_of_length_le (by rw [wk_len, ← HLEN.out, ← HL3.out]; omega)])
              rw [SN.out] at K4
              clear he
              have C3 := hid (show us.length + 1 ≤ maxLen by unfold maxLen; omega)
              have C4 := hid (show (us.length + 1) * 24 ≤ 140737488355328 by omega)
              have O5 := hid (show (wr.alloc (.cells #[.slice (some ⟨gu, 0, none⟩) L cu] 37)).ownsRow (w.heap.size + 1) 37 1 _ us.length us from O4.out.alloc _)
              go_wp2_with (at_builtin; obtain ⟨hinf, hz0, hz1, hz2⟩ := HINF.out; refine wpList_append_own _ rfl _ _ 48 rfl (w.heap.size + 1) 37 i0 (.slice none 0 0) 1 24 Try.underlying48 hinf hz0 hz1 hz2 rfl (by decide) _ _ _ rfl O5.out ⟨wr.heap.size, 0, none⟩ 1 1 [.slice (some ⟨gu, 0, none⟩) L cu] rfl rfl (cell_one_new wr (.slice (some ⟨gu, 0, none⟩) L cu) 37) (by simp [Value.oneCell']) C3.out C4.out (by simp; omega) ?_)
              intro v' w' hown' hgrow _
              have R5 := hid ((R4.out.below ((Below.refl _ _).alloc (Nat.le_refl _) (.cells #[.slice (some ⟨gu, 0, none⟩) L cu] 37))).grown hgrow O5.out)
              have K5 := hid (show Blk w' g 4 (bRow N (seenP ns ls (n + 1))).toArray by
                have k1 := K4.out.below ((Below.refl wr.heap.size wr).alloc (Nat.le_refl _) (.cells #[.slice (some ⟨gu, 0, none⟩) L cu] 37)) K4.out.lt
                have hb := hgrow.block g k1.lt (fun e => by
                  rcases O5.out.2 with ⟨a, _⟩ | ⟨g', _, cur, a, _, h3, _⟩
                  · rw [a] at e; cases e
                  · rw [a] at e
                    have e' : g = g' := by simpa [Value.ownBlock] using e
                    subst e'
                    unfold Blk at k1
                    rw [k1] at h3
                    injection h3 with h3
                    injection h3 with _ h3 _
                    exact absurd h3 (by decide))
                unfold Blk at k1 ⊢; rw [hb]; exact k1)
              have HB2 := hid ((B4.out.alloc z4 (.cells #[.slice (some ⟨gu, 0, none⟩) L cu] 37)).grown hgrow (by simp; omega) (fun g' hg' => (O5.out.lt g' hg').1))
              have N5 := hid (show OwnSS (w.heap.size + 1) w' v' (fcI ns ls (n + 1)) by
                rw [FN.out]
                exact ⟨us ++ [.slice (some ⟨gu, 0, none⟩) L cu], by simpa using hown', R5.out⟩)
              clear hown' hgrow O5 O4 R4 K4 B4 R5
              go_wp2
              go_roundw
              case rel => exact ⟨n + 1, by omega, by go_num, N5, K5, HB2⟩
              case measure => simp [intOf]; omega
        · have HS := hid hs
          have cs : wr.cell? ⟨g, n, none⟩ = some (.bool true) := by rw [KB.out.bool hlt, hs]
          have FY := hid (fcI_yes hs)
          have SY := hid (seenP_yes hs)
          clear hs
          go_wp2
          go_roundw
          case rel => exact ⟨n + 1, by omega, by go_num, by rw [FY.out]; exact HO, by rw [SY.out]; exact KB, HB⟩
          case measure => simp [intOf]; omega
      · have he : n = N := by omega
        subst he
        go_wp2
        go_ret
        exact ⟨_, rfl, by rw [FF.out]; exact HO.out.less (by omega), then_ S0.out (by have := HB.out; simpa using this) S0.out.size⟩
theorem sFaces_any (vn vl : Value) (ns ls : List (Int × Int)) (w : World) (hn : PairsAt w vn ns) (hl : PairsAt w vl ls) : Calls Try.prog 37 #[.agg #[vn, vl]] w fun e w' => ∃ v, e = .returned v ∧ OwnSS w.heap.size w' v (facesF ns ls) ∧ Below w.heap.size w w' := by
  have s0 : Below w.heap.size w (w.alloc (.cells #[vn, vl] 31)) := (Below.refl _ _).alloc (Nat.le_refl _) _
  have HN := hid (hn.below s0)
  have HL := hid (hl.below s0)
  have B0 := hid (BoxV.new w vn vl 31 w.heap.size rfl)
  have S0 := hid s0
  clear s0
  obtain ⟨A, c, rfl, hcn, hm, _⟩ := id hn
  obtain ⟨A', c', rfl, hcl, hm', _⟩ := id hl
  unfold maxLen at hm hm'
  clear hn hl
  have v0 := B0.out.c0
  have v1 := B0.out.c1
  have WW : Hid (∀ wr, Below (w.heap.size + 1) (w.alloc (.cells #[.slice A ns.length c, .slice A' ls.length c'] 31)) wr → BoxV wr w.heap.size (.slice A ns.length c) (.slice A' ls.length c') ∧ PairsAt wr (.slice A ns.length c) ns ∧ PairsAt wr (.slice A' ls.length c') ls ∧ w.heap.size + 1 ≤ wr.heap.size) := hid (fun wr h => by
    have h' : Below (w.alloc (.cells #[.slice A ns.length c, .slice A' ls.length c'] 31)).heap.size (w.alloc (.cells #[.slice A ns.length c, .slice A' ls.length c'] 31)) wr := by simpa using h
    exact ⟨B0.out.below h', HN.out.below h', HL.out.below h', by have := h'.size; simpa using this⟩)
  have nil0 : OwnSS (w.heap.size + 1) ((w.alloc (.cells #[.slice A ns.length c, .slice A' ls.length c'] 31)).alloc (.cells #[] 37)) (.slice (some ⟨w.heap.size + 1, 0, none⟩) 0 0) [] := by
    have := World.ownsRow_lit (w.alloc (.cells #[.slice A ns.length c, .slice A' ls.length c'] 31)) (base := w.heap.size + 1) (e := 37) (size := 1) #[] 0 (by simp) (by unfold maxLen; omega) (by simp)
    exact ⟨[], by simpa using this, rfl, fun i u l hu hl => by simp at hu, List.Pairwise.nil⟩
  have N0 := hid nil0
  clear nil0
  have V0 : Hid (Below (w.heap.size + 1) (w.alloc (.cells #[.slice A ns.length c, .slice A' ls.length c'] 31)) ((w.alloc (.cells #[.slice A ns.length c, .slice A' ls.length c'] 31)).alloc (.cells #[] 37))) := hid ((Below.refl _ _).alloc (by simp) _)
  cases hw : wholeB ns ls
  · have HW := hid hw
    have FF := hid (show facesF ns ls = [] by unfold facesF; rw [hw]; rfl)
    clear hw
    go_enter Try.func37, Try.ntmps37
    go_wp2_with fail
    obtain ⟨_, pn, px, z1⟩ := WW.out _ V0.out
    refine (sWhole_any _ _ ns ls _ pn px).mono ?_
    rintro e w1 ⟨rfl, hb⟩
    rw [HW.out]
    have N1 := hid (N0.out.below hb)
    have V1 := hid (V0.out.trans (hb.mono z1))
    clear hb pn px
    go_wp2
    go_ret
    exact ⟨_, rfl, by rw [FF.out]; exact N1.out.less (by omega), then_ S0.out (by have := V1.out; simpa using this) S0.out.size⟩
  · have HW := hid hw
    have hok : winOkB ns ls = true := by
      unfold wholeB at hw; simp only [Bool.and_eq_true] at hw; exact hw.1
    have WF := hid (win_facts hok)
    have HOK := hid hok
    have hl20 := WF.out.m2
    obtain ⟨N, hN⟩ : ∃ N, N = 2 * ls.length := ⟨_, rfl⟩
    have FF := hid (show facesF ns ls = fcI ns ls N by unfold facesF; rw [hw, if_pos rfl, hN])
    have hN40 : N ≤ 40 := by omega
    have q0 : IntKind.i64.wrap (2 * (ls.length : Int)) = (N : Int) := by rw [IntWalk.i64_in _ (by omega)]; omega
    have HN2 := hid hN
    have TU := hid (next_turns WF.out)
    rw [← hN] at TU
    clear hw hok hN
    obtain ⟨i1, bi, bz0, bz1, bz2⟩ := info_parts infoBl
    have hmk : ∀ W : World, (Instr.makeSlice 44 (.int .i64 (N : Int)) (.int .i64 (N : Int))).run Try.prog W = .ok (.slice (some ⟨W.heap.size, 0, none⟩) N N) (W.alloc (.cells (madeCells #[.bool false] N) 4)) := fun W => by
      have := run_make (P := Try.prog) W 44 4 i1 _ Try.underlying44 bi bz0 .i64 .i64 (N : Int) (N : Int) (by omega) (by omega) (by rw [bz2]; omega) (by omega)
      rw [bz1] at this
      simp only [Int.toNat_natCast, Nat.mul_one] at this
      exact this
    clear bi bz0 bz1 bz2
    obtain ⟨i0, hinf, hz0, hz1, hz2⟩ := info_parts infoSl
    have HINF := hid (And.intro hinf (And.intro hz0 (And.intro hz1 hz2)))
    clear hinf hz0 hz1 hz2
    go_enter Try.func37, Try.ntmps37
    go_wp2_with fail
    obtain ⟨_, pn, px, z1⟩ := WW.out _ V0.out
    refine (sWhole_any _ _ ns ls _ pn px).mono ?_
    rintro e w1 ⟨rfl, hb⟩
    rw [HW.out]
    have N1 := hid (N0.out.below hb)
    have V1 := hid (V0.out.trans (hb.mono z1))
    clear hb pn px z1 N0 V0 v0 v1
    obtain ⟨bx, pn, px, z1⟩ := WW.out _ V1.out
    have v0 := bx.c0
    have v1 := bx.c1
    have vlt := bx.lt
    clear bx pn px
    have KB := hid (show Blk (w1.alloc (.cells (madeCells #[.bool false] N) 4)) w1.heap.size 4 (bRow N (seenP ns ls 0)).toArray by
      have e : seenP ns ls 0 = fun _ => false := by funext d; rfl
      rw [e, bRow_start]; exact Blk.new _ _ _)
    have N2 := hid (N1.out.below ((Below.refl _ _).alloc (Nat.le_refl _) (.cells (madeCells #[.bool false] N) 4)))
    have V2 := hid (V1.out.alloc z1 (.cells (madeCells #[.bool false] N) 4))
    have GB := hid z1
    have F0 := hid (show fcI ns ls 0 = [] from rfl)
    rw [← F0.out] at N2
    clear N1 V1 z1
    go_wp2_with fail
    clear hmk
    obtain ⟨g, hg⟩ : ∃ g, g = w1.heap.size := ⟨_, rfl⟩
    rw [← hg] at KB GB ⊢
    clear hg
    generalize w1.alloc _ = w1 at KB N2 V2 ⊢
    go_loopw [3, 5] (fun v j wr => ∃ n : Nat, n ≤ N ∧ j = .int .i64 n ∧ Hid (OwnSS (w.heap.size + 1) wr v (fcI ns ls n)) ∧ Hid (Blk wr g 4 (bRow N (seenP ns ls n)).toArray) ∧ Hid (Below (w.heap.size + 1) (w.alloc (.cells #[.slice A ns.length c, .slice A' ls.length c'] 31)) wr)) (fun _ j _ => N - (intOf j).toNat)
    case atStart => exact ⟨0, Nat.zero_le _, rfl, N2, KB, V2⟩
    case round =>
      clear v0 v1 vlt KB N2 V2
      obtain ⟨n, hn2, rfl, HO, KB, HB⟩ := hrel
      obtain ⟨bx, pn, px, z1⟩ := WW.out _ HB.out
      have v0 := bx.c0
      have v1 := bx.c1
      have vlt := bx.lt
      have PN := hid pn
      have PL := hid px
      clear bx pn px
      by_cases hlt : n < N
      · have hn0 : (0 : Int) ≤ (n : Int) := by omega
        have hn1 : (n : Int) < (N : Int) := by omega
        cases hs : seenP ns ls n n
        · have HS := hid hs
          have cs : wr.cell? ⟨g, n, none⟩ = some (.bool false) := by rw [KB.out.bool hlt, hs]
          clear hs
          go_wp2_with fail
          refine (sWalk_any _ _ ns ls n _ PN.out PL.out HOK.out (by rw [← HN2.out]; exact hlt)).mono ?_
          rintro e w3 ⟨u, rfl, hu, hb⟩
          obtain ⟨us, ho1, ho2⟩ := HO.out
          obtain ⟨A7, c7, hv7⟩ := row_form ho1
          subst hv7
          have R3 := hid (ho2.snoc hb hu z1)
          have O3 := hid (show w3.ownsRow (w.heap.size + 1) 37 1 _ us.length us from by
            refine World.ownsRow.kept (row := none) ho1 ⟨hb.os, hb.tape, hb.output, hb.size, fun k hk _ => hb.block k hk⟩ ?_
            rcases ho1.2 with ⟨a, _⟩ | ⟨_, _, _, a, _⟩
            · exact .inl (by rw [a]; rfl)
            · exact .inr (by rw [a]; simp [Value.ownBlock]))
          have K3 := hid (KB.out.below hb KB.out.lt)
          have B3 := hid (HB.out.trans (hb.mono z1))
          have WL := hid (TU.out.per_law hlt)
          have hlen : (walkI ns ls n).length = per (nxN ns ls) N n := by rw [walkI_len, HN2.out]
          obtain ⟨gu, cu, rfl, hgu1, hgu2⟩ := own_cons hu (by rw [hlen]; have := WL.out.1; omega)
          have U3 := hid (own_less hu z1)
          have HLEN := hid hlen
          have ULE := hid ho2.len
          have ul40 : us.length ≤ 40 := by rw [ho2.len]; have := fcI_len ns ls n; omega
          have HGU := hid hgu1
          clear hu hb ho1 ho2 HO KB HB cs v0 v1 vlt PN PL hlen hgu1 hgu2
          obtain ⟨L, hL⟩ : ∃ L, L = (walkI ns ls n).length := ⟨_, rfl⟩
          have HL3 := hid hL
          have hL40 : L ≤ 40 := by rw [hL, HLEN.out]; have := WL.out.2.1; omega
          rw [← hL] at U3 R3 ⊢
          clear hL
          obtain ⟨bx, pn, px, z3⟩ := WW.out _ B3.out
          have v0 := bx.c0
          have v1 := bx.c1
          have vlt := bx.lt
          clear bx pn px
          have KS := hid (show Blk w3 g 4 (bRow N (fun j => seenP ns ls n j || ((wk (nxN ns ls) N n).take 0).contains j)).toArray by
            have e : (fun j => seenP ns ls n j || ((wk (nxN ns ls) N n).take 0).contains j) = seenP ns ls n := by funext j; simp
            rw [e]; exact K3.out)
          go_wp2_with fail
          go_loopw [7] (fun j wr => ∃ i : Nat, i ≤ L ∧ j = .int .i64 i ∧ Hid (wr.ownsRow (w.heap.size + 1) 37 1 (.slice A7 us.length c7) us.length us) ∧ Hid (RowsOf (w.heap.size + 1) wr (us ++ [.slice (some ⟨gu, 0, none⟩) L cu]) (fcI ns ls n ++ [walkI ns ls n])) ∧ Hid (Blk wr g 4 (bRow N (fun j => seenP ns ls n j || ((wk (nxN ns ls) N n).take i).contains j)).toArray) ∧ Hid (Below (w.heap.size + 1) (w.alloc (.cells #[.slice A ns.length c, .slice A' ls.length c'] 31)) wr)) (fun j _ => L - (intOf j).toNat)
          case atStart => exact ⟨0, Nat.zero_le _, rfl, O3, R3, KS, B3⟩
          case round =>
            clear v0 v1 vlt
            obtain ⟨i, hi, rfl, O4, R4, K4, B4⟩ := hrel
            obtain ⟨bx, pn, px, z4⟩ := WW.out _ B4.out
            have v0 := bx.c0
            have v1 := bx.c1
            have vlt := bx.lt
            clear bx pn px
            have U4 := hid (R4.out.at_ us.length (.slice (some ⟨gu, 0, none⟩) L cu) (walkI ns ls n) (by simp) (by rw [ULE.out]; simp))
            by_cases hil : i < L
            · have hi0 : (0 : Int) ≤ (i : Int) := by omega
              have hi1 : (i : Int) < (L : Int) := by omega
              have hip : i < per (nxN ns ls) N n := by rw [← HLEN.out, ← HL3.out]; exact hil
              have hwk := wk_get (nxN ns ls) N n i hip
              obtain ⟨e, he⟩ : ∃ e, e = it (nxN ns ls) i n := ⟨_, rfl⟩
              rw [← he] at hwk
              have heN : e < N := by rw [he]; exact TU.out.it_lt hlt i
              have hci : (walkI ns ls n)[i]? = some (e : Int) := by
                unfold walkI; rw [← HN2.out, List.getElem?_map, hwk]; rfl
              have hu := U4.out
              unfold OwnInts at hu
              rw [← HL3.out] at hu
              have cu4 : wr.cell? ⟨gu, i, none⟩ = some (.int .i64 e) := own_cell hu HL3.out.symm hci
              have ce : wr.cell? ⟨g, e, none⟩ = some (.bool (seenP ns ls n e || ((wk (nxN ns ls) N n).take i).contains e)) := K4.out.bool heN
              have fe : wr.frozen? ⟨g, e, none⟩ = false := K4.out.frozen e
              generalize (seenP ns ls n e || ((wk (nxN ns ls) N n).take i).contains e) = b9 at ce
              have he0 : (0 : Int) ≤ (e : Int) := by omega
              have he1 : (e : Int) < (N : Int) := by omega
              have WKE := hid hwk
              clear he hwk hci hu
              go_wp2
              go_roundw
              case rel =>
                have gs := grown_set wr g e (.bool true)
                refine ⟨i + 1, by omega, by go_num, hid (own_beside O4.out gs K4.out (by decide)), hid (R4.out.beside gs K4.out (by decide)), hid ?_, hid (B4.out.setCell (p := ⟨g, e, none⟩) GB.out _)⟩
                have hset := K4.out.set_ e (.bool true)
                rw [List.setIfInBounds_toArray, bRow_set N _ (fun j => seenP ns ls n j || ((wk (nxN ns ls) N n).take (i + 1)).contains j) e (fun j _ => by rw [take_has WKE.out, Bool.or_assoc])] at hset
                exact hset
              case measure => simp [intOf]; omega
            · have he : i = L := by omega
              have FN := hid (fcI_no HS.out)
              have SN := hid (show (bRow N (fun j => seenP ns ls n j || ((wk (nxN ns ls) N n).take i).contains j)) = bRow N (seenP ns ls (n + 1)) by
                congr 1; funext j
                rw [seenP_no HS.out, ← HN2.out, List.take_of_length_le (by rw [wk_len, ← HLEN.out, ← HL3.out]; omega)])
              rw [SN.out] at K4
              clear he
              have C3 := hid (show us.length + 1 ≤ maxLen by unfold maxLen; omega)
              have C4 := hid (show (us.length + 1) * 24 ≤ 140737488355328 by omega)
              have O5 := hid (show (wr.alloc (.cells #[.slice (some ⟨gu, 0, none⟩) L cu] 37)).ownsRow (w.heap.size + 1) 37 1 _ us.length us from O4.out.alloc _)
              go_wp2_with (at_builtin; obtain ⟨hinf, hz0, hz1, hz2⟩ := HINF.out; refine wpList_append_own _ rfl _ _ 48 rfl (w.heap.size + 1) 37 i0 (.slice none 0 0) 1 24 Try.underlying48 hinf hz0 hz1 hz2 rfl (by decide) _ _ _ rfl O5.out ⟨wr.heap.size, 0, none⟩ 1 1 [.slice (some ⟨gu, 0, none⟩) L cu] rfl rfl (cell_one_new wr (.slice (some ⟨gu, 0, none⟩) L cu) 37) (by simp [Value.oneCell']) C3.out C4.out (by simp; omega) ?_)
              intro v' w' hown' hgrow _
              have R5 := hid ((R4.out.below ((Below.refl _ _).alloc (Nat.le_refl _) (.cells #[.slice (some ⟨gu, 0, none⟩) L cu] 37))).grown hgrow O5.out)
              have K5 := hid (show Blk w' g 4 (bRow N (seenP ns ls (n + 1))).toArray by
                have k1 := K4.out.below ((Below.refl wr.heap.size wr).alloc (Nat.le_refl _) (.cells #[.slice (some ⟨gu, 0, none⟩) L cu] 37)) K4.out.lt
                have hb := hgrow.block g k1.lt (fun e => by
                  rcases O5.out.2 with ⟨a, _⟩ | ⟨g', _, cur, a, _, h3, _⟩
                  · rw [a] at e; cases e
                  · rw [a] at e
                    have e' : g = g' := by simpa [Value.ownBlock] using e
                    subst e'
                    unfold Blk at k1
                    rw [k1] at h3
                    injection h3 with h3
                    injection h3 with _ h3 _
                    exact absurd h3 (by decide))
                unfold Blk at k1 ⊢; rw [hb]; exact k1)
              have HB2 := hid ((B4.out.alloc z4 (.cells #[.slice (some ⟨gu, 0, none⟩) L cu] 37)).grown hgrow (by simp; omega) (fun g' hg' => (O5.out.lt g' hg').1))
              have N5 := hid (show OwnSS (w.heap.size + 1) w' v' (fcI ns ls (n + 1)) by
                rw [FN.out]
                exact ⟨us ++ [.slice (some ⟨gu, 0, none⟩) L cu], by simpa using hown', R5.out⟩)
              clear hown' hgrow O5 O4 R4 K4 B4 R5
              go_wp2
              go_roundw
              case rel => exact ⟨n + 1, by omega, by go_num, N5, K5, HB2⟩
              case measure => simp [intOf]; omega
        · have HS := hid hs
          have cs : wr.cell? ⟨g, n, none⟩ = some (.bool true) := by rw [KB.out.bool hlt, hs]
          have FY := hid (fcI_yes hs)
          have SY := hid (seenP_yes hs)
          clear hs
          go_wp2
          go_roundw
          case rel => exact ⟨n + 1, by omega, by go_num, by rw [FY.out]; exact HO, by rw [SY.out]; exact KB, HB⟩
          case measure => simp [intOf]; omega
      · have he : n = N := by omega
        subst he
        go_wp2
        go_ret
        exact ⟨_, rfl, by rw [FF.out]; exact HO.out.less (by omega), then_ S0.out (by have := HB.out; simpa using this) S0.out.size⟩
end Go.Proofs.Ytdhppajfdcfikaa

/- OuterFace, AreaOf, TotalArea, FaceAt, in the program and in the reference. No condition. -/
namespace Go.Proofs.Ytdhppajfdcfikaa
open Go.ChangeShapes Go.WideShapes Go.ChangeAt Go.RowKit
set_option maxHeartbeats 4000000
set_option linter.unusedSimpArgs false
set_option linter.unusedVariables false
/-- the value is a slice of slices of ints -/
def SSAt (w : World) (v : Value) (fs : List (List Int)) : Prop := ∃ A c, v = .slice A fs.length c ∧ fs.length ≤ 1000 ∧ ∀ (i : Nat) (l : List Int), fs[i]? = some l → ∃ b off u, A = some ⟨b, off, none⟩ ∧ b < w.heap.size ∧ w.cell? ⟨b, off + i, none⟩ = some u ∧ IntsAt w u l
theorem SSAt.below {w w' : World} {v : Value} {fs : List (List Int)} (h : SSAt w v fs) (hb : Below w.heap.size w w') : SSAt w' v fs := by
  obtain ⟨A, c, h1, h2, h3⟩ := h
  refine ⟨A, c, h1, h2, fun i l hi => ?_⟩
  obtain ⟨b, off, u, e1, e2, e3, e4⟩ := h3 i l hi
  exact ⟨b, off, u, e1, Nat.lt_of_lt_of_le e2 hb.size, by rw [hb.cell (p := ⟨b, _, none⟩) e2]; exact e3, e4.below hb⟩
theorem OwnSS.at_ {B : Nat} {w : World} {v : Value} {fs : List (List Int)} (h : OwnSS B w v fs) (hn : fs.length ≤ 1000) (hl : ∀ (i : Nat) (l : List Int), fs[i]? = some l → l.length ≤ 1000) : SSAt w v fs := by
  obtain ⟨us, h1, h2⟩ := h
  obtain ⟨A, c, hv⟩ := row_form h1
  refine ⟨A, c, by rw [hv, h2.len], hn, fun i l hi => ?_⟩
  have hil : i < us.length := by
    rw [h2.len]
    rcases Nat.lt_or_ge i fs.length with h' | h'
    · exact h'
    · rw [List.getElem?_eq_none h'] at hi; cases hi
  rcases h1.2 with ⟨a, b⟩ | ⟨g, cap, cur, a, _, h3, _⟩
  · omega
  · rw [hv] at a
    have hA : A = some ⟨g, 0, none⟩ := by injection a
    subst hA
    have hc : cap = c := by injection a with _ _ a; exact a.symm
    subst hc
    rw [hv] at h1
    refine ⟨g, 0, us[i], rfl, (h1.lt g rfl).2, ?_, (h2.at_ i _ l (List.getElem?_eq_getElem hil) hi).at_ (by have := hl i l hi; omega)⟩
    rw [Nat.zero_add, World.ownsRow.cellAt h1 i (by omega)]
    exact List.getElem?_eq_getElem hil
theorem faces_darts {ns ls : List (Int × Int)} (hok : winOkB ns ls = true) {n : Nat} (hn : n ≤ 2 * ls.length) {l : List Int} (h : l ∈ fcI ns ls n) : Darts ls l := by
  obtain ⟨m, hm, rfl⟩ := List.mem_map.1 h
  obtain ⟨d, hd, rfl⟩ := fc_wk _ _ n m hm
  exact walkI_darts (win_facts hok) (show d < 2 * ls.length by omega)
theorem faces_ok {ns ls : List (Int × Int)} (h : 0 < (facesF ns ls).length) : winOkB ns ls = true := by
  unfold facesF at h
  split at h
  · rename_i hw
    unfold wholeB at hw; simp only [Bool.and_eq_true] at hw; exact hw.1
  · simp at h
theorem faces_at {ns ls : List (Int × Int)} {i : Nat} {l : List Int} (h : (facesF ns ls)[i]? = some l) : winOkB ns ls = true ∧ Darts ls l := by
  have hi : i < (facesF ns ls).length := by
    rcases Nat.lt_or_ge i (facesF ns ls).length with h' | h'
    · exact h'
    · rw [List.getElem?_eq_none h'] at h; cases h
  have hok := faces_ok (ns := ns) (ls := ls) (by omega)
  refine ⟨hok, ?_⟩
  have hm := List.mem_of_getElem? h
  unfold facesF at hm
  split at hm
  · exact faces_darts hok (Nat.le_refl _) hm
  · cases hm
theorem faces_len (ns ls : List (Int × Int)) : (facesF ns ls).length ≤ 40 := by
  by_cases h : 0 < (facesF ns ls).length
  · have hok := faces_ok h
    have := (win_facts hok).m2
    unfold facesF
    split
    · exact Nat.le_trans (fcI_len _ _ _) (by omega)
    · simp
  · omega
theorem faces_ss {B : Nat} {w : World} {v : Value} {ns ls : List (Int × Int)} (h : OwnSS B w v (facesF ns ls)) : SSAt w v (facesF ns ls) :=
  h.at_ (by have := faces_len ns ls; omega) (fun i l hi => by have := faces_at hi; have := this.2.1; have := (win_facts (faces_at hi).1).m2; omega)
/-- the first place of a face that p takes, from place i on -/
def firstF (p : List Int → Bool) : List (List Int) → Int → Int
  | [], _ => -1
  | l :: t, i => if p l = true then i else firstF p t (i + 1)
theorem first_step (p : List Int → Bool) (fs : List (List Int)) (i : Nat) (l : List Int) (h : fs[i]? = some l) : firstF p (fs.drop i) (i : Int) = if p l = true then (i : Int) else firstF p (fs.drop (i + 1)) ((i + 1 : Nat) : Int) := by
  have hi : i < fs.length := by
    rcases Nat.lt_or_ge i fs.length with h' | h'
    · exact h'
    · rw [List.getElem?_eq_none h'] at h; cases h
  have e : fs[i] = l := by rw [List.getElem?_eq_getElem hi] at h; exact Option.some.inj h
  rw [List.drop_eq_getElem_cons hi, firstF, e]; rfl
theorem first_end (p : List Int → Bool) (fs : List (List Int)) (i : Int) : firstF p (fs.drop fs.length) i = -1 := by rw [List.drop_length]; rfl
def ofF (ns ls : List (Int × Int)) : Int := firstF (fun l => decide (areaL ns ls l ≤ 0)) (facesF ns ls) 0
def faF (ns ls : List (Int × Int)) (d : Int) : Int := firstF (fun l => decide (d ∈ l)) (facesF ns ls) 0
def absI (n : Int) : Int := if n < 0 then -n else n
def aoF (ns ls : List (Int × Int)) (f : Int) : Int := if inB f 0 (((facesF ns ls).length : Int) - 1) = true then absI (areaL ns ls ((facesF ns ls).getD f.toNat [])) else -1
def taF (ns ls : List (Int × Int)) : Int := aoF ns ls (ofF ns ls)
theorem size_any (n : Int) (w : World) (h : -1000000 ≤ n ∧ n ≤ 1000000) : Calls Try.prog 74 #[.int .i64 n] w fun e w' => e = .returned (.int .i64 (absI n)) ∧ w = w' := by
  obtain ⟨h1, h2⟩ := h
  go_enter Try.func74, Try.ntmps74
  go_wp2
  all_goals go_ret
  all_goals exact ⟨ret_int (by unfold absI; split <;> omega), rfl⟩
theorem area_small {ns ls : List (Int × Int)} {i : Nat} {l : List Int} (h : (facesF ns ls)[i]? = some l) : -1000000 ≤ areaL ns ls l ∧ areaL ns ls l ≤ 1000000 := by
  obtain ⟨hok, hd⟩ := faces_at h
  have F := win_facts hok
  have := F.area_bd hd l.length (Nat.le_refl _)
  rw [List.take_length] at this
  have := hd.1
  have := F.m2
  omega
theorem iOF_any (vn vl : Value) (ns ls : List (Int × Int)) (w : World) (hn : PairsAt w vn ns) (hl : PairsAt w vl ls) : Calls Try.prog 43 #[.agg #[vn, vl]] w fun e w' => e = .returned (.int .i64 (ofF ns ls)) ∧ Below w.heap.size w w' := by
  have s0 : Below w.heap.size w (w.alloc (.cells #[vn, vl] 31)) := (Below.refl _ _).alloc (Nat.le_refl _) _
  have HN := hid (hn.below s0)
  have HL := hid (hl.below s0)
  have B0 := hid (BoxV.new w vn vl 31 w.heap.size rfl)
  have S0 := hid s0
  clear s0
  obtain ⟨A, c, rfl, hcn, hm, _⟩ := id hn
  obtain ⟨A', c', rfl, hcl, hm', _⟩ := id hl
  unfold maxLen at hm hm'
  clear hn hl
  have v0 := B0.out.c0
  have v1 := B0.out.c1
  have WW : Hid (∀ wr, Below (w.heap.size + 1) (w.alloc (.cells #[.slice A ns.length c, .slice A' ls.length c'] 31)) wr → BoxV wr w.heap.size (.slice A ns.length c) (.slice A' ls.length c') ∧ PairsAt wr (.slice A ns.length c) ns ∧ PairsAt wr (.slice A' ls.length c') ls ∧ w.heap.size + 1 ≤ wr.heap.size) := hid (fun wr h => by
    have h' : Below (w.alloc (.cells #[.slice A ns.length c, .slice A' ls.length c'] 31)).heap.size (w.alloc (.cells #[.slice A ns.length c, .slice A' ls.length c'] 31)) wr := by simpa using h
    exact ⟨B0.out.below h', HN.out.below h', HL.out.below h', by have := h'.size; simpa using this⟩)
  have V0 : Hid (Below (w.heap.size + 1) (w.alloc (.cells #[.slice A ns.length c, .slice A' ls.length c'] 31)) (w.alloc (.cells #[.slice A ns.length c, .slice A' ls.length c'] 31))) := hid (Below.refl _ _)
  have FA := hid (fun i l h => faces_at (ns := ns) (ls := ls) (i := i) (l := l) h)
  have FSM := hid (fun i l h => area_small (ns := ns) (ls := ls) (i := i) (l := l) h)
  have OF := hid (show ofF ns ls = firstF (fun l => decide (areaL ns ls l ≤ 0)) ((facesF ns ls).drop 0) ((0 : Nat) : Int) from rfl)
  go_enter Try.func43, Try.ntmps43
  go_wp2_with fail
  refine (iFaces_any _ _ ns ls _ HN.out HL.out).mono ?_
  rintro e w1 ⟨v, rfl, ho, hb⟩
  have SS := hid (faces_ss ho)
  have V1 := hid (V0.out.trans (hb.mono (by simp)))
  obtain ⟨A9, c9, hv9, hm9, _⟩ := id SS.out
  subst hv9
  clear ho hb v0 v1 V0
  obtain ⟨bx, pn, px, z1⟩ := WW.out _ V1.out
  have v0 := bx.c0
  have v1 := bx.c1
  have vlt := bx.lt
  clear bx pn px z1
  generalize facesF ns ls = fs at SS FA FSM OF hm9 ⊢
  go_wp2_with fail
  go_loopw [8] (fun j wr => ∃ i : Nat, i ≤ fs.length ∧ j = .int .i64 i ∧ Hid (ofF ns ls = firstF (fun l => decide (areaL ns ls l ≤ 0)) (fs.drop i) (i : Int)) ∧ Hid (Below w1.heap.size w1 wr)) (fun j _ => fs.length - (intOf j).toNat)
  case atStart => exact ⟨0, Nat.zero_le _, rfl, OF, hid (Below.refl _ _)⟩
  case round =>
    obtain ⟨i, hi, rfl, OI, HB⟩ := hrel
    clear v0 v1 vlt
    have z1 : w.heap.size + 1 ≤ w1.heap.size := (WW.out _ V1.out).2.2.2
    have VR := hid (V1.out.trans (HB.out.mono z1))
    obtain ⟨bx, pn, px, z2⟩ := WW.out _ VR.out
    have v0 := bx.c0
    have v1 := bx.c1
    have vlt := bx.lt
    have BX := hid bx
    have PN := hid pn
    have PL := hid px
    have S2 := hid (SS.out.below HB.out)
    clear bx pn px
    by_cases hlt : i < fs.length
    · have hi0 : (0 : Int) ≤ (i : Int) := by omega
      have hi1 : (i : Int) < (fs.length : Int) := by omega
      obtain ⟨l, hx⟩ : ∃ l, fs[i]? = some l := ⟨_, List.getElem?_eq_getElem hlt⟩
      obtain ⟨hok, hdar⟩ := FA.out i l hx
      have ST := hid (first_step (fun l => decide (areaL ns ls l ≤ 0)) fs i l hx)
      obtain ⟨A8, c8, hv8, _, hc8⟩ := S2.out
      obtain ⟨b, off, u, hA, hbb, hcell, hI⟩ := hc8 i l hx
      have hAA : A9 = A8 := by injection hv8
      rw [← hAA] at hA
      subst hA
      obtain ⟨Au, cu, hu, hul, _⟩ := id hI
      subst hu
      have HDAR := hid hdar
      have HOK := hid hok
      have HI := hid hI
      clear hv8 hc8 hAA hI hdar hok hx
      cases hq : decide (areaL ns ls l ≤ 0)
      all_goals
        have HQ := hid hq
        have hq2 := hq
        simp only [decide_eq_true_iff, decide_eq_false_iff_not] at hq2
        clear hq
        go_wp2_with fail
        refine (iArea_any _ _ ns ls _ l _ PN.out PL.out HOK.out HI.out HDAR.out).mono ?_
        rintro e w3 ⟨rfl, hb3⟩
        have HB3 := hid (then_ HB.out hb3 HB.out.size)
        clear hb3
      · go_wp2
        go_roundw
        case rel => exact ⟨i + 1, by omega, by go_num, hid (by rw [OI.out, ST.out, if_neg (by rw [HQ.out]; simp)]), HB3⟩
        case measure => simp [intOf]; omega
      · go_wp2
        go_ret
        exact ⟨ret_int (by rw [OI.out, ST.out, if_pos HQ.out]), then_ S0.out (by have := V1.out.trans (HB3.out.mono z1); simpa using this) S0.out.size⟩
    · have he : i = fs.length := by omega
      subst he
      go_wp2
      go_ret
      exact ⟨ret_int (by rw [OI.out, first_end]), then_ S0.out (by have := VR.out; simpa using this) S0.out.size⟩
theorem sOF_any (vn vl : Value) (ns ls : List (Int × Int)) (w : World) (hn : PairsAt w vn ns) (hl : PairsAt w vl ls) : Calls Try.prog 42 #[.agg #[vn, vl]] w fun e w' => e = .returned (.int .i64 (ofF ns ls)) ∧ Below w.heap.size w w' := by
  have s0 : Below w.heap.size w (w.alloc (.cells #[vn, vl] 31)) := (Below.refl _ _).alloc (Nat.le_refl _) _
  have HN := hid (hn.below s0)
  have HL := hid (hl.below s0)
  have B0 := hid (BoxV.new w vn vl 31 w.heap.size rfl)
  have S0 := hid s0
  clear s0
  obtain ⟨A, c, rfl, hcn, hm, _⟩ := id hn
  obtain ⟨A', c', rfl, hcl, hm', _⟩ := id hl
  unfold maxLen at hm hm'
  clear hn hl
  have v0 := B0.out.c0
  have v1 := B0.out.c1
  have WW : Hid (∀ wr, Below (w.heap.size + 1) (w.alloc (.cells #[.slice A ns.length c, .slice A' ls.length c'] 31)) wr → BoxV wr w.heap.size (.slice A ns.length c) (.slice A' ls.length c') ∧ PairsAt wr (.slice A ns.length c) ns ∧ PairsAt wr (.slice A' ls.length c') ls ∧ w.heap.size + 1 ≤ wr.heap.size) := hid (fun wr h => by
    have h' : Below (w.alloc (.cells #[.slice A ns.length c, .slice A' ls.length c'] 31)).heap.size (w.alloc (.cells #[.slice A ns.length c, .slice A' ls.length c'] 31)) wr := by simpa using h
    exact ⟨B0.out.below h', HN.out.below h', HL.out.below h', by have := h'.size; simpa using this⟩)
  have V0 : Hid (Below (w.heap.size + 1) (w.alloc (.cells #[.slice A ns.length c, .slice A' ls.length c'] 31)) (w.alloc (.cells #[.slice A ns.length c, .slice A' ls.length c'] 31))) := hid (Below.refl _ _)
  have FA := hid (fun i l h => faces_at (ns := ns) (ls := ls) (i := i) (l := l) h)
  have FSM := hid (fun i l h => area_small (ns := ns) (ls := ls) (i := i) (l := l) h)
  have OF := hid (show ofF ns ls = firstF (fun l => decide (areaL ns ls l ≤ 0)) ((facesF ns ls).drop 0) ((0 : Nat) : Int) from rfl)
  go_enter Try.func42, Try.ntmps42
  go_wp2_with fail
  refine (sFaces_any _ _ ns ls _ HN.out HL.out).mono ?_
  rintro e w1 ⟨v, rfl, ho, hb⟩
  have SS := hid (faces_ss ho)
  have V1 := hid (V0.out.trans (hb.mono (by simp)))
  obtain ⟨A9, c9, hv9, hm9, _⟩ := id SS.out
  subst hv9
  clear ho hb v0 v1 V0
  obtain ⟨bx, pn, px, z1⟩ := WW.out _ V1.out
  have v0 := bx.c0
  have v1 := bx.c1
  have vlt := bx.lt
  clear bx pn px z1
  generalize facesF ns ls = fs at SS FA FSM OF hm9 ⊢
  go_wp2_with fail
  go_loopw [4] (fun j wr => ∃ i : Nat, i ≤ fs.length ∧ j = .int .i64 i ∧ Hid (ofF ns ls = firstF (fun l => decide (areaL ns ls l ≤ 0)) (fs.drop i) (i : Int)) ∧ Hid (Below w1.heap.size w1 wr)) (fun j _ => fs.length - (intOf j).toNat)
  case atStart => exact ⟨0, Nat.zero_le _, rfl, OF, hid (Below.refl _ _)⟩
  case round =>
    obtain ⟨i, hi, rfl, OI, HB⟩ := hrel
    clear v0 v1 vlt
    have z1 : w.heap.size + 1 ≤ w1.heap.size := (WW.out _ V1.out).2.2.2
    have VR := hid (V1.out.trans (HB.out.mono z1))
    obtain ⟨bx, pn, px, z2⟩ := WW.out _ VR.out
    have v0 := bx.c0
    have v1 := bx.c1
    have vlt := bx.lt
    have BX := hid bx
    have PN := hid pn
    have PL := hid px
    have S2 := hid (SS.out.below HB.out)
    clear bx pn px
    by_cases hlt : i < fs.length
    · have hi0 : (0 : Int) ≤ (i : Int) := by omega
      have hi1 : (i : Int) < (fs.length : Int) := by omega
      obtain ⟨l, hx⟩ : ∃ l, fs[i]? = some l := ⟨_, List.getElem?_eq_getElem hlt⟩
      obtain ⟨hok, hdar⟩ := FA.out i l hx
      have ST := hid (first_step (fun l => decide (areaL ns ls l ≤ 0)) fs i l hx)
      obtain ⟨A8, c8, hv8, _, hc8⟩ := S2.out
      obtain ⟨b, off, u, hA, hbb, hcell, hI⟩ := hc8 i l hx
      have hAA : A9 = A8 := by injection hv8
      rw [← hAA] at hA
      subst hA
      obtain ⟨Au, cu, hu, hul, _⟩ := id hI
      subst hu
      have HDAR := hid hdar
      have HOK := hid hok
      have HI := hid hI
      clear hv8 hc8 hAA hI hdar hok hx
      cases hq : decide (areaL ns ls l ≤ 0)
      all_goals
        have HQ := hid hq
        have hq2 := hq
        simp only [decide_eq_true_iff, decide_eq_false_iff_not] at hq2
        clear hq
        have CE := hid (fun q => sArea_any _ _ ns ls _ l (mv wr q) (PN.out.below (below_mv wr q)) (PL.out.below (below_mv wr q)) HOK.out (HI.out.below (below_mv wr q)) HDAR.out)
        have n0 := fun q => (BX.out.mv q).c0
        have n1 := fun q => (BX.out.mv q).c1
        have n2 : ∀ q, (mv wr q).cell? ⟨b, off + i, none⟩ = some (.slice Au l.length cu) := fun q => ((below_mv wr q).cell (p := ⟨b, _, none⟩) hbb).trans hcell
        go_wp2_with fail
        refine wp_region_mv (by kernel_rfl) (by kernel_rfl) ?_
        repeat (go_big_quiet_step ((go_at_call 59; exact calls_mv (CE.out _))))
        refine wpQuiet_nil ?_
        intro _ hw'
        obtain ⟨q, hw''⟩ := hw'
        subst hw''
        have HB3 := hid (then_ HB.out (below_mv wr q) HB.out.size)
        clear n0 n1 n2 CE
      · go_wp2
        go_roundw
        case rel => exact ⟨i + 1, by omega, by go_num, hid (by rw [OI.out, ST.out, if_neg (by rw [HQ.out]; simp)]), HB3⟩
        case measure => simp [intOf]; omega
      · go_wp2
        go_ret
        exact ⟨ret_int (by rw [OI.out, ST.out, if_pos HQ.out]), then_ S0.out (by have := V1.out.trans (HB3.out.mono z1); simpa using this) S0.out.size⟩
    · have he : i = fs.length := by omega
      subst he
      go_wp2
      go_ret
      exact ⟨ret_int (by rw [OI.out, first_end]), then_ S0.out (by have := VR.out; simpa using this) S0.out.size⟩
theorem iAO_any (vn vl : Value) (ns ls : List (Int × Int)) (d : Int) (w : World) (hn : PairsAt w vn ns) (hl : PairsAt w vl ls) : Calls Try.prog 47 #[.agg #[vn, vl], .int .i64 d] w fun e w' => e = .returned (.int .i64 (aoF ns ls d)) ∧ Below w.heap.size w w' := by
  have s0 : Below w.heap.size w (w.alloc (.cells #[vn, vl] 31)) := (Below.refl _ _).alloc (Nat.le_refl _) _
  have HN := hid (hn.below s0)
  have HL := hid (hl.below s0)
  have B0 := hid (BoxV.new w vn vl 31 w.heap.size rfl)
  have S0 := hid s0
  clear s0
  obtain ⟨A, c, rfl, hcn, hm, _⟩ := id hn
  obtain ⟨A', c', rfl, hcl, hm', _⟩ := id hl
  unfold maxLen at hm hm'
  clear hn hl
  have v0 := B0.out.c0
  have v1 := B0.out.c1
  have WW : Hid (∀ wr, Below (w.heap.size + 1) (w.alloc (.cells #[.slice A ns.length c, .slice A' ls.length c'] 31)) wr → BoxV wr w.heap.size (.slice A ns.length c) (.slice A' ls.length c') ∧ PairsAt wr (.slice A ns.length c) ns ∧ PairsAt wr (.slice A' ls.length c') ls ∧ w.heap.size + 1 ≤ wr.heap.size) := hid (fun wr h => by
    have h' : Below (w.alloc (.cells #[.slice A ns.length c, .slice A' ls.length c'] 31)).heap.size (w.alloc (.cells #[.slice A ns.length c, .slice A' ls.length c'] 31)) wr := by simpa using h
    exact ⟨B0.out.below h', HN.out.below h', HL.out.below h', by have := h'.size; simpa using this⟩)
  have V0 : Hid (Below (w.heap.size + 1) (w.alloc (.cells #[.slice A ns.length c, .slice A' ls.length c'] 31)) (w.alloc (.cells #[.slice A ns.length c, .slice A' ls.length c'] 31))) := hid (Below.refl _ _)
  have FA := hid (fun i l h => faces_at (ns := ns) (ls := ls) (i := i) (l := l) h)
  have FSM := hid (fun i l h => area_small (ns := ns) (ls := ls) (i := i) (l := l) h)
  cases hin : inB d 0 (((facesF ns ls).length : Int) - 1)
  · have E := hid (show aoF ns ls d = -1 by unfold aoF; rw [hin]; rfl)
    have HIN := hid hin
    clear hin
    go_enter Try.func47, Try.ntmps47
    go_wp2_with fail
    refine (iFaces_any _ _ ns ls _ HN.out HL.out).mono ?_
    rintro e w1 ⟨v, rfl, ho, hb⟩
    have SS := hid (faces_ss ho)
    have V1 := hid (V0.out.trans (hb.mono (by simp)))
    obtain ⟨A9, c9, hv9, hm9, _⟩ := id SS.out
    subst hv9
    clear ho hb v0 v1 V0
    obtain ⟨bx, pn, px, z1⟩ := WW.out _ V1.out
    have v0 := bx.c0
    have v1 := bx.c1
    have vlt := bx.lt
    clear bx pn px z1
    generalize facesF ns ls = fs at SS FA FSM HIN E hm9 ⊢
    go_wp2_with (go_at_call 72; refine (within_any _ _ _ _).mono ?_; rintro e w2 ⟨rfl, rfl⟩; rw [HIN.out])
    go_ret
    exact ⟨ret_int (by rw [E.out]), then_ S0.out (by have := V1.out; simpa using this) S0.out.size⟩
  · have hk : ∃ k : Nat, d = (k : Int) ∧ k < (facesF ns ls).length := by
      simp only [inB, Bool.and_eq_true, decide_eq_true_iff] at hin
      exact ⟨d.toNat, by omega, by omega⟩
    obtain ⟨k, rfl, hkl⟩ := hk
    obtain ⟨l, hx⟩ : ∃ l, (facesF ns ls)[k]? = some l := ⟨_, List.getElem?_eq_getElem hkl⟩
    have E := hid (show aoF ns ls (k : Int) = absI (areaL ns ls l) by
      unfold aoF; rw [hin, if_pos rfl, Int.toNat_natCast, List.getD_eq_getElem?_getD, hx]; rfl)
    obtain ⟨hok, hdar⟩ := FA.out k l hx
    have hsm := FSM.out k l hx
    have HOK := hid hok
    have HDAR := hid hdar
    have HX := hid hx
    have HIN := hid hin
    have hk0 : (0 : Int) ≤ (k : Int) := by omega
    clear hin hok hdar hx
    go_enter Try.func47, Try.ntmps47
    go_wp2_with fail
    refine (iFaces_any _ _ ns ls _ HN.out HL.out).mono ?_
    rintro e w1 ⟨v, rfl, ho, hb⟩
    have SS := hid (faces_ss ho)
    have V1 := hid (V0.out.trans (hb.mono (by simp)))
    obtain ⟨A9, c9, hv9, hm9, _⟩ := id SS.out
    subst hv9
    clear ho hb v0 v1 V0
    obtain ⟨bx, pn, px, z1⟩ := WW.out _ V1.out
    have v0 := bx.c0
    have v1 := bx.c1
    have vlt := bx.lt
    clear bx pn px z1
    generalize facesF ns ls = fs at SS FA FSM HIN HX hm9 hkl ⊢
    have hk1 : (k : Int) < (fs.length : Int) := by omega
    go_wp2_with (first | (go_at_call 72; refine (within_any _ _ _ _).mono ?_; rintro e w2 ⟨rfl, rfl⟩; rw [HIN.out]) | fail)
    obtain ⟨A8, c8, hv8, _, hc8⟩ := SS.out
    obtain ⟨b, off, u, hA, hbb, hcell, hI⟩ := hc8 k l HX.out
    have hAA : A9 = A8 := by injection hv8
    rw [← hAA] at hA
    subst hA
    obtain ⟨Au, cu, hu, hul, _⟩ := id hI
    subst hu
    have HI := hid hI
    obtain ⟨bx, pn, px, z1⟩ := WW.out _ V1.out
    have BX := hid bx
    have PN := hid pn
    have PL := hid px
    have CE := hid (fun q => iArea_any _ _ ns ls _ l (mv w1 q) (PN.out.below (below_mv w1 q)) (PL.out.below (below_mv w1 q)) HOK.out (HI.out.below (below_mv w1 q)) HDAR.out)
    have CS := hid (fun W => size_any (areaL ns ls l) W hsm)
    have n0 := fun q => (BX.out.mv q).c0
    have n1 := fun q => (BX.out.mv q).c1
    have n2 : ∀ q, (mv w1 q).cell? ⟨b, off + k, none⟩ = some (.slice Au l.length cu) := fun q => ((below_mv w1 q).cell (p := ⟨b, _, none⟩) hbb).trans hcell
    clear bx pn px hv8 hc8 hAA hI
    try go_wp2_with fail
    refine wp_region_mv (by kernel_rfl) (by kernel_rfl) ?_
    repeat (go_big_quiet_step (first | (go_at_call 60; exact calls_mv (CE.out _)) | (go_at_call 74; exact calls_mv_same (CS.out _))))
    refine wpQuiet_nil ?_
    intro _ hw'
    obtain ⟨q, hw''⟩ := hw'
    subst hw''
    have HB3 := hid (V1.out.trans ((below_mv w1 q).mono z1))
    clear n0 n1 n2 CE
    go_wp2
    go_ret
    exact ⟨ret_int (by rw [E.out]), then_ S0.out (by have := HB3.out; simpa using this) S0.out.size⟩
theorem sAO_any (vn vl : Value) (ns ls : List (Int × Int)) (d : Int) (w : World) (hn : PairsAt w vn ns) (hl : PairsAt w vl ls) : Calls Try.prog 46 #[.agg #[vn, vl], .int .i64 d] w fun e w' => e = .returned (.int .i64 (aoF ns ls d)) ∧ Below w.heap.size w w' := by
  have s0 : Below w.heap.size w (w.alloc (.cells #[vn, vl] 31)) := (Below.refl _ _).alloc (Nat.le_refl _) _
  have HN := hid (hn.below s0)
  have HL := hid (hl.below s0)
  have B0 := hid (BoxV.new w vn vl 31 w.heap.size rfl)
  have S0 := hid s0
  clear s0
  obtain ⟨A, c, rfl, hcn, hm, _⟩ := id hn
  obtain ⟨A', c', rfl, hcl, hm', _⟩ := id hl
  unfold maxLen at hm hm'
  clear hn hl
  have v0 := B0.out.c0
  have v1 := B0.out.c1
  have WW : Hid (∀ wr, Below (w.heap.size + 1) (w.alloc (.cells #[.slice A ns.length c, .slice A' ls.length c'] 31)) wr → BoxV wr w.heap.size (.slice A ns.length c) (.slice A' ls.length c') ∧ PairsAt wr (.slice A ns.length c) ns ∧ PairsAt wr (.slice A' ls.length c') ls ∧ w.heap.size + 1 ≤ wr.heap.size) := hid (fun wr h => by
    have h' : Below (w.alloc (.cells #[.slice A ns.length c, .slice A' ls.length c'] 31)).heap.size (w.alloc (.cells #[.slice A ns.length c, .slice A' ls.length c'] 31)) wr := by simpa using h
    exact ⟨B0.out.below h', HN.out.below h', HL.out.below h', by have := h'.size; simpa using this⟩)
  have V0 : Hid (Below (w.heap.size + 1) (w.alloc (.cells #[.slice A ns.length c, .slice A' ls.length c'] 31)) (w.alloc (.cells #[.slice A ns.length c, .slice A' ls.length c'] 31))) := hid (Below.refl _ _)
  have FA := hid (fun i l h => faces_at (ns := ns) (ls := ls) (i := i) (l := l) h)
  have FSM := hid (fun i l h => area_small (ns := ns) (ls := ls) (i := i) (l := l) h)
  cases hin : inB d 0 (((facesF ns ls).length : Int) - 1)
  · have E := hid (show aoF ns ls d = -1 by unfold aoF; rw [hin]; rfl)
    have HIN := hid hin
    clear hin
    go_enter Try.func46, Try.ntmps46
    go_wp2_with fail
    refine (sFaces_any _ _ ns ls _ HN.out HL.out).mono ?_
    rintro e w1 ⟨v, rfl, ho, hb⟩
    have SS := hid (faces_ss ho)
    have V1 := hid (V0.out.trans (hb.mono (by simp)))
    obtain ⟨A9, c9, hv9, hm9, _⟩ := id SS.out
    subst hv9
    clear ho hb v0 v1 V0
    obtain ⟨bx, pn, px, z1⟩ := WW.out _ V1.out
    have v0 := bx.c0
    have v1 := bx.c1
    have vlt := bx.lt
    clear bx pn px z1
    generalize facesF ns ls = fs at SS FA FSM HIN E hm9 ⊢
    go_wp2_with (go_at_call 73; refine (l01In_any _ _ _ _).mono ?_; rintro e w2 ⟨rfl, rfl⟩; rw [HIN.out])
    go_ret
    exact ⟨ret_int (by rw [E.out]), then_ S0.out (by have := V1.out; simpa using this) S0.out.size⟩
  · have hk : ∃ k : Nat, d = (k : Int) ∧ k < (facesF ns ls).length := by
      simp only [inB, Bool.and_eq_true, decide_eq_true_iff] at hin
      exact ⟨d.toNat, by omega, by omega⟩
    obtain ⟨k, rfl, hkl⟩ := hk
    obtain ⟨l, hx⟩ : ∃ l, (facesF ns ls)[k]? = some l := ⟨_, List.getElem?_eq_getElem hkl⟩
    have E := hid (show aoF ns ls (k : Int) = absI (areaL ns ls l) by
      unfold aoF; rw [hin, if_pos rfl, Int.toNat_natCast, List.getD_eq_getElem?_getD, hx]; rfl)
    obtain ⟨hok, hdar⟩ := FA.out k l hx
    have hsm := FSM.out k l hx
    have HOK := hid hok
    have HDAR := hid hdar
    have HX := hid hx
    have HIN := hid hin
    have hk0 : (0 : Int) ≤ (k : Int) := by omega
    clear hin hok hdar hx
    go_enter Try.func46, Try.ntmps46
    go_wp2_with fail
    refine (sFaces_any _ _ ns ls _ HN.out HL.out).mono ?_
    rintro e w1 ⟨v, rfl, ho, hb⟩
    have SS := hid (faces_ss ho)
    have V1 := hid (V0.out.trans (hb.mono (by simp)))
    obtain ⟨A9, c9, hv9, hm9, _⟩ := id SS.out
    subst hv9
    clear ho hb v0 v1 V0
    obtain ⟨bx, pn, px, z1⟩ := WW.out _ V1.out
    have v0 := bx.c0
    have v1 := bx.c1
    have vlt := bx.lt
    clear bx pn px z1
    generalize facesF ns ls = fs at SS FA FSM HIN HX hm9 hkl ⊢
    have hk1 : (k : Int) < (fs.length : Int) := by omega
    go_wp2_with (first | (go_at_call 73; refine (l01In_any _ _ _ _).mono ?_; rintro e w2 ⟨rfl, rfl⟩; rw [HIN.out]) | fail)
    obtain ⟨A8, c8, hv8, _, hc8⟩ := SS.out
    obtain ⟨b, off, u, hA, hbb, hcell, hI⟩ := hc8 k l HX.out
    have hAA : A9 = A8 := by injection hv8
    rw [← hAA] at hA
    subst hA
    obtain ⟨Au, cu, hu, hul, _⟩ := id hI
    subst hu
    have HI := hid hI
    obtain ⟨bx, pn, px, z1⟩ := WW.out _ V1.out
    have BX := hid bx
    have PN := hid pn
    have PL := hid px
    have CE := hid (fun q => sArea_any _ _ ns ls _ l (mv w1 q) (PN.out.below (below_mv w1 q)) (PL.out.below (below_mv w1 q)) HOK.out (HI.out.below (below_mv w1 q)) HDAR.out)
    have CS := hid (fun W => size_any (areaL ns ls l) W hsm)
    have n0 := fun q => (BX.out.mv q).c0
    have n1 := fun q => (BX.out.mv q).c1
    have n2 : ∀ q, (mv w1 q).cell? ⟨b, off + k, none⟩ = some (.slice Au l.length cu) := fun q => ((below_mv w1 q).cell (p := ⟨b, _, none⟩) hbb).trans hcell
    clear bx pn px hv8 hc8 hAA hI
    try go_wp2_with fail
    refine wp_region_mv (by kernel_rfl) (by kernel_rfl) ?_
    repeat (go_big_quiet_step ((go_at_call 59; exact calls_mv (CE.out _))))
    refine wpQuiet_nil ?_
    intro _ hw'
    obtain ⟨q, hw''⟩ := hw'
    subst hw''
    have HB3 := hid (V1.out.trans ((below_mv w1 q).mono z1))
    clear n0 n1 n2 CE
    obtain ⟨s1, s2⟩ := hsm
    have EM := hid (show max (areaL ns ls l) (-areaL ns ls l) = absI (areaL ns ls l) by unfold absI; split <;> omega)
    generalize areaL ns ls l = n at s1 s2 E EM ⊢
    go_wp2
    go_ret
    exact ⟨ret_int (by rw [E.out, ← EM.out]), then_ S0.out (by have := HB3.out; simpa using this) S0.out.size⟩
theorem iTA_any (vn vl : Value) (ns ls : List (Int × Int)) (w : World) (hn : PairsAt w vn ns) (hl : PairsAt w vl ls) : Calls Try.prog 36 #[.agg #[vn, vl]] w fun e w' => e = .returned (.int .i64 (taF ns ls)) ∧ Below w.heap.size w w' := by
  have s0 : Below w.heap.size w (w.alloc (.cells #[vn, vl] 31)) := (Below.refl _ _).alloc (Nat.le_refl _) _
  have HN := hid (hn.below s0)
  have HL := hid (hl.below s0)
  have B0 := hid (BoxV.new w vn vl 31 w.heap.size rfl)
  have S0 := hid s0
  clear s0
  obtain ⟨A, c, rfl, hcn, hm, _⟩ := id hn
  obtain ⟨A', c', rfl, hcl, hm', _⟩ := id hl
  unfold maxLen at hm hm'
  clear hn hl
  have v0 := B0.out.c0
  have v1 := B0.out.c1
  have CE := hid (fun q => iOF_any _ _ ns ls (mv (w.alloc (.cells #[.slice A ns.length c, .slice A' ls.length c'] 31)) q) (HN.out.below (below_mv _ q)) (HL.out.below (below_mv _ q)))
  have CF := hid (fun q => iAO_any _ _ ns ls (ofF ns ls) (mv (w.alloc (.cells #[.slice A ns.length c, .slice A' ls.length c'] 31)) q) (HN.out.below (below_mv _ q)) (HL.out.below (below_mv _ q)))
  have n0 := fun q => (B0.out.mv q).c0
  have n1 := fun q => (B0.out.mv q).c1
  go_enter Try.func36, Try.ntmps36
  go_wp2_with fail
  refine wp_region_mv (by kernel_rfl) (by kernel_rfl) ?_
  repeat (go_big_quiet_step (first | (go_at_call 43; exact calls_mv (CE.out _)) | (go_at_call 47; exact calls_mv (CF.out _))))
  refine wpQuiet_nil ?_
  intro _ hw'
  obtain ⟨q, hw''⟩ := hw'
  subst hw''
  go_wp2
  go_ret
  exact ⟨rfl, then_ S0.out (below_mv _ q) S0.out.size⟩
theorem sTA_any (vn vl : Value) (ns ls : List (Int × Int)) (w : World) (hn : PairsAt w vn ns) (hl : PairsAt w vl ls) : Calls Try.prog 35 #[.agg #[vn, vl]] w fun e w' => e = .returned (.int .i64 (taF ns ls)) ∧ Below w.heap.size w w' := by
  have s0 : Below w.heap.size w (w.alloc (.cells #[vn, vl] 31)) := (Below.refl _ _).alloc (Nat.le_refl _) _
  have HN := hid (hn.below s0)
  have HL := hid (hl.below s0)
  have B0 := hid (BoxV.new w vn vl 31 w.heap.size rfl)
  have S0 := hid s0
  clear s0
  obtain ⟨A, c, rfl, hcn, hm, _⟩ := id hn
  obtain ⟨A', c', rfl, hcl, hm', _⟩ := id hl
  unfold maxLen at hm hm'
  clear hn hl
  have v0 := B0.out.c0
  have v1 := B0.out.c1
  have CE := hid (fun q => sOF_any _ _ ns ls (mv (w.alloc (.cells #[.slice A ns.length c, .slice A' ls.length c'] 31)) q) (HN.out.below (below_mv _ q)) (HL.out.below (below_mv _ q)))
  have CF := hid (fun q => sAO_any _ _ ns ls (ofF ns ls) (mv (w.alloc (.cells #[.slice A ns.length c, .slice A' ls.length c'] 31)) q) (HN.out.below (below_mv _ q)) (HL.out.below (below_mv _ q)))
  have n0 := fun q => (B0.out.mv q).c0
  have n1 := fun q => (B0.out.mv q).c1
  go_enter Try.func35, Try.ntmps35
  go_wp2_with fail
  refine wp_region_mv (by kernel_rfl) (by kernel_rfl) ?_
  repeat (go_big_quiet_step (first | (go_at_call 42; exact calls_mv (CE.out _)) | (go_at_call 46; exact calls_mv (CF.out _))))
  refine wpQuiet_nil ?_
  intro _ hw'
  obtain ⟨q, hw''⟩ := hw'
  subst hw''
  go_wp2
  go_ret
  exact ⟨rfl, then_ S0.out (below_mv _ q) S0.out.size⟩
end Go.Proofs.Ytdhppajfdcfikaa

/- What FaceAt returns, in the program and in the reference. No condition. -/
namespace Go.Proofs.Ytdhppajfdcfikaa
open Go.ChangeShapes Go.WideShapes Go.ChangeAt Go.RowKit
set_option maxHeartbeats 4000000
set_option maxRecDepth 100000
set_option linter.unusedSimpArgs false
set_option linter.unusedVariables false
theorem first_is (p : List Int → Bool) : ∀ (fs : List (List Int)) (i : Nat) (l : List Int) (s : Int), fs[i]? = some l → p l = true → (∀ j m, j < i → fs[j]? = some m → p m = false) → firstF p fs s = s + (i : Int)
  | [], i, l, s, h, _, _ => by simp at h
  | x :: t, 0, l, s, h, hp, _ => by
    have : x = l := by simpa using h
    subst this
    rw [firstF, if_pos hp]; simp
  | x :: t, i + 1, l, s, h, hp, hno => by
    have h0 := hno 0 x (by omega) rfl
    rw [firstF, if_neg (by rw [h0]; simp), first_is p t i l (s + 1) (by simpa using h) hp (fun j m hj hm => hno (j + 1) m (by omega) (by simpa using hm))]
    omega
theorem first_none (p : List Int → Bool) : ∀ (fs : List (List Int)) (s : Int), (∀ l, l ∈ fs → p l = false) → firstF p fs s = -1
  | [], s, _ => rfl
  | x :: t, s, h => by
    rw [firstF, if_neg (by rw [h x (List.mem_cons_self ..)]; simp)]
    exact first_none p t (s + 1) fun l hl => h l (List.mem_cons_of_mem _ hl)
/-- a dart lies in one face -/
theorem faces_one {ns ls : List (Int × Int)} (hw : wholeB ns ls = true) {i j : Nat} {l m : List Int} {x : Int} (hi : (facesF ns ls)[i]? = some l) (hj : (facesF ns ls)[j]? = some m) (hl : x ∈ l) (hm : x ∈ m) : i = j := by
  have hok : winOkB ns ls = true := by unfold wholeB at hw; simp only [Bool.and_eq_true] at hw; exact hw.1
  have T := next_turns (win_facts hok)
  have e : facesF ns ls = fcI ns ls (2 * ls.length) := by unfold facesF; rw [hw, if_pos rfl]
  rw [e] at hi hj
  unfold fcI at hi hj
  rw [List.getElem?_map] at hi hj
  cases h1 : (fc (nxN ns ls) (2 * ls.length) (2 * ls.length))[i]? with
  | none => rw [h1] at hi; cases hi
  | some l' =>
    cases h2 : (fc (nxN ns ls) (2 * ls.length) (2 * ls.length))[j]? with
    | none => rw [h2] at hj; cases hj
    | some m' =>
      rw [h1] at hi; rw [h2] at hj
      have hi' : l'.map (fun x : Nat => (x : Int)) = l := by simpa using hi
      have hj' : m'.map (fun x : Nat => (x : Int)) = m := by simpa using hj
      rw [← hi'] at hl; rw [← hj'] at hm
      obtain ⟨a, ha, rfl⟩ := List.mem_map.1 hl
      obtain ⟨b, hb, hab⟩ := List.mem_map.1 hm
      have : b = a := by omega
      subst this
      exact T.fc_one _ (Nat.le_refl _) i j l' m' b h1 h2 ha hb
theorem faces_all {ns ls : List (Int × Int)} (hw : wholeB ns ls = true) {d : Nat} (hd : d < 2 * ls.length) : ∃ l, l ∈ facesF ns ls ∧ (d : Int) ∈ l := by
  have hok : winOkB ns ls = true := by unfold wholeB at hw; simp only [Bool.and_eq_true] at hw; exact hw.1
  have T := next_turns (win_facts hok)
  have e : facesF ns ls = fcI ns ls (2 * ls.length) := by unfold facesF; rw [hw, if_pos rfl]
  obtain ⟨l, h1, h2⟩ := T.fc_all _ (Nat.le_refl _) d hd
  rw [e]
  exact ⟨l.map fun x : Nat => (x : Int), List.mem_map.2 ⟨l, h1, rfl⟩, List.mem_map.2 ⟨d, h2, rfl⟩⟩
theorem faF_at {ns ls : List (Int × Int)} (hw : wholeB ns ls = true) {i : Nat} {l : List Int} {x : Int} (hi : (facesF ns ls)[i]? = some l) (hx : x ∈ l) : faF ns ls x = (i : Int) := by
  unfold faF
  rw [first_is _ (facesF ns ls) i l 0 hi (by simpa using hx) (fun j m hj hm => by
    cases h : decide (x ∈ m)
    · rfl
    · have := faces_one hw hi hm hx (by simpa using h)
      omega)]
  simp
theorem faF_out {ns ls : List (Int × Int)} {d : Int} (h : ¬ (0 ≤ d ∧ d < 2 * (ls.length : Int))) : faF ns ls d = -1 := by
  unfold faF
  refine first_none _ _ _ fun l hl => ?_
  rw [decide_eq_false_iff_not]
  intro hm
  obtain ⟨i, hi⟩ := List.getElem?_of_mem hl
  obtain ⟨j, hj⟩ := List.getElem?_of_mem hm
  obtain ⟨m, rfl, hlt⟩ := (faces_at hi).2.2 j d hj
  omega
/-- a row of ints -/
def iRow (N : Nat) (P : Nat → Int) : List Value := (List.range N).map fun i => .int .i64 (P i)
theorem iRow_len (N : Nat) (P : Nat → Int) : (iRow N P).length = N := by simp [iRow]
theorem iRow_get (N : Nat) (P : Nat → Int) (i : Nat) (h : i < N) : (iRow N P)[i]? = some (.int .i64 (P i)) := by simp [iRow, h]
theorem iRow_set (N : Nat) (P Q : Nat → Int) (i : Nat) (x : Int) (hQ : ∀ j, j < N → Q j = if j = i then x else P j) : (iRow N P).set i (.int .i64 x) = iRow N Q := by
  apply List.ext_getElem?
  intro j
  rw [List.getElem?_set]
  by_cases hj : j < N
  · rw [iRow_get _ _ _ hj, iRow_get _ _ _ hj, hQ j hj]
    by_cases e : i = j
    · subst e
      rw [if_pos rfl, iRow_len, if_pos hj, if_pos rfl]
    · rw [if_neg e, if_neg (fun h => e h.symm)]
  · rw [List.getElem?_eq_none (by rw [iRow_len]; omega), List.getElem?_eq_none (by rw [iRow_len]; omega)]
    split
    · split
      · rename_i h1 h2; rw [iRow_len] at h2; omega
      · rfl
    · rfl
theorem iRow_start (N : Nat) : (iRow N (fun _ => 0)).toArray = madeCells #[.int .i64 0] N := by
  rw [← Array.toList_inj]
  apply List.ext_getElem?
  intro j
  by_cases hj : j < N
  · rw [List.toList_toArray, iRow_get _ _ _ hj]; simp [madeCells, hj, Nat.mod_one]
  · rw [List.toList_toArray, List.getElem?_eq_none (by rw [iRow_len]; omega), List.getElem?_eq_none (by simp [madeCells]; omega)]
/-- the places of the darts of the first i faces and of the first j darts of l -/
def rowP (F : Int → Int) (fs : List (List Int)) (i : Nat) (l : List Int) (j : Nat) (d : Nat) : Int := if ((fs.take i).any (·.contains (d : Int)) || (l.take j).contains (d : Int)) = true then F d else 0
theorem rowP_step (F : Int → Int) (fs : List (List Int)) (i : Nat) (l : List Int) (j e : Nat) (x : Int) (h : l[j]? = some (e : Int)) (hF : F (e : Int) = x) (d : Nat) : rowP F fs i l (j + 1) d = if d = e then x else rowP F fs i l j d := by
  unfold rowP
  have ht : (l.take (j + 1)).contains (d : Int) = ((l.take j).contains (d : Int) || decide (d = e)) := by
    rw [List.take_add_one, h]
    simp only [Option.toList_some, List.contains_eq_mem, List.mem_append, List.mem_singleton]
    rw [Bool.eq_iff_iff]
    simp only [Bool.or_eq_true, decide_eq_true_iff]
    constructor
    · rintro (h | h)
      · exact .inl h
      · exact .inr (by omega)
    · rintro (h | h)
      · exact .inl h
      · exact .inr (by omega)
  rw [ht]
  by_cases hd : d = e
  · subst hd; simp [hF]
  · rw [if_neg hd]; simp [hd]
theorem rowP_next (F : Int → Int) (fs : List (List Int)) (i : Nat) (l m : List Int) (h : fs[i]? = some l) (d : Nat) : rowP F fs i l l.length d = rowP F fs (i + 1) m 0 d := by
  unfold rowP
  have : (fs.take (i + 1)).any (·.contains (d : Int)) = ((fs.take i).any (·.contains (d : Int)) || l.contains (d : Int)) := by
    rw [List.take_add_one, h]; simp
  rw [this, List.take_length]; simp
theorem rowP_zero (F : Int → Int) (fs : List (List Int)) (i : Nat) (l m : List Int) (d : Nat) : rowP F fs i l 0 d = rowP F fs i m 0 d := by unfold rowP; simp
theorem iFaces_no (vn vl : Value) (ns ls : List (Int × Int)) (w : World) (hn : PairsAt w vn ns) (hl : PairsAt w vl ls) (hw : wholeB ns ls = false) : Calls Try.prog 38 #[.agg #[vn, vl]] w fun e w' => e = .returned (.slice none 0 0) ∧ Below w.heap.size w w' := by
  have s0 : Below w.heap.size w (w.alloc (.cells #[vn, vl] 31)) := (Below.refl _ _).alloc (Nat.le_refl _) _
  have HN := hid (hn.below s0)
  have HL := hid (hl.below s0)
  have B0 := hid (BoxV.new w vn vl 31 w.heap.size rfl)
  have S0 := hid s0
  clear s0
  obtain ⟨A, c, rfl, hcn, hm, _⟩ := id hn
  obtain ⟨A', c', rfl, hcl, hm', _⟩ := id hl
  unfold maxLen at hm hm'
  clear hn hl
  have v0 := B0.out.c0
  have v1 := B0.out.c1
  have HW := hid hw
  clear hw
  go_enter Try.func38, Try.ntmps38
  go_wp2_with fail
  refine (iWhole_any _ _ ns ls _ HN.out HL.out).mono ?_
  rintro e w1 ⟨rfl, hb⟩
  rw [HW.out]
  go_wp2
  go_ret
  exact ⟨rfl, then_ S0.out hb S0.out.size⟩
def faceRow (ns ls : List (Int × Int)) : List Int := if wholeB ns ls = true then (List.range (2 * ls.length)).map (fun d : Nat => faF ns ls d) else []
theorem facesAt_no (vn vl : Value) (ns ls : List (Int × Int)) (w : World) (hn : PairsAt w vn ns) (hl : PairsAt w vl ls) (hw : wholeB ns ls = false) : Calls Try.prog 71 #[.agg #[vn, vl]] w fun e w' => e = .returned (.slice none 0 0) ∧ Below w.heap.size w w' := by
  have s0 : Below w.heap.size w (w.alloc (.cells #[vn, vl] 31)) := (Below.refl _ _).alloc (Nat.le_refl _) _
  have HN := hid (hn.below s0)
  have HL := hid (hl.below s0)
  have B0 := hid (BoxV.new w vn vl 31 w.heap.size rfl)
  have S0 := hid s0
  clear s0
  obtain ⟨A, c, rfl, hcn, hm, _⟩ := id hn
  obtain ⟨A', c', rfl, hcl, hm', _⟩ := id hl
  unfold maxLen at hm hm'
  clear hn hl
  have v0 := B0.out.c0
  have v1 := B0.out.c1
  have HW := hid hw
  clear hw
  have hnil : ∀ (w : World) (a : Option Addr) (n c n' c' : Nat), (binOp .eql 48 (.slice a n c) (.slice none n' c')).run Try.prog w = .ok (.bool a.isNone) w := fun w a n c n' c' => Lib.run_eql_slice_nil w _ _ a n c n' c' Try.underlying48
  go_enter Try.func71, Try.ntmps71
  go_wp2_with fail
  refine (iFaces_no _ _ ns ls _ HN.out HL.out HW.out).mono ?_
  rintro e w1 ⟨rfl, hb⟩
  go_wp2
  go_ret
  exact ⟨rfl, then_ S0.out hb S0.out.size⟩
theorem facesAt_yes (vn vl : Value) (ns ls : List (Int × Int)) (w : World) (hn : PairsAt w vn ns) (hl : PairsAt w vl ls) (hw : wholeB ns ls = true) : Calls Try.prog 71 #[.agg #[vn, vl]] w fun e w' => ∃ g : Nat, e = .returned (.slice (some ⟨g, 0, none⟩) (2 * ls.length) (2 * ls.length)) ∧ Blk w' g 3 (iRow (2 * ls.length) (fun d => faF ns ls d)).toArray ∧ Below w.heap.size w w' := by
  have s0 : Below w.heap.size w (w.alloc (.cells #[vn, vl] 31)) := (Below.refl _ _).alloc (Nat.le_refl _) _
  have HN := hid (hn.below s0)
  have HL := hid (hl.below s0)
  have B0 := hid (BoxV.new w vn vl 31 w.heap.size rfl)
  have S0 := hid s0
  clear s0
  obtain ⟨A, c, rfl, hcn, hm, _⟩ := id hn
  obtain ⟨A', c', rfl, hcl, hm', _⟩ := id hl
  unfold maxLen at hm hm'
  clear hn hl
  have v0 := B0.out.c0
  have v1 := B0.out.c1
  have WW : Hid (∀ wr, Below (w.heap.size + 1) (w.alloc (.cells #[.slice A ns.length c, .slice A' ls.length c'] 31)) wr → BoxV wr w.heap.size (.slice A ns.length c) (.slice A' ls.length c') ∧ PairsAt wr (.slice A ns.length c) ns ∧ PairsAt wr (.slice A' ls.length c') ls ∧ w.heap.size + 1 ≤ wr.heap.size) := hid (fun wr h => by
    have h' : Below (w.alloc (.cells #[.slice A ns.length c, .slice A' ls.length c'] 31)).heap.size (w.alloc (.cells #[.slice A ns.length c, .slice A' ls.length c'] 31)) wr := by simpa using h
    exact ⟨B0.out.below h', HN.out.below h', HL.out.below h', by have := h'.size; simpa using this⟩)
  have V0 : Hid (Below (w.heap.size + 1) (w.alloc (.cells #[.slice A ns.length c, .slice A' ls.length c'] 31)) (w.alloc (.cells #[.slice A ns.length c, .slice A' ls.length c'] 31))) := hid (Below.refl _ _)
  have hok : winOkB ns ls = true := by unfold wholeB at hw; simp only [Bool.and_eq_true] at hw; exact hw.1
  have hl0 : 0 < ls.length := by unfold wholeB at hw; simp only [Bool.and_eq_true, decide_eq_true_iff] at hw; exact hw.2.1
  have hl20 := (win_facts hok).m2
  have FA := hid (fun i l h => faces_at (ns := ns) (ls := ls) (i := i) (l := l) h)
  have FI := hid (fun i l x h hx => faF_at hw (i := i) (l := l) (x := x) h hx)
  have FALL := hid (fun d hd => faces_all hw (d := d) hd)
  have hne : 0 < (facesF ns ls).length := by
    obtain ⟨l, hl, _⟩ := FALL.out 0 (by omega)
    exact List.length_pos_of_mem hl
  obtain ⟨N, hN⟩ : ∃ N, N = 2 * ls.length := ⟨_, rfl⟩
  have q0 : IntKind.i64.wrap (2 * (ls.length : Int)) = (N : Int) := by rw [IntWalk.i64_in _ (by omega)]; omega
  have HN2 := hid hN
  have hN40 : N ≤ 40 := by omega
  rw [← hN]
  clear hN hok hw
  obtain ⟨i1, bi, bz0, bz1, bz2⟩ := info_parts infoI
  have hmk : ∀ W : World, (Instr.makeSlice 37 (.int .i64 (N : Int)) (.int .i64 (N : Int))).run Try.prog W = .ok (.slice (some ⟨W.heap.size, 0, none⟩) N N) (W.alloc (.cells (madeCells #[.int .i64 0] N) 3)) := fun W => by
    have := run_make (P := Try.prog) W 37 3 i1 _ Try.underlying37 bi bz0 .i64 .i64 (N : Int) (N : Int) (by omega) (by omega) (by rw [bz2]; omega) (by omega)
    rw [bz1] at this
    simp only [Int.toNat_natCast, Nat.mul_one] at this
    exact this
  clear bi bz0 bz1 bz2
  have hnil : ∀ (w : World) (a : Option Addr) (n c n' c' : Nat), (binOp .eql 48 (.slice a n c) (.slice none n' c')).run Try.prog w = .ok (.bool a.isNone) w := fun w a n c n' c' => Lib.run_eql_slice_nil w _ _ a n c n' c' Try.underlying48
  go_enter Try.func71, Try.ntmps71
  go_wp2_with fail
  refine (iFaces_any _ _ ns ls _ HN.out HL.out).mono ?_
  rintro e w1 ⟨v, rfl, ho, hb⟩
  have SS := hid (faces_ss ho)
  have V1 := hid (V0.out.trans (hb.mono (by simp)))
  obtain ⟨A9, c9, hv9, hm9, hc9⟩ := id SS.out
  obtain ⟨l0, hx0⟩ : ∃ l, (facesF ns ls)[0]? = some l := ⟨_, List.getElem?_eq_getElem hne⟩
  obtain ⟨b9, off9, u0, hA9, _, _, _⟩ := hc9 0 l0 hx0
  subst hA9
  subst hv9
  have C9 := hid hc9
  clear ho hb v0 v1 V0 hc9 hx0 SS
  obtain ⟨bx, pn, px, z1⟩ := WW.out _ V1.out
  have v0 := bx.c0
  have v1 := bx.c1
  have vlt := bx.lt
  clear bx pn px
  have KB := hid (show Blk (w1.alloc (.cells (madeCells #[.int .i64 0] N) 3)) w1.heap.size 3 (iRow N (rowP (faF ns ls) (facesF ns ls) 0 [] 0)).toArray by
    have e : rowP (faF ns ls) (facesF ns ls) 0 [] 0 = fun _ => 0 := by funext d; unfold rowP; simp
    rw [e, iRow_start]; exact Blk.new _ _ _)
  have H1 := hid (show Below w1.heap.size w1 (w1.alloc (.cells (madeCells #[.int .i64 0] N) 3)) from (Below.refl _ _).alloc (Nat.le_refl _) _)
  have Z1 := hid z1
  clear z1
  obtain ⟨fs, hfs⟩ : ∃ fs, fs = facesF ns ls := ⟨_, rfl⟩
  rw [← hfs] at KB C9 hne hm9 FA FI FALL ⊢
  clear hfs
  go_wp2_with fail
  clear hmk v0 v1 vlt
  obtain ⟨g, hg⟩ : ∃ g, g = w1.heap.size := ⟨_, rfl⟩
  have HG := hid hg
  rw [← hg] at KB H1 C9 Z1 ⊢
  clear hg
  generalize w1.alloc _ = wA at KB H1 ⊢
  go_loopw [20] (fun j wr => ∃ i : Nat, i ≤ fs.length ∧ j = .int .i64 i ∧ Hid (Blk wr g 3 (iRow N (rowP (faF ns ls) fs i [] 0)).toArray) ∧ Hid (Below g w1 wr)) (fun j _ => fs.length - (intOf j).toNat)
  case atStart => exact ⟨0, Nat.zero_le _, rfl, KB, H1⟩
  case round =>
    clear KB H1
    obtain ⟨i, hi, rfl, KB, HB⟩ := hrel
    by_cases hlt : i < fs.length
    · have hi0 : (0 : Int) ≤ (i : Int) := by omega
      have hi1 : (i : Int) < (fs.length : Int) := by omega
      obtain ⟨l, hx⟩ : ∃ l, fs[i]? = some l := ⟨_, List.getElem?_eq_getElem hlt⟩
      have HDAR := hid (FA.out i l hx).2
      have HFI := hid (fun x h => FI.out i l x hx h)
      have HX := hid hx
      obtain ⟨b, off, u, hA, hbb, hcell, hI⟩ := C9.out i l hx
      injection hA with hA
      injection hA with hA hA2 _
      subst hA
      subst hA2
      obtain ⟨Au, cu, hu, hul, _⟩ := id hI
      subst hu
      have HI := hid hI
      have ck : wr.cell? ⟨b9, off9 + i, none⟩ = some (.slice Au l.length cu) := by rw [HB.out.cell (p := ⟨b9, _, none⟩) hbb]; exact hcell
      have KS := hid (show Blk wr g 3 (iRow N (rowP (faF ns ls) fs i l 0)).toArray by
        have e : rowP (faF ns ls) fs i l 0 = rowP (faF ns ls) fs i [] 0 := by funext d; exact rowP_zero _ _ _ _ _ _
        rw [e]; exact KB.out)
      clear KB hI hcell hx
      go_wp2_with fail
      clear ck
      go_loopw [27] (fun j wr => ∃ k : Nat, k ≤ l.length ∧ j = .int .i64 k ∧ Hid (Blk wr g 3 (iRow N (rowP (faF ns ls) fs i l k)).toArray) ∧ Hid (Below g w1 wr)) (fun j _ => l.length - (intOf j).toNat)
      case atStart => exact ⟨0, Nat.zero_le _, rfl, KS, HB⟩
      case round =>
        clear KS HB
        obtain ⟨k, hk, rfl, KB, HB⟩ := hrel
        by_cases hkl : k < l.length
        · have hk0 : (0 : Int) ≤ (k : Int) := by omega
          have hk1 : (k : Int) < (l.length : Int) := by omega
          obtain ⟨x, hxk⟩ : ∃ x, l[k]? = some x := ⟨_, List.getElem?_eq_getElem hkl⟩
          obtain ⟨e, hxe, heN⟩ := HDAR.out.2 k x hxk
          subst hxe
          rw [← HN2.out] at heN
          obtain ⟨bu, ou, hAu, hbu, hcu⟩ := HI.out.at_ hxk
          subst hAu
          have cu4 : wr.cell? ⟨bu, ou + k, none⟩ = some (.int .i64 (e : Int)) := by rw [HB.out.cell (p := ⟨bu, _, none⟩) (by rw [HG.out]; exact hbu)]; exact hcu
          have ce : wr.cell? ⟨g, e, none⟩ = some (.int .i64 (rowP (faF ns ls) fs i l k e)) := by rw [KB.out.cell, List.getElem?_toArray, iRow_get _ _ _ heN]
          have fe : wr.frozen? ⟨g, e, none⟩ = false := KB.out.frozen e
          generalize rowP (faF ns ls) fs i l k e = b9 at ce
          have he0 : (0 : Int) ≤ (e : Int) := by omega
          have he1 : (e : Int) < (N : Int) := by omega
          have HXK := hid hxk
          clear hcu hxk
          go_wp2
          go_roundw
          case rel =>
            refine ⟨k + 1, by omega, by go_num, hid ?_, hid (HB.out.setCell (p := ⟨g, e, none⟩) (Nat.le_refl _) _)⟩
            have hset := KB.out.set_ e (.int .i64 (i : Int))
            rw [List.setIfInBounds_toArray, iRow_set N _ (rowP (faF ns ls) fs i l (k + 1)) e (i : Int) (fun j _ => rowP_step _ _ _ _ _ _ _ HXK.out (HFI.out _ (List.mem_of_getElem? HXK.out)) j)] at hset
            exact hset
          case measure => simp [intOf]; omega
        · have he : k = l.length := by omega
          subst he
          go_wp2
          go_roundw
          case rel =>
            refine ⟨i + 1, by omega, by go_num, hid ?_, HB⟩
            have e : rowP (faF ns ls) fs (i + 1) [] 0 = rowP (faF ns ls) fs i l l.length := by funext d; exact (rowP_next _ _ _ _ _ HX.out d).symm
            rw [e]; exact KB.out
          case measure => simp [intOf]; omega
    · have he : i = fs.length := by omega
      subst he
      go_wp2
      go_ret
      refine ⟨g, rfl, ?_, then_ S0.out (by have := V1.out.trans (HB.out.mono Z1.out); simpa using this) S0.out.size⟩
      have e : iRow N (rowP (faF ns ls) fs fs.length [] 0) = iRow N (fun d => faF ns ls d) := by
        unfold iRow
        refine List.map_congr_left fun d hd => ?_
        have hdN : d < N := by simpa using hd
        obtain ⟨l, hl, hm⟩ := FALL.out d (by rw [← HN2.out]; exact hdN)
        unfold rowP
        rw [List.take_length, if_pos]
        rw [Bool.or_eq_true, List.any_eq_true]
        exact .inl ⟨l, hl, by simpa using hm⟩
      rw [e] at KB
      exact KB.out
theorem iFA_any (vn vl : Value) (ns ls : List (Int × Int)) (d : Int) (w : World) (hn : PairsAt w vn ns) (hl : PairsAt w vl ls) : Calls Try.prog 45 #[.agg #[vn, vl], .int .i64 d] w fun e w' => e = .returned (.int .i64 (faF ns ls d)) ∧ Below w.heap.size w w' := by
  have s0 : Below w.heap.size w (w.alloc (.cells #[vn, vl] 31)) := (Below.refl _ _).alloc (Nat.le_refl _) _
  have HN := hid (hn.below s0)
  have HL := hid (hl.below s0)
  have B0 := hid (BoxV.new w vn vl 31 w.heap.size rfl)
  have S0 := hid s0
  clear s0
  obtain ⟨A, c, rfl, hcn, hm, _⟩ := id hn
  obtain ⟨A', c', rfl, hcl, hm', _⟩ := id hl
  unfold maxLen at hm hm'
  clear hn hl
  have v0 := B0.out.c0
  have v1 := B0.out.c1
  cases hw : wholeB ns ls
  · have HW := hid hw
    have HF := hid (show faF ns ls d = -1 by unfold faF facesF; rw [hw]; rfl)
    clear hw
    go_enter Try.func45, Try.ntmps45
    go_wp2_with fail
    refine (facesAt_no _ _ ns ls _ HN.out HL.out HW.out).mono ?_
    rintro e w1 ⟨rfl, hb⟩
    have q : inB d 0 (-1) = false := by unfold inB; rw [decide_eq_false_iff_not]; omega
    go_wp2_with fail
    refine (within_any _ _ _ _).mono ?_
    rintro e w2 ⟨rfl, rfl⟩
    rw [q]
    go_wp2
    go_ret
    exact ⟨ret_int HF.out.symm, then_ S0.out hb S0.out.size⟩
  · have HW := hid hw
    have hok : winOkB ns ls = true := by unfold wholeB at hw; simp only [Bool.and_eq_true] at hw; exact hw.1
    have hl20 := (win_facts hok).m2
    obtain ⟨N, hN⟩ : ∃ N, N = 2 * ls.length := ⟨_, rfl⟩
    have hN40 : N ≤ 40 := by omega
    have HN2 := hid hN
    have HO := hid (fun h => faF_out (ns := ns) (ls := ls) (d := d) h)
    clear hw hok
    go_enter Try.func45, Try.ntmps45
    go_wp2_with fail
    refine (facesAt_yes _ _ ns ls _ HN.out HL.out HW.out).mono ?_
    rintro e w1 ⟨g, rfl, KB, hb⟩
    rw [← hN] at KB ⊢
    have HK := hid KB
    have HB := hid hb
    clear KB hb hN hl20
    have hw1 : IntKind.i64.wrap ((N : Int) - 1) = (N : Int) - 1 := IntWalk.i64_in _ (by omega)
    cases q : inB d 0 ((N : Int) - 1)
    all_goals
      have HQ := hid q
      have hq2 := q
      simp only [inB, decide_eq_true_iff, decide_eq_false_iff_not] at hq2
      clear q
      go_wp2_with fail
      refine (within_any _ _ _ _).mono ?_
      rintro e w2 ⟨rfl, rfl⟩
      rw [HQ.out]
    · go_wp2
      go_ret
      exact ⟨ret_int (HO.out (by rw [HN2.out] at hq2; omega)).symm, then_ S0.out HB.out S0.out.size⟩
    · obtain ⟨e, rfl⟩ : ∃ e : Nat, d = (e : Int) := ⟨d.toNat, by omega⟩
      have ce : w1.cell? ⟨g, e, none⟩ = some (.int .i64 (faF ns ls e)) := by rw [HK.out.cell, List.getElem?_toArray, iRow_get _ _ _ (by omega)]
      have he0 : (0 : Int) ≤ (e : Int) := by omega
      have he1 : (e : Int) < (N : Int) := by omega
      go_wp2
      go_ret
      exact ⟨rfl, then_ S0.out HB.out S0.out.size⟩
theorem sFA_any (vn vl : Value) (ns ls : List (Int × Int)) (d : Int) (w : World) (hn : PairsAt w vn ns) (hl : PairsAt w vl ls) : Calls Try.prog 44 #[.agg #[vn, vl], .int .i64 d] w fun e w' => e = .returned (.int .i64 (faF ns ls d)) ∧ Below w.heap.size w w' := by
  have s0 : Below w.heap.size w (w.alloc (.cells #[vn, vl] 31)) := (Below.refl _ _).alloc (Nat.le_refl _) _
  have HN := hid (hn.below s0)
  have HL := hid (hl.below s0)
  have B0 := hid (BoxV.new w vn vl 31 w.heap.size rfl)
  have S0 := hid s0
  clear s0
  obtain ⟨A, c, rfl, hcn, hm, _⟩ := id hn
  obtain ⟨A', c', rfl, hcl, hm', _⟩ := id hl
  unfold maxLen at hm hm'
  clear hn hl
  have v0 := B0.out.c0
  have v1 := B0.out.c1
  have WW : Hid (∀ wr, Below (w.heap.size + 1) (w.alloc (.cells #[.slice A ns.length c, .slice A' ls.length c'] 31)) wr → BoxV wr w.heap.size (.slice A ns.length c) (.slice A' ls.length c') ∧ PairsAt wr (.slice A ns.length c) ns ∧ PairsAt wr (.slice A' ls.length c') ls ∧ w.heap.size + 1 ≤ wr.heap.size) := hid (fun wr h => by
    have h' : Below (w.alloc (.cells #[.slice A ns.length c, .slice A' ls.length c'] 31)).heap.size (w.alloc (.cells #[.slice A ns.length c, .slice A' ls.length c'] 31)) wr := by simpa using h
    exact ⟨B0.out.below h', HN.out.below h', HL.out.below h', by have := h'.size; simpa using this⟩)
  have V0 : Hid (Below (w.heap.size + 1) (w.alloc (.cells #[.slice A ns.length c, .slice A' ls.length c'] 31)) (w.alloc (.cells #[.slice A ns.length c, .slice A' ls.length c'] 31))) := hid (Below.refl _ _)
  have OF := hid (show faF ns ls d = firstF (fun l => decide (d ∈ l)) ((facesF ns ls).drop 0) ((0 : Nat) : Int) from rfl)
  go_enter Try.func44, Try.ntmps44
  go_wp2_with fail
  refine (sFaces_any _ _ ns ls _ HN.out HL.out).mono ?_
  rintro e w1 ⟨v, rfl, ho, hb⟩
  have SS := hid (faces_ss ho)
  have V1 := hid (V0.out.trans (hb.mono (by simp)))
  obtain ⟨A9, c9, hv9, hm9, _⟩ := id SS.out
  subst hv9
  clear ho hb v0 v1 V0
  obtain ⟨bx, pn, px, z1⟩ := WW.out _ V1.out
  have v0 := bx.c0
  have v1 := bx.c1
  have vlt := bx.lt
  clear bx pn px z1
  generalize facesF ns ls = fs at SS OF hm9 ⊢
  go_wp2_with fail
  go_loopw [6] (fun j wr => ∃ i : Nat, i ≤ fs.length ∧ j = .int .i64 i ∧ Hid (faF ns ls d = firstF (fun l => decide (d ∈ l)) (fs.drop i) (i : Int)) ∧ Hid (Below w1.heap.size w1 wr)) (fun j _ => fs.length - (intOf j).toNat)
  case atStart => exact ⟨0, Nat.zero_le _, rfl, OF, hid (Below.refl _ _)⟩
  case round =>
    obtain ⟨i, hi, rfl, OI, HB⟩ := hrel
    clear v0 v1 vlt
    have z1 : w.heap.size + 1 ≤ w1.heap.size := (WW.out _ V1.out).2.2.2
    have VR := hid (V1.out.trans (HB.out.mono z1))
    obtain ⟨bx, pn, px, z2⟩ := WW.out _ VR.out
    have v0 := bx.c0
    have v1 := bx.c1
    have vlt := bx.lt
    have BX := hid bx
    have PN := hid pn
    have PL := hid px
    have S2 := hid (SS.out.below HB.out)
    clear bx pn px
    by_cases hlt : i < fs.length
    · have hi0 : (0 : Int) ≤ (i : Int) := by omega
      have hi1 : (i : Int) < (fs.length : Int) := by omega
      obtain ⟨l, hx⟩ : ∃ l, fs[i]? = some l := ⟨_, List.getElem?_eq_getElem hlt⟩
      have ST := hid (first_step (fun l => decide (d ∈ l)) fs i l hx)
      obtain ⟨A8, c8, hv8, _, hc8⟩ := S2.out
      obtain ⟨b, off, u, hA, hbb, hcell, hI⟩ := hc8 i l hx
      have hAA : A9 = A8 := by injection hv8
      rw [← hAA] at hA
      subst hA
      obtain ⟨Au, cu, hu, hul, _⟩ := id hI
      subst hu
      have HI := hid hI
      clear hv8 hc8 hAA hI hx
      cases hq : decide (d ∈ l)
      all_goals
        have HQ := hid hq
        have hq2 := hq
        simp only [decide_eq_true_iff, decide_eq_false_iff_not] at hq2
        clear hq
        have n2 : wr.cell? ⟨b, off + i, none⟩ = some (.slice Au l.length cu) := hcell
        go_wp2_with fail
        refine (l06Has_any _ l d _ HI.out).mono ?_
        rintro e w3 ⟨rfl, hw3⟩
        subst hw3
        rw [HQ.out]
        have HB3 := HB
        clear n2
      · go_wp2
        go_roundw
        case rel => exact ⟨i + 1, by omega, by go_num, hid (by rw [OI.out, ST.out, if_neg (by rw [HQ.out]; simp)]), HB3⟩
        case measure => simp [intOf]; omega
      · go_wp2
        go_ret
        exact ⟨ret_int (by rw [OI.out, ST.out, if_pos HQ.out]), then_ S0.out (by have := V1.out.trans (HB3.out.mono z1); simpa using this) S0.out.size⟩
    · have he : i = fs.length := by omega
      subst he
      go_wp2
      go_ret
      exact ⟨ret_int (by rw [OI.out, first_end]), then_ S0.out (by have := VR.out; simpa using this) S0.out.size⟩
end Go.Proofs.Ytdhppajfdcfikaa
