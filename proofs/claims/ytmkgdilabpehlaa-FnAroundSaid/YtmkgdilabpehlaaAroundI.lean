/- The program's list of the darts around a node of a valid window: by slices.SortFunc. No condition but that the window is valid and has the node. -/
import Derived.Test.YtmkgdilabpehlaaCmp
import Derived.Test.YtmkgdilabpehlaaSort
import Derived.Lib.OwnBridge
namespace Go.Proofs.Ytmkgdilabpehlaa
open Go.ChangeShapes Go.WideShapes Go.ChangeAt Go.RowKit
set_option maxHeartbeats 2000000
set_option linter.unusedSimpArgs false
set_option linter.unusedVariables false
/-- a dart that goes from node k -/
abbrev Dt (ls : List (Int × Int)) (k : Nat) := {x : Int // ∃ m : Nat, m < 2 * ls.length ∧ x = (m : Int) ∧ dFrom ls (m : Int) = (k : Int)}
def encD {ls : List (Int × Int)} {k : Nat} (x : Dt ls k) : Value := .int .i64 x.1
def cfD (ns : List (Int × Int)) {ls : List (Int × Int)} {k : Nat} (x y : Dt ls k) : Int := Up.cmpD ns ls k x.1 y.1
theorem ltD (ns : List (Int × Int)) {ls : List (Int × Int)} {k : Nat} (x y : Dt ls k) : ltOf (cfD ns) x y = befD ns ls k x.1 y.1 := by
  unfold ltOf cfD Up.cmpD
  by_cases h : x.1 = y.1
  · rw [if_pos h, h, befD_irr]; rfl
  · rw [if_neg h]
    cases befD ns ls k x.1 y.1 <;> simp
theorem totD {ns ls : List (Int × Int)} (F : WinFacts ns ls) {k : Nat} (x y : Dt ls k) (h : x ≠ y) : befD ns ls k x.1 y.1 = true ∨ befD ns ls k y.1 x.1 = true := by
  obtain ⟨x, m, hm, rfl, hk⟩ := x
  obtain ⟨y, m', hm', rfl, hk'⟩ := y
  have hne : m ≠ m' := fun e => h (by subst e; rfl)
  have := F.differ hm hm' (by rw [hk, hk']) hne
  rwa [hk] at this
theorem transD {ns ls : List (Int × Int)} (F : WinFacts ns ls) {k : Nat} (x y z : Dt ls k) (h : befD ns ls k x.1 y.1 = true) (h' : befD ns ls k y.1 z.1 = true) : befD ns ls k x.1 z.1 = true := by
  obtain ⟨x, m, hm, rfl, hk⟩ := x
  obtain ⟨y, m', hm', rfl, hk'⟩ := y
  obtain ⟨z, m'', hm'', rfl, hk''⟩ := z
  exact F.befD_trans hm hm' hm'' hk hk' hk'' h h'
theorem swoD {ns ls : List (Int × Int)} (F : WinFacts ns ls) (k : Nat) : Sort.SWO (ltOf (cfD ns (ls := ls) (k := k))) where
  irrefl x := by rw [ltD, befD_irr]
  trans x y z h1 h2 := by rw [ltD] at *; exact transD F x y z h1 h2
  ntrans x y z h1 h2 := by
    rw [ltD] at *
    cases h : befD ns ls k x.1 z.1
    · rfl
    · exfalso
      by_cases e : x = y
      · rw [e, h2] at h; cases h
      · rcases totD F x y e with h3 | h3
        · rw [h3] at h1; cases h1
        · rw [transD F y x z h3 h] at h2; cases h2
theorem below_grow {B : Nat} {w0 w : World} (h : Below B w0 w) (hB : B ≤ w.heap.size) (os : Array Obj) : Below B w0 (Sort.grow w os) :=
  h.trans ⟨rfl, rfl, rfl, by simp [Sort.grow], fun k hk => by simp only [Sort.grow]; rw [Array.getElem?_append_left (by omega)]⟩
theorem below_sort {α : Type} [Inhabited α] {enc : α → Value} {B : Nat} {w0 w : World} {g n : Nat} {d : Array α} {os : Array Obj} (h : Below B w0 w) (hg : B ≤ g) (hB : B ≤ w.heap.size) : Below B w0 (sortWorld enc w g 0 n d os) := by
  unfold sortWorld
  exact below_grow (Lib.below_putRow h hg) (by simpa [Sort.ahead] using hB) os
/-- what the sorted row holds -/
theorem sorted_is {ns ls : List (Int × Int)} (F : WinFacts ns ls) (k : Nat) [Inhabited (Dt ls k)] (d d' : Array (Dt ls k)) (hd : d.toList.map (·.1) = dartsAt ls k (2 * ls.length)) (hp : Sort.PermIn 0 d.size d d') (hs : Sort.SortedIn (ltOf (cfD ns)) 0 d.size d') :
    d'.toList.map (·.1) = aroundF ns ls k := by
  obtain ⟨h1, _, h3⟩ := hp
  have e1 : (d'.extract 0 d.size).toList = d'.toList := by simp [← h1]
  have e2 : (d.extract 0 d.size).toList = d.toList := by simp
  rw [e1, e2] at h3
  have hperm : (d'.toList.map (·.1)).Perm (dartsAt ls k (2 * ls.length)) := by rw [← hd]; exact h3.map _
  have hnd : (d'.toList.map (·.1)).Nodup := hperm.nodup_iff.2 (dartsAt_nodup ls k _)
  refine sorted_unique (lt := befD ns ls k) (befD_irr ns ls k) (fun x y h => befD_asym h) (hperm.trans (aroundN_perm ns ls k _).symm) ?_ (F.aroundN_sorted k _ (Nat.le_refl _))
  rw [List.pairwise_map, List.pairwise_iff_getElem]
  intro i j hi hj hij
  have hlt := hs i j (Nat.zero_le _) hij (by simpa [h1] using hj)
  rw [ltD] at hlt
  have g1 : d'[i]! = d'.toList[i] := by rw [getElem!_pos d' i (by simpa using hi)]; simp
  have g2 : d'[j]! = d'.toList[j] := by rw [getElem!_pos d' j (by simpa using hj)]; simp
  rw [g1, g2] at hlt
  have hne : d'.toList[i] ≠ d'.toList[j] := fun e => by
    have := List.pairwise_iff_getElem.1 hnd i j (by simpa using hi) (by simpa using hj) hij
    simp only [List.getElem_map] at this
    exact this (by rw [e])
  rcases totD F _ _ hne with h | h
  · exact h
  · rw [hlt] at h; cases h
/-- the sort, of a row of the call's own -/
theorem sort_own (A A' : Option Addr) (c c' : Nat) (ns ls : List (Int × Int)) (k bw bk B L g cp : Nat) (w0 w : World) (F : WinFacts ns ls) (hk : k < ns.length) (hB : B ≤ w.heap.size) (h0 : Below B w0 w)
    (WW : ∀ W, Below B w0 W → BoxV W bw (.slice A ns.length c) (.slice A' ls.length c') ∧ bk < W.heap.size ∧ W.cell? ⟨bk, 0, none⟩ = some (.int .i64 (k : Int)) ∧ PairsAt W (.slice A ns.length c) ns ∧ PairsAt W (.slice A' ls.length c') ls)
    (hL : L = (dartsAt ls k (2 * ls.length)).length) (hpos : 0 < L) (hg : B ≤ g) (hown : OwnInts B w (.slice (some ⟨g, 0, none⟩) L cp) (dartsAt ls k (2 * ls.length))) :
    Calls Try.prog 97 #[.slice (some ⟨g, 0, none⟩) L cp, .func (.func 98) #[] #[.pointer (some ⟨bw, 0, none⟩), .pointer (some ⟨bk, 0, none⟩)]] w
      fun e w' => e = .returned (.tuple #[]) ∧ OwnInts B w' (.slice (some ⟨g, 0, none⟩) L cp) (aroundF ns ls k) ∧ Below B w0 w' := by
  have hm : ∀ x, x ∈ dartsAt ls k (2 * ls.length) → ∃ m : Nat, m < 2 * ls.length ∧ x = (m : Int) ∧ dFrom ls (m : Int) = (k : Int) := fun x hx => (mem_dartsAt ls k _ x).1 hx
  obtain ⟨zs, hzs⟩ : ∃ zs : List (Dt ls k), zs.map (·.1) = dartsAt ls k (2 * ls.length) := ⟨(dartsAt ls k (2 * ls.length)).attachWith _ hm, by rw [List.attachWith_map_subtype_val]⟩
  have hlen : zs.length = L := by rw [hL, ← hzs, List.length_map]
  have hL40 : L ≤ 40 := by have := dartsAt_len ls k (2 * ls.length); have := F.m2; omega
  haveI : Inhabited (Dt ls k) := ⟨zs[0]'(by omega)⟩
  have hrow : w.ownsRow B 3 1 (.slice (some ⟨g, 0, none⟩) L cp) L (zs.map encD) := by
    have h := hown
    unfold OwnInts at h
    rw [← hL, ← hzs] at h
    have e : ints (zs.map (·.1)) = zs.map encD := by unfold ints; rw [List.map_map]; rfl
    rw [e] at h; exact h
  obtain ⟨g', cp', hv, _, hgs, _, _, _, hH⟩ := Lib.holds_of_ownsRow hrow (by intro e; cases e)
  obtain ⟨rfl, rfl⟩ : g = g' ∧ cp = cp' := by simpa using hv
  have eg : ∀ args w, (callFunc 98 args).run Try.prog w = .ok (.enter 98 args) w := enters_of Try.func98 (by kernel_rfl) rfl
  have hsz : zs.toArray.size = L := by simpa using hlen
  have hcmp : CmpLays1 Try.prog 98 #[.pointer (some ⟨bw, 0, none⟩), .pointer (some ⟨bk, 0, none⟩)] encD (cfD ns (ls := ls) (k := k)) g 0 zs.toArray.size w := by
    intro m os dk _ x y
    obtain ⟨x, d, hd, rfl, hkd⟩ := x
    obtain ⟨y, e, he, rfl, hke⟩ := y
    obtain ⟨q1, q2, q3, q4, q5⟩ := WW _ (below_sort (enc := encD) (g := g) (n := m) (d := dk) (os := os) h0 hg hB)
    have h := Up.cmp_any A A' c c' ns ls k d e bw bk _ q1 q2 q3 q4 q5 F hk hd he hkd hke
    exact h.mono fun r w' ⟨hr, hb⟩ => ⟨hr, Up.up_grow hb⟩
  have hcon := Any.slices_SortFunc Try.sortL encD (fun _ => rfl) (cfD ns) (swoD F k) 98 #[.pointer (some ⟨bw, 0, none⟩), .pointer (some ⟨bk, 0, none⟩)] g 0 cp zs.toArray w eg hcmp hH hgs (by omega)
  rw [hsz] at hcon
  change Calls Try.prog 97 _ _ _ at hcon
  refine hcon.mono ?_
  rintro e w' ⟨rfl, d', n, os, hp, hs, rfl⟩
  rw [← hsz] at hp hs
  have hres := sorted_is F k zs.toArray d' (by simpa using hzs) hp hs
  refine ⟨rfl, ?_, below_sort h0 hg hB⟩
  have hy : d'.toList.length = L := by rw [Array.length_toList, hp.1, hsz]
  have ho := Lib.ownsRow_putRow (q := n) (ys := d'.toList) hrow hy (Nat.le_refl L)
  have e1 : d'.toList.toArray = d' := by simp
  rw [List.take_of_length_le (by omega), e1] at ho
  have e2 : d'.toList.map encD = ints (aroundF ns ls k) := by rw [← hres]; unfold ints; rw [List.map_map]; rfl
  rw [e2] at ho
  have hlen2 : L = (aroundF ns ls k).length := by rw [← hres, List.length_map, hy]
  have ho' : OwnInts B (Sort.putRow encD (Sort.ahead w n) g 0 d') (.slice (some ⟨g, 0, none⟩) L cp) (aroundF ns ls k) := by
    unfold OwnInts; rw [← hlen2]; exact ho
  exact own_below ho' (below_grow (Below.refl _ _) (Nat.le_refl _) os)
theorem iAround_any (vn vl : Value) (ns ls : List (Int × Int)) (k : Nat) (w : World) (hn : PairsAt w vn ns) (hl : PairsAt w vl ls) (hok : winOkB ns ls = true) (hk : k < ns.length) : Calls Try.prog 73 #[.agg #[vn, vl], .int .i64 (k : Int)] w (NewInts (aroundF ns ls k) w) := by
  have s0 : Below w.heap.size w (w.alloc (.cells #[vn, vl] 31)) := (Below.refl _ _).alloc (Nat.le_refl _) _
  have HL := hid (hl.below s0)
  have HN := hid (hn.below s0)
  have B0 := hid (BoxV.new w vn vl 31 w.heap.size rfl)
  have S0 := hid s0
  clear s0
  obtain ⟨A, c, rfl, hcn, hm, _⟩ := id hn
  obtain ⟨A', c', rfl, hcl, hm', _⟩ := id hl
  unfold maxLen at hm hm'
  clear hn hl
  have WF := hid (win_facts hok)
  have hl20 := WF.out.m2
  have hn12 := WF.out.n2
  clear hok
  obtain ⟨i0, hinf, hz0, hz1, hz2⟩ := info_parts infoI
  have HINF := hid (And.intro hinf (And.intro hz0 (And.intro hz1 hz2)))
  clear hinf hz0 hz1 hz2
  have WW : Hid (∀ wr, Below (w.heap.size + 1 + 1) ((w.alloc (.cells #[.slice A ns.length c, .slice A' ls.length c'] 31)).alloc (.cells #[.int .i64 (k : Int)] 3)) wr → BoxV wr w.heap.size (.slice A ns.length c) (.slice A' ls.length c') ∧ w.heap.size + 1 < wr.heap.size ∧ wr.cell? ⟨w.heap.size + 1, 0, none⟩ = some (.int .i64 (k : Int)) ∧ PairsAt wr (.slice A ns.length c) ns ∧ PairsAt wr (.slice A' ls.length c') ls) := hid (fun wr h => by
    have h' : Below ((w.alloc (.cells #[.slice A ns.length c, .slice A' ls.length c'] 31)).alloc (.cells #[.int .i64 (k : Int)] 3)).heap.size ((w.alloc (.cells #[.slice A ns.length c, .slice A' ls.length c'] 31)).alloc (.cells #[.int .i64 (k : Int)] 3)) wr := by simpa using h
    have s1 : Below (w.alloc (.cells #[.slice A ns.length c, .slice A' ls.length c'] 31)).heap.size (w.alloc (.cells #[.slice A ns.length c, .slice A' ls.length c'] 31)) ((w.alloc (.cells #[.slice A ns.length c, .slice A' ls.length c'] 31)).alloc (.cells #[.int .i64 (k : Int)] 3)) := (Below.refl _ _).alloc (Nat.le_refl _) _
    refine ⟨(B0.out.below s1).below h', by have := h'.size; simp at this; omega, ?_, (HN.out.below s1).below h', (HL.out.below s1).below h'⟩
    rw [h'.cell (p := ⟨w.heap.size + 1, 0, none⟩) (by simp)]
    rw [cell_new _ _ _ _ _ (by simp)]; rfl)
  have V0 : Hid (Below (w.heap.size + 1 + 1) ((w.alloc (.cells #[.slice A ns.length c, .slice A' ls.length c'] 31)).alloc (.cells #[.int .i64 (k : Int)] 3)) ((w.alloc (.cells #[.slice A ns.length c, .slice A' ls.length c'] 31)).alloc (.cells #[.int .i64 (k : Int)] 3))) := hid (Below.refl _ _)
  have hk0 : (0 : Int) ≤ (k : Int) := by omega
  have hk1 : (k : Int) < (ns.length : Int) := by omega
  have q0 : IntKind.i64.wrap (2 * (ls.length : Int)) = 2 * (ls.length : Int) := IntWalk.i64_in _ (by omega)
  go_enter Try.func73, Try.ntmps73
  go_wp2_with fail
  go_loopw [5, 6] (fun v i wr => ∃ n : Nat, n ≤ 2 * ls.length ∧ i = .int .i64 n ∧ Hid (OwnInts (w.heap.size + 1 + 1) wr v (dartsAt ls k n)) ∧ Hid (Below (w.heap.size + 1 + 1) ((w.alloc (.cells #[.slice A ns.length c, .slice A' ls.length c'] 31)).alloc (.cells #[.int .i64 (k : Int)] 3)) wr)) (fun _ i _ => 2 * ls.length - (intOf i).toNat)
  case atStart => exact ⟨0, Nat.zero_le _, rfl, hid (World.ownsRow_nil _ _ _ _), V0⟩
  case round =>
    obtain ⟨n, hn2, rfl, HOW, HB⟩ := hrel
    obtain ⟨bx, z1, ck, pn, px⟩ := WW.out _ HB.out
    have v0 := bx.c0
    have v1 := bx.c1
    have vlt := bx.lt
    have BX := hid bx
    have PN := hid pn
    have PL := hid px
    clear bx pn px
    by_cases hlt : n < 2 * ls.length
    · have hd0 : (0 : Int) ≤ (n : Int) := by omega
      have hd1 : (n : Int) < 2 * (ls.length : Int) := by omega
      obtain ⟨a, b, ea, eb, la, lb', hab⟩ := WF.out.ends hlt
      have EA := hid ea
      have CE := hid (fun q => iDartFrom0 _ _ ns ls n (mv wr q) (PN.out.below (below_mv wr q)) (PL.out.below (below_mv wr q)) hd0 hd1 (by omega))
      rw [ea] at CE
      clear ea eb hab
      have m0 := fun q => (BX.out.mv q).c0
      have m1 := fun q => (BX.out.mv q).c1
      have m2 := fun q => cell_mv z1 ck q
      by_cases hak : a = k
      all_goals
        first | (have hq : ((a : Int) == (k : Int)) = true := by simp [hak]) | (have hq : ((a : Int) == (k : Int)) = false := by simp; omega)
        have HAK := hid hak
        clear hak
        go_wp2_with fail
        refine wp_region_mv (by kernel_rfl) (by kernel_rfl) ?_
        repeat (go_big_quiet_step ((go_at_call 76; exact calls_mv (CE.out _))))
        refine wpQuiet_nil ?_
        intro _ hw'
        obtain ⟨q, hw''⟩ := hw'
        subst hw''
        clear m0 m1 m2 CE v0 v1 vlt ck PN PL BX
        have hb := below_mv wr q
        have HB1 := hid (HB.out.trans (hb.mono (by omega)))
        have HO1 := hid (own_below HOW.out hb)
        clear HOW HB z1 hb
        generalize mv wr q = w1 at HB1 HO1 ⊢
      · have E := hid (show dartsAt ls k (n + 1) = dartsAt ls k n ++ [(n : Int)] by rw [dartsAt, if_pos (by rw [EA.out, HAK.out])])
        have AL := hid (dartsAt_len ls k n)
        have z1 : w.heap.size + 1 + 1 ≤ w1.heap.size := by obtain ⟨_, z, _⟩ := WW.out _ HB1.out; omega
        have C3 := hid (show (dartsAt ls k n).length + 1 ≤ maxLen by have := AL.out; unfold maxLen; omega)
        have C4 := hid (show ((dartsAt ls k n).length + 1) * 8 ≤ 140737488355328 by have := AL.out; omega)
        obtain ⟨A9, c9, rfl⟩ := own_form HO1.out
        go_wp2_with (at_builtin; obtain ⟨hinf, hz0, hz1, hz2⟩ := HINF.out; refine wpList_append_own _ rfl _ _ 42 rfl (w.heap.size + 1 + 1) 3 i0 (.int .i64 0) 1 8 Try.underlying42 hinf hz0 hz1 hz2 rfl (by decide) _ _ _ rfl (HO1.out.alloc _) ⟨w1.heap.size, 0, none⟩ 1 1 [.int .i64 n] rfl rfl (cell_one_new w1 (.int .i64 n) 3) (by simp [Value.oneCell']) C3.out C4.out (by simp; omega) ?_)
        intro v' w' hown' hgrow _
        have HB2 := hid ((HB1.out.alloc z1 (.cells #[.int .i64 n] 3)).grown hgrow (by simp; omega) (fun g hg => (HO1.out.lt g hg).1))
        have O9 : Hid (OwnInts (w.heap.size + 1 + 1) w' v' (dartsAt ls k (n + 1))) := hid (by unfold OwnInts; rw [E.out]; simpa [ints] using hown')
        clear hown' hgrow
        go_wp2
        go_roundw
        case rel => exact ⟨n + 1, by omega, by go_num, O9, HB2⟩
        case measure => simp [intOf]; omega
      · have E := hid (show dartsAt ls k (n + 1) = dartsAt ls k n by rw [dartsAt, if_neg (by rw [EA.out]; have := HAK.out; omega)])
        go_wp2
        go_roundw
        case rel => exact ⟨n + 1, by omega, by go_num, hid (by rw [E.out]; exact HO1.out), HB1⟩
        case measure => simp [intOf]; omega
    · have he : n = 2 * ls.length := by omega
      subst he
      have z2 : w.heap.size + 1 + 1 ≤ wr.heap.size := by omega
      by_cases hz : (dartsAt ls k (2 * ls.length)).length = 0
      · have hnil : dartsAt ls k (2 * ls.length) = [] := List.eq_nil_of_length_eq_zero hz
        have HE := hid (show aroundF ns ls k = [] by
          have := (aroundN_perm ns ls k (2 * ls.length)).length_eq
          rw [hz] at this
          exact List.eq_nil_of_length_eq_zero this)
        rw [hnil] at HOW
        obtain ⟨A9, c9, rfl⟩ := own_form HOW.out
        clear hz hnil
        have hS := hid (fun fv W => AnyF.slices_SortFunc_none (P := Try.prog) (ρ := Try.sortL_ren) { Try.sortL with } A9 c9 fv W)
        go_wp2_with fail
        refine (hS.out _ _).mono ?_
        rintro e w3 ⟨rfl, rfl⟩
        go_wp2
        go_ret
        exact ⟨_, rfl, by rw [HE.out]; exact own_less HOW.out (by omega), then_ S0.out (by have := ((Below.refl (w.heap.size + 1) (w.alloc (.cells #[.slice A ns.length c, .slice A' ls.length c'] 31))).alloc (by simp) (.cells #[.int .i64 (k : Int)] 3)).trans (HB.out.mono (by omega)); simpa using this) S0.out.size⟩
      · obtain ⟨g, c8, rfl, hg1, hg2⟩ := own_cons HOW.out (by omega)
        have SO := hid (sort_own A A' c c' ns ls k w.heap.size (w.heap.size + 1) (w.heap.size + 1 + 1) _ g c8 ((w.alloc (.cells #[.slice A ns.length c, .slice A' ls.length c'] 31)).alloc (.cells #[.int .i64 (k : Int)] 3)) wr WF.out hk z2 HB.out WW.out rfl (by omega) hg1 HOW.out)
        clear hz hg1 hg2
        go_wp2_with fail
        refine SO.out.mono ?_
        rintro e w3 ⟨rfl, ho, hb⟩
        have HO := hid ho
        have HB3 := hid hb
        clear ho hb
        go_wp2
        go_ret
        refine ⟨_, rfl, own_less (B := w.heap.size + 1 + 1) ?_ (by omega), then_ S0.out (by have := ((Below.refl (w.heap.size + 1) (w.alloc (.cells #[.slice A ns.length c, .slice A' ls.length c'] 31))).alloc (by simp) (.cells #[.int .i64 (k : Int)] 3)).trans (HB3.out.mono (by omega)); simpa using this) S0.out.size⟩
        exact HO.out
end Go.Proofs.Ytmkgdilabpehlaa
