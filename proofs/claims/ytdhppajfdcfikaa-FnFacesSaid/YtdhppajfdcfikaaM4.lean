/- The program's list of the darts around a node of a valid window: by slices.SortFunc. No condition but that the window is valid and has the node. -/
import Derived.Test.YtdhppajfdcfikaaCmp
import Derived.Test.YtdhppajfdcfikaaSort
import Derived.Lib.OwnBridge
import Derived.Test.YtdhppajfdcfikaaHeldM
import Derived.Test.YtdhppajfdcfikaaMark
namespace Go.Proofs.Ytdhppajfdcfikaa
open Go.ChangeShapes Go.WideShapes Go.ChangeAt Go.RowKit
set_option maxHeartbeats 2000000
set_option linter.unusedSimpArgs false
set_option linter.unusedVariables false
/-- a dart that goes from node k -/
abbrev Dt (ls : List (Int × Int)) (k : Nat) := {x : Int // ∃ m : Nat, m < 2 * ls.length ∧ x = (m : Int) ∧ dFrom ls (m : Int) = (k : Int)}
def encD {ls : List (Int × Int)} {k : Nat} (x : Dt ls k) : Value := .int .i64 x.1
def cfD (ns : List (Int × Int)) {ls : List (Int × Int)} {k : Nat} (x y : Dt ls k) : Int := Up.cmpD ns ls k x.1 y.1
theorem ltD (ns : List (Int × Int)) {ls : List (Int × Int)} {k : Nat} (x y : Dt ls k) : ltOf (cfD ns) x y = befD ns ls k x.1 y.1 := by
  unfold ltOf cfD Up.cmpD
  by_cases h : x.1 = y.1
  · rw [if_pos h, h, befD_irr]; rfl
  · rw [if_neg h]
    cases befD ns ls k x.1 y.1 <;> simp
theorem totD {ns ls : List (Int × Int)} (F : WinFacts ns ls) {k : Nat} (x y : Dt ls k) (h : x ≠ y) : befD ns ls k x.1 y.1 = true ∨ befD ns ls k y.1 x.1 = true := by
  obtain ⟨x, m, hm, rfl, hk⟩ := x
  obtain ⟨y, m', hm', rfl, hk'⟩ := y
  have hne : m ≠ m' := fun e => h (by subst e; rfl)
  have := F.differ hm hm' (by rw [hk, hk']) hne
  rwa [hk] at this
theorem transD {ns ls : List (Int × Int)} (F : WinFacts ns ls) {k : Nat} (x y z : Dt ls k) (h : befD ns ls k x.1 y.1 = true) (h' : befD ns ls k y.1 z.1 = true) : befD ns ls k x.1 z.1 = true := by
  obtain ⟨x, m, hm, rfl, hk⟩ := x
  obtain ⟨y, m', hm', rfl, hk'⟩ := y
  obtain ⟨z, m'', hm'', rfl, hk''⟩ := z
  exact F.befD_trans hm hm' hm'' hk hk' hk'' h h'
theorem swoD {ns ls : List (Int × Int)} (F : WinFacts ns ls) (k : Nat) : Sort.SWO (ltOf (cfD ns (ls := ls) (k := k))) where
  irrefl x := by rw [ltD, befD_irr]
  trans x y z h1 h2 := by rw [ltD] at *; exact transD F x y z h1 h2
  ntrans x y z h1 h2 := by
    rw [ltD] at *
    cases h : befD ns ls k x.1 z.1
    · rfl
    · exfalso
      by_cases e : x = y
      · rw [e, h2] at h; cases h
      · rcases totD F x y e with h3 | h3
        · rw [h3] at h1; cases h1
        · rw [transD F y x z h3 h] at h2; cases h2
theorem below_grow {B : Nat} {w0 w : World} (h : Below B w0 w) (hB : B ≤ w.heap.size) (os : Array Obj) : Below B w0 (Sort.grow w os) :=
  h.trans ⟨rfl, rfl, rfl, by simp [Sort.grow], fun k hk => by simp only [Sort.grow]; rw [Array.getElem?_append_left (by omega)]⟩
theorem below_sort {α : Type} [Inhabited α] {enc : α → Value} {B : Nat} {w0 w : World} {g n : Nat} {d : Array α} {os : Array Obj} (h : Below B w0 w) (hg : B ≤ g) (hB : B ≤ w.heap.size) : Below B w0 (sortWorld enc w g 0 n d os) := by
  unfold sortWorld
  exact below_grow (Lib.below_putRow h hg) (by simpa [Sort.ahead] using hB) os
/-- what the sorted row holds -/
theorem sorted_is {ns ls : List (Int × Int)} (F : WinFacts ns ls) (k : Nat) [Inhabited (Dt ls k)] (d d' : Array (Dt ls k)) (hd : d.toList.map (·.1) = dartsAt ls k (2 * ls.length)) (hp : Sort.PermIn 0 d.size d d') (hs : Sort.SortedIn (ltOf (cfD ns)) 0 d.size d') :
    d'.toList.map (·.1) = aroundF ns ls k := by
  obtain ⟨h1, _, h3⟩ := hp
  have e1 : (d'.extract 0 d.size).toList = d'.toList := by simp [← h1]
  have e2 : (d.extract 0 d.size).toList = d.toList := by simp
  rw [e1, e2] at h3
  have hperm : (d'.toList.map (·.1)).Perm (dartsAt ls k (2 * ls.length)) := by rw [← hd]; exact h3.map _
  have hnd : (d'.toList.map (·.1)).Nodup := hperm.nodup_iff.2 (dartsAt_nodup ls k _)
  refine sorted_unique (lt := befD ns ls k) (befD_irr ns ls k) (fun x y h => befD_asym h) (hperm.trans (aroundN_perm ns ls k _).symm) ?_ (F.aroundN_sorted k _ (Nat.le_refl _))
  rw [List.pairwise_map, List.pairwise_iff_getElem]
  intro i j hi hj hij
  have hlt := hs i j (Nat.zero_le _) hij (by simpa [h1] using hj)
  rw [ltD] at hlt
  have g1 : d'[i]! = d'.toList[i] := by rw [getElem!_pos d' i (by simpa using hi)]; simp
  have g2 : d'[j]! = d'.toList[j] := by rw [getElem!_pos d' j (by simpa using hj)]; simp
  rw [g1, g2] at hlt
  have hne : d'.toList[i] ≠ d'.toList[j] := fun e => by
    have := List.pairwise_iff_getElem.1 hnd i j (by simpa using hi) (by simpa using hj) hij
    simp only [List.getElem_map] at this
    exact this (by rw [e])
  rcases totD F _ _ hne with h | h
  · exact h
  · rw [hlt] at h; cases h
/-- the sort, of a row of the call's own -/
theorem sort_own (A A' : Option Addr) (c c' : Nat) (ns ls : List (Int × Int)) (k bw bk B L g cp : Nat) (w0 w : World) (F : WinFacts ns ls) (hk : k < ns.length) (hB : B ≤ w.heap.size) (h0 : Below B w0 w)
    (WW : ∀ W, Below B w0 W → BoxV W bw (.slice A ns.length c) (.slice A' ls.length c') ∧ bk < W.heap.size ∧ W.cell? ⟨bk, 0, none⟩ = some (.int .i64 (k : Int)) ∧ PairsAt W (.slice A ns.length c) ns ∧ PairsAt W (.slice A' ls.length c') ls)
    (hL : L = (dartsAt ls k (2 * ls.length)).length) (hpos : 0 < L) (hg : B ≤ g) (hown : OwnInts B w (.slice (some ⟨g, 0, none⟩) L cp) (dartsAt ls k (2 * ls.length))) :
    Calls Try.prog 108 #[.slice (some ⟨g, 0, none⟩) L cp, .func (.func 109) #[] #[.pointer (some ⟨bw, 0, none⟩), .pointer (some ⟨bk, 0, none⟩)]] w
      fun e w' => e = .returned (.tuple #[]) ∧ OwnInts B w' (.slice (some ⟨g, 0, none⟩) L cp) (aroundF ns ls k) ∧ Below B w0 w' := by
  have hm : ∀ x, x ∈ dartsAt ls k (2 * ls.length) → ∃ m : Nat, m < 2 * ls.length ∧ x = (m : Int) ∧ dFrom ls (m : Int) = (k : Int) := fun x hx => (mem_dartsAt ls k _ x).1 hx
  obtain ⟨zs, hzs⟩ : ∃ zs : List (Dt ls k), zs.map (·.1) = dartsAt ls k (2 * ls.length) := ⟨(dartsAt ls k (2 * ls.length)).attachWith _ hm, by rw [List.attachWith_map_subtype_val]⟩
  have hlen : zs.length = L := by rw [hL, ← hzs, List.length_map]
  have hL40 : L ≤ 40 := by have := dartsAt_len ls k (2 * ls.length); have := F.m2; omega
  haveI : Inhabited (Dt ls k) := ⟨zs[0]'(by omega)⟩
  have hrow : w.ownsRow B 3 1 (.slice (some ⟨g, 0, none⟩) L cp) L (zs.map encD) := by
    have h := hown
    unfold OwnInts at h
    rw [← hL, ← hzs] at h
    have e : ints (zs.map (·.1)) = zs.map encD := by unfold ints; rw [List.map_map]; rfl
    rw [e] at h; exact h
  obtain ⟨g', cp', hv, _, hgs, _, _, _, hH⟩ := Lib.holds_of_ownsRow hrow (by intro e; cases e)
  obtain ⟨rfl, rfl⟩ : g = g' ∧ cp = cp' := by simpa using hv
  have eg : ∀ args w, (callFunc 109 args).run Try.prog w = .ok (.enter 109 args) w := enters_of Try.func109 (by kernel_rfl) rfl
  have hsz : zs.toArray.size = L := by simpa using hlen
  have hcmp : CmpLays1 Try.prog 109 #[.pointer (some ⟨bw, 0, none⟩), .pointer (some ⟨bk, 0, none⟩)] encD (cfD ns (ls := ls) (k := k)) g 0 zs.toArray.size w := by
    intro m os dk _ x y
    obtain ⟨x, d, hd, rfl, hkd⟩ := x
    obtain ⟨y, e, he, rfl, hke⟩ := y
    obtain ⟨q1, q2, q3, q4, q5⟩ := WW _ (below_sort (enc := encD) (g := g) (n := m) (d := dk) (os := os) h0 hg hB)
    have h := Up.cmp_any A A' c c' ns ls k d e bw bk _ q1 q2 q3 q4 q5 F hk hd he hkd hke
    exact h.mono fun r w' ⟨hr, hb⟩ => ⟨hr, Up.up_grow hb⟩
  have hcon := Any.slices_SortFunc Try.sortL encD (fun _ => rfl) (cfD ns) (swoD F k) 109 #[.pointer (some ⟨bw, 0, none⟩), .pointer (some ⟨bk, 0, none⟩)] g 0 cp zs.toArray w eg hcmp hH hgs (by omega)
  rw [hsz] at hcon
  change Calls Try.prog 108 _ _ _ at hcon
  refine hcon.mono ?_
  rintro e w' ⟨rfl, d', n, os, hp, hs, rfl⟩
  rw [← hsz] at hp hs
  have hres := sorted_is F k zs.toArray d' (by simpa using hzs) hp hs
  refine ⟨rfl, ?_, below_sort h0 hg hB⟩
  have hy : d'.toList.length = L := by rw [Array.length_toList, hp.1, hsz]
  have ho := Lib.ownsRow_putRow (q := n) (ys := d'.toList) hrow hy (Nat.le_refl L)
  have e1 : d'.toList.toArray = d' := by simp
  rw [List.take_of_length_le (by omega), e1] at ho
  have e2 : d'.toList.map encD = ints (aroundF ns ls k) := by rw [← hres]; unfold ints; rw [List.map_map]; rfl
  rw [e2] at ho
  have hlen2 : L = (aroundF ns ls k).length := by rw [← hres, List.length_map, hy]
  have ho' : OwnInts B (Sort.putRow encD (Sort.ahead w n) g 0 d') (.slice (some ⟨g, 0, none⟩) L cp) (aroundF ns ls k) := by
    unfold OwnInts; rw [← hlen2]; exact ho
  exact own_below ho' (below_grow (Below.refl _ _) (Nat.le_refl _) os)
theorem iAround_any (vn vl : Value) (ns ls : List (Int × Int)) (k : Nat) (w : World) (hn : PairsAt w vn ns) (hl : PairsAt w vl ls) (hok : winOkB ns ls = true) (hk : k < ns.length) : Calls Try.prog 92 #[.agg #[vn, vl], .int .i64 (k : Int)] w (NewInts (aroundF ns ls k) w) := by
  have s0 : Below w.heap.size w (w.alloc (.cells #[vn, vl] 31)) := (Below.refl _ _).alloc (Nat.le_refl _) _
  have HL := hid (hl.below s0)
  have HN := hid (hn.below s0)
  have B0 := hid (BoxV.new w vn vl 31 w.heap.size rfl)
  have S0 := hid s0
  clear s0
  obtain ⟨A, c, rfl, hcn, hm, _⟩ := id hn
  obtain ⟨A', c', rfl, hcl, hm', _⟩ := id hl
  unfold maxLen at hm hm'
  clear hn hl
  have WF := hid (win_facts hok)
  have hl20 := WF.out.m2
  have hn12 := WF.out.n2
  clear hok
  obtain ⟨i0, hinf, hz0, hz1, hz2⟩ := info_parts infoI
  have HINF := hid (And.intro hinf (And.intro hz0 (And.intro hz1 hz2)))
  clear hinf hz0 hz1 hz2
  have WW : Hid (∀ wr, Below (w.heap.size + 1 + 1) ((w.alloc (.cells #[.slice A ns.length c, .slice A' ls.length c'] 31)).alloc (.cells #[.int .i64 (k : Int)] 3)) wr → BoxV wr w.heap.size (.slice A ns.length c) (.slice A' ls.length c') ∧ w.heap.size + 1 < wr.heap.size ∧ wr.cell? ⟨w.heap.size + 1, 0, none⟩ = some (.int .i64 (k : Int)) ∧ PairsAt wr (.slice A ns.length c) ns ∧ PairsAt wr (.slice A' ls.length c') ls) := hid (fun wr h => by
    have h' : Below ((w.alloc (.cells #[.slice A ns.length c, .slice A' ls.length c'] 31)).alloc (.cells #[.int .i64 (k : Int)] 3)).heap.size ((w.alloc (.cells #[.slice A ns.length c, .slice A' ls.length c'] 31)).alloc (.cells #[.int .i64 (k : Int)] 3)) wr := by simpa using h
    have s1 : Below (w.alloc (.cells #[.slice A ns.length c, .slice A' ls.length c'] 31)).heap.size (w.alloc (.cells #[.slice A ns.length c, .slice A' ls.length c'] 31)) ((w.alloc (.cells #[.slice A ns.length c, .slice A' ls.length c'] 31)).alloc (.cells #[.int .i64 (k : Int)] 3)) := (Below.refl _ _).alloc (Nat.le_refl _) _
    refine ⟨(B0.out.below s1).below h', by have := h'.size; simp at this; omega, ?_, (HN.out.below s1).below h', (HL.out.below s1).below h'⟩
    rw [h'.cell (p := ⟨w.heap.size + 1, 0, none⟩) (by simp)]
    rw [cell_new _ _ _ _ _ (by simp)]; rfl)
  have V0 : Hid (Below (w.heap.size + 1 + 1) ((w.alloc (.cells #[.slice A ns.length c, .slice A' ls.length c'] 31)).alloc (.cells #[.int .i64 (k : Int)] 3)) ((w.alloc (.cells #[.slice A ns.length c, .slice A' ls.length c'] 31)).alloc (.cells #[.int .i64 (k : Int)] 3))) := hid (Below.refl _ _)
  have hk0 : (0 : Int) ≤ (k : Int) := by omega
  have hk1 : (k : Int) < (ns.length : Int) := by omega
  have q0 : IntKind.i64.wrap (2 * (ls.length : Int)) = 2 * (ls.length : Int) := IntWalk.i64_in _ (by omega)
  go_enter Try.func92, Try.ntmps92
  go_wp2_with fail
  go_loopw [5, 6] (fun v i wr => ∃ n : Nat, n ≤ 2 * ls.length ∧ i = .int .i64 n ∧ Hid (OwnInts (w.heap.size + 1 + 1) wr v (dartsAt ls k n)) ∧ Hid (Below (w.heap.size + 1 + 1) ((w.alloc (.cells #[.slice A ns.length c, .slice A' ls.length c'] 31)).alloc (.cells #[.int .i64 (k : Int)] 3)) wr)) (fun _ i _ => 2 * ls.length - (intOf i).toNat)
  case atStart => exact ⟨0, Nat.zero_le _, rfl, hid (World.ownsRow_nil _ _ _ _), V0⟩
  case round =>
    obtain ⟨n, hn2, rfl, HOW, HB⟩ := hrel
    obtain ⟨bx, z1, ck, pn, px⟩ := WW.out _ HB.out
    have v0 := bx.c0
    have v1 := bx.c1
    have vlt := bx.lt
    have BX := hid bx
    have PN := hid pn
    have PL := hid px
    clear bx pn px
    by_cases hlt : n < 2 * ls.length
    · have hd0 : (0 : Int) ≤ (n : Int) := by omega
      have hd1 : (n : Int) < 2 * (ls.length : Int) := by omega
      obtain ⟨a, b, ea, eb, la, lb', hab⟩ := WF.out.ends hlt
      have EA := hid ea
      have CE := hid (fun q => iDartFrom0 _ _ ns ls n (mv wr q) (PN.out.below (below_mv wr q)) (PL.out.below (below_mv wr q)) hd0 hd1 (by omega))
      rw [ea] at CE
      clear ea eb hab
      have m0 := fun q => (BX.out.mv q).c0
      have m1 := fun q => (BX.out.mv q).c1
      have m2 := fun q => cell_mv z1 ck q
      by_cases hak : a = k
      all_goals
        first | (have hq : ((a : Int) == (k : Int)) = true := by simp [hak]) | (have hq : ((a : Int) == (k : Int)) = false := by simp; omega)
        have HAK := hid hak
        clear hak
        go_wp2_with fail
        refine wp_region_mv (by kernel_rfl) (by kernel_rfl) ?_
        repeat (go_big_quiet_step ((go_at_call 82; exact calls_mv (CE.out _))))
        refine wpQuiet_nil ?_
        intro _ hw'
        obtain ⟨q, hw''⟩ := hw'
        subst hw''
        clear m0 m1 m2 CE v0 v1 vlt ck PN PL BX
        have hb := below_mv wr q
        have HB1 := hid (HB.out.trans (hb.mono (by omega)))
        have HO1 := hid (own_below HOW.out hb)
        clear HOW HB z1 hb
        generalize mv wr q = w1 at HB1 HO1 ⊢
      · have E := hid (show dartsAt ls k (n + 1) = dartsAt ls k n ++ [(n : Int)] by rw [dartsAt, if_pos (by rw [EA.out, HAK.out])])
        have AL := hid (dartsAt_len ls k n)
        have z1 : w.heap.size + 1 + 1 ≤ w1.heap.size := by obtain ⟨_, z, _⟩ := WW.out _ HB1.out; omega
        have C3 := hid (show (dartsAt ls k n).length + 1 ≤ maxLen by have := AL.out; unfold maxLen; omega)
        have C4 := hid (show ((dartsAt ls k n).length + 1) * 8 ≤ 140737488355328 by have := AL.out; omega)
        obtain ⟨A9, c9, rfl⟩ := own_form HO1.out
        go_wp2_with (at_builtin; obtain ⟨hinf, hz0, hz1, hz2⟩ := HINF.out; refine wpList_append_own _ rfl _ _ 37 rfl (w.heap.size + 1 + 1) 3 i0 (.int .i64 0) 1 8 Try.underlying37 hinf hz0 hz1 hz2 rfl (by decide) _ _ _ rfl (HO1.out.alloc _) ⟨w1.heap.size, 0, none⟩ 1 1 [.int .i64 n] rfl rfl (cell_one_new w1 (.int .i64 n) 3) (by simp [Value.oneCell']) C3.out C4.out (by simp; omega) ?_)
        intro v' w' hown' hgrow _
        have HB2 := hid ((HB1.out.alloc z1 (.cells #[.int .i64 n] 3)).grown hgrow (by simp; omega) (fun g hg => (HO1.out.lt g hg).1))
        have O9 : Hid (OwnInts (w.heap.size + 1 + 1) w' v' (dartsAt ls k (n + 1))) := hid (by unfold OwnInts; rw [E.out]; simpa [ints] using hown')
        clear hown' hgrow
        go_wp2
        go_roundw
        case rel => exact ⟨n + 1, by omega, by go_num, O9, HB2⟩
        case measure => simp [intOf]; omega
      · have E := hid (show dartsAt ls k (n + 1) = dartsAt ls k n by rw [dartsAt, if_neg (by rw [EA.out]; have := HAK.out; omega)])
        go_wp2
        go_roundw
        case rel => exact ⟨n + 1, by omega, by go_num, hid (by rw [E.out]; exact HO1.out), HB1⟩
        case measure => simp [intOf]; omega
    · have he : n = 2 * ls.length := by omega
      subst he
      have z2 : w.heap.size + 1 + 1 ≤ wr.heap.size := by omega
      by_cases hz : (dartsAt ls k (2 * ls.length)).length = 0
      · have hnil : dartsAt ls k (2 * ls.length) = [] := List.eq_nil_of_length_eq_zero hz
        have HE := hid (show aroundF ns ls k = [] by
          have := (aroundN_perm ns ls k (2 * ls.length)).length_eq
          rw [hz] at this
          exact List.eq_nil_of_length_eq_zero this)
        rw [hnil] at HOW
        obtain ⟨A9, c9, rfl⟩ := own_form HOW.out
        clear hz hnil
        have hS := hid (fun fv W => AnyF.slices_SortFunc_none (P := Try.prog) (ρ := Try.sortL_ren) { Try.sortL with } A9 c9 fv W)
        go_wp2_with fail
        refine (hS.out _ _).mono ?_
        rintro e w3 ⟨rfl, rfl⟩
        go_wp2
        go_ret
        exact ⟨_, rfl, by rw [HE.out]; exact own_less HOW.out (by omega), then_ S0.out (by have := ((Below.refl (w.heap.size + 1) (w.alloc (.cells #[.slice A ns.length c, .slice A' ls.length c'] 31))).alloc (by simp) (.cells #[.int .i64 (k : Int)] 3)).trans (HB.out.mono (by omega)); simpa using this) S0.out.size⟩
      · obtain ⟨g, c8, rfl, hg1, hg2⟩ := own_cons HOW.out (by omega)
        have SO := hid (sort_own A A' c c' ns ls k w.heap.size (w.heap.size + 1) (w.heap.size + 1 + 1) _ g c8 ((w.alloc (.cells #[.slice A ns.length c, .slice A' ls.length c'] 31)).alloc (.cells #[.int .i64 (k : Int)] 3)) wr WF.out hk z2 HB.out WW.out rfl (by omega) hg1 HOW.out)
        clear hz hg1 hg2
        go_wp2_with fail
        refine SO.out.mono ?_
        rintro e w3 ⟨rfl, ho, hb⟩
        have HO := hid ho
        have HB3 := hid hb
        clear ho hb
        go_wp2
        go_ret
        refine ⟨_, rfl, own_less (B := w.heap.size + 1 + 1) ?_ (by omega), then_ S0.out (by have := ((Below.refl (w.heap.size + 1) (w.alloc (.cells #[.slice A ns.length c, .slice A' ls.length c'] 31))).alloc (by simp) (.cells #[.int .i64 (k : Int)] 3)).trans (HB3.out.mono (by omega)); simpa using this) S0.out.size⟩
        exact HO.out
end Go.Proofs.Ytdhppajfdcfikaa

/- The dart beside a dart around its node; what NextAround, LastAround and AroundNode return, in the program and in the reference. No condition. -/
namespace Go.Proofs.Ytdhppajfdcfikaa
open Go.ChangeShapes Go.WideShapes Go.ChangeAt Go.RowKit
set_option maxHeartbeats 2000000
set_option linter.unusedSimpArgs false
set_option linter.unusedVariables false
/-- the place one further (up) or one back in a row of n that closes -/
def turnI (n i : Nat) (up : Bool) : Nat := (if up then i + 1 else i + n - 1) % n
def besL (l : List Int) (d : Int) (up : Bool) : Int := l.getD (turnI l.length (l.idxOf d) up) 0
def besF (ns ls : List (Int × Int)) (d : Int) (up : Bool) : Int := besL (aroundF ns ls (dFrom ls d)) d up
def byI (up : Bool) : Int := if up then 1 else -1
theorem turn_int (n i : Nat) (up : Bool) (hi : i < n) (hn : n ≤ 1000) : ∃ j : Nat, (i : Int) + byI up + (n : Int) = (j : Int) ∧ j ≤ 2000 ∧ j % n = turnI n i up := by
  cases up
  · refine ⟨i + n - 1, by unfold byI; simp; omega, by omega, rfl⟩
  · refine ⟨i + n + 1, by unfold byI; simp; omega, by omega, ?_⟩
    unfold turnI
    rw [if_pos rfl, show i + n + 1 = i + 1 + n by omega, Nat.add_mod_right]
theorem turn_lt (n i : Nat) (up : Bool) (hi : i < n) : turnI n i up < n := Nat.mod_lt _ (by omega)
theorem idx_take {xs : List Int} {d : Int} (hd : d ∈ xs) (k : Nat) (h : ∀ j, j < k → xs[j]? ≠ some d) : k ≤ xs.idxOf d := by
  rcases Nat.lt_or_ge (xs.idxOf d) k with h' | h'
  · exact absurd (by rw [List.getElem?_eq_getElem (List.idxOf_lt_length_of_mem hd), List.getElem_idxOf]) (h _ h')
  · exact h'
theorem idxOf_le {x : Int} : ∀ {xs : List Int} {k : Nat}, xs[k]? = some x → xs.idxOf x ≤ k
  | [], k, h => by simp at h
  | a :: t, 0, h => by
    have : a = x := by simpa using h
    subst this
    simp [List.idxOf_cons]
  | a :: t, k + 1, h => by
    have h' : t[k]? = some x := by simpa using h
    have := idxOf_le h'
    rw [List.idxOf_cons]
    cases a == x <;> simp <;> omega
theorem indexInt_any (v : Value) (xs : List Int) (d : Int) (w : World) (hv : IntsAt w v xs) (hd : d ∈ xs) : Calls Try.prog 93 #[v, .int .i64 d] w fun e w' => e = .returned (.int .i64 ((xs.idxOf d : Nat) : Int)) ∧ w' = w := by
  obtain ⟨A, c, rfl, hm, hcell⟩ := hv
  have HC := hid hcell
  have HD := hid hd
  have hi := List.idxOf_lt_length_of_mem hd
  clear hcell hd
  have hlm : (xs.length : Int) ≤ 1000000000 := by omega
  go_enter Try.func93, Try.ntmps93
  go_wp2
  go_loop [8] (fun i => ∃ k : Nat, k ≤ xs.length ∧ i = .int .i64 k ∧ Hid (∀ j, j < k → xs[j]? ≠ some d)) (fun i => xs.length - (intOf i).toNat)
  case atStart => exact ⟨0, Nat.zero_le _, rfl, hid (fun j hj => by omega)⟩
  case round =>
    obtain ⟨k, hk, rfl, H⟩ := hrel
    have hle := idx_take HD.out k H.out
    have hlt : k < xs.length := by omega
    have hk0 : (0 : Int) ≤ (k : Int) := by omega
    have hk1 : (k : Int) < (xs.length : Int) := by omega
    obtain ⟨x, hx⟩ : ∃ x, xs[k]? = some x := ⟨_, List.getElem?_eq_getElem hlt⟩
    obtain ⟨b, off, rfl, hbb, h1⟩ := HC.out k x hx
    by_cases hq : x = d
    · subst hq
      have E := hid (show xs.idxOf x = k from Nat.le_antisymm (idxOf_le hx) hle)
      clear hx hle hi hm
      go_wp2
      go_ret
      exact ⟨ret_int (by rw [E.out]), rfl⟩
    · have hq2 : (d == x) = false := by simp; exact fun e => hq e.symm
      have H2 := hid (show ∀ j, j < k + 1 → xs[j]? ≠ some d from fun j hj => by
        by_cases e : j = k
        · rw [e, hx]; exact fun e => hq (Option.some.inj e)
        · exact H.out j (by omega))
      clear hx hq hle hi hm
      go_wp2
      go_round
      case rel => exact ⟨k + 1, by omega, by go_num, H2⟩
      case measure => simp [intOf]; omega
theorem OwnInts.ints {B : Nat} {w : World} {v : Value} {xs : List Int} (h : OwnInts B w v xs) (hn : xs.length ≤ 1000) : IntsAt w v xs := h.at_ (by omega)
/-- the list of the darts around the node of a dart holds the dart -/
theorem around_has {ns ls : List (Int × Int)} {d : Nat} (hd : d < 2 * ls.length) : (d : Int) ∈ aroundF ns ls (dFrom ls (d : Int)) := (mem_around ns ls _ _).2 ⟨d, hd, rfl, rfl⟩
theorem around_len (ns ls : List (Int × Int)) (k : Int) : (aroundF ns ls k).length ≤ 2 * ls.length := aroundN_len ns ls k _
theorem iBeside_any (vn vl : Value) (ns ls : List (Int × Int)) (d : Nat) (up : Bool) (w : World) (hn : PairsAt w vn ns) (hl : PairsAt w vl ls) (hok : winOkB ns ls = true) (hd : d < 2 * ls.length) : Calls Try.prog 68 #[.agg #[vn, vl], .int .i64 (d : Int), .int .i64 (byI up)] w fun e w' => e = .returned (.int .i64 (besF ns ls d up)) ∧ Below w.heap.size w w' := by
  have s0 : Below w.heap.size w (w.alloc (.cells #[vn, vl] 31)) := (Below.refl _ _).alloc (Nat.le_refl _) _
  have HN := hid (hn.below s0)
  have HL := hid (hl.below s0)
  have B0 := hid (BoxV.new w vn vl 31 w.heap.size rfl)
  have S0 := hid s0
  clear s0
  obtain ⟨A, c, rfl, hcn, hm, _⟩ := id hn
  obtain ⟨A', c', rfl, hcl, hm', _⟩ := id hl
  unfold maxLen at hm hm'
  clear hn hl
  have v0 := B0.out.c0
  have v1 := B0.out.c1
  have WF := hid (win_facts hok)
  have hl20 := WF.out.m2
  have HOK := hid hok
  clear hok
  have hd0 : (0 : Int) ≤ (d : Int) := by omega
  have hd1 : (d : Int) < 2 * (ls.length : Int) := by omega
  obtain ⟨a, b, ea, eb, la, lb', hab⟩ := WF.out.ends hd
  have EA := hid ea
  have HAS := hid (around_has (ns := ns) hd)
  rw [ea] at HAS
  have ALEN := hid (around_len ns ls (a : Int))
  have BES := hid (show besF ns ls d up = besL (aroundF ns ls (a : Int)) d up by unfold besF; rw [ea])
  have CELLS := hid (fun W (h : Below (w.alloc (.cells #[.slice A ns.length c, .slice A' ls.length c'] 31)).heap.size (w.alloc (.cells #[.slice A ns.length c, .slice A' ls.length c'] 31)) W) => And.intro (B0.out.below h).c0 (B0.out.below h).c1)
  have C1 := hid (fun W (h : Below (w.alloc (.cells #[.slice A ns.length c, .slice A' ls.length c'] 31)).heap.size (w.alloc (.cells #[.slice A ns.length c, .slice A' ls.length c'] 31)) W) => iDartFrom0 _ _ ns ls d W (HN.out.below h) (HL.out.below h) hd0 hd1 (by omega))
  have C2 := hid (fun W (h : Below (w.alloc (.cells #[.slice A ns.length c, .slice A' ls.length c'] 31)).heap.size (w.alloc (.cells #[.slice A ns.length c, .slice A' ls.length c'] 31)) W) => iAround_any _ _ ns ls a W (HN.out.below h) (HL.out.below h) HOK.out la)
  rw [EA.out] at C1
  clear ea eb hab
  go_enter Try.func68, Try.ntmps68
  go_wp2_with fail
  refine wm_start (S := fun W => Below (w.alloc (.cells #[.slice A ns.length c, .slice A' ls.length c'] 31)).heap.size (w.alloc (.cells #[.slice A ns.length c, .slice A' ls.length c'] 31)) W) (by kernel_rfl) (Below.refl _ _).drew ?_
  refine wm_take (i := 0) (v := ?_) rfl (by kernel_rfl) (by kernel_rfl) (by kernel_rfl) (fun _ _ _ h => h) (by kernel_rfl) ?_ ?_
  rotate_left
  (focus (intro w hSw; obtain ⟨z0, z1⟩ := CELLS.out _ hSw; go_simp; try with_reducible rfl))
  simp only [Act.put, List.setIfInBounds_toArray, List.set_cons_zero, List.set_cons_succ, List.getElem_toArray, List.getElem_cons_succ, List.getElem_cons_zero, Nat.reduceAdd]
  refine wm_take (i := 1) (v := ?_) rfl (by kernel_rfl) (by kernel_rfl) (by kernel_rfl) (fun _ _ _ h => h) (by kernel_rfl) ?_ ?_
  rotate_left
  (focus (intro w hSw; obtain ⟨z0, z1⟩ := CELLS.out _ hSw; go_simp; try with_reducible rfl))
  simp only [Act.put, List.setIfInBounds_toArray, List.set_cons_zero, List.set_cons_succ, List.getElem_toArray, List.getElem_cons_succ, List.getElem_cons_zero, Nat.reduceAdd]
  refine wm_take (i := 2) (v := ?_) rfl (by kernel_rfl) (by kernel_rfl) (by kernel_rfl) (fun _ _ _ h => h) (by kernel_rfl) ?_ ?_
  rotate_left
  (focus (intro w hSw; obtain ⟨z0, z1⟩ := CELLS.out _ hSw; go_simp; try with_reducible rfl))
  simp only [Act.put, List.setIfInBounds_toArray, List.set_cons_zero, List.set_cons_succ, List.getElem_toArray, List.getElem_cons_succ, List.getElem_cons_zero, Nat.reduceAdd]
  refine wm_call (i := 3) (v := .int .i64 (a : Int)) (f := ?_) (args := ?_) rfl (by kernel_rfl) (by kernel_rfl) (by kernel_rfl) (fun _ _ _ h => h) (by kernel_rfl) ?_ ?_ ?_
  rotate_left 2
  (focus (intro w; go_simp; refine ⟨?_, ?_⟩ <;> with_reducible rfl))
  (focus (intro w hSw; refine (C1.out w hSw).mono ?_; rintro e w3 ⟨rfl, hb3⟩; exact ⟨rfl, hb3, then_ hSw hb3 hSw.size⟩))
  simp only [Act.put, List.setIfInBounds_toArray, List.set_cons_zero, List.set_cons_succ, List.getElem_toArray, List.getElem_cons_succ, List.getElem_cons_zero, Nat.reduceAdd]
  refine wm_each (l := [4]) (by kernel_rfl) (by simp) ?_
  intro v1 hv1 hS1
  refine Each.cons rfl (fun K hK => ?_) Each.nil
  go_simp
  refine (C2.out v1 hS1).mono ?_
  rintro e w3 ⟨v, rfl, ho, hb3⟩
  have hS3 := then_ hS1 hb3 hS1.size
  (try dsimp only)
  refine hK.out _ _ ⟨hS3, ?_⟩
  clear hK K
  (try simp only [Act.put, List.setIfInBounds_toArray, List.set_cons_zero, List.set_cons_succ, List.getElem_toArray, List.getElem_cons_succ, List.getElem_cons_zero, Nat.reduceAdd])
  refine wm_take (i := 5) (v := ?_) rfl (by kernel_rfl) (by kernel_rfl) (by kernel_rfl) (fun _ _ _ h => h) (by kernel_rfl) ?_ ?_
  rotate_left
  (focus (intro w hSw; skip; go_simp; try with_reducible rfl))
  simp only [Act.put, List.setIfInBounds_toArray, List.set_cons_zero, List.set_cons_succ, List.getElem_toArray, List.getElem_cons_succ, List.getElem_cons_zero, Nat.reduceAdd]
  refine wm_done (by kernel_rfl) ?_
  intro w9 hv9 hS9
  have HI := hid ((own_below ho hv9).ints (by have := ALEN.out; omega))
  have S9 := hid (then_ S0.out hS9 S0.out.size)
  clear ho hv9 hS9 hS3 hS1 hv1 hb3 CELLS C1 C2
  obtain ⟨A9, c9, hv, hm9, hcell⟩ := id HI.out
  subst hv
  have HC := hid hcell
  clear hcell
  have hL := ALEN.out
  generalize aroundF ns ls (a : Int) = l at HI HC HAS BES hL ⊢
  have hi := List.idxOf_lt_length_of_mem HAS.out
  obtain ⟨j, ej, hj, hjt⟩ := turn_int l.length (l.idxOf (d : Int)) up hi (by omega)
  have htl := turn_lt l.length (l.idxOf (d : Int)) up hi
  have TG := hid (List.getElem?_eq_getElem (l := l) htl)
  obtain ⟨b1, off, rfl, hbb, h1⟩ := HC.out _ _ TG.out
  have BE := hid (show besF ns ls d up = l[turnI l.length (l.idxOf (d : Int)) up] by rw [BES.out]; unfold besL; rw [List.getD_eq_getElem?_getD, TG.out]; rfl)
  have hby : -1 ≤ byI up ∧ byI up ≤ 1 := by cases up <;> simp [byI]
  have q1 : IntKind.i64.wrap (((l.idxOf (d : Int) : Nat) : Int) + byI up) = ((l.idxOf (d : Int) : Nat) : Int) + byI up := IntWalk.i64_in _ (by omega)
  have q2 : IntKind.i64.wrap (((l.idxOf (d : Int) : Nat) : Int) + byI up + (l.length : Int)) = (j : Int) := by rw [IntWalk.i64_in _ (by omega), ej]
  have hne : (l.length : Int) ≠ 0 := by omega
  have hrem : (j : Int) % (l.length : Int) = ((turnI l.length (l.idxOf (d : Int)) up : Nat) : Int) := by rw [← hjt]; exact (Int.natCast_emod j l.length).symm
  have hj0 : (0 : Int) ≤ (j : Int) := by omega
  have IX := hid (fun W (h : IntsAt W (.slice (some ⟨b1, off, none⟩) l.length c9) l) => indexInt_any _ l (d : Int) W h HAS.out)
  generalize l[turnI l.length (l.idxOf (d : Int)) up] = res at h1 BE
  have ht0 : (0 : Int) ≤ ((turnI l.length (l.idxOf (d : Int)) up : Nat) : Int) := by omega
  have ht1 : ((turnI l.length (l.idxOf (d : Int)) up : Nat) : Int) < (l.length : Int) := by omega
  generalize turnI l.length (l.idxOf (d : Int)) up = tt at h1 hrem ht0 ht1
  clear ej hjt htl TG hby hi hm9
  go_wp2_with fail
  refine (IX.out _ HI.out).mono ?_
  rintro e w3 ⟨rfl, rfl⟩
  go_wp2
  go_ret
  exact ⟨ret_int (by rw [BE.out]), S9.out⟩
theorem sStep_any (vn vl : Value) (ns ls : List (Int × Int)) (d : Nat) (up : Bool) (w : World) (hn : PairsAt w vn ns) (hl : PairsAt w vl ls) (hok : winOkB ns ls = true) (hd : d < 2 * ls.length) : Calls Try.prog 105 #[.agg #[vn, vl], .int .i64 (d : Int), .int .i64 (byI up)] w fun e w' => e = .returned (.int .i64 (besF ns ls d up)) ∧ Below w.heap.size w w' := by
  have s0 : Below w.heap.size w (w.alloc (.cells #[vn, vl] 31)) := (Below.refl _ _).alloc (Nat.le_refl _) _
  have HN := hid (hn.below s0)
  have HL := hid (hl.below s0)
  have B0 := hid (BoxV.new w vn vl 31 w.heap.size rfl)
  have S0 := hid s0
  clear s0
  obtain ⟨A, c, rfl, hcn, hm, _⟩ := id hn
  obtain ⟨A', c', rfl, hcl, hm', _⟩ := id hl
  unfold maxLen at hm hm'
  clear hn hl
  have v0 := B0.out.c0
  have v1 := B0.out.c1
  have WF := hid (win_facts hok)
  have hl20 := WF.out.m2
  have HOK := hid hok
  clear hok
  have hd0 : (0 : Int) ≤ (d : Int) := by omega
  have hd1 : (d : Int) < 2 * (ls.length : Int) := by omega
  obtain ⟨a, b, ea, eb, la, lb', hab⟩ := WF.out.ends hd
  have EA := hid ea
  have EB := hid eb
  have HAS := hid (around_has (ns := ns) hd)
  rw [ea] at HAS
  have ALEN := hid (around_len ns ls (a : Int))
  have BES := hid (show besF ns ls d up = besL (aroundF ns ls (a : Int)) d up by unfold besF; rw [ea])
  clear ea eb hab
  go_enter Try.func105, Try.ntmps105
  go_wp2_with fail
  refine (sEnds _ _ ns ls d _ HN.out HL.out hd0 hd1 (by omega)).mono ?_
  rintro e w1 ⟨rfl, hb⟩
  rw [EA.out, EB.out]
  have B0 := hid (B0.out.below hb)
  have S0 := hid (then_ S0.out hb S0.out.size)
  have HN := hid (HN.out.below hb)
  have HL := hid (HL.out.below hb)
  clear v0 v1
  have v0 := B0.out.c0
  have v1 := B0.out.c1
  have vlt := B0.out.lt
  clear hb
  go_wp2_with fail
  refine (sAround_any _ _ ns ls a _ HN.out HL.out HOK.out la).mono ?_
  rintro e w2 ⟨v, rfl, ho, hb⟩
  have HI := hid (ho.ints (by have := ALEN.out; omega))
  have S9 := hid (then_ S0.out hb S0.out.size)
  clear ho hb v0 v1 vlt
  obtain ⟨A9, c9, hv, hm9, hcell⟩ := id HI.out
  subst hv
  have HC := hid hcell
  clear hcell
  have hL := ALEN.out
  generalize aroundF ns ls (a : Int) = l at HI HC HAS BES hL ⊢
  go_wp2_with fail
  go_loop [10] (fun i => ∃ k : Nat, k ≤ l.length ∧ i = .int .i64 k ∧ Hid (∀ j, j < k → l[j]? ≠ some (d : Int))) (fun i => l.length - (intOf i).toNat)
  case atStart => exact ⟨0, Nat.zero_le _, rfl, hid (fun j hj => by omega)⟩
  case round =>
    obtain ⟨k, hk, rfl, H⟩ := hrel
    have hi := List.idxOf_lt_length_of_mem HAS.out
    have hle := idx_take HAS.out k H.out
    have hlt : k < l.length := by omega
    have hk0 : (0 : Int) ≤ (k : Int) := by omega
    have hk1 : (k : Int) < (l.length : Int) := by omega
    obtain ⟨x, hx⟩ : ∃ x, l[k]? = some x := ⟨_, List.getElem?_eq_getElem hlt⟩
    obtain ⟨b1, off, rfl, hbb, h1⟩ := HC.out k x hx
    by_cases hq : x = (d : Int)
    · subst hq
      have E : l.idxOf (d : Int) = k := Nat.le_antisymm (idxOf_le hx) hle
      obtain ⟨j, ej, hj, hjt⟩ := turn_int l.length k up hlt (by omega)
      have htl := turn_lt l.length k up hlt
      have TG := hid (List.getElem?_eq_getElem (l := l) htl)
      obtain ⟨b2, off2, e2, hbb2, h2⟩ := HC.out _ _ TG.out
      obtain ⟨rfl, rfl⟩ : b1 = b2 ∧ off = off2 := by simpa using e2
      have BE := hid (show besF ns ls d up = l[turnI l.length k up] by rw [BES.out]; unfold besL; rw [E, List.getD_eq_getElem?_getD, TG.out]; rfl)
      have hby : -1 ≤ byI up ∧ byI up ≤ 1 := by cases up <;> simp [byI]
      have q1 : IntKind.i64.wrap ((k : Int) + byI up) = (k : Int) + byI up := IntWalk.i64_in _ (by omega)
      have q2 : IntKind.i64.wrap ((k : Int) + byI up + (l.length : Int)) = (j : Int) := by rw [IntWalk.i64_in _ (by omega), ej]
      have hne : (l.length : Int) ≠ 0 := by omega
      have hrem : (j : Int) % (l.length : Int) = ((turnI l.length k up : Nat) : Int) := by rw [← hjt]; exact (Int.natCast_emod j l.length).symm
      have hj0 : (0 : Int) ≤ (j : Int) := by omega
      generalize l[turnI l.length k up] = res at h2 BE
      have ht0 : (0 : Int) ≤ ((turnI l.length k up : Nat) : Int) := by omega
      have ht1 : ((turnI l.length k up : Nat) : Int) < (l.length : Int) := by omega
      generalize turnI l.length k up = tt at h2 hrem ht0 ht1
      clear ej hjt htl TG hby hi hm9 hx hle hlt E e2 hbb2 H HAS
      go_wp2
      go_ret
      exact ⟨ret_int (by rw [BE.out]), S9.out⟩
    · have hq2 : (x == (d : Int)) = false := by simpa using hq
      have H2 := hid (show ∀ j, j < k + 1 → l[j]? ≠ some (d : Int) from fun j hj => by
        by_cases e : j = k
        · rw [e, hx]; exact fun e => hq (Option.some.inj e)
        · exact H.out j (by omega))
      clear hx hq hle hi hm9
      go_wp2
      go_round
      case rel => exact ⟨k + 1, by omega, by go_num, H2⟩
      case measure => simp [intOf]; omega
def nextF (ns ls : List (Int × Int)) (d : Int) (up : Bool) : Int := if isDart ns ls d = true then besF ns ls d up else -1
theorem dart_nat {ns ls : List (Int × Int)} {d : Int} (h : isDart ns ls d = true) : winOkB ns ls = true ∧ ∃ n : Nat, d = (n : Int) ∧ n < 2 * ls.length := by
  have hb := dart_bd h
  refine ⟨?_, d.toNat, by omega, by omega⟩
  unfold isDart at h
  simp only [Bool.and_eq_true] at h
  exact h.1
def anF (ns ls : List (Int × Int)) (k : Int) : List Int := if isNode ns ls k = true then aroundF ns ls k else []
theorem node_nat {ns ls : List (Int × Int)} {k : Int} (h : isNode ns ls k = true) : winOkB ns ls = true ∧ ∃ n : Nat, k = (n : Int) ∧ n < ns.length := by
  simp only [isNode, inB, Bool.and_eq_true, decide_eq_true_iff] at h
  exact ⟨h.1, k.toNat, by omega, by omega⟩
end Go.Proofs.Ytdhppajfdcfikaa

/- The next dart along a face: NextDart in the program and in the reference. No condition. -/
namespace Go.Proofs.Ytdhppajfdcfikaa
open Go.ChangeShapes Go.WideShapes Go.ChangeAt Go.RowKit
set_option maxHeartbeats 2000000
set_option linter.unusedSimpArgs false
set_option linter.unusedVariables false
/-- the other dart of the same lead -/
def twN (d : Nat) : Nat := if d % 2 = 0 then d + 1 else d - 1
theorem twN_lt {d n : Nat} (h : d < 2 * n) : twN d < 2 * n := by unfold twN; split <;> omega
theorem xor_twN (d : Nat) (h : d ≤ 100) : bits .xor .i64 (d : Int) 1 = ((twN d : Nat) : Int) := by
  rw [xor_one _ (by omega) (by omega)]
  unfold twN
  by_cases e : d % 2 = 0
  · rw [if_pos (by omega), if_pos e]; rfl
  · rw [if_neg (by omega), if_neg e]; omega
/-- the dart after d along the face on its left -/
def nxF (ns ls : List (Int × Int)) (d : Nat) : Int := besF ns ls ((twN d : Nat) : Int) false
def ndF (ns ls : List (Int × Int)) (d : Int) : Int := if isDart ns ls d = true then nxF ns ls d.toNat else -1
theorem by_false : byI false = -1 := rfl
theorem l06Next_any (vn vl : Value) (ns ls : List (Int × Int)) (d : Nat) (w : World) (hn : PairsAt w vn ns) (hl : PairsAt w vl ls) (hok : winOkB ns ls = true) (hd : d < 2 * ls.length) : Calls Try.prog 84 #[.agg #[vn, vl], .int .i64 (d : Int)] w fun e w' => e = .returned (.int .i64 (nxF ns ls d)) ∧ Below w.heap.size w w' := by
  have s0 : Below w.heap.size w (w.alloc (.cells #[vn, vl] 31)) := (Below.refl _ _).alloc (Nat.le_refl _) _
  have HN := hid (hn.below s0)
  have HL := hid (hl.below s0)
  have B0 := hid (BoxV.new w vn vl 31 w.heap.size rfl)
  have S0 := hid s0
  clear s0
  obtain ⟨A, c, rfl, hcn, hm, _⟩ := id hn
  obtain ⟨A', c', rfl, hcl, hm', _⟩ := id hl
  unfold maxLen at hm hm'
  clear hn hl
  have v0 := B0.out.c0
  have v1 := B0.out.c1
  have hl20 := win_leads hok
  have HOK := hid hok
  have hx := xor_twN d (by omega)
  have hlt := twN_lt hd
  have C := hid (fun W h1 h2 => sStep_any (.slice A ns.length c) (.slice A' ls.length c') ns ls (twN d) false W h1 h2 HOK.out hlt)
  rw [by_false] at C
  have E := hid (show besF ns ls ((twN d : Nat) : Int) false = nxF ns ls d from rfl)
  generalize twN d = t at hx C E
  clear hok hlt
  go_enter Try.func84, Try.ntmps84
  go_wp2_with fail
  refine (C.out _ HN.out HL.out).mono ?_
  rintro e w1 ⟨rfl, hb⟩
  go_wp2
  go_ret
  exact ⟨ret_int (by rw [E.out]), then_ S0.out hb S0.out.size⟩
theorem iND_any (vn vl : Value) (ns ls : List (Int × Int)) (d : Int) (w : World) (hn : PairsAt w vn ns) (hl : PairsAt w vl ls) (hbig : ls.length ≤ 1048576) : Calls Try.prog 31 #[.agg #[vn, vl], .int .i64 d] w fun e w' => e = .returned (.int .i64 (ndF ns ls d)) ∧ Below w.heap.size w w' := by
  have s0 : Below w.heap.size w (w.alloc (.cells #[vn, vl] 31)) := (Below.refl _ _).alloc (Nat.le_refl _) _
  have HN := hid (hn.below s0)
  have HL := hid (hl.below s0)
  have B0 := hid (BoxV.new w vn vl 31 w.heap.size rfl)
  have S0 := hid s0
  clear s0
  obtain ⟨A, c, rfl, hcn, hm, _⟩ := id hn
  obtain ⟨A', c', rfl, hcl, hm', _⟩ := id hl
  unfold maxLen at hm hm'
  clear hn hl
  have v0 := B0.out.c0
  have v1 := B0.out.c1
  cases hd : isDart ns ls d
  · have HD := hid hd
    clear hd
    go_enter Try.func31, Try.ntmps31
    go_wp2_with fail
    refine (iHasDart_any _ _ ns ls _ _ HN.out HL.out).mono ?_
    rintro e w1 ⟨rfl, hb⟩
    rw [HD.out]
    go_wp2
    go_ret
    exact ⟨ret_int (by unfold ndF; rw [HD.out]; rfl), then_ S0.out hb S0.out.size⟩
  · have HD := hid hd
    obtain ⟨hok, n, rfl, hnl⟩ := dart_nat hd
    have HOK := hid hok
    have HNL := hid hnl
    have hl20 := win_leads hok
    have hx := xor_twN n (by omega)
    have hlt := twN_lt hnl
    have C := hid (fun W h1 h2 => iBeside_any (.slice A ns.length c) (.slice A' ls.length c') ns ls (twN n) false W h1 h2 HOK.out hlt)
    rw [by_false] at C
    have E := hid (show besF ns ls ((twN n : Nat) : Int) false = ndF ns ls (n : Int) by unfold ndF; rw [hd, if_pos rfl]; rfl)
    generalize twN n = t at hx C E
    clear hd hok hlt hnl
    go_enter Try.func31, Try.ntmps31
    go_wp2_with fail
    refine (iHasDart_any _ _ ns ls _ _ HN.out HL.out).mono ?_
    rintro e w1 ⟨rfl, hb⟩
    rw [HD.out]
    have B0 := hid (B0.out.below hb)
    have S0 := hid (then_ S0.out hb S0.out.size)
    have HN := hid (HN.out.below hb)
    have HL := hid (HL.out.below hb)
    clear v0 v1
    have v0 := B0.out.c0
    have v1 := B0.out.c1
    have vlt := B0.out.lt
    clear hb
    go_wp2_with fail
    refine (C.out _ HN.out HL.out).mono ?_
    rintro e w2 ⟨rfl, hb⟩
    go_wp2
    go_ret
    exact ⟨ret_int (by rw [E.out]), then_ S0.out hb S0.out.size⟩
end Go.Proofs.Ytdhppajfdcfikaa
