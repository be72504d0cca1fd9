/- The dart beside a dart around its node; what NextAround, LastAround and AroundNode return, in the program and in the reference. No condition. -/
import Derived.Test.YtmkgdilabpehlaaAroundI
import Derived.Test.YtmkgdilabpehlaaHeldM
import Derived.Test.YtmkgdilabpehlaaMark
namespace Go.Proofs.Ytmkgdilabpehlaa
open Go.ChangeShapes Go.WideShapes Go.ChangeAt Go.RowKit
set_option maxHeartbeats 2000000
set_option linter.unusedSimpArgs false
set_option linter.unusedVariables false
/-- the place one further (up) or one back in a row of n that closes -/
def turnI (n i : Nat) (up : Bool) : Nat := (if up then i + 1 else i + n - 1) % n
def besL (l : List Int) (d : Int) (up : Bool) : Int := l.getD (turnI l.length (l.idxOf d) up) 0
def besF (ns ls : List (Int × Int)) (d : Int) (up : Bool) : Int := besL (aroundF ns ls (dFrom ls d)) d up
def byI (up : Bool) : Int := if up then 1 else -1
theorem turn_int (n i : Nat) (up : Bool) (hi : i < n) (hn : n ≤ 1000) : ∃ j : Nat, (i : Int) + byI up + (n : Int) = (j : Int) ∧ j ≤ 2000 ∧ j % n = turnI n i up := by
  cases up
  · refine ⟨i + n - 1, by unfold byI; simp; omega, by omega, rfl⟩
  · refine ⟨i + n + 1, by unfold byI; simp; omega, by omega, ?_⟩
    unfold turnI
    rw [if_pos rfl, show i + n + 1 = i + 1 + n by omega, Nat.add_mod_right]
theorem turn_lt (n i : Nat) (up : Bool) (hi : i < n) : turnI n i up < n := Nat.mod_lt _ (by omega)
theorem idx_take {xs : List Int} {d : Int} (hd : d ∈ xs) (k : Nat) (h : ∀ j, j < k → xs[j]? ≠ some d) : k ≤ xs.idxOf d := by
  rcases Nat.lt_or_ge (xs.idxOf d) k with h' | h'
  · exact absurd (by rw [List.getElem?_eq_getElem (List.idxOf_lt_length_of_mem hd), List.getElem_idxOf]) (h _ h')
  · exact h'
theorem idxOf_le {x : Int} : ∀ {xs : List Int} {k : Nat}, xs[k]? = some x → xs.idxOf x ≤ k
  | [], k, h => by simp at h
  | a :: t, 0, h => by
    have : a = x := by simpa using h
    subst this
    simp [List.idxOf_cons]
  | a :: t, k + 1, h => by
    have h' : t[k]? = some x := by simpa using h
    have := idxOf_le h'
    rw [List.idxOf_cons]
    cases a == x <;> simp <;> omega
theorem indexInt_any (v : Value) (xs : List Int) (d : Int) (w : World) (hv : IntsAt w v xs) (hd : d ∈ xs) : Calls Try.prog 96 #[v, .int .i64 d] w fun e w' => e = .returned (.int .i64 ((xs.idxOf d : Nat) : Int)) ∧ w' = w := by
  obtain ⟨A, c, rfl, hm, hcell⟩ := hv
  have HC := hid hcell
  have HD := hid hd
  have hi := List.idxOf_lt_length_of_mem hd
  clear hcell hd
  have hlm : (xs.length : Int) ≤ 1000000000 := by omega
  go_enter Try.func96, Try.ntmps96
  go_wp2
  go_loop [8] (fun i => ∃ k : Nat, k ≤ xs.length ∧ i = .int .i64 k ∧ Hid (∀ j, j < k → xs[j]? ≠ some d)) (fun i => xs.length - (intOf i).toNat)
  case atStart => exact ⟨0, Nat.zero_le _, rfl, hid (fun j hj => by omega)⟩
  case round =>
    obtain ⟨k, hk, rfl, H⟩ := hrel
    have hle := idx_take HD.out k H.out
    have hlt : k < xs.length := by omega
    have hk0 : (0 : Int) ≤ (k : Int) := by omega
    have hk1 : (k : Int) < (xs.length : Int) := by omega
    obtain ⟨x, hx⟩ : ∃ x, xs[k]? = some x := ⟨_, List.getElem?_eq_getElem hlt⟩
    obtain ⟨b, off, rfl, hbb, h1⟩ := HC.out k x hx
    by_cases hq : x = d
    · subst hq
      have E := hid (show xs.idxOf x = k from Nat.le_antisymm (idxOf_le hx) hle)
      clear hx hle hi hm
      go_wp2
      go_ret
      exact ⟨ret_int (by rw [E.out]), rfl⟩
    · have hq2 : (d == x) = false := by simp; exact fun e => hq e.symm
      have H2 := hid (show ∀ j, j < k + 1 → xs[j]? ≠ some d from fun j hj => by
        by_cases e : j = k
        · rw [e, hx]; exact fun e => hq (Option.some.inj e)
        · exact H.out j (by omega))
      clear hx hq hle hi hm
      go_wp2
      go_round
      case rel => exact ⟨k + 1, by omega, by go_num, H2⟩
      case measure => simp [intOf]; omega
theorem OwnInts.ints {B : Nat} {w : World} {v : Value} {xs : List Int} (h : OwnInts B w v xs) (hn : xs.length ≤ 1000) : IntsAt w v xs := h.at_ (by omega)
/-- the list of the darts around the node of a dart holds the dart -/
theorem around_has {ns ls : List (Int × Int)} {d : Nat} (hd : d < 2 * ls.length) : (d : Int) ∈ aroundF ns ls (dFrom ls (d : Int)) := (mem_around ns ls _ _).2 ⟨d, hd, rfl, rfl⟩
theorem around_len (ns ls : List (Int × Int)) (k : Int) : (aroundF ns ls k).length ≤ 2 * ls.length := aroundN_len ns ls k _
theorem iBeside_any (vn vl : Value) (ns ls : List (Int × Int)) (d : Nat) (up : Bool) (w : World) (hn : PairsAt w vn ns) (hl : PairsAt w vl ls) (hok : winOkB ns ls = true) (hd : d < 2 * ls.length) : Calls Try.prog 69 #[.agg #[vn, vl], .int .i64 (d : Int), .int .i64 (byI up)] w fun e w' => e = .returned (.int .i64 (besF ns ls d up)) ∧ Below w.heap.size w w' := by
  have s0 : Below w.heap.size w (w.alloc (.cells #[vn, vl] 31)) := (Below.refl _ _).alloc (Nat.le_refl _) _
  have HN := hid (hn.below s0)
  have HL := hid (hl.below s0)
  have B0 := hid (BoxV.new w vn vl 31 w.heap.size rfl)
  have S0 := hid s0
  clear s0
  obtain ⟨A, c, rfl, hcn, hm, _⟩ := id hn
  obtain ⟨A', c', rfl, hcl, hm', _⟩ := id hl
  unfold maxLen at hm hm'
  clear hn hl
  have v0 := B0.out.c0
  have v1 := B0.out.c1
  have WF := hid (win_facts hok)
  have hl20 := WF.out.m2
  have HOK := hid hok
  clear hok
  have hd0 : (0 : Int) ≤ (d : Int) := by omega
  have hd1 : (d : Int) < 2 * (ls.length : Int) := by omega
  obtain ⟨a, b, ea, eb, la, lb', hab⟩ := WF.out.ends hd
  have EA := hid ea
  have HAS := hid (around_has (ns := ns) hd)
  rw [ea] at HAS
  have ALEN := hid (around_len ns ls (a : Int))
  have BES := hid (show besF ns ls d up = besL (aroundF ns ls (a : Int)) d up by unfold besF; rw [ea])
  have CELLS := hid (fun W (h : Below (w.alloc (.cells #[.slice A ns.length c, .slice A' ls.length c'] 31)).heap.size (w.alloc (.cells #[.slice A ns.length c, .slice A' ls.length c'] 31)) W) => And.intro (B0.out.below h).c0 (B0.out.below h).c1)
  have C1 := hid (fun W (h : Below (w.alloc (.cells #[.slice A ns.length c, .slice A' ls.length c'] 31)).heap.size (w.alloc (.cells #[.slice A ns.length c, .slice A' ls.length c'] 31)) W) => iDartFrom0 _ _ ns ls d W (HN.out.below h) (HL.out.below h) hd0 hd1 (by omega))
  have C2 := hid (fun W (h : Below (w.alloc (.cells #[.slice A ns.length c, .slice A' ls.length c'] 31)).heap.size (w.alloc (.cells #[.slice A ns.length c, .slice A' ls.length c'] 31)) W) => iAround_any _ _ ns ls a W (HN.out.below h) (HL.out.below h) HOK.out la)
  rw [EA.out] at C1
  clear ea eb hab
  go_enter Try.func69, Try.ntmps69
  go_wp2_with fail
  refine wm_start (S := fun W => Below (w.alloc (.cells #[.slice A ns.length c, .slice A' ls.length c'] 31)).heap.size (w.alloc (.cells #[.slice A ns.length c, .slice A' ls.length c'] 31)) W) (by kernel_rfl) (Below.refl _ _).drew ?_
  refine wm_take (i := 0) (v := ?_) rfl (by kernel_rfl) (by kernel_rfl) (by kernel_rfl) (fun _ _ _ h => h) (by kernel_rfl) ?_ ?_
  rotate_left
  (focus (intro w hSw; obtain ⟨z0, z1⟩ := CELLS.out _ hSw; go_simp; try with_reducible rfl))
  simp only [Act.put, List.setIfInBounds_toArray, List.set_cons_zero, List.set_cons_succ, List.getElem_toArray, List.getElem_cons_succ, List.getElem_cons_zero, Nat.reduceAdd]
  refine wm_take (i := 1) (v := ?_) rfl (by kernel_rfl) (by kernel_rfl) (by kernel_rfl) (fun _ _ _ h => h) (by kernel_rfl) ?_ ?_
  rotate_left
  (focus (intro w hSw; obtain ⟨z0, z1⟩ := CELLS.out _ hSw; go_simp; try with_reducible rfl))
  simp only [Act.put, List.setIfInBounds_toArray, List.set_cons_zero, List.set_cons_succ, List.getElem_toArray, List.getElem_cons_succ, List.getElem_cons_zero, Nat.reduceAdd]
  refine wm_take (i := 2) (v := ?_) rfl (by kernel_rfl) (by kernel_rfl) (by kernel_rfl) (fun _ _ _ h => h) (by kernel_rfl) ?_ ?_
  rotate_left
  (focus (intro w hSw; obtain ⟨z0, z1⟩ := CELLS.out _ hSw; go_simp; try with_reducible rfl))
  simp only [Act.put, List.setIfInBounds_toArray, List.set_cons_zero, List.set_cons_succ, List.getElem_toArray, List.getElem_cons_succ, List.getElem_cons_zero, Nat.reduceAdd]
  refine wm_call (i := 3) (v := .int .i64 (a : Int)) (f := ?_) (args := ?_) rfl (by kernel_rfl) (by kernel_rfl) (by kernel_rfl) (fun _ _ _ h => h) (by kernel_rfl) ?_ ?_ ?_
  rotate_left 2
  (focus (intro w; go_simp; refine ⟨?_, ?_⟩ <;> with_reducible rfl))
  (focus (intro w hSw; refine (C1.out w hSw).mono ?_; rintro e w3 ⟨rfl, hb3⟩; exact ⟨rfl, hb3, then_ hSw hb3 hSw.size⟩))
  simp only [Act.put, List.setIfInBounds_toArray, List.set_cons_zero, List.set_cons_succ, List.getElem_toArray, List.getElem_cons_succ, List.getElem_cons_zero, Nat.reduceAdd]
  refine wm_each (l := [4]) (by kernel_rfl) (by simp) ?_
  intro v1 hv1 hS1
  refine Each.cons rfl (fun K hK => ?_) Each.nil
  go_simp
  refine (C2.out v1 hS1).mono ?_
  rintro e w3 ⟨v, rfl, ho, hb3⟩
  have hS3 := then_ hS1 hb3 hS1.size
  (try dsimp only)
  refine hK.out _ _ ⟨hS3, ?_⟩
  clear hK K
  (try simp only [Act.put, List.setIfInBounds_toArray, List.set_cons_zero, List.set_cons_succ, List.getElem_toArray, List.getElem_cons_succ, List.getElem_cons_zero, Nat.reduceAdd])
  refine wm_take (i := 5) (v := ?_) rfl (by kernel_rfl) (by kernel_rfl) (by kernel_rfl) (fun _ _ _ h => h) (by kernel_rfl) ?_ ?_
  rotate_left
  (focus (intro w hSw; skip; go_simp; try with_reducible rfl))
  simp only [Act.put, List.setIfInBounds_toArray, List.set_cons_zero, List.set_cons_succ, List.getElem_toArray, List.getElem_cons_succ, List.getElem_cons_zero, Nat.reduceAdd]
  refine wm_done (by kernel_rfl) ?_
  intro w9 hv9 hS9
  have HI := hid ((own_below ho hv9).ints (by have := ALEN.out; omega))
  have S9 := hid (then_ S0.out hS9 S0.out.size)
  clear ho hv9 hS9 hS3 hS1 hv1 hb3 CELLS C1 C2
  obtain ⟨A9, c9, hv, hm9, hcell⟩ := id HI.out
  subst hv
  have HC := hid hcell
  clear hcell
  have hL := ALEN.out
  generalize aroundF ns ls (a : Int) = l at HI HC HAS BES hL ⊢
  have hi := List.idxOf_lt_length_of_mem HAS.out
  obtain ⟨j, ej, hj, hjt⟩ := turn_int l.length (l.idxOf (d : Int)) up hi (by omega)
  have htl := turn_lt l.length (l.idxOf (d : Int)) up hi
  have TG := hid (List.getElem?_eq_getElem (l := l) htl)
  obtain ⟨b1, off, rfl, hbb, h1⟩ := HC.out _ _ TG.out
  have BE := hid (show besF ns ls d up = l[turnI l.length (l.idxOf (d : Int)) up] by rw [BES.out]; unfold besL; rw [List.getD_eq_getElem?_getD, TG.out]; rfl)
  have hby : -1 ≤ byI up ∧ byI up ≤ 1 := by cases up <;> simp [byI]
  have q1 : IntKind.i64.wrap (((l.idxOf (d : Int) : Nat) : Int) + byI up) = ((l.idxOf (d : Int) : Nat) : Int) + byI up := IntWalk.i64_in _ (by omega)
  have q2 : IntKind.i64.wrap (((l.idxOf (d : Int) : Nat) : Int) + byI up + (l.length : Int)) = (j : Int) := by rw [IntWalk.i64_in _ (by omega), ej]
  have hne : (l.length : Int) ≠ 0 := by omega
  have hrem : (j : Int) % (l.length : Int) = ((turnI l.length (l.idxOf (d : Int)) up : Nat) : Int) := by rw [← hjt]; exact (Int.natCast_emod j l.length).symm
  have hj0 : (0 : Int) ≤ (j : Int) := by omega
  have IX := hid (fun W (h : IntsAt W (.slice (some ⟨b1, off, none⟩) l.length c9) l) => indexInt_any _ l (d : Int) W h HAS.out)
  generalize l[turnI l.length (l.idxOf (d : Int)) up] = res at h1 BE
  have ht0 : (0 : Int) ≤ ((turnI l.length (l.idxOf (d : Int)) up : Nat) : Int) := by omega
  have ht1 : ((turnI l.length (l.idxOf (d : Int)) up : Nat) : Int) < (l.length : Int) := by omega
  generalize turnI l.length (l.idxOf (d : Int)) up = tt at h1 hrem ht0 ht1
  clear ej hjt htl TG hby hi hm9
  go_wp2_with fail
  refine (IX.out _ HI.out).mono ?_
  rintro e w3 ⟨rfl, rfl⟩
  go_wp2
  go_ret
  exact ⟨ret_int (by rw [BE.out]), S9.out⟩
theorem sStep_any (vn vl : Value) (ns ls : List (Int × Int)) (d : Nat) (up : Bool) (w : World) (hn : PairsAt w vn ns) (hl : PairsAt w vl ls) (hok : winOkB ns ls = true) (hd : d < 2 * ls.length) : Calls Try.prog 67 #[.agg #[vn, vl], .int .i64 (d : Int), .int .i64 (byI up)] w fun e w' => e = .returned (.int .i64 (besF ns ls d up)) ∧ Below w.heap.size w w' := by
  have s0 : Below w.heap.size w (w.alloc (.cells #[vn, vl] 31)) := (Below.refl _ _).alloc (Nat.le_refl _) _
  have HN := hid (hn.below s0)
  have HL := hid (hl.below s0)
  have B0 := hid (BoxV.new w vn vl 31 w.heap.size rfl)
  have S0 := hid s0
  clear s0
  obtain ⟨A, c, rfl, hcn, hm, _⟩ := id hn
  obtain ⟨A', c', rfl, hcl, hm', _⟩ := id hl
  unfold maxLen at hm hm'
  clear hn hl
  have v0 := B0.out.c0
  have v1 := B0.out.c1
  have WF := hid (win_facts hok)
  have hl20 := WF.out.m2
  have HOK := hid hok
  clear hok
  have hd0 : (0 : Int) ≤ (d : Int) := by omega
  have hd1 : (d : Int) < 2 * (ls.length : Int) := by omega
  obtain ⟨a, b, ea, eb, la, lb', hab⟩ := WF.out.ends hd
  have EA := hid ea
  have EB := hid eb
  have HAS := hid (around_has (ns := ns) hd)
  rw [ea] at HAS
  have ALEN := hid (around_len ns ls (a : Int))
  have BES := hid (show besF ns ls d up = besL (aroundF ns ls (a : Int)) d up by unfold besF; rw [ea])
  clear ea eb hab
  go_enter Try.func67, Try.ntmps67
  go_wp2_with fail
  refine (sEnds _ _ ns ls d _ HN.out HL.out hd0 hd1 (by omega)).mono ?_
  rintro e w1 ⟨rfl, hb⟩
  rw [EA.out, EB.out]
  have B0 := hid (B0.out.below hb)
  have S0 := hid (then_ S0.out hb S0.out.size)
  have HN := hid (HN.out.below hb)
  have HL := hid (HL.out.below hb)
  clear v0 v1
  have v0 := B0.out.c0
  have v1 := B0.out.c1
  have vlt := B0.out.lt
  clear hb
  go_wp2_with fail
  refine (sAround_any _ _ ns ls a _ HN.out HL.out HOK.out la).mono ?_
  rintro e w2 ⟨v, rfl, ho, hb⟩
  have HI := hid (ho.ints (by have := ALEN.out; omega))
  have S9 := hid (then_ S0.out hb S0.out.size)
  clear ho hb v0 v1 vlt
  obtain ⟨A9, c9, hv, hm9, hcell⟩ := id HI.out
  subst hv
  have HC := hid hcell
  clear hcell
  have hL := ALEN.out
  generalize aroundF ns ls (a : Int) = l at HI HC HAS BES hL ⊢
  go_wp2_with fail
  go_loop [10] (fun i => ∃ k : Nat, k ≤ l.length ∧ i = .int .i64 k ∧ Hid (∀ j, j < k → l[j]? ≠ some (d : Int))) (fun i => l.length - (intOf i).toNat)
  case atStart => exact ⟨0, Nat.zero_le _, rfl, hid (fun j hj => by omega)⟩
  case round =>
    obtain ⟨k, hk, rfl, H⟩ := hrel
    have hi := List.idxOf_lt_length_of_mem HAS.out
    have hle := idx_take HAS.out k H.out
    have hlt : k < l.length := by omega
    have hk0 : (0 : Int) ≤ (k : Int) := by omega
    have hk1 : (k : Int) < (l.length : Int) := by omega
    obtain ⟨x, hx⟩ : ∃ x, l[k]? = some x := ⟨_, List.getElem?_eq_getElem hlt⟩
    obtain ⟨b1, off, rfl, hbb, h1⟩ := HC.out k x hx
    by_cases hq : x = (d : Int)
    · subst hq
      have E : l.idxOf (d : Int) = k := Nat.le_antisymm (idxOf_le hx) hle
      obtain ⟨j, ej, hj, hjt⟩ := turn_int l.length k up hlt (by omega)
      have htl := turn_lt l.length k up hlt
      have TG := hid (List.getElem?_eq_getElem (l := l) htl)
      obtain ⟨b2, off2, e2, hbb2, h2⟩ := HC.out _ _ TG.out
      obtain ⟨rfl, rfl⟩ : b1 = b2 ∧ off = off2 := by simpa using e2
      have BE := hid (show besF ns ls d up = l[turnI l.length k up] by rw [BES.out]; unfold besL; rw [E, List.getD_eq_getElem?_getD, TG.out]; rfl)
      have hby : -1 ≤ byI up ∧ byI up ≤ 1 := by cases up <;> simp [byI]
      have q1 : IntKind.i64.wrap ((k : Int) + byI up) = (k : Int) + byI up := IntWalk.i64_in _ (by omega)
      have q2 : IntKind.i64.wrap ((k : Int) + byI up + (l.length : Int)) = (j : Int) := by rw [IntWalk.i64_in _ (by omega), ej]
      have hne : (l.length : Int) ≠ 0 := by omega
      have hrem : (j : Int) % (l.length : Int) = ((turnI l.length k up : Nat) : Int) := by rw [← hjt]; exact (Int.natCast_emod j l.length).symm
      have hj0 : (0 : Int) ≤ (j : Int) := by omega
      generalize l[turnI l.length k up] = res at h2 BE
      have ht0 : (0 : Int) ≤ ((turnI l.length k up : Nat) : Int) := by omega
      have ht1 : ((turnI l.length k up : Nat) : Int) < (l.length : Int) := by omega
      generalize turnI l.length k up = tt at h2 hrem ht0 ht1
      clear ej hjt htl TG hby hi hm9 hx hle hlt E e2 hbb2 H HAS
      go_wp2
      go_ret
      exact ⟨ret_int (by rw [BE.out]), S9.out⟩
    · have hq2 : (x == (d : Int)) = false := by simpa using hq
      have H2 := hid (show ∀ j, j < k + 1 → l[j]? ≠ some (d : Int) from fun j hj => by
        by_cases e : j = k
        · rw [e, hx]; exact fun e => hq (Option.some.inj e)
        · exact H.out j (by omega))
      clear hx hq hle hi hm9
      go_wp2
      go_round
      case rel => exact ⟨k + 1, by omega, by go_num, H2⟩
      case measure => simp [intOf]; omega
def nextF (ns ls : List (Int × Int)) (d : Int) (up : Bool) : Int := if isDart ns ls d = true then besF ns ls d up else -1
theorem dart_nat {ns ls : List (Int × Int)} {d : Int} (h : isDart ns ls d = true) : winOkB ns ls = true ∧ ∃ n : Nat, d = (n : Int) ∧ n < 2 * ls.length := by
  have hb := dart_bd h
  refine ⟨?_, d.toNat, by omega, by omega⟩
  unfold isDart at h
  simp only [Bool.and_eq_true] at h
  exact h.1
theorem iNext_any (vn vl : Value) (ns ls : List (Int × Int)) (d : Int) (w : World) (hn : PairsAt w vn ns) (hl : PairsAt w vl ls) (hbig : ls.length ≤ 1048576) : Calls Try.prog 31 #[.agg #[vn, vl], .int .i64 d] w fun e w' => e = .returned (.int .i64 (nextF ns ls d true)) ∧ Below w.heap.size w w' := by
  have s0 : Below w.heap.size w (w.alloc (.cells #[vn, vl] 31)) := (Below.refl _ _).alloc (Nat.le_refl _) _
  have HN := hid (hn.below s0)
  have HL := hid (hl.below s0)
  have B0 := hid (BoxV.new w vn vl 31 w.heap.size rfl)
  have S0 := hid s0
  clear s0
  obtain ⟨A, c, rfl, hcn, hm, _⟩ := id hn
  obtain ⟨A', c', rfl, hcl, hm', _⟩ := id hl
  unfold maxLen at hm hm'
  clear hn hl
  have v0 := B0.out.c0
  have v1 := B0.out.c1
  cases hd : isDart ns ls d
  · have HD := hid hd
    clear hd
    go_enter Try.func31, Try.ntmps31
    go_wp2_with fail
    refine (iHasDart_any _ _ ns ls _ _ HN.out HL.out).mono ?_
    rintro e w1 ⟨rfl, hb⟩
    rw [HD.out]
    go_wp2
    go_ret
    exact ⟨ret_int (by unfold nextF; rw [HD.out]; rfl), then_ S0.out hb S0.out.size⟩
  · have HD := hid hd
    obtain ⟨hok, n, rfl, hnl⟩ := dart_nat hd
    have HOK := hid hok
    clear hd hok
    go_enter Try.func31, Try.ntmps31
    go_wp2_with fail
    refine (iHasDart_any _ _ ns ls _ _ HN.out HL.out).mono ?_
    rintro e w1 ⟨rfl, hb⟩
    rw [HD.out]
    have B0 := hid (B0.out.below hb)
    have S0 := hid (then_ S0.out hb S0.out.size)
    have HN := hid (HN.out.below hb)
    have HL := hid (HL.out.below hb)
    clear v0 v1
    have v0 := B0.out.c0
    have v1 := B0.out.c1
    have vlt := B0.out.lt
    clear hb
    go_wp2_with fail
    refine (iBeside_any _ _ ns ls n true _ HN.out HL.out HOK.out hnl).mono ?_
    rintro e w2 ⟨rfl, hb⟩
    go_wp2
    go_ret
    exact ⟨ret_int (by unfold nextF; rw [HD.out]; rfl), then_ S0.out hb S0.out.size⟩
theorem iLast_any (vn vl : Value) (ns ls : List (Int × Int)) (d : Int) (w : World) (hn : PairsAt w vn ns) (hl : PairsAt w vl ls) (hbig : ls.length ≤ 1048576) : Calls Try.prog 29 #[.agg #[vn, vl], .int .i64 d] w fun e w' => e = .returned (.int .i64 (nextF ns ls d false)) ∧ Below w.heap.size w w' := by
  have s0 : Below w.heap.size w (w.alloc (.cells #[vn, vl] 31)) := (Below.refl _ _).alloc (Nat.le_refl _) _
  have HN := hid (hn.below s0)
  have HL := hid (hl.below s0)
  have B0 := hid (BoxV.new w vn vl 31 w.heap.size rfl)
  have S0 := hid s0
  clear s0
  obtain ⟨A, c, rfl, hcn, hm, _⟩ := id hn
  obtain ⟨A', c', rfl, hcl, hm', _⟩ := id hl
  unfold maxLen at hm hm'
  clear hn hl
  have v0 := B0.out.c0
  have v1 := B0.out.c1
  cases hd : isDart ns ls d
  · have HD := hid hd
    clear hd
    go_enter Try.func29, Try.ntmps29
    go_wp2_with fail
    refine (iHasDart_any _ _ ns ls _ _ HN.out HL.out).mono ?_
    rintro e w1 ⟨rfl, hb⟩
    rw [HD.out]
    go_wp2
    go_ret
    exact ⟨ret_int (by unfold nextF; rw [HD.out]; rfl), then_ S0.out hb S0.out.size⟩
  · have HD := hid hd
    obtain ⟨hok, n, rfl, hnl⟩ := dart_nat hd
    have HOK := hid hok
    clear hd hok
    go_enter Try.func29, Try.ntmps29
    go_wp2_with fail
    refine (iHasDart_any _ _ ns ls _ _ HN.out HL.out).mono ?_
    rintro e w1 ⟨rfl, hb⟩
    rw [HD.out]
    have B0 := hid (B0.out.below hb)
    have S0 := hid (then_ S0.out hb S0.out.size)
    have HN := hid (HN.out.below hb)
    have HL := hid (HL.out.below hb)
    clear v0 v1
    have v0 := B0.out.c0
    have v1 := B0.out.c1
    have vlt := B0.out.lt
    clear hb
    go_wp2_with fail
    refine (iBeside_any _ _ ns ls n false _ HN.out HL.out HOK.out hnl).mono ?_
    rintro e w2 ⟨rfl, hb⟩
    go_wp2
    go_ret
    exact ⟨ret_int (by unfold nextF; rw [HD.out]; rfl), then_ S0.out hb S0.out.size⟩
theorem sNext_any (vn vl : Value) (ns ls : List (Int × Int)) (d : Int) (w : World) (hn : PairsAt w vn ns) (hl : PairsAt w vl ls) (hbig : ls.length ≤ 1048576) : Calls Try.prog 30 #[.agg #[vn, vl], .int .i64 d] w fun e w' => e = .returned (.int .i64 (nextF ns ls d true)) ∧ Below w.heap.size w w' := by
  have s0 : Below w.heap.size w (w.alloc (.cells #[vn, vl] 31)) := (Below.refl _ _).alloc (Nat.le_refl _) _
  have HN := hid (hn.below s0)
  have HL := hid (hl.below s0)
  have B0 := hid (BoxV.new w vn vl 31 w.heap.size rfl)
  have S0 := hid s0
  clear s0
  obtain ⟨A, c, rfl, hcn, hm, _⟩ := id hn
  obtain ⟨A', c', rfl, hcl, hm', _⟩ := id hl
  unfold maxLen at hm hm'
  clear hn hl
  have v0 := B0.out.c0
  have v1 := B0.out.c1
  cases hd : isDart ns ls d
  · have HD := hid hd
    clear hd
    go_enter Try.func30, Try.ntmps30
    go_wp2_with fail
    refine (sHasDart_any _ _ ns ls _ _ HN.out HL.out hbig).mono ?_
    rintro e w1 ⟨rfl, hb⟩
    rw [HD.out]
    go_wp2
    go_ret
    exact ⟨ret_int (by unfold nextF; rw [HD.out]; rfl), then_ S0.out hb S0.out.size⟩
  · have HD := hid hd
    obtain ⟨hok, n, rfl, hnl⟩ := dart_nat hd
    have HOK := hid hok
    clear hd hok
    go_enter Try.func30, Try.ntmps30
    go_wp2_with fail
    refine (sHasDart_any _ _ ns ls _ _ HN.out HL.out hbig).mono ?_
    rintro e w1 ⟨rfl, hb⟩
    rw [HD.out]
    have B0 := hid (B0.out.below hb)
    have S0 := hid (then_ S0.out hb S0.out.size)
    have HN := hid (HN.out.below hb)
    have HL := hid (HL.out.below hb)
    clear v0 v1
    have v0 := B0.out.c0
    have v1 := B0.out.c1
    have vlt := B0.out.lt
    clear hb
    go_wp2_with fail
    refine (sStep_any _ _ ns ls n true _ HN.out HL.out HOK.out hnl).mono ?_
    rintro e w2 ⟨rfl, hb⟩
    go_wp2
    go_ret
    exact ⟨ret_int (by unfold nextF; rw [HD.out]; rfl), then_ S0.out hb S0.out.size⟩
theorem sLast_any (vn vl : Value) (ns ls : List (Int × Int)) (d : Int) (w : World) (hn : PairsAt w vn ns) (hl : PairsAt w vl ls) (hbig : ls.length ≤ 1048576) : Calls Try.prog 28 #[.agg #[vn, vl], .int .i64 d] w fun e w' => e = .returned (.int .i64 (nextF ns ls d false)) ∧ Below w.heap.size w w' := by
  have s0 : Below w.heap.size w (w.alloc (.cells #[vn, vl] 31)) := (Below.refl _ _).alloc (Nat.le_refl _) _
  have HN := hid (hn.below s0)
  have HL := hid (hl.below s0)
  have B0 := hid (BoxV.new w vn vl 31 w.heap.size rfl)
  have S0 := hid s0
  clear s0
  obtain ⟨A, c, rfl, hcn, hm, _⟩ := id hn
  obtain ⟨A', c', rfl, hcl, hm', _⟩ := id hl
  unfold maxLen at hm hm'
  clear hn hl
  have v0 := B0.out.c0
  have v1 := B0.out.c1
  cases hd : isDart ns ls d
  · have HD := hid hd
    clear hd
    go_enter Try.func28, Try.ntmps28
    go_wp2_with fail
    refine (sHasDart_any _ _ ns ls _ _ HN.out HL.out hbig).mono ?_
    rintro e w1 ⟨rfl, hb⟩
    rw [HD.out]
    go_wp2
    go_ret
    exact ⟨ret_int (by unfold nextF; rw [HD.out]; rfl), then_ S0.out hb S0.out.size⟩
  · have HD := hid hd
    obtain ⟨hok, n, rfl, hnl⟩ := dart_nat hd
    have HOK := hid hok
    clear hd hok
    go_enter Try.func28, Try.ntmps28
    go_wp2_with fail
    refine (sHasDart_any _ _ ns ls _ _ HN.out HL.out hbig).mono ?_
    rintro e w1 ⟨rfl, hb⟩
    rw [HD.out]
    have B0 := hid (B0.out.below hb)
    have S0 := hid (then_ S0.out hb S0.out.size)
    have HN := hid (HN.out.below hb)
    have HL := hid (HL.out.below hb)
    clear v0 v1
    have v0 := B0.out.c0
    have v1 := B0.out.c1
    have vlt := B0.out.lt
    clear hb
    go_wp2_with fail
    refine (sStep_any _ _ ns ls n false _ HN.out HL.out HOK.out hnl).mono ?_
    rintro e w2 ⟨rfl, hb⟩
    go_wp2
    go_ret
    exact ⟨ret_int (by unfold nextF; rw [HD.out]; rfl), then_ S0.out hb S0.out.size⟩
def anF (ns ls : List (Int × Int)) (k : Int) : List Int := if isNode ns ls k = true then aroundF ns ls k else []
theorem node_nat {ns ls : List (Int × Int)} {k : Int} (h : isNode ns ls k = true) : winOkB ns ls = true ∧ ∃ n : Nat, k = (n : Int) ∧ n < ns.length := by
  simp only [isNode, inB, Bool.and_eq_true, decide_eq_true_iff] at h
  exact ⟨h.1, k.toNat, by omega, by omega⟩
theorem iAN_any (vn vl : Value) (ns ls : List (Int × Int)) (d : Int) (w : World) (hn : PairsAt w vn ns) (hl : PairsAt w vl ls) : Calls Try.prog 35 #[.agg #[vn, vl], .int .i64 d] w (NewInts (anF ns ls d) w) := by
  have s0 : Below w.heap.size w (w.alloc (.cells #[vn, vl] 31)) := (Below.refl _ _).alloc (Nat.le_refl _) _
  have HN := hid (hn.below s0)
  have HL := hid (hl.below s0)
  have B0 := hid (BoxV.new w vn vl 31 w.heap.size rfl)
  have S0 := hid s0
  clear s0
  obtain ⟨A, c, rfl, hcn, hm, _⟩ := id hn
  obtain ⟨A', c', rfl, hcl, hm', _⟩ := id hl
  unfold maxLen at hm hm'
  clear hn hl
  have v0 := B0.out.c0
  have v1 := B0.out.c1
  cases hd : isNode ns ls d
  · have HD := hid hd
    clear hd
    go_enter Try.func35, Try.ntmps35
    go_wp2_with fail
    refine (iHasNode_any _ _ ns ls _ _ HN.out HL.out).mono ?_
    rintro e w1 ⟨rfl, hb⟩
    rw [HD.out]
    go_wp2
    go_ret
    exact ⟨_, rfl, by unfold anF; rw [HD.out]; exact World.ownsRow_nil _ _ _ _, then_ S0.out hb S0.out.size⟩
  · have HD := hid hd
    obtain ⟨hok, n, rfl, hnl⟩ := node_nat hd
    have HOK := hid hok
    clear hd hok
    go_enter Try.func35, Try.ntmps35
    go_wp2_with fail
    refine (iHasNode_any _ _ ns ls _ _ HN.out HL.out).mono ?_
    rintro e w1 ⟨rfl, hb⟩
    rw [HD.out]
    have B0 := hid (B0.out.below hb)
    have S0 := hid (then_ S0.out hb S0.out.size)
    have HN := hid (HN.out.below hb)
    have HL := hid (HL.out.below hb)
    clear v0 v1
    have v0 := B0.out.c0
    have v1 := B0.out.c1
    have vlt := B0.out.lt
    clear hb
    go_wp2_with fail
    refine (iAround_any _ _ ns ls n _ HN.out HL.out HOK.out hnl).mono ?_
    rintro e w2 ⟨v, rfl, ho, hb⟩
    have HO := hid ho
    have HB := hid hb
    obtain ⟨A9, c9, rfl⟩ := own_form ho
    clear ho hb
    go_wp2
    go_ret
    exact ⟨_, rfl, by unfold anF; rw [HD.out, if_pos rfl]; exact own_less HO.out S0.out.size, then_ S0.out HB.out S0.out.size⟩
theorem sAN_any (vn vl : Value) (ns ls : List (Int × Int)) (d : Int) (w : World) (hn : PairsAt w vn ns) (hl : PairsAt w vl ls) : Calls Try.prog 34 #[.agg #[vn, vl], .int .i64 d] w (NewInts (anF ns ls d) w) := by
  have s0 : Below w.heap.size w (w.alloc (.cells #[vn, vl] 31)) := (Below.refl _ _).alloc (Nat.le_refl _) _
  have HN := hid (hn.below s0)
  have HL := hid (hl.below s0)
  have B0 := hid (BoxV.new w vn vl 31 w.heap.size rfl)
  have S0 := hid s0
  clear s0
  obtain ⟨A, c, rfl, hcn, hm, _⟩ := id hn
  obtain ⟨A', c', rfl, hcl, hm', _⟩ := id hl
  unfold maxLen at hm hm'
  clear hn hl
  have v0 := B0.out.c0
  have v1 := B0.out.c1
  cases hw : winOkB ns ls
  · have HW := hid hw
    have HD := hid (show isNode ns ls d = false by unfold isNode; rw [hw]; rfl)
    clear hw
    go_enter Try.func34, Try.ntmps34
    go_wp2_with fail
    refine (sWin_any _ _ ns ls _ HN.out HL.out).mono ?_
    rintro e w1 ⟨rfl, hb⟩
    rw [HW.out]
    have ho : OwnInts w1.heap.size (w1.alloc (.cells #[] 3)) (.slice (some ⟨w1.heap.size, 0, none⟩) 0 0) [] := by
      have := World.ownsRow_lit w1 (base := w1.heap.size) (e := 3) (size := 1) #[] 0 (by simp) (by unfold maxLen; omega) (by simp)
      simpa [OwnInts, ints] using this
    have HO := hid ho
    have HB := hid (then_ S0.out hb S0.out.size)
    clear ho hb
    go_wp2
    go_ret
    exact ⟨_, rfl, by unfold anF; rw [HD.out]; exact own_less HO.out HB.out.size, HB.out.alloc HB.out.size _⟩
  · have HW := hid hw
    have hl20 := win_leads hw
    cases hin : inB d 0 ((ns.length : Int) - 1)
    · have HD := hid (show isNode ns ls d = false by unfold isNode; rw [hw, hin]; rfl)
      have HIN := hid hin
      clear hw hin
      go_enter Try.func34, Try.ntmps34
      go_wp2_with fail
      refine (sWin_any _ _ ns ls _ HN.out HL.out).mono ?_
      rintro e w1 ⟨rfl, hb⟩
      rw [HW.out]
      have B0 := hid (B0.out.below hb)
      have S0 := hid (then_ S0.out hb S0.out.size)
      have HN := hid (HN.out.below hb)
      have HL := hid (HL.out.below hb)
      clear v0 v1
      have v0 := B0.out.c0
      have v1 := B0.out.c1
      have vlt := B0.out.lt
      clear hb
      go_wp2_with (go_at_call 59; refine (l01In_any _ _ _ _).mono ?_; rintro e w2 ⟨rfl, rfl⟩; rw [HIN.out])
      go_ret
      have ho : OwnInts w1.heap.size (w1.alloc (.cells #[] 3)) (.slice (some ⟨w1.heap.size, 0, none⟩) 0 0) [] := by
        have := World.ownsRow_lit w1 (base := w1.heap.size) (e := 3) (size := 1) #[] 0 (by simp) (by unfold maxLen; omega) (by simp)
        simpa [OwnInts, ints] using this
      exact ⟨_, rfl, by unfold anF; rw [HD.out]; exact own_less ho S0.out.size, S0.out.alloc S0.out.size _⟩
    · have hd := (show isNode ns ls d = true by unfold isNode; rw [hw, hin]; rfl)
      have HD := hid hd
      have HIN := hid hin
      obtain ⟨_, n, rfl, hnl⟩ := node_nat hd
      clear hw hin hd
      go_enter Try.func34, Try.ntmps34
      go_wp2_with fail
      refine (sWin_any _ _ ns ls _ HN.out HL.out).mono ?_
      rintro e w1 ⟨rfl, hb⟩
      rw [HW.out]
      have B0 := hid (B0.out.below hb)
      have S0 := hid (then_ S0.out hb S0.out.size)
      have HN := hid (HN.out.below hb)
      have HL := hid (HL.out.below hb)
      clear v0 v1
      have v0 := B0.out.c0
      have v1 := B0.out.c1
      have vlt := B0.out.lt
      clear hb
      go_wp2_with (first | (go_at_call 59; refine (l01In_any _ _ _ _).mono ?_; rintro e w2 ⟨rfl, rfl⟩; rw [HIN.out]) | fail)
      refine (sAround_any _ _ ns ls n _ HN.out HL.out HW.out hnl).mono ?_
      rintro e w2 ⟨v, rfl, ho, hb⟩
      have HO := hid ho
      have HB := hid hb
      obtain ⟨A9, c9, rfl⟩ := own_form ho
      clear ho hb
      go_wp2
      go_ret
      exact ⟨_, rfl, by unfold anF; rw [HD.out, if_pos rfl]; exact own_less HO.out S0.out.size, then_ S0.out HB.out S0.out.size⟩
end Go.Proofs.Ytmkgdilabpehlaa
