/- What slices.Index and slices.Contains return at slices of nodes and leads. No condition. -/
import Derived.Test.YtdhppajfdcfikaaNodec
namespace Go.Proofs.Ytdhppajfdcfikaa
open Go.ChangeShapes Go.WideShapes Go.ChangeAt Go.RowKit
set_option maxHeartbeats 1000000
set_option linter.unusedSimpArgs false
set_option linter.unusedVariables false

def idxAt : List (Int × Int) → Int → Int → Int → Int
  | [], _, _, _ => -1
  | p :: t, x, y, s => if eqP x y p.1 p.2 then s else idxAt t x y (s + 1)
def idxP (ns : List (Int × Int)) (x y : Int) : Int := idxAt ns x y 0
def hasP (ns : List (Int × Int)) (x y : Int) : Bool := ns.any fun p => eqP x y p.1 p.2
theorem idxAt_has : ∀ (ns : List (Int × Int)) (x y s : Int), 0 ≤ s → (decide (0 ≤ idxAt ns x y s)) = hasP ns x y
  | [], _, _, _, _ => by simp [idxAt, hasP]
  | p :: t, x, y, s, hs => by
    unfold idxAt
    cases e : eqP x y p.1 p.2
    · simp [hasP, e]
      have := idxAt_has t x y (s + 1) (by omega)
      simpa [hasP] using this
    · simp [hasP, e, hs]
theorem drop_cons {ns : List (Int × Int)} {k : Nat} {p : Int × Int} (h : ns[k]? = some p) : ns.drop k = p :: ns.drop (k + 1) := by
  have hk : k < ns.length := by
    rcases Nat.lt_or_ge k ns.length with h' | h'
    · exact h'
    · rw [List.getElem?_eq_none h'] at h; cases h
  rw [List.drop_eq_getElem_cons hk]
  rw [List.getElem?_eq_getElem hk] at h
  injection h with h
  rw [h]
theorem indexNode_any (v : Value) (ns : List (Int × Int)) (x y : Int) (w : World) (hv : PairsAt w v ns) : Calls Try.prog 112 #[v, .agg #[.int .i64 x, .int .i64 y]] w fun e w' => e = .returned (.int .i64 (idxP ns x y)) ∧ Below w.heap.size w w' := by
  have heq := eql_node
  obtain ⟨A, c, rfl, hc, hm, hcell⟩ := hv
  unfold maxLen at hm
  have HC := hid hcell
  clear hcell
  have b0 : Box2 (w.alloc (.cells #[.int .i64 x, .int .i64 y] 71)) w.heap.size x y := Box2.new _ _ _ _ _ rfl
  have B0 := hid b0
  clear b0
  have s0 : Below w.heap.size w (w.alloc (.cells #[.int .i64 x, .int .i64 y] 71)) := (Below.refl _ _).alloc (Nat.le_refl _) _
  have S0 := hid s0
  clear s0
  go_enter Try.func112, Try.ntmps112
  go_wp2
  go_loopw [8] (fun i wr => ∃ k : Nat, k ≤ ns.length ∧ i = .int .i64 k ∧ Hid (idxP ns x y = idxAt (ns.drop k) x y k) ∧ Below (w.alloc (.cells #[.int .i64 x, .int .i64 y] 71)).heap.size (w.alloc (.cells #[.int .i64 x, .int .i64 y] 71)) wr) (fun i _ => ns.length - (intOf i).toNat)
  case atStart => exact ⟨0, Nat.zero_le _, rfl, hid rfl, Below.refl _ _⟩
  case round =>
    obtain ⟨k, hk, rfl, hix, hb⟩ := hrel
    have S1 := hid (then_ S0.out hb S0.out.size)
    by_cases hlt : k < ns.length
    · obtain ⟨⟨a, b⟩, hxy⟩ : ∃ p, ns[k]? = some p := ⟨_, List.getElem?_eq_getElem hlt⟩
      obtain ⟨g, off, rfl, hbb, h1, h2⟩ := HC.out k a b hxy
      have hbs := S1.out.size
      have b1 := B0.out.below hb
      have m0 := fun p => (b1.mv p).c0
      have m1 := fun p => (b1.mv p).c1
      have h1' : ∀ p, (mv wr p).cell? ⟨g, off + k * 2, none⟩ = some (.int .i64 a) := fun p => cell_mv (by omega) (by rw [S1.out.cell (p := ⟨g, _, none⟩) hbb]; exact h1) p
      have h2' : ∀ p, (mv wr p).cell? ⟨g, off + k * 2 + 1, none⟩ = some (.int .i64 b) := fun p => cell_mv (by omega) (by rw [S1.out.cell (p := ⟨g, _, none⟩) hbb]; exact h2) p
      have hk0 : (0 : Int) ≤ (k : Int) := by omega
      have hk1 : (k : Int) < (ns.length : Int) := by omega
      have HX := hid hxy
      have HB := hid hb
      clear h1 h2 hxy hb b1
      cases e : eqP x y a b
      all_goals
        go_wp2_with fail
        refine wp_region_mv (by kernel_rfl) (by kernel_rfl) ?_
        repeat (go_big_quiet_step (fail))
        refine wpQuiet_nil ?_
        intro _ hw'
        obtain ⟨q, hw''⟩ := hw'
        subst hw''
        go_wp2
      · go_roundw
        case rel => exact ⟨k + 1, by omega, by go_num, hid (by rw [hix.out, drop_cons HX.out]; simp only [idxAt, e]; rfl), then_ HB.out (below_mv _ q) HB.out.size⟩
        case measure => simp [intOf]; omega
      · go_ret
        exact ⟨ret_int (by rw [hix.out, drop_cons HX.out]; simp [idxAt, e]), then_ S1.out (below_mv _ q) hbs⟩
    · go_wp2
      go_ret
      exact ⟨ret_int (by rw [hix.out, List.drop_of_length_le (by omega)]; rfl), S1.out⟩
theorem eql_lead (a b c d : Int) (w : World) : (binOp .eql 73 (.agg #[.int .i64 a, .int .i64 b]) (.agg #[.int .i64 c, .int .i64 d])).run Try.prog w = .ok (.bool (eqP a b c d)) w := by
  have hS : Try.prog.underlying 73 = some (.struct (Try.prog.fieldsOf 73)) := by kernel_rfl
  have hp : Try.prog.stoodInHeld 73 = false := by kernel_rfl
  have u3 := Try.underlying3
  rw [run_eql_struct, show (10000 : Nat) = 9999 + 1 from rfl, run_equalIn_agg w 9999 73 _ _ hS hp]
  simp only [Program.fieldsOf, Try.underlying73]
  go_simp
  by_cases h1 : a = c <;> by_cases h2 : b = d <;> simp [h1, h2, eqP]
theorem containsNode_any (v : Value) (ns : List (Int × Int)) (x y : Int) (w : World) (hv : PairsAt w v ns) : Calls Try.prog 96 #[v, .agg #[.int .i64 x, .int .i64 y]] w fun e w' => e = .returned (.bool (hasP ns x y)) ∧ Below w.heap.size w w' := by
  have s0 : Below w.heap.size w (w.alloc (.cells #[.int .i64 x, .int .i64 y] 71)) := (Below.refl _ _).alloc (Nat.le_refl _) _
  have HV := hid (hv.below s0)
  have S0 := hid s0
  clear s0
  obtain ⟨A, c, rfl, _, _, _⟩ := id hv
  clear hv
  go_enter Try.func96, Try.ntmps96
  go_wp2_with fail
  refine (indexNode_any _ ns _ _ _ HV.out).mono ?_
  rintro e w1 ⟨rfl, hb1⟩
  have HH := hid (idxAt_has ns x y 0 (by omega))
  go_wp2
  go_ret
  exact ⟨ret_bool HH.out, then_ S0.out hb1 S0.out.size⟩
end Go.Proofs.Ytdhppajfdcfikaa
