/- What IsOnLead returns, in the program and in the reference, for all arguments. No condition. -/
import Derived.Test.YtbijbohkpjnjnaaLeadb
import Derived.Deep.DeepCutAuto
import Derived.Test.YtbijbohkpjnjnaaNodee
namespace Go.Proofs.Ytbijbohkpjnjnaa
open Go.ChangeShapes Go.WideShapes Go.ChangeAt Go.RowKit
set_option maxHeartbeats 1000000
set_option linter.unusedSimpArgs false
set_option linter.unusedVariables false

def atP (ns : List (Int × Int)) (i : Int) : Int × Int := ns.getD i.toNat (0, 0)
theorem atP_of {ns : List (Int × Int)} {i x y : Int} (h : ns[i.toNat]? = some (x, y)) : atP ns i = (x, y) := by simp [atP, List.getD, h]
def onSeg (a b n : Int × Int) : Bool := eqP n.1 n.2 a.1 a.2 || eqP n.1 n.2 b.1 b.2 || betw a.1 a.2 b.1 b.2 n.1 n.2
def onLeadB (ns : List (Int × Int)) (f t x y : Int) : Bool := leadOkB ns f t && onSeg (atP ns f) (atP ns t) (x, y)
theorem sOn_any (v : Value) (ns : List (Int × Int)) (f t x y : Int) (w : World) (hv : PairsAt w v ns) : Calls Try.prog 38 #[v, .agg #[.int .i64 f, .int .i64 t], .agg #[.int .i64 x, .int .i64 y]] w fun e w' => e = .returned (.bool (onLeadB ns f t x y)) ∧ Below w.heap.size w w' := by
  have s0 : Below w.heap.size w ((w.alloc (.cells #[.int .i64 f, .int .i64 t] 30)).alloc (.cells #[.int .i64 x, .int .i64 y] 38)) := ((Below.refl _ _).alloc (Nat.le_refl _) _).alloc (by simp) _
  have b0 : Box2 ((w.alloc (.cells #[.int .i64 f, .int .i64 t] 30)).alloc (.cells #[.int .i64 x, .int .i64 y] 38)) w.heap.size f t := (Box2.new _ _ _ _ _ rfl).alloc _
  have n0 : Box2 ((w.alloc (.cells #[.int .i64 f, .int .i64 t] 30)).alloc (.cells #[.int .i64 x, .int .i64 y] 38)) (w.heap.size + 1) x y := Box2.new _ _ _ _ _ (by simp)
  have hv0 := (hv.below ((Below.refl _ _).alloc (Nat.le_refl _) (.cells #[.int .i64 f, .int .i64 t] 30))).below ((Below.refl _ _).alloc (Nat.le_refl _) (.cells #[.int .i64 x, .int .i64 y] 38))
  cases hL : leadOkB ns f t
  · have L := hid hL
    go_enter Try.func38, Try.ntmps38
    go_wp2_with fail
    refine (sLeadOk_any _ ns _ _ _ hv0).mono ?_
    rintro e w1 ⟨rfl, hb1⟩
    rw [hL]
    go_wp2
    go_ret
    exact ⟨ret_bool (by simp [onLeadB, L.out]), then_ s0 hb1 s0.size⟩
  · obtain ⟨h0, h1, h2, ax, ay, bx, by', ha, hb, hok, hne⟩ := lead_ends hL
    have V := hid (show onLeadB ns f t x y = (eqP x y ax ay || eqP x y bx by' || betw ax ay bx by' x y) by simp [onLeadB, hL, atP_of ha, atP_of hb, onSeg])
    have hf2 : f < (ns.length : Int) := by omega
    have ht0 : 0 ≤ t := by omega
    have heq := eql_node
    have L := hid hL
    clear hL
    have HV := hid hv0
    have S0 := hid s0
    have HA := hid ha
    have HB := hid hb
    clear hv0 s0 ha hb
    obtain ⟨A, c, rfl, _, _, _⟩ := id hv
    have HVV := hid hv
    clear hv
    go_enter Try.func38, Try.ntmps38
    go_wp2_with fail
    refine (sLeadOk_any _ ns _ _ _ HV.out).mono ?_
    rintro e w1 ⟨rfl, hb1⟩
    rw [L.out]
    have S1 := hid (then_ S0.out hb1 S0.out.size)
    have b1 := b0.below hb1
    have n1 := n0.below hb1
    obtain ⟨b, off, c', hsl, hlt, ca0, ca1, cb0, cb1⟩ := pairs_two (HV.out.below hb1) HA.out HB.out
    injection hsl with hA _ hcc
    subst hA
    have lt1 := b1.lt
    have lt2 := n1.lt
    have f0 := b1.c0
    have f1 := b1.c1
    have g0 := n1.c0
    have g1 := n1.c1
    clear b0 n0 b1 n1 hb1
    have zs := S1.out.size
    cases e1 : eqP x y ax ay
    · cases e2 : eqP x y bx by'
      · go_wp2_with fail
        refine (sBetw_any _ _ _ _ _ _ _).mono ?_
        rintro e w2 ⟨rfl, hb2⟩
        go_wp2
        go_ret
        exact ⟨ret_bool (by rw [V.out, e1, e2]; rfl), then_ ((S1.out.alloc zs _).alloc (by simp; omega) _) hb2 (by simp; omega)⟩
      · go_wp2
        go_ret
        exact ⟨ret_bool (by rw [V.out, e1, e2]; rfl), ((S1.out.alloc zs _).alloc (by simp; omega) _)⟩
    · go_wp2
      go_ret
      exact ⟨ret_bool (by rw [V.out, e1]; rfl), ((S1.out.alloc zs _).alloc (by simp; omega) _)⟩
theorem iOn_any (v : Value) (ns : List (Int × Int)) (f t x y : Int) (w : World) (hv : PairsAt w v ns) : Calls Try.prog 10 #[v, .agg #[.int .i64 f, .int .i64 t], .agg #[.int .i64 x, .int .i64 y]] w fun e w' => e = .returned (.bool (onLeadB ns f t x y)) ∧ Below w.heap.size w w' := by
  have s0 : Below w.heap.size w ((w.alloc (.cells #[.int .i64 f, .int .i64 t] 30)).alloc (.cells #[.int .i64 x, .int .i64 y] 38)) := ((Below.refl _ _).alloc (Nat.le_refl _) _).alloc (by simp) _
  have b0 : Box2 ((w.alloc (.cells #[.int .i64 f, .int .i64 t] 30)).alloc (.cells #[.int .i64 x, .int .i64 y] 38)) w.heap.size f t := (Box2.new _ _ _ _ _ rfl).alloc _
  have n0 : Box2 ((w.alloc (.cells #[.int .i64 f, .int .i64 t] 30)).alloc (.cells #[.int .i64 x, .int .i64 y] 38)) (w.heap.size + 1) x y := Box2.new _ _ _ _ _ (by simp)
  have hv0 := (hv.below ((Below.refl _ _).alloc (Nat.le_refl _) (.cells #[.int .i64 f, .int .i64 t] 30))).below ((Below.refl _ _).alloc (Nat.le_refl _) (.cells #[.int .i64 x, .int .i64 y] 38))
  cases hL : leadOkB ns f t
  · have L := hid hL
    go_enter Try.func10, Try.ntmps10
    go_wp2_with fail
    refine (iLeadOk_any _ ns _ _ _ hv0).mono ?_
    rintro e w1 ⟨rfl, hb1⟩
    rw [hL]
    go_wp2
    go_ret
    exact ⟨ret_bool (by simp [onLeadB, L.out]), then_ s0 hb1 s0.size⟩
  · obtain ⟨h0, h1, h2, ax, ay, bx, by', ha, hb, hok, hne⟩ := lead_ends hL
    have V := hid (show onLeadB ns f t x y = (eqP x y ax ay || eqP x y bx by' || betw ax ay bx by' x y) by simp [onLeadB, hL, atP_of ha, atP_of hb, onSeg])
    have hf2 : f < (ns.length : Int) := by omega
    have ht0 : 0 ≤ t := by omega
    have heq := eql_node
    have L := hid hL
    clear hL
    have HV := hid hv0
    have S0 := hid s0
    have HA := hid ha
    have HB := hid hb
    clear hv0 s0 ha hb
    obtain ⟨A, c, rfl, _, _, _⟩ := id hv
    have HVV := hid hv
    clear hv
    go_enter Try.func10, Try.ntmps10
    go_wp2_with fail
    refine (iLeadOk_any _ ns _ _ _ HV.out).mono ?_
    rintro e w1 ⟨rfl, hb1⟩
    rw [L.out]
    have S1 := hid (then_ S0.out hb1 S0.out.size)
    have b1 := b0.below hb1
    have n1 := n0.below hb1
    obtain ⟨b, off, c', hsl, hlt, ca0, ca1, cb0, cb1⟩ := pairs_two (HV.out.below hb1) HA.out HB.out
    injection hsl with hA _ hcc
    subst hA
    have lt1 := b1.lt
    have lt2 := n1.lt
    have f0 := b1.c0
    have f1 := b1.c1
    have g0 := n1.c0
    have g1 := n1.c1
    have NB := hid n1
    clear b0 n0 b1 n1 hb1
    have zs := S1.out.size
    have S1' := S1.out
    go_upto_region 3 with fail
    go_cut [7, 8] (fun s7 s8 wx => ∃ ga gb : Nat, s7 = .pointer (some ⟨ga, 0, none⟩) ∧ s8 = .pointer (some ⟨gb, 0, none⟩) ∧ Box2 wx ga ax ay ∧ Box2 wx gb bx by' ∧ Below w1.heap.size w1 wx)
    case first =>
      go_region_held3 (fun w' => w'.cell? ⟨w.heap.size, 0, none⟩ = some (.int .i64 f) ∧ w'.cell? ⟨w.heap.size, 1, none⟩ = some (.int .i64 t) ∧ w'.cell? ⟨b, off + f.toNat * 2, none⟩ = some (.int .i64 ax) ∧ w'.cell? ⟨b, off + f.toNat * 2 + 1, none⟩ = some (.int .i64 ay) ∧ w'.cell? ⟨b, off + t.toNat * 2, none⟩ = some (.int .i64 bx) ∧ w'.cell? ⟨b, off + t.toNat * 2 + 1, none⟩ = some (.int .i64 by'))
        (go_keep) ((fail))
      all_goals (go_wp2_with fail; go_meet)
      · exact ⟨_, _, rfl, rfl, ((Box2.new _ _ _ _ _ rfl).alloc _).below ((Below.refl _ _).drew), (Box2.new _ _ _ _ _ (by simp)).below ((Below.refl _ _).drew), (((Below.refl _ _).alloc (Nat.le_refl _) _).alloc (by simp) _).drew⟩
      · exact ⟨_, _, rfl, rfl, (Box2.new _ _ _ _ _ (by simp)).below ((Below.refl _ _).drew), ((Box2.new _ _ _ _ _ rfl).alloc _).below ((Below.refl _ _).drew), (((Below.refl _ _).alloc (Nat.le_refl _) _).alloc (by simp) _).drew⟩
    case rest =>
      obtain ⟨ga, gb, rfl, rfl, hba, hbb, hb2⟩ := hcut
      have n2 := NB.out.below hb2
      have S2 := hid (then_ S1.out hb2 zs)
      have zs2 := S2.out.size
      clear f0 f1 g0 g1 ca0 ca1 cb0 cb1 hb2
      have g0 := n2.c0
      have g1 := n2.c1
      have a0 := hba.c0
      have a1 := hba.c1
      have d0 := hbb.c0
      have d1 := hbb.c1
      clear n2 hba hbb
      cases e1 : eqP x y ax ay
      · cases e2 : eqP x y bx by'
        · go_wp2_with fail
          refine (iBetw_any _ _ _ _ _ _ _).mono ?_
          rintro e w2 ⟨rfl, hb2⟩
          go_wp2
          go_ret
          exact ⟨ret_bool (by rw [V.out, e1, e2]; rfl), then_ S2.out hb2 zs2⟩
        · go_wp2
          go_ret
          exact ⟨ret_bool (by rw [V.out, e1, e2]; rfl), S2.out⟩
      · go_wp2
        go_ret
        exact ⟨ret_bool (by rw [V.out, e1]; rfl), S2.out⟩
end Go.Proofs.Ytbijbohkpjnjnaa
