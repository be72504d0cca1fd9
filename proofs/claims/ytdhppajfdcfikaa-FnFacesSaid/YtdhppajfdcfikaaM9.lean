/- The plain law of the faces of a whole window: just one of them has an area that is not positive, and all areas together are 0. No program in sight. -/
import Derived.Test.YtdhppajfdcfikaaM5
import Derived.Test.YtdhppajfdcfikaaM8
import Derived.Test.YtdhppajfdcfikaaM7
namespace Go.Proofs.Ytdhppajfdcfikaa
set_option linter.unusedSimpArgs false
set_option linter.unusedVariables false
/-! a window as a plane graph -/
def sN (ns : List (Int × Int)) (v : Nat) : Int := 21 * (ptN ns v).2 + (ptN ns v).1
def tN (ns : List (Int × Int)) (v : Nat) : Int := -(ptN ns v).1
def frN (ls : List (Int × Int)) (d : Nat) : Nat := (dFrom ls (d : Int)).toNat
def toN (ls : List (Int × Int)) (d : Nat) : Nat := (dTo ls (d : Int)).toNat
def plW (ns ls : List (Int × Int)) : Pl := ⟨2 * ls.length, frN ls, toN ls, twN, nxN ns ls, sN ns, tN ns⟩
def befN (ns ls : List (Int × Int)) (d e : Nat) : Prop := dFrom ls (d : Int) = dFrom ls (e : Int) ∧ befD ns ls (dFrom ls (d : Int)) (d : Int) (e : Int) = true
theorem twN_tw (d : Nat) : twN (twN d) = d := by unfold twN; split <;> split <;> omega
theorem dFrom_tw (ls : List (Int × Int)) (d : Nat) : dFrom ls ((twN d : Nat) : Int) = dTo ls (d : Int) := by
  rw [← dTo_eq ls (d : Int) (by omega)]
  unfold twN
  congr 1
  by_cases q : d % 2 = 0
  · rw [if_pos q, if_pos (by omega)]; rfl
  · rw [if_neg q, if_neg (by omega)]; omega
theorem dTo_tw (ls : List (Int × Int)) (d : Nat) : dTo ls ((twN d : Nat) : Int) = dFrom ls (d : Int) := by
  rw [← dFrom_tw, twN_tw]
theorem WinFacts.endsN {ns ls : List (Int × Int)} (h : WinFacts ns ls) {d : Nat} (hd : d < 2 * ls.length) : dFrom ls (d : Int) = (frN ls d : Int) ∧ dTo ls (d : Int) = (toN ls d : Int) ∧ frN ls d < ns.length ∧ toN ls d < ns.length ∧ frN ls d ≠ toN ls d := by
  obtain ⟨a, b, h1, h2, h3, h4, h5⟩ := h.ends hd
  unfold frN toN
  rw [h1, h2]
  simp only [Int.toNat_natCast]
  exact ⟨trivial, trivial, h3, h4, h5⟩
theorem WinFacts.inBox {ns ls : List (Int × Int)} (h : WinFacts ns ls) {v : Nat} (hv : v < ns.length) : 0 ≤ (ptN ns v).1 ∧ (ptN ns v).1 ≤ 20 ∧ 0 ≤ (ptN ns v).2 ∧ (ptN ns v).2 ≤ 20 := by
  have := h.okN hv
  unfold nodeOkB inB at this
  simp only [Bool.and_eq_true, decide_eq_true_iff] at this
  omega
theorem WinFacts.sN_inj {ns ls : List (Int × Int)} (h : WinFacts ns ls) {v w : Nat} (hv : v < ns.length) (hw : w < ns.length) (e : sN ns v = sN ns w) : v = w := by
  have b1 := h.inBox hv
  have b2 := h.inBox hw
  unfold sN at e
  by_cases q : v = w
  · exact q
  · exact absurd (Prod.ext (by omega) (by omega)) (h.ne hv hw q)
/-- turns in the two coordinates -/
theorem tn_st (ns : List (Int × Int)) (a b v : Nat) : (sN ns b - sN ns a) * (tN ns v - tN ns a) - (tN ns b - tN ns a) * (sN ns v - sN ns a) = 21 * tn (ptN ns a).1 (ptN ns a).2 (ptN ns b).1 (ptN ns b).2 (ptN ns v).1 (ptN ns v).2 := by
  unfold sN tN tn; grind
/-- a node is on no lead but at its ends -/
theorem WinFacts.clearD {ns ls : List (Int × Int)} (h : WinFacts ns ls) {d m : Nat} (hd : d < 2 * ls.length) (hm : m < ns.length) (ha : m ≠ frN ls d) (hb : m ≠ toN ls d)
    (hz : tn (ptN ns (frN ls d)).1 (ptN ns (frN ls d)).2 (ptN ns (toN ls d)).1 (ptN ns (toN ls d)).2 (ptN ns m).1 (ptN ns m).2 = 0)
    (hbx : min (ptN ns (frN ls d)).1 (ptN ns (toN ls d)).1 ≤ (ptN ns m).1 ∧ (ptN ns m).1 ≤ max (ptN ns (frN ls d)).1 (ptN ns (toN ls d)).1 ∧ min (ptN ns (frN ls d)).2 (ptN ns (toN ls d)).2 ≤ (ptN ns m).2 ∧ (ptN ns m).2 ≤ max (ptN ns (frN ls d)).2 (ptN ns (toN ls d)).2) : False := by
  obtain ⟨f, t, c1, c2, c3, c4⟩ := h.dart hd
  rcases c4 with ⟨_, c5, c6⟩ | ⟨_, c5, c6⟩
  · have e1 : frN ls d = f := by unfold frN; rw [c5]; simp
    have e2 : toN ls d = t := by unfold toN; rw [c6]; simp
    rw [e1] at ha hz hbx
    rw [e2] at hb hz hbx
    exact h.clear_ (by omega) c1 c3 c2 hm ha hb hz hbx
  · have e1 : frN ls d = t := by unfold frN; rw [c5]; simp
    have e2 : toN ls d = f := by unfold toN; rw [c6]; simp
    rw [e1] at ha hz hbx
    rw [e2] at hb hz hbx
    refine h.clear_ (by omega) c1 c3 c2 hm hb ha (by rw [tn_flip, hz]; rfl) ?_
    rw [Int.min_comm, Int.max_comm, Int.min_comm (ptN ns f).2, Int.max_comm (ptN ns f).2]; exact hbx
theorem btw_lin {p q r D m : Int} (hD : 0 < D) (h0 : 0 ≤ m) (h1 : m ≤ D) (e : (r - p) * D = (q - p) * m) : min p q ≤ r ∧ r ≤ max p q := by
  rcases Int.le_total p q with h | h
  · have a := Int.mul_nonneg (show 0 ≤ q - p by omega) h0
    have b := Int.mul_le_mul_of_nonneg_left h1 (show 0 ≤ q - p by omega)
    rw [← e] at a b
    have a' : 0 ≤ r - p := by
      rcases Int.lt_or_le (r - p) 0 with h' | h'
      · have := Int.mul_neg_of_neg_of_pos h' hD; omega
      · exact h'
    have b' : r - p ≤ q - p := Int.le_of_mul_le_mul_right b hD
    omega
  · have a := Int.mul_nonneg (show 0 ≤ p - q by omega) h0
    have b := Int.mul_le_mul_of_nonneg_left h1 (show 0 ≤ p - q by omega)
    have e' : (p - r) * D = (p - q) * m := by grind
    rw [← e'] at a b
    have a' : 0 ≤ p - r := by
      rcases Int.lt_or_le (p - r) 0 with h' | h'
      · have := Int.mul_neg_of_neg_of_pos h' hD; omega
      · exact h'
    have b' : p - r ≤ p - q := Int.le_of_mul_le_mul_right b hD
    omega
/-- leads do not cross -/
theorem over_comm (a b c d : Int × Int) : overB a b c d = overB c d a b := by unfold overB; rw [Bool.and_comm]
theorem WinFacts.not_over {ns ls : List (Int × Int)} (h : WinFacts ns ls) {i j : Nat} (hi : i < ls.length) (hj : j < ls.length) (hne : i ≠ j) {f t g u : Nat} (e1 : ptN ls i = ((f : Int), (t : Int))) (e2 : ptN ls j = ((g : Int), (u : Int))) :
    overB (ptN ns f) (ptN ns t) (ptN ns g) (ptN ns u) = false := by
  have key : ∀ {i j : Nat}, i < ls.length → j < i → ∀ {f t g u : Nat}, ptN ls i = ((f : Int), (t : Int)) → ptN ls j = ((g : Int), (u : Int)) → overB (ptN ns f) (ptN ns t) (ptN ns g) (ptN ns u) = false := fun {i j} hi hj {f t g u} e1 e2 => by
    have hl := h.line i hi
    have hl2 := h.line j (by omega)
    simp only [leadLine, Bool.and_eq_true] at hl hl2
    have := allB_get hl.2.1 hj
    have lo1 := hl.1
    have lo2 := hl2.1
    rw [e1] at this lo1
    rw [e2] at this lo2
    simp only [Bool.not_eq_true', doCrossB, lo1, lo2, Bool.true_and, crossB, Bool.or_eq_false_iff, atP_nat] at this
    exact this.2.2
  rcases Nat.lt_or_ge j i with q | q
  · exact key hi q e1 e2
  · rw [over_comm]; exact key hj (by omega) e2 e1
theorem WinFacts.no_cross {ns ls : List (Int × Int)} (h : WinFacts ns ls) {d e : Nat} (hd : d < 2 * ls.length) (he : e < 2 * ls.length) (hne : d / 2 ≠ e / 2) :
    ¬ (tn3 (ptN ns (frN ls d)) (ptN ns (toN ls d)) (ptN ns (frN ls e)) * tn3 (ptN ns (frN ls d)) (ptN ns (toN ls d)) (ptN ns (toN ls e)) < 0 ∧ tn3 (ptN ns (frN ls e)) (ptN ns (toN ls e)) (ptN ns (frN ls d)) * tn3 (ptN ns (frN ls e)) (ptN ns (toN ls e)) (ptN ns (toN ls d)) < 0) := by
  obtain ⟨f, t, c1, c2, c3, c4⟩ := h.dart hd
  obtain ⟨g, u, d1, d2, d3, d4⟩ := h.dart he
  have ov := h.not_over (by omega) (by omega) hne c1 d1
  have ov2 : ¬ (tn3 (ptN ns f) (ptN ns t) (ptN ns g) * tn3 (ptN ns f) (ptN ns t) (ptN ns u) < 0 ∧ tn3 (ptN ns g) (ptN ns u) (ptN ns f) * tn3 (ptN ns g) (ptN ns u) (ptN ns t) < 0) := by
    intro hh
    unfold overB at ov
    rw [decide_eq_true hh.1, decide_eq_true hh.2] at ov
    cases ov
  have fl : ∀ a b c x : Int × Int, tn3 b a c * tn3 b a x = tn3 a b c * tn3 a b x := fun a b c x => by
    unfold tn3; rw [tn_flip a.1 a.2 b.1, tn_flip a.1 a.2 b.1, Int.neg_mul_neg]
  have nat : ∀ {x : Nat} {y : Int}, y = (x : Int) → y.toNat = x := fun h => by rw [h]; rfl
  rcases c4 with ⟨_, c5, c6⟩ | ⟨_, c5, c6⟩ <;> rcases d4 with ⟨_, d5, d6⟩ | ⟨_, d5, d6⟩ <;>
    (unfold frN toN; rw [nat c5, nat c6, nat d5, nat d6]; intro hh; apply ov2)
  · exact hh
  · exact ⟨by rw [Int.mul_comm]; exact hh.1, by rw [← fl (ptN ns g) (ptN ns u)]; exact hh.2⟩
  · exact ⟨by rw [← fl (ptN ns f) (ptN ns t)]; exact hh.1, by rw [Int.mul_comm]; exact hh.2⟩
  · exact ⟨by rw [← fl (ptN ns f) (ptN ns t), Int.mul_comm]; exact hh.1, by rw [← fl (ptN ns g) (ptN ns u), Int.mul_comm]; exact hh.2⟩
theorem fwd_rat {G : Pl} {d : Nat} (f : G.fwd d) : (0 : Rat) < (G.s (G.tx d) : Rat) - (G.s (G.fr d) : Rat) := by
  unfold Pl.fwd at f
  have : (G.s (G.fr d) : Rat) < (G.s (G.tx d) : Rat) := by exact_mod_cast f
  grind
theorem lin_form {G : Pl} {d : Nat} (f : G.fwd d) : ∃ m : Rat, (∀ x, G.lin d x = (G.t (G.fr d) : Rat) + m * (x - (G.s (G.fr d) : Rat))) ∧ m * ((G.s (G.tx d) : Rat) - (G.s (G.fr d) : Rat)) = (G.t (G.tx d) : Rat) - (G.t (G.fr d) : Rat) := by
  have := fwd_rat f
  refine ⟨((G.t (G.tx d) : Rat) - (G.t (G.fr d) : Rat)) / ((G.s (G.tx d) : Rat) - (G.s (G.fr d) : Rat)), fun x => ?_, Rat.div_mul_cancel (by grind)⟩
  unfold Pl.lin; grind
theorem lin_fr {G : Pl} {d : Nat} (f : G.fwd d) : G.lin d (G.s (G.fr d)) = G.t (G.fr d) := by
  obtain ⟨m, h1, h2⟩ := lin_form f
  rw [h1]; grind
theorem lin_to {G : Pl} {d : Nat} (f : G.fwd d) : G.lin d (G.s (G.tx d)) = G.t (G.tx d) := by
  obtain ⟨m, h1, h2⟩ := lin_form f
  rw [h1]; grind
/-- the turn from a lead to a point, by the height of the lead there -/
theorem tn_lin (ns ls : List (Int × Int)) {d : Nat} (f : (plW ns ls).fwd d) (v : Nat) : ((21 * tn3 (ptN ns (frN ls d)) (ptN ns (toN ls d)) (ptN ns v) : Int) : Rat) = (((sN ns (toN ls d) : Int) : Rat) - ((sN ns (frN ls d) : Int) : Rat)) * (((tN ns v : Int) : Rat) - (plW ns ls).lin d ((sN ns v : Int) : Rat)) := by
  obtain ⟨m, h1, h2⟩ := lin_form f
  rw [h1]
  have e := tn_st ns (frN ls d) (toN ls d) v
  have e' : ((21 * tn3 (ptN ns (frN ls d)) (ptN ns (toN ls d)) (ptN ns v) : Int) : Rat) = ((sN ns (toN ls d) : Int) - (sN ns (frN ls d) : Int) : Rat) * ((tN ns v : Int) - (tN ns (frN ls d) : Int) : Rat) - ((tN ns (toN ls d) : Int) - (tN ns (frN ls d) : Int) : Rat) * ((sN ns v : Int) - (sN ns (frN ls d) : Int) : Rat) := by
    unfold tn3
    rw [← e]
    simp only [Rat.intCast_sub, Rat.intCast_mul]
  rw [e']
  simp only [plW] at h2 ⊢
  grind
theorem neg_of_rat {k : Int} (h : ((21 * k : Int) : Rat) < 0) : k < 0 := by
  have : (21 * k : Int) < 0 := by exact_mod_cast h
  omega
theorem pos_of_rat {k : Int} (h : 0 < ((21 * k : Int) : Rat)) : 0 < k := by
  have : 0 < (21 * k : Int) := by exact_mod_cast h
  omega
/-- two leads do not change sides -/
theorem WinFacts.no_swap {ns ls : List (Int × Int)} (h : WinFacts ns ls) {d e : Nat} (hd : d < 2 * ls.length) (he : e < 2 * ls.length) (hne : d / 2 ≠ e / 2) (fd : (plW ns ls).fwd d) (fe : (plW ns ls).fwd e) {x1 x2 : Rat} (h12 : x1 < x2)
    (a1 : ((sN ns (frN ls d) : Int) : Rat) ≤ x1) (a2 : ((sN ns (frN ls e) : Int) : Rat) ≤ x1) (b1 : x2 ≤ ((sN ns (toN ls d) : Int) : Rat)) (b2 : x2 ≤ ((sN ns (toN ls e) : Int) : Rat))
    (l1 : (plW ns ls).lin d x1 < (plW ns ls).lin e x1) (l2 : (plW ns ls).lin e x2 < (plW ns ls).lin d x2) : False := by
  apply h.no_cross hd he hne
  have pd := fwd_rat fd
  have pe := fwd_rat fe
  have q1 := tn_lin ns ls fd (frN ls e)
  have q2 := tn_lin ns ls fd (toN ls e)
  have q3 := tn_lin ns ls fe (frN ls d)
  have q4 := tn_lin ns ls fe (toN ls d)
  have r1 := lin_fr fd
  have r2 := lin_to fd
  have r3 := lin_fr fe
  have r4 := lin_to fe
  obtain ⟨m, hm, _⟩ := lin_form fd
  obtain ⟨n, hn, _⟩ := lin_form fe
  simp only [plW] at pd pe r1 r2 r3 r4
  -- the difference grows
  have hmn : 0 < m - n := by
    apply Classical.byContradiction
    intro hq
    have hq : m - n ≤ 0 := by grind
    have := Rat.mul_le_mul_of_nonneg_right hq (show 0 ≤ x2 - x1 by grind)
    rw [hm, hn] at l1 l2
    grind
  have D : ∀ x y, (plW ns ls).lin d x - (plW ns ls).lin e x - ((plW ns ls).lin d y - (plW ns ls).lin e y) = (m - n) * (x - y) := fun x y => by rw [hm, hm, hn, hn]; grind
  have lo : ∀ x, x ≤ x1 → (plW ns ls).lin d x < (plW ns ls).lin e x := fun x hx => by
    have := D x1 x
    have := Rat.mul_nonneg (Rat.le_of_lt hmn) (show 0 ≤ x1 - x by grind)
    grind
  have hi : ∀ x, x2 ≤ x → (plW ns ls).lin e x < (plW ns ls).lin d x := fun x hx => by
    have := D x x2
    have := Rat.mul_nonneg (Rat.le_of_lt hmn) (show 0 ≤ x - x2 by grind)
    grind
  have i1 := lo _ a1
  have i2 := lo _ a2
  have i3 := hi _ b1
  have i4 := hi _ b2
  have s1 : 0 < tn3 (ptN ns (frN ls d)) (ptN ns (toN ls d)) (ptN ns (frN ls e)) := by
    apply pos_of_rat; rw [q1]; exact Rat.mul_pos pd (by simp only [plW] at *; grind)
  have s2 : tn3 (ptN ns (frN ls d)) (ptN ns (toN ls d)) (ptN ns (toN ls e)) < 0 := by
    apply neg_of_rat; rw [q2]
    have := Rat.mul_pos pd (show 0 < (plW ns ls).lin d ((sN ns (toN ls e) : Int) : Rat) - ((tN ns (toN ls e) : Int) : Rat) by simp only [plW] at *; grind)
    grind
  have s3 : tn3 (ptN ns (frN ls e)) (ptN ns (toN ls e)) (ptN ns (frN ls d)) < 0 := by
    apply neg_of_rat; rw [q3]
    have := Rat.mul_pos pe (show 0 < (plW ns ls).lin e ((sN ns (frN ls d) : Int) : Rat) - ((tN ns (frN ls d) : Int) : Rat) by simp only [plW] at *; grind)
    grind
  have s4 : 0 < tn3 (ptN ns (frN ls e)) (ptN ns (toN ls e)) (ptN ns (toN ls d)) := by
    apply pos_of_rat; rw [q4]; exact Rat.mul_pos pe (by simp only [plW] at *; grind)
  exact ⟨Int.mul_neg_of_pos_of_neg s1 s2, Int.mul_neg_of_neg_of_pos s3 s4⟩
/-- a node that a lead touches is one of its ends -/
theorem WinFacts.on_end {ns ls : List (Int × Int)} (h : WinFacts ns ls) {d v : Nat} (hd : d < 2 * ls.length) (hv : v < ns.length) (fd : (plW ns ls).fwd d) (a1 : sN ns (frN ls d) ≤ sN ns v) (a2 : sN ns v ≤ sN ns (toN ls d))
    (hl : (plW ns ls).lin d ((sN ns v : Int) : Rat) = ((tN ns v : Int) : Rat)) : v = frN ls d ∨ v = toN ls d := by
  apply Classical.byContradiction
  intro hno
  have q := tn_lin ns ls fd v
  rw [hl] at q
  have q0 : (21 * tn3 (ptN ns (frN ls d)) (ptN ns (toN ls d)) (ptN ns v) : Int) = 0 := by
    have : ((21 * tn3 (ptN ns (frN ls d)) (ptN ns (toN ls d)) (ptN ns v) : Int) : Rat) = ((0 : Int) : Rat) := by rw [q]; grind
    exact_mod_cast this
  have hz : tn3 (ptN ns (frN ls d)) (ptN ns (toN ls d)) (ptN ns v) = 0 := by omega
  have e := tn_st ns (frN ls d) (toN ls d) v
  unfold tn3 at hz
  rw [hz] at e
  have fd' : sN ns (frN ls d) < sN ns (toN ls d) := fd
  have b1 := btw_lin (p := tN ns (frN ls d)) (q := tN ns (toN ls d)) (r := tN ns v) (D := sN ns (toN ls d) - sN ns (frN ls d)) (m := sN ns v - sN ns (frN ls d)) (by omega) (by omega) (by omega) (by grind)
  have b2 := btw_lin (p := sN ns (frN ls d) + tN ns (frN ls d)) (q := sN ns (toN ls d) + tN ns (toN ls d)) (r := sN ns v + tN ns v) (D := sN ns (toN ls d) - sN ns (frN ls d)) (m := sN ns v - sN ns (frN ls d)) (by omega) (by omega) (by omega) (by grind)
  refine h.clearD hd hv (fun q => hno (.inl q)) (fun q => hno (.inr q)) hz ?_
  unfold sN tN at b1 b2
  omega
theorem half_dart {d e : Nat} (h : d / 2 = e / 2) : e = d ∨ e = twN d := by unfold twN; split <;> omega
theorem half_tw (d : Nat) : twN d / 2 = d / 2 := by unfold twN; split <;> omega
/-- two leads have different heights wherever both pass -/
theorem WinFacts.no_touch {ns ls : List (Int × Int)} (h : WinFacts ns ls) {d e : Nat} (hd : d < 2 * ls.length) (he : e < 2 * ls.length) (hne : d / 2 ≠ e / 2) (fd : (plW ns ls).fwd d) (fe : (plW ns ls).fwd e) {x : Rat}
    (a1 : ((sN ns (frN ls d) : Int) : Rat) < x) (a2 : ((sN ns (frN ls e) : Int) : Rat) < x) (b1 : x < ((sN ns (toN ls d) : Int) : Rat)) (b2 : x < ((sN ns (toN ls e) : Int) : Rat))
    (hl : (plW ns ls).lin d x = (plW ns ls).lin e x) : False := by
  obtain ⟨m, hm, _⟩ := lin_form fd
  obtain ⟨n, hn, _⟩ := lin_form fe
  have D : ∀ y, (plW ns ls).lin d y - (plW ns ls).lin e y = (m - n) * (y - x) := fun y => by
    rw [hm, hn]; rw [hm, hn] at hl; grind
  obtain ⟨lo, lo1, lo2, lo3⟩ : ∃ y, ((sN ns (frN ls d) : Int) : Rat) ≤ y ∧ ((sN ns (frN ls e) : Int) : Rat) ≤ y ∧ y < x := by
    rcases Rat.le_total (a := ((sN ns (frN ls d) : Int) : Rat)) (b := ((sN ns (frN ls e) : Int) : Rat)) with q | q
    · exact ⟨_, q, Rat.le_refl, a2⟩
    · exact ⟨_, Rat.le_refl, q, a1⟩
  obtain ⟨hi, hi1, hi2, hi3⟩ : ∃ y, y ≤ ((sN ns (toN ls d) : Int) : Rat) ∧ y ≤ ((sN ns (toN ls e) : Int) : Rat) ∧ x < y := by
    rcases Rat.le_total (a := ((sN ns (toN ls d) : Int) : Rat)) (b := ((sN ns (toN ls e) : Int) : Rat)) with q | q
    · exact ⟨_, Rat.le_refl, q, b1⟩
    · exact ⟨_, q, Rat.le_refl, b2⟩
  have Dlo := D lo
  have Dhi := D hi
  rcases Std.lt_trichotomy (m - n) 0 with q | q | q
  · have r1 := Rat.mul_pos (show 0 < n - m by grind) (show 0 < x - lo by grind)
    have r2 := Rat.mul_pos (show 0 < n - m by grind) (show 0 < hi - x by grind)
    exact h.no_swap he hd (fun q => hne q.symm) fe fd (x1 := lo) (x2 := hi) (by grind) lo2 lo1 hi2 hi1 (by grind) (by grind)
  · -- the leads lie on one line
    have same : ∀ y, (plW ns ls).lin d y = (plW ns ls).lin e y := fun y => by have := D y; rw [q] at this; grind
    obtain ⟨_, _, n1, n2, _⟩ := h.endsN hd
    obtain ⟨_, _, n3, n4, _⟩ := h.endsN he
    have r1 := lin_fr fd
    have r2 := lin_to fd
    have r3 := lin_fr fe
    have r4 := lin_to fe
    simp only [plW] at r1 r2 r3 r4
    have ca : ∀ {p q : Int}, (p : Rat) < x → x < (q : Rat) → p < q := fun h1 h2 => by
      rename_i p q
      have : (p : Rat) < (q : Rat) := by grind
      exact_mod_cast this
    have k1 := ca a1 b2
    have k2 := ca a2 b1
    have k3 := ca a1 b1
    have k4 := ca a2 b2
    have ha : frN ls d = frN ls e := by
      rcases Int.le_total (sN ns (frN ls d)) (sN ns (frN ls e)) with q | q
      · rcases h.on_end hd n3 fd q (by omega) (by rw [same]; exact r3) with w | w
        · exact w.symm
        · rw [w] at k2; omega
      · rcases h.on_end he n1 fe q (by omega) (by rw [← same]; exact r1) with w | w
        · exact w
        · rw [w] at k1; omega
    have hb : toN ls d = toN ls e := by
      rcases Int.le_total (sN ns (toN ls d)) (sN ns (toN ls e)) with q | q
      · rcases h.on_end he n2 fe (by omega) q (by rw [← same]; exact r2) with w | w
        · rw [w] at k2; omega
        · exact w
      · rcases h.on_end hd n4 fd (by omega) q (by rw [same]; exact r4) with w | w
        · rw [w] at k1; omega
        · exact w.symm
    obtain ⟨u1, u2, _⟩ := h.endsN hd
    obtain ⟨u3, u4, _⟩ := h.endsN he
    have := h.same hd he (by rw [u1, u3, ha]) (by rw [u2, u4, hb])
    exact hne (by rw [this])
  · have r1 := Rat.mul_pos q (show 0 < x - lo by grind)
    have r2 := Rat.mul_pos q (show 0 < hi - x by grind)
    exact h.no_swap hd he hne fd fe (x1 := lo) (x2 := hi) (by grind) lo1 lo2 hi1 hi2 (by grind) (by grind)
/-- the same for any darts -/
theorem WinFacts.front {ns ls : List (Int × Int)} (h : WinFacts ns ls) {d : Nat} (hd : d < 2 * ls.length) : ∃ d', d' < 2 * ls.length ∧ (plW ns ls).fwd d' ∧ d' / 2 = d / 2 ∧ (∀ x, (plW ns ls).lin d' x = (plW ns ls).lin d x) ∧ (∀ k, (plW ns ls).spans k d' ↔ (plW ns ls).spans k d) ∧ (d' = d ∨ d' = twN d) := by
  obtain ⟨_, _, n1, n2, n3⟩ := h.endsN hd
  have hne : sN ns (frN ls d) ≠ sN ns (toN ls d) := fun e => n3 (h.sN_inj n1 n2 e)
  by_cases f : (plW ns ls).fwd d
  · exact ⟨d, hd, f, rfl, fun _ => rfl, fun _ => Iff.rfl, .inl rfl⟩
  · have e1 : frN ls (twN d) = toN ls d := by unfold frN toN; rw [dFrom_tw]
    have e2 : toN ls (twN d) = frN ls d := by unfold frN toN; rw [dTo_tw]
    refine ⟨twN d, twN_lt hd, ?_, half_tw d, fun x => ?_, fun k => ?_, .inr rfl⟩
    · unfold Pl.fwd at f ⊢
      simp only [plW] at f ⊢
      rw [e1, e2]; omega
    · unfold Pl.lin
      simp only [plW]
      rw [e1, e2]
      have hr := Pl.rat_ne hne
      have h1 : ((sN ns (toN ls d) : Int) : Rat) - ((sN ns (frN ls d) : Int) : Rat) ≠ 0 := by grind
      have h2 : ((sN ns (frN ls d) : Int) : Rat) - ((sN ns (toN ls d) : Int) : Rat) ≠ 0 := by grind
      grind
    · unfold Pl.spans
      simp only [plW]
      rw [e1, e2]; omega
theorem rat_mid {a b k : Int} (h1 : a ≤ k) (h2 : k < b) : (a : Rat) < Pl.mid k ∧ Pl.mid k < (b : Rat) := by
  have q1 : (a : Rat) ≤ (k : Rat) := by exact_mod_cast h1
  have q2 : ((k + 1 : Int) : Rat) ≤ (b : Rat) := by exact_mod_cast (show k + 1 ≤ b by omega)
  have q3 : ((k + 1 : Int) : Rat) = (k : Rat) + 1 := by rw [Rat.intCast_add]; rfl
  unfold Pl.mid
  constructor <;> grind
theorem fwd_spans {G : Pl} {k : Int} {d : Nat} (f : G.fwd d) (h : G.spans k d) : G.s (G.fr d) ≤ k ∧ k < G.s (G.tx d) := by
  unfold Pl.fwd at f; unfold Pl.spans at h; omega
theorem mid_pred (k : Int) : Pl.mid (k - 1) = (k : Rat) - 1 / 2 := by
  unfold Pl.mid
  have : ((k - 1 : Int) : Rat) = (k : Rat) - 1 := by rw [Rat.intCast_sub]; rfl
  rw [this]; grind
/-- a lead passes over column k; then no node there is on it -/
theorem WinFacts.no_node {ns ls : List (Int × Int)} (h : WinFacts ns ls) {d v : Nat} (hd : d < 2 * ls.length) (hv : v < ns.length) (s1 : (plW ns ls).spans (sN ns v - 1) d) (s2 : (plW ns ls).spans (sN ns v) d) : (plW ns ls).lin d ((sN ns v : Int) : Rat) ≠ ((tN ns v : Int) : Rat) := by
  obtain ⟨d', hd', f, _, hl, hs, _⟩ := h.front hd
  intro e
  rw [← hl] at e
  have a := fwd_spans f ((hs _).2 s1)
  have b := fwd_spans f ((hs _).2 s2)
  simp only [plW] at a b
  rcases h.on_end hd' hv f (by omega) (by omega) e with q | q
  · rw [q] at a; omega
  · rw [q] at b; omega
theorem WinFacts.keep_side {ns ls : List (Int × Int)} (h : WinFacts ns ls) {d e : Nat} (hd : d < 2 * ls.length) (he : e < 2 * ls.length) {k : Int} (s1 : (plW ns ls).spans (k - 1) d) (s2 : (plW ns ls).spans k d) (s3 : (plW ns ls).spans (k - 1) e) (s4 : (plW ns ls).spans k e) :
    ((plW ns ls).under (k - 1) d e ↔ (plW ns ls).under k d e) := by
  obtain ⟨d', hd', fd, qd, ld, sd, dd⟩ := h.front hd
  obtain ⟨e', he', fe, qe, le, se, ee⟩ := h.front he
  unfold Pl.under
  rw [← ld, ← ld, ← le, ← le]
  have a1 := fwd_spans fd ((sd _).2 s1)
  have a2 := fwd_spans fd ((sd _).2 s2)
  have a3 := fwd_spans fe ((se _).2 s3)
  have a4 := fwd_spans fe ((se _).2 s4)
  simp only [plW] at a1 a2 a3 a4
  by_cases hq : d' / 2 = e' / 2
  · have : ∀ x, (plW ns ls).lin d' x = (plW ns ls).lin e' x := fun x => by
      have : d / 2 = e / 2 := by omega
      rcases half_dart this with q | q
      · rw [ld, le, q]
      · obtain ⟨d2, _, f2, q2, l2, _, w2⟩ := h.front hd
        have hh : e' = d' := by
          have e1 : frN ls (twN e') = toN ls e' := by unfold frN toN; rw [dFrom_tw]
          have e2 : toN ls (twN e') = frN ls e' := by unfold frN toN; rw [dTo_tw]
          rcases half_dart hq with w | w
          · exact w
          · exfalso
            have : d' = twN e' := by rw [w, twN_tw]
            rw [this] at fd
            unfold Pl.fwd at fd fe
            simp only [plW] at fd fe
            rw [e1, e2] at fd; omega
        rw [hh]
    rw [this, this]
    constructor <;> (intro hh; exact absurd hh (by grind))
  · have m1 := rat_mid a1.1 a1.2
    have m2 := rat_mid a2.1 a2.2
    have m3 := rat_mid a3.1 a3.2
    have m4 := rat_mid a4.1 a4.2
    have lt : Pl.mid (k - 1) < Pl.mid k := by rw [mid_pred]; unfold Pl.mid; grind
    have n1 := h.no_touch hd' he' hq fd fe (x := Pl.mid (k - 1)) m1.1 m3.1 m1.2 m3.2
    have n2 := h.no_touch hd' he' hq fd fe (x := Pl.mid k) m2.1 m4.1 m2.2 m4.2
    have w1 := h.no_swap hd' he' hq fd fe lt (Rat.le_of_lt m1.1) (Rat.le_of_lt m3.1) (Rat.le_of_lt m2.2) (Rat.le_of_lt m4.2)
    have w2 := h.no_swap he' hd' (fun q => hq q.symm) fe fd lt (Rat.le_of_lt m3.1) (Rat.le_of_lt m1.1) (Rat.le_of_lt m4.2) (Rat.le_of_lt m2.2)
    constructor
    · intro hh
      apply Classical.byContradiction
      intro hn
      exact w1 hh (by grind)
    · intro hh
      apply Classical.byContradiction
      intro hn
      exact w2 (by grind) hh
theorem WinFacts.node_side {ns ls : List (Int × Int)} (h : WinFacts ns ls) {d z : Nat} (hd : d < 2 * ls.length) (hz : z < 2 * ls.length) (s1 : (plW ns ls).spans (sN ns (frN ls z) - 1) d) (s2 : (plW ns ls).spans (sN ns (frN ls z)) d) :
    ((plW ns ls).under ((plW ns ls).st z) d z ↔ (plW ns ls).lin d ((sN ns (frN ls z) : Int) : Rat) < ((tN ns (frN ls z) : Int) : Rat)) ∧ ((plW ns ls).under ((plW ns ls).st z) z d ↔ ((tN ns (frN ls z) : Int) : Rat) < (plW ns ls).lin d ((sN ns (frN ls z) : Int) : Rat)) := by
  obtain ⟨_, _, v1, v2, v3⟩ := h.endsN hz
  have hne : sN ns (frN ls z) ≠ sN ns (toN ls z) := fun e => v3 (h.sN_inj v1 v2 e)
  have cl := h.no_node hd v1 s1 s2
  obtain ⟨d', hd', fd, qd, ld, sd, dd⟩ := h.front hd
  obtain ⟨e', he', fe, qe, le, se, ee⟩ := h.front hz
  have a1 := fwd_spans fd ((sd _).2 s1)
  have a2 := fwd_spans fd ((sd _).2 s2)
  have e1 : frN ls (twN z) = toN ls z := by unfold frN toN; rw [dFrom_tw]
  have e2 : toN ls (twN z) = frN ls z := by unfold frN toN; rw [dTo_tw]
  have hq : d' / 2 ≠ e' / 2 := fun hq => by
    simp only [plW] at a1 a2
    rcases half_dart (show z / 2 = d' / 2 by omega) with q | q
    · rw [q] at a1 a2; omega
    · rw [q, e1, e2] at a1 a2; omega
  unfold Pl.under
  rw [← ld, ← ld, ← le]
  rw [← ld] at cl
  have c0 : ((sN ns (frN ls z) : Int) : Rat) = (((plW ns ls).s ((plW ns ls).fr z) : Int) : Rat) := rfl
  have hv : (plW ns ls).lin e' ((sN ns (frN ls z) : Int) : Rat) = ((tN ns (frN ls z) : Int) : Rat) := by
    rcases ee with q | q
    · have := lin_fr fe; rw [q] at this ⊢; exact this
    · have := lin_to fe; rw [q] at this ⊢
      simp only [plW] at this ⊢
      rw [e2] at this; exact this
  by_cases f : (plW ns ls).fwd z
  · have hst : (plW ns ls).st z = sN ns (frN ls z) := by unfold Pl.st; rw [if_pos f]; rfl
    rw [hst]
    have hez : e' = z := by
      rcases ee with q | q
      · exact q
      · exfalso
        rw [q] at fe
        unfold Pl.fwd at f fe
        simp only [plW] at f fe
        rw [e1, e2] at fe; omega
    rw [hez] at fe hq hv he' ⊢
    have f' : sN ns (frN ls z) < sN ns (toN ls z) := f
    simp only [plW] at a1 a2
    have m2 := rat_mid a2.1 a2.2
    have m4 := rat_mid (a := sN ns (frN ls z)) (b := sN ns (toN ls z)) (k := sN ns (frN ls z)) (by omega) f'
    have x1 : ((sN ns (frN ls d') : Int) : Rat) ≤ ((sN ns (frN ls z) : Int) : Rat) := by exact_mod_cast a2.1
    have n2 := h.no_touch hd' he' hq fd fe (x := Pl.mid (sN ns (frN ls z))) m2.1 m4.1 m2.2 m4.2
    have w1 := h.no_swap hd' he' hq fd fe (x1 := ((sN ns (frN ls z) : Int) : Rat)) (x2 := Pl.mid (sN ns (frN ls z))) m4.1 x1 Rat.le_refl (Rat.le_of_lt m2.2) (Rat.le_of_lt m4.2)
    have w2 := h.no_swap he' hd' (fun q => hq q.symm) fe fd (x1 := ((sN ns (frN ls z) : Int) : Rat)) (x2 := Pl.mid (sN ns (frN ls z))) m4.1 Rat.le_refl x1 (Rat.le_of_lt m4.2) (Rat.le_of_lt m2.2)
    rw [hv] at w1 w2
    constructor <;> constructor <;> intro hh <;> apply Classical.byContradiction <;> intro hn
    · exact w2 (by grind) hh
    · exact w1 hh (by grind)
    · exact w1 (by grind) hh
    · exact w2 hh (by grind)
  · have hst : (plW ns ls).st z = sN ns (frN ls z) - 1 := by unfold Pl.st; rw [if_neg f]; rfl
    rw [hst]
    have f' : sN ns (toN ls z) < sN ns (frN ls z) := by
      unfold Pl.fwd at f; simp only [plW] at f; omega
    have hez : e' = twN z := by
      rcases ee with q | q
      · exact absurd (q ▸ fe) f
      · exact q
    rw [hez] at fe hq hv he' ⊢
    simp only [plW] at a1 a2
    have m1 := rat_mid a1.1 a1.2
    have m3 := rat_mid (a := sN ns (toN ls z)) (b := sN ns (frN ls z)) (k := sN ns (frN ls z) - 1) (by omega) (by omega)
    have x1 : ((sN ns (frN ls z) : Int) : Rat) ≤ ((sN ns (toN ls d') : Int) : Rat) := by exact_mod_cast (show sN ns (frN ls z) ≤ sN ns (toN ls d') by omega)
    have x2 : ((sN ns (frN ls z) : Int) : Rat) ≤ ((sN ns (toN ls (twN z)) : Int) : Rat) := by rw [e2]; exact Rat.le_refl
    have y2 : ((sN ns (frN ls (twN z)) : Int) : Rat) ≤ Pl.mid (sN ns (frN ls z) - 1) := by rw [e1]; exact Rat.le_of_lt m3.1
    have n2 := h.no_touch hd' he' hq fd fe (x := Pl.mid (sN ns (frN ls z) - 1)) m1.1 (by rw [e1]; exact m3.1) m1.2 (by rw [e2]; exact m3.2)
    have w1 := h.no_swap hd' he' hq fd fe (x1 := Pl.mid (sN ns (frN ls z) - 1)) (x2 := ((sN ns (frN ls z) : Int) : Rat)) m3.2 (Rat.le_of_lt m1.1) y2 x1 x2
    have w2 := h.no_swap he' hd' (fun q => hq q.symm) fe fd (x1 := Pl.mid (sN ns (frN ls z) - 1)) (x2 := ((sN ns (frN ls z) : Int) : Rat)) m3.2 y2 (Rat.le_of_lt m1.1) x2 x1
    rw [hv] at w1 w2
    constructor <;> constructor <;> intro hh <;> apply Classical.byContradiction <;> intro hn
    · exact w1 hh (by grind)
    · exact w2 (by grind) hh
    · exact w2 hh (by grind)
    · exact w1 (by grind) hh
theorem WinFacts.one_lead {ns ls : List (Int × Int)} (h : WinFacts ns ls) {d e : Nat} (hd : d < 2 * ls.length) (he : e < 2 * ls.length) {k : Int} (s1 : (plW ns ls).spans k d) (s2 : (plW ns ls).spans k e) (hl : (plW ns ls).lin d (Pl.mid k) = (plW ns ls).lin e (Pl.mid k)) : e = d ∨ e = twN d := by
  obtain ⟨d', hd', fd, qd, ld, sd, dd⟩ := h.front hd
  obtain ⟨e', he', fe, qe, le, se, ee⟩ := h.front he
  have a1 := fwd_spans fd ((sd _).2 s1)
  have a2 := fwd_spans fe ((se _).2 s2)
  simp only [plW] at a1 a2
  have m1 := rat_mid a1.1 a1.2
  have m2 := rat_mid a2.1 a2.2
  apply half_dart
  apply Classical.byContradiction
  intro hq
  exact h.no_touch hd' he' (by omega) fd fe m1.1 m2.1 m1.2 m2.2 (by rw [ld, le]; exact hl)
/-! the order around a node -/
theorem srt_iff {lt : Int → Int → Bool} (has : ∀ x y, lt x y = true → lt y x = false) (hirr : ∀ x, lt x x = false) {l : List Int} (hp : l.Pairwise fun x y => lt x y = true) {i j : Nat} {x y : Int} (hi : l[i]? = some x) (hj : l[j]? = some y) : lt x y = true ↔ i < j := by
  have get : ∀ {i : Nat} {x : Int}, l[i]? = some x → ∃ h : i < l.length, l[i] = x := fun {i x} h => by
    rcases Nat.lt_or_ge i l.length with h' | h'
    · rw [List.getElem?_eq_getElem h'] at h; exact ⟨h', Option.some.inj h⟩
    · rw [List.getElem?_eq_none h'] at h; cases h
  obtain ⟨hi1, rfl⟩ := get hi
  obtain ⟨hj1, rfl⟩ := get hj
  have hp' := List.pairwise_iff_getElem.1 hp
  constructor
  · intro hh
    rcases Nat.lt_trichotomy i j with q | q | q
    · exact q
    · subst q; rw [hirr] at hh; cases hh
    · have := has _ _ (hp' j i hj1 hi1 q); rw [this] at hh; cases hh
  · exact fun q => hp' i j hi1 hj1 q
theorem around_at {ns ls : List (Int × Int)} {k : Int} {y : Nat} (hy : y < 2 * ls.length) (e : dFrom ls (y : Int) = k) : ∃ j : Nat, (aroundF ns ls k)[j]? = some (y : Int) := List.getElem?_of_mem ((mem_around ns ls k _).2 ⟨y, hy, rfl, e⟩)
theorem get_inj {l : List Int} {i : Nat} {x y : Int} (h1 : l[i]? = some x) (h2 : l[i]? = some y) : x = y := by rw [h1] at h2; exact Option.some.inj h2
theorem WinFacts.corner_ {ns ls : List (Int × Int)} (h : WinFacts ns ls) {d : Nat} (hd : d < 2 * ls.length) :
    (∀ y, y < 2 * ls.length → frN ls y = toN ls d → (befN ns ls y (twN d) ↔ (befN ns ls y (nxN ns ls d) ∨ y = nxN ns ls d))) ∨ (∀ y, y < 2 * ls.length → frN ls y = toN ls d → ¬ befN ns ls y (twN d) ∧ (befN ns ls y (nxN ns ls d) ∨ y = nxN ns ls d)) := by
  have ht := twN_lt hd
  obtain ⟨e, n1, n2, n3, n4⟩ := next_is h hd
  obtain ⟨_, c2, _⟩ := h.endsN hd
  have ft := dFrom_tw ls d
  have hm := around_has (ns := ns) ht
  have bg := bes_get hm false
  have be : besL (aroundF ns ls (dFrom ls ((twN d : Nat) : Int))) ((twN d : Nat) : Int) false = (e : Int) := n1
  have li := List.idxOf_lt_length_of_mem hm
  have ig := idx_get hm
  rw [be, turnI_false _ _ li] at bg
  rw [ft] at bg ig li
  have hs : (aroundF ns ls (dTo ls (d : Int))).Pairwise fun x y => befD ns ls (dTo ls (d : Int)) x y = true := h.aroundN_sorted _ _ (Nat.le_refl _)
  have nod := around_nodup ns ls (dTo ls (d : Int))
  rw [n2]
  generalize hl : aroundF ns ls (dTo ls (d : Int)) = l at bg ig li hs nod
  generalize hti : l.idxOf ((twN d : Nat) : Int) = i at bg ig li
  have S := fun {a b : Nat} {x y : Int} (h1 : l[a]? = some x) (h2 : l[b]? = some y) => srt_iff (lt := befD ns ls (dTo ls (d : Int))) (fun _ _ => befD_asym) (befD_irr _ _ _) hs h1 h2
  have at_ : ∀ y, y < 2 * ls.length → frN ls y = toN ls d → dFrom ls (y : Int) = dTo ls (d : Int) ∧ ∃ j, l[j]? = some (y : Int) ∧ j < l.length := fun y hy he => by
    obtain ⟨c1, _⟩ := h.endsN hy
    have e1 : dFrom ls (y : Int) = dTo ls (d : Int) := by rw [c1, c2, he]
    obtain ⟨j, hj⟩ := around_at (ns := ns) hy e1
    rw [hl] at hj
    refine ⟨e1, j, hj, ?_⟩
    rcases Nat.lt_or_ge j l.length with q | q
    · exact q
    · rw [List.getElem?_eq_none q] at hj; cases hj
  have yE : ∀ {j : Nat} {y : Nat}, l[j]? = some (y : Int) → (y = e ↔ j = if i = 0 then l.length - 1 else i - 1) := fun {j y} hj => by
    constructor
    · intro q; subst q; exact nodup_inj nod hj bg
    · intro q; rw [← q] at bg; have := get_inj hj bg; omega
  by_cases hi : i = 0
  · right
    intro y hy he
    obtain ⟨e1, j, hj, hjl⟩ := at_ y hy he
    unfold befN
    rw [e1, ft, n4]
    have s1 := S hj ig
    have s2 := S hj bg
    rw [if_pos hi] at s2
    have s3 := yE hj
    rw [if_pos hi] at s3
    refine ⟨fun q => by have := s1.1 q.2; omega, ?_⟩
    by_cases q : j = l.length - 1
    · exact .inr (s3.2 q)
    · exact .inl ⟨rfl, s2.2 (by omega)⟩
  · left
    intro y hy he
    obtain ⟨e1, j, hj, hjl⟩ := at_ y hy he
    unfold befN
    rw [e1, ft, n4]
    have s1 := S hj ig
    have s2 := S hj bg
    rw [if_neg hi] at s2
    have s3 := yE hj
    rw [if_neg hi] at s3
    rw [s1, s2, s3]
    constructor
    · rintro ⟨_, q⟩
      by_cases w : j = i - 1
      · exact .inr w
      · exact .inl ⟨rfl, by omega⟩
    · rintro (⟨_, q⟩ | q)
      · exact ⟨rfl, by omega⟩
      · exact ⟨rfl, by omega⟩
theorem fwd_half {ns ls : List (Int × Int)} (h : WinFacts ns ls) {d : Nat} (hd : d < 2 * ls.length) : (plW ns ls).fwd d ↔ half (ptN ns (frN ls d)).1 (ptN ns (frN ls d)).2 (ptN ns (toN ls d)).1 (ptN ns (toN ls d)).2 = 0 := by
  obtain ⟨_, _, v1, v2, _⟩ := h.endsN hd
  have b1 := h.inBox v1
  have b2 := h.inBox v2
  rw [half_up]
  unfold Pl.fwd up
  simp only [plW]
  unfold sN
  omega
/-- a valid window is a plane graph -/
theorem WinFacts.plane {ns ls : List (Int × Int)} (h : WinFacts ns ls) : (plW ns ls).Ok (befN ns ls) where
  tw_lt d hd := twN_lt hd
  tw_tw d _ := twN_tw d
  fr_tw d _ := by show frN ls (twN d) = toN ls d; unfold frN toN; rw [dFrom_tw]
  to_tw d _ := by show toN ls (twN d) = frN ls d; unfold frN toN; rw [dTo_tw]
  ne d hd := by
    obtain ⟨_, _, v1, v2, v3⟩ := h.endsN hd
    exact fun e => v3 (h.sN_inj v1 v2 e)
  inj d e hd he q := by
    obtain ⟨_, _, v1, _⟩ := h.endsN hd
    obtain ⟨_, _, w1, _⟩ := h.endsN he
    exact h.sN_inj v1 w1 q
  turns := next_turns h
  nx_fr d hd := by
    obtain ⟨e, _, n2, _, n4⟩ := next_is h hd
    show frN ls (nxN ns ls d) = toN ls d
    rw [n2]; unfold frN toN; rw [n4]
  asym d e q w := by
    have := befD_asym q.2
    rw [q.1] at this
    rw [w.2] at this; cases this
  total d e hd he q hne := by
    obtain ⟨c1, _⟩ := h.endsN hd
    obtain ⟨c2, _⟩ := h.endsN he
    have hf : dFrom ls (d : Int) = dFrom ls (e : Int) := by rw [c1, c2]; exact congrArg _ q
    rcases h.differ hd he hf hne with w | w
    · exact .inl ⟨hf, w⟩
    · exact .inr ⟨hf.symm, by rw [← hf]; exact w⟩
  bef_half d e hd he q hb fe := by
    rw [fwd_half h hd]
    have fe' := (fwd_half h he).1 fe
    obtain ⟨c1, c2, _⟩ := h.endsN hd
    obtain ⟨c3, c4, _⟩ := h.endsN he
    have := hb.2
    unfold befD at this
    rw [c1, c2, c4] at this
    simp only [Int.toNat_natCast] at this
    rw [bef0_iff] at this
    have q' : frN ls d = frN ls e := q
    rw [← q'] at fe'
    have := half_bd (ptN ns (frN ls d)).1 (ptN ns (frN ls d)).2 (ptN ns (toN ls d)).1 (ptN ns (toN ls d)).2
    omega
  bef_turn d e hd he q hb hf := by
    rw [fwd_half h hd, fwd_half h he] at hf
    obtain ⟨c1, c2, _⟩ := h.endsN hd
    obtain ⟨c3, c4, _⟩ := h.endsN he
    have := hb.2
    unfold befD at this
    rw [c1, c2, c4] at this
    simp only [Int.toNat_natCast] at this
    rw [bef0_iff] at this
    have q' : frN ls d = frN ls e := q
    rw [← q'] at hf
    have b1 := half_bd (ptN ns (frN ls d)).1 (ptN ns (frN ls d)).2 (ptN ns (toN ls d)).1 (ptN ns (toN ls d)).2
    have b2 := half_bd (ptN ns (frN ls d)).1 (ptN ns (frN ls d)).2 (ptN ns (toN ls e)).1 (ptN ns (toN ls e)).2
    have ee := tn_st ns (frN ls d) (toN ls d) (toN ls e)
    show 0 < (sN ns (toN ls d) - sN ns (frN ls d)) * (tN ns (toN ls e) - tN ns (frN ls d)) - (tN ns (toN ls d) - tN ns (frN ls d)) * (sN ns (toN ls e) - sN ns (frN ls d))
    rw [ee]
    omega
  corner d hd := h.corner_ hd
  keep d e hd he k s1 s2 s3 s4 := h.keep_side hd he s1 s2 s3 s4
  clear d z hd hz s1 s2 := h.no_node hd (h.endsN hz).2.2.1 s1 s2
  side d z hd hz s1 s2 := h.node_side hd hz s1 s2
  apart d e hd he k s1 s2 hl := h.one_lead hd he s1 s2 hl
/-- a whole window hangs together -/
theorem WinFacts.hangs {ns ls : List (Int × Int)} (h : WinFacts ns ls) (hw : wholeB ns ls = true) : (plW ns ls).Conn := by
  intro g hn ht d0 e0 hd0 he0
  have hn' : ∀ d, d < 2 * ls.length → g (nxN ns ls d) = g d := hn
  have ht' : ∀ d, d < 2 * ls.length → g (twN d) = g d := ht
  -- the darts at one node
  have step : ∀ (k : Int) (i : Nat) (x : Nat), (aroundF ns ls k)[i]? = some (x : Int) → ∀ x0 : Nat, (aroundF ns ls k)[0]? = some (x0 : Int) → g x = g x0 := by
    intro k i
    induction i with
    | zero => intro x hx x0 hx0; have := get_inj hx hx0; rw [show x = x0 by omega]
    | succ i ih =>
      intro x hx x0 hx0
      obtain ⟨m, hm, e1, e2⟩ := (mem_around ns ls k _).1 (List.mem_of_getElem? hx)
      have hxm : x = m := by omega
      subst hxm
      have hil : i + 1 < (aroundF ns ls k).length := by
        rcases Nat.lt_or_ge (i + 1) (aroundF ns ls k).length with q | q
        · exact q
        · rw [List.getElem?_eq_none q] at hx; cases hx
      obtain ⟨y, hy⟩ : ∃ y, (aroundF ns ls k)[i]? = some y := ⟨_, List.getElem?_eq_getElem (by omega)⟩
      obtain ⟨m', hm', e1', e2'⟩ := (mem_around ns ls k _).1 (List.mem_of_getElem? hy)
      subst e1'
      have r := ih m' hy x0 hx0
      -- m' is the next dart of x's twin
      have hd := twN_lt hm
      obtain ⟨e, n1, n2, n3, n4⟩ := next_is h hd
      have be : besL (aroundF ns ls (dFrom ls ((twN (twN x) : Nat) : Int))) ((twN (twN x) : Nat) : Int) false = (e : Int) := n1
      rw [twN_tw, e2] at be
      have hmem := List.mem_of_getElem? hx
      have bg := bes_get hmem false
      have ig := idx_get hmem
      have hi := nodup_inj (around_nodup ns ls k) ig hx
      rw [be, hi, turnI_false _ _ hil, if_neg (by omega)] at bg
      have := get_inj bg hy
      have hem : e = m' := by omega
      rw [← r, ← hem, ← n2, hn' _ hd, ht' _ hm]
  have node : ∀ x y, x < 2 * ls.length → y < 2 * ls.length → dFrom ls (x : Int) = dFrom ls (y : Int) → g x = g y := by
    intro x y hx hy e
    obtain ⟨i, hi⟩ := around_at (ns := ns) hx (k := dFrom ls (y : Int)) e
    obtain ⟨j, hj⟩ := around_at (ns := ns) hy (k := dFrom ls (y : Int)) rfl
    obtain ⟨z, hz⟩ : ∃ z, (aroundF ns ls (dFrom ls (y : Int)))[0]? = some z := by
      refine ⟨_, List.getElem?_eq_getElem (i := 0) ?_⟩
      have := List.mem_of_getElem? hj
      exact List.length_pos_of_mem this
    obtain ⟨m, hm, e1, e2⟩ := (mem_around ns ls _ _).1 (List.mem_of_getElem? hz)
    subst e1
    rw [step _ _ _ hi _ hz, step _ _ _ hj _ hz]
  -- nodes whose darts all have d0's value
  have : ∀ v : Nat, Decidable (∀ x, x < 2 * ls.length → frN ls x = v → g x = g d0) := fun _ => Classical.propDecidable _
  have cls : ∀ p, p ∈ nl ls → decide (∀ x, x < 2 * ls.length → frN ls x = p.1 → g x = g d0) = decide (∀ x, x < 2 * ls.length → frN ls x = p.2 → g x = g d0) := by
    intro p hp
    obtain ⟨i, hi⟩ := List.getElem?_of_mem hp
    have hil : i < ls.length := by
      rcases Nat.lt_or_ge i (nl ls).length with q | q
      · simpa [nl] using q
      · rw [List.getElem?_eq_none q] at hi; cases hi
    obtain ⟨f, t, e, _, _, _⟩ := h.lead hil
    have hpt : ls[i]? = some (ptN ls i) := by simp [ptN, List.getD, hil]
    have := nl_get hpt
    rw [hi, e] at this
    have hp2 : p = (f, t) := by simpa using this
    subst hp2
    have q0 : ((2 * i : Nat) : Int) % 2 = 0 := by omega
    have q1 : (((2 * i : Nat) : Int) / 2).toNat = i := by omega
    have q2 : ((2 * i + 1 : Nat) : Int) % 2 ≠ 0 := by omega
    have q3 : (((2 * i + 1 : Nat) : Int) / 2).toNat = i := by omega
    have d0f : frN ls (2 * i) = f := by unfold frN dFrom; rw [if_pos q0, q1, e]; simp
    have d1f : frN ls (2 * i + 1) = t := by unfold frN dFrom; rw [if_neg q2, q3, e]; simp
    have tw0 : twN (2 * i) = 2 * i + 1 := by unfold twN; rw [if_pos (by omega)]
    have gt : g (2 * i + 1) = g (2 * i) := by rw [← tw0]; exact ht' _ (by omega)
    have nodeN : ∀ x y, x < 2 * ls.length → y < 2 * ls.length → frN ls x = frN ls y → g x = g y := fun x y hx hy e => node x y hx hy (by rw [(h.endsN hx).1, (h.endsN hy).1, e])
    rw [decide_eq_decide]
    constructor
    · intro q x hx hxe
      rw [nodeN x (2 * i + 1) hx (by omega) (by rw [hxe, d1f]), gt]
      exact q _ (by omega) d0f
    · intro q x hx hxe
      rw [nodeN x (2 * i) hx (by omega) (by rw [hxe, d0f]), ← gt]
      exact q _ (by omega) d1f
  have lab : ∀ i, i < ns.length → lb (nl ls) i = 0 := by
    unfold wholeB at hw
    simp only [Bool.and_eq_true] at hw
    intro i hi
    have := allB_get hw.2.2 hi
    simpa using this
  obtain ⟨c1, _, v1, _⟩ := h.endsN hd0
  obtain ⟨c2, _, v2, _⟩ := h.endsN he0
  have := lbAll_class (nl ls) (fun v => decide (∀ x, x < 2 * ls.length → frN ls x = v → g x = g d0)) cls (fun i => i) (fun i j e => by rw [show i = j from e]) (frN ls d0) (frN ls e0) (by
    have a := lab _ v1
    have b := lab _ v2
    unfold lb at a b
    rw [a, b])
  have t0 : decide (∀ x, x < 2 * ls.length → frN ls x = frN ls d0 → g x = g d0) = true := decide_eq_true fun x hx e => node x d0 hx hd0 (by rw [(h.endsN hx).1, c1, e])
  have this' : decide (∀ x, x < 2 * ls.length → frN ls x = frN ls d0 → g x = g d0) = decide (∀ x, x < 2 * ls.length → frN ls x = frN ls e0 → g x = g d0) := this
  rw [t0] at this'
  exact (of_decide_eq_true this'.symm e0 he0 rfl).symm
/-! the areas of the faces -/
theorem crossD_cr {ns ls : List (Int × Int)} (h : WinFacts ns ls) {d : Nat} (hd : d < 2 * ls.length) : (plW ns ls).cr d = 21 * crossD ns ls (d : Int) := by
  show sN ns (frN ls d) * tN ns (toN ls d) - tN ns (frN ls d) * sN ns (toN ls d) = 21 * crossD ns ls (d : Int)
  unfold crossD sN tN
  show _ = 21 * ((ptN ns (frN ls d)).1 * (ptN ns (toN ls d)).2 - (ptN ns (frN ls d)).2 * (ptN ns (toN ls d)).1)
  grind
theorem sum_filter (l : List Nat) (p : Nat → Bool) (f : Nat → Int) : ((l.filter p).map f).sum = (l.map fun x => if p x = true then f x else 0).sum := by
  induction l with
  | nil => rfl
  | cons x t ih =>
    cases hp : p x
    · rw [List.filter_cons_of_neg (by rw [hp]; simp), ih]; simp [hp]
    · rw [List.filter_cons_of_pos hp, List.map_cons, List.sum_cons, ih]; simp [hp]
/-- the area of a walk, as a sum over all darts -/
theorem sum_mem {M : Nat} {l : List Nat} (hn : l.Nodup) (hl : ∀ x, x ∈ l → x < M) (f : Nat → Int) : (l.map f).sum = sm M fun d => if l.contains d = true then f d else 0 := by
  unfold sm
  rw [← sum_filter]
  refine perm_sum (List.Perm.map f ?_)
  refine (List.perm_ext_iff_of_nodup hn (List.nodup_range.filter _)).2 fun a => ?_
  simp only [List.mem_filter, List.mem_range, List.contains_iff_mem]
  exact ⟨fun q => ⟨hl a q, q⟩, fun q => q.2⟩
theorem areaL_walk {ns ls : List (Int × Int)} (h : WinFacts ns ls) {d : Nat} (hd : d < 2 * ls.length) : (plW ns ls).AR (fun x => (wk (nxN ns ls) (2 * ls.length) d).contains x) = 21 * areaL ns ls (walkI ns ls d) := by
  have T := next_turns h
  have e1 : areaL ns ls (walkI ns ls d) = ((wk (nxN ns ls) (2 * ls.length) d).map fun x : Nat => crossD ns ls (x : Int)).sum := by
    unfold areaL walkI; rw [List.map_map]; rfl
  rw [e1, sum_mem (T.wk_nodup hd) (fun x hx => T.wk_lt hd hx)]
  rw [← sm_mul]
  unfold Pl.AR
  refine sm_congr fun x hx => ?_
  rw [crossD_cr h hx]
  split <;> omega
theorem wk_inv {ns ls : List (Int × Int)} (h : WinFacts ns ls) {d : Nat} (hd : d < 2 * ls.length) : (plW ns ls).Inv (fun x => (wk (nxN ns ls) (2 * ls.length) d).contains x) := by
  have T := next_turns h
  intro x hx
  have hx' : x < 2 * ls.length := hx
  show (wk (nxN ns ls) (2 * ls.length) d).contains (nxN ns ls x) = (wk (nxN ns ls) (2 * ls.length) d).contains x
  rw [Bool.eq_iff_iff, List.contains_iff_mem, List.contains_iff_mem]
  have hnx : nxN ns ls x ∈ wk (nxN ns ls) (2 * ls.length) x := (T.mem_wk hx' _).2 ⟨1, rfl⟩
  constructor
  · intro q; exact T.wk_trans hd q (T.wk_symm hx' hnx)
  · intro q; exact T.wk_trans hd q hnx
theorem faces_is {ns ls : List (Int × Int)} (hw : wholeB ns ls = true) : facesF ns ls = fcI ns ls (2 * ls.length) := by unfold facesF; rw [hw, if_pos rfl]
theorem face_wk {ns ls : List (Int × Int)} (hw : wholeB ns ls = true) {i : Nat} {l : List Int} (hi : (facesF ns ls)[i]? = some l) : ∃ d, d < 2 * ls.length ∧ l = walkI ns ls d := by
  rw [faces_is hw] at hi
  unfold fcI at hi
  rw [List.getElem?_map] at hi
  cases hf : (fc (nxN ns ls) (2 * ls.length) (2 * ls.length))[i]? with
  | none => rw [hf] at hi; cases hi
  | some l' =>
    rw [hf] at hi
    obtain ⟨d, hd, e⟩ := fc_wk _ _ _ _ (List.mem_of_getElem? hf)
    refine ⟨d, hd, ?_⟩
    subst e
    have : List.map (fun x : Nat => (x : Int)) (wk (nxN ns ls) (2 * ls.length) d) = l := by simpa using hi
    exact this.symm
theorem whole_win {ns ls : List (Int × Int)} (hw : wholeB ns ls = true) : winOkB ns ls = true ∧ 0 < ls.length := by
  unfold wholeB at hw; simp only [Bool.and_eq_true, decide_eq_true_iff] at hw; exact ⟨hw.1, hw.2.1⟩
/-- of the faces of a whole window just one has an area that is not positive -/
theorem one_outer {ns ls : List (Int × Int)} (hw : wholeB ns ls = true) : ∃ k, k < (facesF ns ls).length ∧ ∀ i l, (facesF ns ls)[i]? = some l → (areaL ns ls l ≤ 0 ↔ i = k) := by
  obtain ⟨hok, hl0⟩ := whole_win hw
  have h := win_facts hok
  have T := next_turns h
  obtain ⟨d0, hd0, A⟩ := (h.plane).areas (h.hangs hw) (n := 440) (fun d hd => by
    obtain ⟨_, _, v1, _⟩ := h.endsN hd
    have b := h.inBox v1
    show 0 ≤ sN ns (frN ls d) ∧ sN ns (frN ls d) ≤ 440
    unfold sN; omega) (show 0 < 2 * ls.length by omega)
  have hd0' : d0 < 2 * ls.length := hd0
  obtain ⟨l0, hl0', hm0⟩ := faces_all hw hd0'
  obtain ⟨k, hk⟩ := List.getElem?_of_mem hl0'
  have hkl : k < (facesF ns ls).length := by
    rcases Nat.lt_or_ge k (facesF ns ls).length with q | q
    · exact q
    · rw [List.getElem?_eq_none q] at hk; cases hk
  refine ⟨k, hkl, fun i l hi => ?_⟩
  obtain ⟨d, hd, rfl⟩ := face_wk hw hi
  have a := A _ (wk_inv h hd)
  rw [areaL_walk h hd] at a
  have mem : ∀ x : Nat, (x : Int) ∈ walkI ns ls d ↔ x ∈ wk (nxN ns ls) (2 * ls.length) d := fun x => by
    unfold walkI
    rw [List.mem_map]
    constructor
    · rintro ⟨y, hy, e⟩
      rw [show x = y by omega]; exact hy
    · intro q; exact ⟨x, q, rfl⟩
  constructor
  · intro q
    apply Classical.byContradiction
    intro hne
    have hno : ¬ (d0 : Int) ∈ walkI ns ls d := fun hm => hne (faces_one hw hi hk hm hm0)
    have := a.2 (by rw [← Bool.not_eq_true, List.contains_iff_mem]; exact fun w => hno ((mem d0).2 w)) ⟨d, hd, by rw [List.contains_iff_mem]; exact T.self_wk hd⟩
    omega
  · intro q
    subst q
    have : l0 = walkI ns ls d := by rw [hk] at hi; exact Option.some.inj hi
    rw [this] at hm0
    have := a.1 (by rw [List.contains_iff_mem]; exact (mem d0).1 hm0)
    omega
/-- the areas of the first faces together are the sum over their darts -/
theorem fc_sum {f : Nat → Nat} {N : Nat} (T : Turns f N) (g : Nat → Int) : ∀ n, n ≤ N → ((fc f N n).map fun l => (l.map g).sum).sum = sm N fun d => if (fc f N n).any (·.contains d) = true then g d else 0
  | 0, _ => by
    rw [sm_nil (fun i _ => by simp [fc])]; rfl
  | n + 1, hn => by
    have ih := fc_sum T g n (by omega)
    cases hc : (fc f N n).any (·.contains n)
    · rw [fc_no hc, List.map_append, List.sum_append, ih]
      have e : ([wk f N n].map fun l => (l.map g).sum).sum = sm N fun d => if (wk f N n).contains d = true then g d else 0 := by
        rw [← sum_mem (T.wk_nodup (by omega)) (fun x hx => T.wk_lt (by omega) hx)]; simp
      rw [e, ← sm_add]
      refine sm_congr fun d _ => ?_
      rw [List.any_append]
      have far : (fc f N n).any (·.contains d) = true → (wk f N n).contains d = true → False := fun h1 h2 => by
        obtain ⟨l, hl, hd⟩ := (fc_any f N n d).1 h1
        obtain ⟨e, he, rfl⟩ := fc_wk f N n l hl
        have hw : d ∈ wk f N n := by simpa using h2
        have h3 : n ∈ wk f N e := T.wk_trans (by omega) hd (T.wk_symm (by omega) hw)
        have : (fc f N n).any (·.contains n) = true := (fc_any f N n n).2 ⟨_, hl, h3⟩
        rw [hc] at this; cases this
      cases h1 : (fc f N n).any (·.contains d) <;> cases h2 : (wk f N n).contains d
      · have h2' : ¬ d ∈ wk f N n := by simpa using h2
        simp [h2']
      · have h2' : d ∈ wk f N n := by simpa using h2
        simp [h2']
      · simp
      · exact (far h1 h2).elim
    · rw [fc_yes hc]; exact ih
theorem all_cross {ns ls : List (Int × Int)} (h : WinFacts ns ls) : sm (2 * ls.length) (fun d => crossD ns ls (d : Int)) = 0 := by
  have a := (h.plane).area_all
  have e : sm (2 * ls.length) (plW ns ls).cr = 21 * sm (2 * ls.length) (fun d => crossD ns ls (d : Int)) := by
    rw [← sm_mul]; exact sm_congr fun d hd => crossD_cr h hd
  have a' : sm (2 * ls.length) (plW ns ls).cr = 0 := a
  omega
theorem fcI_area (ns ls : List (Int × Int)) (n : Nat) : (fcI ns ls n).map (areaL ns ls) = (fc (nxN ns ls) (2 * ls.length) n).map fun l => (l.map fun x : Nat => crossD ns ls (x : Int)).sum := by
  unfold fcI
  rw [List.map_map]
  refine List.map_congr_left fun l _ => ?_
  show areaL ns ls (l.map _) = _
  unfold areaL; rw [List.map_map]; rfl
/-- the areas of all walks together are 0 -/
theorem areas_zero {ns ls : List (Int × Int)} (h : WinFacts ns ls) : ((fcI ns ls (2 * ls.length)).map (areaL ns ls)).sum = 0 := by
  have T := next_turns h
  rw [fcI_area, fc_sum T _ _ (Nat.le_refl _), ← all_cross h]
  refine sm_congr fun d hd => ?_
  rw [if_pos ((fc_any _ _ _ _).2 (T.fc_all _ (Nat.le_refl _) d hd))]
end Go.Proofs.Ytdhppajfdcfikaa

/- What the laws' helpers do that mark a slice of slices of ints, look for the marks and compare two of them. No condition but the sizes that are named. -/
namespace Go.Proofs.Ytdhppajfdcfikaa
open Go.ChangeShapes Go.WideShapes Go.ChangeAt Go.RowKit
set_option maxHeartbeats 2000000
set_option linter.unusedSimpArgs false
set_option linter.unusedVariables false
def tot (fs : List (List Int)) : Nat := (fs.map List.length).sum
theorem tot_take {fs : List (List Int)} {i : Nat} {l : List Int} (h : fs[i]? = some l) : tot (fs.take (i + 1)) = tot (fs.take i) + l.length := by
  unfold tot; rw [List.take_add_one, h]; simp
theorem tot_take_le (fs : List (List Int)) (i : Nat) : tot (fs.take i) ≤ tot fs := by
  conv => rhs; rw [← List.take_append_drop i fs]
  unfold tot; rw [List.map_append, List.sum_append]; omega
/-- the first i rows hold marks -/
def mixSS (k : Int) (fs : List (List Int)) (i : Nat) : List (List Int) := (List.range fs.length).map fun j => if j < i then marks (k + (tot (fs.take j) : Int)) (fs.getD j []).length else fs.getD j []
def allSS (k : Int) (fs : List (List Int)) : List (List Int) := mixSS k fs fs.length
theorem mixSS_len (k : Int) (fs : List (List Int)) (i : Nat) : (mixSS k fs i).length = fs.length := by simp [mixSS]
theorem mixSS_lt {k : Int} {fs : List (List Int)} {i j : Nat} {l : List Int} (h : fs[j]? = some l) (hj : j < i) : (mixSS k fs i)[j]? = some (marks (k + (tot (fs.take j) : Int)) l.length) := by
  have hl : j < fs.length := by
    rcases Nat.lt_or_ge j fs.length with q | q
    · exact q
    · rw [List.getElem?_eq_none q] at h; cases h
  unfold mixSS
  rw [List.getElem?_map, List.getElem?_range hl]
  simp [hj, List.getD, h]
theorem mixSS_ge {k : Int} {fs : List (List Int)} {i j : Nat} {l : List Int} (h : fs[j]? = some l) (hj : i ≤ j) : (mixSS k fs i)[j]? = some l := by
  have hl : j < fs.length := by
    rcases Nat.lt_or_ge j fs.length with q | q
    · exact q
    · rw [List.getElem?_eq_none q] at h; cases h
  unfold mixSS
  rw [List.getElem?_map, List.getElem?_range hl]
  simp [show ¬ j < i by omega, List.getD, h]
theorem mixSS_zero (k : Int) (fs : List (List Int)) : mixSS k fs 0 = fs := by
  apply List.ext_getElem?
  intro j
  cases h : fs[j]? with
  | some l => exact mixSS_ge h (by omega)
  | none =>
    rw [List.getElem?_eq_none_iff] at h ⊢
    rw [mixSS_len]; exact h
/-- a row of ints in its own block is written -/
theorem RowsOf.write {B i : Nat} {w w' : World} {us : List Value} {fs : List (List Int)} {k : Int} {u : Value} {l : List Int} (h : RowsOf B w us (mixSS k fs i)) (hu : us[i]? = some u) (hl : fs[i]? = some l)
    (hg : w.grownBy w' u.ownBlock) (ho : OwnInts B w' u (marks (k + (tot (fs.take i) : Int)) l.length)) : RowsOf B w' us (mixSS k fs (i + 1)) := by
  have hlen := h.len
  rw [mixSS_len] at hlen
  refine ⟨by rw [mixSS_len]; exact hlen, fun j x m hx hm => ?_, h.part⟩
  have hjl : j < fs.length := by
    rcases Nat.lt_or_ge j fs.length with q | q
    · exact q
    · rw [List.getElem?_eq_none (by omega)] at hx; cases hx
  obtain ⟨lj, hlj⟩ : ∃ lj, fs[j]? = some lj := ⟨_, List.getElem?_eq_getElem hjl⟩
  by_cases e : j = i
  · subst e
    rw [hu] at hx
    rw [mixSS_lt hlj (by omega)] at hm
    rw [hl] at hlj
    cases hx; cases hm; cases hlj
    exact ho
  · have same : (mixSS k fs (i + 1))[j]? = (mixSS k fs i)[j]? := by
      rcases Nat.lt_or_ge j i with q | q
      · rw [mixSS_lt hlj (by omega), mixSS_lt hlj q]
      · rw [mixSS_ge hlj (by omega), mixSS_ge hlj q]
    rw [same] at hm
    have h9 := h.at_ j x m hx hm
    refine World.ownsRow.kept h9 hg ?_
    cases hb : x.ownBlock with
    | none => exact .inl rfl
    | some g =>
      refine .inr fun e2 => ?_
      have hp := h.part
      unfold Parted at hp
      rw [List.pairwise_iff_getElem] at hp
      have li : i < us.length := by
        rcases Nat.lt_or_ge i us.length with q | q
        · exact q
        · rw [List.getElem?_eq_none q] at hu; cases hu
      have lj : j < us.length := by omega
      rw [List.getElem?_eq_getElem li] at hu
      rw [List.getElem?_eq_getElem lj] at hx
      have hu' : us[i] = u := Option.some.inj hu
      have hx' : us[j] = x := Option.some.inj hx
      rcases Nat.lt_or_ge j i with q | q
      · have := hp j i lj li q g (by rw [hx']; exact hb)
        rw [hu'] at this
        exact this e2.symm
      · have := hp i j li lj (by omega) g (by rw [hu']; exact e2.symm)
        rw [hx'] at this
        exact this hb
theorem apart_ints {B B' n m : Nat} {w : World} {v u : Value} {us xs : List Value} (h : w.ownsRow B 37 1 v n us) (h2 : w.ownsRow B' 3 1 u m xs) : v.ownBlock = none ∨ v.ownBlock ≠ u.ownBlock := by
  rcases h.2 with ⟨a, _⟩ | ⟨g, _, cur, a, _, b, _⟩
  · exact .inl (by rw [a]; rfl)
  · refine .inr fun e => ?_
    rcases h2.2 with ⟨a2, _⟩ | ⟨g2, _, cur2, a2, _, b2, _⟩
    · rw [a, a2] at e; simp [Value.ownBlock] at e
    · rw [a, a2] at e
      have e' : g = g2 := by simpa [Value.ownBlock] using e
      subst e'
      rw [b] at b2
      injection b2 with b2
      injection b2 with _ b2 _
      exact absurd b2 (by decide)
theorem grown_ints {B n : Nat} {w w' : World} {v : Value} {xs : List Value} {e : TypeId} (h : w.grownBy w' v.ownBlock) (ho : w.ownsRow B e 1 v n xs) (hB : B ≤ w.heap.size) : Below B w w' := by
  refine ⟨h.os, h.tape, h.output, h.size, fun k hk => h.block k (by omega) (fun e => ?_)⟩
  have := World.ownsRow.lt ho k e.symm
  omega
theorem row_cell {w : World} {B n c : Nat} {A : Option Addr} {us : List Value} {e : TypeId} (h : w.ownsRow B e 1 (.slice A n c) n us) {i : Nat} {u : Value} (hu : us[i]? = some u) : ∃ g, A = some ⟨g, 0, none⟩ ∧ w.cell? ⟨g, i, none⟩ = some u := by
  rcases h.2 with ⟨a, b⟩ | ⟨g, cap, cur, a, _⟩
  · exfalso
    have := h.1
    have : us = [] := List.length_eq_zero_iff.1 (by omega)
    rw [this] at hu; simp at hu
  · injection a with a _ _
    refine ⟨g, a, ?_⟩
    subst a
    have := World.ownsRow.cells h (g := g) rfl i u hu
    have hadd : (⟨g, 0, none⟩ : Addr).add i = ⟨g, i, none⟩ := by unfold Addr.add; split <;> simp_all
    rw [hadd] at this
    exact this
theorem markIntSS_any (B : Nat) (v : Value) (fs : List (List Int)) (k : Int) (w : World) (h : OwnSS B w v fs) (hn : fs.length ≤ 1000) (ht : tot fs ≤ 1000000) (h0 : 0 ≤ k) (h1 : k ≤ 1000) (hB : B ≤ w.heap.size) : Calls Try.prog 40 #[v, .int .i64 k] w fun e w' => e = .returned (.int .i64 (k + (tot fs : Int))) ∧ OwnSS B w' v (allSS k fs) ∧ Below B w w' := by
  obtain ⟨us, ho, hr⟩ := h
  have HL := hid hr.len
  rw [HL.out] at ho
  obtain ⟨A, c, rfl⟩ := row_form ho
  have HO := hid ho
  have HR := hid hr
  clear ho hr
  go_enter Try.func40, Try.ntmps40
  go_wp2_with fail
  go_loopw [1, 5] (fun s i wr => ∃ j : Nat, j ≤ fs.length ∧ i = .int .i64 j ∧ s = .int .i64 (k + (tot (fs.take j) : Int)) ∧ Hid (wr.ownsRow B 37 1 (.slice A fs.length c) fs.length us) ∧ Hid (RowsOf B wr us (mixSS k fs j)) ∧ Hid (Below B w wr)) (fun _ i _ => fs.length - (intOf i).toNat)
  case atStart => exact ⟨0, Nat.zero_le _, rfl, by simp [tot], HO, by rw [mixSS_zero]; exact HR, hid (Below.refl _ _)⟩
  case round =>
    clear HO HR
    obtain ⟨j, hj, rfl, rfl, HO, HR, HB⟩ := hrel
    by_cases hlt : j < fs.length
    · obtain ⟨l, hx⟩ : ∃ l, fs[j]? = some l := ⟨_, List.getElem?_eq_getElem (by omega)⟩
      obtain ⟨u, hu⟩ : ∃ u, us[j]? = some u := ⟨_, List.getElem?_eq_getElem (by rw [HL.out]; exact hlt)⟩
      have hI := HR.out.at_ j u l hu (mixSS_ge hx (Nat.le_refl _))
      obtain ⟨g, rfl, hc⟩ := row_cell HO.out hu
      obtain ⟨Au, cu, rfl⟩ := own_form hI
      have htk := tot_take hx
      have htl := tot_take_le fs (j + 1)
      have HX := hid hx
      have HU := hid hu
      have HI := hid hI
      have HT := hid htk
      have hj0 : (0 : Int) ≤ (j : Int) := by omega
      have hj1 : (j : Int) < (fs.length : Int) := by omega
      have hk1 : k + (tot (fs.take j) : Int) ≤ 1000000000 := by omega
      have hll : l.length ≤ 1000000000 := by omega
      clear hI hx hu htk htl
      generalize hs : k + (tot (fs.take j) : Int) = s at hk1 ⊢
      have HS := hid hs
      have hs0 : 0 ≤ s := by omega
      clear hs
      go_wp2_with fail
      refine (markIntS_any B _ l s _ HI.out hll hs0 hk1).mono ?_
      rintro e w3 ⟨rfl, ho3, hg⟩
      have R3 := hid (HR.out.write HU.out HX.out hg (by rw [HS.out]; exact ho3))
      have O3 := hid (World.ownsRow.kept HO.out hg (apart_ints HO.out HI.out))
      have B3 := hid (HB.out.trans (grown_ints hg HI.out (Nat.le_trans hB HB.out.size)))
      clear hg ho3 hc
      go_wp2
      go_roundw
      case rel => exact ⟨j + 1, by omega, by go_num, by rw [HT.out]; have := HS.out; go_num, O3, R3, B3⟩
      case measure => simp [intOf]; omega
    · have he : j = fs.length := by omega
      subst he
      go_wp2
      go_ret
      exact ⟨ret_int (by rw [List.take_length]), ⟨us, by rw [HL.out]; exact HO.out, HR.out⟩, HB.out⟩
theorem heldIntSS_any (v : Value) (fs : List (List Int)) (k : Int) (w : World) (h : SSAt w v (allSS k fs)) (hn : fs.length ≤ 1000) (ht : tot fs ≤ 1000000) (h0 : 0 ≤ k) (h1 : k ≤ 1000) : Calls Try.prog 41 #[v, .int .i64 k] w fun e w' => e = .returned (.int .i64 (k + (tot fs : Int))) ∧ w = w' := by
  obtain ⟨A, c, rfl, _, hc⟩ := h
  unfold allSS at hc ⊢
  rw [mixSS_len]
  have HC := hid hc
  clear hc
  go_enter Try.func41, Try.ntmps41
  go_wp2_with fail
  go_loop [1, 5] (fun s i => ∃ j : Nat, j ≤ fs.length ∧ i = .int .i64 j ∧ s = .int .i64 (k + (tot (fs.take j) : Int))) (fun _ i => fs.length - (intOf i).toNat)
  case atStart => exact ⟨0, Nat.zero_le _, rfl, by simp [tot]⟩
  case round =>
    obtain ⟨j, hj, rfl, rfl⟩ := hrel
    by_cases hlt : j < fs.length
    · obtain ⟨l, hx⟩ : ∃ l, fs[j]? = some l := ⟨_, List.getElem?_eq_getElem hlt⟩
      obtain ⟨b, off, u, rfl, hbb, hcell, hI⟩ := HC.out j _ (mixSS_lt hx hlt)
      have htk := tot_take hx
      have htl := tot_take_le fs (j + 1)
      have HT := hid htk
      have HI := hid hI
      have hj0 : (0 : Int) ≤ (j : Int) := by omega
      have hj1 : (j : Int) < (fs.length : Int) := by omega
      have hk1 : k + (tot (fs.take j) : Int) ≤ 1000000000 := by omega
      have hk2 : 0 ≤ k + (tot (fs.take j) : Int) + (l.length : Int) := by omega
      have hk3 : k + (tot (fs.take j) : Int) + (l.length : Int) ≤ 1000000000 := by omega
      obtain ⟨Au, cu, rfl, _, _⟩ := id hI
      clear hI hx htk htl
      generalize hs : k + (tot (fs.take j) : Int) = s at hk1 hk2 hk3 ⊢
      have HS := hid hs
      have hs0 : 0 ≤ s := by omega
      clear hs
      go_wp2_with fail
      refine (heldIntS_any _ l.length s _ (by rw [← HS.out]; exact HI.out) hs0 hk1).mono ?_
      rintro e w3 ⟨rfl, rfl⟩
      go_wp2
      go_round
      case rel => exact ⟨j + 1, by omega, by go_num, by rw [HT.out]; have := HS.out; go_num⟩
      case measure => simp [intOf]; omega
    · have he : j = fs.length := by omega
      subst he
      go_wp2
      go_ret
      exact ⟨rfl, rfl⟩
theorem eqIntSS_same (v v' : Value) (fs : List (List Int)) (w : World) (hv : SSAt w v fs) (hv' : SSAt w v' fs) : Calls Try.prog 39 #[v, v'] w fun e w' => e = .returned (.bool true) ∧ Below w.heap.size w w' := by
  obtain ⟨A, c, rfl, hn, hc⟩ := hv
  obtain ⟨A', c', rfl, _, hc'⟩ := hv'
  have HC := hid hc
  have HC' := hid hc'
  clear hc hc'
  go_enter Try.func39, Try.ntmps39
  go_wp2_with fail
  go_loopw [5] (fun i wr => ∃ j : Nat, j ≤ fs.length ∧ i = .int .i64 j ∧ Hid (Below w.heap.size w wr)) (fun i _ => fs.length - (intOf i).toNat)
  case atStart => exact ⟨0, Nat.zero_le _, rfl, hid (Below.refl _ _)⟩
  case round =>
    obtain ⟨j, hj, rfl, HB⟩ := hrel
    by_cases hlt : j < fs.length
    · obtain ⟨l, hx⟩ : ∃ l, fs[j]? = some l := ⟨_, List.getElem?_eq_getElem hlt⟩
      obtain ⟨b, off, u, rfl, hbb, hcell, hI⟩ := HC.out j _ hx
      obtain ⟨b', off', u', rfl, hbb', hcell', hI'⟩ := HC'.out j _ hx
      have hj0 : (0 : Int) ≤ (j : Int) := by omega
      have hj1 : (j : Int) < (fs.length : Int) := by omega
      have TB := fun q => then_ HB.out (below_mv wr q) HB.out.size
      have n1 : ∀ q, (mv wr q).cell? ⟨b, off + j, none⟩ = some u := fun q => ((TB q).cell (p := ⟨b, _, none⟩) hbb).trans hcell
      have n2 : ∀ q, (mv wr q).cell? ⟨b', off' + j, none⟩ = some u' := fun q => ((TB q).cell (p := ⟨b', _, none⟩) hbb').trans hcell'
      have CE := hid (fun q => eqIntS_same u u' l (mv wr q) (hI.below (TB q)) (hI'.below (TB q)))
      clear hI hI' TB hx
      go_wp2_with fail
      refine wp_region_mv (by kernel_rfl) (by kernel_rfl) ?_
      repeat (go_big_quiet_step ((go_at_call 25; exact calls_mv (CE.out _))))
      refine wpQuiet_nil ?_
      intro _ hw'
      obtain ⟨q, hw''⟩ := hw'
      subst hw''
      have HB3 := hid (then_ HB.out (below_mv wr q) HB.out.size)
      clear n1 n2 CE
      go_wp2
      go_roundw
      case rel => exact ⟨j + 1, by omega, by go_num, HB3⟩
      case measure => simp [intOf]; omega
    · have he : j = fs.length := by omega
      subst he
      go_wp2
      go_ret
      exact ⟨rfl, HB.out⟩
/-- the marks on a window leave the rows as they are -/
theorem OwnSS.marked {B B' : Nat} {w w' : World} {v p1 p2 : Value} {fs : List (List Int)} {ns ls : List (Int × Int)} (h : OwnSS B w v fs) (h1 : OwnPairs B' 71 w p1 ns) (h2 : OwnPairs B' 73 w p2 ls)
    (hk : ∀ j, j < w.heap.size → some j ≠ p1.ownBlock → some j ≠ p2.ownBlock → w'.heap[j]? = w.heap[j]?) (hs : w.heap.size ≤ w'.heap.size) : OwnSS B w' v fs := by
  obtain ⟨g1, rfl, _, _, b1⟩ := h1
  obtain ⟨g2, rfl, _, _, b2⟩ := h2
  have keep : ∀ {B n : Nat} {e : TypeId} {x : Value} {xs : List Value}, e ≠ 71 → e ≠ 73 → w.ownsRow B e 1 x n xs → w'.ownsRow B e 1 x n xs := fun {B n e x xs} n1 n2 ho => by
    refine ⟨ho.1, ?_⟩
    rcases ho.2 with q | ⟨g, cap, cur, a1, a2, a3, a4⟩
    · exact .inl q
    · refine .inr ⟨g, cap, cur, a1, a2, ?_, a4⟩
      rw [hk g (Array.getElem?_eq_some_iff.1 a3).1 (fun q => ?_) (fun q => ?_)]
      · exact a3
      · have q' : g = g1 := by simpa [Value.ownBlock] using q
        subst q'
        unfold Blk at b1
        rw [b1] at a3
        injection a3 with a3
        injection a3 with _ a3 _
        exact n1 a3.symm
      · have q' : g = g2 := by simpa [Value.ownBlock] using q
        subst q'
        unfold Blk at b2
        rw [b2] at a3
        injection a3 with a3
        injection a3 with _ a3 _
        exact n2 a3.symm
  obtain ⟨us, ho, hr⟩ := h
  exact ⟨us, keep (by decide) (by decide) ho, hr.len, fun i u l hu hl => keep (by decide) (by decide) (hr.at_ i u l hu hl), hr.part⟩
theorem tot_le (m : Nat) : ∀ fs : List (List Int), (∀ l, l ∈ fs → l.length ≤ m) → tot fs ≤ m * fs.length
  | [], _ => by simp [tot]
  | l :: t, h => by
    have h1 := h l (List.mem_cons_self ..)
    have h2 := tot_le m t fun x hx => h x (List.mem_cons_of_mem _ hx)
    unfold tot at h2 ⊢
    rw [List.map_cons, List.sum_cons, List.length_cons, Nat.mul_add]
    omega
theorem face_len {ns ls : List (Int × Int)} {l : List Int} (h : l ∈ facesF ns ls) : l.length ≤ 40 := by
  obtain ⟨i, hi⟩ := List.getElem?_of_mem h
  obtain ⟨h1, h2, _⟩ := faces_at hi
  have := (win_facts h1).m2
  omega
theorem faces_tot (ns ls : List (Int × Int)) : tot (facesF ns ls) ≤ 1600 := by
  have h1 := tot_le 40 (facesF ns ls) fun l hl => face_len hl
  have h2 := faces_len ns ls
  omega
theorem allSS_ss {B : Nat} {w : World} {v : Value} {ns ls : List (Int × Int)} {k : Int} (h : OwnSS B w v (allSS k (facesF ns ls))) : SSAt w v (allSS k (facesF ns ls)) := by
  refine OwnSS.at_ h ?_ fun i m hm => ?_
  · unfold allSS; rw [mixSS_len]; have := faces_len ns ls; omega
  · unfold allSS at hm
    have hl : i < (facesF ns ls).length := by
      rcases Nat.lt_or_ge i (facesF ns ls).length with q | q
      · exact q
      · rw [List.getElem?_eq_none (by rw [mixSS_len]; exact q)] at hm; cases hm
    obtain ⟨l, hx⟩ : ∃ l, (facesF ns ls)[i]? = some l := ⟨_, List.getElem?_eq_getElem hl⟩
    rw [mixSS_lt hx hl] at hm
    have := face_len (List.mem_of_getElem? hx)
    cases hm
    rw [marks_len]; omega
end Go.Proofs.Ytdhppajfdcfikaa

/- The plain law of the law on faces: what the faces, their areas and their numbers of darts are. No program in sight. -/
namespace Go.Proofs.Ytdhppajfdcfikaa
set_option linter.unusedSimpArgs false
set_option linter.unusedVariables false
theorem sm_list {α : Type} (f : α → Int) (x : α) : ∀ l : List α, (l.map f).sum = sm l.length fun j => f (l.getD j x) := by
  intro l
  have key : ∀ n, n ≤ l.length → ((l.take n).map f).sum = sm n fun j => f (l.getD j x) := by
    intro n
    induction n with
    | zero => intro _; simp [sm_zero]
    | succ n ih =>
      intro hn
      have hx : l[n]? = some (l[n]'(by omega)) := List.getElem?_eq_getElem (by omega)
      rw [sm_succ, ← ih (by omega), List.take_add_one, hx, List.map_append, List.sum_append]
      simp [List.getD, hx]
  have := key l.length (Nat.le_refl _)
  rwa [List.take_length] at this
theorem sm_bd {n : Nat} {f : Nat → Int} {B : Int} (h : ∀ j, j < n → -B ≤ f j ∧ f j ≤ B) : -((n : Int) * B) ≤ sm n f ∧ sm n f ≤ (n : Int) * B := by
  induction n with
  | zero => simp [sm_zero]
  | succ n ih =>
    have h1 := ih fun j hj => h j (by omega)
    have h2 := h n (by omega)
    have e : ((n + 1 : Nat) : Int) * B = (n : Int) * B + B := by rw [show ((n + 1 : Nat) : Int) = (n : Int) + 1 by omega, Int.add_mul, Int.one_mul]
    rw [sm_succ, e]; omega
/-- which face is the wall -/
theorem outer_is {ns ls : List (Int × Int)} (hw : wholeB ns ls = true) : ∃ k, k < (facesF ns ls).length ∧ ofF ns ls = (k : Int) ∧ ∀ i l, (facesF ns ls)[i]? = some l → (areaL ns ls l ≤ 0 ↔ i = k) := by
  obtain ⟨k, hk, h⟩ := one_outer hw
  refine ⟨k, hk, ?_, h⟩
  have hx : (facesF ns ls)[k]? = some ((facesF ns ls)[k]'hk) := List.getElem?_eq_getElem hk
  unfold ofF
  rw [first_is (fun l => decide (areaL ns ls l ≤ 0)) (facesF ns ls) k _ 0 hx (decide_eq_true ((h k _ hx).2 rfl)) (fun j m hj hm => decide_eq_false fun q => by
    have := (h j m hm).1 q
    omega)]
  omega
/-- the first dart of a face -/
theorem face_head {ns ls : List (Int × Int)} (hw : wholeB ns ls = true) {i : Nat} {l : List Int} (hi : (facesF ns ls)[i]? = some l) : ∃ d : Nat, d < 2 * ls.length ∧ l[0]? = some (d : Int) ∧ 0 < l.length ∧ l.length ≤ 40 ∧ waF ns ls d = areaL ns ls l ∧ faF ns ls d = (i : Int) := by
  obtain ⟨hok, hl0⟩ := whole_win hw
  have h := win_facts hok
  have T := next_turns h
  obtain ⟨d, hd, rfl⟩ := face_wk hw hi
  have hper := (T.per_law hd).1
  have h0 : (walkI ns ls d)[0]? = some (d : Int) := by
    unfold walkI
    rw [List.getElem?_map, wk_get _ _ _ _ (by omega)]
    rfl
  have hlen : (walkI ns ls d).length ≤ 40 := face_len (List.mem_of_getElem? hi)
  refine ⟨d, hd, h0, by rw [walkI_len]; omega, hlen, ?_, faF_at hw hi (List.mem_of_getElem? h0)⟩
  have hdart : isDart ns ls (d : Int) = true := by
    unfold isDart inB
    rw [hok]
    simp only [Bool.true_and, decide_eq_true_iff]
    omega
  unfold waF woF
  rw [if_pos hdart]
  rfl
/-- the areas of the first i faces but the wall -/
def smA (ns ls : List (Int × Int)) (k i : Nat) : Int := sm i fun j => if j = k then 0 else areaL ns ls ((facesF ns ls).getD j [])
def smD (ns ls : List (Int × Int)) (i : Nat) : Int := sm i fun j => (((facesF ns ls).getD j []).length : Int)
theorem smA_same {ns ls : List (Int × Int)} {k i : Nat} (h : i = k) : smA ns ls k (i + 1) = smA ns ls k i := by unfold smA; rw [sm_succ, if_pos h]; omega
theorem smA_next {ns ls : List (Int × Int)} {k i : Nat} {l : List Int} (h : i ≠ k) (hx : (facesF ns ls)[i]? = some l) : smA ns ls k (i + 1) = smA ns ls k i + areaL ns ls l := by
  unfold smA; rw [sm_succ, if_neg h]; simp [List.getD, hx]
theorem smD_next {ns ls : List (Int × Int)} {i : Nat} {l : List Int} (hx : (facesF ns ls)[i]? = some l) : smD ns ls (i + 1) = smD ns ls i + (l.length : Int) := by
  unfold smD; rw [sm_succ]; simp [List.getD, hx]
theorem smA_bd (ns ls : List (Int × Int)) (k i : Nat) (hi : i ≤ (facesF ns ls).length) : -100000000 ≤ smA ns ls k i ∧ smA ns ls k i ≤ 100000000 := by
  have h := sm_bd (n := i) (f := fun j => if j = k then 0 else areaL ns ls ((facesF ns ls).getD j [])) (B := 1000000) (fun j hj => by
    split
    · omega
    · obtain ⟨l, hx⟩ : ∃ l, (facesF ns ls)[j]? = some l := ⟨_, List.getElem?_eq_getElem (by omega)⟩
      have := area_small hx
      simp only [List.getD, hx, Option.getD_some]
      omega)
  have hl := faces_len ns ls
  unfold smA
  omega
theorem smD_bd (ns ls : List (Int × Int)) (i : Nat) (hi : i ≤ (facesF ns ls).length) : 0 ≤ smD ns ls i ∧ smD ns ls i ≤ 100000 := by
  have h := sm_bd (n := i) (f := fun j => (((facesF ns ls).getD j []).length : Int)) (B := 40) (fun j hj => by
    obtain ⟨l, hx⟩ : ∃ l, (facesF ns ls)[j]? = some l := ⟨_, List.getElem?_eq_getElem (by omega)⟩
    have := face_len (List.mem_of_getElem? hx)
    simp only [List.getD, hx, Option.getD_some]
    omega)
  have h2 := sm_pos (n := i) (f := fun j => (((facesF ns ls).getD j []).length : Int)) (fun j _ => by omega)
  have hl := faces_len ns ls
  unfold smD
  omega
/-- all faces but the wall together -/
theorem smA_all {ns ls : List (Int × Int)} (hw : wholeB ns ls = true) {k : Nat} (hk : k < (facesF ns ls).length) (hof : ofF ns ls = (k : Int)) (hone : ∀ i l, (facesF ns ls)[i]? = some l → (areaL ns ls l ≤ 0 ↔ i = k)) : smA ns ls k (facesF ns ls).length = taF ns ls := by
  obtain ⟨hok, hl0⟩ := whole_win hw
  have h := win_facts hok
  have hz := areas_zero h
  rw [← faces_is hw, sm_list (areaL ns ls) []] at hz
  obtain ⟨l, hx⟩ : ∃ l, (facesF ns ls)[k]? = some l := ⟨_, List.getElem?_eq_getElem hk⟩
  have e : sm (facesF ns ls).length (fun j => areaL ns ls ((facesF ns ls).getD j [])) = smA ns ls k (facesF ns ls).length + sm (facesF ns ls).length (fun j => if j = k then areaL ns ls ((facesF ns ls).getD j []) else 0) := by
    unfold smA
    rw [← sm_add]
    exact sm_congr fun j _ => by split <;> omega
  have e2 : sm (facesF ns ls).length (fun j => if j = k then areaL ns ls ((facesF ns ls).getD j []) else 0) = areaL ns ls l := by
    rw [sm_one k hk (fun i _ hne => by rw [if_neg hne]), if_pos rfl]
    simp [List.getD, hx]
  have hneg := (hone k l hx).2 rfl
  unfold taF aoF
  rw [hof, if_pos (by unfold inB; simp only [decide_eq_true_iff]; omega)]
  have e3 : (facesF ns ls).getD ((k : Int)).toNat [] = l := by simp [List.getD, hx]
  rw [e3]
  unfold absI
  split <;> omega
theorem smD_all {ns ls : List (Int × Int)} (hw : wholeB ns ls = true) : smD ns ls (facesF ns ls).length = 2 * (ls.length : Int) := by
  obtain ⟨hok, hl0⟩ := whole_win hw
  have h := win_facts hok
  have T := next_turns h
  have e := fc_sum T (fun _ => 1) (2 * ls.length) (Nat.le_refl _)
  have e2 : sm (2 * ls.length) (fun d => if (fc (nxN ns ls) (2 * ls.length) (2 * ls.length)).any (·.contains d) = true then (1 : Int) else 0) = 2 * (ls.length : Int) := by
    have : sm (2 * ls.length) (fun d => if (fc (nxN ns ls) (2 * ls.length) (2 * ls.length)).any (·.contains d) = true then (1 : Int) else 0) = sm (2 * ls.length) (fun _ => 1) :=
      sm_congr fun d hd => by rw [if_pos ((fc_any _ _ _ _).2 (T.fc_all _ (Nat.le_refl _) d hd))]
    rw [this]
    have one : ∀ n, sm n (fun _ => 1) = (n : Int) := fun n => by
      induction n with
      | zero => rfl
      | succ n ih => rw [sm_succ, ih]; omega
    rw [one]; omega
  rw [e2] at e
  unfold smD
  rw [← sm_list (fun l : List Int => (l.length : Int)) [], faces_is hw, ← e]
  unfold fcI
  rw [List.map_map]
  congr 1
  refine List.map_congr_left fun l hmem => ?_
  clear hmem
  show ((l.map fun x : Nat => (x : Int)).length : Int) = _
  rw [List.length_map]
  clear e e2
  induction l with
  | nil => rfl
  | cons x t ih =>
    rw [List.map_cons, List.sum_cons, ← ih, List.length_cons]; omega
end Go.Proofs.Ytdhppajfdcfikaa
