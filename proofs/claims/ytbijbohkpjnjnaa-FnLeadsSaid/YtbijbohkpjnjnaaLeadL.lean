/- What the law FnLeads asks of leads. No program in sight. -/
import Derived.Test.YtbijbohkpjnjnaaAroundP
namespace Go.Proofs.Ytbijbohkpjnjnaa
open Go.ChangeShapes Go.WideShapes Go.ChangeAt Go.RowKit
set_option maxHeartbeats 1000000
set_option linter.unusedSimpArgs false
set_option linter.unusedVariables false
theorem cross_comm (a b c d : Int × Int) : crossB c d a b = crossB a b c d := by
  have h1 : sameB c d a b = sameB a b c d := by
    unfold sameB
    rw [eqP_comm c.1, eqP_comm d.1, eqP_comm c.1 c.2 b.1, eqP_comm d.1 d.2 a.1]
    cases eqP a.1 a.2 c.1 c.2 <;> cases eqP b.1 b.2 d.1 d.2 <;> cases eqP b.1 b.2 c.1 c.2 <;> cases eqP a.1 a.2 d.1 d.2 <;> rfl
  have h2 : midB c d a b = midB a b c d := by
    unfold midB
    cases betw a.1 a.2 b.1 b.2 c.1 c.2 <;> cases betw a.1 a.2 b.1 b.2 d.1 d.2 <;> cases betw c.1 c.2 d.1 d.2 a.1 a.2 <;> cases betw c.1 c.2 d.1 d.2 b.1 b.2 <;> rfl
  have h3 : overB c d a b = overB a b c d := by unfold overB; exact Bool.and_comm _ _
  unfold crossB
  rw [h1, h2, h3]
theorem doCross_comm (ns : List (Int × Int)) (f t g u : Int) : doCrossB ns g u f t = doCrossB ns f t g u := by
  unfold doCrossB
  rw [cross_comm]
  cases leadOkB ns f t <;> cases leadOkB ns g u <;> rfl
theorem doCross_self (ns : List (Int × Int)) (f t : Int) : doCrossB ns f t f t = leadOkB ns f t := by
  have : crossB (atP ns f) (atP ns t) (atP ns f) (atP ns t) = true := by
    unfold crossB sameB eqP
    simp
  unfold doCrossB
  rw [this]
  cases leadOkB ns f t <;> rfl
theorem share_comm (f t g u : Int) : shareF g u f t = shareF f t g u := by
  unfold shareF
  rw [Bool.eq_iff_iff, decide_eq_true_iff, decide_eq_true_iff]
  constructor <;> (rintro (h | h | h | h) <;> simp [h])
theorem onSeg_ends (a b : Int × Int) : onSeg a b (a.1, a.2) = true ∧ onSeg a b (b.1, b.2) = true := by
  unfold onSeg eqP
  simp
/-- a lead of a valid window -/
theorem lead_round {ns ls : List (Int × Int)} (hok : winOkB ns ls = true) {k : Nat} (hk : k < ls.length) : ∃ f t : Nat, ls[k]? = some ((f : Int), (t : Int)) ∧ f < t ∧ t < ns.length ∧ leadOkB ns (f : Int) (t : Int) = true ∧
    onLeadB ns (f : Int) (t : Int) (ptN ns f).1 (ptN ns f).2 = true ∧ onLeadB ns (f : Int) (t : Int) (ptN ns t).1 (ptN ns t).2 = true ∧ otherF (f : Int) (t : Int) (f : Int) = (t : Int) ∧ otherF (f : Int) (t : Int) (t : Int) = (f : Int) ∧
    ∀ i, i < k → ∃ g u : Int, ls[i]? = some (g, u) ∧ doCrossB ns (f : Int) (t : Int) g u = false := by
  have F := win_facts hok
  obtain ⟨f, t, e, h1, h2, h3⟩ := F.lead hk
  have hg : ∀ j, j < ls.length → ls[j]? = some (ptN ls j) := fun j hj => by
    unfold ptN
    simp [List.getD, List.getElem?_eq_getElem hj]
  refine ⟨f, t, by rw [hg k hk, e], h1, h2, h3, ?_, ?_, ?_, ?_, ?_⟩
  · unfold onLeadB; rw [h3, atP_nat, atP_nat, (onSeg_ends _ _).1]; rfl
  · unfold onLeadB; rw [h3, atP_nat, atP_nat, (onSeg_ends _ _).2]; rfl
  · unfold otherF; rw [if_pos rfl]
  · unfold otherF; rw [if_neg (by omega), if_pos rfl]
  · intro i hi
    refine ⟨(ptN ls i).1, (ptN ls i).2, hg i (by omega), ?_⟩
    have hl := F.line k hk
    simp only [leadLine, Bool.and_eq_true] at hl
    have := allB_get hl.2.1 hi
    rw [e] at this
    simpa using this
end Go.Proofs.Ytbijbohkpjnjnaa
