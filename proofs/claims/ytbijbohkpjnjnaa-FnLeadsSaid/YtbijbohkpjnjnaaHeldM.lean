/- A region that draws its order: a call of which it is known what it returns, and that it changes no old block, may be taken first, like a load. No condition. -/
import Derived.Test.YtbijbohkpjnjnaaHeld
namespace Go.Proofs.Ytbijbohkpjnjnaa
open Go.ChangeShapes Go.WideShapes Go.ChangeAt Go.RowKit
set_option linter.unusedVariables false
section
variable {P : Program} {ops : Array Oper} {Q : Exit → Act → World → Prop} {md : Region.Mode} {S : World → Prop} {fuel : Nat} {listed : Array Bool} {a : Act} {w : World}
/-- in every world that meets S the operation yields v and leaves the old blocks as they are and S true -/
def YieldsM (P : Program) (ops : Array Oper) (S : World → Prop) (o : Oper) (v : Value) (a : Act) : Prop :=
  (Region.wanted o (yielded ops a.tmps) = true ∧ ∀ w, S w → ((execOp a.eval o).run P w = .ok (.value v) w ∨ ∃ f args, (execOp a.eval o).run P w = .ok (.enter f args) w ∧ Calls P f args w fun e w' => e = .returned v ∧ Below w.heap.size w w' ∧ S w')) ∨
  (Region.wanted o (yielded ops a.tmps) = false ∧ v = undef)
theorem YieldsM.wpOp {i : Nat} {o : Oper} {v : Value} {a : Act} (hi : ops[i]? = some o) (hy : YieldsM P ops S o v a) {K : Act → World → Prop} {w : World} (hS : S w)
    (h : ∀ w', Below w.heap.size w w' → S w' → K (a.put o.dst v) w') : wpOp P ops Q i K a w := by
  unfold Go.wpOp
  simp only [hi]
  rcases hy with ⟨hw, hv⟩ | ⟨hw, rfl⟩
  · simp only [hw, if_true]
    refine .inl ?_
    unfold Oper.wp
    rcases hv w hS with hv | ⟨f, args, hv, hc⟩
    · simp only [hv, Oper.upon]; exact h w (Below.refl _ _) hS
    · simp only [hv, Oper.upon]
      refine hc.mono ?_
      rintro e w' ⟨rfl, hb, hs⟩
      exact h w' hb hs
  · simp only [hw, Bool.false_eq_true, if_false]; exact h w (Below.refl _ _) hS
theorem YieldsM.of_same {o : Oper} {v : Value} {a a' : Act} (hy : YieldsM P ops S o v a) (he : execOp a'.eval o = execOp a.eval o)
    (hw : Region.wanted o (yielded ops a'.tmps) = Region.wanted o (yielded ops a.tmps)) : YieldsM P ops S o v a' := by
  unfold YieldsM at *
  rw [he, hw]
  exact hy
theorem wpOp_putM {j : Nat} {oi oj : Oper} {v : Value} (hj : ops[j]? = some oj) (hap : oi.apart ops oj = true)
    (hsi : ∀ cs b, oi.op ≠ .select cs b) (hsj : ∀ cs b, oj.op ≠ .select cs b)
    (hQ : ∀ c a w, Q (.panic c) (a.put oi.dst v) w → Q (.panic c) a w) {K : Act → World → Prop} {a : Act} {w : World}
    (hy : YieldsM P ops S oi v a) (h : wpOp P ops Q j K (a.put oi.dst v) w) :
    wpOp P ops Q j (fun a' w' => YieldsM P ops S oi v a' ∧ K (a'.put oi.dst v) w') a w := by
  obtain ⟨h1, h2, h3⟩ := Oper.apart_spec hap
  have keep : ∀ (a : Act), YieldsM P ops S oi v a → ∀ u, YieldsM P ops S oi v (a.put oj.dst u) := fun a hy u =>
    hy.of_same (execOp_put oi hsi a oj.dst u h3) (wanted_put oi a oj.dst u h3)
  have keepD : ∀ d, YieldsM P ops S oi v { a with defers := d :: a.defers } := fun d => hy.of_same rfl rfl
  unfold wpOp at *
  simp only [hj] at *
  rw [wanted_put oj a oi.dst v h1] at h
  split
  · rename_i hw
    simp only [hw, if_true] at h
    rcases h with h | ⟨hasks, hlets⟩
    case inr => exact .inr ⟨by unfold Oper.asks at *; rw [execOp_put oj hsj a oi.dst v h1] at hasks; exact hasks, hlets⟩
    refine .inl ?_
    unfold Oper.wp at *
    rw [execOp_put oj hsj a oi.dst v h1] at h
    generalize (execOp a.eval oj).run P w = r at *
    cases r with
    | ok n w' =>
      cases n <;> simp only [Oper.upon] at h ⊢
      case value u => exact ⟨keep a hy u, by rw [← Act.put_comm a v u h2]; exact h⟩
      case skip => exact ⟨keep a hy _, by rw [← Act.put_comm a v undef h2]; exact h⟩
      case defer d =>
        refine ⟨keep _ (keepD d) _, ?_⟩
        rw [← Act.put_comm _ v undef h2, ← Act.put_defers]
        exact h
      case enter f args =>
        refine Calls.mono h fun e w'' he => ?_
        cases e with
        | returned u => exact ⟨keep a hy u, by rw [← Act.put_comm a v u h2]; exact he⟩
        | panicked c => exact hQ _ _ _ he
        | outgrown => exact he
      case row row args => exact Rows.mono h fun u w'' he => ⟨keep a hy u, by rw [← Act.put_comm a v u h2]; exact he⟩
    | halt x w' =>
      cases x <;> simp only [Oper.upon] at h ⊢
      case panic u => exact hQ _ _ _ h
  · rename_i hw
    simp only [hw] at h
    exact ⟨keep a hy _, by rw [← Act.put_comm a v undef h2]; exact h⟩
/-- whatever order is picked from here on, from whatever world that keeps the blocks of this one -/
def wpAnyM (P : Program) (md : Region.Mode) (ops : Array Oper) (Q : Exit → Act → World → Prop) (S : World → Prop) : Nat → Array Bool → Act → World → Prop
  | 0, listed, a, w => ∀ w', Below w.heap.size w w' → S w' → Region.ready md ops listed = [] ∧ Q .normal a w'
  | fuel + 1, listed, a, w => ∀ w', Below w.heap.size w w' → S w' → (Region.ready md ops listed = [] → Q .normal a w') ∧
    ∀ i ∈ Region.ready md ops listed, wpOp P ops Q i (fun a' w'' => S w'' ∧ wpAnyM P md ops Q S fuel (listed.setIfInBounds i true) a' w'') a w'
theorem wpAnyM.ext {fuel : Nat} {listed : Array Bool} {a : Act} {w w1 : World} (h : wpAnyM P md ops Q S fuel listed a w) (hb : Below w.heap.size w w1) : wpAnyM P md ops Q S fuel listed a w1 := by
  cases fuel with
  | zero => exact fun w' hb' hS => h w' (then_ hb hb' hb.size) hS
  | succ n => exact fun w' hb' hS => h w' (then_ hb hb' hb.size) hS
theorem wpAny_of_M : ∀ (fuel : Nat) (listed : Array Bool) (a : Act) (w : World), S w → wpAnyM P md ops Q S fuel listed a w → wpAny P md ops Q fuel listed a w
  | 0, _, _, w, hS, h => h w (Below.refl _ _) hS
  | fuel + 1, _, _, w, hS, h => ⟨(h w (Below.refl _ _) hS).1, fun i hi => wpOp_mono (fun a' w' h' => wpAny_of_M fuel _ a' w' h'.1 h'.2) ((h w (Below.refl _ _) hS).2 i hi)⟩
theorem wpAnyM_first {i : Nat} {oi : Oper} {v : Value} (hi : ops[i]? = some oi) (hsel : ∀ (j : Nat) (o : Oper) cs b, ops[j]? = some o → o.op ≠ .select cs b)
    (hQ : ∀ c a w, Q (.panic c) (a.put oi.dst v) w → Q (.panic c) a w) :
    ∀ (fuel : Nat) (listed : Array Bool) (a : Act) (w : World),
      (∀ j oj, ops[j]? = some oj → j ≠ i → listed.getD j true = false → (∀ e ∈ oj.after, Region.binds md e = true → e.on ≠ i) → oi.apart ops oj = true) →
      i ∈ Region.ready md ops listed → YieldsM P ops S oi v a →
      wpAnyM P md ops Q S fuel (listed.setIfInBounds i true) (a.put oi.dst v) w → wpAnyM P md ops Q S (fuel + 1) listed a w := by
  intro fuel
  induction fuel with
  | zero =>
    intro listed a w _ hr hy H w' hb hS
    refine ⟨fun h => (by rw [h] at hr; cases hr), fun j hj => ?_⟩
    by_cases hji : j = i
    · subst hji; exact hy.wpOp hi hS fun w'' hb' hS' => ⟨hS', H.ext (then_ hb hb' hb.size)⟩
    · have := ready_mono hj hji
      rw [(H w' hb hS).1] at this
      cases this
  | succ fuel ih =>
    intro listed a w hfree hr hy H w' hb hS
    refine ⟨fun h => (by rw [h] at hr; cases hr), fun j hj => ?_⟩
    by_cases hji : j = i
    · subst hji; exact hy.wpOp hi hS fun w'' hb' hS' => ⟨hS', H.ext (then_ hb hb' hb.size)⟩
    · have h1 := (H w' hb hS).2 j (ready_mono hj hji)
      obtain ⟨hjun, oj, hoj, hall⟩ := mem_ready.1 hj
      have hnot : ∀ e ∈ oj.after, Region.binds md e = true → e.on ≠ i := fun e he hb heq => by
        have h1 := hall e he hb
        have h0 := (mem_ready.1 hr).1
        rw [heq] at h1
        rcases Nat.lt_or_ge i listed.size with h' | h'
        · simp [h'] at h0 h1; rw [h0] at h1; cases h1
        · simp [Array.getElem?_eq_none h'] at h1
      have h2 := wpOp_putM hoj (hfree j oj hoj hji hjun hnot) (fun cs b => hsel i oi cs b hi) (fun cs b => hsel j oj cs b hoj) hQ hy h1
      have hfree' : ∀ k ok, ops[k]? = some ok → k ≠ i → (listed.setIfInBounds j true).getD k true = false →
          (∀ e ∈ ok.after, Region.binds md e = true → e.on ≠ i) → oi.apart ops ok = true := fun k ok hk hki hun hno => by
        refine hfree k ok hk hki ?_ hno
        by_cases hjk : j = k
        · subst hjk; exact hjun
        · rw [getD_set_ne true hjk] at hun; exact hun
      refine wpOp_mono (fun a' w' h3 => ⟨h3.2.1, ih (listed.setIfInBounds j true) a' w' hfree' (ready_mono hr (Ne.symm hji)) h3.1 ?_⟩) h2
      rw [Array.setIfInBounds_comm _ _ hji]
      exact h3.2.2
theorem wm_start {id : Nat} (hm : P.follows .mixedOrders = true) (hS : S w.drew) (h : wpAnyM P .any ops Q S ops.size (Array.replicate ops.size false) a w.drew) : (Code.region id ops true).wp P Q a w :=
  wp_region_any hm (wpAny_of_M _ _ _ _ hS h)
theorem wm_take {i : Nat} {o : Oper} {v : Value} (hi : ops[i]? = some o) (hs : Region.noSelect ops = true) (hf : Region.free md ops listed i = true) (hr : (Region.ready md ops listed).contains i = true)
    (hQ : ∀ c a w, Q (.panic c) (a.put o.dst v) w → Q (.panic c) a w) (hw : Region.wanted o (yielded ops a.tmps) = true) (hy : ∀ w, S w → (execOp a.eval o).run P w = .ok (.value v) w) (h : wpAnyM P md ops Q S fuel (listed.setIfInBounds i true) (a.put o.dst v) w) : wpAnyM P md ops Q S (fuel + 1) listed a w :=
  wpAnyM_first hi (Region.noSelect_spec hs) hQ fuel listed a w (Region.free_spec hi hf) (by simpa using hr) (.inl ⟨hw, fun w hS => .inl (hy w hS)⟩) h
theorem wm_call {i : Nat} {o : Oper} {v : Value} {f : FuncId} {args : Array Value} (hi : ops[i]? = some o) (hs : Region.noSelect ops = true) (hf : Region.free md ops listed i = true) (hr : (Region.ready md ops listed).contains i = true)
    (hQ : ∀ c a w, Q (.panic c) (a.put o.dst v) w → Q (.panic c) a w) (hw : Region.wanted o (yielded ops a.tmps) = true) (hy : ∀ w, (execOp a.eval o).run P w = .ok (.enter f args) w) (hc : ∀ w, S w → Calls P f args w fun e w' => e = .returned v ∧ Below w.heap.size w w' ∧ S w') (h : wpAnyM P md ops Q S fuel (listed.setIfInBounds i true) (a.put o.dst v) w) : wpAnyM P md ops Q S (fuel + 1) listed a w :=
  wpAnyM_first hi (Region.noSelect_spec hs) hQ fuel listed a w (Region.free_spec hi hf) (by simpa using hr) (.inl ⟨hw, fun w hS => .inr ⟨f, args, hy w, hc w hS⟩⟩) h
theorem wm_skip {i : Nat} {o : Oper} (hi : ops[i]? = some o) (hs : Region.noSelect ops = true) (hf : Region.free md ops listed i = true) (hr : (Region.ready md ops listed).contains i = true)
    (hQ : ∀ c a w, Q (.panic c) (a.put o.dst undef) w → Q (.panic c) a w) (hw : Region.wanted o (yielded ops a.tmps) = false) (h : wpAnyM P md ops Q S fuel (listed.setIfInBounds i true) (a.put o.dst undef) w) : wpAnyM P md ops Q S (fuel + 1) listed a w :=
  wpAnyM_first hi (Region.noSelect_spec hs) hQ fuel listed a w (Region.free_spec hi hf) (by simpa using hr) (.inr ⟨hw, rfl⟩) h
/-- each of the operations of a list may come up -/
def Each (P : Program) (ops : Array Oper) (Q : Exit → Act → World → Prop) (K : Nat → Act → World → Prop) (a : Act) (w : World) (l : List Nat) : Prop := ∀ i ∈ l, wpOp P ops Q i (K i) a w
theorem Each.nil {K : Nat → Act → World → Prop} : Each P ops Q K a w [] := fun _ h => by cases h
theorem Each.cons {K : Nat → Act → World → Prop} {i : Nat} {l : List Nat} {o : Oper} (hi : ops[i]? = some o)
    (h : ∀ K' : Act → World → Prop, Shut (∀ a w, K i a w → K' a w) → if Region.wanted o (yielded ops a.tmps) = true then Oper.wp P o a w K' Q else K' (a.put o.dst undef) w) (ht : Each P ops Q K a w l) : Each P ops Q K a w (i :: l) := by
  intro j hj
  rcases List.mem_cons.1 hj with rfl | hj
  · have h' := h (K j) (fun _ _ h => h)
    unfold wpOp
    simp only [hi]
    split
    · rename_i hw; rw [if_pos hw] at h'; exact .inl h'
    · rename_i hw; rw [if_neg hw] at h'; exact h'
  · exact ht j hj
theorem wm_each {l : List Nat} (hr : Region.ready md ops listed = l) (hne : l ≠ []) (h : ∀ w', Below w.heap.size w w' → S w' → Each P ops Q (fun i a' w'' => S w'' ∧ wpAnyM P md ops Q S fuel (listed.setIfInBounds i true) a' w'') a w' l) : wpAnyM P md ops Q S (fuel + 1) listed a w :=
  fun w' hb hS => ⟨fun h0 => absurd (hr ▸ h0) hne, by rw [hr]; exact h w' hb hS⟩
theorem wm_done (hr : Region.ready md ops listed = []) (h : ∀ w', Below w.heap.size w w' → S w' → Q .normal a w') : wpAnyM P md ops Q S fuel listed a w := by
  cases fuel with
  | zero => exact fun w' hb hS => ⟨hr, h w' hb hS⟩
  | succ n => exact fun w' hb hS => ⟨fun _ => h w' hb hS, by rw [hr]; simp⟩
theorem wm_gen (h : ∀ ops' Q', ops' = ops → Q' = Q → wpAnyM P md ops' Q' S fuel listed a w) : wpAnyM P md ops Q S fuel listed a w := h ops Q rfl rfl
end
end Go.Proofs.Ytbijbohkpjnjnaa
