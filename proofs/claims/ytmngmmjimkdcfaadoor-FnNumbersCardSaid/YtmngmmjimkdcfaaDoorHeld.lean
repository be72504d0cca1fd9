/- A region that draws its order, walked in the order of the text, where a condition S on memory is kept: operations that are passed over, operations that only read. No condition. -/
import Derived.Test.YtmngmmjimkdcfaaDoorKit
import Derived.Deep.RegionHeld3
namespace Go.Proofs.YtmngmmjimkdcfaaDoor
section
variable {P : Program} {ops : Array Oper} {Q : Exit → Act → World → Prop} {md : Region.Mode} {S : World → Prop} {fuel : Nat} {listed : Array Bool} {a : Act} {w : World}
/-- the walk stands ahead of operation number i -/
def LexH (_i : Nat) (P : Program) (md : Region.Mode) (ops : Array Oper) (Q : Exit → Act → World → Prop) (S : World → Prop) (fuel : Nat) (listed : Array Bool) (a : Act) (w : World) : Prop := S w → wpAnyH P md ops Q S fuel listed a w
theorem lexH_start {id : Nat} (hm : P.follows .mixedOrders = true) (hS : S w.drew) (h : LexH 0 P .any ops Q S ops.size (Array.replicate ops.size false) a w.drew) : (Code.region id ops true).wp P Q a w :=
  wp_region_held_drew hm hS fun hs => h hs
theorem lexH_skip {i : Nat} {o : Oper} (hi : ops[i]? = some o) (hs : Region.noSelect ops = true) (hf : Region.free md ops listed i = true) (hr : (Region.ready md ops listed).contains i = true)
    (hQ : ∀ c a w, Q (.panic c) (a.put o.dst undef) w → Q (.panic c) a w) (hw : Region.wanted o (yielded ops a.tmps) = false) (h : LexH (i + 1) P md ops Q S fuel (listed.setIfInBounds i true) (a.put o.dst undef) w) : LexH i P md ops Q S (fuel + 1) listed a w :=
  fun hS => wpAnyH_take hi hs hf hr hQ (.inr ⟨hw, rfl⟩) hS (h hS)
theorem lexH_take {i : Nat} {o : Oper} {v : Value} (hi : ops[i]? = some o) (hs : Region.noSelect ops = true) (hf : Region.free md ops listed i = true) (hr : (Region.ready md ops listed).contains i = true)
    (hQ : ∀ c a w, Q (.panic c) (a.put o.dst v) w → Q (.panic c) a w) (hw : Region.wanted o (yielded ops a.tmps) = true) (hy : ∀ w, S w → (execOp a.eval o).run P w = .ok (.value v) w) (h : LexH (i + 1) P md ops Q S fuel (listed.setIfInBounds i true) (a.put o.dst v) w) : LexH i P md ops Q S (fuel + 1) listed a w :=
  fun hS => wpAnyH_take hi hs hf hr hQ (.inl ⟨hw, hy⟩) hS (h hS)
theorem lexH_step {i : Nat} {o : Oper} (hi : ops[i]? = some o) (hr : Region.ready md ops listed = [i])
    (h : ∀ K' : Act → World → Prop, Shut (∀ a w, S w → LexH (i + 1) P md ops Q S fuel (listed.setIfInBounds i true) a w → K' a w) → if Region.wanted o (yielded ops a.tmps) = true then Oper.wp P o a w K' Q else K' (a.put o.dst undef) w) : LexH i P md ops Q S (fuel + 1) listed a w :=
  fun _ => wpAnyH_ready hr (by simp) (AllReadyH.cons hi (fun K' hK => h K' (fun a w hS hL => hK.out a w hS hL)) AllReadyH.nil)
theorem lexH_done {i : Nat} (hr : Region.ready md ops listed = []) (h : Q .normal a w) : LexH i P md ops Q S fuel listed a w := fun _ => wpAnyH_done hr h fuel
/-- the same, each operation named by its number -/
def WH (P : Program) (md : Region.Mode) (ops : Array Oper) (Q : Exit → Act → World → Prop) (S : World → Prop) (fuel : Nat) (listed : Array Bool) (a : Act) (w : World) : Prop := S w → wpAnyH P md ops Q S fuel listed a w
theorem wh_start {id : Nat} (hm : P.follows .mixedOrders = true) (hS : S w.drew) (h : WH P .any ops Q S ops.size (Array.replicate ops.size false) a w.drew) : (Code.region id ops true).wp P Q a w :=
  wp_region_held_drew hm hS fun hs => h hs
theorem wh_take {i : Nat} {o : Oper} {v : Value} (hi : ops[i]? = some o) (hs : Region.noSelect ops = true) (hf : Region.free md ops listed i = true) (hr : (Region.ready md ops listed).contains i = true)
    (hQ : ∀ c a w, Q (.panic c) (a.put o.dst v) w → Q (.panic c) a w) (hw : Region.wanted o (yielded ops a.tmps) = true) (hy : ∀ w, S w → (execOp a.eval o).run P w = .ok (.value v) w) (h : WH P md ops Q S fuel (listed.setIfInBounds i true) (a.put o.dst v) w) : WH P md ops Q S (fuel + 1) listed a w :=
  fun hS => wpAnyH_take hi hs hf hr hQ (.inl ⟨hw, hy⟩) hS (h hS)
theorem wh_skip {i : Nat} {o : Oper} (hi : ops[i]? = some o) (hs : Region.noSelect ops = true) (hf : Region.free md ops listed i = true) (hr : (Region.ready md ops listed).contains i = true)
    (hQ : ∀ c a w, Q (.panic c) (a.put o.dst undef) w → Q (.panic c) a w) (hw : Region.wanted o (yielded ops a.tmps) = false) (h : WH P md ops Q S fuel (listed.setIfInBounds i true) (a.put o.dst undef) w) : WH P md ops Q S (fuel + 1) listed a w :=
  fun hS => wpAnyH_take hi hs hf hr hQ (.inr ⟨hw, rfl⟩) hS (h hS)
theorem wh_step {i : Nat} {o : Oper} (hi : ops[i]? = some o) (hr : Region.ready md ops listed = [i])
    (h : ∀ K' : Act → World → Prop, Shut (∀ a w, S w → WH P md ops Q S fuel (listed.setIfInBounds i true) a w → K' a w) → if Region.wanted o (yielded ops a.tmps) = true then Oper.wp P o a w K' Q else K' (a.put o.dst undef) w) : WH P md ops Q S (fuel + 1) listed a w :=
  fun _ => wpAnyH_ready hr (by simp) (AllReadyH.cons hi (fun K' hK => h K' (fun a w hS hL => hK.out a w hS hL)) AllReadyH.nil)
theorem wh_done (hr : Region.ready md ops listed = []) (h : Q .normal a w) : WH P md ops Q S fuel listed a w := fun _ => wpAnyH_done hr h fuel
end
end Go.Proofs.YtmngmmjimkdcfaaDoor
