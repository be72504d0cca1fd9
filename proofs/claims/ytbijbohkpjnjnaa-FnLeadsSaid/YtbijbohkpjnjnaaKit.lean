/- Small lemmas that every walk of this seat uses: returned values, worlds that only grew, slices of pairs and of numbers as they lie in memory. No condition. -/
import Derived.WalkKit
import Derived.ProofKit
import Derived.WalkLawsBesides
import Derived.WalkSpells
import Derived.Deep.QuietTactic
import Derived.BigQuiet
namespace Go.Proofs.Ytbijbohkpjnjnaa
open Go.ChangeShapes Go.WideShapes Go.ChangeAt Go.RowKit

theorem hid {p : Prop} (h : p) : Hid p := h
theorem ret_bool {a b : Bool} (h : a = b) : Ending.returned (.bool a) = .returned (.bool b) := by rw [h]
theorem ret_int {k : IntKind} {a b : Int} (h : a = b) : Ending.returned (.int k a) = .returned (.int k b) := by rw [h]
theorem ret_val {a b : Value} (h : a = b) : Ending.returned a = .returned b := by rw [h]
theorem bcell {W w1 : World} (hb : Below W.heap.size W w1) : (∀ b o, b < W.heap.size → w1.cell? ⟨b, o, none⟩ = W.cell? ⟨b, o, none⟩) ∧ (∀ b o, b < W.heap.size → w1.frozen? ⟨b, o, none⟩ = W.frozen? ⟨b, o, none⟩) :=
  ⟨fun b o h => hb.cell (p := ⟨b, o, none⟩) h, fun b o h => hb.frozen (p := ⟨b, o, none⟩) h⟩

/-! a world that grew, as an equation -/
structure Mv where
  d : Nat
  os : Array Obj
instance : Inhabited Mv := ⟨⟨0, #[]⟩⟩
def mv (w : World) (p : Mv) : World := { w with heap := w.heap ++ p.os, drawn := p.d }
theorem size_mv (w : World) (p : Mv) : (mv w p).heap.size = w.heap.size + p.os.size := by simp [mv]
theorem heap_mv (w : World) (p : Mv) (k : Nat) (h : k < w.heap.size) : (mv w p).heap[k]? = w.heap[k]? := by
  simp only [mv]; rw [Array.getElem?_append_left h]
theorem below_mv (w : World) (p : Mv) : Below w.heap.size w (mv w p) := ⟨rfl, rfl, rfl, by rw [size_mv]; omega, fun k hk => heap_mv w p k hk⟩
theorem mv_of_below {w w' : World} (h : Below w.heap.size w w') : ∃ p, w' = mv w p := by
  refine ⟨⟨w'.drawn, w'.heap.extract w.heap.size w'.heap.size⟩, ?_⟩
  have hz := h.size
  have hh : w'.heap = w.heap ++ w'.heap.extract w.heap.size w'.heap.size := by
    apply Array.ext_getElem?
    intro k
    by_cases hk : k < w.heap.size
    · rw [Array.getElem?_append_left hk]; exact h.block k hk
    · rw [Array.getElem?_append_right (by omega), Array.getElem?_extract]
      by_cases hk2 : k < w'.heap.size
      · rw [if_pos (by omega)]; congr 1; omega
      · rw [if_neg (by omega), Array.getElem?_eq_none (by omega)]
  cases w'
  simp only [mv, World.mk.injEq]
  exact ⟨hh, h.tape, trivial, h.os, h.output⟩
theorem mv_mv (w : World) (p q : Mv) : mv (mv w p) q = mv w ⟨q.d, p.os ++ q.os⟩ := by simp [mv, Array.append_assoc]
theorem drew_mv (w : World) : w.drew = mv w ⟨w.drawn + 1, #[]⟩ := by
  show ({ w with drawn := w.drawn + 1 } : World) = { w with heap := w.heap ++ #[], drawn := w.drawn + 1 }
  rw [Array.append_empty]
theorem cell_mv {w : World} {b o : Nat} {v : Value} (hb : b < w.heap.size) (h : w.cell? ⟨b, o, none⟩ = some v) (p : Mv) : (mv w p).cell? ⟨b, o, none⟩ = some v := by
  rw [(below_mv w p).cell (p := ⟨b, o, none⟩) hb]; exact h
theorem wp_region_mv {P : Program} {id : Nat} {Q : Exit → Act → World → Prop} {a : Act} {w : World} {l : List Oper} (hm : P.follows .mixedOrders = true) (hB : Region.lexB .any l.toArray = true)
    (h : wpQuiet P l.toArray (fun w' => ∃ p : Mv, w' = mv w p) (fun a' => ∀ w', (∃ p : Mv, w' = mv w p) → Q .normal a' w') l a) : (Code.region id l.toArray true).wp P Q a w :=
  wp_region_quiet (C := fun w' => ∃ p : Mv, w' = mv w p) hm hB ⟨⟨w.drawn + 1, #[]⟩, drew_mv w⟩ (by simpa using h)
theorem calls_mv {P : Program} {f : FuncId} {args : Array Value} {w : World} {p : Mv} {v : Value}
    (h : Calls P f args (mv w p) fun e w' => e = .returned v ∧ Below (mv w p).heap.size (mv w p) w') : Calls P f args (mv w p) fun e w'' => e = .returned v ∧ ∃ q : Mv, w'' = mv w q :=
  h.mono fun _ _ ⟨he, hb⟩ => ⟨he, by obtain ⟨q, rfl⟩ := mv_of_below hb; exact ⟨_, mv_mv _ _ _⟩⟩
theorem calls_mv_same {P : Program} {f : FuncId} {args : Array Value} {w : World} {p : Mv} {v : Value}
    (h : Calls P f args (mv w p) fun e w' => e = .returned v ∧ mv w p = w') : Calls P f args (mv w p) fun e w'' => e = .returned v ∧ ∃ q : Mv, w'' = mv w q :=
  h.mono fun _ _ ⟨he, hb⟩ => ⟨he, ⟨p, hb.symm⟩⟩

/-! cells of new blocks -/
theorem cell_new (W : World) (cs : Array Value) (T : TypeId) (g i : Nat) (hg : g = W.heap.size) : (W.alloc (.cells cs T)).cell? ⟨g, i, none⟩ = cs[i]? := by
  subst hg; exact World.cell?_alloc_new ..

/-- block g holds the two ints x, y -/
structure Box2 (w : World) (g : Nat) (x y : Int) : Prop where
  lt : g < w.heap.size
  c0 : w.cell? ⟨g, 0, none⟩ = some (.int .i64 x)
  c1 : w.cell? ⟨g, 1, none⟩ = some (.int .i64 y)
theorem Box2.new (W : World) (x y : Int) (T : TypeId) (g : Nat) (hg : g = W.heap.size) : Box2 (W.alloc (.cells #[.int .i64 x, .int .i64 y] T)) g x y :=
  ⟨by simp; omega, by rw [cell_new _ _ _ _ _ hg]; rfl, by rw [cell_new _ _ _ _ _ hg]; rfl⟩
theorem Box2.below {w w' : World} {g : Nat} {x y : Int} (h : Box2 w g x y) (hb : Below w.heap.size w w') : Box2 w' g x y :=
  ⟨Nat.lt_of_lt_of_le h.lt hb.size, by rw [hb.cell (p := ⟨g, 0, none⟩) h.lt]; exact h.c0, by rw [hb.cell (p := ⟨g, 1, none⟩) h.lt]; exact h.c1⟩
theorem Box2.alloc {w : World} {g : Nat} {x y : Int} (h : Box2 w g x y) (o : Obj) : Box2 (w.alloc o) g x y := h.below ((Below.refl _ _).alloc (Nat.le_refl _) o)
theorem Box2.mv {w : World} {g : Nat} {x y : Int} (h : Box2 w g x y) (p : Mv) : Box2 (mv w p) g x y := h.below (below_mv w p)
theorem then_ {B : Nat} {a b c : World} (h : Below B a b) (k : Below b.heap.size b c) (hB : B ≤ b.heap.size) : Below B a c := h.trans (k.mono hB)

/-- a slice value whose cells read as the values xs, m cells an element -/
def CellsAt (w : World) (A : Option Addr) (xs : List Value) : Prop :=
  ∀ i u, xs[i]? = some u → ∃ b off, A = some ⟨b, off, none⟩ ∧ b < w.heap.size ∧ w.cell? ⟨b, off + i, none⟩ = some u
theorem CellsAt.below {w w' : World} {A : Option Addr} {xs : List Value} (h : CellsAt w A xs) (hb : Below w.heap.size w w') : CellsAt w' A xs := fun i u hi => by
  obtain ⟨b, off, h1, h2, h3⟩ := h i u hi
  exact ⟨b, off, h1, Nat.lt_of_lt_of_le h2 hb.size, by rw [hb.cell (p := ⟨b, _, none⟩) h2]; exact h3⟩

/-- the value is a slice of pairs of ints, whose cells lie in blocks that exist -/
def PairsAt (w : World) (v : Value) (ns : List (Int × Int)) : Prop :=
  ∃ A c, v = .slice A ns.length c ∧ ns.length ≤ c ∧ c ≤ maxLen ∧ ∀ i x y, ns[i]? = some (x, y) → ∃ b off, A = some ⟨b, off, none⟩ ∧ b < w.heap.size ∧
    w.cell? ⟨b, off + i * 2, none⟩ = some (.int .i64 x) ∧ w.cell? ⟨b, off + i * 2 + 1, none⟩ = some (.int .i64 y)
theorem PairsAt.below {w w' : World} {v : Value} {ns : List (Int × Int)} (h : PairsAt w v ns) (hb : Below w.heap.size w w') : PairsAt w' v ns := by
  obtain ⟨A, c, h1, h2, h3, h4⟩ := h
  refine ⟨A, c, h1, h2, h3, fun i x y hi => ?_⟩
  obtain ⟨b, off, e1, e2, e3, e4⟩ := h4 i x y hi
  exact ⟨b, off, e1, Nat.lt_of_lt_of_le e2 hb.size, by rw [hb.cell (p := ⟨b, _, none⟩) e2]; exact e3, by rw [hb.cell (p := ⟨b, _, none⟩) e2]; exact e4⟩
def flat (ns : List (Int × Int)) : List Value := ns.flatMap fun p => [.int .i64 p.1, .int .i64 p.2]
theorem flat_get (ns : List (Int × Int)) : ∀ (i : Nat) (x y : Int), ns[i]? = some (x, y) → (flat ns)[i * 2]? = some (.int .i64 x) ∧ (flat ns)[i * 2 + 1]? = some (.int .i64 y) := by
  induction ns with
  | nil => intro i x y h; simp at h
  | cons p t ih =>
    intro i x y h
    cases i with
    | zero => simp at h; subst h; simp [flat]
    | succ i =>
      have := ih i x y (by simpa using h)
      have e : flat (p :: t) = .int .i64 p.1 :: .int .i64 p.2 :: flat t := rfl
      rw [e, show (i + 1) * 2 = i * 2 + 2 by omega, show i * 2 + 2 + 1 = i * 2 + 1 + 2 by omega]
      simpa using this
theorem pairs_new (W : World) (ns : List (Int × Int)) (T : TypeId) (cs : Array Value) (g n : Nat) (hg : g = W.heap.size) (hcs : cs = (flat ns).toArray) (hn : n = ns.length) (hm : n ≤ 100 := by simp) : PairsAt (W.alloc (.cells cs T)) (.slice (some ⟨g, 0, none⟩) n n) ns := by
  subst hcs hn
  refine ⟨_, _, rfl, Nat.le_refl _, by unfold maxLen; omega, fun i x y h => ⟨g, 0, rfl, by simp; omega, ?_⟩⟩
  have := flat_get ns i x y h
  rw [cell_new _ _ _ _ _ hg, cell_new _ _ _ _ _ hg]
  simpa using this
end Go.Proofs.Ytbijbohkpjnjnaa
