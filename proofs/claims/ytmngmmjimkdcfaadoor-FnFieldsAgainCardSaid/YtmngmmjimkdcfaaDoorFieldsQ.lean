/- The plain law of the fields: the fields of a line, each with a blank behind it, have the same fields. No program in sight. -/
import Derived.Test.YtmngmmjimkdcfaaDoorFieldsP
namespace Go.Proofs.YtmngmmjimkdcfaaDoor
set_option linter.unusedSimpArgs false
set_option linter.unusedVariables false
def splitL : List UInt8 → List UInt8 → List (List UInt8)
  | cur, [] => if cur = [] then [] else [cur]
  | cur, c :: t => if c = 32 then (if cur = [] then splitL [] t else cur :: splitL [] t) else splitL (cur ++ [c]) t
def toL (s : ByteArray) : List UInt8 := s.data.toList
theorem toL_len (s : ByteArray) : (toL s).length = s.size := Array.length_toList
theorem toL_inj {a b : ByteArray} (h : toL a = toL b) : a = b := ByteArray.ext (Array.toList_inj.1 h)
theorem toL_extract (s : ByteArray) (b k : Nat) : toL (s.extract b k) = ((toL s).drop b).take (k - b) := by
  unfold toL
  rw [ByteArray.data_extract, Array.toList_extract]
theorem byteAt_toL (s : ByteArray) (k : Nat) (h : k < s.size) : (toL s)[k]? = some (byteAt s k) := by
  have h' : k < (toL s).length := by rw [toL_len]; exact h
  rw [List.getElem?_eq_getElem h']
  unfold byteAt
  rw [List.getD_eq_getElem?_getD]
  show some _ = some (((toL s)[k]?).getD 0)
  rw [List.getElem?_eq_getElem h']; rfl
theorem toL_drop (s : ByteArray) (k : Nat) (h : k < s.size) : (toL s).drop k = byteAt s k :: (toL s).drop (k + 1) := by
  have h' : k < (toL s).length := by rw [toL_len]; exact h
  have := byteAt_toL s k h
  rw [List.getElem?_eq_getElem h'] at this
  injection this with this
  rw [List.drop_eq_getElem_cons h', this]
def curL (s : ByteArray) (k : Nat) : List UInt8 := ((toL s).drop (fldS s k).2).take (k - (fldS s k).2)
theorem curL_len (s : ByteArray) (k : Nat) (h : k ≤ s.size) : (curL s k).length = k - (fldS s k).2 := by
  have := fldS_le s k
  unfold curL
  rw [List.length_take, List.length_drop, toL_len]; omega
theorem split_at (s : ByteArray) : ∀ k, k ≤ s.size → splitL [] (toL s) = (fldS s k).1.map toL ++ splitL (curL s k) ((toL s).drop k)
  | 0, _ => by simp [fldS, curL]
  | k + 1, h => by
    have hk : k < s.size := by omega
    rw [split_at s k (by omega), toL_drop s k hk]
    have hb := fldS_le s k
    have hlen := curL_len s k (by omega)
    by_cases hc : byteAt s k = 32
    · have hn : ¬ (k < s.size ∧ byteAt s k ≠ 32) := fun hh => hh.2 hc
      rw [splitL, if_pos hc]
      by_cases hb2 : (fldS s k).2 < k
      · have hne : curL s k ≠ [] := fun e => by rw [e] at hlen; simp at hlen; omega
        have F := fldS_cut hn hb2
        have hcur : curL s (k + 1) = [] := by unfold curL; rw [F]; simp
        rw [if_neg hne, hcur, F]
        have e : toL (s.extract (fldS s k).2 k) = curL s k := toL_extract s _ _
        simp [e]
      · have he : curL s k = [] := List.eq_nil_of_length_eq_zero (by omega)
        have F := fldS_skip hn hb2
        have hcur : curL s (k + 1) = [] := by unfold curL; rw [F]; simp
        rw [if_pos he, hcur, F]
    · have F := fldS_in hk hc
      rw [splitL, if_neg hc]
      have hcur : curL s (k + 1) = curL s k ++ [byteAt s k] := by
        unfold curL
        rw [F, show k + 1 - (fldS s k).2 = (k - (fldS s k).2) + 1 by omega, List.take_add_one, List.getElem?_drop, show (fldS s k).2 + (k - (fldS s k).2) = k by omega, byteAt_toL s k hk]
        rfl
      rw [hcur, F]
theorem split_all (s : ByteArray) : (fldS s (s.size + 1)).1.map toL = splitL [] (toL s) := by
  rw [split_at s s.size (Nat.le_refl _)]
  have hd : (toL s).drop s.size = [] := List.drop_of_length_le (by rw [toL_len]; exact Nat.le_refl _)
  rw [hd, splitL]
  have hlen := curL_len s s.size (Nat.le_refl _)
  have hn : ¬ (s.size < s.size ∧ byteAt s s.size ≠ 32) := fun hh => absurd hh.1 (Nat.lt_irrefl _)
  by_cases hb2 : (fldS s s.size).2 < s.size
  · have hne : curL s s.size ≠ [] := fun e => by rw [e] at hlen; simp at hlen; omega
    rw [if_neg hne, fldS_cut hn hb2]
    have e : toL (s.extract (fldS s s.size).2 s.size) = curL s s.size := toL_extract s _ _
    simp [e]
  · have he : curL s s.size = [] := List.eq_nil_of_length_eq_zero (by omega)
    rw [if_pos he, fldS_skip hn hb2]; simp
theorem splitL_props (l : List UInt8) : ∀ cur : List UInt8, 32 ∉ cur → ∀ p, p ∈ splitL cur l → p ≠ [] ∧ 32 ∉ p ∧ (∀ x, x ∈ p → x ∈ cur ∨ x ∈ l) ∧ p.length ≤ cur.length + l.length := by
  induction l with
  | nil =>
    intro cur hc p hp
    rw [splitL] at hp
    split at hp
    · cases hp
    · rename_i hne
      have : p = cur := by simpa using hp
      subst this
      exact ⟨hne, hc, fun x hx => .inl hx, by simp⟩
  | cons c t ih =>
    intro cur hc p hp
    rw [splitL] at hp
    split at hp
    · split at hp
      · obtain ⟨h1, h2, h3, h4⟩ := ih [] (by simp) p hp
        exact ⟨h1, h2, fun x hx => by rcases h3 x hx with h | h
                                      · cases h
                                      · exact .inr (List.mem_cons_of_mem _ h), by simp at h4 ⊢; omega⟩
      · rename_i hne
        rcases List.mem_cons.1 hp with rfl | hp
        · exact ⟨hne, hc, fun x hx => .inl hx, by simp⟩
        · obtain ⟨h1, h2, h3, h4⟩ := ih [] (by simp) p hp
          exact ⟨h1, h2, fun x hx => by rcases h3 x hx with h | h
                                        · cases h
                                        · exact .inr (List.mem_cons_of_mem _ h), by simp at h4 ⊢; omega⟩
    · rename_i hne
      obtain ⟨h1, h2, h3, h4⟩ := ih (cur ++ [c]) (by simp; exact ⟨hc, fun e => hne e.symm⟩) p hp
      exact ⟨h1, h2, fun x hx => by
        rcases h3 x hx with h | h
        · rcases List.mem_append.1 h with h | h
          · exact .inl h
          · exact .inr (by have : x = c := by simpa using h
                           rw [this]; exact List.mem_cons_self ..)
        · exact .inr (List.mem_cons_of_mem _ h), by simp at h4 ⊢; omega⟩
theorem splitL_run (p : List UInt8) (rest : List UInt8) : ∀ cur : List UInt8, 32 ∉ p → cur ++ p ≠ [] → splitL cur (p ++ 32 :: rest) = (cur ++ p) :: splitL [] rest := by
  induction p with
  | nil =>
    intro cur _ hne
    rw [List.append_nil] at hne ⊢
    rw [List.nil_append, splitL, if_pos rfl, if_neg hne]
  | cons c t ih =>
    intro cur hp hne
    have hc : ¬ c = 32 := fun e => hp (by rw [e]; exact List.mem_cons_self ..)
    rw [List.cons_append, splitL, if_neg hc, ih (cur ++ [c]) (fun h => hp (List.mem_cons_of_mem _ h)) (by simp)]
    simp
def joinL (F : List (List UInt8)) : List UInt8 := F.flatMap fun p => p ++ [32]
theorem split_join : ∀ F : List (List UInt8), (∀ p, p ∈ F → p ≠ [] ∧ 32 ∉ p) → splitL [] (joinL F) = F
  | [], _ => by simp [joinL, splitL]
  | p :: F, h => by
    have hp := h p (List.mem_cons_self ..)
    have e : joinL (p :: F) = p ++ 32 :: joinL F := by simp [joinL]
    rw [e, splitL_run p (joinL F) [] hp.2 (by simpa using hp.1), split_join F fun q hq => h q (List.mem_cons_of_mem _ hq)]
    simp
def joinS (F : List ByteArray) : ByteArray := F.foldl (fun s p => (s ++ p) ++ ⟨#[32]⟩) ⟨#[]⟩
theorem joinS_snoc (F : List ByteArray) (p : ByteArray) : joinS (F ++ [p]) = (joinS F ++ p) ++ ⟨#[32]⟩ := by simp [joinS]
theorem toL_append (a b : ByteArray) : toL (a ++ b) = toL a ++ toL b := by
  unfold toL; rw [ByteArray.data_append]; simp
theorem toL_join (F : List ByteArray) : toL (joinS F) = joinL (F.map toL) := by
  have : ∀ (F : List ByteArray) (s : ByteArray), toL (F.foldl (fun s p => (s ++ p) ++ ⟨#[32]⟩) s) = toL s ++ joinL (F.map toL) := by
    intro F
    induction F with
    | nil => intro s; simp [joinL]
    | cons p t ih =>
      intro s
      rw [List.foldl_cons, ih, toL_append, toL_append]
      simp [joinL, toL]
  rw [joinS, this]; rfl
theorem okUpto_mem {s : ByteArray} (h : okUpto s s.size) : ∀ x, x ∈ toL s → okByte x = true := by
  intro x hx
  obtain ⟨i, hi⟩ := List.getElem?_of_mem hx
  have hl : i < s.size := by
    rcases Nat.lt_or_ge i (toL s).length with h' | h'
    · rw [toL_len] at h'; exact h'
    · rw [List.getElem?_eq_none h'] at hi; cases hi
  have := byteAt_toL s i hl
  rw [this] at hi
  injection hi with hi
  rw [← hi]; exact h i hl
theorem okUpto_of_mem {s : ByteArray} (h : ∀ x, x ∈ toL s → okByte x = true) : okUpto s s.size := fun i hi => h _ (List.mem_of_getElem? (byteAt_toL s i hi))
theorem fldOk_parts {s : ByteArray} (h : fldOk s = true) : s.size ≤ 600 ∧ okUpto s s.size ∧ (fldS s (s.size + 1)).1.length ≤ 24 := by
  simp only [fldOk, Bool.and_eq_true, decide_eq_true_iff] at h
  exact h
theorem fld_props {s : ByteArray} (h : fldOk s = true) : ∀ p, p ∈ fldF s → toL p ≠ [] ∧ 32 ∉ toL p ∧ (∀ x, x ∈ toL p → okByte x = true) ∧ p.size ≤ 600 := by
  intro p hp
  obtain ⟨h1, h2, h3⟩ := fldOk_parts h
  unfold fldF at hp
  rw [if_pos h] at hp
  have hm : toL p ∈ splitL [] (toL s) := by rw [← split_all]; exact List.mem_map_of_mem hp
  obtain ⟨a, b, c, d⟩ := splitL_props (toL s) [] (by simp) _ hm
  refine ⟨a, b, fun x hx => ?_, ?_⟩
  · rcases c x hx with h' | h'
    · cases h'
    · exact okUpto_mem h2 x h'
  · rw [toL_len, toL_len] at d; simp at d; omega
theorem map_toL_inj : ∀ {a b : List ByteArray}, a.map toL = b.map toL → a = b
  | [], [], _ => rfl
  | [], _ :: _, h => by simp at h
  | _ :: _, [], h => by simp at h
  | x :: a, y :: b, h => by
    simp only [List.map_cons, List.cons.injEq] at h
    rw [toL_inj h.1, map_toL_inj h.2]
theorem fields_again {s : ByteArray} (h : fldOk s = true) (hj : (joinS (fldF s)).size ≤ 600) : fldOk (joinS (fldF s)) = true ∧ fldF (joinS (fldF s)) = fldF s := by
  have hp := fld_props h
  obtain ⟨h1, h2, h3⟩ := fldOk_parts h
  have hlen : (fldF s).length ≤ 24 := by unfold fldF; rw [if_pos h]; exact h3
  have hs : (fldS (joinS (fldF s)) ((joinS (fldF s)).size + 1)).1 = fldF s := by
    apply map_toL_inj
    rw [split_all, toL_join, split_join]
    intro p hm
    obtain ⟨q, hq, rfl⟩ := List.mem_map.1 hm
    exact ⟨(hp q hq).1, (hp q hq).2.1⟩
  have hok : okUpto (joinS (fldF s)) (joinS (fldF s)).size := by
    apply okUpto_of_mem
    rw [toL_join]
    intro x hx
    obtain ⟨p, hm, hx⟩ := List.mem_flatMap.1 hx
    obtain ⟨q, hq, rfl⟩ := List.mem_map.1 hm
    rcases List.mem_append.1 hx with hx | hx
    · exact (hp q hq).2.2.1 x hx
    · have : x = 32 := by simpa using hx
      rw [this]; decide
  have ho : fldOk (joinS (fldF s)) = true := by
    simp only [fldOk, Bool.and_eq_true, decide_eq_true_iff]
    exact ⟨hj, hok, by rw [hs]; exact hlen⟩
  exact ⟨ho, by rw [fldF, if_pos ho, hs]⟩
end Go.Proofs.YtmngmmjimkdcfaaDoor
