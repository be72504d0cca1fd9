/- The program's part of a node of a valid window: the members of the closed set. No condition but that the window is valid. -/
import Derived.Test.YtdhppajfdcfikaaPartQ
namespace Go.Proofs.Ytdhppajfdcfikaa
open Go.ChangeShapes Go.WideShapes Go.ChangeAt Go.RowKit
set_option maxHeartbeats 1000000
set_option linter.unusedSimpArgs false
set_option linter.unusedVariables false
theorem win_ends {ns ls : List (Int × Int)} (h : winOkB ns ls = true) {k : Nat} {f t : Int} (hk : ls[k]? = some (f, t)) : 0 ≤ f ∧ f < t ∧ t < (ns.length : Int) := by
  simp only [winOkB, Bool.and_eq_true] at h
  have hl : k < ls.length := by
    rcases Nat.lt_or_ge k ls.length with h' | h'
    · exact h'
    · rw [List.getElem?_eq_none h'] at hk; cases hk
  have := allB_get h.2.2.2.2 hl
  unfold leadLine at this
  rw [ptN_of hk] at this
  simp only [Bool.and_eq_true] at this
  have hlo := this.1
  simp only [leadOkB, Bool.and_eq_true, decide_eq_true_iff] at hlo
  omega
def nl (ls : List (Int × Int)) : List (Nat × Nat) := ls.map fun p => (p.1.toNat, p.2.toNat)
theorem nl_get {ls : List (Int × Int)} {k : Nat} {p : Int × Int} (h : ls[k]? = some p) : (nl ls)[k]? = some (p.1.toNat, p.2.toNat) := by simp [nl, h]
theorem win_nl {ns ls : List (Int × Int)} (h : winOkB ns ls = true) : ∀ p, p ∈ nl ls → p.1 < ns.length ∧ p.2 < ns.length := by
  intro p hp
  obtain ⟨⟨f, t⟩, hq, rfl⟩ := List.mem_map.1 hp
  obtain ⟨k, hk⟩ := List.getElem?_of_mem hq
  have := win_ends h hk
  exact ⟨by show f.toNat < _; omega, by show t.toNat < _; omega⟩
theorem partOf_any (vn vl : Value) (ns ls : List (Int × Int)) (k : Nat) (w : World) (hn : PairsAt w vn ns) (hl : PairsAt w vl ls) (hok : winOkB ns ls = true) (hk : k < ns.length) : Calls Try.prog 77 #[.agg #[vn, vl], .int .i64 (k : Int)] w (NewInts (ptF ns ls k) w) := by
  have s0 : Below w.heap.size w (w.alloc (.cells #[vn, vl] 31)) := (Below.refl _ _).alloc (Nat.le_refl _) _
  have HN := hid (hn.below s0)
  have HL := hid (hl.below s0)
  have B0 := hid (BoxV.new w vn vl 31 w.heap.size rfl)
  have S0 := hid s0
  clear s0
  obtain ⟨A, c, rfl, hcn, hm, _⟩ := id hn
  obtain ⟨A', c', rfl, hcl, hm', _⟩ := id hl
  unfold maxLen at hm hm'
  clear hn hl
  have hwl := win_leads hok
  have hnl := win_nl hok
  have HOK := hid hok
  have v0 := B0.out.c0
  have v1 := B0.out.c1
  have hk0 : (0 : Int) ≤ (k : Int) := by omega
  have hk1 : (k : Int) ≤ 64 := by omega
  obtain ⟨s1, hs1⟩ : ∃ s1 : Nat, s1 = 2 ^ k := ⟨_, rfl⟩
  have hsh : wrap64 ((2 : Int) ^ k) = (s1 : Int) := by
    have h : 2 ^ k < 2 ^ 12 := Nat.pow_lt_pow_right (by omega) (by omega)
    have h1 : s1 < 4096 := by omega
    have e : (2 : Int) ^ k = (s1 : Int) := by rw [hs1]; simp
    rw [e]; unfold wrap64; omega
  have HS1 := hid hs1
  clear hs1
  go_enter Try.func77, Try.ntmps77
  go_wp2_with fail
  go_loopw [5, 13] (fun v i wr => ∃ r : Nat, r ≤ ns.length ∧ i = .int .i64 r ∧ v = .int .i64 ((bPasses (nl ls) s1 r : Nat) : Int) ∧ Hid (Below (w.heap.size + 1) (w.alloc (.cells #[.slice A ns.length c, .slice A' ls.length c'] 31)) wr)) (fun _ i _ => ns.length - (intOf i).toNat)
  case atStart => exact ⟨0, Nat.zero_le _, rfl, by simp [bPasses, hsh], hid (Below.refl _ _)⟩
  case round =>
    obtain ⟨r, hr, rfl, rfl, hb⟩ := hrel
    obtain ⟨wo, rfl⟩ : ∃ wo : World, wo = wr := ⟨_, rfl⟩
    have hb' : Below (w.alloc (.cells #[.slice A ns.length c, .slice A' ls.length c'] 31)).heap.size (w.alloc (.cells #[.slice A ns.length c, .slice A' ls.length c'] 31)) wo := by simpa using hb.out
    have S1 := hid (then_ S0.out hb' S0.out.size)
    have B1 := hid (B0.out.below hb')
    have L1 := hid (HL.out.below hb')
    have HB := hid hb.out
    clear hb hb' v0 v1
    have v0 := B1.out.c0
    have v1 := B1.out.c1
    have vlt := B1.out.lt
    by_cases hlt : r < ns.length
    · have hr0 : (0 : Int) ≤ (r : Int) := by omega
      have hr1 : (r : Int) < (ns.length : Int) := by omega
      go_wp2_with fail
      go_loopw [5, 18] (fun v i wr => ∃ j : Nat, j ≤ ls.length ∧ i = .int .i64 j ∧ v = .int .i64 ((bPass ((nl ls).take j) (bPasses (nl ls) s1 r) : Nat) : Int) ∧ Hid (Below wo.heap.size wo wr)) (fun _ i _ => ls.length - (intOf i).toNat)
      case atStart => exact ⟨0, Nat.zero_le _, rfl, rfl, hid (Below.refl _ _)⟩
      case round =>
        obtain ⟨j, hj, rfl, rfl, hb2⟩ := hrel
        clear v0 v1 vlt
        have L2 := hid (L1.out.below hb2.out)
        have z2 : wo.heap.size ≤ wr.heap.size := hb2.out.size
        by_cases hjt : j < ls.length
        · obtain ⟨⟨f0, t0⟩, hft⟩ : ∃ p, ls[j]? = some p := ⟨_, List.getElem?_eq_getElem hjt⟩
          obtain ⟨e0, e1, e2⟩ := win_ends HOK.out hft
          obtain ⟨b1, off, rfl, hbb, h1, h2⟩ := L2.out.at_ hft
          have hn := nl_get hft
          obtain ⟨f, rfl⟩ : ∃ f : Nat, f0 = (f : Int) := ⟨f0.toNat, by omega⟩
          obtain ⟨t, rfl⟩ : ∃ t : Nat, t0 = (t : Int) := ⟨t0.toNat, by omega⟩
          have E := hid (show bPass ((nl ls).take (j + 1)) (bPasses (nl ls) s1 r) = bStep (bPass ((nl ls).take j) (bPasses (nl ls) s1 r)) (f, t) from bPass_take_succ (nl ls) (bPasses (nl ls) s1 r) j _ hn)
          have hlt12 := bPass_lt 12 ((nl ls).take j) (fun p hp => by have := hnl p (List.mem_of_mem_take hp); omega) _ (bPasses_lt 12 (nl ls) (fun p hp => by have := hnl p hp; omega) s1 (by rw [HS1.out]; exact Nat.pow_lt_pow_right (by omega) (by omega)) r)
          clear hft hn
          generalize bPass ((nl ls).take j) (bPasses (nl ls) s1 r) = S at E hlt12 ⊢
          have hj0 : (0 : Int) ≤ (j : Int) := by omega
          have hj1 : (j : Int) < (ls.length : Int) := by omega
          have hf0 : (0 : Int) ≤ (f : Int) := by omega
          have hf1 : (f : Int) ≤ 64 := by omega
          have ht0 : (0 : Int) ≤ (t : Int) := by omega
          have ht1 : (t : Int) ≤ 64 := by omega
          have hand : ∀ i : Nat, bits .and .i64 ((S : Int) / 2 ^ i) 1 = if S.testBit i then 1 else 0 := fun i => by
            have hq : (S : Int) / 2 ^ i = ((S / 2 ^ i : Nat) : Int) := by simp
            have := and_i64 (S / 2 ^ i) 1 (Nat.lt_of_le_of_lt (Nat.div_le_self _ _) (by omega)) (by decide)
            rw [hq]; rw [bit_of] at this; rw [show (1 : Int) = ((1 : Nat) : Int) from rfl, this]; split <;> rfl
          have C9 := hid (show ∀ m : Nat, m < 12 → wrap64 ((2 : Int) ^ m) = ((2 ^ m : Nat) : Int) from fun m hm => by
            have h : 2 ^ m < 2 ^ 12 := Nat.pow_lt_pow_right (by omega) hm
            have e : (2 : Int) ^ m = ((2 ^ m : Nat) : Int) := by simp
            rw [e]; generalize 2 ^ m = z at h ⊢; unfold wrap64; omega)
          have HAL := hid (hb2.out.alloc z2 (.cells #[.int .i64 (f : Int), .int .i64 (t : Int)] 73))
          have X0 := hid (Box2.new wr (f : Int) (t : Int) 73 wr.heap.size rfl)
          by_cases hin : S.testBit f = true ∨ S.testBit t = true
          · have hone : bits .and .i64 ((S : Int) / 2 ^ f) 1 = 1 ∨ (bits .and .i64 ((S : Int) / 2 ^ f) 1 = 0 ∧ bits .and .i64 ((S : Int) / 2 ^ t) 1 = 1) := by
              rw [hand f, hand t]
              cases h1 : S.testBit f <;> cases h2 : S.testBit t <;> simp_all
            have E2 := hid (show bStep S (f, t) = S ||| (2 ^ f ||| 2 ^ t) by unfold bStep; rw [if_pos (by simpa using hin)])
            clear hand hin
            have w1 : wrap64 ((2 : Int) ^ f) = ((2 ^ f : Nat) : Int) := C9.out f (by omega)
            have w2 : wrap64 ((2 : Int) ^ t) = ((2 ^ t : Nat) : Int) := C9.out t (by omega)
            have l1 : 2 ^ f < 2 ^ 12 := Nat.pow_lt_pow_right (by omega) (by omega)
            have l2 : 2 ^ t < 2 ^ 12 := Nat.pow_lt_pow_right (by omega) (by omega)
            have o1 := or_i64 (2 ^ f) (2 ^ t) (by omega) (by omega)
            have l3 := Nat.or_lt_two_pow l1 l2
            have o2 := or_i64 S (2 ^ f ||| 2 ^ t) (by omega) (by omega)
            rw [← E2.out] at o2
            generalize bStep S (f, t) = z at o2 E
            generalize (2 ^ f ||| 2 ^ t) = y at o1 o2
            generalize ((2 ^ f : Nat) : Int) = a at w1 o1
            generalize ((2 ^ t : Nat) : Int) = b at w2 o1
            clear l1 l2 l3 E2 hlt12
            rcases hone with q1 | ⟨q1, q2⟩
            all_goals
              go_wp2_with fail
              have m0 := fun p => (X0.out.mv p).c0
              have m1 := fun p => (X0.out.mv p).c1
              refine wp_region_mv (by kernel_rfl) (by kernel_rfl) ?_
              repeat (go_big_quiet_step (fail))
              refine wpQuiet_nil ?_
              intro _ hw'
              obtain ⟨q, hw''⟩ := hw'
              subst hw''
              have HX := hid (then_ HAL.out (below_mv _ q) HAL.out.size)
              clear m0 m1
              go_wp2
              go_roundw
              case rel => exact ⟨j + 1, by omega, by go_num, by rw [E.out], HX⟩
              case measure => simp [intOf]; omega
          · have q1 : bits .and .i64 ((S : Int) / 2 ^ f) 1 = 0 := by rw [hand f, if_neg (fun h => hin (.inl h))]
            have q2 : bits .and .i64 ((S : Int) / 2 ^ t) 1 = 0 := by rw [hand t, if_neg (fun h => hin (.inr h))]
            have E2 := hid (show bStep S (f, t) = S by unfold bStep; rw [if_neg (by simpa using hin)])
            clear hand hin
            go_wp2
            go_roundw
            case rel => exact ⟨j + 1, by omega, by go_num, by rw [E.out, E2.out], HAL⟩
            case measure => simp [intOf]; omega
        · have he : j = ls.length := by omega
          subst he
          have E := hid (show bPass ((nl ls).take ls.length) (bPasses (nl ls) s1 r) = bPasses (nl ls) s1 (r + 1) by rw [List.take_of_length_le (by simp [nl])]; rfl)
          have HB3 := hid (HB.out.trans (hb2.out.mono (by have := HB.out.size; simpa using this)))
          go_wp2
          go_roundw
          case rel => exact ⟨r + 1, by omega, by go_num, by rw [E.out], HB3⟩
          case measure => simp [intOf]; omega
    · have he : r = ns.length := by omega
      subst he
      have hlt12 := bPasses_lt 12 (nl ls) (fun p hp => by have := hnl p hp; omega) s1 (by rw [HS1.out]; exact Nat.pow_lt_pow_right (by omega) (by omega)) ns.length
      have MB := hid (fun W => membersOf_any (bPasses (nl ls) s1 ns.length) hlt12 W)
      have EP := hid (show mem (bPasses (nl ls) s1 ns.length) 12 = ptF ns ls k by rw [HS1.out]; rfl)
      go_wp2_with fail
      refine (MB.out _).mono ?_
      rintro e w3 ⟨v, rfl, ho, hb3⟩
      have O3 := hid (own_less ho S1.out.size)
      have S3 := hid (then_ S1.out hb3 S1.out.size)
      clear ho hb3
      obtain ⟨A9, c9, rfl⟩ := own_form O3.out
      go_wp2
      go_ret
      exact ⟨_, rfl, by rw [← EP.out]; exact O3.out, S3.out⟩
end Go.Proofs.Ytdhppajfdcfikaa
