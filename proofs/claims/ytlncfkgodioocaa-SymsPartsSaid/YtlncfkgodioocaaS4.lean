/- The order of texts, of lists of texts, and of words, in plain words; what the comparing functions come to. -/
import Derived.Test.YtlncfkgodioocaaS3
import Derived.Test.YtlncfkgodioocaaQ0d
import Derived.Test.YtlncfkgodioocaaQ0b
import Derived.Test.YtlncfkgodioocaaQ0a
namespace Go.Proofs.Ytlncfkgodioocaa.P
open Go.RowKit Go.Proofs.YtlncfkgodioocaaW.PrintWords

theorem less_irrefl : ∀ a : List UInt8, Op.bytesLess a a = false
  | [] => rfl
  | x :: a => by simp [Op.bytesLess, less_irrefl a]
theorem less_trans : ∀ a b c : List UInt8, Op.bytesLess a b = true → Op.bytesLess b c = true → Op.bytesLess a c = true
  | _, [], _, h, _ => by simp [Op.bytesLess] at h
  | _, _ :: _, [], _, h => by simp [Op.bytesLess] at h
  | [], _ :: _, _ :: _, _, _ => rfl
  | x :: a, y :: b, z :: c, h1, h2 => by
    simp only [Op.bytesLess, Bool.or_eq_true, decide_eq_true_eq, Bool.and_eq_true, beq_iff_eq] at *
    rcases h1 with h1 | ⟨rfl, h1⟩
    · rcases h2 with h2 | ⟨rfl, _⟩
      · exact .inl (UInt8.lt_trans h1 h2)
      · exact .inl h1
    · rcases h2 with h2 | ⟨rfl, h2⟩
      · exact .inl h2
      · exact .inr ⟨rfl, less_trans a b c h1 h2⟩
theorem lt_irrefl (a : ByteArray) : lt a a = false := less_irrefl _
theorem lt_trans {a b c : ByteArray} (h : lt a b = true) (k : lt b c = true) : lt a c = true := less_trans _ _ _ h k
theorem lt_asymm {a b : ByteArray} (h : lt a b = true) : lt b a = false := by
  cases hb : lt b a with
  | false => rfl
  | true => have := lt_trans h hb; rw [lt_irrefl] at this; cases this
theorem lt_eq {a b : ByteArray} (h : lt a b = false) (k : lt b a = false) : a = b := by
  have := mw_less_total a.toList b.toList
  simp only [lt] at h k
  rw [h, k] at this
  simp at this
  exact toList_inj this
theorem lt_ne {a b : ByteArray} (h : lt a b = true) : a ≠ b := fun e => by rw [e, lt_irrefl] at h; cases h

/-- The order of lists of texts: text by text, a beginning first. -/
def ordL : List ByteArray → List ByteArray → Int
  | [], [] => 0
  | [], _ :: _ => -1
  | _ :: _, [] => 1
  | a :: x, b :: y => if lt a b then -1 else if lt b a then 1 else ordL x y
/-- Shortlex. -/
def cmpL (a b : List ByteArray) : Int := if a.length < b.length then -1 else if b.length < a.length then 1 else ordL a b

theorem ordL_self : ∀ a, ordL a a = 0
  | [] => rfl
  | x :: a => by simp [ordL, lt_irrefl, ordL_self a]
theorem ordL_eq : ∀ a b, ordL a b = 0 → a = b
  | [], [], _ => rfl
  | [], _ :: _, h => by simp [ordL] at h
  | _ :: _, [], h => by simp [ordL] at h
  | x :: a, y :: b, h => by
    rw [ordL] at h
    cases h1 : lt x y with
    | true => rw [h1] at h; simp at h
    | false =>
      cases h2 : lt y x with
      | true => rw [h1, h2] at h; simp at h
      | false =>
        rw [h1, h2] at h
        simp at h
        rw [lt_eq h1 h2, ordL_eq a b h]
theorem ordL_iff (a b : List ByteArray) : ordL a b = 0 ↔ a = b := ⟨ordL_eq a b, fun h => h ▸ ordL_self a⟩
theorem ordL_three : ∀ a b, ordL a b = -1 ∨ ordL a b = 0 ∨ ordL a b = 1
  | [], [] => .inr (.inl rfl)
  | [], _ :: _ => .inl rfl
  | _ :: _, [] => .inr (.inr rfl)
  | x :: a, y :: b => by
    rw [ordL]
    split
    · exact .inl rfl
    · split
      · exact .inr (.inr rfl)
      · exact ordL_three a b
theorem ordL_flip : ∀ a b, ordL b a = - ordL a b
  | [], [] => rfl
  | [], _ :: _ => rfl
  | _ :: _, [] => rfl
  | x :: a, y :: b => by
    rw [ordL, ordL]
    cases h1 : lt x y with
    | true => rw [lt_asymm h1]; simp
    | false =>
      cases h2 : lt y x with
      | true => simp
      | false => simpa using ordL_flip a b
theorem ordL_trans : ∀ a b c, ordL a b ≤ 0 → ordL b c ≤ 0 → ordL a c ≤ 0 ∧ (ordL a c = 0 → ordL a b = 0 ∧ ordL b c = 0)
  | [], [], c, _, h => ⟨h, fun e => ⟨rfl, e⟩⟩
  | [], _ :: _, [], _, h => by simp [ordL] at h
  | [], _ :: _, _ :: _, _, _ => ⟨by simp [ordL], by simp [ordL]⟩
  | _ :: _, [], _, h, _ => by simp [ordL] at h
  | _ :: _, _ :: _, [], _, h => by simp [ordL] at h
  | x :: a, y :: b, z :: c, h1, h2 => by
    rw [ordL] at h1 h2
    simp only [ordL]
    cases exy : lt x y with
    | true =>
      cases eyz : lt y z with
      | true => rw [lt_trans exy eyz]; simp
      | false =>
        rw [eyz] at h2
        cases ezy : lt z y with
        | true => rw [ezy] at h2; simp at h2
        | false => rw [← lt_eq eyz ezy, exy]; simp
    | false =>
      rw [exy] at h1
      cases eyx : lt y x with
      | true => rw [eyx] at h1; simp at h1
      | false =>
        rw [eyx] at h1
        obtain rfl := lt_eq exy eyx
        cases exz : lt x z with
        | true => simp
        | false =>
          rw [exz] at h2
          cases ezx : lt z x with
          | true => rw [ezx] at h2; simp at h2
          | false =>
            rw [ezx] at h2
            simp at h1 h2
            simpa using ordL_trans a b c h1 h2
theorem cmpL_self (a : List ByteArray) : cmpL a a = 0 := by simp [cmpL, ordL_self]
theorem cmpL_iff (a b : List ByteArray) : cmpL a b = 0 ↔ a = b := by
  unfold cmpL
  constructor
  · intro h
    split at h
    · simp at h
    · split at h
      · simp at h
      · exact ordL_eq a b h
  · rintro rfl
    simp [ordL_self]
theorem cmpL_three (a b : List ByteArray) : cmpL a b = -1 ∨ cmpL a b = 0 ∨ cmpL a b = 1 := by
  unfold cmpL
  split
  · exact .inl rfl
  · split
    · exact .inr (.inr rfl)
    · exact ordL_three a b
theorem cmpL_flip (a b : List ByteArray) : cmpL b a = - cmpL a b := by
  unfold cmpL
  by_cases h1 : a.length < b.length
  · rw [if_neg (by omega), if_pos h1, if_pos h1]; rfl
  · by_cases h2 : b.length < a.length
    · rw [if_pos h2, if_neg h1, if_pos h2]
    · rw [if_neg h2, if_neg h1, if_neg h1, if_neg h2, ordL_flip]
theorem cmpL_trans (a b c : List ByteArray) (h1 : cmpL a b ≤ 0) (h2 : cmpL b c ≤ 0) : cmpL a c ≤ 0 ∧ (cmpL a c = 0 → cmpL a b = 0 ∧ cmpL b c = 0) := by
  unfold cmpL at *
  by_cases e1 : a.length < b.length
  · rw [if_pos e1] at h1 ⊢
    by_cases e2 : c.length < b.length
    · rw [if_neg (by omega), if_pos e2] at h2; simp at h2
    · rw [if_pos (by omega)]; simp
  · rw [if_neg e1] at h1
    by_cases e1' : b.length < a.length
    · rw [if_pos e1'] at h1; simp at h1
    · rw [if_neg e1'] at h1
      by_cases e2 : b.length < c.length
      · rw [if_pos (show a.length < c.length by omega)]; simp
      · rw [if_neg e2] at h2
        by_cases e2' : c.length < b.length
        · rw [if_pos e2'] at h2; simp at h2
        · rw [if_neg e2'] at h2
          rw [if_neg (show ¬ a.length < c.length by omega), if_neg (show ¬ c.length < a.length by omega), if_neg e1, if_neg e1', if_neg e2, if_neg e2']
          exact ordL_trans a b c h1 h2

/-! ### what the functions come to -/
theorem cmpInt_eq (a b : Int) : cmp_Compare_int.f a b = some (if a < b then -1 else if b < a then 1 else 0) := by
  simp [cmp_Compare_int.f, cmp_isNaN_int.f]
  by_cases h : a < b
  · simp [h]
  · by_cases h2 : b < a <;> simp [h, h2]
theorem cmpStr_eq (a b : ByteArray) : cmp_Compare_string.f a b = some (if lt a b then -1 else if lt b a then 1 else 0) := by
  simp only [cmp_Compare_string.f, cmp_isNaN_string.f, lt]
  simp
  by_cases h : Op.bytesLess a.toList b.toList = true
  · simp [h]
  · by_cases h2 : Op.bytesLess b.toList a.toList = true <;> simp [h, h2]

theorem ordL_drop (a b : List ByteArray) {j : Nat} (h1 : j < a.length) (h2 : j < b.length) : ordL (a.drop j) (b.drop j) = if lt a[j] b[j] then -1 else if lt b[j] a[j] then 1 else ordL (a.drop (j + 1)) (b.drop (j + 1)) := by
  rw [List.drop_eq_getElem_cons h1, List.drop_eq_getElem_cons h2, ordL]
theorem ordL_ends (a b : List ByteArray) {j : Nat} (h : a.length ≤ j ∨ b.length ≤ j) (hj : j ≤ a.length) (hj2 : j ≤ b.length) : ordL (a.drop j) (b.drop j) = if a.length < b.length then -1 else if a.length > b.length then 1 else 0 := by
  rcases Nat.lt_or_ge j a.length with ha | ha
  · have hb : b.length = j := by omega
    rw [List.drop_eq_getElem_cons ha, List.drop_eq_nil_of_le (show b.length ≤ j by omega), ordL, if_neg (by omega), if_pos (by omega)]
  · rw [List.drop_eq_nil_of_le ha]
    rcases Nat.lt_or_ge j b.length with hb | hb
    · rw [List.drop_eq_getElem_cons hb, ordL, if_pos (by omega)]
    · rw [List.drop_eq_nil_of_le hb, ordL, if_neg (by omega), if_neg (by omega)]

theorem Order_l (a b : List ByteArray) (hlen : a.length ≤ 9223372036854775807) : ∀ (d j : Nat), a.length = j + d → j ≤ b.length → Ev (fun k => ablautref01_Order.l0 k a b (j : Int)) (ordL (a.drop j) (b.drop j)) := by
  intro d
  induction d with
  | zero =>
    intro j hj hb
    refine Ev.step (fun k => ablautref01_Order.l0.eq_2 _ _ _ _) ?_
    simp only [if_neg (show ¬ ((j : Int) < (a.length : Int)) by omega)]
    refine Ev.step (fun k => ablautref01_Order.j1.eq_2 _ _ _ _ _) ?_
    simp only [Bool.false_eq_true, if_false]
    rw [ordL_ends a b (.inl (by omega)) (by omega) hb]
    by_cases h1 : a.length < b.length
    · simp only [h1, show (a.length : Int) < b.length from by omega, if_true]; exact Ev.now _
    · by_cases h2 : a.length > b.length
      · simp only [h1, h2, show ¬ ((a.length : Int) < b.length) from by omega, show ((a.length : Int) > b.length) from by omega, if_true, if_false]; exact Ev.now _
      · simp only [h1, h2, show ¬ ((a.length : Int) < b.length) from by omega, show ¬ ((a.length : Int) > b.length) from by omega, if_false]; exact Ev.now _
  | succ d ih =>
    intro j hj hb
    have hj' : j < a.length := by omega
    refine Ev.step (fun k => ablautref01_Order.l0.eq_2 _ _ _ _) ?_
    simp only [show ((j : Int) < (a.length : Int)) from by omega, if_true]
    refine Ev.step (fun k => ablautref01_Order.j1.eq_2 _ _ _ _ _) ?_
    by_cases hjb : j < b.length
    · rw [rdOf_nat _ _ hj', rdOf_nat _ _ hjb, wrap_succ (by omega), ordL_drop a b hj' hjb]
      simp only [show ((j : Int) < (a.length : Int)) from by omega, show ((j : Int) < (b.length : Int)) from by omega, show (0 : Int) ≤ (j : Int) from by omega, decide_true, if_true]
      show Ev (fun k => if lt a[j] b[j] = true then some (-1) else if lt b[j] a[j] = true then some 1 else ablautref01_Order.l0 k a b ((j + 1 : Nat) : Int)) _
      cases lt a[j] b[j] with
      | true => simpa using Ev.now _
      | false =>
        cases lt b[j] a[j] with
        | true => simpa using Ev.now _
        | false => simpa using ih (j + 1) (by omega) (by omega)
    · simp only [show ¬ ((j : Int) < (b.length : Int)) from by omega, decide_false, Bool.false_eq_true, if_false]
      rw [ordL_ends a b (.inr (by omega)) (by omega) hb]
      simp only [show ¬ (a.length < b.length) from by omega, show ¬ ((a.length : Int) < b.length) from by omega, show ((a.length : Int) > b.length) from by omega, show (a.length > b.length) from by omega, if_true, if_false]
      exact Ev.now _
theorem Order_ev (a b : List ByteArray) (hlen : a.length ≤ 9223372036854775807) : Ev (fun k => ablautref01_Order.f k a b) (ordL a b) := by
  simpa [ablautref01_Order.f] using Order_l a b hlen a.length 0 (by omega) (by omega)
theorem Same_ev (a b : List ByteArray) (hlen : a.length ≤ 9223372036854775807) : Ev (fun k => ablautref01_Same.f k a b) (decide (a = b)) := by
  unfold ablautref01_Same.f
  refine Ev.bind (Order_ev a b hlen) ?_
  refine ev_cast (Ev.now _) ?_
  rw [Bool.eq_iff_iff, beq_iff_eq, ordL_iff, decide_eq_true_iff]

theorem slicesCompare_l (a b : List ByteArray) (hlen : a.length ≤ 9223372036854775807) : ∀ (d j : Nat), a.length = j + d → j ≤ b.length → Ev (fun k => slices_Compare_string_string.l0 k a b a (a.length : Int) (j : Int)) (ordL (a.drop j) (b.drop j)) := by
  intro d
  induction d with
  | zero =>
    intro j hj hb
    refine Ev.step (fun k => slices_Compare_string_string.l0.eq_2 _ _ _ _ _ _) ?_
    simp only [if_neg (show ¬ ((j : Int) < (a.length : Int)) by omega)]
    rw [ordL_ends a b (.inl (by omega)) (by omega) hb]
    by_cases h1 : a.length < b.length
    · simp only [h1, show (a.length : Int) < b.length from by omega, if_true]; exact Ev.now _
    · simp only [h1, show ¬ ((a.length : Int) < b.length) from by omega, show ¬ (a.length > b.length) from by omega, if_false]; exact Ev.now _
  | succ d ih =>
    intro j hj hb
    have hj' : j < a.length := by omega
    refine Ev.step (fun k => slices_Compare_string_string.l0.eq_2 _ _ _ _ _ _) ?_
    by_cases hjb : j < b.length
    · rw [rdOf_nat _ _ hj', rdOf_nat _ _ hjb, wrap_succ (by omega), ordL_drop a b hj' hjb, cmpStr_eq]
      simp only [show ((j : Int) < (a.length : Int)) from by omega, show ((j : Int) < (b.length : Int)) from by omega, show ¬ ((j : Int) ≥ (b.length : Int)) from by omega, show (0 : Int) ≤ (j : Int) from by omega, if_true, if_false, Option.bind_some]
      cases lt a[j] b[j] with
      | true => simpa using Ev.now _
      | false =>
        cases lt b[j] a[j] with
        | true => simpa using Ev.now _
        | false => simpa using ih (j + 1) (by omega) (by omega)
    · simp only [show ((j : Int) < (a.length : Int)) from by omega, show ((j : Int) ≥ (b.length : Int)) from by omega, show (0 : Int) ≤ (j : Int) from by omega, if_true]
      rw [ordL_ends a b (.inr (by omega)) (by omega) hb]
      simp only [show ¬ (a.length < b.length) from by omega, show (a.length > b.length) from by omega, if_true, if_false]
      exact Ev.now _
theorem slicesCompare_ev (a b : List ByteArray) (hlen : a.length ≤ 9223372036854775807) : Ev (fun k => slices_Compare_string_string.f k a b) (ordL a b) := by
  simpa [slices_Compare_string_string.f] using slicesCompare_l a b hlen a.length 0 (by omega) (by omega)

theorem syms_Compare_ev (a b : List ByteArray) (hlen : a.length ≤ 9223372036854775807) : Ev (fun k => syms_Compare.f k a b) (cmpL a b) := by
  unfold syms_Compare.f cmpL
  simp only [cmpInt_eq, Option.bind_some]
  by_cases h1 : a.length < b.length
  · simp only [h1, show (a.length : Int) < b.length from by omega, if_true]
    simpa using Ev.now _
  · by_cases h2 : b.length < a.length
    · simp only [h1, h2, show ¬ ((a.length : Int) < b.length) from by omega, show ((b.length : Int) < a.length) from by omega, if_true, if_false]
      simpa using Ev.now _
    · simp only [h1, h2, show ¬ ((a.length : Int) < b.length) from by omega, show ¬ ((b.length : Int) < a.length) from by omega, if_true, if_false]
      exact Ev.bind (slicesCompare_ev a b hlen) (Ev.now _)
theorem ref_Compare_ev (a b : List ByteArray) (hlen : a.length ≤ 9223372036854775807) : Ev (fun k => ablautref01_Compare.f k a b) (cmpL a b) := by
  unfold ablautref01_Compare.f cmpL
  by_cases h1 : a.length < b.length
  · simp only [h1, show (a.length : Int) < b.length from by omega, if_true]
    exact Ev.now _
  · by_cases h2 : b.length < a.length
    · simp only [h1, h2, show ¬ ((a.length : Int) < b.length) from by omega, show ((a.length : Int) > b.length) from by omega, if_true, if_false]
      exact Ev.now _
    · simp only [h1, h2, show ¬ ((a.length : Int) < b.length) from by omega, show ¬ ((a.length : Int) > b.length) from by omega, if_false]
      first
        | exact Order_ev a b hlen
        | exact Ev.bind (Order_ev a b hlen) (Ev.now _)

end Go.Proofs.Ytlncfkgodioocaa.P
