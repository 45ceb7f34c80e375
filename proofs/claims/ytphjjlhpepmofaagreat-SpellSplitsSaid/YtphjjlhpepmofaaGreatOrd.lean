/- Plain laws. -/
import Derived.Test.YtphjjlhpepmofaaGreatAMZ
set_option linter.all false
set_option maxHeartbeats 2000000
namespace Go.Proofs
open Go Go.AM
/-! The orders of texts and of words. -/
theorem ltB_nil (a : Bs) : ltB a [] = false := by cases a <;> rfl
theorem ltB_nil2 (x : UInt8) (b : Bs) : ltB [] (x :: b) = true := rfl
theorem ltB_cons (x y : UInt8) (a b : Bs) : ltB (x :: a) (y :: b) = (decide (x < y) || (x == y && ltB a b)) := rfl
theorem ltB_irrefl : ∀ a : Bs, ltB a a = false
  | [] => rfl
  | x :: a => by rw [ltB_cons, ltB_irrefl a]; simp
theorem ltB_trans : ∀ {a b c : Bs}, ltB a b = true → ltB b c = true → ltB a c = true
  | _, b, [], _, h2 => by rw [ltB_nil] at h2; cases h2
  | _, [], _ :: _, h1, _ => by rw [ltB_nil] at h1; cases h1
  | [], _ :: _, _ :: _, _, _ => rfl
  | x :: a, y :: b, z :: c, h1, h2 => by
    rw [ltB_cons, Bool.or_eq_true, Bool.and_eq_true] at *
    simp only [decide_eq_true_eq, beq_iff_eq] at *
    rcases h1 with h1 | ⟨rfl, h1⟩
    · rcases h2 with h2 | ⟨rfl, h2⟩
      · exact .inl (UInt8.lt_trans h1 h2)
      · exact .inl h1
    · rcases h2 with h2 | ⟨rfl, h2⟩
      · exact .inl h2
      · exact .inr ⟨rfl, ltB_trans h1 h2⟩
theorem ltB_asymm {a b : Bs} (h : ltB a b = true) : ltB b a = false := by
  cases h2 : ltB b a
  · rfl
  · have := ltB_trans h h2; rw [ltB_irrefl] at this; cases this
theorem ltB_total : ∀ {a b : Bs}, ltB a b = false → ltB b a = false → a = b
  | [], [], _, _ => rfl
  | [], _ :: _, h, _ => by cases h
  | _ :: _, [], _, h => by cases h
  | x :: a, y :: b, h1, h2 => by
    rw [ltB_cons, Bool.or_eq_false_iff, Bool.and_eq_false_iff] at *
    simp only [decide_eq_false_iff_not, UInt8.not_lt] at *
    obtain ⟨q1, q2⟩ := h1
    obtain ⟨q3, q4⟩ := h2
    have e : x = y := UInt8.le_antisymm q3 q1
    subst e
    simp at q2 q4
    rw [ltB_total q2 q4]
theorem ltB_ne {a b : Bs} (h : ltB a b = true) : a ≠ b := by
  rintro rfl; rw [ltB_irrefl] at h; cases h

def cmpB (a b : Bs) : Int := if ltB a b = true then -1 else if a = b then 0 else 1
def cmpW : List Bs → List Bs → Int
  | [], [] => 0
  | [], _ :: _ => -1
  | _ :: _, [] => 1
  | x :: w, y :: v => if cmpB x y = 0 then cmpW w v else cmpB x y

theorem cmpB_self (a : Bs) : cmpB a a = 0 := by simp [cmpB, ltB_irrefl]
theorem cmpB_zero {a b : Bs} : cmpB a b = 0 ↔ a = b := by
  constructor
  · intro h; unfold cmpB at h; split at h
    · omega
    · split at h
      · assumption
      · omega
  · rintro rfl; exact cmpB_self a
theorem cmpB_neg {a b : Bs} : cmpB a b < 0 ↔ ltB a b = true := by
  unfold cmpB; split
  · simp [*]
  · rename_i h; split <;> simp [h]
theorem cmpB_pos {a b : Bs} : 0 < cmpB a b ↔ ltB b a = true := by
  unfold cmpB; split
  · rename_i h; simp [ltB_asymm h]
  · rename_i h; split
    · rename_i e; subst e; simp [ltB_irrefl]
    · rename_i e
      simp
      cases h2 : ltB b a
      · exact absurd (ltB_total (by simpa using h) h2) e
      · rfl
theorem cmpB_range (a b : Bs) : cmpB a b = -1 ∨ cmpB a b = 0 ∨ cmpB a b = 1 := by
  unfold cmpB; split
  · simp
  · split <;> simp

theorem cmpW_self : ∀ a : List Bs, cmpW a a = 0
  | [] => rfl
  | x :: a => by simp [cmpW, cmpB_self, cmpW_self a]
theorem cmpW_zero : ∀ {a b : List Bs}, cmpW a b = 0 → a = b
  | [], [], _ => rfl
  | [], _ :: _, h => by simp [cmpW] at h
  | _ :: _, [], h => by simp [cmpW] at h
  | x :: a, y :: b, h => by
    simp only [cmpW] at h
    split at h
    · rename_i e; rw [cmpB_zero.1 e, cmpW_zero h]
    · omega
theorem cmpW_neg_trans : ∀ {a b c : List Bs}, cmpW a b < 0 → cmpW b c < 0 → cmpW a c < 0
  | [], [], _, h, _ => by simp [cmpW] at h
  | _ :: _, [], _, h, _ => by simp [cmpW] at h
  | _, _ :: _, [], _, h => by simp [cmpW] at h
  | [], _ :: _, _ :: _, _, _ => by simp [cmpW]
  | x :: a, y :: b, z :: c, h1, h2 => by
    simp only [cmpW] at *
    split at h1
    · rename_i e1
      have e1 := cmpB_zero.1 e1
      subst e1
      split at h2
      · rename_i e2; rw [if_pos e2]; exact cmpW_neg_trans h1 h2
      · rename_i e2; rw [if_neg e2]; exact h2
    · split at h2
      · rename_i e1 e2
        have e2 := cmpB_zero.1 e2
        subst e2
        rw [if_neg e1]; exact h1
      · have := cmpB_neg.2 (ltB_trans (cmpB_neg.1 h1) (cmpB_neg.1 h2))
        rw [if_neg (by omega)]; exact this
theorem cmpW_pos : ∀ {a b : List Bs}, 0 < cmpW a b ↔ cmpW b a < 0
  | [], [] => by simp [cmpW]
  | [], _ :: _ => by simp [cmpW]
  | _ :: _, [] => by simp [cmpW]
  | x :: a, y :: b => by
    simp only [cmpW]
    by_cases h : x = y
    · subst h; simp only [cmpB_self, if_true]; exact cmpW_pos
    · rw [if_neg (fun e => h (cmpB_zero.1 e)), if_neg (fun e => h (cmpB_zero.1 e).symm), cmpB_pos, cmpB_neg]
theorem cmpW_not_neg {a b : List Bs} (h : ¬ cmpW a b < 0) (h2 : a ≠ b) : cmpW b a < 0 := by
  have : cmpW a b ≠ 0 := fun e => h2 (cmpW_zero e)
  exact cmpW_pos.1 (by omega)
/-! Bounds of what a statement reads. -/
def strC (s : Bs) : Prop := s.length ≤ 140737488351232
def wordC (w : List Bs) : Prop := w.length * 16 ≤ 140737488351232 ∧ ∀ s ∈ w, s.length ≤ 140737488351232
def intC (n : Int) : Prop := (Lit.int .i64 n).wf = true
def wordS (w : List Bs) : Prop := w.length ≤ 200000000000000 ∧ ∀ s ∈ w, s.length ≤ 200000000000000
theorem wordC.s {w : List Bs} (h : wordC w) : wordS w := ⟨by have := h.1; omega, fun s hs => by have := h.2 s hs; omega⟩

end Go.Proofs
