/- Plain laws. -/
import Derived.Test.YtlhpjeckaepdlaaSb2
set_option linter.all false
set_option maxHeartbeats 2000000
namespace Go.Proofs
open Go Go.AM
/-! A list as blocks that are sorted each. -/
section
variable {α : Type} [Inhabited α] {c : α → α → Int}
inductive Bl (c : α → α → Int) (s : Nat) : List α → List α → Prop
  | nil : Bl c s [] []
  | last {A : List α} : A ≠ [] → A.length ≤ s → Bl c s A (isrt c A)
  | cons {A X D : List α} : A.length = s → X ≠ [] → Bl c s X D → Bl c s (A ++ X) (isrt c A ++ D)
theorem isrt_nil : isrt c ([] : List α) = [] := rfl
theorem Bl.len {s : Nat} {X D : List α} (h : Bl c s X D) : D.length = X.length := by
  induction h with
  | nil => rfl
  | last _ _ => exact isrt_len _
  | cons _ _ _ ih => simp [isrt_len, ih]
theorem Bl.push {s : Nat} (hs : 0 < s) {A X D : List α} (hA : A.length = s) (h : Bl c s X D) : Bl c s (A ++ X) (isrt c A ++ D) := by
  by_cases hX : X = []
  · subst hX
    have hD : D = [] := List.length_eq_zero_iff.1 h.len
    subst hD
    rw [List.append_nil, List.append_nil]
    exact .last (by intro e; rw [e] at hA; simp at hA; omega) (by omega)
  · exact .cons hA hX h
theorem Bl.part {s : Nat} {A : List α} (hA : A.length ≤ s) : Bl c s A (isrt c A) := by
  by_cases h : A = []
  · subst h; exact .nil
  · exact .last h hA
theorem Bl.small {s : Nat} (hs : 0 < s) {X D : List α} (h : Bl c s X D) (hl : X.length ≤ s) : D = isrt c X := by
  cases h with
  | nil => rfl
  | last _ _ => rfl
  | cons hA hX h =>
    have := List.length_pos_iff.2 hX
    rw [List.length_append] at hl
    omega
theorem Bl.one {s : Nat} (hs : 0 < s) {X D : List α} (h : Bl c s X D) (hl : s < X.length) : ∃ A X' D', A.length = s ∧ X = A ++ X' ∧ D = isrt c A ++ D' ∧ Bl c s X' D' ∧ X' ≠ [] := by
  cases h with
  | nil => simp at hl
  | last _ h => omega
  | cons hA hX h => exact ⟨_, _, _, hA, rfl, rfl, h, hX⟩
theorem Bl.two {s : Nat} (hs : 0 < s) {X D : List α} (h : Bl c s X D) (hl : 2 * s ≤ X.length) : ∃ A B X' D', A.length = s ∧ B.length = s ∧ X = A ++ B ++ X' ∧ D = isrt c A ++ isrt c B ++ D' ∧ Bl c s X' D' := by
  obtain ⟨A, X1, D1, hA, rfl, rfl, h1, _⟩ := h.one hs (by omega)
  rw [List.length_append] at hl
  by_cases e : X1.length = s
  · have := h1.small hs (by omega)
    subst this
    exact ⟨A, X1, [], [], hA, e, by simp, by simp, .nil⟩
  · obtain ⟨B, X2, D2, hB, rfl, rfl, h2, _⟩ := h1.one hs (by omega)
    exact ⟨A, B, X2, D2, hA, hB, by simp, by simp, h2⟩
theorem Bl.rest {s : Nat} (hs : 0 < s) {X D : List α} (h : Bl c s X D) (h1 : s < X.length) (h2 : X.length < 2 * s) : ∃ A B, A.length = s ∧ B ≠ [] ∧ X = A ++ B ∧ D = isrt c A ++ isrt c B := by
  obtain ⟨A, X1, D1, hA, rfl, rfl, g1, g2⟩ := h.one hs h1
  rw [List.length_append] at h2
  have := g1.small hs (by omega)
  subst this
  exact ⟨A, X1, hA, g2, rfl, rfl⟩
/-- The cut of a merge that is told by two places. -/
theorem gd_last {A T : List α} {y : α} {i : Nat} (hi : i + 1 = A.length) (h : A.getLast? = some y) {P : List α} {j : Nat} (hj : j = P.length + i) : gd (P ++ A ++ T) j = y := by
  obtain ⟨A', x, rfl⟩ : ∃ A' x, A = A' ++ [x] := by
    have hne : A ≠ [] := by intro e; rw [e] at h; simp at h
    exact ⟨A.dropLast, A.getLast hne, (List.dropLast_concat_getLast hne).symm⟩
  simp at h
  subst h
  have : P ++ (A' ++ [x]) ++ T = (P ++ A') ++ x :: T := by simp
  rw [this]
  exact gd_mid (by simp at hi ⊢; omega)
theorem gd_head {A T : List α} {y : α} (h : A.head? = some y) {P : List α} {j : Nat} (hj : j = P.length) : gd (P ++ A ++ T) j = y := by
  cases A with
  | nil => simp at h
  | cons x A =>
    simp at h
    subst h
    have : P ++ x :: A ++ T = P ++ x :: (A ++ T) := by simp
    rw [this]
    exact gd_mid hj
end

end Go.Proofs
