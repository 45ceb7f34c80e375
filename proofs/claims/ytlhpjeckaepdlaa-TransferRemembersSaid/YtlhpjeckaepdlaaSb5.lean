/- Plain laws. -/
import Derived.Test.YtlhpjeckaepdlaaSb4
set_option linter.all false
set_option maxHeartbeats 2000000
namespace Go.Proofs
open Go Go.AM
section
variable {α : Type} [Inhabited α] {c : α → α → Int}
theorem mg_perm : ∀ (n : Nat) (A B : List α), A.length + B.length ≤ n → (mg c A B).Perm (A ++ B)
  | _, [], B, _ => by rw [mg_nil1]; exact List.Perm.refl _
  | _, x :: A, [], _ => by rw [mg_nil]; simp
  | 0, x :: A, y :: B, h => by simp at h
  | n + 1, x :: A, y :: B, h => by
    simp only [List.length_cons] at h
    rw [mg_cons]
    split
    · refine ((mg_perm n (x :: A) B (by simp; omega)).cons y).trans ?_
      exact (List.perm_middle (a := y) (l₁ := x :: A) (l₂ := B)).symm
    · exact (mg_perm n A (y :: B) (by simp; omega)).cons x
theorem mg_len (A B : List α) : (mg c A B).length = A.length + B.length := by
  rw [(mg_perm _ A B (Nat.le_refl _)).length_eq, List.length_append]
/-- What the search of a merge tells: the cut. -/
theorem mg_found (hc : Pre c) {P A B S D : List α} {a m b mid s : Nat} (hD : D = P ++ A ++ B ++ S) (ha : a = P.length) (hm : m = a + A.length) (hb : b = m + B.length) (hA : A.Pairwise (fun a b => ¬ c b a < 0)) (hB : B.Pairwise (fun a b => ¬ c b a < 0))
    (h1 : a ≤ s) (h2 : s ≤ m) (h3 : s ≤ mid) (h4 : mid + m - s ≤ b) (h5 : mid < b)
    (q1 : (s = a ∨ s + b = mid + m) ∨ ¬ c (gd D (mid + m - s)) (gd D (s - 1)) < 0) (q2 : (s = m ∨ s = mid) ∨ c (gd D (mid + m - 1 - s)) (gd D s) < 0) :
    mg c A B = mg c (A.take (s - a)) (B.take (mid - s)) ++ mg c (A.drop (s - a)) (B.drop (mid - s)) := by
  have gA1 : ∀ k y, (A.take (k + 1)).getLast? = some y → k + 1 ≤ A.length → gd D (a + k) = y := fun k y hy hk => by
    have e : D = P ++ A.take (k + 1) ++ (A.drop (k + 1) ++ B ++ S) := by
      rw [hD]
      simp only [List.append_assoc]
      rw [← List.append_assoc (A.take (k + 1)), List.take_append_drop]
    rw [e, ha]
    exact gd_last (i := k) (by simp; omega) hy rfl
  have gA2 : ∀ k y, (A.drop k).head? = some y → k ≤ A.length → gd D (a + k) = y := fun k y hy hk => by
    have e : D = (P ++ A.take k) ++ A.drop k ++ (B ++ S) := by
      rw [hD]
      simp only [List.append_assoc]
      rw [← List.append_assoc (A.take k), List.take_append_drop]
    rw [e]
    exact gd_head hy (by simp; omega)
  have gB1 : ∀ k y, (B.take (k + 1)).getLast? = some y → k + 1 ≤ B.length → gd D (m + k) = y := fun k y hy hk => by
    have e : D = (P ++ A) ++ B.take (k + 1) ++ (B.drop (k + 1) ++ S) := by
      rw [hD]
      simp only [List.append_assoc]
      rw [← List.append_assoc (B.take (k + 1)), List.take_append_drop]
    rw [e]
    exact gd_last (i := k) (by simp; omega) hy (by simp; omega)
  have gB2 : ∀ k y, (B.drop k).head? = some y → k ≤ B.length → gd D (m + k) = y := fun k y hy hk => by
    have e : D = (P ++ A ++ B.take k) ++ B.drop k ++ S := by
      rw [hD]
      simp only [List.append_assoc]
      rw [← List.append_assoc (B.take k), List.take_append_drop]
    rw [e]
    exact gd_head hy (by simp; omega)
  have := mg_cut hc (A1 := A.take (s - a)) (A2 := A.drop (s - a)) (B1 := B.take (mid - s)) (B2 := B.drop (mid - s)) (by rw [List.take_append_drop]; exact hA) (by rw [List.take_append_drop]; exact hB)
    (fun y x hy hx => by
      have l1 : mid - s ≠ 0 := by intro e; rw [e] at hy; simp at hy
      have l2 : s - a < A.length := by
        apply Classical.byContradiction; intro e; rw [List.drop_of_length_le (by omega)] at hx; simp at hx
      rcases q2 with q2 | q2
      · omega
      · have e1 := gB1 (mid - s - 1) y (by rw [show mid - s - 1 + 1 = mid - s by omega]; exact hy) (by omega)
        have e2 := gA2 (s - a) x hx (by omega)
        rw [show m + (mid - s - 1) = mid + m - 1 - s by omega] at e1
        rw [show a + (s - a) = s by omega] at e2
        rw [e1, e2] at q2; exact q2)
    (fun x y hx hy => by
      have l1 : s - a ≠ 0 := by intro e; rw [e] at hx; simp at hx
      have l2 : mid - s < B.length := by
        apply Classical.byContradiction; intro e; rw [List.drop_of_length_le (by omega)] at hy; simp at hy
      rcases q1 with q1 | q1
      · omega
      · have e1 := gA1 (s - a - 1) x (by rw [show s - a - 1 + 1 = s - a by omega]; exact hx) (by omega)
        have e2 := gB2 (mid - s) y hy (by omega)
        rw [show a + (s - a - 1) = s - 1 by omega] at e1
        rw [show m + (mid - s) = mid + m - s by omega] at e2
        rw [e1, e2] at q1; exact q1)
  rwa [List.take_append_drop, List.take_append_drop] at this
end

end Go.Proofs
