/- Plain laws. -/
import Derived.Test.YtlhpjeckaepdlaaOrd
set_option linter.all false
set_option maxHeartbeats 2000000
namespace Go.Proofs
open Go Go.AM
/-! Sorting that keeps the order of equals. -/
structure Pre {α : Type} (c : α → α → Int) : Prop where
  le : ∀ {a b d}, ¬ c b a < 0 → ¬ c d b < 0 → ¬ c d a < 0
  asy : ∀ {a b}, c a b < 0 → ¬ c b a < 0
section
variable {α : Type} {c : α → α → Int}
theorem Pre.lt (P : Pre c) {a b d : α} (h1 : c a b < 0) (h2 : c b d < 0) : c a d < 0 := by
  apply Classical.byContradiction
  intro h
  exact P.le h (P.asy h1) h2
theorem Pre.lt_le (P : Pre c) {a b d : α} (h1 : c a b < 0) (h2 : ¬ c d b < 0) : c a d < 0 := by
  apply Classical.byContradiction
  intro h
  exact P.le h2 h h1
theorem Pre.le_lt (P : Pre c) {a b d : α} (h1 : ¬ c b a < 0) (h2 : c b d < 0) : c a d < 0 := by
  apply Classical.byContradiction
  intro h
  exact P.le h h1 h2
/-- In front of the first that is greater. -/
def insS (c : α → α → Int) : List α → α → List α
  | [], x => [x]
  | y :: l, x => if c x y < 0 then x :: y :: l else y :: insS c l x
def isrt (c : α → α → Int) (l : List α) : List α := l.foldl (insS c) []
/-- Two lists as one; of equals the first list's ahead. -/
def mg (c : α → α → Int) : List α → List α → List α
  | [], B => B
  | x :: A, [] => x :: A
  | x :: A, y :: B => if c y x < 0 then y :: mg c (x :: A) B else x :: mg c A (y :: B)
termination_by A B => A.length + B.length
theorem mg_nil (A : List α) : mg c A [] = A := by cases A <;> simp [mg]
theorem mg_nil1 (B : List α) : mg c [] B = B := by simp [mg]
theorem mg_cons (x : α) (A : List α) (y : α) (B : List α) : mg c (x :: A) (y :: B) = if c y x < 0 then y :: mg c (x :: A) B else x :: mg c A (y :: B) := by rw [mg]
theorem mg_one : ∀ (A : List α) (y : α), mg c A [y] = insS c A y
  | [], y => by simp [mg, insS]
  | x :: A, y => by
    rw [mg_cons, mg_nil, mg_one A y]; rfl
theorem mg_ins (P : Pre c) (y : α) : ∀ (n : Nat) (A B : List α), A.length + B.length ≤ n → mg c A (insS c B y) = insS c (mg c A B) y
  | _, [], B, _ => by rw [mg_nil1, mg_nil1]
  | _, x :: A, [], _ => by rw [mg_nil]; exact mg_one _ _
  | 0, x :: A, z :: B, h => by simp at h
  | n + 1, x :: A, z :: B, h => by
    simp only [List.length_cons] at h
    have ih1 := mg_ins P y n (x :: A) B (by simp; omega)
    have ih2 := mg_ins P y n A (z :: B) (by simp; omega)
    by_cases hz : c z x < 0
    · rw [mg_cons, if_pos hz]
      simp only [insS]
      by_cases hy : c y z < 0
      · rw [if_pos hy, if_pos hy, mg_cons, if_pos (P.lt hy hz), mg_cons, if_pos hz]
      · rw [if_neg hy, if_neg hy, mg_cons, if_pos hz, ih1]
    · rw [mg_cons, if_neg hz]
      simp only [insS] at ih2 ⊢
      by_cases hy : c y z < 0
      · rw [if_pos hy] at ih2 ⊢
        by_cases hx : c y x < 0
        · rw [if_pos hx, mg_cons, if_pos hx, mg_cons, if_neg hz]
        · rw [if_neg hx, mg_cons, if_neg hx, ih2]
      · rw [if_neg hy] at ih2 ⊢
        rw [if_neg (P.le hz hy), mg_cons, if_neg hz, ih2]
theorem mg_foldl (P : Pre c) : ∀ (Y A B : List α), mg c A (Y.foldl (insS c) B) = Y.foldl (insS c) (mg c A B)
  | [], A, B => rfl
  | y :: Y, A, B => by
    rw [List.foldl_cons, List.foldl_cons, mg_foldl P Y A, mg_ins P y _ A B (Nat.le_refl _)]
theorem mg_isrt (P : Pre c) (X Y : List α) : mg c (isrt c X) (isrt c Y) = isrt c (X ++ Y) := by
  unfold isrt
  rw [mg_foldl P, mg_nil, List.foldl_append]
theorem isrt_snoc (X : List α) (y : α) : isrt c (X ++ [y]) = insS c (isrt c X) y := by
  unfold isrt; rw [List.foldl_append]; rfl
/-- Where both lists are cut so that what is ahead goes ahead. -/
theorem mg_split (A2 B2 : List α) : ∀ (n : Nat) (A1 B1 : List α), A1.length + B1.length ≤ n → (∀ y ∈ B1, ∀ x ∈ A2, c y x < 0) → (∀ x ∈ A1, ∀ y ∈ B2, ¬ c y x < 0) → mg c (A1 ++ A2) (B1 ++ B2) = mg c A1 B1 ++ mg c A2 B2
  | _, [], [], _, _, _ => by rw [mg_nil1]; rfl
  | 0, x :: A1, _, h, _, _ => by simp at h
  | 0, [], y :: B1, h, _, _ => by simp at h
  | n + 1, [], y :: B1, h, h1, h2 => by
    have ih := mg_split A2 B2 n [] B1 (by simp at h ⊢; omega) (fun z hz => h1 z (by simp [hz])) h2
    rw [mg_nil1] at ih ⊢
    simp only [List.nil_append, List.cons_append] at ih ⊢
    cases A2 with
    | nil => rw [mg_nil1, mg_nil1]
    | cons x A2 => rw [mg_cons, if_pos (h1 y (by simp) x (by simp)), ih]
  | n + 1, x :: A1, [], h, h1, h2 => by
    have ih := mg_split A2 B2 n A1 [] (by simp at h ⊢; omega) h1 (fun z hz => h2 z (by simp [hz]))
    rw [mg_nil] at ih ⊢
    simp only [List.nil_append, List.cons_append] at ih ⊢
    cases B2 with
    | nil => rw [mg_nil, mg_nil]
    | cons y B2 => rw [mg_cons, if_neg (h2 x (by simp) y (by simp)), ih]
  | n + 1, x :: A1, y :: B1, h, h1, h2 => by
    simp only [List.length_cons] at h
    simp only [List.cons_append]
    rw [mg_cons, mg_cons]
    by_cases q : c y x < 0
    · rw [if_pos q, if_pos q]
      have ih := mg_split A2 B2 n (x :: A1) B1 (by simp; omega) (fun z hz => h1 z (by simp [hz])) h2
      simp only [List.cons_append] at ih ⊢
      rw [ih]
    · rw [if_neg q, if_neg q]
      have ih := mg_split A2 B2 n A1 (y :: B1) (by simp; omega) h1 (fun z hz => h2 z (by simp [hz]))
      simp only [List.cons_append] at ih ⊢
      rw [ih]
theorem insS_perm : ∀ (l : List α) (x : α), (insS c l x).Perm (x :: l)
  | [], x => List.Perm.refl _
  | y :: l, x => by
    simp only [insS]
    split
    · exact List.Perm.refl _
    · exact ((insS_perm l x).cons y).trans (List.Perm.swap x y l)
theorem insS_pw (P : Pre c) : ∀ (l : List α) (x : α), l.Pairwise (fun a b => ¬ c b a < 0) → (insS c l x).Pairwise (fun a b => ¬ c b a < 0)
  | [], x, _ => by simp [insS]
  | y :: l, x, h => by
    simp only [insS]
    rw [List.pairwise_cons] at h
    split
    · rename_i hxy
      rw [List.pairwise_cons, List.pairwise_cons]
      refine ⟨fun z hz => ?_, h⟩
      rcases List.mem_cons.1 hz with rfl | hz
      · exact P.asy hxy
      · exact fun h2 => h.1 z hz (P.lt h2 hxy)
    · rename_i hxy
      rw [List.pairwise_cons]
      refine ⟨fun z hz => ?_, insS_pw P l x h.2⟩
      rcases List.mem_cons.1 ((insS_perm l x).mem_iff.1 hz) with rfl | hz
      · exact hxy
      · exact h.1 z hz
theorem isrt_pw (P : Pre c) (l : List α) : (isrt c l).Pairwise (fun a b => ¬ c b a < 0) := by
  have key : ∀ (l acc : List α), acc.Pairwise (fun a b => ¬ c b a < 0) → (l.foldl (insS c) acc).Pairwise (fun a b => ¬ c b a < 0) := by
    intro l
    induction l with
    | nil => exact fun acc h => h
    | cons x l ih => exact fun acc h => ih _ (insS_pw P acc x h)
  exact key l [] List.Pairwise.nil
theorem isrt_perm (l : List α) : (isrt c l).Perm l := by
  have key : ∀ (l acc : List α), (l.foldl (insS c) acc).Perm (acc ++ l) := by
    intro l
    induction l with
    | nil => intro acc; simp
    | cons x l ih =>
      intro acc
      refine (ih _).trans (((insS_perm acc x).append_right l).trans ?_)
      simpa using (List.perm_middle (a := x) (l₁ := acc) (l₂ := l)).symm
  exact (by simpa using key l [] : (l.foldl (insS c) []).Perm l)
theorem isrt_len (l : List α) : (isrt c l).length = l.length := (isrt_perm l).length_eq
/-- What the merge of two sorted lists is by a cut that two comparisons tell. -/
theorem mg_cut (P : Pre c) {A1 A2 B1 B2 : List α} (hA : (A1 ++ A2).Pairwise (fun a b => ¬ c b a < 0)) (hB : (B1 ++ B2).Pairwise (fun a b => ¬ c b a < 0))
    (h1 : ∀ y x, B1.getLast? = some y → A2.head? = some x → c y x < 0) (h2 : ∀ x y, A1.getLast? = some x → B2.head? = some y → ¬ c y x < 0) : mg c (A1 ++ A2) (B1 ++ B2) = mg c A1 B1 ++ mg c A2 B2 := by
  have hd : ∀ {l : List α}, l.Pairwise (fun a b => ¬ c b a < 0) → ∀ x ∈ l, ∃ h, l.head? = some h ∧ ¬ c x h < 0 := by
    intro l hl x hx
    cases l with
    | nil => cases hx
    | cons h l =>
      refine ⟨h, rfl, ?_⟩
      rcases List.mem_cons.1 hx with rfl | hx
      · exact fun h => P.asy h h
      · exact (List.pairwise_cons.1 hl).1 x hx
  have hlast : ∀ {l : List α}, l.Pairwise (fun a b => ¬ c b a < 0) → ∀ x ∈ l, ∃ h, l.getLast? = some h ∧ ¬ c h x < 0 := by
    intro l hl x hx
    obtain ⟨l', h, rfl⟩ : ∃ l' h, l = l' ++ [h] := by
      have hne : l ≠ [] := by intro e; rw [e] at hx; cases hx
      exact ⟨l.dropLast, l.getLast hne, (List.dropLast_concat_getLast hne).symm⟩
    refine ⟨h, by simp, ?_⟩
    rcases List.mem_append.1 hx with hx | hx
    · exact (List.pairwise_append.1 hl).2.2 x hx h (by simp)
    · simp at hx; subst hx; exact fun h => P.asy h h
  obtain ⟨pA1, pA2, _⟩ := List.pairwise_append.1 hA
  obtain ⟨pB1, pB2, _⟩ := List.pairwise_append.1 hB
  refine mg_split A2 B2 _ A1 B1 (Nat.le_refl _) (fun y hy x hx => ?_) (fun x hx y hy => ?_)
  · obtain ⟨y', e1, g1⟩ := hlast pB1 y hy
    obtain ⟨x', e2, g2⟩ := hd pA2 x hx
    exact P.lt_le (P.le_lt g1 (h1 y' x' e1 e2)) g2
  · obtain ⟨x', e1, g1⟩ := hlast pA1 x hx
    obtain ⟨y', e2, g2⟩ := hd pB2 y hy
    exact P.le (P.le g1 (h2 x' y' e1 e2)) g2
end

end Go.Proofs
