/- Plain laws. -/
import Derived.Test.YtlhpjeckaepdlaaSb1
set_option linter.all false
set_option maxHeartbeats 2000000
namespace Go.Proofs
open Go Go.AM
/-! The moves of a stable sort, on lists. -/
section
variable {α : Type} [Inhabited α] {c : α → α → Int}
def gd (D : List α) (i : Nat) : α := D.getD i default
theorem gd_at {D : List α} {i : Nat} (h : i < D.length) : gd D i = D[i] := by simp [gd, h]
theorem gd_some {D : List α} {i : Nat} (h : i < D.length) : D[i]? = some (gd D i) := by rw [gd_at h]; exact List.getElem?_eq_getElem h
theorem gd_mid {P S : List α} {x : α} {i : Nat} (h : i = P.length) : gd (P ++ x :: S) i = x := by subst h; simp [gd]
def sw (D : List α) (i j : Nat) : List α := (D.set i (gd D j)).set j (gd D i)
theorem sw_len (D : List α) (i j : Nat) : (sw D i j).length = D.length := by simp [sw]
theorem set_mid {P S : List α} {x y : α} {i : Nat} (h : i = P.length) : (P ++ x :: S).set i y = P ++ y :: S := by subst h; simp
/-- Two places apart. -/
theorem sw_two {P M S : List α} {x y : α} {i j : Nat} (hi : i = P.length) (hj : j = P.length + 1 + M.length) : sw (P ++ x :: (M ++ y :: S)) i j = P ++ y :: (M ++ x :: S) := by
  have e1 : gd (P ++ x :: (M ++ y :: S)) i = x := gd_mid hi
  have e2 : gd (P ++ x :: (M ++ y :: S)) j = y := by
    have : P ++ x :: (M ++ y :: S) = (P ++ x :: M) ++ y :: S := by simp
    rw [this]; exact gd_mid (by simp; omega)
  unfold sw
  rw [e1, e2, set_mid hi]
  have : P ++ y :: (M ++ y :: S) = (P ++ y :: M) ++ y :: S := by simp
  rw [this, set_mid (by simp; omega)]
  simp
theorem sw_comm (D : List α) {i j : Nat} (h : i ≠ j) : sw D i j = sw D j i := by
  unfold sw; rw [List.set_comm _ _ h]
def swR (D : List α) (a b : Nat) : Nat → List α
  | 0 => D
  | n + 1 => sw (swR D a b n) (a + n) (b + n)
theorem swR_len (D : List α) (a b : Nat) : ∀ n, (swR D a b n).length = D.length
  | 0 => rfl
  | n + 1 => by simp only [swR]; rw [sw_len, swR_len]
theorem swR_eq {P M S : List α} : ∀ (X Y : List α), X.length = Y.length → ∀ n, n ≤ X.length → swR (P ++ X ++ M ++ Y ++ S) P.length (P.length + X.length + M.length) n = P ++ Y.take n ++ X.drop n ++ M ++ X.take n ++ Y.drop n ++ S := by
  intro X Y hl n
  induction n with
  | zero => intro _; simp [swR]
  | succ n ih =>
    intro hn
    have hx : n < X.length := by omega
    have hy : n < Y.length := by omega
    simp only [swR]
    rw [ih (by omega), List.drop_eq_getElem_cons hx, List.drop_eq_getElem_cons hy, List.take_succ_eq_append_getElem hx, List.take_succ_eq_append_getElem hy]
    have := sw_two (P := P ++ Y.take n) (x := X[n]) (M := X.drop (n + 1) ++ M ++ X.take n) (y := Y[n]) (S := Y.drop (n + 1) ++ S) (i := P.length + n) (j := P.length + X.length + M.length + n) (by simp; omega) (by simp; omega)
    simp only [List.append_assoc, List.cons_append, List.nil_append] at this ⊢
    exact this
theorem swR_swap {P M S X Y : List α} (hl : X.length = Y.length) {a b n : Nat} (ha : a = P.length) (hb : b = P.length + X.length + M.length) (hn : n = X.length) : swR (P ++ X ++ M ++ Y ++ S) a b n = P ++ Y ++ M ++ X ++ S := by
  subst ha hb hn
  rw [swR_eq X Y hl _ (Nat.le_refl _), List.take_of_length_le (by omega), List.drop_of_length_le (by omega), List.take_of_length_le (by omega), List.drop_of_length_le (by omega)]
  simp
/-- The turn of two neighbours, by i and j that are left. -/
def rotL (D : List α) (m : Nat) : Nat → Nat → Nat → List α
  | 0, _, _ => D
  | f + 1, i, j => if i = j then swR D (m - i) m i else if j < i then rotL (swR D (m - i) m j) m f (i - j) j else rotL (swR D (m - i) (m + j - i) i) m f i (j - i)
theorem rotL_eq : ∀ (f : Nat) (P X Y S : List α) (m i j : Nat), i = X.length → j = Y.length → 0 < i → 0 < j → m = P.length + i → i + j ≤ f + 1 → rotL (P ++ X ++ Y ++ S) m (f + 1) i j = P ++ Y ++ X ++ S
  | f, P, X, Y, S, m, i, j, hi, hj, h0, h1, hm, hf => by
    simp only [rotL]
    by_cases e : i = j
    · rw [if_pos e]
      have := swR_swap (P := P) (X := X) (M := []) (Y := Y) (S := S) (a := m - i) (b := m) (n := i) (by omega) (by omega) (by simp; omega) hi
      simpa using this
    · rw [if_neg e]
      cases f with
      | zero => omega
      | succ f =>
        by_cases g : j < i
        · rw [if_pos g]
          have hx : X = X.take j ++ X.drop j := (List.take_append_drop j X).symm
          have h2 := swR_swap (P := P) (X := X.take j) (M := X.drop j) (Y := Y) (S := S) (a := m - i) (b := m) (n := j) (by simp; omega) (by omega) (by simp; omega) (by simp; omega)
          have h3 : P ++ X.take j ++ X.drop j ++ Y ++ S = P ++ X ++ Y ++ S := by rw [List.append_assoc P, ← hx]
          rw [h3] at h2
          rw [h2]
          have ih := rotL_eq f (P ++ Y) (X.drop j) (X.take j) S m (i - j) j (by simp; omega) (by simp; omega) (by omega) h1 (by simp; omega) (by omega)
          rw [ih]
          conv => rhs; rw [hx]
          simp
        · rw [if_neg g]
          have hy : Y = Y.take (j - i) ++ Y.drop (j - i) := (List.take_append_drop (j - i) Y).symm
          have h2 := swR_swap (P := P) (X := X) (M := Y.take (j - i)) (Y := Y.drop (j - i)) (S := S) (a := m - i) (b := m + j - i) (n := i) (by simp; omega) (by omega) (by simp; omega) hi
          have h3 : P ++ X ++ Y.take (j - i) ++ Y.drop (j - i) ++ S = P ++ X ++ Y ++ S := by rw [List.append_assoc (P ++ X), ← hy]
          rw [h3] at h2
          rw [h2]
          have ih := rotL_eq f P (Y.drop (j - i)) (Y.take (j - i)) (X ++ S) m i (j - i) (by simp; omega) (by simp; omega) h0 (by omega) hm (by omega)
          have h4 : P ++ Y.drop (j - i) ++ Y.take (j - i) ++ X ++ S = P ++ Y.drop (j - i) ++ Y.take (j - i) ++ (X ++ S) := by simp
          rw [h4, ih]
          conv => rhs; rw [hy]
          simp
/-- One element goes down to its place. -/
def bub (c : α → α → Int) (D : List α) (a : Nat) : Nat → List α
  | 0 => D
  | j + 1 => if a < j + 1 ∧ c (gd D (j + 1)) (gd D j) < 0 then bub c (sw D (j + 1) j) a j else D
def insI (c : α → α → Int) (D : List α) (a : Nat) : Nat → List α
  | 0 => D
  | n + 1 => bub c (insI c D a n) a (a + 1 + n)
theorem bub_len (D : List α) (a : Nat) : ∀ j, (bub c D a j).length = D.length
  | 0 => rfl
  | j + 1 => by
    simp only [bub]
    split
    · rw [bub_len, sw_len]
    · rfl
theorem insI_len (D : List α) (a : Nat) : ∀ n, (insI c D a n).length = D.length
  | 0 => rfl
  | n + 1 => by simp only [insI]; rw [bub_len, insI_len]
theorem insS_at (P : Pre c) {A1 A2 : List α} {x : α} (hA : (A1 ++ A2).Pairwise (fun a b => ¬ c b a < 0)) (h1 : ∀ y, A2.head? = some y → c x y < 0) (h2 : ∀ y, A1.getLast? = some y → ¬ c x y < 0) : insS c (A1 ++ A2) x = A1 ++ x :: A2 := by
  rw [← mg_one]
  have e1 := mg_cut P (A1 := A1) (A2 := A2) (B1 := [x]) (B2 := []) hA (by simp) (fun y z hy hz => by simp at hy; subst hy; exact h1 z hz) (fun y z _ hz => by simp at hz)
  simp only [List.append_nil] at e1
  rw [e1, mg_nil]
  obtain ⟨pA1, _, _⟩ := List.pairwise_append.1 hA
  have e2 := mg_cut P (A1 := A1) (A2 := []) (B1 := []) (B2 := [x]) (by simpa using pA1) (by simp) (fun y z hy _ => by simp at hy) (fun y z hy hz => by simp at hz; subst hz; exact h2 y hy)
  simp only [List.append_nil, List.nil_append] at e2
  rw [e2, mg_nil, mg_nil1]
  simp
theorem bub_eq (hc : Pre c) {P T : List α} {x : α} : ∀ (R2 R1 : List α), (R1 ++ R2).Pairwise (fun a b => ¬ c b a < 0) → (∀ y, R2.head? = some y → c x y < 0) → bub c (P ++ R1 ++ x :: (R2 ++ T)) P.length (P.length + R1.length) = P ++ insS c (R1 ++ R2) x ++ T
  | R2, R1, hp, h => by
    induction hn : R1.length generalizing R1 R2 with
    | zero =>
      have : R1 = [] := List.length_eq_zero_iff.1 hn
      subst this
      have hin := insS_at hc (A1 := []) (A2 := R2) (x := x) hp h (by simp)
      simp only [List.nil_append] at hin
      rw [Nat.add_zero, List.nil_append, hin]
      cases hPl : P.length with
      | zero => simp [bub]
      | succ k =>
        simp only [bub]
        rw [if_neg (by omega)]
        simp
    | succ n ih =>
      obtain ⟨R, y, rfl⟩ : ∃ R y, R1 = R ++ [y] := by
        have hne : R1 ≠ [] := by intro e; rw [e] at hn; simp at hn
        exact ⟨R1.dropLast, R1.getLast hne, (List.dropLast_concat_getLast hne).symm⟩
      have hR : R.length = n := by simpa using hn
      have e0 : P ++ (R ++ [y]) ++ x :: (R2 ++ T) = (P ++ R) ++ y :: ([] ++ x :: (R2 ++ T)) := by simp
      rw [← Nat.add_assoc]
      simp only [bub]
      have g1 : gd (P ++ (R ++ [y]) ++ x :: (R2 ++ T)) (P.length + n + 1) = x := gd_mid (by simp; omega)
      have g2 : gd (P ++ (R ++ [y]) ++ x :: (R2 ++ T)) (P.length + n) = y := by rw [e0]; exact gd_mid (by simp; omega)
      rw [g1, g2]
      by_cases q : c x y < 0
      · rw [if_pos ⟨by omega, q⟩, sw_comm _ (by omega), e0, sw_two (by simp; omega) (by simp; omega)]
        have e1 : (P ++ R) ++ x :: ([] ++ y :: (R2 ++ T)) = P ++ R ++ x :: ((y :: R2) ++ T) := by simp
        rw [e1, ih (y :: R2) R (by simpa using hp) (by simp; exact q) hR]
        simp
      · rw [if_neg (fun h => q h.2), insS_at hc hp h (fun z hz => by simp at hz; subst hz; exact q)]
        simp
theorem insI_eq (hc : Pre c) {P S : List α} {x0 : α} : ∀ (X : List α), ∀ n, n ≤ X.length → insI c (P ++ (x0 :: X) ++ S) P.length n = P ++ isrt c (x0 :: X.take n) ++ (X.drop n ++ S) := by
  intro X n
  induction n with
  | zero =>
    intro _
    simp [insI, isrt, insS]
  | succ n ih =>
    intro hn
    have hx : n < X.length := by omega
    simp only [insI]
    rw [ih (by omega), List.drop_eq_getElem_cons hx, List.take_succ_eq_append_getElem hx]
    have hl : (isrt c (x0 :: X.take n)).length = n + 1 := by rw [isrt_len]; simp; omega
    have := bub_eq hc (P := P) (T := X.drop (n + 1) ++ S) (x := X[n]) [] (isrt c (x0 :: X.take n)) (by simpa using isrt_pw hc _) (by simp)
    simp only [List.nil_append, List.append_nil, List.cons_append] at this ⊢
    rw [hl] at this
    rw [show P.length + 1 + n = P.length + (n + 1) by omega, this]
    have e : x0 :: (X.take n ++ [X[n]]) = (x0 :: X.take n) ++ [X[n]] := rfl
    rw [e, isrt_snoc]
end

end Go.Proofs
