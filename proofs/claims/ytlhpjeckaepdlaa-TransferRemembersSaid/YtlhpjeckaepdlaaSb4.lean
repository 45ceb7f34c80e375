/- Plain laws. -/
import Derived.Test.YtlhpjeckaepdlaaSb3
set_option linter.all false
set_option maxHeartbeats 2000000
namespace Go.Proofs
open Go Go.AM
section
variable {α : Type} [Inhabited α] {c : α → α → Int}
def upw (D : List α) (a : Nat) : Nat → List α
  | 0 => D
  | n + 1 => sw (upw D a n) (a + n) (a + n + 1)
theorem upw_len (D : List α) (a : Nat) : ∀ n, (upw D a n).length = D.length
  | 0 => rfl
  | n + 1 => by simp only [upw]; rw [sw_len, upw_len]
theorem upw_eq {P S : List α} {x : α} : ∀ (B : List α) (n : Nat), n ≤ B.length → upw (P ++ x :: (B ++ S)) P.length n = P ++ B.take n ++ x :: (B.drop n ++ S)
  | B, 0, _ => by simp [upw]
  | B, n + 1, h => by
    have hn : n < B.length := by omega
    simp only [upw]
    rw [upw_eq B n (by omega), List.drop_eq_getElem_cons hn, List.take_succ_eq_append_getElem hn]
    have := sw_two (P := P ++ B.take n) (x := x) (M := []) (y := B[n]) (S := B.drop (n + 1) ++ S) (i := P.length + n) (j := P.length + n + 1) (by simp; omega) (by simp; omega)
    simp only [List.append_assoc, List.cons_append, List.nil_append] at this ⊢
    exact this
def dnw (D : List α) (m : Nat) : Nat → List α
  | 0 => D
  | n + 1 => sw (dnw D m n) (m - n) (m - n - 1)
theorem dnw_len (D : List α) (m : Nat) : ∀ n, (dnw D m n).length = D.length
  | 0 => rfl
  | n + 1 => by simp only [dnw]; rw [sw_len, dnw_len]
theorem dnw_eq {P S : List α} {x : α} : ∀ (A : List α) (n : Nat), n ≤ A.length → dnw (P ++ A ++ x :: S) (P.length + A.length) n = P ++ A.take (A.length - n) ++ x :: (A.drop (A.length - n) ++ S)
  | A, 0, _ => by simp [dnw]
  | A, n + 1, h => by
    have hn : A.length - n - 1 < A.length := by omega
    simp only [dnw]
    rw [dnw_eq A n (by omega)]
    have e1 : A.length - n = (A.length - n - 1) + 1 := by omega
    have e2 : A.length - (n + 1) = A.length - n - 1 := by omega
    rw [e2]
    rw [show A.take (A.length - n) = A.take (A.length - n - 1) ++ [A[A.length - n - 1]] by rw [← List.take_succ_eq_append_getElem hn, ← e1]]
    rw [show A.drop (A.length - n - 1) = A[A.length - n - 1] :: A.drop (A.length - n) by rw [List.drop_eq_getElem_cons hn, ← e1]]
    rw [sw_comm _ (by omega)]
    have := sw_two (P := P ++ A.take (A.length - n - 1)) (x := A[A.length - n - 1]) (M := []) (y := x) (S := A.drop (A.length - n) ++ S) (i := P.length + A.length - n - 1) (j := P.length + A.length - n) (by simp; omega) (by simp; omega)
    simp only [List.append_assoc, List.cons_append, List.nil_append] at this ⊢
    exact this
theorem mg_up (P : Pre c) {x : α} {B : List α} (hB : B.Pairwise (fun a b => ¬ c b a < 0)) (k : Nat) (h1 : ∀ y, (B.take k).getLast? = some y → c y x < 0) (h2 : ∀ y, (B.drop k).head? = some y → ¬ c y x < 0) : mg c [x] B = B.take k ++ x :: B.drop k := by
  have e1 := mg_cut P (A1 := []) (A2 := [x]) (B1 := B.take k) (B2 := B.drop k) (by simp) (by rw [List.take_append_drop]; exact hB) (fun y z hy hz => by simp at hz; subst hz; exact h1 y hy) (fun y z hy _ => by simp at hy)
  rw [List.take_append_drop, List.nil_append] at e1
  have e2 := mg_cut P (A1 := [x]) (A2 := []) (B1 := []) (B2 := B.drop k) (by simp) (by simpa using hB.sublist (List.drop_sublist k B)) (fun y z hy _ => by simp at hy) (fun y z hy hz => by simp at hy; subst hy; exact h2 z hz)
  simp only [List.append_nil, List.nil_append] at e2
  rw [e1, e2, mg_nil1, mg_nil1, mg_nil]
  simp
theorem mg_dn (P : Pre c) {x : α} {A : List α} (hA : A.Pairwise (fun a b => ¬ c b a < 0)) (k : Nat) (h1 : ∀ y, (A.drop k).head? = some y → c x y < 0) (h2 : ∀ y, (A.take k).getLast? = some y → ¬ c x y < 0) : mg c A [x] = A.take k ++ x :: A.drop k := by
  rw [mg_one]
  have := insS_at P (A1 := A.take k) (A2 := A.drop k) (x := x) (by rw [List.take_append_drop]; exact hA) h1 h2
  rwa [List.take_append_drop] at this
end

end Go.Proofs
