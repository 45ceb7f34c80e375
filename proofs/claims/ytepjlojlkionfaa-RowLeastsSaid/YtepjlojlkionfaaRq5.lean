/- Plain laws. -/
import Derived.Test.YtepjlojlkionfaaRq4
set_option linter.all false
set_option maxHeartbeats 2000000
namespace Go.Proofs
open Go Go.AM
/-! At: the pure functions. -/
def pAt2 (t : TagT) (b k : Nat) : Int := at0 (t.2.2.2.1.getD b []) k
/-- The program's. -/
def waysI (t : TagT) (k : Nat) (prev : List Int) : Nat → List Int
  | 0 => []
  | b + 1 => waysI t k prev b ++ (if 0 ≤ at0 prev b then [at0 prev b + pAt2 t b k] else [])
def cellP (t : TagT) (p : Nat) (w prev : List Int) (k : Nat) : Int :=
  if at0 w k < 0 then at0 w k else if p = 0 then at0 w k + at0 t.2.1 k else
  if (lstO none (waysI t k prev prev.length)).isSome = true then at0 w k + oI (lstO none (waysI t k prev prev.length)) else -1
def nextP (t : TagT) (p : Nat) (w prev : List Int) : List Int := (List.range t.1.length).map (cellP t p w prev)
def aheadP (t : TagT) (l : List Bs) : Nat → List Int
  | 0 => []
  | p + 1 => nextP t p (costsF t (l.getD p [])) (aheadP t l p)
def atP (t : TagT) (l : List Bs) (i : Nat) : List Int := (List.range t.1.length).map fun k => if at0 (aheadP t l (i + 1)) k < 0 ∨ at0 (restAt t l i) k < 0 then -1 else at0 (aheadP t l (i + 1)) k + at0 (restAt t l i) k
def atF (t : TagT) (l : List Bs) (i : Int) : List Int × Int :=
  if chkF t l.length ≠ 0 then ([], chkF t l.length) else if i < 0 ∨ l.length ≤ i then ([], 4) else (atP t l i.toNat, 0)
theorem waysI_len (t : TagT) (k : Nat) (prev : List Int) : ∀ b, (waysI t k prev b).length ≤ b
  | 0 => by simp [waysI]
  | b + 1 => by
    have := waysI_len t k prev b
    simp only [waysI, List.length_append]
    split <;> simp <;> omega
theorem waysI_mem {t : TagT} (ht : OkT t) {k : Nat} (hk : k < t.1.length) {prev : List Int} {B : Int} (hB : 0 ≤ B) (hp : ∀ x ∈ prev, x ≤ B) : ∀ b, b ≤ t.1.length → ∀ x ∈ waysI t k prev b, 0 ≤ x ∧ x ≤ B + 100000000
  | 0, _, x, h => by simp [waysI] at h
  | b + 1, hb, x, h => by
    simp only [waysI, List.mem_append] at h
    rcases h with h | h
    · exact waysI_mem ht hk hB hp b (by omega) x h
    · split at h
      · rename_i h0
        simp only [List.mem_singleton] at h
        subst h
        have hbp : b < t.2.2.2.1.length := by rw [ht.pl]; omega
        have h1 : 0 ≤ pAt2 t b k ∧ pAt2 t b k ≤ 100000000 := by
          unfold pAt2
          rw [List.getD_eq_getElem?_getD, List.getElem?_eq_getElem hbp, Option.getD_some]
          exact csB_at (ht.p _ (List.getElem_mem hbp)) hk
        have h2 : at0 prev b ≤ B := by
          by_cases hl : b < prev.length
          · rw [at0_eq hl]; exact hp _ (List.getElem_mem hl)
          · unfold at0; rw [List.getD_eq_getElem?_getD, List.getElem?_eq_none (by omega)]; exact hB
        omega
      · cases h
theorem aheadP_rng {t : TagT} (ht : OkT t) (l : List Bs) : ∀ p, ∀ x ∈ aheadP t l p, -1 ≤ x ∧ x ≤ p * 200000000
  | 0, x, h => by simp [aheadP] at h
  | p + 1, x, h => by
    have ih := aheadP_rng ht l p
    simp only [aheadP, nextP, List.mem_map, List.mem_range] at h
    obtain ⟨k, hk, rfl⟩ := h
    have hw := csB_at (costsF_ok ht (l.getD p [])) hk
    have hf := csB_at ht.f hk
    have hc : ((p + 1 : Nat) : Int) = p + 1 := by omega
    rw [hc]
    unfold cellP
    split
    · omega
    · split
      · omega
      · split
        · rename_i hs
          obtain ⟨b, hb⟩ := Option.isSome_iff_exists.1 hs
          rw [hb]
          rcases lstO_mem _ _ _ hb with e | e
          · cases e
          · have hlen : (aheadP t l p).length ≤ t.1.length := by
              cases p with
              | zero => simp [aheadP]
              | succ p => simp [aheadP, nextP]
            have := waysI_mem ht hk (B := p * 200000000) (by omega) (fun x hx => (ih x hx).2) _ hlen b e
            simp only [oI]
            omega
        · omega
theorem aheadP_len (t : TagT) (l : List Bs) (p : Nat) : (aheadP t l (p + 1)).length = t.1.length := by simp [aheadP, nextP]
/-- A row that is made one by one in the place of another one. -/
def mixL (f : Nat → Int) (w : List Int) (k : Nat) : List Int := (List.range k).map f ++ w.drop k
theorem mixL_len (f : Nat → Int) (w : List Int) {k : Nat} (h : k ≤ w.length) : (mixL f w k).length = w.length := by simp [mixL]; omega
theorem mixL_set (f : Nat → Int) (w : List Int) {k : Nat} (h : k < w.length) : (mixL f w k).set k (f k) = mixL f w (k + 1) := by
  unfold mixL
  rw [List.set_append_right _ _ (by simp), List.range_succ, List.map_append, List.append_assoc, List.drop_eq_getElem_cons h]
  have e0 : k - ((List.range k).map f).length = 0 := by simp
  rw [e0]
  simp only [List.set_cons_zero, List.map_cons, List.map_nil, List.singleton_append]
theorem mixL_at (f : Nat → Int) (w : List Int) {k : Nat} (h : k < w.length) : (mixL f w k)[k]? = some w[k] := by
  unfold mixL
  rw [List.getElem?_append_right (by simp)]
  simp [h]
theorem mixL_zero (f : Nat → Int) (w : List Int) : mixL f w 0 = w := by simp [mixL]
theorem mixL_end (f : Nat → Int) (w : List Int) {n : Nat} (h : w.length = n) : mixL f w n = (List.range n).map f := by
  unfold mixL; rw [List.drop_of_length_le (by omega), List.append_nil]
theorem mixL_same (f : Nat → Int) (w : List Int) {k : Nat} (h : k < w.length) (hf : f k = w[k]) : mixL f w (k + 1) = mixL f w k := by
  rw [← mixL_set f w h, hf]
  apply List.ext_getElem?
  intro j
  rw [List.getElem?_set]
  split
  · rename_i e; subst e
    have h2 := mixL_at f w h
    have h3 := mixL_len f w (Nat.le_of_lt h)
    rw [h2]; simp [h3, h]
  · rfl

end Go.Proofs
