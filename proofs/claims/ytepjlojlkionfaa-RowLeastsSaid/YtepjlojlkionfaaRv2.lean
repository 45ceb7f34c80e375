/- Plain laws. -/
import Derived.Test.YtepjlojlkionfaaRv1
set_option linter.all false
set_option maxHeartbeats 2000000
namespace Go.Proofs
open Go Go.AM
/-! Beam: the pure function. -/
def celP (t : TagT) (l : List Bs) (i : Nat) (k : Nat) (P : List (List Nat)) : List (List Nat) := if k < t.1.length ∧ 0 ≤ at0 (costsF t (l.getD i [])) k then P.map (· ++ [k]) else []
theorem celP_neg {t : TagT} {l : List Bs} {i k : Nat} {P : List (List Nat)} (h : at0 (costsF t (l.getD i [])) k < 0) : celP t l i k P = [] := by
  unfold celP; rw [if_neg (fun h2 => by have := h2.2; omega)]
theorem celP_pos {t : TagT} {l : List Bs} {i k : Nat} {P : List (List Nat)} (h : ¬ at0 (costsF t (l.getD i [])) k < 0) (hk : k < t.1.length) : celP t l i k P = P.map (· ++ [k]) := by
  unfold celP; rw [if_pos ⟨hk, by omega⟩]
def bstP {α : Type} (c : α → α → Int) : List α → List α
  | [] => []
  | x :: r => [minL c x r]
def nxtP (t : TagT) (l : List Bs) (i : Nat) (P : List (List Nat)) (n : Nat) : List (List Nat) := (List.range n).flatMap fun k => bstP (cmpP (costP t l)) (celP t l i k P)
def beamP (t : TagT) (l : List Bs) (w : Nat) : Nat → List (List Nat)
  | 0 => [[]]
  | i + 1 => (srt (cmpP (costP t l)) (nxtP t l i (beamP t l w i) 16)).take w
def finP (t : TagT) (l : List Bs) (a : List Nat) : Int := costP t l a + (match a.getLast? with | some k => at0 t.2.2.1 k | none => 0)
def beamF (t : TagT) (l : List Bs) (w : Int) : List Bs × Int × Bool × Int :=
  if chkF t l.length ≠ 0 then ([], 0, false, chkF t l.length) else if w < 1 ∨ 16 < w then ([], 0, false, 1) else
  match beamP t l w.toNat l.length with
  | [] => ([], 0, false, 0)
  | x :: r => ((minL (cmpP (finP t l)) x r).map fun k => t.1.getD k [], finP t l (minL (cmpP (finP t l)) x r), true, 0)
theorem bstP_mem {α : Type} {c : α → α → Int} {l : List α} {a : α} (h : a ∈ bstP c l) : a ∈ l := by
  cases l with
  | nil => cases h
  | cons x r => simp only [bstP, List.mem_singleton] at h; subst h; exact minL_mem c r x
theorem bstP_len {α : Type} (c : α → α → Int) (l : List α) : (bstP c l).length ≤ 1 := by cases l <;> simp [bstP]
theorem celP_good {t : TagT} (ht : OkT t) {l : List Bs} {i : Nat} (hi : i < l.length) {P : List (List Nat)} (hP : ∀ p ∈ P, GoodP t l i p) {k : Nat} : ∀ a ∈ celP t l i k P, GoodP t l (i + 1) a := by
  intro a ha
  unfold celP at ha
  split at ha
  · rename_i h
    obtain ⟨hk, h1⟩ := h
    obtain ⟨p, hp, rfl⟩ := List.mem_map.1 ha
    have hp := hP p hp
    have hs := costP_snoc t l p k (by rw [hp.len]; exact hi)
    rw [hp.len] at hs
    have hc := csB_at (costsF_ok ht (l.getD i [])) hk
    have hst := stepF_rng ht (b := p.getLast?) hk (fun b' hb => hp.lt b' (List.mem_of_getLast? hb))
    have h3 := hp.c0
    have h4 := hp.c1
    exact ⟨by simp [hp.len], fun x hx => by
      rcases List.mem_append.1 hx with hx | hx
      · exact hp.lt x hx
      · simp at hx; subst hx; exact hk, by omega, by rw [hs]; push_cast; omega⟩
  · cases ha
theorem nxtP_good {t : TagT} (ht : OkT t) {l : List Bs} {i : Nat} (hi : i < l.length) {P : List (List Nat)} (hP : ∀ p ∈ P, GoodP t l i p) {n : Nat} : ∀ a ∈ nxtP t l i P n, GoodP t l (i + 1) a := by
  intro a ha
  simp only [nxtP, List.mem_flatMap, List.mem_range] at ha
  obtain ⟨k, _, ha⟩ := ha
  exact celP_good ht hi hP a (bstP_mem ha)
theorem beamP_good {t : TagT} (ht : OkT t) {l : List Bs} (w : Nat) : ∀ (i : Nat), i ≤ l.length → ∀ a ∈ beamP t l w i, GoodP t l i a
  | 0, _, a, ha => by
    simp only [beamP, List.mem_singleton] at ha
    subst ha
    exact ⟨rfl, by simp, by cases l <;> simp [costP, cstG], by cases l <;> simp [costP, cstG]⟩
  | i + 1, hi, a, ha => by
    simp only [beamP] at ha
    have ha := List.mem_of_mem_take ha
    rw [srt_mem] at ha
    exact nxtP_good ht (by omega) (beamP_good ht w i (by omega)) a ha
theorem nxtP_len (t : TagT) (l : List Bs) (i : Nat) (P : List (List Nat)) (n : Nat) : (nxtP t l i P n).length ≤ n := by
  have := flatMap_len (fun k => bstP (cmpP (costP t l)) (celP t l i k P)) 1 (List.range n) fun k _ => bstP_len _ _
  simpa [nxtP] using this
theorem beamP_len (t : TagT) (l : List Bs) (w : Nat) : ∀ i, (beamP t l w i).length ≤ 16
  | 0 => by simp [beamP]
  | i + 1 => by
    simp only [beamP, List.length_take, srt_len]
    have := nxtP_len t l i (beamP t l w i) 16
    omega
theorem nxtP_succ (t : TagT) (l : List Bs) (i : Nat) (P : List (List Nat)) (n : Nat) : nxtP t l i P (n + 1) = nxtP t l i P n ++ bstP (cmpP (costP t l)) (celP t l i n P) := by
  unfold nxtP; rw [List.range_succ, List.flatMap_append]; simp
/-- The rows of the tags: part j of P is done up to tag k. -/
def rowsB (t : TagT) (l : List Bs) (i : Nat) (P : List (List Nat)) (j k : Nat) : List (Option (List PV)) := (List.range 16).map fun m => some ((celP t l i m (P.take (if m < k then j + 1 else j))).map (partV (costP t l) fun _ => 0))
theorem rowsB_len (t : TagT) (l : List Bs) (i : Nat) (P : List (List Nat)) (j k : Nat) : (rowsB t l i P j k).length = 16 := by simp [rowsB]
theorem rowsB_zero (t : TagT) (l : List Bs) (i : Nat) (P : List (List Nat)) : rowsB t l i P 0 0 = List.replicate 16 (some []) := by
  unfold rowsB
  rw [List.map_congr_left (g := fun _ => some []) (fun m _ => by simp [celP]), List.map_const']
  simp
theorem rowsB_at (t : TagT) (l : List Bs) (i : Nat) (P : List (List Nat)) (j k : Nat) {m : Nat} (hm : m < 16) : (rowsB t l i P j k)[m]? = some (some ((celP t l i m (P.take (if m < k then j + 1 else j))).map (partV (costP t l) fun _ => 0))) := by
  unfold rowsB
  rw [List.getElem?_map, List.getElem?_range hm]; rfl
theorem rowsB_next {t : TagT} {l : List Bs} {i : Nat} {P : List (List Nat)} {j : Nat} (hn : t.1.length ≤ 16) : rowsB t l i P j t.1.length = rowsB t l i P (j + 1) 0 := by
  unfold rowsB
  refine List.map_congr_left fun m _ => ?_
  by_cases h : m < t.1.length
  · rw [if_pos h, if_neg (by omega)]
  · simp [celP, h]
theorem rowsB_no {t : TagT} {l : List Bs} {i : Nat} {P : List (List Nat)} {j k : Nat} (h : at0 (costsF t (l.getD i [])) k < 0) : rowsB t l i P j (k + 1) = rowsB t l i P j k := by
  unfold rowsB
  refine List.map_congr_left fun m _ => ?_
  by_cases e : m = k
  · subst e
    rw [celP_neg h, celP_neg h]
  · by_cases e2 : m < k
    · rw [if_pos e2, if_pos (by omega)]
    · rw [if_neg e2, if_neg (by omega)]
theorem rowsB_yes {t : TagT} {l : List Bs} {i : Nat} {P : List (List Nat)} {j k : Nat} (h : ¬ at0 (costsF t (l.getD i [])) k < 0) (hk : k < t.1.length) (hk16 : k < 16) (hj : j < P.length) :
    rowsB t l i P j (k + 1) = (rowsB t l i P j k).set k (some ((celP t l i k (P.take j)).map (partV (costP t l) fun _ => 0) ++ [partV (costP t l) (fun _ => 0) (P[j] ++ [k])])) := by
  apply List.ext_getElem?
  intro m
  rw [List.getElem?_set]
  by_cases hm : m < 16
  · rw [rowsB_at _ _ _ _ _ _ hm, rowsB_at _ _ _ _ _ _ hm]
    by_cases e : k = m
    · subst e
      rw [if_pos (Nat.lt_succ_self k), if_pos rfl, if_pos (by rw [rowsB_len]; exact hm), List.take_succ_eq_append_getElem hj, celP_pos h hk, celP_pos h hk]
      simp only [List.map_append, List.map_cons, List.map_nil]
    · rw [if_neg e]
      by_cases e2 : m < k
      · rw [if_pos e2, if_pos (by omega)]
      · rw [if_neg e2, if_neg (by omega)]
  · have h1 : (rowsB t l i P j (k + 1))[m]? = none := List.getElem?_eq_none (by rw [rowsB_len]; omega)
    have h2 : (rowsB t l i P j k)[m]? = none := List.getElem?_eq_none (by rw [rowsB_len]; omega)
    rw [h1, if_neg (by omega), h2]

end Go.Proofs
