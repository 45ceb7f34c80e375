/- Plain laws. -/
import Derived.Test.YtepjlojlkionfaaRo7
set_option linter.all false
set_option maxHeartbeats 2000000
namespace Go.Proofs
open Go Go.AM
def waysF : List Int → List Int → List Int → List Int
  | p :: ps, c :: cs, r :: rs => if 0 ≤ c ∧ 0 ≤ r then (p + c + r) :: waysF ps cs rs else waysF ps cs rs
  | _, _, _ => []
def lstB (l : List Int) : Int := if (lstO none l).isSome = true then oI (lstO none l) else -1
def nextR (t : TagT) (c r : List Int) : List Int := (List.range t.1.length).map fun k => lstB (waysF (t.2.2.2.1.getD k []) c r)
def restF (t : TagT) : List Bs → List (List Int)
  | [] => []
  | [_] => [t.2.2.1]
  | _ :: w :: l => nextR t (costsF t w) ((restF t (w :: l)).headD []) :: restF t (w :: l)
theorem restF_len (t : TagT) : ∀ l, (restF t l).length = l.length
  | [] => rfl
  | [_] => rfl
  | _ :: w :: l => by simp [restF, restF_len t (w :: l)]
theorem restF_tail (t : TagT) : ∀ (w : Bs) (l : List Bs), (restF t (w :: l)).tail = restF t l
  | _, [] => rfl
  | _, _ :: _ => rfl
theorem restF_drop (t : TagT) : ∀ (i : Nat) (l : List Bs), (restF t l).drop i = restF t (l.drop i)
  | 0, l => by simp
  | i + 1, [] => by simp [restF]
  | i + 1, w :: l => by
    rw [List.drop_succ_cons, ← restF_drop t i l, ← restF_tail t w l, List.drop_tail]
theorem lstO_mem : ∀ (l : List Int) (b : Option Int) (x : Int), lstO b l = some x → b = some x ∨ x ∈ l
  | [], b, x, h => by cases b <;> exact .inl h
  | y :: l, none, x, h => by
    rcases lstO_mem l (some y) x h with e | e
    · cases e; exact .inr (by simp)
    · exact .inr (by simp [e])
  | y :: l, some b, x, h => by
    rcases lstO_mem l _ x h with e | e
    · split at e
      · cases e; exact .inr (by simp)
      · exact .inl e
    · exact .inr (by simp [e])
theorem waysF_mem : ∀ {p c r : List Int} {x : Int}, x ∈ waysF p c r → ∃ a ∈ p, ∃ b ∈ c, ∃ d ∈ r, 0 ≤ b ∧ 0 ≤ d ∧ x = a + b + d
  | [], _, _, _, h => by simp [waysF] at h
  | _ :: _, [], _, _, h => by simp [waysF] at h
  | _ :: _, _ :: _, [], _, h => by simp [waysF] at h
  | p :: ps, c :: cs, r :: rs, x, h => by
    simp only [waysF] at h
    split at h
    · rename_i hc
      rcases List.mem_cons.1 h with rfl | h
      · exact ⟨p, by simp, c, by simp, r, by simp, hc.1, hc.2, rfl⟩
      · obtain ⟨a, h1, b, h2, d, h3, h4⟩ := waysF_mem h
        exact ⟨a, by simp [h1], b, by simp [h2], d, by simp [h3], h4⟩
    · obtain ⟨a, h1, b, h2, d, h3, h4⟩ := waysF_mem h
      exact ⟨a, by simp [h1], b, by simp [h2], d, by simp [h3], h4⟩
theorem waysF_len : ∀ (p c r : List Int), (waysF p c r).length ≤ p.length
  | [], _, _ => by simp [waysF]
  | _ :: _, [], _ => by simp [waysF]
  | _ :: _, _ :: _, [] => by simp [waysF]
  | p :: ps, c :: cs, r :: rs => by
    simp only [waysF]
    have := waysF_len ps cs rs
    split <;> simp <;> omega
theorem restF_rng {t : TagT} (h : OkT t) : ∀ (l : List Bs), ∀ row ∈ restF t l, row.length = t.1.length ∧ ∀ x ∈ row, -1 ≤ x ∧ x ≤ 100000000 + l.length * 200000000
  | [], row, hr => by simp [restF] at hr
  | [_], row, hr => by
    simp only [restF, List.mem_singleton] at hr
    subst hr
    exact ⟨csB_len h.z, fun x hx => by have := csB_rng h.z x hx; simp; omega⟩
  | _ :: w :: l, row, hr => by
    simp only [restF] at hr
    have ih := restF_rng h (w :: l)
    rcases List.mem_cons.1 hr with rfl | hr
    · refine ⟨by simp [nextR], fun x hx => ?_⟩
      simp only [nextR, List.mem_map, List.mem_range] at hx
      obtain ⟨k, hk, rfl⟩ := hx
      unfold lstB
      split
      · rename_i hs
        obtain ⟨b, hb⟩ := Option.isSome_iff_exists.1 hs
        rw [hb]
        rcases lstO_mem _ _ _ hb with e | e
        · cases e
        · obtain ⟨a, h1, c, h2, d, h3, h4, h5, rfl⟩ := waysF_mem e
          have hkp : k < t.2.2.2.1.length := by rw [h.pl]; exact hk
          rw [List.getD_eq_getElem?_getD, List.getElem?_eq_getElem hkp, Option.getD_some] at h1
          have q1 := csB_rng (h.p _ (List.getElem_mem hkp)) a h1
          have q2 := csB_rng (costsF_ok h w) c h2
          have hne : (restF t (w :: l)) ≠ [] := by intro e; have := congrArg List.length e; rw [restF_len] at this; simp at this
          have hm : (restF t (w :: l)).headD [] ∈ restF t (w :: l) := by
            cases hrr : restF t (w :: l) with
            | nil => exact absurd hrr hne
            | cons a b => simp
          have q3 := (ih _ hm).2 d h3
          simp only [List.length_cons] at q3 ⊢
          simp only [oI]
          omega
      · simp only [List.length_cons]; omega
    · have := ih row hr
      exact ⟨this.1, fun x hx => by have := this.2 x hx; simp only [List.length_cons] at this ⊢; omega⟩
/-- The rows from a word on. -/
def rowsR (t : TagT) (l : List Bs) (I : Nat) : List PV := List.replicate I (.sl 1 []) ++ (restF t (l.drop I)).map intsV
theorem rowsR_len (t : TagT) (l : List Bs) {I : Nat} (h : I ≤ l.length) : (rowsR t l I).length = l.length := by
  simp [rowsR, restF_len]; omega
theorem restF_cons (t : TagT) (l : List Bs) {i : Nat} (h : i < l.length) : restF t (l.drop i) = (restF t (l.drop i)).headD [] :: restF t (l.drop (i + 1)) := by
  rw [drop_at h]
  have h1 := restF_tail t l[i] (l.drop (i + 1))
  have hl := restF_len t (l[i] :: l.drop (i + 1))
  cases hr : restF t (l[i] :: l.drop (i + 1)) with
  | nil =>
    have h0 : (restF t (l[i] :: l.drop (i + 1))).length = 0 := by rw [hr]; rfl
    rw [hl, List.length_cons] at h0
    omega
  | cons a b => rw [hr] at h1; simp at h1; simp [h1]
theorem rowsR_set (t : TagT) (l : List Bs) {i : Nat} (h : i < l.length) : (rowsR t l (i + 1)).set i (intsV ((restF t (l.drop i)).headD [])) = rowsR t l i := by
  have e := restF_cons t l h
  unfold rowsR
  conv => rhs; rw [e]
  rw [List.replicate_succ', List.append_assoc, List.set_append_right _ _ (by simp)]
  simp
theorem rowsR_at (t : TagT) (l : List Bs) {I o : Nat} (h1 : I ≤ o) (h2 : o < l.length) : (rowsR t l I)[o]? = some (intsV ((restF t (l.drop o)).headD [])) := by
  unfold rowsR
  rw [List.getElem?_append_right (by simpa using h1), List.length_replicate, List.getElem?_map]
  have e : restF t (l.drop o) = (restF t (l.drop I)).drop (o - I) := by rw [restF_drop, List.drop_drop]; congr 2; omega
  have hl := restF_len t (l.drop o)
  have hc := restF_cons t l h2
  have : (restF t (l.drop I))[o - I]? = ((restF t (l.drop I)).drop (o - I))[0]? := by simp
  rw [this, ← e, hc]
  simp

end Go.Proofs
