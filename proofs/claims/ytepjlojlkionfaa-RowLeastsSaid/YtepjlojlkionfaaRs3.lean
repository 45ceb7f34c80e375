/- Plain laws. -/
import Derived.Test.YtepjlojlkionfaaRs2
set_option linter.all false
set_option maxHeartbeats 2000000
namespace Go.Proofs
open Go Go.AM
/-! Merging gives the first of all. -/
def cT (x y : TlT) : Int := if cmpZ x.1 y.1 = 0 then cmpNs x.2 y.2 else cmpZ x.1 y.1
theorem cT_cases {x y : TlT} : cT x y < 0 ↔ x.1 < y.1 ∨ (x.1 = y.1 ∧ cmpNs x.2 y.2 < 0) := by
  unfold cT
  by_cases e : cmpZ x.1 y.1 = 0
  · rw [if_pos e]; rw [cmpZ_eq] at e; omega
  · rw [if_neg e, cmpZ_lt]; rw [cmpZ_eq] at e; omega
theorem linT : Lin cT where
  self a := by simp [cT, cmpZ, linNs.self]
  zero {a b} h := by
    obtain ⟨a1, a2⟩ := a
    obtain ⟨b1, b2⟩ := b
    unfold cT at h
    split at h
    · rename_i e
      rw [cmpZ_eq] at e
      simp only at e h
      rw [e, linNs.zero h]
    · rename_i e; exact absurd h e
  tr {a b d} h1 h2 := by
    rw [cT_cases] at *
    rcases h1 with h1 | ⟨h1, h1'⟩
    · rcases h2 with h2 | ⟨h2, _⟩
      · exact .inl (by omega)
      · exact .inl (by omega)
    · rcases h2 with h2 | ⟨h2, h2'⟩
      · exact .inl (by omega)
      · exact .inr ⟨by omega, linNs.tr h1' h2'⟩
  pos {a b} := by
    unfold cT
    by_cases e : cmpZ a.1 b.1 = 0
    · have e' : cmpZ b.1 a.1 = 0 := by rw [cmpZ_eq] at e ⊢; omega
      rw [if_pos e, if_pos e']; exact linNs.pos
    · have e' : ¬ cmpZ b.1 a.1 = 0 := by rw [cmpZ_eq] at e ⊢; omega
      rw [if_neg e, if_neg e', cmpZ_gt, cmpZ_lt]
def img (cost : Int) (tag : Option Nat) (p : Int) (x : TlT) : TlT := (cost + p + x.1, tgd tag x.2)
theorem cmpNs_cons (k : Nat) (a b : List Nat) : cmpNs (k :: a) (k :: b) = cmpNs a b := by simp [cmpNs, cmpZ]
theorem cmpNs_tgd (tag : Option Nat) (a b : List Nat) : cmpNs (tgd tag a) (tgd tag b) = cmpNs a b := by
  cases tag with
  | none => rfl
  | some k => exact cmpNs_cons k a b
theorem img_lt {cost : Int} {tag : Option Nat} {p q : Int} {x y : TlT} : cT (img cost tag p x) (img cost tag q y) < 0 ↔ x.1 + p < y.1 + q ∨ (x.1 + p = y.1 + q ∧ cmpNs x.2 y.2 < 0) := by
  rw [cT_cases]
  simp only [img, cmpNs_tgd]
  constructor <;> rintro (h | ⟨h, h'⟩)
  · exact .inl (by omega)
  · exact .inr ⟨by omega, h'⟩
  · exact .inl (by omega)
  · exact .inr ⟨by omega, h'⟩
theorem img_inj {cost : Int} {tag : Option Nat} {p : Int} {x y : TlT} (h : img cost tag p x = img cost tag p y) : x = y := by
  obtain ⟨x1, x2⟩ := x
  obtain ⟨y1, y2⟩ := y
  simp only [img, Prod.mk.injEq] at h
  obtain ⟨h1, h2⟩ := h
  have : x2 = y2 := by
    cases tag with
    | none => exact h2
    | some k => simpa [tgd] using h2
  rw [this, show x1 = y1 by omega]
def FF (cost : Int) (tag : Option Nat) : List (List TlT) → List Int → List TlT
  | r :: R, p :: ps => r.map (img cost tag p) ++ FF cost tag R ps
  | _, _ => []
theorem FF_mem {cost : Int} {tag : Option Nat} : ∀ {R : List (List TlT)} {ps : List Int} {y : TlT}, y ∈ FF cost tag R ps ↔ ∃ (j : Nat) (r : List TlT) (p : Int), R[j]? = some r ∧ ps[j]? = some p ∧ ∃ x ∈ r, y = img cost tag p x
  | [], ps, y => by simp [FF]
  | r :: R, [], y => by simp [FF]
  | r :: R, p :: ps, y => by
    simp only [FF, List.mem_append, List.mem_map, FF_mem (R := R) (ps := ps)]
    constructor
    · rintro (⟨x, hx, rfl⟩ | ⟨j, r', p', h1, h2, x, hx, rfl⟩)
      · exact ⟨0, r, p, by simp, by simp, x, hx, rfl⟩
      · exact ⟨j + 1, r', p', by simpa using h1, by simpa using h2, x, hx, rfl⟩
    · rintro ⟨j, r', p', h1, h2, x, hx, rfl⟩
      cases j with
      | zero =>
        simp at h1 h2
        subst h1; subst h2
        exact .inl ⟨x, hx, rfl⟩
      | succ j => exact .inr ⟨j, r', p', by simpa using h1, by simpa using h2, x, hx, rfl⟩
theorem FF_set {cost : Int} {tag : Option Nat} : ∀ {R : List (List TlT)} {ps : List Int} {j : Nat} {x : TlT} {r : List TlT} {p : Int}, R[j]? = some (x :: r) → ps[j]? = some p → (FF cost tag R ps).Perm (img cost tag p x :: FF cost tag (R.set j r) ps)
  | [], ps, j, x, r, p, h, _ => by simp at h
  | y :: R, [], j, x, r, p, _, h => by simp at h
  | y :: R, q :: ps, 0, x, r, p, h1, h2 => by
    simp at h1 h2
    subst h1; subst h2
    simp [FF]
  | y :: R, q :: ps, j + 1, x, r, p, h1, h2 => by
    have ih := FF_set (cost := cost) (tag := tag) (R := R) (ps := ps) (j := j) (x := x) (r := r) (p := p) (by simpa using h1) (by simpa using h2)
    simp only [FF, List.set_cons_succ]
    exact (List.Perm.append_left _ ih).trans List.perm_middle
def updB (x : TlT) (p : Int) (k : Nat) : Option (Nat × Int) → Option (Nat × Int)
  | none => some (k, x.1 + p)
  | some (j, c) => if x.1 + p < c then some (k, x.1 + p) else some (j, c)
theorem bstR_cons (x : TlT) (y : List TlT) (B : List (List TlT)) (p : Int) (ps : List Int) (k : Nat) (b : Option (Nat × Int)) : bstR ((x :: y) :: B) (p :: ps) k b = bstR B ps (k + 1) (updB x p k b) := by
  cases b <;> simp only [bstR, updB]
theorem bstR_nil (B : List (List TlT)) (p : Int) (ps : List Int) (k : Nat) (b : Option (Nat × Int)) : bstR ([] :: B) (p :: ps) k b = bstR B ps (k + 1) b := by simp only [bstR]
theorem bst_spec : ∀ (B : List (List TlT)) (ps : List Int) (k : Nat) (b : Option (Nat × Int)), ps.length = B.length → (∀ (j0 : Nat) (v0 : Int), b = some (j0, v0) → j0 < k) →
    (bstR B ps k b = none → b = none ∧ ∀ r ∈ B, r = []) ∧
    ∀ j v, bstR B ps k b = some (j, v) → (b = some (j, v) ∨ ∃ (j' : Nat) (x : TlT) (r : List TlT) (p : Int), j = k + j' ∧ B[j']? = some (x :: r) ∧ ps[j']? = some p ∧ v = x.1 + p ∧ ∀ (i : Nat) (x' : TlT) (r' : List TlT) (p' : Int), i < j' → B[i]? = some (x' :: r') → ps[i]? = some p' → v < x'.1 + p') ∧
      (∀ (j0 : Nat) (v0 : Int), b = some (j0, v0) → v ≤ v0 ∧ (b ≠ some (j, v) → v < v0)) ∧ ∀ (i : Nat) (x' : TlT) (r' : List TlT) (p' : Int), B[i]? = some (x' :: r') → ps[i]? = some p' → v ≤ x'.1 + p'
  | [], ps, k, b, _, _ => by
    simp only [bstR]
    refine ⟨fun h => ⟨h, by simp⟩, fun j v h => ⟨.inl h, fun j0 v0 h0 => ?_, by simp⟩⟩
    rw [h] at h0
    cases h0
    exact ⟨Int.le_refl _, fun hn => (hn h).elim⟩
  | y :: B, [], k, b, h, _ => by simp at h
  | y :: B, p :: ps, k, b, hl, hbk => by
    have hl' : ps.length = B.length := by simpa using hl
    cases y with
    | nil =>
      rw [bstR_nil]
      obtain ⟨h1, h2⟩ := bst_spec B ps (k + 1) b hl' (fun j0 v0 h => by have := hbk j0 v0 h; omega)
      refine ⟨fun h => ⟨(h1 h).1, by simpa using (h1 h).2⟩, fun j v h => ?_⟩
      obtain ⟨a1, a2, a3⟩ := h2 j v h
      refine ⟨?_, a2, fun i x' r' p' e1 e2 => ?_⟩
      · rcases a1 with a1 | ⟨j', x, r, p', q1, q2, q3, q4, q5⟩
        · exact .inl a1
        · refine .inr ⟨j' + 1, x, r, p', by omega, by simpa using q2, by simpa using q3, q4, fun i x' r' p'' hi e1 e2 => ?_⟩
          cases i with
          | zero => simp at e1
          | succ i => exact q5 i x' r' p'' (by omega) (by simpa using e1) (by simpa using e2)
      · cases i with
        | zero => simp at e1
        | succ i => exact a3 i x' r' p' (by simpa using e1) (by simpa using e2)
    | cons x y =>
      rw [bstR_cons]
      obtain ⟨b', hb'⟩ : ∃ b' : Option (Nat × Int), b' = updB x p k b := ⟨_, rfl⟩
      rw [← hb']
      -- what the new one is
      have hb2 : (b' = some (k, x.1 + p) ∧ ∀ j0 v0, b = some (j0, v0) → x.1 + p < v0) ∨ (∃ j0 v0, b = some (j0, v0) ∧ b' = b ∧ v0 ≤ x.1 + p) := by
        cases b with
        | none => exact .inl ⟨hb', by simp⟩
        | some q =>
          obtain ⟨j0, v0⟩ := q
          simp only [updB] at hb'
          by_cases e : x.1 + p < v0
          · rw [if_pos e] at hb'
            exact .inl ⟨hb', fun j1 v1 h => by cases h; exact e⟩
          · rw [if_neg e] at hb'
            exact .inr ⟨j0, v0, rfl, hb', by omega⟩
      obtain ⟨h1, h2⟩ := bst_spec B ps (k + 1) b' hl' (fun j1 v1 h => by
        rcases hb2 with ⟨e, _⟩ | ⟨j0, v0, e1, e2, _⟩
        · rw [e] at h; cases h; omega
        · rw [e2, e1] at h; cases h; have := hbk _ _ e1; omega)
      refine ⟨fun h => ?_, fun j v h => ?_⟩
      · have := (h1 h).1
        rcases hb2 with ⟨e, _⟩ | ⟨j0, v0, e1, e2, _⟩
        · rw [e] at this; cases this
        · rw [e2, e1] at this; cases this
      · obtain ⟨a1, a2, a3⟩ := h2 j v h
        have hvx : v ≤ x.1 + p := by
          rcases hb2 with ⟨e, _⟩ | ⟨j0, v0, e1, e2, e3⟩
          · exact (a2 _ _ e).1
          · have := (a2 j0 v0 (by rw [e2, e1])).1; omega
        refine ⟨?_, fun j0 v0 h0 => ?_, fun i x' r' p' e1 e2 => ?_⟩
        · rcases a1 with a1 | ⟨j', x1, r1, p1, q1, q2, q3, q4, q5⟩
          · rcases hb2 with ⟨e, e'⟩ | ⟨j0, v0, e1, e2, e3⟩
            · rw [a1] at e
              cases e
              exact .inr ⟨0, x, y, p, rfl, by simp, by simp, rfl, fun i _ _ _ hi => by omega⟩
            · exact .inl (by rw [← e2]; exact a1)
          · refine .inr ⟨j' + 1, x1, r1, p1, by omega, by simpa using q2, by simpa using q3, q4, fun i x' r' p'' hi e1 e2 => ?_⟩
            cases i with
            | zero =>
              simp at e1 e2
              obtain ⟨rfl, rfl⟩ := e1
              subst e2
              have hne : ∀ j0 v0, b' = some (j0, v0) → j0 ≤ k ∨ True := fun _ _ _ => .inr trivial
              rcases hb2 with ⟨e, _⟩ | ⟨j0, v0, e1, e2, e3⟩
              · by_cases q : b' = some (j, v)
                · rw [q] at e; cases e; omega
                · exact (a2 _ _ e).2 q
              · by_cases q : b' = some (j, v)
                · rw [e2, e1] at q; cases q; have := hbk _ _ e1; omega
                · have := (a2 j0 v0 (by rw [e2, e1])).2 q; omega
            | succ i => exact q5 i x' r' p'' (by omega) (by simpa using e1) (by simpa using e2)
        · rcases hb2 with ⟨e, e'⟩ | ⟨j1, v1, e1, e2, e3⟩
          · have := e' j0 v0 h0
            have h4 := (a2 _ _ e).1
            exact ⟨by omega, fun _ => by omega⟩
          · rw [e2] at a2
            exact a2 j0 v0 h0
        · cases i with
          | zero =>
            simp at e1 e2
            obtain ⟨rfl, rfl⟩ := e1
            subst e2
            exact hvx
          | succ i => exact a3 i x' r' p' (by simpa using e1) (by simpa using e2)

end Go.Proofs
