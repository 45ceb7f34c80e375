/- Plain laws. -/
import Derived.Test.YtlhpjeckaepdlaaOrd
import Derived.Test.YtlhpjeckaepdlaaFx
set_option linter.all false
set_option maxHeartbeats 2000000
namespace Go.Proofs
open Go Go.AM
/-! Chapter 28: the values, and the plain laws of names. -/
def idxF {α : Type} (p : α → Bool) : List α → Nat → Int
  | [], _ => -1
  | x :: l, i => if p x = true then (i : Int) else idxF p l (i + 1)
theorem idxF_ge {α : Type} (p : α → Bool) : ∀ (l : List α) (i : Nat), decide (0 ≤ idxF p l i) = l.any p
  | [], i => by simp [idxF]
  | x :: l, i => by
    simp only [idxF, List.any_cons]
    split
    · rename_i h; simp [h]
    · rename_i h; simp [h, idxF_ge p l (i + 1)]
theorem idxF_find {α : Type} (p : α → Bool) : ∀ (l : List α) (j : Nat), (idxF p l j = -1 ∧ l.find? p = none) ∨ ∃ k, idxF p l j = ((j + k : Nat) : Int) ∧ ∃ h : k < l.length, l.find? p = some l[k] ∧ p l[k] = true ∧ ∀ x ∈ l.take k, p x = false
  | [], j => .inl ⟨rfl, rfl⟩
  | x :: l, j => by
    by_cases hx : p x = true
    · exact .inr ⟨0, by simp [idxF, hx], by simp, by simp [hx], by simpa using hx, by simp⟩
    · rcases idxF_find p l (j + 1) with ⟨h1, h2⟩ | ⟨k, h1, h2, h3, h4, h5⟩
      · exact .inl ⟨by simp [idxF, hx, h1], by simp [hx, h2]⟩
      · refine .inr ⟨k + 1, by simp only [idxF, hx]; rw [if_neg (by simp), h1]; omega, by simpa using h2, by simp [hx, h3], by simpa using h4, ?_⟩
        intro y hy
        simp only [List.take_succ_cons, List.mem_cons] at hy
        rcases hy with rfl | hy
        · simpa using hx
        · exact h5 y hy
theorem any_succ {α : Type} (p : α → Bool) (S : List α) {i : Nat} (h : i < S.length) : (S.take (i + 1)).any p = ((S.take i).any p || p S[i]) := by
  rw [List.take_succ_eq_append_getElem h, List.any_append]; simp
theorem any_take {α : Type} (p : α → Bool) (S : List α) {i : Nat} (h : i < S.length) (h1 : ∀ s ∈ S.take i, p s = false) (h2 : p S[i] = false) : ∀ s ∈ S.take (i + 1), p s = false := by
  intro s hs
  rw [List.take_succ_eq_append_getElem h, List.mem_append] at hs
  rcases hs with hs | hs
  · exact h1 s hs
  · simp at hs; subst hs; exact h2
theorem any_end {α : Type} (p : α → Bool) (S : List α) (h : ∀ s ∈ S, p s = false) : S.any p = false := by rw [List.any_eq_false]; intro s hs; simp [h s hs]
theorem any_at {α : Type} (p : α → Bool) (S : List α) {i : Nat} (h : i < S.length) (h2 : p S[i] = true) : S.any p = true := List.any_eq_true.2 ⟨_, List.getElem_mem h, h2⟩

def letC (c : UInt8) : Bool := (decide (97 ≤ c.toNat) && decide (c.toNat ≤ 122)) || (decide (65 ≤ c.toNat) && decide (c.toNat ≤ 90))
def digC (c : UInt8) : Bool := decide (48 ≤ c.toNat) && decide (c.toNat ≤ 57)
theorem or_all : ∀ n : Nat, n < 256 → (decide (97 ≤ orI .u8 (n : Int) 32) && decide (orI .u8 (n : Int) 32 ≤ 122)) = ((decide (97 ≤ n) && decide (n ≤ 122)) || (decide (65 ≤ n) && decide (n ≤ 90))) := by decide +kernel
theorem or_let (c : UInt8) : (decide (97 ≤ orI .u8 (c.toNat : Int) 32) && decide (orI .u8 (c.toNat : Int) 32 ≤ 122)) = letC c := or_all c.toNat c.toNat_lt
def nmC (i : Nat) (c : UInt8) : Bool := letC c || (decide (i ≠ 0) && digC c)
def allN : Bs → Nat → Bool
  | [], _ => true
  | c :: t, i => nmC i c && allN t (i + 1)
def isNm (s : Bs) : Bool := allN s 0 && (decide (s ≠ []) && decide (s.length ≤ 12))
def inW : List Bs → Bs → Bool
  | [], _ => false
  | x :: l, s => decide (s = x) || inW l s
/-- Unlike names. -/
def isNms : List Bs → List Bs → Bool
  | _, [] => true
  | a, s :: l => isNm s && (!inW a s && isNms (a ++ [s]) l)
/-- Names in strictly ascending order. -/
def ascN : Option Bs → List Bs → Bool
  | _, [] => true
  | none, s :: l => isNm s && ascN (some s) l
  | some a, s :: l => isNm s && (ltB a s && ascN (some s) l)
/-- No text behind a greater one. -/
def srtd : List Bs → Bool
  | a :: b :: l => !ltB b a && srtd (b :: l)
  | _ => true
def plC (c : UInt8) : Bool := decide (33 ≤ c.toNat) && decide (c.toNat ≤ 126)
def isPl (s : Bs) : Bool := s.all plC
def lngW (w : List Bs) : Bool := decide (16 < w.length) || w.any fun s => decide (400 < s.length)
abbrev TurnT : Type := Bs × List Bs × Bs × List Bs × Unit
def turnV : TurnT → PV := fun (f, i, t, p, _) => .st [.s (bs f), .word i, .s (bs t), .word p]
abbrev SlotT : Type := Int × Bs × List Bs × Int × List Bs × Unit
def slotV : SlotT → PV := fun (o, b, t, f, k, _) => .st [.i o, .s (bs b), .word t, .i f, .word k]
abbrev ShufT : Type := List (List Bs) × List SlotT × Unit
def wordsV (l : List (List Bs)) : PV := .sl 1 (l.map PV.word)
def shufV : ShufT → PV := fun (p, o, _) => .st [wordsV p, .sl 5 (o.map slotV)]
abbrev BrT : Type := List TurnT × List ShufT × Unit
def brV : BrT → PV := fun (r, s, _) => .st [.sl 4 (r.map turnV), .sl 2 (s.map shufV)]
abbrev UnitT : Type := Bs × List Bs × Unit
def unitV : UnitT → PV := fun (b, t, _) => .st [.s (bs b), .word t]
abbrev smB (s : Bs) : Prop := s.length ≤ 200000000000000

theorem inW_iff (l : List Bs) (s : Bs) : inW l s = true ↔ s ∈ l := by
  induction l with
  | nil => simp [inW]
  | cons x l ih => simp [inW, ih]
theorem idxF_in (s : Bs) : ∀ (l : List Bs) (i : Nat), decide (0 ≤ idxF (fun x => decide (s = x)) l i) = inW l s
  | [], i => by simp [idxF, inW]
  | x :: l, i => by
    simp only [idxF, inW]
    split
    · rename_i h; simp only [decide_eq_true_eq] at h; simp [h]
    · rename_i h; simp only [decide_eq_true_eq] at h; simp [h, idxF_in s l (i + 1)]
theorem srtd_no {l : List Bs} : ∀ {j : Nat} (h : j + 1 < l.length), ltB l[j + 1] (l[j]'(by omega)) = true → srtd l = false := by
  induction l with
  | nil => intro j h; simp at h
  | cons x l ih =>
    intro j h hl
    cases l with
    | nil => simp at h
    | cons y l =>
      cases j with
      | zero => simp at hl; simp [srtd, hl]
      | succ j =>
        have := ih (j := j) (by simpa using h) (by simpa using hl)
        simp [srtd, this]
theorem srtd_step {l : List Bs} {j : Nat} (h : j + 1 < l.length) (hl : ltB l[j + 1] (l[j]'(by omega)) = false) : srtd (l.drop j) = srtd (l.drop (j + 1)) := by
  rw [List.drop_eq_getElem_cons (show j < l.length by omega), List.drop_eq_getElem_cons h]
  simp [srtd, hl]
theorem ascN_gt : ∀ {a : Bs} {l : List Bs}, ascN (some a) l = true → ∀ s ∈ l, ltB a s = true
  | a, [], _, s, hs => by cases hs
  | a, x :: l, h, s, hs => by
    simp only [ascN, Bool.and_eq_true] at h
    rcases List.mem_cons.1 hs with rfl | hs
    · exact h.2.1
    · exact ltB_trans h.2.1 (ascN_gt h.2.2 s hs)
theorem asc_set : ∀ (l : List Bs) (a : Bs) (pre : List Bs), a ∈ pre → (∀ p ∈ pre, ltB a p = false) → (isNms pre l && srtd (a :: l)) = ascN (some a) l
  | [], a, pre, _, _ => by simp [isNms, srtd, ascN]
  | s :: l, a, pre, ha, hp => by
    simp only [isNms, srtd, ascN]
    by_cases h1 : isNm s = true
    · simp only [h1, Bool.true_and]
      by_cases h2 : ltB a s = true
      · have h3 : inW pre s = false := by
          cases h : inW pre s
          · rfl
          · have := hp s ((inW_iff _ _).1 h); rw [h2] at this; cases this
        have h4 := asc_set l s (pre ++ [s]) (by simp) (fun p q => by
          rcases List.mem_append.1 q with q | q
          · cases h : ltB s p
            · rfl
            · have := hp p q; rw [ltB_trans h2 h] at this; cases this
          · simp at q; subst q; exact ltB_irrefl p)
        rw [← h4, h2, h3, ltB_asymm h2]
        simp
      · have h2' : ltB a s = false := by simpa using h2
        rw [h2', Bool.false_and]
        cases h5 : ltB s a
        · have : a = s := ltB_total h2' h5
          subst this
          have : inW pre a = true := (inW_iff _ _).2 ha
          simp [this]
        · simp
    · have : isNm s = false := by simpa using h1
      simp [this]
theorem set_eq (l : List Bs) : (isNms [] l && srtd l) = ascN none l := by
  cases l with
  | nil => rfl
  | cons s l =>
    simp only [isNms, ascN, inW, List.nil_append]
    have := asc_set l s [s] (by simp) (by simp [ltB_irrefl])
    cases h : isNm s
    · simp
    · simpa using this

end Go.Proofs
