/- Plain laws. -/
import Derived.Test.YtepjlojlkionfaaRp2
set_option linter.all false
set_option maxHeartbeats 2000000
namespace Go.Proofs
open Go Go.AM
/-! Several: the pure function. -/
def cstG (t : TagT) : List Bs → List Nat → Option Nat → Int
  | w :: l, k :: ks, b => at0 (costsF t w) k + stepF t b k + cstG t l ks (some k)
  | _, _, _ => 0
def costP (t : TagT) (l : List Bs) (a : List Nat) : Int := cstG t l a none
def restAt (t : TagT) (l : List Bs) (i : Nat) : List Int := (restF t (l.drop i)).headD []
def allP (t : TagT) (l : List Bs) (a : List Nat) : Int := match a.getLast? with
  | none => 0
  | some k => costP t l a + at0 (restAt t l (a.length - 1)) k
def ext1 (t : TagT) (l : List Bs) (i : Nat) (p : List Nat) (k : Nat) : List (List Nat) := if at0 (costsF t (l.getD i [])) k < 0 then [] else if at0 (restAt t l i) k < 0 then [] else [p ++ [k]]
def extP (t : TagT) (l : List Bs) (i : Nat) (p : List Nat) : List (List Nat) := (List.range t.1.length).flatMap (ext1 t l i p)
def sevP (t : TagT) (l : List Bs) (m : Nat) : Nat → List (List Nat)
  | 0 => [[]]
  | i + 1 => (srt (cmpP (allP t l)) ((sevP t l m i).flatMap (extP t l i))).take (m + 1)
theorem cstG_snoc (t : TagT) : ∀ (l : List Bs) (a : List Nat) (k : Nat) (b : Option Nat), a.length < l.length → cstG t l (a ++ [k]) b = cstG t l a b + at0 (costsF t (l.getD a.length [])) k + stepF t (match a.getLast? with | some x => some x | none => b) k
  | [], a, k, b, h => by simp at h
  | w :: l, [], k, b, h => by cases l <;> simp [cstG]
  | w :: l, x :: a, k, b, h => by
    have ih := cstG_snoc t l a k (some x) (by simpa using h)
    simp only [List.cons_append, cstG, ih, List.length_cons, List.getD_cons_succ]
    have : (match (x :: a).getLast? with | some y => some y | none => b) = (match a.getLast? with | some y => some y | none => some x) := by
      cases a with
      | nil => rfl
      | cons y a => rw [List.getLast?_cons_cons]; cases h : (y :: a).getLast? with
        | none => simp at h
        | some z => rfl
    rw [this]
    omega
theorem costP_snoc (t : TagT) (l : List Bs) (a : List Nat) (k : Nat) (h : a.length < l.length) : costP t l (a ++ [k]) = costP t l a + at0 (costsF t (l.getD a.length [])) k + stepF t a.getLast? k := by
  unfold costP
  rw [cstG_snoc t l a k none h]
  congr 2
  cases a.getLast? <;> rfl
theorem allP_snoc (t : TagT) (l : List Bs) (a : List Nat) (k : Nat) : allP t l (a ++ [k]) = costP t l (a ++ [k]) + at0 (restAt t l a.length) k := by
  simp [allP]
structure GoodP (t : TagT) (l : List Bs) (i : Nat) (a : List Nat) : Prop where
  len : a.length = i
  lt : ∀ k ∈ a, k < t.1.length
  c0 : 0 ≤ costP t l a
  c1 : costP t l a ≤ i * 200000000
theorem ext1_good {t : TagT} (ht : OkT t) {l : List Bs} {i : Nat} (hi : i < l.length) {p : List Nat} (hp : GoodP t l i p) {k : Nat} (hk : k < t.1.length) : ∀ a ∈ ext1 t l i p k, GoodP t l (i + 1) a := by
  intro a ha
  unfold ext1 at ha
  split at ha
  · cases ha
  split at ha
  · cases ha
  rename_i h1 h2
  simp only [List.mem_singleton] at ha
  subst ha
  have hs := costP_snoc t l p k (by rw [hp.len]; exact hi)
  rw [hp.len] at hs
  have hc := csB_at (costsF_ok ht (l.getD i [])) hk
  have hst := stepF_rng ht (b := p.getLast?) hk (fun b' hb => hp.lt b' (List.mem_of_getLast? hb))
  have h3 := hp.c0
  have h4 := hp.c1
  exact ⟨by simp [hp.len], fun x hx => by
    rcases List.mem_append.1 hx with hx | hx
    · exact hp.lt x hx
    · simp at hx; subst hx; exact hk, by omega, by rw [hs]; push_cast; omega⟩
theorem sevP_good {t : TagT} (ht : OkT t) {l : List Bs} (m : Nat) : ∀ (i : Nat), i ≤ l.length → ∀ a ∈ sevP t l m i, GoodP t l i a
  | 0, _, a, ha => by
    simp only [sevP, List.mem_singleton] at ha
    subst ha
    exact ⟨rfl, by simp, by cases l <;> simp [costP, cstG], by cases l <;> simp [costP, cstG]⟩
  | i + 1, hi, a, ha => by
    simp only [sevP] at ha
    have ha := List.mem_of_mem_take ha
    rw [srt_mem, List.mem_flatMap] at ha
    obtain ⟨p, hp, ha⟩ := ha
    simp only [extP, List.mem_flatMap, List.mem_range] at ha
    obtain ⟨k, hk, ha⟩ := ha
    exact ext1_good ht (by omega) (sevP_good ht m i (by omega) p hp) hk a ha
theorem sevP_len (t : TagT) (l : List Bs) (m : Nat) : ∀ i, (sevP t l m i).length ≤ m + 1
  | 0 => by simp [sevP]
  | i + 1 => by simp only [sevP, List.length_take]; omega
theorem ext1_len (t : TagT) (l : List Bs) (i : Nat) (p : List Nat) (k : Nat) : (ext1 t l i p k).length ≤ 1 := by
  unfold ext1; split
  · simp
  · split <;> simp
def rowV9 (t : TagT) (c : Int) (a : List Nat) : PV := .st [.i c, .word (a.map fun k => t.1.getD k [])]
def sevF (t : TagT) (l : List Bs) (m : Int) : List (List Nat) × Bool × Int :=
  if chkF t l.length ≠ 0 then ([], false, chkF t l.length) else if m < 1 ∨ 200 < m then ([], false, 1) else
  ((sevP t l m.toNat l.length).take m.toNat, decide (m.toNat < (sevP t l m.toNat l.length).length), 0)

end Go.Proofs
