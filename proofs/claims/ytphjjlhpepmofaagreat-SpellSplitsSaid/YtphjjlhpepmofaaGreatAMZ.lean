/- A region, in its own order or in one that is drawn. -/
import Derived.Test.YtphjjlhpepmofaaGreatAMY
import Derived.Maps.RangeRun
import Derived.IntWalk
import Derived.Lib.Strings
import Derived.OpenShut
import Derived.ProofKit
import Derived.DataElems
import Derived.SizedLaws
import Derived.WalkKit
import Derived.ShutString
import Derived.ChangeOld
set_option linter.all false
namespace Go.AM
open Go
variable [dr : Inhabited Prop]

/-- The operation i comes behind the operation j. -/
inductive Dp (ops : Array Oper) : Nat → Nat → Prop
  | one {i : Nat} {o : Oper} {e : Edge} : ops[i]? = some o → e ∈ o.after → Region.binds .any e = true → Dp ops i e.on
  | step {i k : Nat} {o : Oper} {e : Edge} : ops[i]? = some o → e ∈ o.after → Region.binds .any e = true → Dp ops e.on k → Dp ops i k

def mask (acc : List Nat) (o : Oper) : Nat := o.after.toList.foldl (fun m e => if Region.binds .any e = true then m ||| 2 ^ e.on ||| acc.getD e.on 0 else m) 0

def masks : List Nat → List Oper → List Nat
  | acc, [] => acc
  | acc, o :: os => masks (acc ++ [mask acc o]) os

/-- Operations that look at no row. -/
def MO.pur : MO → Bool
  | .op _ _ m => match m with
    | .mv .. | .pick .. | .bin .. | .un .. | .eqb .. | .ext .. => true
    | _ => false
  | _ => false

/-- Which operation made the row that a loud operation takes over. -/
def locOf (L : List MO) : MO → Option Nat
  | .op _ d (.appX _ c d' _ _ _ _) => if d' = d ∧ L.findIdx (fun m => m.dst == some c) < L.length then some (L.findIdx fun m => m.dst == some c) else none
  | _ => none

def cmpB (ms : List Nat) (i j : Nat) : Bool := if j < i then (ms.getD i 0).testBit j else if i < j then (ms.getD j 0).testBit i else true

/-- A loud operation may come ahead of another one or behind it. -/
def freeB (ms : List Nat) (L : List MO) (p r : MO × Nat) : Bool :=
  r.1.pur || (!r.1.loud && match locOf L p.1 with | some c => !(ms.getD r.2 0).testBit c && r.2 != c | none => false)

/-- The program's orders are taken as they are checked. -/
def drawB (ops : Array Oper) (L : List MO) : Bool :=
  let ms := masks [] ops.toList
  ops.toList.zipIdx.all (fun p => p.1.after.toList.all fun e => !Region.binds .any e || decide (e.on < p.2)) &&
  L.zipIdx.all fun p => L.zipIdx.all fun r =>
    (match r.1.dst with
     | some t => !(p.1.reads.contains t) || (if r.2 < p.2 then (ms.getD p.2 0).testBit r.2 else if p.2 < r.2 then (ms.getD r.2 0).testBit p.2 else false)
     | none => true) &&
    (!p.1.loud || cmpB ms p.2 r.2 || freeB ms L p r)

def distinctB (L : List MO) : Bool := decide (L.filterMap MO.dst).Nodup

section masks
variable {ops : Array Oper}

theorem mask_fold (acc : List Nat) (i : Nat) (o : Oper) (hi : ops[i]? = some o) (hacc : ∀ k j, (acc.getD k 0).testBit j = true → Dp ops k j) :
    ∀ (es : List Edge) (m : Nat), (∀ e ∈ es, e ∈ o.after) → (∀ j, m.testBit j = true → Dp ops i j) →
      ∀ j, (es.foldl (fun m e => if Region.binds .any e = true then m ||| 2 ^ e.on ||| acc.getD e.on 0 else m) m).testBit j = true → Dp ops i j
  | [], m, _, hm, j, h => hm j h
  | e :: es, m, he, hm, j, h => by
    simp only [List.foldl_cons] at h
    refine mask_fold acc i o hi hacc es _ (fun e' h' => he e' (by simp [h'])) ?_ j h
    intro k hk
    split at hk
    · rename_i hb
      rw [Nat.testBit_or, Nat.testBit_or, Bool.or_eq_true, Bool.or_eq_true] at hk
      rcases hk with (hk | hk) | hk
      · exact hm k hk
      · rw [Nat.testBit_two_pow] at hk
        simp at hk
        subst hk
        exact .one hi (he e (by simp)) hb
      · exact .step hi (he e (by simp)) hb (hacc _ _ hk)
    · exact hm k hk

theorem masks_ok : ∀ (os : List Oper) (acc : List Nat), (∀ k j, (acc.getD k 0).testBit j = true → Dp ops k j) → (∀ i o, os[i]? = some o → ops[acc.length + i]? = some o) →
    ∀ k j, ((masks acc os).getD k 0).testBit j = true → Dp ops k j
  | [], acc, h, _, k, j, hk => h k j hk
  | o :: os, acc, h, hos, k, j, hk => by
    simp only [masks] at hk
    refine masks_ok os (acc ++ [mask acc o]) ?_ ?_ k j hk
    · intro k j hk
      rw [List.getD_eq_getElem?_getD, List.getElem?_append] at hk
      split at hk
      · exact h k j (by rw [List.getD_eq_getElem?_getD]; exact hk)
      · rename_i hlt
        by_cases he : k = acc.length
        · subst he
          simp at hk
          have h0 := hos 0 o (by simp)
          exact mask_fold acc _ o (by simpa using h0) h o.after.toList 0 (fun e he => by simpa using he) (by simp) j hk
        · have : k - acc.length = (k - acc.length - 1) + 1 := by omega
          rw [this] at hk
          simp at hk
    · intro i o' ho
      have := hos (i + 1) o' (by simpa using ho)
      simp only [List.length_append, List.length_cons, List.length_nil]
      rw [show acc.length + (0 + 1) + i = acc.length + (i + 1) by omega]; exact this

theorem Dp.trans {i j k : Nat} (h : Dp ops i j) (h' : Dp ops j k) : Dp ops i k := by
  induction h with
  | one h1 h2 h3 => exact .step h1 h2 h3 h'
  | step h1 h2 h3 _ ih => exact .step h1 h2 h3 (ih h')

theorem Dp.lt (hb : ∀ i o e, ops[i]? = some o → e ∈ o.after → Region.binds .any e = true → e.on < i) {i j : Nat} (h : Dp ops i j) : j < i := by
  induction h with
  | one h1 h2 h3 => exact hb _ _ _ h1 h2 h3
  | step h1 h2 h3 _ ih => exact Nat.lt_trans ih (hb _ _ _ h1 h2 h3)

theorem mask_has (acc : List Nat) : ∀ (es : List Edge) (m : Nat) (j : Nat), (m.testBit j = true ∨ ∃ e ∈ es, Region.binds .any e = true ∧ (e.on = j ∨ (acc.getD e.on 0).testBit j = true)) →
    (es.foldl (fun m e => if Region.binds .any e = true then m ||| 2 ^ e.on ||| acc.getD e.on 0 else m) m).testBit j = true
  | [], m, j, h => by
    rcases h with h | ⟨e, he, _⟩
    · exact h
    · cases he
  | e :: es, m, j, h => by
    simp only [List.foldl_cons]
    refine mask_has acc es _ j ?_
    rcases h with h | ⟨e', he', hb, h⟩
    · left
      split
      · rw [Nat.testBit_or, Nat.testBit_or, h]; rfl
      · exact h
    · rcases List.mem_cons.1 he' with rfl | he'
      · left
        rw [if_pos hb, Nat.testBit_or, Nat.testBit_or, Nat.testBit_two_pow]
        rcases h with rfl | h
        · simp
        · rw [h]; simp
      · exact .inr ⟨e', he', hb, h⟩

theorem masks_pre : ∀ (os : List Oper) (acc : List Nat) (k : Nat), k < acc.length → (masks acc os).getD k 0 = acc.getD k 0
  | [], acc, k, h => rfl
  | o :: os, acc, k, h => by
    simp only [masks]
    rw [masks_pre os _ k (by simp; omega)]
    simp [List.getD_eq_getElem?_getD, List.getElem?_append_left h]

theorem masks_at : ∀ (os : List Oper) (acc : List Nat) (i : Nat) (o : Oper), os[i]? = some o → ∃ acc', (masks acc os).getD (acc.length + i) 0 = mask acc' o ∧ ∀ k, k < acc.length + i → acc'.getD k 0 = (masks acc os).getD k 0
  | [], acc, i, o, h => by simp at h
  | o' :: os, acc, 0, o, h => by
    simp at h; subst h
    refine ⟨acc, ?_, fun k hk => (masks_pre (o' :: os) acc k (by simpa using hk)).symm⟩
    simp only [masks]
    rw [Nat.add_zero, masks_pre os _ _ (by simp)]
    simp [List.getD_eq_getElem?_getD]
  | o' :: os, acc, i + 1, o, h => by
    obtain ⟨acc', h1, h2⟩ := masks_at os (acc ++ [mask acc o']) i o (by simpa using h)
    simp only [List.length_append, List.length_cons, List.length_nil] at h1 h2
    simp only [masks]
    rw [show acc.length + (i + 1) = acc.length + (0 + 1) + i by omega]
    exact ⟨acc', h1, h2⟩

theorem masks_all (hb : ∀ (i : Nat) (o : Oper) (e : Edge), ops[i]? = some o → e ∈ o.after → Region.binds .any e = true → e.on < i) {i j : Nat} (h : Dp ops i j) : ((masks [] ops.toList).getD i 0).testBit j = true := by
  induction h with
  | one h1 h2 h3 =>
    rename_i i o e
    obtain ⟨acc, q1, q2⟩ := masks_at ops.toList [] i o (by simpa using h1)
    simp only [List.length_nil, Nat.zero_add] at q1 q2
    rw [q1]
    exact mask_has acc _ 0 _ (.inr ⟨e, by simpa using h2, h3, .inl rfl⟩)
  | step h1 h2 h3 _ ih =>
    rename_i i k o e _
    obtain ⟨acc, q1, q2⟩ := masks_at ops.toList [] i o (by simpa using h1)
    simp only [List.length_nil, Nat.zero_add] at q1 q2
    rw [q1]
    exact mask_has acc _ 0 _ (.inr ⟨e, by simpa using h2, h3, .inr (by rw [q2 _ (hb i o e h1 h2 h3)]; exact ih)⟩)
end masks

/-- What the checks say. -/
structure Chk (ops : Array Oper) (L : List MO) : Prop where
  len : L.length = ops.size
  back : ∀ (i : Nat) (o : Oper) (e : Edge), ops[i]? = some o → e ∈ o.after → Region.binds .any e = true → e.on < i
  reads : ∀ (i j : Nat) (mo mo' : MO) (t : Nat), L[i]? = some mo → L[j]? = some mo' → t ∈ mo.reads → mo'.dst = some t → i ≠ j ∧ (j < i → Dp ops i j) ∧ (i < j → Dp ops j i)
  loud : ∀ (i j : Nat) (mo mo' : MO), L[i]? = some mo → L[j]? = some mo' → mo.loud = true → mo'.pur = true ∨ ((j < i → Dp ops i j) ∧ (i < j → Dp ops j i)) ∨ (mo'.loud = false ∧ ∃ c, locOf L mo = some c ∧ j ≠ c ∧ ¬ Dp ops j c)
  one : ∀ (i j : Nat) (mo mo' : MO) (t : Nat), L[i]? = some mo → L[j]? = some mo' → mo.dst = some t → mo'.dst = some t → i = j
  small : ∀ (i : Nat) (mo : MO) (t : Nat), L[i]? = some mo → mo.dst = some t → t < 1024

theorem news_one {ops : Array Oper} {L : List MO} (hk : Chk ops L) {i j : Nat} {mo mo' : MO} {k nx : Nat} (hi : L[i]? = some mo) (hj : L[j]? = some mo') (h : news mo nx k) (h' : news mo' nx k) : i = j := by
  obtain ⟨d, h1, a, h2, h3⟩ := h
  obtain ⟨d', h1', a', h2', h3'⟩ := h'
  have := hk.small i mo d hi h1
  have := hk.small j mo' d' hj h1'
  have : d = d' := by omega
  subst this
  exact hk.one i j mo mo' d hi hj h1 h1'
end Go.AM
/- A region whose order is drawn: what is done is told by which operations are done. -/
set_option linter.all false
namespace Go.AM
open Go
variable [dr : Inhabited Prop]

def putD (mo : MO) (x : AV) (E : Env) : Env := match mo.dst with | some d => (d, x) :: E | none => E

theorem find_putD {mo : MO} {x : AV} {E : Env} (t : Nat) : find (putD mo x E) t = if mo.dst = some t then some x else find E t := by
  unfold putD
  cases h : mo.dst with
  | none => simp
  | some d =>
    simp only [find_cons, Option.some.injEq]
    by_cases e : t = d
    · subst e; simp
    · rw [if_neg e, if_neg (Ne.symm e)]

/-- The last number that has a property. -/
theorem last_of {p : Nat → Prop} : ∀ (n : Nat), (∃ q, q < n ∧ p q) → ∃ q, q < n ∧ p q ∧ ∀ q', q' < n → p q' → q' ≤ q
  | 0, h => by obtain ⟨q, h, _⟩ := h; omega
  | n + 1, h => by
    by_cases hn : p n
    · exact ⟨n, by omega, hn, fun q' h _ => by omega⟩
    · obtain ⟨q, h1, h2⟩ := h
      have : q < n := by
        rcases Nat.lt_or_ge q n with g | g
        · exact g
        · exact (hn (by rwa [show n = q by omega])).elim
      obtain ⟨q, g1, g2, g3⟩ := last_of n ⟨q, this, h2⟩
      refine ⟨q, by omega, g2, fun q' h h' => ?_⟩
      rcases Nat.lt_or_ge q' n with g | g
      · exact g3 q' g h'
      · exact (hn (by rwa [show n = q' by omega])).elim

/-- What the operations of a region do: X the values, U the rows that they change, nm the rows that they look at. -/
structure Plan (P : Program) (ops : Array Oper) (L : List MO) (S : Nat → St) (X : Nat → AV) (U nm : Nat → Nat → Prop) (nx : Nat) : Prop where
  nxs : ∀ i, i ≤ L.length → (S i).nx = nx
  env : ∀ i mo, L[i]? = some mo → (S (i + 1)).env = putD mo (X i) (S i).env
  keep : ∀ i mo, L[i]? = some mo → ∀ k, ¬ U i k → find (S (i + 1)).heap k = find (S i).heap k
  sep : ∀ p q mp mq k, L[p]? = some mp → L[q]? = some mq → nm p k → U q k → p ≠ q → (q < p → Dp ops p q) ∧ (p < q → Dp ops q p)
  last : ∀ p q mp mq k, L[p]? = some mp → L[q]? = some mq → U p k → U q k → p < q → Dp ops q p
  step : ∀ i mo, L[i]? = some mo → ∀ s : St, s.nx = nx → (∀ t ∈ mo.reads, find s.env t = find (S i).env t) → (∀ k, nm i k → find s.heap k = find (S i).heap k) →
    ∃ (s0 s1 : St) (q : Bool), s0.env = s.env ∧ (∀ k, find s0.heap k = find s.heap k) ∧ s0.nx = nx ∧ AStep P q s0 mo s1 ∧ s1.nx = nx ∧ s1.env = putD mo (X i) s.env ∧
      (∀ k, U i k → find s1.heap k = find (S (i + 1)).heap k) ∧ (∀ k, ¬ U i k → find s1.heap k = find s.heap k)

/-- A state in which the operations D are done. -/
structure Is (L : List MO) (S : Nat → St) (X : Nat → AV) (U : Nat → Nat → Prop) (D : Nat → Prop) (s : St) : Prop where
  lt : ∀ i, D i → i < L.length
  e1 : ∀ t i mo, L[i]? = some mo → mo.dst = some t → D i → find s.env t = some (X i)
  e2 : ∀ t, (∀ i mo, L[i]? = some mo → mo.dst = some t → ¬ D i) → find s.env t = find (S 0).env t
  h1 : ∀ k p, D p → U p k → (∀ q, D q → U q k → q ≤ p) → find s.heap k = find (S (p + 1)).heap k
  h2 : ∀ k, (∀ p, D p → ¬ U p k) → find s.heap k = find (S 0).heap k

section plan
variable {P : Program} {ops : Array Oper} {L : List MO} {S : Nat → St} {X : Nat → AV} {U nm : Nat → Nat → Prop} {nx : Nat} {D D' : Nat → Prop} {s s' : St}

theorem Is.env_eq (h : Is L S X U D s) (h' : Is L S X U D' s') {t : Nat} (hd : ∀ i mo, L[i]? = some mo → mo.dst = some t → (D i ↔ D' i)) : find s.env t = find s'.env t := by
  by_cases hex : ∃ i mo, L[i]? = some mo ∧ mo.dst = some t ∧ D i
  · obtain ⟨i, mo, h1, h2, h3⟩ := hex
    rw [h.e1 t i mo h1 h2 h3, h'.e1 t i mo h1 h2 ((hd i mo h1 h2).1 h3)]
  · rw [h.e2 t fun i mo h1 h2 h3 => hex ⟨i, mo, h1, h2, h3⟩, h'.e2 t fun i mo h1 h2 h3 => hex ⟨i, mo, h1, h2, (hd i mo h1 h2).2 h3⟩]

theorem Is.heap_eq (h : Is L S X U D s) (h' : Is L S X U D' s') {k : Nat} (hd : ∀ i, i < L.length → U i k → (D i ↔ D' i)) : find s.heap k = find s'.heap k := by
  by_cases hex : ∃ p, p < L.length ∧ D p ∧ U p k
  · obtain ⟨p, _, ⟨h1, h2⟩, h3⟩ := last_of (p := fun p => D p ∧ U p k) L.length hex
    rw [h.h1 k p h1 h2 fun q g1 g2 => h3 q (h.lt q g1) ⟨g1, g2⟩, h'.h1 k p ((hd p (h.lt p h1) h2).1 h1) h2 fun q g1 g2 => h3 q (h'.lt q g1) ⟨(hd q (h'.lt q g1) g2).2 g1, g2⟩]
  · rw [h.h2 k fun p g1 g2 => hex ⟨p, h.lt p g1, g1, g2⟩, h'.h2 k fun p g1 g2 => hex ⟨p, h'.lt p g1, (hd p (h'.lt p g1) g2).2 g1, g2⟩]

/-- The states of the region in its own order. -/
theorem Is.canon (hk : Chk ops L) (hp : Plan P ops L S X U nm nx) : ∀ (p : Nat), p ≤ L.length → Is L S X U (· < p) (S p)
  | 0, _ => ⟨fun i h => by omega, fun t i mo _ _ h => by omega, fun t _ => rfl, fun k p h => by omega, fun k _ => rfl⟩
  | p + 1, hle => by
    have ih := Is.canon hk hp p (by omega)
    have hL : L[p]? = some L[p] := List.getElem?_eq_getElem (by omega)
    have henv := hp.env p L[p] hL
    have hkeep := hp.keep p L[p] hL
    refine ⟨fun i h => by omega, ?_, ?_, ?_, ?_⟩
    · intro t i mo h1 h2 h3
      rw [henv, find_putD]
      by_cases hd : (L[p]).dst = some t
      · have := hk.one i p mo L[p] t h1 hL h2 hd
        subst this
        rw [if_pos hd]
      · rw [if_neg hd]
        have : i ≠ p := by
          rintro rfl
          rw [hL] at h1; cases h1
          exact hd h2
        exact ih.e1 t i mo h1 h2 (by omega)
    · intro t h
      rw [henv, find_putD, if_neg fun hd => h p L[p] hL hd (by omega)]
      exact ih.e2 t fun i mo h1 h2 h3 => h i mo h1 h2 (by omega)
    · intro k q h1 h2 h3
      by_cases e : q = p
      · subst e; rfl
      · rw [hkeep k fun hu => by have := h3 p (by omega) hu; omega]
        exact ih.h1 k q (by omega) h2 fun q' g1 g2 => h3 q' (by omega) g2
    · intro k h
      rw [hkeep k (h p (by omega))]
      exact ih.h2 k fun q g => h q (by omega)

/-- One more is done. -/
theorem Is.next (hk : Chk ops L) (hp : Plan P ops L S X U nm nx) (h : Is L S X U D s) (hnx : s.nx = nx) {i : Nat} {mo : MO} (hi : L[i]? = some mo) (hni : ¬ D i) (hcl : ∀ j k, D j → Dp ops j k → D k) (hr : ∀ k, Dp ops i k → D k) :
    ∃ (s0 s1 : St) (q : Bool), s0.env = s.env ∧ (∀ k, find s0.heap k = find s.heap k) ∧ s0.nx = nx ∧ AStep P q s0 mo s1 ∧ s1.nx = nx ∧ Is L S X U (fun j => D j ∨ j = i) s1 := by
  have hil : i < L.length := (List.getElem?_eq_some_iff.1 hi).1
  have hc := Is.canon hk hp i (by omega)
  obtain ⟨s0, s1, q, g1, g2, g3, g4, g5, g6, g7, g8⟩ := hp.step i mo hi s hnx
    (fun t ht => h.env_eq hc fun j mj hj hd => by
      obtain ⟨r1, r2, r3⟩ := hk.reads i j mo mj t hi hj ht hd
      constructor
      · intro hdj
        rcases Nat.lt_or_ge j i with hlt | hge
        · exact hlt
        · exact (hni (hcl j i hdj (r3 (by omega)))).elim
      · intro hlt; exact hr j (r2 hlt))
    (fun k hn => h.heap_eq hc fun j hj hu => by
      constructor
      · intro hdj
        rcases Nat.lt_or_ge j i with hlt | hge
        · exact hlt
        · have hne : i ≠ j := by rintro rfl; exact hni hdj
          exact (hni (hcl j i hdj ((hp.sep i j mo L[j] k hi (List.getElem?_eq_getElem hj) hn hu hne).2 (by omega)))).elim
      · intro hlt; exact hr j ((hp.sep i j mo L[j] k hi (List.getElem?_eq_getElem hj) hn hu (by omega)).1 hlt))
  refine ⟨s0, s1, q, g1, g2, g3, g4, g5, ?_, ?_, ?_, ?_, ?_⟩
  · rintro j (hj | rfl)
    · exact h.lt j hj
    · exact hil
  · intro t j mj h1 h2 h3
    rw [g6, find_putD]
    by_cases hd : mo.dst = some t
    · have := hk.one j i mj mo t h1 hi h2 hd
      subst this
      rw [if_pos hd]
    · rw [if_neg hd]
      refine h.e1 t j mj h1 h2 (h3.resolve_right ?_)
      rintro rfl
      rw [hi] at h1; cases h1
      exact hd h2
  · intro t hn
    rw [g6, find_putD, if_neg fun hd => hn i mo hi hd (.inr rfl)]
    exact h.e2 t fun j mj h1 h2 h3 => hn j mj h1 h2 (.inl h3)
  · intro k p h1 h2 h3
    by_cases hu : U i k
    · have hip := h3 i (.inr rfl) hu
      have : p = i := by
        rcases h1 with h1 | h1
        · rcases Nat.lt_or_ge i p with hlt | hge
          · have hpl := h.lt p h1
            exact (hni (hcl p i h1 (hp.last i p mo L[p] k hi (List.getElem?_eq_getElem hpl) hu h2 hlt))).elim
          · omega
        · exact h1
      subst this
      exact g7 k hu
    · rw [g8 k hu]
      have hpd : D p := h1.resolve_right (by rintro rfl; exact hu h2)
      exact h.h1 k p hpd h2 fun q r1 r2 => h3 q (.inl r1) r2
  · intro k hn
    rw [g8 k (hn i (.inr rfl))]
    exact h.h2 k fun p hp' => hn p (.inl hp')

theorem ready_nil {ops : Array Oper} {listed : Array Bool} (hb : ∀ (i : Nat) (o : Oper) (e : Edge), ops[i]? = some o → e ∈ o.after → Region.binds .any e = true → e.on < i) (hsz : listed.size = ops.size) (h : Region.ready .any ops listed = []) :
    ∀ i, i < ops.size → listed.getD i false = true := by
  intro i
  induction i using Nat.strongRecOn with
  | ind i ih =>
    intro hi
    cases hx : listed.getD i false with
    | true => rfl
    | false =>
      exfalso
      have hmem : i ∈ Region.ready .any ops listed := by
        rw [mem_ready]
        refine ⟨?_, ops[i], Array.getElem?_eq_getElem hi, fun e he hbe => ?_⟩
        · have hlt : i < listed.size := by omega
          simp only [Array.getD_eq_getD_getElem?, Array.getElem?_eq_getElem hlt, Option.getD_some] at hx ⊢
          exact hx
        · have := hb i ops[i] e (Array.getElem?_eq_getElem hi) he hbe
          exact ih e.on this (by omega)
      rw [h] at hmem
      cases hmem
end plan

/-- How many are done. -/
def cnt (listed : Array Bool) (n : Nat) : Nat := ((List.range n).filter fun i => listed.getD i false).length

section draw
variable {P : Program} {C : Cx} {n : Nat} {ows : List Nat} {ops : Array Oper} {Q : Exit → Act → World → Prop} {L : List MO} {S : Nat → St} {X : Nat → AV} {U nm : Nat → Nat → Prop} {nx : Nat}

theorem filter_one {p q : Nat → Bool} {i : Nat} : ∀ (l : List Nat), l.Nodup → i ∈ l → p i = false → q i = true → (∀ j, j ≠ i → q j = p j) → (l.filter q).length = (l.filter p).length + 1
  | [], _, h, _, _, _ => by cases h
  | x :: l, hn, h, h1, h2, h3 => by
    obtain ⟨hx, hn⟩ := List.nodup_cons.1 hn
    by_cases e : x = i
    · subst e
      have : l.filter q = l.filter p := List.filter_congr fun j hj => h3 j (by rintro rfl; exact hx hj)
      simp [List.filter_cons, h1, h2, this]
    · have hm : i ∈ l := (List.mem_cons.1 h).resolve_left (Ne.symm e)
      have ih := filter_one l hn hm h1 h2 h3
      simp only [List.filter_cons, h3 x e]
      split
      · simp [ih]
      · exact ih

theorem draw_any (hL : ∀ (i : Nat) (o : Oper), ops[i]? = some o → ∃ mo, L[i]? = some mo ∧ cO P ows n ops o = some mo) (hk : Chk ops L) (hp : Plan P ops L S X U nm nx)
    (hQ : ∀ a' W' hdr' ow' (F' : Nat → Prop), RelAt C n F' (S L.length) a' W' hdr' ow' → (∀ k, F' k → k < nx ∨ ∃ (i : Nat) (mo : MO), L[i]? = some mo ∧ news mo nx k) → Q .normal a' W') :
    ∀ (fuel : Nat) (listed : Array Bool) (a : Act) (W : World) (F : Nat → Prop) (hdr : Nat → Value) (ow : Nat → Option Nat) (s : St),
      listed.size = ops.size → s.nx = nx → Is L S X U (fun i => listed.getD i false = true) s → (∀ j k, listed.getD j false = true → Dp ops j k → listed.getD k false = true) → RelAt C n F s a W hdr ow →
      (∀ k, F k → k < nx ∨ ∃ (i : Nat) (mo : MO), L[i]? = some mo ∧ listed.getD i false = true ∧ news mo nx k) → fuel + cnt listed ops.size = ops.size → wpAny P .any ops Q fuel listed a W := by
  have hlen := hk.len
  have fin : ∀ (listed : Array Bool) (a : Act) (W : World) (F : Nat → Prop) (hdr : Nat → Value) (ow : Nat → Option Nat) (s : St), s.nx = nx → Is L S X U (fun i => listed.getD i false = true) s → RelAt C n F s a W hdr ow →
      (∀ k, F k → k < nx ∨ ∃ (i : Nat) (mo : MO), L[i]? = some mo ∧ listed.getD i false = true ∧ news mo nx k) → (∀ i, i < ops.size → listed.getD i false = true) → Q .normal a W := by
    intro listed a W F hdr ow s hnx hI r hF hall
    have hc := Is.canon hk hp L.length (Nat.le_refl _)
    have hD : ∀ i, i < L.length → (i < L.length ↔ listed.getD i false = true) := fun i hi => ⟨fun _ => hall i (by omega), fun _ => hi⟩
    refine hQ a W hdr ow F ?_ fun k hk' => ?_
    · refine r.congr (E := (S L.length).env) (H := (S L.length).heap) (m := (S L.length).nx) (fun t x hx => ?_) fun k => ?_
      · rw [← hx]
        exact (hc.env_eq hI fun i mo h1 h2 => hD i (List.getElem?_eq_some_iff.1 h1).1).symm
      · exact hc.heap_eq hI fun i h1 h2 => hD i h1
    · rcases hF k hk' with h | ⟨i, mo, h1, _, h2⟩
      · exact .inl h
      · exact .inr ⟨i, mo, h1, h2⟩
  intro fuel
  induction fuel with
  | zero =>
    intro listed a W F hdr ow s hsz hnx hI hcl r hF hcnt
    have hall : ∀ i, i < ops.size → listed.getD i false = true := by
      intro i hi
      have h1 : ((List.range ops.size).filter fun i => listed.getD i false).length = (List.range ops.size).length := by
        simp only [cnt, Nat.zero_add] at hcnt
        rw [hcnt, List.length_range]
      rw [List.length_filter_eq_length_iff] at h1
      exact h1 i (List.mem_range.2 hi)
    refine ⟨?_, fin listed a W F hdr ow s hnx hI r hF hall⟩
    apply List.eq_nil_iff_forall_not_mem.2
    intro i hi
    rw [mem_ready] at hi
    obtain ⟨h0, o, ho, _⟩ := hi
    have hlt := (Array.getElem?_eq_some_iff.1 ho).1
    have h1 := hall i hlt
    have hlt2 : i < listed.size := by omega
    simp only [Array.getD_eq_getD_getElem?, Array.getElem?_eq_getElem hlt2, Option.getD_some] at h0 h1
    rw [h0] at h1; cases h1
  | succ fuel ih =>
    intro listed a W F hdr ow s hsz hnx hI hcl r hF hcnt
    refine ⟨fun hready => fin listed a W F hdr ow s hnx hI r hF (ready_nil hk.back hsz hready), fun i hi => ?_⟩
    rw [mem_ready] at hi
    obtain ⟨h0, o, ho, hedges⟩ := hi
    have hlt := (Array.getElem?_eq_some_iff.1 ho).1
    have hlt2 : i < listed.size := by omega
    have hnl : listed.getD i false = false := by
      simp only [Array.getD_eq_getD_getElem?, Array.getElem?_eq_getElem hlt2, Option.getD_some] at h0 ⊢
      exact h0
    obtain ⟨mo, hmo, hcO⟩ := hL i o ho
    have hr : ∀ k, Dp ops i k → listed.getD k false = true := by
      intro k hdp
      cases hdp with
      | one h1 h2 h3 =>
        rw [ho] at h1; cases h1
        exact hedges _ h2 h3
      | step h1 h2 h3 h4 =>
        rw [ho] at h1; cases h1
        exact hcl _ k (hedges _ h2 h3) h4
    obtain ⟨s0, s1, q, g1, g2, g3, g4, g5, g6⟩ := Is.next hk hp hI hnx hmo (by simp only [hnl]; exact Bool.false_ne_true) hcl hr
    have hset : ∀ j, ((listed.setIfInBounds i true).getD j false = true ↔ listed.getD j false = true ∨ j = i) := by
      intro j
      by_cases hji : j = i
      · subst hji; simp [hlt2]
      · rw [getD_set_ne false (Ne.symm hji)]; simp [hji]
    have r0 : RelAt C n F s0 a W hdr ow := by
      have := r.congr (E := s0.env) (H := s0.heap) (m := s0.nx) (fun t x hx => by rw [← g1]; exact hx) g2
      exact this
    have hfr : ∀ k, news mo nx k → ¬ F k := by
      intro k hn hFk
      rcases hF k hFk with h | ⟨j, moj, h1, h2, h3⟩
      · obtain ⟨d, _, b, _, e⟩ := hn; omega
      · have := news_one hk hmo h1 hn h3
        subst this
        rw [hnl] at h2; cases h2
    refine step_ok (ows := ows) g4 ho hcO r0 (by rw [g3]; exact hfr) ?_
    intro a' W' hdr' ow' r'
    rw [g3] at r'
    refine ih (listed.setIfInBounds i true) a' W' _ hdr' ow' s1 (by simpa using hsz) g5 ?_ ?_ r' ?_ ?_
    · have e : (fun j => (listed.setIfInBounds i true).getD j false = true) = fun j => listed.getD j false = true ∨ j = i := funext fun j => propext (hset j)
      rw [e]; exact g6
    · intro j k hj hd
      rw [hset] at hj ⊢
      rcases hj with hj | rfl
      · exact .inl (hcl j k hj hd)
      · exact .inl (hr k hd)
    · intro k hk'
      rcases hk' with h | h
      · rcases hF k h with h | ⟨j, moj, h1, h2, h3⟩
        · exact .inl h
        · exact .inr ⟨j, moj, h1, (hset j).2 (.inl h2), h3⟩
      · exact .inr ⟨i, mo, hmo, (hset i).2 (.inr rfl), h⟩
    · have : cnt (listed.setIfInBounds i true) ops.size = cnt listed ops.size + 1 := by
        unfold cnt
        exact filter_one (i := i) _ List.nodup_range (List.mem_range.2 hlt) hnl (by simp [hlt2]) fun j hj => by rw [getD_set_ne false (Ne.symm hj)]
      omega
end draw
end Go.AM
/- The code: what it runs through, and where it ends. -/
set_option linter.all false
namespace Go.AM
open Go
variable [dr : Inhabited Prop]

/-- The operations of a region, one by one. -/
inductive RChain (P : Program) (q : Bool) : St → List MO → St → Prop
  | nil {s : St} : RChain P q s [] s
  | cons {s s1 s2 : St} {mo : MO} {L : List MO} : AStep P (q && !mo.loud) s mo s1 → RChain P q s1 L s2 → RChain P q s (mo :: L) s2

section region
variable {P : Program} {C : Cx} {n : Nat} {F : Nat → Prop} {s s' : St} {a : Act} {W : World} {hdr : Nat → Value} {ow : Nat → Option Nat} {ows : List Nat} {ops : Array Oper} {Q : Exit → Act → World → Prop} {L : List MO}

theorem toListLen (ops : Array Oper) : ops.toList.length = ops.size := Array.length_toList

theorem mapO_get {α β : Type} {f : α → Option β} : ∀ {l : List α} {r : List β}, mapO f l = some r → r.length = l.length ∧ ∀ (i : Nat) (x : α), l[i]? = some x → ∃ y, r[i]? = some y ∧ f x = some y
  | [], r, h => by simp [mapO] at h; subst h; simp
  | x :: l, r, h => by
    simp only [mapO] at h
    split at h
    · rename_i y ys h1 h2
      cases h
      obtain ⟨g1, g2⟩ := mapO_get h2
      refine ⟨by simp [g1], fun i z hz => ?_⟩
      cases i with
      | zero => simp at hz; subst hz; exact ⟨y, by simp, h1⟩
      | succ i => simp at hz; simpa using g2 i z hz
    · cases h

theorem chain_nx {q : Bool} {s s' : St} {L : List MO} (h : RChain P q s L s') : s'.nx = s.nx := by
  induction h with
  | nil => rfl
  | cons h1 _ ih => rw [ih]; exact step_nx h1

theorem chain_states {q : Bool} {s s' : St} {L : List MO} (h : RChain P q s L s') : ∃ S : Nat → St, S 0 = s ∧ S L.length = s' ∧ (∀ i, i ≤ L.length → (S i).nx = s.nx) ∧ ∀ (i : Nat) (mo : MO), L[i]? = some mo → AStep P (q && !mo.loud) (S i) mo (S (i + 1)) := by
  induction h with
  | nil => rename_i s; exact ⟨fun _ => s, rfl, rfl, fun _ _ => rfl, fun i mo h => by simp at h⟩
  | cons h1 h2 ih =>
    rename_i s s1 s2 mo L
    obtain ⟨S, g1, g2, g3, g4⟩ := ih
    refine ⟨fun i => match i with | 0 => s | i + 1 => S i, rfl, g2, fun i hi => ?_, fun i mo' h => ?_⟩
    · cases i with
      | zero => rfl
      | succ i => simp only; rw [g3 i (by simp at hi; omega)]; exact step_nx h1
    · cases i with
      | zero => simp at h; subst h; simp only; rw [g1]; exact h1
      | succ i => simp at h; exact g4 i mo' h

theorem news_lt {mo : MO} {nx k : Nat} (h : news mo nx k) (hs : ∀ t, mo.dst = some t → t < 1024) : nx ≤ k ∧ k < nx + 8192 := by
  obtain ⟨d, h1, j, h2, rfl⟩ := h
  have := hs d h1
  omega

theorem cO_small {o : Oper} {mo : MO} (h : cO P ows n ops o = some mo) : ∀ t, mo.dst = some t → t < 1024 := by
  intro t ht
  unfold cO at h
  split at h
  · cases h
  · split at h
    · split at h
      · rename_i hh
        split at h
        · cases h; simp [MO.dst] at ht; subst ht; exact hh.2.1
        · cases h
      · cases h
    · split at h
      · rename_i hh
        split at h
        · cases h; simp [MO.dst] at ht; subst ht; exact hh.2.1
        · cases h
      · cases h
    · obtain ⟨m, _, rfl⟩ := Option.map_eq_some_iff.1 h
      simp [MO.dst] at ht
    · obtain ⟨m, _, rfl⟩ := Option.map_eq_some_iff.1 h
      simp [MO.dst] at ht
    · split at h
      · rename_i hh
        obtain ⟨m, _, rfl⟩ := Option.map_eq_some_iff.1 h
        simp [MO.dst] at ht; subst ht; exact hh.2
      · cases h
    · split at h
      · cases h; simp [MO.dst] at ht; omega
      · cases h

theorem distinct_one (h : distinctB L = true) : ∀ (i j : Nat) (mo mo' : MO) (t : Nat), L[i]? = some mo → L[j]? = some mo' → mo.dst = some t → mo'.dst = some t → i = j := by
  have key : ∀ (l : List MO), (l.filterMap MO.dst).Nodup → ∀ (i j : Nat) (mo mo' : MO) (t : Nat), l[i]? = some mo → l[j]? = some mo' → mo.dst = some t → mo'.dst = some t → i = j := by
    intro l
    induction l with
    | nil => intro _ i j mo mo' t h; simp at h
    | cons x l ih =>
      intro hn i j mo mo' t hi hj hd hd'
      have hmem : ∀ (k : Nat) (m : MO), l[k]? = some m → m.dst = some t → t ∈ l.filterMap MO.dst := fun k m hk hm => List.mem_filterMap.2 ⟨m, List.mem_of_getElem? hk, hm⟩
      have hn' : (l.filterMap MO.dst).Nodup := by
        rw [List.filterMap_cons] at hn
        split at hn
        · exact hn
        · exact (List.nodup_cons.1 hn).2
      have hno : ∀ {m : MO}, x.dst = some t → ∀ k, l[k]? = some m → m.dst = some t → False := fun hx k hk hm => by
        rw [List.filterMap_cons, hx] at hn
        exact (List.nodup_cons.1 hn).1 (hmem k _ hk hm)
      cases i with
      | zero =>
        cases j with
        | zero => rfl
        | succ j => simp at hi hj; subst hi; exact (hno hd j hj hd').elim
      | succ i =>
        cases j with
        | zero => simp at hi hj; subst hj; exact (hno hd' i hi hd).elim
        | succ j => simp at hi hj; rw [ih hn' i j mo mo' t hi hj hd hd']
  exact key L (of_decide_eq_true h)

theorem list_ok (hc : mapO (cO P ows n ops) ops.toList = some L) (hd : distinctB L = true) {nx : Nat} (hQ : ∀ a' W' hdr' ow' (F' : Nat → Prop), RelAt C n F' s' a' W' hdr' ow' → (∀ k, F' k → k < nx + 8192) → Q .normal a' W') :
    ∀ (m k : Nat) (s : St) (F : Nat → Prop) (a : Act) (W : World) (hdr : Nat → Value) (ow : Nat → Option Nat), k + m = L.length → s.nx = nx → RChain P false s (L.drop k) s' → RelAt C n F s a W hdr ow →
      (∀ j, F j → j < nx + 8192) → (∀ (i : Nat) (mo : MO), L[i]? = some mo → k ≤ i → ∀ j, news mo nx j → ¬ F j) → wpOps P ops Q (List.range' k m) a W := by
  obtain ⟨hlen, hget⟩ := mapO_get hc
  rw [toListLen] at hlen
  intro m
  induction m with
  | zero =>
    intro k s F a W hdr ow hkm hnx hch r hF hfr
    rw [List.drop_of_length_le (by omega)] at hch
    cases hch
    exact hQ a W hdr ow F r hF
  | succ m ih =>
    intro k s F a W hdr ow hkm hnx hch r hF hfr
    have hkl : k < L.length := by omega
    have hks : k < ops.size := by omega
    rw [List.drop_eq_getElem_cons hkl] at hch
    rw [List.range'_succ, wpOps_cons]
    have ho : ops[k]? = some ops[k] := Array.getElem?_eq_getElem hks
    obtain ⟨mo, h1, h2⟩ := hget k ops[k] (by rw [Array.getElem?_toList]; exact ho)
    rw [List.getElem?_eq_getElem hkl] at h1
    cases h1
    cases hch with
    | cons hst hrest =>
      rename_i s1
      rw [Bool.false_and] at hst
      have hmo : L[k]? = some L[k] := List.getElem?_eq_getElem hkl
      refine step_ok (ows := ows) hst ho h2 r (by rw [hnx]; exact hfr k L[k] hmo (Nat.le_refl _)) ?_
      intro a' W' hdr' ow' r'
      rw [hnx] at r'
      refine ih (k + 1) s1 _ a' W' hdr' ow' (by omega) ((step_nx hst).trans hnx) hrest r' ?_ ?_
      · rintro j (h | h)
        · exact hF j h
        · exact (news_lt h (cO_small h2)).2
      · intro i moi hi hki j hnj hF'
        rcases hF' with h | h
        · exact hfr i moi hi (by omega) j hnj h
        · obtain ⟨d, q1, x, q2, q3⟩ := hnj
          obtain ⟨d', q1', x', q2', q3'⟩ := h
          obtain ⟨oi, hoi⟩ : ∃ o, ops.toList[i]? = some o := by
            have := (List.getElem?_eq_some_iff.1 hi).1
            exact ⟨_, List.getElem?_eq_getElem (by rw [toListLen]; omega)⟩
          obtain ⟨moi', e1, e2⟩ := hget i oi hoi
          rw [hi] at e1; cases e1
          have s1 := cO_small e2 d q1
          have s2 := cO_small h2 d' q1'
          have : d = d' := by omega
          subst this
          have := distinct_one hd i k moi L[k] d hi hmo q1 q1'
          omega

theorem chk_ok {ops' : Array Oper} (hc : mapO (cO P ows n ops') ops.toList = some L) (hd : distinctB L = true) (hb : drawB ops L = true) : Chk ops L := by
  obtain ⟨hlen, hget⟩ := mapO_get hc
  rw [toListLen] at hlen
  simp only [drawB, Bool.and_eq_true] at hb
  obtain ⟨hb1, hb2⟩ := hb
  have hms : ∀ k j, ((masks [] ops.toList).getD k 0).testBit j = true → Dp ops k j := masks_ok ops.toList [] (by simp) (by intro i o h; simpa using h)
  rw [List.all_eq_true] at hb1 hb2
  have hpair : ∀ (i j : Nat) (mo mo' : MO), L[i]? = some mo → L[j]? = some mo' → _ := fun i j mo mo' hi hj => by
    have h1 := hb2 (mo, i) (by rw [List.mem_zipIdx_iff_getElem?]; exact hi)
    rw [List.all_eq_true] at h1
    have h2 := h1 (mo', j) (by rw [List.mem_zipIdx_iff_getElem?]; exact hj)
    simp only [Bool.and_eq_true] at h2
    exact h2
  have hback : ∀ (i : Nat) (o : Oper) (e : Edge), ops[i]? = some o → e ∈ o.after → Region.binds .any e = true → e.on < i := by
    intro i o e ho he hbe
    have h1 := hb1 (o, i) (by rw [List.mem_zipIdx_iff_getElem?]; simpa using ho)
    rw [List.all_eq_true] at h1
    have h2 := h1 e (by simpa using he)
    simp only [hbe, Bool.not_true, Bool.false_or, decide_eq_true_eq] at h2
    exact h2
  refine ⟨hlen, hback, ?_, ?_, distinct_one hd, ?_⟩
  · intro i j mo mo' t hi hj ht hd'
    have h := (hpair i j mo mo' hi hj).1
    simp only [hd'] at h
    have hcon : mo.reads.contains t = true := by rw [List.contains_iff_mem]; exact ht
    rw [hcon] at h
    simp only [Bool.not_true, Bool.false_or] at h
    by_cases h1 : j < i
    · rw [if_pos h1] at h
      exact ⟨by omega, fun _ => hms i j h, fun h2 => by omega⟩
    · rw [if_neg h1] at h
      by_cases h2 : i < j
      · rw [if_pos h2] at h
        exact ⟨by omega, fun h3 => by omega, fun _ => hms j i h⟩
      · rw [if_neg h2] at h; cases h
  · intro i j mo mo' hi hj hl
    have h := (hpair i j mo mo' hi hj).2
    rw [hl] at h
    simp only [Bool.not_true, Bool.false_or, Bool.or_eq_true] at h
    rcases h with h | h
    · refine .inr (.inl ⟨fun h1 => ?_, fun h1 => ?_⟩)
      · unfold cmpB at h; rw [if_pos h1] at h; exact hms i j h
      · unfold cmpB at h; rw [if_neg (by omega), if_pos h1] at h; exact hms j i h
    · simp only [freeB, Bool.or_eq_true, Bool.and_eq_true, Bool.not_eq_true'] at h
      rcases h with h | ⟨h1, h2⟩
      · exact .inl h
      · split at h2
        · rename_i c hc'
          simp only [Bool.and_eq_true, Bool.not_eq_true', bne_iff_ne, ne_eq] at h2
          exact .inr (.inr ⟨h1, c, hc', h2.2, fun hdp => by rw [masks_all hback hdp] at h2; cases h2.1⟩)
        · cases h2
  · intro i mo t hi ht
    obtain ⟨oi, hoi⟩ : ∃ o, ops.toList[i]? = some o := by
      have := (List.getElem?_eq_some_iff.1 hi).1
      exact ⟨_, List.getElem?_eq_getElem (by rw [toListLen]; omega)⟩
    obtain ⟨moi', e1, e2⟩ := hget i oi hoi
    rw [hi] at e1; cases e1
    exact cO_small e2 t ht

end region

/-! ### What the kinds of operations do -/
section kinds
variable {E E' : Env} {H H2 H' : Heap} {id : Nat} {x : AV}

theorem pur_mval {g : Option (Nat × Bool)} {d : Nat} {m : MOp} (hp : (MO.op g d m).pur = true) (h : mval true E H id m = some (x, H')) : H' = H ∧ ∀ E' H2, (∀ y ∈ m.opds, ev E' y = ev E y) → mval true E' H2 id m = some (x, H2) := by
  cases m with
  | mv y =>
    simp only [mval, Option.map_eq_some_iff, Prod.mk.injEq] at h
    obtain ⟨a, h1, rfl, rfl⟩ := h
    exact ⟨rfl, fun E' H2 he => by simp only [mval, he y (by simp [MOp.opds]), h1]; rfl⟩
  | pick c a b =>
    simp only [mval] at h
    split at h
    · rename_i t ht
      simp only [Option.map_eq_some_iff, Prod.mk.injEq] at h
      obtain ⟨a', h1, rfl, rfl⟩ := h
      refine ⟨rfl, fun E' H2 he => ?_⟩
      simp only [mval, he c (by simp [MOp.opds]), ht]
      cases t
      · simp only [Bool.false_eq_true, if_false] at h1 ⊢; rw [he b (by simp [MOp.opds]), h1]; rfl
      · simp only [if_true] at h1 ⊢; rw [he a (by simp [MOp.opds]), h1]; rfl
    · cases h
  | bin op a b =>
    simp only [mval] at h
    split at h
    · rename_i u v hu hv
      simp only [Option.map_eq_some_iff, Prod.mk.injEq] at h
      obtain ⟨a', h1, rfl, rfl⟩ := h
      exact ⟨rfl, fun E' H2 he => by simp only [mval, he a (by simp [MOp.opds]), he b (by simp [MOp.opds]), hu, hv, h1]; rfl⟩
    · cases h
  | un op a =>
    simp only [mval] at h
    split at h
    · rename_i u hu
      simp only [Option.map_eq_some_iff, Prod.mk.injEq] at h
      obtain ⟨a', h1, rfl, rfl⟩ := h
      exact ⟨rfl, fun E' H2 he => by simp only [mval, he a (by simp [MOp.opds]), hu, h1]; rfl⟩
    · cases h
  | eqb ng a b =>
    simp only [mval] at h
    split at h
    · rename_i u v hu hv
      simp only [Option.some.injEq, Prod.mk.injEq] at h
      obtain ⟨rfl, rfl⟩ := h
      exact ⟨rfl, fun E' H2 he => by simp only [mval, he a (by simp [MOp.opds]), he b (by simp [MOp.opds]), hu, hv]⟩
    · cases h
  | ext a i =>
    simp only [mval] at h
    split at h
    · rename_i l hu
      simp only [Option.map_eq_some_iff, Prod.mk.injEq] at h
      obtain ⟨a', h1, rfl, rfl⟩ := h
      exact ⟨rfl, fun E' H2 he => by simp only [mval, he a (by simp [MOp.opds]), hu, h1]; rfl⟩
    · cases h
  | _ => simp [MO.pur] at hp

theorem buildP_env {q : Bool} : ∀ (ps : List (Nat × Nat × Opd)) (cs : List PV) (H : Heap), (∀ y ∈ ps.map (fun p => p.2.2), ev E' y = ev E y) → buildP q E' cs H ps = buildP q E cs H ps
  | [], _, _, _ => rfl
  | (off, sz, y) :: ps, cs, H, h => by
    simp only [buildP, h y (by simp)]
    split
    · split
      · exact buildP_env ps _ _ fun z hz => h z (by simp at hz ⊢; exact .inr hz)
      · rfl
    · rfl

theorem buildL_env {q : Bool} {sz : Nat} : ∀ (ps : List (Nat × Opd)) (cs : List PV) (H : Heap), (∀ y ∈ ps.map (fun p => p.2), ev E' y = ev E y) → buildL q E' sz cs H ps = buildL q E sz cs H ps
  | [], _, _, _ => rfl
  | (i, y) :: ps, cs, H, h => by
    simp only [buildL, h y (by simp)]
    split
    · split
      · exact buildL_env ps _ _ fun z hz => h z (by simp at hz ⊢; exact .inr hz)
      · rfl
    · rfl

theorem loud_env {q : Bool} {g : Option (Nat × Bool)} {d : Nat} {m : MOp} (hp : (MO.op g d m).loud = true) (h : ∀ y ∈ m.opds, ev E' y = ev E y) : mval q E' H id m = mval q E H id m := by
  cases m with
  | app sz b y z => simp only [mval, h y (by simp [MOp.opds]), h z (by simp [MOp.opds])]
  | appX fz c d sz b y z => simp only [mval, h y (by simp [MOp.opds]), h z (by simp [MOp.opds])]
  | slc own sz y lo hi =>
    have hb : ∀ n, bnds E' n lo hi = bnds E n lo hi := fun n => bnds_local (fun z hz => h z (by simp [MOp.opds, hz])) (fun z hz => h z (by simp [MOp.opds, hz]))
    simp only [mval, h y (by simp [MOp.opds]), hb]
  | box ld y => simp only [mval, h y (by simp [MOp.opds])]
  | build ld z ps => simp only [mval, buildP_env ps z H (fun y hy => h y (by simpa [MOp.opds] using hy))]
  | buildS ld sz n agg z ps => simp only [mval, buildL_env ps _ H (fun y hy => h y (by simpa [MOp.opds] using hy))]
  | stt agg sz y z => simp only [mval, h y (by simp [MOp.opds]), h z (by simp [MOp.opds])]
  | _ => simp [MO.loud] at hp

theorem lS_env {q : Bool} {m : MOp} (hp : m.lS = true) (h : ∀ y ∈ m.opds, ev E' y = ev E y) : mval q E' H id m = mval q E H id m := by
  cases m with
  | stt agg sz y z => exact loud_env (g := none) (d := 0) rfl h
  | mup ag ks y k v => simp only [mval, h y (by simp [MOp.opds]), h k (by simp [MOp.opds]), h v (by simp [MOp.opds])]
  | _ => simp [MOp.lS] at hp

theorem setU_men {H0 : Heap} {k i o c : Nat} {e : Ent} {p : PV} {q : Bool} : (sttN q H k i o c = some (x, H') → ∀ j, ¬ x.men j) ∧ (sttM q H k i o e p = some (x, H') → ∀ j, ¬ x.men j) := by
  constructor
  · intro h j
    unfold sttN at h
    split at h
    · split at h
      · split at h
        · split at h
          · simp only [Option.some.injEq, Prod.mk.injEq] at h; obtain ⟨rfl, _⟩ := h; simp [AV.men]
          · split at h
            · simp only [Option.some.injEq, Prod.mk.injEq] at h; obtain ⟨rfl, _⟩ := h; simp [AV.men]
            · cases h
          · split at h
            · simp only [Option.some.injEq, Prod.mk.injEq] at h; obtain ⟨rfl, _⟩ := h; simp [AV.men]
            · split at h
              · simp only [Option.some.injEq, Prod.mk.injEq] at h; obtain ⟨rfl, _⟩ := h; simp [AV.men]
              · cases h
            · cases h
        · cases h
      · cases h
    · cases h
  · intro h j
    unfold sttM at h
    split at h
    · split at h
      · split at h
        · simp only [Option.some.injEq, Prod.mk.injEq] at h; obtain ⟨rfl, _⟩ := h; simp [AV.men]
        · split at h <;> (simp only [Option.some.injEq, Prod.mk.injEq] at h; obtain ⟨rfl, _⟩ := h; simp [AV.men])
        · cases h
      · cases h
    · cases h

theorem loud_men {q : Bool} {g : Option (Nat × Bool)} {d : Nat} {m : MOp} (hp : (MO.op g d m).loud = true) (h : mval q E H id m = some (x, H')) : ∀ k, x.men k → k = id := by
  intro k hk
  cases m with
  | app sz b y z =>
    simp only [mval] at h
    split at h
    · split at h
      · split at h
        · simp only [Option.some.injEq, Prod.mk.injEq] at h; obtain ⟨rfl, _⟩ := h; exact (by simpa [AV.men] using hk : id = k).symm
        · cases h
      · cases h
    · split at h
      · split at h
        · simp only [Option.some.injEq, Prod.mk.injEq] at h; obtain ⟨rfl, _⟩ := h; exact (by simpa [AV.men] using hk : id = k).symm
        · cases h
      · cases h
    · cases h
  | appX fz c d sz b y z =>
    simp only [mval] at h
    split at h
    · split at h
      · split at h
        · split at h
          · simp only [Option.some.injEq, Prod.mk.injEq] at h; obtain ⟨rfl, _⟩ := h; simp [AV.men] at hk
          · simp only [Option.some.injEq, Prod.mk.injEq] at h; obtain ⟨rfl, _⟩ := h; exact (by simpa [AV.men] using hk : id = k).symm
        · cases h
      · cases h
    · cases h
  | slc own sz y lo hi =>
    have ho : own = true := by simpa [MO.loud] using hp
    subst ho
    simp only [mval] at h
    split at h
    · split at h
      · split at h
        · split at h
          · simp only [if_true] at h
            split at h
            · split at h
              · split at h
                · cases h
                · simp only [Option.some.injEq, Prod.mk.injEq] at h; obtain ⟨rfl, _⟩ := h; exact (by simpa [AV.men] using hk : id = k).symm
              · cases h
            · cases h
          · cases h
        · cases h
      · cases h
    · cases h
  | box ld y =>
    simp only [mval] at h
    split at h
    · split at h
      · cases h
      · simp only [Option.some.injEq, Prod.mk.injEq] at h; obtain ⟨rfl, _⟩ := h; exact (by simpa [AV.men] using hk : id = k).symm
    · cases h
  | build ld z ps =>
    simp only [mval, Option.map_eq_some_iff, Prod.mk.injEq] at h
    obtain ⟨_, _, rfl, _⟩ := h
    simp [AV.men] at hk
  | buildS ld sz n agg z ps =>
    simp only [mval, Option.map_eq_some_iff, Prod.mk.injEq] at h
    obtain ⟨_, _, rfl, _⟩ := h
    exact (by simpa [AV.men] using hk : id = k).symm
  | stt agg sz y z =>
    exfalso
    simp only [mval] at h
    split at h
    · split at h
      · exact (setU_men (H0 := H) (e := ⟨false, 0, []⟩) (p := .nl)).1 h k hk
      · cases h
    · split at h
      · split at h
        · split at h
          · split at h
            · exact (setU_men (H0 := H) (c := 0)).2 h k hk
            · cases h
          · split at h
            · split at h
              · simp only [Option.some.injEq, Prod.mk.injEq] at h; obtain ⟨rfl, _⟩ := h; simp [AV.men] at hk
              · cases h
            · cases h
        · cases h
      · cases h
  | _ => simp [MO.loud] at hp

theorem appX_loc {fz : Bool} {c d sz b : Nat} {y z : Opd} (h : mval false E H id (.appX fz c d sz b y z) = some (x, H')) : ∃ (k : Nat) (T : Heap), (∀ j, j ≠ id → find T j = none) ∧ (∀ j, x.men j → j = id) ∧ H' = T ++ strike H k ∧ k + d = id + c ∧ Named' E [y, z] k ∧
    ∀ E' H2, (∀ w ∈ [y, z], ev E' w = ev E w) → (∀ k, Named' E [y, z] k → find H2 k = find H k) → mval false E' H2 id (.appX fz c d sz b y z) = some (x, T ++ strike H2 k) := by
  simp only [mval] at h
  split at h
  · rename_i k u hy hz
    split at h
    · rename_i e sz' ys he hr
      split at h
      · rename_i hc
        have hn : Named' E [y, z] k := ⟨y, by simp, _, hy, by simp [AV.men]⟩
        cases fz with
        | true =>
          simp only [if_true, Option.some.injEq, Prod.mk.injEq] at h
          obtain ⟨rfl, rfl⟩ := h
          refine ⟨k, [], fun j _ => rfl, fun j hj => by simp [AV.men] at hj, rfl, hc.2.2.2.2.2.2, hn, fun E' H2 h1 h2 => ?_⟩
          have h3 := rdRow_local (H := H) (H2 := H2) (u := u) fun j hj => h2 j ⟨z, by simp, _, hz, hj⟩
          simp only [mval, h1 y (by simp), h1 z (by simp), hy, hz, h2 k hn, he, h3, hr, if_pos hc, if_true, List.nil_append]
        | false =>
          simp only [Bool.false_eq_true, if_false, Option.some.injEq, Prod.mk.injEq] at h
          obtain ⟨rfl, rfl⟩ := h
          refine ⟨k, [(id, _)], fun j hj => by simp [find_cons, hj, find_nil], fun j hj => by simp [AV.men] at hj; exact hj.symm, rfl, hc.2.2.2.2.2.2, hn, fun E' H2 h1 h2 => ?_⟩
          have h3 := rdRow_local (H := H) (H2 := H2) (u := u) fun j hj => h2 j ⟨z, by simp, _, hz, hj⟩
          simp only [mval, h1 y (by simp), h1 z (by simp), hy, hz, h2 k hn, he, h3, hr, if_pos hc, Bool.false_eq_true, if_false, List.singleton_append]
      · cases h
    · cases h
  · cases h
end kinds

section plan
variable {P : Program} {C : Cx} {n : Nat} {s s' : St} {a : Act} {W : World} {ow : Nat → Option Nat} {ows : List Nat} {ops : Array Oper} {Q : Exit → Act → World → Prop} {L : List MO}

/-- What one operation of a region does. -/
structure One (P : Program) (nx : Nat) (L : List MO) (s s' : St) (mo : MO) (x : AV) (U nm : Nat → Prop) : Prop where
  env : s'.env = putD mo x s.env
  keep : ∀ k, ¬ U k → find s'.heap k = find s.heap k
  men : ∀ d, mo.dst = some d → ∀ k, x.men k → news mo nx k ∨ Named' s.env mo.opds k ∨ k < nx
  step : ∀ s2 : St, s2.nx = nx → (∀ t ∈ mo.reads, find s2.env t = find s.env t) → (∀ k, nm k → find s2.heap k = find s.heap k) →
    ∃ (s0 s1 : St) (q : Bool), s0.env = s2.env ∧ (∀ k, find s0.heap k = find s2.heap k) ∧ s0.nx = nx ∧ AStep P q s0 mo s1 ∧ s1.nx = nx ∧ s1.env = putD mo x s2.env ∧
      (∀ k, U k → find s1.heap k = find s'.heap k) ∧ (∀ k, ¬ U k → find s1.heap k = find s2.heap k)
  cls : (mo.pur = true ∧ (∀ k, ¬ U k) ∧ ∀ k, ¬ nm k) ∨ (mo.pur = false ∧ mo.loud = false ∧ (∀ k, U k → news mo nx k) ∧ ∀ k, nm k → Named' s.env mo.opds k) ∨
    (mo.pur = false ∧ mo.loud = true ∧ ∃ c moc, locOf L mo = some c ∧ L[c]? = some moc ∧ (∀ k, U k → news mo nx k ∨ (news moc nx k ∧ Named' s.env mo.opds k)) ∧ ∀ k, nm k → Named' s.env mo.opds k) ∨
    (mo.pur = false ∧ mo.loud = true ∧ locOf L mo = none)

theorem pur_loud {mo : MO} (h : mo.loud = true) : mo.pur = false := by
  cases mo with
  | op g d m => cases m <;> simp [MO.loud, MO.pur] at *
  | _ => rfl

theorem find_app_none {N H : Heap} (k : Nat) (h : find N k = none) : find (N ++ H) k = find H k := by rw [find_append, h]
theorem find_app_some {N H : Heap} (k : Nat) {e : Ent} (h : find N k = some e) : find (N ++ H) k = some e := by rw [find_append, h]

theorem append_nil_of {α : Type} {N H : List α} (h : N ++ H = H) : N = [] := by
  have := congrArg List.length h
  simp at this
  exact this

theorem one_ok {mo : MO} (hs : AStep P (true && !mo.loud) s mo s') (hsm : ∀ t, mo.dst = some t → t < 1024) : ∃ x U nm, One P s.nx L s s' mo x U nm := by
  cases hl : mo.loud with
  | false =>
    rw [hl] at hs
    obtain ⟨d, x, N, q1, q2, q3, q4, q5⟩ := step_local hl hs
    have hmen : ∀ d, mo.dst = some d → ∀ k, x.men k → news mo s.nx k ∨ Named' s.env mo.opds k ∨ k < s.nx := fun d' hd k hk => by
      rcases q4 k hk with h | h | ⟨d'', h1, h2⟩
      · exact .inl h
      · exact .inr (.inl h)
      · have := hsm d'' h1
        exact .inr (.inr (by omega))
    have hput : ∀ E, (d, x) :: E = putD mo x E := fun E => by unfold putD; rw [q1]
    cases hp : mo.pur with
    | true =>
      have hN : N = [] ∧ ∀ E' H2, (∀ t ∈ mo.reads, find E' t = find s.env t) → AStep P true ⟨E', H2, s.nx⟩ mo ⟨(d, x) :: E', H2, s.nx⟩ := by
        cases mo with
        | op g d0 m =>
          have he : ∀ E', (∀ t ∈ (MO.op g d0 m).reads, find E' t = find s.env t) → ∀ y ∈ m.opds, ev E' y = ev s.env y := fun E' h => ev_local fun t ht => h t (by simp only [MO.reads, List.mem_append]; exact .inr ht)
          have hg : ∀ E', (∀ t ∈ (MO.op g d0 m).reads, find E' t = find s.env t) → guardOf E' g = guardOf s.env g := fun E' h => guard_local fun t ht => h t (by simp [MO.reads, MO.g, ht])
          simp only [MO.dst, Option.some.injEq] at q1
          subst q1
          cases hs with
          | skip hgv =>
            simp only [St.mk.injEq, List.cons.injEq, Prod.mk.injEq, true_and, and_true] at q2
            obtain ⟨rfl, hN⟩ := q2
            exact ⟨append_nil_of hN.symm, fun E' H2 h => AStep.skip (s := ⟨E', H2, s.nx⟩) ((hg E' h).trans hgv)⟩
          | op hgv hm =>
            obtain ⟨r1, r2⟩ := pur_mval hp hm
            simp only [St.mk.injEq, List.cons.injEq, Prod.mk.injEq, true_and, and_true] at q2
            obtain ⟨rfl, hN⟩ := q2
            refine ⟨append_nil_of (H := s.heap) (by rw [← hN, r1]), fun E' H2 h => AStep.op (s := ⟨E', H2, s.nx⟩) ((hg E' h).trans hgv) (r2 E' H2 (he E' h))⟩
        | _ => simp [MO.pur] at hp
      obtain ⟨rfl, hst⟩ := hN
      refine ⟨x, fun _ => False, fun _ => False, ⟨by rw [q2, ← hput], fun k _ => by rw [q2]; rfl, hmen, fun s2 hnx hr _ => ?_, .inl ⟨hp, fun _ h => h, fun _ h => h⟩⟩⟩
      refine ⟨s2, ⟨(d, x) :: s2.env, s2.heap, s.nx⟩, true, rfl, fun _ => rfl, hnx, ?_, rfl, hput _, fun k h => h.elim, fun k _ => rfl⟩
      have := hst s2.env s2.heap hr
      rw [← hnx] at this ⊢
      exact this
    | false =>
      refine ⟨x, fun k => (find N k).isSome = true, Named' s.env mo.opds, ⟨by rw [q2, ← hput], fun k hk => ?_, hmen, fun s2 hnx hr hh => ?_, .inr (.inl ⟨hp, hl, fun k hk => ?_, fun k h => h⟩)⟩⟩
      · rw [q2]
        exact find_app_none k (by simpa using hk)
      · refine ⟨s2, ⟨(d, x) :: s2.env, N ++ s2.heap, s.nx⟩, true, rfl, fun _ => rfl, hnx, ?_, rfl, hput _, fun k h => ?_, fun k h => ?_⟩
        · have := q5 s2.env s2.heap hr hh
          rw [← hnx] at this ⊢
          exact this
        · rw [q2]
          obtain ⟨e, he⟩ := Option.isSome_iff_exists.1 h
          rw [find_app_some k he, find_app_some k he]
        · exact find_app_none k (by simpa using h)
      · obtain ⟨e, he⟩ := Option.isSome_iff_exists.1 hk
        exact q3 k e he
  | true =>
    rw [hl] at hs
    simp only [Bool.not_true, Bool.and_false] at hs
    have hpl := pur_loud hl
    -- the values, and the steps at other slots
    have hbase : ∃ x, s'.env = putD mo x s.env ∧ s'.nx = s.nx ∧ (∀ k, x.men k → news mo s.nx k) ∧ ∀ E', (∀ t ∈ mo.reads, find E' t = find s.env t) → AStep P false ⟨E', s.heap, s.nx⟩ mo ⟨putD mo x E', s'.heap, s.nx⟩ := by
      cases mo with
      | op g d m =>
        have he : ∀ E', (∀ t ∈ (MO.op g d m).reads, find E' t = find s.env t) → ∀ y ∈ m.opds, ev E' y = ev s.env y := fun E' h => ev_local fun t ht => h t (by simp only [MO.reads, List.mem_append]; exact .inr ht)
        have hg : ∀ E', (∀ t ∈ (MO.op g d m).reads, find E' t = find s.env t) → guardOf E' g = guardOf s.env g := fun E' h => guard_local fun t ht => h t (by simp [MO.reads, MO.g, ht])
        cases hs with
        | skip hgv => exact ⟨.tup [], rfl, rfl, by simp [AV.men, AV.mens], fun E' h => AStep.skip (s := ⟨E', s.heap, s.nx⟩) ((hg E' h).trans hgv)⟩
        | op hgv hm =>
          rename_i x H'
          refine ⟨x, rfl, rfl, fun k hk => ⟨d, rfl, 0, by omega, by rw [loud_men hl hm k hk]; omega⟩, fun E' h => AStep.op (s := ⟨E', s.heap, s.nx⟩) ((hg E' h).trans hgv) (by rw [loud_env hl (he E' h)]; exact hm)⟩
      | store g m =>
        have he : ∀ E', (∀ t ∈ (MO.store g m).reads, find E' t = find s.env t) → ∀ w ∈ m.opds, ev E' w = ev s.env w := fun E' h => ev_local fun t ht => h t (by simp only [MO.reads, List.mem_append]; exact .inr ht)
        have hg : ∀ E', (∀ t ∈ (MO.store g m).reads, find E' t = find s.env t) → guardOf E' g = guardOf s.env g := fun E' h => guard_local fun t ht => h t (by simp [MO.reads, MO.g, ht])
        cases hs with
        | skipS hgv => exact ⟨.u, rfl, rfl, by simp [AV.men], fun E' h => AStep.skipS (s := ⟨E', s.heap, s.nx⟩) ((hg E' h).trans hgv)⟩
        | store hgv hl hm =>
          exact ⟨.u, rfl, rfl, by simp [AV.men], fun E' h => AStep.store (s := ⟨E', s.heap, s.nx⟩) ((hg E' h).trans hgv) hl (by rw [lS_env hl (he E' h)]; exact hm)⟩
      | call => simp [MO.loud] at hl
      | inc => cases hs
    obtain ⟨x, b1, b2, b3, b4⟩ := hbase
    have hmen : ∀ d, mo.dst = some d → ∀ k, x.men k → news mo s.nx k ∨ Named' s.env mo.opds k ∨ k < s.nx := fun _ _ k hk => .inl (b3 k hk)
    cases hloc : locOf L mo with
    | none =>
      refine ⟨x, fun _ => True, fun _ => True, ⟨b1, fun k h => (h trivial).elim, hmen, fun s2 hnx hr hh => ?_, .inr (.inr (.inr ⟨hpl, hl, hloc⟩))⟩⟩
      exact ⟨⟨s2.env, s.heap, s.nx⟩, ⟨putD mo x s2.env, s'.heap, s.nx⟩, false, rfl, fun k => (hh k trivial).symm, rfl, b4 s2.env hr, rfl, rfl, fun _ _ => rfl, fun k h => (h trivial).elim⟩
    | some c =>
      cases mo with
      | op g d m =>
        cases m with
        | appX fz c0 d' sz b y z =>
          simp only [locOf] at hloc
          split at hloc
          · rename_i hcond
            obtain ⟨rfl, hlt⟩ := hcond
            cases hloc
            have hcd : (L[L.findIdx fun m => m.dst == some c0]).dst = some c0 := by
              have := List.findIdx_getElem (w := hlt)
              simpa using this
            have hLc := List.getElem?_eq_getElem hlt
            have he : ∀ E', (∀ t ∈ (MO.op g d' (.appX fz c0 d' sz b y z)).reads, find E' t = find s.env t) → ∀ w ∈ [y, z], ev E' w = ev s.env w := fun E' h => ev_local fun t ht => h t (by simp only [MO.reads, List.mem_append]; exact .inr ht)
            have hg : ∀ E', (∀ t ∈ (MO.op g d' (.appX fz c0 d' sz b y z)).reads, find E' t = find s.env t) → guardOf E' g = guardOf s.env g := fun E' h => guard_local fun t ht => h t (by simp [MO.reads, MO.g, ht])
            have hloc2 : locOf L (.op g d' (.appX fz c0 d' sz b y z)) = some (L.findIdx fun m => m.dst == some c0) := by
              simp only [locOf]; rw [if_pos ⟨trivial, hlt⟩]
            cases hs with
            | skip hgv =>
              refine ⟨.tup [], fun _ => False, fun _ => False, ⟨rfl, fun k _ => rfl, fun _ _ k h => by simp [AV.men, AV.mens] at h, fun s2 hnx hr _ => ?_, .inr (.inr (.inl ⟨hpl, hl, _, _, hloc2, hLc, fun k h => h.elim, fun k h => h.elim⟩))⟩⟩
              refine ⟨s2, ⟨(d', .tup []) :: s2.env, s2.heap, s2.nx⟩, false, rfl, fun _ => rfl, hnx, AStep.skip ((hg _ hr).trans hgv), hnx, rfl, fun k h => h.elim, fun k _ => rfl⟩
            | op hgv hm =>
              rename_i x' H'
              obtain ⟨k0, T, hT, hxm, rfl, hk0, hnm, hst⟩ := appX_loc hm
              have hfT : ∀ (G : Heap) k, k ≠ s.nx + d' → find (T ++ G) k = find G k := fun G k hk => by rw [find_append, hT k hk]
              refine ⟨x', fun k => (k = s.nx + d' ∧ find T k ≠ none) ∨ k = k0, Named' s.env [y, z], ⟨rfl, fun k hk => ?_, fun _ _ k hk => .inl ⟨d', rfl, 0, by omega, by rw [hxm k hk]; omega⟩, fun s2 hnx hr hh => ?_, .inr (.inr (.inl ⟨hpl, hl, _, _, hloc2, hLc, fun k h => ?_, fun k h => h⟩))⟩⟩
              · have hTk : find T k = none := by
                  by_cases e : k = s.nx + d'
                  · apply Classical.byContradiction; intro h; exact hk (.inl ⟨e, h⟩)
                  · exact hT k e
                show find (T ++ strike s.heap k0) k = find s.heap k
                rw [find_append, hTk]
                simp only [find_strike, if_neg (fun h => hk (.inr h))]
              · have := hst s2.env s2.heap (he _ hr) hh
                refine ⟨s2, ⟨(d', x') :: s2.env, T ++ strike s2.heap k0, s2.nx⟩, false, rfl, fun _ => rfl, hnx, AStep.op ((hg _ hr).trans hgv) (by rw [hnx]; exact this), hnx, rfl, fun k hk => ?_, fun k hk => ?_⟩
                · show find (T ++ strike s2.heap k0) k = find (T ++ strike s.heap k0) k
                  rw [find_append, find_append]
                  cases hTk : find T k with
                  | some _ => rfl
                  | none =>
                    rcases hk with ⟨_, h⟩ | rfl
                    · exact (h hTk).elim
                    · simp only [find_strike, if_true]
                · have hTk : find T k = none := by
                    by_cases e : k = s.nx + d'
                    · apply Classical.byContradiction; intro h; exact hk (.inl ⟨e, h⟩)
                    · exact hT k e
                  show find (T ++ strike s2.heap k0) k = find s2.heap k
                  rw [find_append, hTk]
                  simp only [find_strike, if_neg (fun h => hk (.inr h))]
              · rcases h with ⟨rfl, _⟩ | rfl
                · exact .inl ⟨d', rfl, 0, by omega, by omega⟩
                · exact .inr ⟨⟨c0, hcd, 0, by omega, by omega⟩, hnm⟩
          · cases hloc
        | _ => simp [locOf] at hloc
      | _ => simp [locOf] at hloc
/-- A row that is named ahead of an operation was made by one that it comes behind. -/
theorem men_at {S : Nat → St} {X : Nat → AV} {U nm : Nat → Nat → Prop} {nx : Nat} (hk : Chk ops L) (ho : ∀ i mo, L[i]? = some mo → One P nx L (S i) (S (i + 1)) mo (X i) (U i) (nm i)) (hF0 : ∀ t x k, find (S 0).env t = some x → x.men k → k < nx) {q : Nat} {mq : MO} (hq : L[q]? = some mq) :
    ∀ (p : Nat), p ≤ L.length → ∀ t x k, find (S p).env t = some x → x.men k → news mq nx k → ∃ j mj, j < p ∧ L[j]? = some mj ∧ mj.dst = some t ∧ (j = q ∨ Dp ops j q)
  | 0, _, t, x, k, hx, hm, hn => by
    have := hF0 t x k hx hm
    obtain ⟨d, _, a, _, e⟩ := hn; omega
  | p + 1, hle, t, x, k, hx, hm, hn => by
    have hL : L[p]? = some L[p] := List.getElem?_eq_getElem (by omega)
    have h1 := ho p L[p] hL
    have ih := men_at hk ho hF0 hq p (by omega)
    rw [h1.env, find_putD] at hx
    by_cases hd : (L[p]).dst = some t
    · rw [if_pos hd] at hx
      cases hx
      refine ⟨p, L[p], by omega, hL, hd, ?_⟩
      rcases h1.men t hd k hm with h | h | h
      · exact .inl (news_one hk hL hq h hn)
      · right
        obtain ⟨y, hy, u, hu, hum⟩ := h
        cases y with
        | c p => simp only [ev, Option.some.injEq] at hu; subst hu; simp [AV.men] at hum
        | f f => simp only [ev, Option.some.injEq] at hu; subst hu; simp [AV.men, AV.mens] at hum
        | im r tab =>
          simp only [ev] at hu
          split at hu
          · obtain ⟨f, _, rfl⟩ := Option.map_eq_some_iff.1 hu; simp [AV.men, AV.mens] at hum
          · cases hu
        | pl r =>
          simp only [ev] at hu
          split at hu
          · cases hu; simp [AV.men] at hum
          · cases hu
        | t t' =>
          simp only [ev] at hu
          obtain ⟨j, mj, g1, g2, g3, g4⟩ := ih t' u k hu hum hn
          have htr : t' ∈ (L[p]).reads := by
            simp only [MO.reads, List.mem_append, List.mem_flatMap]
            exact .inr ⟨.t t', hy, by simp [Opd.tmps]⟩
          have hdp := (hk.reads p j L[p] mj t' hL g2 htr g3).2.1 g1
          rcases g4 with rfl | g4
          · exact hdp
          · exact hdp.trans g4
      · exfalso; obtain ⟨d, _, a, _, e⟩ := hn; omega
    · rw [if_neg hd] at hx
      obtain ⟨j, mj, g1, g2⟩ := ih t x k hx hm hn
      exact ⟨j, mj, by omega, g2⟩

theorem plan_ok {S : Nat → St} {nx : Nat} (hk : Chk ops L) (hnx : ∀ i, i ≤ L.length → (S i).nx = nx) (hS : ∀ (i : Nat) (mo : MO), L[i]? = some mo → AStep P (true && !mo.loud) (S i) mo (S (i + 1))) (hF0 : ∀ t x k, find (S 0).env t = some x → x.men k → k < nx) :
    ∃ X U nm, Plan P ops L S X U nm nx := by
  have hex : ∀ i : Nat, ∃ r : AV × (Nat → Prop) × (Nat → Prop), ∀ mo, L[i]? = some mo → One P nx L (S i) (S (i + 1)) mo r.1 r.2.1 r.2.2 := by
    intro i
    cases h : L[i]? with
    | none => exact ⟨(.u, fun _ => False, fun _ => False), fun mo hm => by cases hm⟩
    | some mo =>
      obtain ⟨x, U, nm, ho⟩ := one_ok (hS i mo h) (fun t ht => hk.small i mo t h ht)
      rw [hnx i (Nat.le_of_lt (List.getElem?_eq_some_iff.1 h).1)] at ho
      exact ⟨(x, U, nm), fun mo' hm => by cases hm; exact ho⟩
  obtain ⟨X, U, nm, ho⟩ : ∃ (X : Nat → AV) (U nm : Nat → Nat → Prop), ∀ i mo, L[i]? = some mo → One P nx L (S i) (S (i + 1)) mo (X i) (U i) (nm i) :=
    ⟨fun i => (Classical.choose (hex i)).1, fun i => (Classical.choose (hex i)).2.1, fun i => (Classical.choose (hex i)).2.2, fun i mo h => Classical.choose_spec (hex i) mo h⟩
  refine ⟨X, U, nm, ?_⟩
  -- what names a row of another operation comes behind it
  have key : ∀ p q mp mq k, L[p]? = some mp → L[q]? = some mq → Named' (S p).env mp.opds k → news mq nx k → Dp ops p q := by
    intro p q mp mq k hp hq hn hk'
    obtain ⟨y, hy, u, hu, hum⟩ := hn
    cases y with
    | c p => simp only [ev, Option.some.injEq] at hu; subst hu; simp [AV.men] at hum
    | f f => simp only [ev, Option.some.injEq] at hu; subst hu; simp [AV.men, AV.mens] at hum
    | im r tab =>
      simp only [ev] at hu
      split at hu
      · obtain ⟨f, _, rfl⟩ := Option.map_eq_some_iff.1 hu; simp [AV.men, AV.mens] at hum
      · cases hu
    | pl r =>
      simp only [ev] at hu
      split at hu
      · cases hu; simp [AV.men] at hum
      · cases hu
    | t t' =>
      simp only [ev] at hu
      obtain ⟨j, mj, g1, g2, g3, g4⟩ := men_at hk ho hF0 hq p (Nat.le_of_lt (List.getElem?_eq_some_iff.1 hp).1) t' u k hu hum hk'
      have htr : t' ∈ mp.reads := by
        simp only [MO.reads, List.mem_append, List.mem_flatMap]
        exact .inr ⟨.t t', hy, by simp [Opd.tmps]⟩
      have hdp := (hk.reads p j mp mj t' hp g2 htr g3).2.1 g1
      rcases g4 with rfl | g4
      · exact hdp
      · exact hdp.trans g4
  have both : ∀ {p q : Nat}, Dp ops p q → (q < p → Dp ops p q) ∧ (p < q → Dp ops q p) := fun {p q} h => ⟨fun _ => h, fun h2 => by have := h.lt hk.back; omega⟩
  refine ⟨hnx, fun i mo h => (ho i mo h).env, fun i mo h => (ho i mo h).keep, ?_, ?_, fun i mo h => (ho i mo h).step⟩
  · intro p q mp mq k hp hq hn hu hne
    rcases (ho p mp hp).cls with ⟨_, _, c3⟩ | hP
    · exact (c3 k hn).elim
    rcases (ho q mq hq).cls with ⟨_, c2, _⟩ | hQ'
    · exact (c2 k hu).elim
    have hpp : mp.pur = false := by rcases hP with h | h | h <;> exact h.1
    have hqp : mq.pur = false := by rcases hQ' with h | h | h <;> exact h.1
    -- the strict ones
    have strict : mp.loud = true → locOf L mp = none → (q < p → Dp ops p q) ∧ (p < q → Dp ops q p) := by
      intro h1 h2
      rcases hk.loud p q mp mq hp hq h1 with h | h | ⟨_, c, h, _⟩
      · rw [hqp] at h; cases h
      · exact h
      · rw [h2] at h; cases h
    have strict2 : mq.loud = true → locOf L mq = none → (q < p → Dp ops p q) ∧ (p < q → Dp ops q p) := by
      intro h1 h2
      rcases hk.loud q p mq mp hq hp h1 with h | h | ⟨_, c, h, _⟩
      · rw [hpp] at h; cases h
      · exact ⟨h.2, h.1⟩
      · rw [h2] at h; cases h
    rcases hP with ⟨_, _, _, hnm⟩ | ⟨_, _, _, _, _, _, _, hnm⟩ | ⟨_, h1, h2⟩
    rotate_left 2
    · exact strict h1 h2
    all_goals
      have hnm := hnm k hn
      rcases hQ' with ⟨_, _, hU, _⟩ | ⟨_, hl, c, mc, hc, hLc, hU, _⟩ | ⟨_, h1, h2⟩
      · exact both (key p q mp mq k hp hq hnm (hU k hu))
      · rcases hU k hu with hu | ⟨hu, _⟩
        · exact both (key p q mp mq k hp hq hnm hu)
        · have hdc := key p c mp mc k hp hLc hnm hu
          rcases hk.loud q p mq mp hq hp hl with h | h | ⟨_, c', h, _, h3⟩
          · rw [hpp] at h; cases h
          · exact ⟨h.2, h.1⟩
          · rw [hc] at h; cases h
            exact (h3 hdc).elim
      · exact strict2 h1 h2
  · intro p q mp mq k hp hq hu hv hlt
    rcases (ho p mp hp).cls with ⟨_, c2, _⟩ | hP
    · exact (c2 k hu).elim
    rcases (ho q mq hq).cls with ⟨_, c2, _⟩ | hQ'
    · exact (c2 k hv).elim
    have hpp : mp.pur = false := by rcases hP with h | h | h <;> exact h.1
    have hqp : mq.pur = false := by rcases hQ' with h | h | h <;> exact h.1
    have strict : mp.loud = true → locOf L mp = none → Dp ops q p := by
      intro h1 h2
      rcases hk.loud p q mp mq hp hq h1 with h | h | ⟨_, c, h, _⟩
      · rw [hqp] at h; cases h
      · exact h.2 hlt
      · rw [h2] at h; cases h
    have strict2 : mq.loud = true → locOf L mq = none → Dp ops q p := by
      intro h1 h2
      rcases hk.loud q p mq mp hq hp h1 with h | h | ⟨_, c, h, _⟩
      · rw [hpp] at h; cases h
      · exact h.1 hlt
      · rw [h2] at h; cases h
    have back : ∀ {A : Prop}, Dp ops p q → A := fun h => by have := h.lt hk.back; omega
    have same : ∀ {A : Prop}, news mp nx k → news mq nx k → A := fun h h' => by have := news_one hk hp hq h h'; omega
    rcases hP with ⟨_, _, hU, _⟩ | ⟨_, hl, c, mc, hc, hLc, hU, _⟩ | ⟨_, h1, h2⟩
    rotate_left 2
    · exact strict h1 h2
    · have hu := hU k hu
      rcases hQ' with ⟨_, _, hV, _⟩ | ⟨_, hl2, c2, mc2, hc2, hLc2, hV, _⟩ | ⟨_, h1, h2⟩
      · exact same hu (hV k hv)
      · rcases hV k hv with hv | ⟨_, hv⟩
        · exact same hu hv
        · exact key q p mq mp k hq hp hv hu
      · exact strict2 h1 h2
    · rcases hQ' with ⟨_, _, hV, _⟩ | ⟨_, hl2, c2, mc2, hc2, hLc2, hV, _⟩ | ⟨_, h1, h2⟩
      · rcases hU k hu with hu | ⟨_, hu⟩
        · exact same hu (hV k hv)
        · exact back (key p q mp mq k hp hq hu (hV k hv))
      · rcases hk.loud p q mp mq hp hq hl with h | h | ⟨h, _⟩
        · rw [hqp] at h; cases h
        · exact h.2 hlt
        · rw [hl2] at h; cases h
      · exact strict2 h1 h2

variable {F : Nat → Prop} {hdr : Nat → Value}
/-- A region. -/
theorem reg_ok {draw : Bool} {rid : Nat} (hc : mapO (cO P ows n ops) ops.toList = some L) (hd : distinctB L = true) (hdr : draw = true → drawB ops L = true ∧ P.follows .mixedOrders = true) (h : RChain P draw s L s')
    {hdr0 : Nat → Value} (r : RelAt C n (· < s.nx) s a W hdr0 ow) (hQ : ∀ a' W' hdr' ow', RelAt C n (· < s.nx + 8192) ⟨s'.env, s'.heap, s.nx + 8192⟩ a' W' hdr' ow' → Q .normal a' W') : (Code.region rid ops draw).wp P Q a W := by
  obtain ⟨hlen, hget⟩ := mapO_get hc
  have hsmall : ∀ (i : Nat) (mo : MO), L[i]? = some mo → ∀ t, mo.dst = some t → t < 1024 := by
    intro i mo hi t ht
    obtain ⟨oi, hoi⟩ : ∃ o, ops.toList[i]? = some o := by
      have := (List.getElem?_eq_some_iff.1 hi).1
      exact ⟨_, List.getElem?_eq_getElem (by rw [toListLen]; rw [toListLen] at hlen; omega)⟩
    obtain ⟨moi', e1, e2⟩ := hget i oi hoi
    rw [hi] at e1; cases e1
    exact cO_small e2 t ht
  have hQ' : ∀ a' W' hdr' ow' (F' : Nat → Prop), RelAt C n F' s' a' W' hdr' ow' → (∀ k, F' k → k < s.nx + 8192) → Q .normal a' W' := fun a' W' hdr' ow' F' r' hF =>
    hQ a' W' hdr' ow' ((r'.monoF hF).congr (m := s.nx + 8192) (fun _ _ h => h) fun _ => rfl)
  rw [toListLen] at hlen
  cases draw with
  | false =>
    refine wp_region ?_
    rw [List.range_eq_range', ← hlen]
    refine list_ok hc hd hQ' L.length 0 s _ a W _ _ (by omega) rfl (by simpa using h) r (fun j hj => by omega) ?_
    intro i mo hi _ j hn hF
    have := news_lt hn (hsmall i mo hi)
    omega
  | true =>
    obtain ⟨hb, hm⟩ := hdr rfl
    obtain ⟨S, h0, h1, h2, h3⟩ := chain_states h
    have hk := chk_ok hc hd hb
    have hF0 : ∀ t x k, find (S 0).env t = some x → x.men k → k < s.nx := fun t x k hx hm' => by rw [h0] at hx; exact r.idsE t x hx k hm'
    obtain ⟨X, U, nm, hp⟩ := plan_ok hk h2 h3 hF0
    refine wp_region_any hm ?_
    refine draw_any (C := C) (ows := ows) (S := S) (nx := s.nx) (fun i o ho => hget i o (by rw [Array.getElem?_toList]; exact ho)) hk hp ?_ ops.size _ a _ (· < s.nx) hdr0 ow (S 0) (by simp) (h2 0 (by omega)) ?_ ?_ ?_ (fun k h => .inl h) ?_
    · intro a' W' hdr' ow' F' r' hF
      rw [h1] at r'
      refine hQ' a' W' hdr' ow' F' r' fun k hk' => ?_
      rcases hF k hk' with h | ⟨i, mo, hi, hn⟩
      · omega
      · exact (news_lt hn (hsmall i mo hi)).2
    · have hno : ∀ i : Nat, ¬ (Array.replicate ops.size false).getD i false = true := by
        intro i h
        simp [Array.getD_eq_getD_getElem?, Array.getElem?_replicate] at h
        split at h <;> simp at h
      exact ⟨fun i h => (hno i h).elim, fun t i mo _ _ h => (hno i h).elim, fun _ _ => rfl, fun k p h => (hno p h).elim, fun _ _ => rfl⟩
    · intro j k h
      simp [Array.getD_eq_getD_getElem?, Array.getElem?_replicate] at h
      split at h <;> simp at h
    · have r0 := r.same (W' := { W with drawn := W.drawn + 1 }) ⟨rfl, rfl, rfl, rfl, fun _ => Nat.le_succ _⟩
      rw [h0]
      exact r0
    · have : cnt (Array.replicate ops.size false) ops.size = 0 := by
        unfold cnt
        rw [List.length_eq_zero_iff, List.filter_eq_nil_iff]
        intro i _ h
        simp [Array.getD_eq_getD_getElem?, Array.getElem?_replicate] at h
        split at h <;> simp at h
      omega

end plan
end Go.AM
/- Ranging over a map: the next entry, whichever it is. -/
set_option linter.all false
namespace Go.AM
open Go
variable [dr : Inhabited Prop]

/-- What an iterator has come to. -/
def itL (S : List Nat) : List PV := S.map fun (j : Nat) => .w (.int .i64 j)

/-- A region that asks for the next entry. -/
def cNext (P : Program) (n : Nat) (ops : Array Oper) : Option MC :=
  match ops.toList with
  | [o1, o2] => match o1.op, o1.dst, o1.guard, o2.op, o2.dst, o2.guard with
    | .next x false, some d1, none, .extract (.tmp t) 0, some d2, none => if t = d1 ∧ d1 < n ∧ d2 < n then (opd P 0 x).map (.next d1 d2) else none
    | _, _, _, _, _, _ => none
  | _ => none

theorem cNext_form {P : Program} {n : Nat} {ops : Array Oper} {m : MC} (h : cNext P n ops = some m) : ∃ d1 d2 x, m = .next d1 d2 x := by
  unfold cNext at h
  split at h
  · split at h
    · split at h
      · obtain ⟨x, _, rfl⟩ := Option.map_eq_some_iff.1 h; exact ⟨_, _, x, rfl⟩
      · cases h
    · cases h
  · cases h

section
variable {P : Program} {C : Cx} {n : Nat} {F : Nat → Prop} {s : St} {a : Act} {W : World} {hdr : Nat → Value} {ow : Nat → Option Nat} {o : Oper}

theorem next_ok (r : RelAt C n F s a W hdr ow) {x : Operand} {x' : Opd} {t1 : TypeId} {i m : Nat} {S : List Nat} {rest : List PV} (ho : o.op = .next x false) (hx : opd P t1 x = some x') (hu : ev s.env x' = some (.h i)) (hi : irest s.heap i = some (m, rest.length, itL S)) (hr : mrest s.heap m = some rest) :
    ((∀ j, j < rest.length → j ∈ S) ∧ (execOp a.eval o).run P W = .ok (.value (.tuple #[.bool false])) W) ∨
    ∃ j key val W', j < rest.length ∧ j ∉ S ∧ (execOp a.eval o).run P W = .ok (.value (.tuple #[.bool true, key, val])) W' ∧ RelAt C n F { s with heap := setIn s.heap i ⟨false, 0, mkI m rest.length :: itL (S ++ [j])⟩ } a W' hdr ow := by
  have hux := (opd_ok r hx hu).1
  obtain ⟨e, g, b, bm, sn, h1, hz, hf, hl, hg, g1, g2, g3, g4, g5⟩ := iter_at r hi
  obtain ⟨bm', es, q1, q2, q3, q4, q5, q6⟩ := map_at r hr
  simp only [RepA] at hux
  have hxv := hux e h1
  rw [g2] at hxv
  rw [q2] at g3; cases g3
  have hS : sn.toList = S := by
    have : (itL S) = itL sn.toList := g5
    unfold itL at this
    have h2 := congrArg (List.map fun p : PV => match p with | .w (.int _ j) => j.toNat | _ => 0) this
    simp only [List.map_map, Function.comp_def, Int.toNat_natCast, List.map_id'] at h2
    exact h2.symm
  have hmem : ∀ j, sn.contains j = true ↔ j ∈ S := by intro j; rw [← hS]; simp
  have hborn : ∀ x ∈ es.toList, x.born < rest.length := by
    intro x hx
    obtain ⟨j, hj, rfl⟩ := List.getElem_of_mem hx
    have := q6 j es[j] (Array.getElem?_eq_getElem (by simpa using hj))
    simp only [Array.getElem_toList, this]; simpa [q4] using hj
  rcases Go.run_next_at (P := P) W o.type b bm rest.length rest.length sn es rest.length g4 q3 hborn (Nat.le_refl _) with ⟨h2, h3⟩ | ⟨x, hx2, w1, hw1, h3⟩
  · left
    refine ⟨fun j hj => ?_, by simp [execOp, ho, hxv, h3]⟩
    rw [← hmem]
    cases hc : sn.contains j with
    | true => rfl
    | false =>
      have hje : j < es.size := by omega
      have : es[j] ∈ (Go.leftOf es sn) := by
        unfold Go.leftOf
        rw [Array.mem_filter]
        refine ⟨by simp, ?_⟩
        rw [q6 j es[j] (Array.getElem?_eq_getElem hje), hc]; rfl
      rw [Array.eq_empty_of_size_eq_zero h2] at this
      simp at this
  · right
    have hx4 : x ∈ es.toList ∧ sn.contains x.born = false := by
      unfold Go.leftOf at hx2
      simp only [Array.mem_toList_iff, Array.mem_filter, Bool.not_eq_true'] at hx2
      exact ⟨by simpa using hx2.1, hx2.2⟩
    have hj := hborn x hx4.1
    have hheap : w1.heap = W.heap := by rcases hw1 with rfl | rfl <;> rfl
    have hsame : w1.os = W.os ∧ w1.tape = W.tape ∧ OutLe W w1 := by
      rcases hw1 with rfl | rfl
      · exact ⟨rfl, rfl, .refl _⟩
      · exact ⟨rfl, rfl, rfl, fun _ => Nat.le_succ _⟩
    have hg4 : w1.heap[b]? = some (.mapIter (some bm) rest.length sn rest.length) := by rw [hheap]; exact g4
    obtain ⟨k1, k2⟩ := heap_put (w := w1) (o' := .mapIter (some bm) rest.length (sn.push x.born) rest.length) hg4
    refine ⟨x.born, x.key, x.val, _, hj, fun h => ?_, by simp only [execOp, ho, hxv, Sem.run_bind, h3]; rfl, ?_⟩
    · rw [← hmem] at h; rw [hx4.2] at h; cases h
    · refine r.writeE (e' := ⟨false, 0, mkI m rest.length :: itL (S ++ [x.born])⟩) h1 g1 hz.symm (b := b) ?_ ?_ hsame.1 hsame.2.1 hsame.2.2 ?_ ?_
      · intro k hk
        show (w1.heap.setIfInBounds b _)[k]? = _
        rw [k2 k hk, hheap]
      · show (w1.heap.setIfInBounds b _).size = _
        rw [Array.size_setIfInBounds, hheap]
      · refine .inr (.inr (.inr ⟨rfl, rfl, .inr ⟨mkI m rest.length, itL (S ++ [x.born]), b, m, rest.length, bm, sn.push x.born, rfl, by simp [decI], rfl, g2, q2, k1, ?_⟩⟩))
        rw [Array.toList_push, hS]; rfl
      · intro c hc
        have := (Ent.refs_I (e := ⟨false, 0, mkI m rest.length :: itL (S ++ [x.born])⟩) (g := mkI m rest.length) (m := m) (n := rest.length) rfl rfl (by simp [decI])).1 hc
        subst this
        exact r.idsR i e c h1 ((Ent.refs_I hz hl hg).2 rfl)

/-- A region that asks for the next entry. -/
theorem reg_next {rid : Nat} {ops : Array Oper} {Q : Exit → Act → World → Prop} {d1 d2 : Nat} {x : Opd} (hc : cNext P n ops = some (.next d1 d2 x)) (r : RelAt C n (· < s.nx) s a W hdr ow) {i m : Nat} {S : List Nat} {rest : List PV}
    (hu : ev s.env x = some (.h i)) (hi : irest s.heap i = some (m, rest.length, itL S)) (hr : mrest s.heap m = some rest)
    (h1 : (∀ j, j < rest.length → j ∈ S) → ∀ a' W' hdr' ow', RelAt C n (· < s.nx) ⟨(d2, .v (.w (.bool false))) :: (d1, .u) :: s.env, s.heap, s.nx⟩ a' W' hdr' ow' → Q .normal a' W')
    (h2 : ∀ j, j < rest.length → j ∉ S → ∀ a' W' hdr' ow', RelAt C n (· < s.nx) ⟨(d2, .v (.w (.bool true))) :: (d1, .u) :: s.env, setIn s.heap i ⟨false, 0, mkI m rest.length :: itL (S ++ [j])⟩, s.nx⟩ a' W' hdr' ow' → Q .normal a' W') :
    (Code.region rid ops false).wp P Q a W := by
  unfold cNext at hc
  split at hc
  · rename_i o1 o2 hops
    split at hc
    · rename_i xo d1' t d2' e1 e2 e3 e4 e5 e6
      split at hc
      · rename_i hlt
        obtain ⟨rfl, hlt1, hlt2⟩ := hlt
        obtain ⟨x', hx, hxe⟩ := Option.map_eq_some_iff.1 hc
        cases hxe
        refine wp_region ?_
        have hsz : ops.size = [o1, o2].length := by rw [← hops]; simp
        rw [hsz, List.range_eq_range', wpOps_eq_wpList [o1, o2] 0 (fun j => by rw [← hops]; simp)]
        have fin : ∀ (b : Bool) (tl : List Value) (W' : World) (H' : Heap), RelAt C n (· < s.nx) ⟨s.env, H', s.nx⟩ a W' hdr ow → (∀ a' W'' hdr' ow', RelAt C n (· < s.nx) ⟨(d2, .v (.w (.bool b))) :: (d1, .u) :: s.env, H', s.nx⟩ a' W'' hdr' ow' → Q .normal a' W'') →
            wpList P ops Q [o2] (a.put o1.dst (.tuple (.bool b :: tl).toArray)) W' := by
          intro b tl W' H' r' hQ
          simp only [wpList]
          rw [if_pos (by simp [Region.wanted, e6])]
          left
          have r2 : RelAt C n (· < s.nx) ⟨(d1, .u) :: s.env, H', s.nx⟩ (a.put (some d1) (.tuple (.bool b :: tl).toArray)) W' hdr ow := r'.put hlt1 (by simp [RepA]) (by simp [AV.men])
          have r3 := r2.put (d := d2) hlt2 (x := .v (.w (.bool b))) (v := .bool b) (by simp only [RepA]; exact RepV.w rfl) (by simp [AV.men])
          refine wp_value (v := .bool b) (W' := W') ?_ ?_
          · have : (a.put o1.dst (.tuple (.bool b :: tl).toArray)).eval (.tmp d1) = .tuple (.bool b :: tl).toArray := by
              rw [e2]
              show ((a.put (some d1) _).tmps).getD d1 undef = _
              rw [getD_put d1 (by rw [r'.tsz]; exact hlt1), if_pos rfl]
            simp [execOp, e4, Instr.extract, this]
          · rw [e5, e2]; exact hQ _ _ _ _ r3
        simp only [wpList]
        rw [if_pos (by simp [Region.wanted, e3])]
        left
        rcases next_ok (o := o1) r e1 hx hu hi hr with ⟨g1, g2⟩ | ⟨j, key, val, W', g1, g2, g3, g4⟩
        · exact wp_value g2 (fin false [] W s.heap r (h1 g1))
        · exact wp_value g3 (fin true [key, val] W' _ g4 (h2 j g1 g2))
      · cases hc
    · cases hc
  · cases hc

end
end Go.AM
/- A count in a map goes up by one. -/
set_option linter.all false
namespace Go.AM
open Go
variable [dr : Inhabited Prop]

/-- The bits below p of the masks of the last operations, and their own order. -/
def tailB (ops : Array Oper) (p : Nat) : Bool :=
  let ms := masks [] ops.toList
  ops.toList.zipIdx.all (fun q => q.1.after.toList.all fun e => !Region.binds .any e || decide (e.on < q.2)) &&
  (List.range 5).all (fun i => (List.range p).all fun j => (ms.getD (p + i) 0).testBit j) &&
  (ms.getD (p + 1) 0).testBit p && (ms.getD (p + 3) 0).testBit (p + 2) && (ms.getD (p + 4) 0).testBit (p + 1) && (ms.getD (p + 4) 0).testBit (p + 3)

/-- A region whose end takes a count of a map up by one. -/
def cInc (P : Program) (ows : List Nat) (n : Nat) (ops : Array Oper) : Option (List MO) :=
  match ops.toList.drop (ops.size - 5) with
  | [o0, o1, o2, o3, o4] =>
    match o0.op, o1.op, o2.op, o3.op, o4.op with
    | .lookup t (.tmp x) (.tmp k) false, .binOp .add t1 (.tmp e1) (.const (.int .i64 1)) _, .mapEntry t2 (.tmp x2) (.tmp k2), .extract (.tmp e3) 1, .entryStore t4 (.tmp x4) (.tmp e4) (.tmp e2) =>
      match o0.dst, o1.dst, o2.dst, o3.dst, P.underlying t with
      | some d1, some d2, some d3, some d4, some (.map kt e) =>
        match keyKs P 40 kt, zeroV P e, mapO (cO P ows n ops) (ops.toList.take (ops.size - 5)) with
        | some ks, some (.w (.int .i64 0)), some L =>
          if (e1 = d1 ∧ e2 = d2 ∧ e3 = d3 ∧ e4 = d4 ∧ t2 = t ∧ t4 = t ∧ x2 = x ∧ k2 = k ∧ x4 = x) ∧ ([d1, d2, d3, d4].Nodup ∧ x ∉ [d1, d2, d3, d4] ∧ k ∉ [d1, d2, d3, d4] ∧ d1 < n ∧ d2 < n ∧ d3 < n ∧ d4 < n) ∧
            (o0.guard = none ∧ o1.guard = none ∧ o2.guard = none ∧ o3.guard = none ∧ o4.guard = none ∧ o4.dst = none) ∧
            distinctB L = true ∧ drawB (ops.toList.take (ops.size - 5)).toArray L = true ∧ tailB ops (ops.size - 5) = true then some (L ++ [.inc d1 d2 d3 d4 (aggT P kt) ks (.t x) (.t k)]) else none
        | _, _, _ => none
      | _, _, _, _, _ => none
    | _, _, _, _, _ => none
  | _ => none

/-- What becomes of the map. -/
def incV (E : Env) (H : Heap) (ag : Bool) (ks : List Bool) (x k : Opd) : Option Heap := match ev E x, ev E k with
  | some (.h m), some (.v kp) => match mrest H m with
    | some rest => if kok ag ks kp = false then none else match mfind ag ks kp rest with
      | some none => (mset ag ks kp (.w (.int .i64 1)) rest).map fun rest' => setIn H m ⟨false, 0, mkM :: rest'⟩
      | some (some (.w (.int .i64 c))) => (mset ag ks kp (.w (.int .i64 (IntKind.i64.wrap (c + 1)))) rest).map fun rest' => setIn H m ⟨false, 0, mkM :: rest'⟩
      | _ => none
    | none => none
  | _, _ => none

section
variable {P : Program} {C : Cx} {n : Nat} {F : Nat → Prop} {s : St} {a : Act} {W : World} {hdr : Nat → Value} {ow : Nat → Option Nat}

theorem RelAt.reTmps (r : RelAt C n F s a W hdr ow) {a' : Act} {E : Env} {m : Nat} (h1 : a'.defers = []) (h2 : a'.tmps.size = n) (h3 : ∀ t x, find E t = some x → x = .u ∨ (find s.env t = some x ∧ a'.tmps.getD t undef = a.tmps.getD t undef)) : RelAt C n F ⟨E, s.heap, m⟩ a' W hdr ow := by
  refine ⟨r.mem, h1, h2, fun t x hx => ?_, fun t x hx id hid => ?_, r.idsH, r.idsG, r.gh, r.idsR⟩
  · rcases h3 t x hx with rfl | ⟨g1, g2⟩
    · simp [RepA]
    · rw [g2]; exact r.env t x g1
  · rcases h3 t x hx with rfl | ⟨g1, g2⟩
    · simp [AV.men] at hid
    · exact r.idsE t x g1 id hid

/-- A number is looked up. -/
theorem run_look (r : RelAt C n F s a W hdr ow) {t kt e : TypeId} {ks : List Bool} {kp : PV} {kv : Value} {m b : Nat} {rest : List PV} {c : Int} (hd : P.underlying t = some (.map kt e)) (hks : keyKs P 40 kt = some ks) (hz : zeroV P e = some (.w (.int .i64 0)))
    (hr : mrest s.heap m = some rest) (hb : hdr m = .map (some b)) (hkx : RepV W (OK C W s.heap ow) kp kv) (hok : kok (aggT P kt) ks kp = true) (hf : mfind (aggT P kt) ks kp rest = some (some (.w (.int .i64 c))) ∨ (mfind (aggT P kt) ks kp rest = some none ∧ c = 0)) :
    (Instr.lookup t (.map (some b)) kv false).run P W = .ok (.int .i64 c) W := by
  obtain ⟨b', es, q1, q2, q3, q4, q5, _⟩ := map_at r hr
  rw [q2] at hb; cases hb
  obtain ⟨q, hq⟩ : ∃ q, mfind (aggT P kt) ks kp rest = some q := by rcases hf with h | ⟨h, _⟩ <;> exact ⟨_, h⟩
  obtain ⟨pq, g1, g2⟩ := mfind_pos 0 hq
  obtain ⟨rr, g3, g4⟩ := run_find (P := P) hks hkx q5 g1
  have hchk := kok_chk (P := P) hks hkx hok
  unfold Instr.lookup
  simp only [Sem.run_bind, run_underlying hd, Result.andThen_ok, getMap q3, Sem.run_pure, hchk, g3]
  rcases hf with h | ⟨h, rfl⟩
  · rw [hq] at h; cases h
    cases pq with
    | none => cases g2
    | some y =>
      cases rr with
      | none => exact g4.elim
      | some y' =>
        obtain ⟨j, p⟩ := y
        obtain ⟨j', v⟩ := y'
        simp at g2; subst g2
        have := g4.2.wInv.1
        subst this
        simp
  · rw [hq] at h; cases h
    cases pq with
    | some y => cases g2
    | none =>
      cases rr with
      | some y => exact g4.elim
      | none =>
        unfold zeroV at hz
        split at hz
        · rename_i i hi
          obtain ⟨v, w1, w2⟩ := Option.bind_eq_some_iff.1 hz
          have := ((constP_ok (P := P) (W := W) (ok := fun _ => True) w2).wInv).1
          subst this
          simp [run_zero hi w1]
        · cases hz

theorem mpos_shift {ag : Bool} {ks : List Bool} {k : PV} : ∀ (l l2 : List PV) (i : Nat), mpos ag ks k l i = some none → mpos ag ks k (l ++ l2) i = mpos ag ks k l2 (i + l.length)
  | [], l2, i, h => rfl
  | p :: l, l2, i, h => by
    obtain ⟨k1, v1, rfl⟩ : ∃ k1 v1, p = .st [k1, v1] := by
      unfold mpos at h
      split at h
      · cases ‹p :: l = []›
      · rename_i heq; injection heq with e1; exact ⟨_, _, e1⟩
      · cases h
    simp only [mpos, List.cons_append] at h ⊢
    split at h
    · cases h
    · rename_i hk
      rw [mpos_shift l l2 (i + 1) h, List.length_cons]
      congr 1; omega
    · cases h

theorem mfind_of_pos {ag : Bool} {ks : List Bool} {k : PV} : ∀ (l : List PV) (i : Nat) (q : Option (Nat × PV)), mpos ag ks k l i = some q → mfind ag ks k l = some (q.map Prod.snd)
  | [], i, q, h => by simp [mpos] at h; subst h; rfl
  | p :: l, i, q, h => by
    obtain ⟨k1, v1, rfl⟩ : ∃ k1 v1, p = .st [k1, v1] := by
      unfold mpos at h
      split at h
      · cases ‹p :: l = []›
      · rename_i heq; injection heq with e1; exact ⟨_, _, e1⟩
      · cases h
    simp only [mpos, mfind] at h ⊢
    split at h
    · rename_i hk; cases h; rw [hk]; rfl
    · rename_i hk; rw [hk]; exact mfind_of_pos l (i + 1) q h
    · cases h

theorem keq_self_true {ag : Bool} {ks : List Bool} {k : PV} (h : kok ag ks k = true) : keq ag ks k k = some true := by
  have hc : ∀ {ks : List Bool} {cs : List PV} {b : Bool}, eqCells ks cs cs = some b → b = true := by
    intro ks
    induction ks with
    | nil => intro cs b h; exact (eqCells_nil h).2.2
    | cons c ks ih =>
      intro cs b h
      obtain ⟨l, m, r, h1, ⟨_, k, x, y, e1, e2, h2⟩ | ⟨_, x, y, e1, e2, h2⟩⟩ := eqCells_cons h
      · rw [e1] at e2; injection e2 with e2 e3; injection e2 with e2; injection e2 with _ e2; subst e2 e3
        rw [h2, ih h1]; simp
      · rw [e1] at e2; injection e2 with e2 e3; injection e2 with e2; injection e2 with e2; subst e2 e3
        rw [h2, ih h1]; simp
  unfold kok at h
  obtain ⟨b, h⟩ := Option.isSome_iff_exists.1 h
  cases k with
  | st cs =>
    simp only [keq] at h ⊢
    split at h
    · rename_i hag; rw [if_pos hag]; rw [hc h] at h; exact h
    · cases h
  | w v =>
    simp only [keq] at h ⊢
    split at h
    · cases h
    · rename_i hag; rw [if_neg hag]; rw [hc h] at h; exact h
  | _ => simp [keq] at h

/-- The entry of a key, made where there is none. -/
theorem run_entry (r : RelAt C n F s a W hdr ow) {t kt e : TypeId} {ks : List Bool} {kp : PV} {kv : Value} {m b : Nat} {rest : List PV} {c : Int} (hd : P.underlying t = some (.map kt e)) (hks : keyKs P 40 kt = some ks) (hz : zeroV P e = some (.w (.int .i64 0)))
    (hr : mrest s.heap m = some rest) (hb : hdr m = .map (some b)) (hkx : RepV W (OK C W s.heap ow) kp kv) (hok : kok (aggT P kt) ks kp = true) (hf : mfind (aggT P kt) ks kp rest = some (some (.w (.int .i64 c))) ∨ (mfind (aggT P kt) ks kp rest = some none ∧ c = 0)) :
    ∃ (W2 : World) (rest2 : List PV) (st : Nat) (z : Value) (k2 : PV), (Instr.mapEntry t (.map (some b)) kv).run P W = .ok (.tuple #[z, goInt st]) W2 ∧ RelAt C n F { s with heap := setIn s.heap m ⟨false, 0, mkM :: rest2⟩ } a W2 hdr ow ∧
      mfind (aggT P kt) ks kp rest2 = some (some (.w (.int .i64 c))) ∧ st < rest2.length ∧ rest2[st]? = some (.st [k2, .w (.int .i64 c)]) ∧ keq (aggT P kt) ks kp k2 = some true ∧
      (∀ v, mset (aggT P kt) ks kp v rest = some (rest2.set st (.st [kp, v]))) := by
  obtain ⟨b', es, q1, q2, q3, q4, q5, q6⟩ := map_at r hr
  rw [q2] at hb; cases hb
  obtain ⟨q, hq⟩ : ∃ q, mfind (aggT P kt) ks kp rest = some q := by rcases hf with h | ⟨h, _⟩ <;> exact ⟨_, h⟩
  obtain ⟨pq, g1, g2⟩ := mfind_pos 0 hq
  obtain ⟨rr, g3, g4⟩ := run_find (P := P) hks hkx q5 g1
  have hchk := kok_chk (P := P) hks hkx hok
  have hms : ∀ v, ∃ q', mpos (aggT P kt) ks kp rest 0 = some q' ∧ mset (aggT P kt) ks kp v rest = some (match q' with | some (j, _) => rest.set j (.st [kp, v]) | none => rest ++ [.st [kp, v]]) := by
    intro v
    have : ∀ (l : List PV) (i : Nat) (q' : Option (Nat × PV)), mpos (aggT P kt) ks kp l i = some q' → ∃ l', mset (aggT P kt) ks kp v l = some l' := by
      intro l
      induction l with
      | nil => intro i q' h; exact ⟨_, rfl⟩
      | cons p l ih =>
        intro i q' h
        obtain ⟨k1, v1, rfl⟩ : ∃ k1 v1, p = .st [k1, v1] := by
          unfold mpos at h
          split at h
          · cases ‹p :: l = []›
          · rename_i heq; injection heq with e1; exact ⟨_, _, e1⟩
          · cases h
        simp only [mpos, mset] at h ⊢
        split at h
        · rename_i hk; exact ⟨.st [kp, v] :: l, by rw [hk]⟩
        · rename_i hk
          obtain ⟨l', h'⟩ := ih (i + 1) q' h
          exact ⟨.st [k1, v1] :: l', by rw [hk, h']; rfl⟩
        · cases h
    obtain ⟨l', hl'⟩ := this rest 0 pq g1
    obtain ⟨q', h1, h2⟩ := mset_pos 0 hl'
    refine ⟨q', h1, ?_⟩
    cases q' with
    | none => rw [hl', h2]
    | some y => obtain ⟨j, p⟩ := y; rw [hl']; simp only at h2; rw [h2.2.2]; rfl
  cases pq with
  | none =>
    have hf' := hf.resolve_left (fun h => by rw [hq] at h; cases h; cases g2)
    obtain ⟨hf1, rfl⟩ := hf'
    cases rr with
    | some y => exact g4.elim
    | none =>
      obtain ⟨z, hz1, hz2⟩ : ∃ z, (zeroValue e).run P W = .ok z W ∧ z = .int .i64 0 := by
        unfold zeroV at hz
        split at hz
        · rename_i i hi
          obtain ⟨v, w1, w2⟩ := Option.bind_eq_some_iff.1 hz
          have := ((constP_ok (P := P) (W := W) (ok := fun _ => True) w2).wInv).1
          exact ⟨v, run_zero hi w1 W, this⟩
        · cases hz
      subst hz2
      have hes : (es.push ⟨kv, .int .i64 0, rest.length⟩).size = (rest ++ [PV.st [kp, .w (.int .i64 0)]]).length := by simp [q4]
      refine ⟨{ W with heap := W.heap.setIfInBounds b (.map (es.push ⟨kv, .int .i64 0, rest.length⟩) (rest ++ [PV.st [kp, .w (.int .i64 0)]]).length) }, rest ++ [.st [kp, .w (.int .i64 0)]], rest.length, .int .i64 0, kp, ?_, map_write r hr q1 q2 q3 hes ?_ ?_, ?_, by simp, by simp, keq_self_true hok, ?_⟩
      · unfold Instr.mapEntry
        simp only [Sem.run_bind, run_underlying hd, Result.andThen_ok, getMap q3, hchk, g3, hz1, setMap _ q3]
        simp
      · refine entsR_of (hes.symm.trans Array.length_toList.symm) fun j p' x' hp' hx' => ?_
        simp only [Array.toList_push] at hx'
        rw [List.getElem?_append] at hp' hx'
        have hl := (entsR_get q5).1
        split at hp'
        · rename_i hj
          rw [if_pos (by omega)] at hx'
          exact (entsR_get q5).2 j p' x' hp' hx'
        · rename_i hj
          rw [if_neg (by omega)] at hx'
          have : j = rest.length := by
            have := (List.getElem?_eq_some_iff.1 hp').1
            simp at this; omega
          subst this
          rw [hl] at hx'
          simp at hp' hx'
          subst hp' hx'
          exact ⟨kp, _, rfl, hkx, RepV.w rfl⟩
      · intro j x' hx'
        rw [Array.getElem?_push] at hx'
        split at hx'
        · cases hx'; simp only; omega
        · exact q6 j x' hx'
      · have h1 := mpos_shift rest [.st [kp, .w (.int .i64 0)]] 0 g1
        have h2 : mpos (aggT P kt) ks kp [.st [kp, .w (.int .i64 0)]] (0 + rest.length) = some (some (0 + rest.length, .w (.int .i64 0))) := by
          simp [mpos, keq_self_true hok]
        exact mfind_of_pos _ 0 _ (h1.trans h2)
      · intro v
        obtain ⟨q', h1, h2⟩ := hms v
        rw [g1] at h1; cases h1
        rw [h2]; simp
  | some y =>
    obtain ⟨j, v0⟩ := y
    simp at g2
    have hv0 : v0 = .w (.int .i64 c) := by
      rcases hf with h | ⟨h, _⟩
      · rw [hq, ← g2] at h; injection h with h; injection h
      · rw [hq, ← g2] at h; cases h
    subst hv0
    cases rr with
    | none => exact g4.elim
    | some y' =>
      obtain ⟨j', vv⟩ := y'
      obtain ⟨rfl, g5⟩ := g4
      obtain ⟨_, k1, hk1, hkk⟩ := mpos_key rest 0 j _ g1
      rw [Nat.sub_zero] at hk1
      have hj : j < rest.length := (List.getElem?_eq_some_iff.1 hk1).1
      have hjs : j < es.size := by omega
      obtain ⟨k2, v2, e1, hk2, _⟩ := (entsR_get q5).2 j _ es[j] hk1 (by simp [hjs])
      injection e1 with e1; injection e1 with e1 e2; subst e1
      obtain ⟨e3, e4⟩ := keq_true hkx hk2 hkk
      have hstay : (Instr.keyThatStays (((es[j]?).map (·.key)).getD kv) kv).run P W = .ok kv W := by
        unfold Instr.keyThatStays
        simp only [Array.getElem?_eq_getElem hjs, Option.map_some, Option.getD_some, ← e3, e4, if_pos]
        simp
      have hes : (es.modify j fun e => { e with key := kv }) = es := by
        apply Array.ext
        · simp
        · intro i h1 h2
          rw [Array.getElem_modify]
          split
          · rename_i hij; subst hij
            have hx : ∀ (x : MapEntry) (k : Value), k = x.key → ({ x with key := k } : MapEntry) = x := by rintro ⟨k1, k2, k3⟩ k h; simp only at h; subst h; rfl
            exact hx es[j] kv e3
          · rfl
      have hborn : (((es[j]?).map (·.born)).getD 0) = j := by rw [Array.getElem?_eq_getElem hjs]; simp [q6 j es[j] (Array.getElem?_eq_getElem hjs)]
      refine ⟨{ W with heap := W.heap.setIfInBounds b (.map es rest.length) }, rest, j, vv, k1, ?_, map_write r hr q1 q2 q3 q4 q5 q6, hq.trans (by rw [← g2]), hj, hk1, hkk, ?_⟩
      · unfold Instr.mapEntry
        simp only [Sem.run_bind, run_underlying hd, Result.andThen_ok, getMap q3, hchk, g3, hstay, hes, setMap _ q3]
        have hb2 : (Option.map (fun x : MapEntry => (x.born : Int)) es[j]?).getD 0 = (j : Int) := by rw [Array.getElem?_eq_getElem hjs]; simp [q6 j es[j] (Array.getElem?_eq_getElem hjs)]
        simp [hb2]
      · intro v
        obtain ⟨q', h1, h2⟩ := hms v
        rw [g1] at h1; cases h1
        exact h2

theorem run_estore (r : RelAt C n F s a W hdr ow) {t : TypeId} {k2 kp v v' : PV} {kv vv : Value} {m b st : Nat} {rest : List PV} {ag : Bool} {ks : List Bool} (hr : mrest s.heap m = some rest) (hb : hdr m = .map (some b)) (hst : rest[st]? = some (.st [k2, v'])) (hkx : RepV W (OK C W s.heap ow) kp kv) (hkk : keq ag ks kp k2 = some true)
    (hv : RepV W (OK C W s.heap ow) v vv) : ∃ W2, (Instr.entryStore t (.map (some b)) (goInt st) vv).run P W = .ok () W2 ∧ RelAt C n F { s with heap := setIn s.heap m ⟨false, 0, mkM :: rest.set st (.st [kp, v])⟩ } a W2 hdr ow := by
  obtain ⟨b', es, q1, q2, q3, q4, q5, q6⟩ := map_at r hr
  rw [q2] at hb; cases hb
  have hj : st < rest.length := (List.getElem?_eq_some_iff.1 hst).1
  have hjs : st < es.size := by omega
  obtain ⟨k3, v3, e1, hk3, _⟩ := (entsR_get q5).2 st _ es[st] hst (by simp [hjs])
  injection e1 with e1; injection e1 with e1 e2; subst e1
  obtain ⟨e3, e4⟩ := keq_true hkx hk3 hkk
  have hfind : es.findIdx? (fun e => (e.born : Int) == (st : Int)) = some st := by
    rw [Array.findIdx?_eq_some_iff_getElem]
    refine ⟨hjs, by simp [q6 st es[st] (Array.getElem?_eq_getElem hjs)], fun i hi => ?_⟩
    simp [q6 i es[i] (Array.getElem?_eq_getElem (by omega))]; omega
  have hes : (es.modify st fun e => { e with val := vv }).size = (rest.set st (PV.st [kp, v])).length := by simp [q4]
  have hlen : (rest.set st (PV.st [kp, v])).length = rest.length := by simp
  refine ⟨_, ?_, map_write r hr q1 q2 q3 hes ?_ ?_⟩
  · unfold Instr.entryStore
    simp only [Sem.run_bind, getMap q3, Result.andThen_ok, goInt]
    rw [hlen]
    simp [asInt, asIntOf, hfind, setMap _ q3]
  · refine entsR_of (hes.symm.trans Array.length_toList.symm) fun i p' x' hp' hx' => ?_
    rw [Array.getElem?_toList, Array.getElem?_modify] at hx'
    rw [List.getElem?_set] at hp'
    by_cases hij : st = i
    · subst hij
      rw [if_pos rfl, if_pos hj] at hp'
      rw [if_pos rfl, Array.getElem?_eq_getElem hjs] at hx'
      simp at hp' hx'
      subst hp' hx'
      exact ⟨kp, v, rfl, by simp only [← e3]; exact hkx, hv⟩
    · rw [if_neg hij] at hp'
      rw [if_neg hij] at hx'
      exact (entsR_get q5).2 i p' x' hp' (by simpa using hx')
  · intro i x' hx'
    rw [Array.getElem?_modify] at hx'
    split at hx'
    · obtain ⟨x0, h0, rfl⟩ := Option.map_eq_some_iff.1 hx'
      exact q6 i x0 h0
    · exact q6 i x' hx'


/-- What is done of the last operations. -/
structure Stage (n : Nat) (ds : List Nat) (a1 : Act) (W1 W2 : World) (d1 d2 d3 d4 : Nat) (c : Int) (st : Nat) (z : Value) (c1 c2 : Nat) (a : Act) (W : World) : Prop where
  df : a.defers = []
  sz : a.tmps.size = n
  oth : ∀ t, t ∉ ds → a.tmps.getD t undef = a1.tmps.getD t undef
  v1 : 1 ≤ c1 → a.tmps.getD d1 undef = .int .i64 c
  v2 : 2 ≤ c1 → a.tmps.getD d2 undef = .int .i64 (IntKind.i64.wrap (c + 1))
  v3 : 1 ≤ c2 → a.tmps.getD d3 undef = .tuple #[z, goInt st]
  v4 : 2 ≤ c2 → a.tmps.getD d4 undef = goInt st
  w : W = if c2 = 0 then W1 else W2

theorem put_ds {a : Act} {d : Nat} {v : Value} (h : d < a.tmps.size) : (a.put (some d) v).tmps.size = a.tmps.size ∧ (a.put (some d) v).defers = a.defers ∧ ∀ t, (a.put (some d) v).tmps.getD t undef = if t = d then v else a.tmps.getD t undef :=
  ⟨by simp [Act.put], by simp [Act.put], fun t => getD_put t h⟩

end

section
variable {P : Program} {C : Cx} {n : Nat} {ows : List Nat} {ops : Array Oper}

/-- The first operations of a region, in any order; then the rest. -/
theorem draw_pre {L : List MO} {S : Nat → St} {X : Nat → AV} {U nm : Nat → Nat → Prop} {nx p : Nat} {Q : Exit → Act → World → Prop} {opsA : Array Oper} (hA : opsA.size = p) (hAe : ∀ i, i < p → opsA[i]? = ops[i]?) (hp0 : p < ops.size) (hback : ∀ (i : Nat) (o : Oper) (e : Edge), ops[i]? = some o → e ∈ o.after → Region.binds .any e = true → e.on < i)
    (htail : ∀ i, p ≤ i → i < ops.size → ∀ j, j < p → Dp ops i j)
    (hL : ∀ (i : Nat) (o : Oper), i < p → ops[i]? = some o → ∃ mo, L[i]? = some mo ∧ cO P ows n ops o = some mo) (hk : Chk opsA L) (hp : Plan P opsA L S X U nm nx)
    (hT : ∀ (fuel : Nat) (listed : Array Bool) (a : Act) (W : World) (F : Nat → Prop) (hdr : Nat → Value) (ow : Nat → Option Nat), listed.size = ops.size → (∀ j, listed.getD j false = true ↔ j < p) → fuel + p = ops.size → RelAt C n F (S L.length) a W hdr ow →
      (∀ k, F k → k < nx ∨ ∃ (i : Nat) (mo : MO), L[i]? = some mo ∧ news mo nx k) → wpAny P .any ops Q fuel listed a W) :
    ∀ (fuel : Nat) (listed : Array Bool) (a : Act) (W : World) (F : Nat → Prop) (hdr : Nat → Value) (ow : Nat → Option Nat) (s : St),
      listed.size = ops.size → (∀ j, listed.getD j false = true → j < p) → s.nx = nx → Is L S X U (fun i => listed.getD i false = true) s → (∀ j k, listed.getD j false = true → Dp ops j k → listed.getD k false = true) → RelAt C n F s a W hdr ow →
      (∀ k, F k → k < nx ∨ ∃ (i : Nat) (mo : MO), L[i]? = some mo ∧ listed.getD i false = true ∧ news mo nx k) → fuel + cnt listed ops.size = ops.size → wpAny P .any ops Q fuel listed a W := by
  have hlen : L.length = p := by rw [hk.len, hA]
  have hDA : ∀ {i j : Nat}, Dp ops i j → i < p → Dp opsA i j := by
    intro i j h
    induction h with
    | one h1 h2 h3 => intro hi; exact .one (by rw [hAe _ hi]; exact h1) h2 h3
    | step h1 h2 h3 _ ih =>
      intro hi
      exact .step (by rw [hAe _ hi]; exact h1) h2 h3 (ih (by have := hback _ _ _ h1 h2 h3; omega))
  have hAD : ∀ {i j : Nat}, Dp opsA i j → Dp ops i j := by
    intro i j h
    induction h with
    | one h1 h2 h3 =>
      rename_i i o e
      have hi : i < p := by rw [← hA]; exact (Array.getElem?_eq_some_iff.1 h1).1
      exact .one (by rw [← hAe i hi]; exact h1) h2 h3
    | step h1 h2 h3 _ ih =>
      rename_i i k o e _
      have hi : i < p := by rw [← hA]; exact (Array.getElem?_eq_some_iff.1 h1).1
      exact .step (by rw [← hAe i hi]; exact h1) h2 h3 ih
  intro fuel
  induction fuel with
  | zero =>
    intro listed a W F hdr ow s hsz hlt hnx hI hcl r hF hcnt
    exfalso
    have h1 : ((List.range ops.size).filter fun i => listed.getD i false).length = (List.range ops.size).length := by
      simp only [cnt, Nat.zero_add] at hcnt
      rw [hcnt, List.length_range]
    rw [List.length_filter_eq_length_iff] at h1
    have := hlt p (h1 p (List.mem_range.2 hp0))
    omega
  | succ fuel ih =>
    intro listed a W F hdr ow s hsz hlt hnx hI hcl r hF hcnt
    by_cases hall : ∀ j, j < p → listed.getD j false = true
    · have hiff : ∀ j, listed.getD j false = true ↔ j < p := fun j => ⟨hlt j, hall j⟩
      have hc := Is.canon hk hp L.length (Nat.le_refl _)
      have hD : ∀ i, i < L.length → (i < L.length ↔ listed.getD i false = true) := fun i hi => ⟨fun _ => hall i (by omega), fun _ => hi⟩
      have hcp : cnt listed ops.size = p := by
        unfold cnt
        have : (List.range ops.size).filter (fun i => listed.getD i false) = List.range p := by
          have e : List.range ops.size = List.range p ++ (List.range' p (ops.size - p)) := by
            rw [List.range_eq_range', List.range_eq_range']
            have e3 := List.range'_append_1 (s := 0) (m := p) (n := ops.size - p)
            rw [Nat.zero_add] at e3
            rw [e3]; congr 1; omega
          rw [e, List.filter_append]
          have e1 : (List.range p).filter (fun i => listed.getD i false) = List.range p := List.filter_eq_self.2 fun i hi => hall i (List.mem_range.1 hi)
          have e2 : (List.range' p (ops.size - p)).filter (fun i => listed.getD i false) = [] := by
            rw [List.filter_eq_nil_iff]
            intro i hi h
            have := hlt i h
            simp [List.mem_range'] at hi
            omega
          rw [e1, e2, List.append_nil]
        rw [this, List.length_range]
      refine hT (fuel + 1) listed a W F hdr ow hsz hiff (by omega) ?_ fun k hk' => ?_
      · exact r.congr (E := (S L.length).env) (H := (S L.length).heap) (m := (S L.length).nx) (fun t x hx => by
          rw [← hx]
          exact (hc.env_eq hI fun i mo h1 h2 => hD i (List.getElem?_eq_some_iff.1 h1).1).symm) (fun k => hc.heap_eq hI fun i h1 h2 => hD i h1)
      · rcases hF k hk' with h | ⟨i, mo, h1, _, h2⟩
        · exact .inl h
        · exact .inr ⟨i, mo, h1, h2⟩
    · refine ⟨fun hready => ?_, fun i hi => ?_⟩
      · exact (hall fun j hj => ready_nil hback hsz hready j (by omega)).elim
      · rw [mem_ready] at hi
        obtain ⟨h0, o, ho, hedges⟩ := hi
        have hio := (Array.getElem?_eq_some_iff.1 ho).1
        have hlt2 : i < listed.size := by omega
        have hnl : listed.getD i false = false := by
          simp only [Array.getD_eq_getD_getElem?, Array.getElem?_eq_getElem hlt2, Option.getD_some] at h0 ⊢
          exact h0
        have hr : ∀ k, Dp ops i k → listed.getD k false = true := by
          intro k hdp
          cases hdp with
          | one h1 h2 h3 =>
            rw [ho] at h1; cases h1
            exact hedges _ h2 h3
          | step h1 h2 h3 h4 =>
            rw [ho] at h1; cases h1
            exact hcl _ k (hedges _ h2 h3) h4
        have hip : i < p := by
          rcases Nat.lt_or_ge i p with h | h
          · exact h
          · exact (hall fun j hj => hr j (htail i h hio j hj)).elim
        obtain ⟨mo, hmo, hcO⟩ := hL i o hip ho
        obtain ⟨s0, s1, q, g1, g2, g3, g4, g5, g6⟩ := Is.next hk hp hI hnx hmo (by simp only [hnl]; exact Bool.false_ne_true) (fun j k hj hd => hcl j k hj (hAD hd)) (fun k hd => hr k (hAD hd))
        have hset : ∀ j, ((listed.setIfInBounds i true).getD j false = true ↔ listed.getD j false = true ∨ j = i) := by
          intro j
          by_cases hji : j = i
          · subst hji; simp [hlt2]
          · rw [getD_set_ne false (Ne.symm hji)]; simp [hji]
        have r0 : RelAt C n F s0 a W hdr ow := by
          have := r.congr (E := s0.env) (H := s0.heap) (m := s0.nx) (fun t x hx => by rw [← g1]; exact hx) g2
          exact this
        have hfr : ∀ k, news mo nx k → ¬ F k := by
          intro k hn hFk
          rcases hF k hFk with h | ⟨j, moj, h1, h2, h3⟩
          · obtain ⟨d, _, b, _, e⟩ := hn; omega
          · have := news_one hk hmo h1 hn h3
            subst this
            rw [hnl] at h2; cases h2
        refine step_ok (ows := ows) g4 ho hcO r0 (by rw [g3]; exact hfr) ?_
        intro a' W' hdr' ow' r'
        rw [g3] at r'
        refine ih (listed.setIfInBounds i true) a' W' _ hdr' ow' s1 (by simpa using hsz) ?_ g5 ?_ ?_ r' ?_ ?_
        · intro j hj
          rcases (hset j).1 hj with h | rfl
          · exact hlt j h
          · exact hip
        · have e : (fun j => (listed.setIfInBounds i true).getD j false = true) = fun j => listed.getD j false = true ∨ j = i := funext fun j => propext (hset j)
          rw [e]; exact g6
        · intro j k hj hd
          rw [hset] at hj ⊢
          rcases hj with hj | rfl
          · exact .inl (hcl j k hj hd)
          · exact .inl (hr k hd)
        · intro k hk'
          rcases hk' with h | h
          · rcases hF k h with h | ⟨j, moj, h1, h2, h3⟩
            · exact .inl h
            · exact .inr ⟨j, moj, h1, (hset j).2 (.inl h2), h3⟩
          · exact .inr ⟨i, mo, hmo, (hset i).2 (.inr rfl), h⟩
        · have : cnt (listed.setIfInBounds i true) ops.size = cnt listed ops.size + 1 := by
            unfold cnt
            exact filter_one (i := i) _ List.nodup_range (List.mem_range.2 hio) hnl (by simp [hlt2]) fun j hj => by rw [getD_set_ne false (Ne.symm hj)]
          omega


theorem ev_t {E : Env} {t : Nat} : ev E (.t t) = find E t := rfl

/-- The last five operations, in any of their orders. -/
theorem tail_any {p : Nat} {o0 o1 o2 o3 o4 : Oper} {t t1 kt e : TypeId} {x k d1 d2 d3 d4 : Nat} {ks : List Bool} {tb : TypeId} {Q : Exit → Act → World → Prop} {F : Nat → Prop} {s1 : St} {a1 : Act} {W1 : World} {hdr : Nat → Value} {ow : Nat → Option Nat} {H' : Heap}
    (h0 : ops[p]? = some o0) (h1 : ops[p + 1]? = some o1) (h2 : ops[p + 2]? = some o2) (h3 : ops[p + 3]? = some o3) (h4 : ops[p + 4]? = some o4) (hsz : ops.size = p + 5)
    (e0 : o0.op = .lookup t (.tmp x) (.tmp k) false) (e1 : o1.op = .binOp .add t1 (.tmp d1) (.const (.int .i64 1)) tb) (e2 : o2.op = .mapEntry t (.tmp x) (.tmp k)) (e3 : o3.op = .extract (.tmp d3) 1) (e4 : o4.op = .entryStore t (.tmp x) (.tmp d4) (.tmp d2))
    (f0 : o0.dst = some d1) (f1 : o1.dst = some d2) (f2 : o2.dst = some d3) (f3 : o3.dst = some d4) (f4 : o4.dst = none) (g0 : o0.guard = none) (g1 : o1.guard = none) (g2 : o2.guard = none) (g3 : o3.guard = none) (g4 : o4.guard = none)
    (hback : ∀ (i : Nat) (o : Oper) (e : Edge), ops[i]? = some o → e ∈ o.after → Region.binds .any e = true → e.on < i) (hD1 : Dp ops (p + 1) p) (hD3 : Dp ops (p + 3) (p + 2)) (hD4 : Dp ops (p + 4) (p + 1)) (hD5 : Dp ops (p + 4) (p + 3))
    (hnd : [d1, d2, d3, d4].Nodup) (hx : x ∉ [d1, d2, d3, d4]) (hk : k ∉ [d1, d2, d3, d4]) (l1 : d1 < n) (l2 : d2 < n) (l3 : d3 < n) (l4 : d4 < n) (hd : P.underlying t = some (.map kt e)) (hks : keyKs P 40 kt = some ks) (hz : zeroV P e = some (.w (.int .i64 0)))
    (hinc : incV s1.env s1.heap (aggT P kt) ks (.t x) (.t k) = some H') (r : RelAt C n F s1 a1 W1 hdr ow) {m : Nat}
    (hQ : ∀ a' W' hdr' ow', RelAt C n F ⟨(d4, .u) :: (d3, .u) :: (d2, .u) :: (d1, .u) :: s1.env, H', m⟩ a' W' hdr' ow' → Q .normal a' W')
    {listed : Array Bool} (hls : listed.size = ops.size) (hl : ∀ j, listed.getD j false = true ↔ j < p) (hcl0 : ∀ i, p ≤ i → i < ops.size → ∀ j, j < p → Dp ops i j) : wpAny P .any ops Q 5 listed a1 W1 := by
  unfold incV at hinc
  split at hinc
  · rename_i mm kp hu hv
    split at hinc
    · rename_i rest hr
      split at hinc
      · cases hinc
      · rename_i hok
        have hok : kok (aggT P kt) ks kp = true := by cases h : kok (aggT P kt) ks kp <;> simp [h] at hok ⊢
        obtain ⟨c, hf, hm⟩ : ∃ c : Int, (mfind (aggT P kt) ks kp rest = some (some (.w (.int .i64 c))) ∨ (mfind (aggT P kt) ks kp rest = some none ∧ c = 0)) ∧ (mset (aggT P kt) ks kp (.w (.int .i64 (IntKind.i64.wrap (c + 1)))) rest).map (fun rest' => setIn s1.heap mm ⟨false, 0, mkM :: rest'⟩) = some H' := by
          split at hinc
          · rename_i hf; exact ⟨0, .inr ⟨hf, rfl⟩, by rw [show IntKind.i64.wrap (0 + 1) = 1 from by decide]; exact hinc⟩
          · rename_i c hf; exact ⟨c, .inl hf, hinc⟩
          · cases hinc
        have hux := r.env x _ hu
        have hkx := r.env k _ hv
        simp only [RepA] at hux hkx
        obtain ⟨kv, hkv⟩ : ∃ kv, a1.tmps.getD k undef = kv := ⟨_, rfl⟩
        rw [hkv] at hkx
        obtain ⟨en, g, hfe, _⟩ := mrest_ent hr
        obtain ⟨b, es, q1, q2, _⟩ := map_at r hr
        have hxv := hux en hfe
        rw [q2] at hxv
        obtain ⟨W2, rest2, st, z, k2, w1, w2, w3, w4, w5, w6, w7⟩ := run_entry r hd hks hz hr q2 hkx hok hf
        have hlook1 := run_look r hd hks hz hr q2 hkx hok hf
        have hr2 : mrest (setIn s1.heap mm ⟨false, 0, mkM :: rest2⟩) mm = some rest2 := by
          unfold mrest
          rw [find_setIn, if_pos rfl, hfe]
          rfl
        have hkx2 : RepV W2 (OK C W2 (setIn s1.heap mm ⟨false, 0, mkM :: rest2⟩) ow) kp kv := by
          have := w2.env k _ hv
          rw [hkv] at this
          simpa only [RepA] using this
        have hlook2 := run_look w2 hd hks hz hr2 q2 hkx2 hok (.inl w3)
        obtain ⟨W3, y1, y2⟩ := run_estore (P := P) (t := t) (v := .w (.int .i64 (IntKind.i64.wrap (c + 1)))) (vv := .int .i64 (IntKind.i64.wrap (c + 1))) w2 hr2 q2 w5 hkx2 w6 (RepV.w rfl)
        rw [w7] at hm
        simp only [Option.map_some, Option.some.injEq] at hm
        have hfin : ∀ (a : Act) (W : World), Stage n [d1, d2, d3, d4] a1 W1 W2 d1 d2 d3 d4 c st z 2 2 a W → Q .normal (a.put none undef) W3 := by
          intro a W hs
          refine hQ _ _ hdr ow ?_
          have := y2.reTmps (a' := a.put none undef) (E := (d4, .u) :: (d3, .u) :: (d2, .u) :: (d1, .u) :: s1.env) (m := m) hs.df hs.sz ?_
          · subst hm
            refine this.congr (fun _ _ h => h) (fun j => ?_)
            simp only [find_setIn]
            by_cases hj : j = mm
            · subst hj; simp [hfe]
            · simp [hj]
          · intro tt xx hxx
            simp only [find_cons] at hxx
            by_cases a4 : tt = d4
            · rw [if_pos a4] at hxx; cases hxx; exact .inl rfl
            rw [if_neg a4] at hxx
            by_cases a3 : tt = d3
            · rw [if_pos a3] at hxx; cases hxx; exact .inl rfl
            rw [if_neg a3] at hxx
            by_cases a2 : tt = d2
            · rw [if_pos a2] at hxx; cases hxx; exact .inl rfl
            rw [if_neg a2] at hxx
            by_cases a0 : tt = d1
            · rw [if_pos a0] at hxx; cases hxx; exact .inl rfl
            rw [if_neg a0] at hxx
            exact .inr ⟨hxx, hs.oth tt (by simp [a0, a2, a3, a4])⟩
        simp only [List.nodup_cons, List.mem_cons, List.not_mem_nil, or_false, not_or, List.nodup_nil, and_true, not_false_eq_true] at hnd hx hk
        obtain ⟨⟨n12, n13, n14⟩, ⟨n23, n24⟩, n34⟩ := hnd
        have key : ∀ (fuel c1 c2 : Nat) (listed : Array Bool) (a : Act) (W : World), c1 ≤ 2 → c2 ≤ 2 → fuel + c1 + c2 = 5 → listed.size = ops.size →
            (∀ j, listed.getD j false = true ↔ (j < p ∨ (j = p ∧ 1 ≤ c1) ∨ (j = p + 1 ∧ 2 ≤ c1) ∨ (j = p + 2 ∧ 1 ≤ c2) ∨ (j = p + 3 ∧ 2 ≤ c2))) → (∀ j k, listed.getD j false = true → Dp ops j k → listed.getD k false = true) → Stage n [d1, d2, d3, d4] a1 W1 W2 d1 d2 d3 d4 c st z c1 c2 a W → wpAny P .any ops Q fuel listed a W := by
          intro fuel
          induction fuel with
          | zero => intro c1 c2 listed a W hc1 hc2 hf; omega
          | succ fuel ih =>
            intro c1 c2 listed a W hc1 hc2 hf hls hl hcl hs
            have hlast : listed.getD (p + 4) false ≠ true := by rw [ne_eq, hl]; omega
            refine ⟨fun hready => (hlast (ready_nil hback (by omega) hready (p + 4) (by omega))).elim, fun i hi => ?_⟩
            rw [mem_ready] at hi
            obtain ⟨hn0, o, ho, hedges⟩ := hi
            have hio := (Array.getElem?_eq_some_iff.1 ho).1
            have hnl : ¬ listed.getD i false = true := by
              have hlt2 : i < listed.size := by omega
              simp only [Array.getD_eq_getD_getElem?, Array.getElem?_eq_getElem hlt2, Option.getD_some] at hn0 ⊢
              rw [hn0]; simp
            have hr : ∀ k, Dp ops i k → listed.getD k false = true := by
              intro k' hdp
              cases hdp with
              | one h1 h2 h3 =>
                rw [ho] at h1; cases h1
                exact hedges _ h2 h3
              | step h1 h2 h3 h4 =>
                rw [ho] at h1; cases h1
                exact hcl _ k' (hedges _ h2 h3) h4
            have hset : ∀ j, ((listed.setIfInBounds i true).getD j false = true ↔ listed.getD j false = true ∨ j = i) := by
              intro j
              by_cases hji : j = i
              · subst hji
                have hlt2 : j < listed.size := by omega
                simp [hlt2]
              · rw [getD_set_ne false (Ne.symm hji)]; simp [hji]
            have hcl' : ∀ j k, (listed.setIfInBounds i true).getD j false = true → Dp ops j k → (listed.setIfInBounds i true).getD k false = true := by
              intro j k' hj hd'
              rw [hset] at hj ⊢
              rcases hj with hj | rfl
              · exact .inl (hcl j k' hj hd')
              · exact .inl (hr k' hd')
            have hls' : (listed.setIfInBounds i true).size = ops.size := by simpa using hls
            have hxa : a.eval (.tmp x) = .map (some b) := by
              show a.tmps.getD x undef = _
              rw [hs.oth x (by simp [hx]), hxv]
            have hka : a.eval (.tmp k) = kv := (hs.oth k (by simp [hk])).trans hkv
            have hcase : i = p ∨ i = p + 1 ∨ i = p + 2 ∨ i = p + 3 ∨ i = p + 4 := by
              have h1 : ¬ i < p := fun h => hnl ((hl i).2 (.inl h))
              omega
            unfold wpOp
            rcases hcase with rfl | rfl | rfl | rfl | rfl
            · rw [h0] at ho ⊢; cases ho
              simp only
              rw [if_pos (by simp [Region.wanted, g0])]
              left
              have hc10 : c1 = 0 := by
                rcases Nat.eq_zero_or_pos c1 with h | h
                · exact h
                · exact (hnl ((hl _).2 (.inr (.inl ⟨rfl, h⟩)))).elim
              subst hc10
              have hrun : (Instr.lookup t (.map (some b)) kv false).run P W = .ok (.int .i64 c) W := by
                rw [hs.w]; split
                · exact hlook1
                · exact hlook2
              refine wp_value (v := .int .i64 c) (W' := W) (by simp [execOp, e0, hxa, hka, hrun]) ?_
              rw [f0]
              obtain ⟨b1, b2, b3⟩ := put_ds (a := a) (d := d1) (v := .int .i64 c) (by rw [hs.sz]; exact l1)
              refine ih 1 c2 _ _ _ (by omega) hc2 (by omega) hls' (fun j => by rw [hset, hl]; omega) hcl' ⟨by rw [b2]; exact hs.df, by rw [b1]; exact hs.sz, fun tt ht => ?_, fun _ => by rw [b3, if_pos rfl], fun h => by omega, fun h => ?_, fun h => ?_, hs.w⟩
              · rw [b3, if_neg (by rintro rfl; simp at ht)]; exact hs.oth tt ht
              · rw [b3, if_neg (fun h => n13 h.symm)]; exact hs.v3 h
              · rw [b3, if_neg (fun h => n14 h.symm)]; exact hs.v4 h
            · rw [h1] at ho ⊢; cases ho
              simp only
              rw [if_pos (by simp [Region.wanted, g1])]
              left
              have hp1 := (hl _).1 (hr _ hD1)
              have hc11 : c1 = 1 := by
                rcases Nat.lt_or_ge c1 2 with h | h
                · omega
                · exact (hnl ((hl _).2 (.inr (.inr (.inl ⟨rfl, h⟩))))).elim
              subst hc11
              have hv1 : a.eval (.tmp d1) = .int .i64 c := hs.v1 (by omega)
              have hrun := run_intBin (P := P) (W := W) (op := .add) (k := .i64) (x := c) (y := 1) t1 (.tmp d1) (.const (.int .i64 1)) (z := .int .i64 (IntKind.i64.wrap (c + 1))) (by simp [intBin])
              refine wp_value (v := .int .i64 (IntKind.i64.wrap (c + 1))) (W' := W) (by
                have hc1 : a.eval (.const (.int .i64 1)) = .int .i64 1 := rfl
                simp [execOp, e1, hv1, hc1, eqGuard, binOp, Op.intArith]) ?_
              rw [f1]
              obtain ⟨b1, b2, b3⟩ := put_ds (a := a) (d := d2) (v := .int .i64 (IntKind.i64.wrap (c + 1))) (by rw [hs.sz]; exact l2)
              refine ih 2 c2 _ _ _ (by omega) hc2 (by omega) hls' (fun j => by rw [hset, hl]; omega) hcl' ⟨by rw [b2]; exact hs.df, by rw [b1]; exact hs.sz, fun tt ht => ?_, fun _ => ?_, fun _ => by rw [b3, if_pos rfl], fun h => ?_, fun h => ?_, hs.w⟩
              · rw [b3, if_neg (by rintro rfl; simp at ht)]; exact hs.oth tt ht
              · rw [b3, if_neg n12]; exact hs.v1 (by omega)
              · rw [b3, if_neg (fun h => n23 h.symm)]; exact hs.v3 h
              · rw [b3, if_neg (fun h => n24 h.symm)]; exact hs.v4 h
            · rw [h2] at ho ⊢; cases ho
              simp only
              rw [if_pos (by simp [Region.wanted, g2])]
              left
              have hc20 : c2 = 0 := by
                rcases Nat.eq_zero_or_pos c2 with h | h
                · exact h
                · exact (hnl ((hl _).2 (.inr (.inr (.inr (.inl ⟨rfl, h⟩)))))).elim
              subst hc20
              have hW : W = W1 := by rw [hs.w]; rfl
              subst hW
              refine wp_value (v := .tuple #[z, goInt st]) (W' := W2) (by simp [execOp, e2, hxa, hka, w1]) ?_
              rw [f2]
              obtain ⟨b1, b2, b3⟩ := put_ds (a := a) (d := d3) (v := .tuple #[z, goInt st]) (by rw [hs.sz]; exact l3)
              refine ih c1 1 _ _ _ hc1 (by omega) (by omega) hls' (fun j => by rw [hset, hl]; omega) hcl' ⟨by rw [b2]; exact hs.df, by rw [b1]; exact hs.sz, fun tt ht => ?_, fun h => ?_, fun h => ?_, fun _ => by rw [b3, if_pos rfl], fun h => by omega, by simp⟩
              · rw [b3, if_neg (by rintro rfl; simp at ht)]; exact hs.oth tt ht
              · rw [b3, if_neg n13]; exact hs.v1 h
              · rw [b3, if_neg n23]; exact hs.v2 h
            · rw [h3] at ho ⊢; cases ho
              simp only
              rw [if_pos (by simp [Region.wanted, g3])]
              left
              have hp1 := (hl _).1 (hr _ hD3)
              have hc21 : c2 = 1 := by
                rcases Nat.lt_or_ge c2 2 with h | h
                · omega
                · exact (hnl ((hl _).2 (.inr (.inr (.inr (.inr ⟨rfl, h⟩)))))).elim
              subst hc21
              have hv3 : a.eval (.tmp d3) = .tuple #[z, goInt st] := hs.v3 (by omega)
              refine wp_value (v := goInt st) (W' := W) (by simp [execOp, e3, Instr.extract, hv3]) ?_
              rw [f3]
              obtain ⟨b1, b2, b3⟩ := put_ds (a := a) (d := d4) (v := goInt st) (by rw [hs.sz]; exact l4)
              refine ih c1 2 _ _ _ hc1 (by omega) (by omega) hls' (fun j => by rw [hset, hl]; omega) hcl' ⟨by rw [b2]; exact hs.df, by rw [b1]; exact hs.sz, fun tt ht => ?_, fun h => ?_, fun h => ?_, fun h => ?_, fun _ => by rw [b3, if_pos rfl], hs.w⟩
              · rw [b3, if_neg (by rintro rfl; simp at ht)]; exact hs.oth tt ht
              · rw [b3, if_neg n14]; exact hs.v1 h
              · rw [b3, if_neg n24]; exact hs.v2 h
              · rw [b3, if_neg n34]; exact hs.v3 (by omega)
            · rw [h4] at ho ⊢; cases ho
              simp only
              rw [if_pos (by simp [Region.wanted, g4])]
              left
              have hp1 := (hl _).1 (hr _ hD4)
              have hp2 := (hl _).1 (hr _ hD5)
              have hc12 : c1 = 2 := by omega
              have hc22 : c2 = 2 := by omega
              subst hc12 hc22
              have hfu : fuel = 0 := by omega
              subst hfu
              have hW : W = W2 := by rw [hs.w]; rfl
              subst hW
              have hv2 : a.eval (.tmp d2) = .int .i64 (IntKind.i64.wrap (c + 1)) := hs.v2 (by omega)
              have hv4 : a.eval (.tmp d4) = goInt st := hs.v4 (by omega)
              refine wp_skipV (W' := W3) (by simp only [execOp, e4, hxa, hv2, hv4, Sem.run_bind, y1]; rfl) ?_
              rw [f4]
              refine ⟨?_, hfin a W hs⟩
              apply List.eq_nil_iff_forall_not_mem.2
              intro j hj
              rw [mem_ready] at hj
              obtain ⟨hj0, oj, hoj, _⟩ := hj
              have hjl := (Array.getElem?_eq_some_iff.1 hoj).1
              have h1 : (listed.setIfInBounds (p + 4) true).getD j false = true := by rw [hset, hl]; omega
              have hlt2 : j < (listed.setIfInBounds (p + 4) true).size := by omega
              simp only [Array.getD_eq_getD_getElem?, Array.getElem?_eq_getElem hlt2, Option.getD_some] at hj0 h1
              rw [hj0] at h1; cases h1
        exact key 5 0 0 listed a1 W1 (by omega) (by omega) rfl hls (fun j => by rw [hl]; omega) (fun j k' hj hd' => by rw [hl] at hj ⊢; have := Dp.lt hback hd'; omega) ⟨r.defers, r.tsz, fun _ _ => rfl, fun h => by omega, fun h => by omega, fun h => by omega, fun h => by omega, rfl⟩
    · cases hinc
  · cases hinc


/-- A region that ends with a count going up. -/
theorem reg_inc {rid : Nat} {L : List MO} {Q : Exit → Act → World → Prop} {s s' : St} {a : Act} {W : World} {hdr : Nat → Value} {ow : Nat → Option Nat} {d1 d2 d3 d4 : Nat} {ag : Bool} {ks : List Bool} {x k : Opd} {H' : Heap}
    (hc : cInc P ows n ops = some (L ++ [.inc d1 d2 d3 d4 ag ks x k])) (hm : P.follows .mixedOrders = true) (h : RChain P true s L s') (hinc : incV s'.env s'.heap ag ks x k = some H') (r : RelAt C n (· < s.nx) s a W hdr ow)
    (hQ : ∀ a' W' hdr' ow', RelAt C n (· < s.nx + 8192) ⟨(d4, .u) :: (d3, .u) :: (d2, .u) :: (d1, .u) :: s'.env, H', s.nx + 8192⟩ a' W' hdr' ow' → Q .normal a' W') : (Code.region rid ops true).wp P Q a W := by
  unfold cInc at hc
  split at hc
  · rename_i o0 o1 o2 o3 o4 hdrop
    split at hc
    · rename_i t x0 k0 t1 e1 tb t2 x2 k2 e3 t4 x4 e4 e2 q0 q1 q2 q3 q4
      split at hc
      · rename_i d1' d2' d3' d4' kt e f0 f1 f2 f3 hd
        split at hc
        · rename_i ks' L' hks hz hL
          split at hc
          · rename_i hcond
            obtain ⟨⟨a1, a2, a3, a4, a5, a6, a7, a8, a9⟩, ⟨b1, b2, b3, l1, l2, l3, l4⟩, ⟨g0, g1, g2, g3, g4, f4⟩, hdis, hdraw, htl⟩ := hcond
            simp only [Option.some.injEq] at hc
            obtain ⟨rfl, hlast⟩ := List.append_inj' hc rfl
            simp only [List.cons.injEq, MO.inc.injEq, and_true] at hlast
            obtain ⟨rfl, rfl, rfl, rfl, rfl, rfl, rfl, rfl⟩ := hlast
            subst a1 a2 a3 a4 a5 a6 a7 a8 a9
            have hsz : ops.size = (ops.size - 5) + 5 := by
              have := congrArg List.length hdrop
              simp at this; omega
            generalize hp : ops.size - 5 = p at *
            have hget : ∀ i, i < 5 → ops[p + i]? = [o0, o1, o2, o3, o4][i]? := by
              intro i hi
              rw [← hdrop, List.getElem?_drop, Array.getElem?_toList]
            have hAsz : (ops.toList.take p).toArray.size = p := by simp; omega
            have hAe : ∀ i, i < p → (ops.toList.take p).toArray[i]? = ops[i]? := by
              intro i hi
              simp [List.getElem?_take, hi]
            simp only [tailB, Bool.and_eq_true, List.all_eq_true] at htl
            obtain ⟨⟨⟨⟨⟨t1', t2'⟩, t3⟩, t4⟩, t5⟩, t6⟩ := htl
            have hms : ∀ k j, ((masks [] ops.toList).getD k 0).testBit j = true → Dp ops k j := masks_ok ops.toList [] (by simp) (by intro i o h; simpa using h)
            have hback : ∀ (i : Nat) (o : Oper) (e : Edge), ops[i]? = some o → e ∈ o.after → Region.binds .any e = true → e.on < i := by
              intro i o e ho he hbe
              have h1 := t1' (o, i) (by rw [List.mem_zipIdx_iff_getElem?]; simpa using ho)
              have h2 := h1 e (by simpa using he)
              simp only [hbe, Bool.not_true, Bool.false_or, decide_eq_true_eq] at h2
              exact h2
            have htail : ∀ i, p ≤ i → i < ops.size → ∀ j, j < p → Dp ops i j := by
              intro i h1 h2 j hj
              have := t2' (i - p) (by simp; omega) j (by simpa using hj)
              rw [show p + (i - p) = i by omega] at this
              exact hms i j this
            obtain ⟨hlen, hgetL⟩ := mapO_get hL
            rw [List.length_take, toListLen] at hlen
            have hk := chk_ok (ops' := ops) (by simpa using hL) hdis hdraw
            obtain ⟨S, h0, h1, h2, h3⟩ := chain_states h
            have hF0 : ∀ t x k, find (S 0).env t = some x → x.men k → k < s.nx := fun t x k hx hm' => by rw [h0] at hx; exact r.idsE t x hx k hm'
            obtain ⟨X, U, nm, hpl⟩ := plan_ok hk h2 h3 hF0
            have hsmall : ∀ (i : Nat) (mo : MO), L'[i]? = some mo → ∀ t, mo.dst = some t → t < 1024 := fun i mo hi t ht => hk.small i mo t hi ht
            refine wp_region_any hm ?_
            refine draw_pre (C := C) (ows := ows) (S := S) (nx := s.nx) (p := p) hAsz hAe (by omega) hback htail (fun i o hi ho => hgetL i o (by rw [List.getElem?_take, if_pos hi, Array.getElem?_toList]; exact ho)) hk hpl ?_ ops.size _ a _ (· < s.nx) hdr ow (S 0) (by simp) ?_ (h2 0 (by omega)) ?_ ?_ ?_ (fun k h => .inl h) ?_
            · intro fuel listed a' W' F' hdr' ow' hls hl hfu r' hF'
              have hf5 : fuel = 5 := by omega
              subst hf5
              rw [h1] at r'
              refine tail_any (hget 0 (by omega)) (hget 1 (by omega)) (hget 2 (by omega)) (hget 3 (by omega)) (hget 4 (by omega)) hsz q0 q1 q2 q3 q4 f0 f1 f2 f3 f4 g0 g1 g2 g3 g4 hback (hms _ _ t3) (hms _ _ t4) (hms _ _ t5) (hms _ _ t6) b1 b2 b3 l1 l2 l3 l4 hd hks hz hinc r' (m := s.nx + 8192) ?_ hls hl htail
              intro a'' W'' hdr'' ow'' r''
              refine hQ a'' W'' hdr'' ow'' (r''.monoF fun k hk' => ?_)
              rcases hF' k hk' with h | ⟨i, mo, hi, hn⟩
              · omega
              · exact (news_lt hn (hsmall i mo hi)).2
            · intro j hj
              simp [Array.getD_eq_getD_getElem?, Array.getElem?_replicate] at hj
              split at hj <;> simp at hj
            · have hno : ∀ i : Nat, ¬ (Array.replicate ops.size false).getD i false = true := by
                intro i h
                simp [Array.getD_eq_getD_getElem?, Array.getElem?_replicate] at h
                split at h <;> simp at h
              exact ⟨fun i h => (hno i h).elim, fun t i mo _ _ h => (hno i h).elim, fun _ _ => rfl, fun k p h => (hno p h).elim, fun _ _ => rfl⟩
            · intro j k h
              simp [Array.getD_eq_getD_getElem?, Array.getElem?_replicate] at h
              split at h <;> simp at h
            · have r0 := r.same (W' := { W with drawn := W.drawn + 1 }) ⟨rfl, rfl, rfl, rfl, fun _ => Nat.le_succ _⟩
              rw [h0]
              exact r0
            · have : cnt (Array.replicate ops.size false) ops.size = 0 := by
                unfold cnt
                rw [List.length_eq_zero_iff, List.filter_eq_nil_iff]
                intro i _ h
                simp [Array.getD_eq_getD_getElem?, Array.getElem?_replicate] at h
                split at h <;> simp at h
              omega
          · cases hc
        · cases hc
      · cases hc
    · cases hc
  · cases hc

end
end Go.AM
/- Running through the code: the rules. -/
set_option linter.all false
namespace Go.AM
open Go
variable [dr : Inhabited Prop]

section
variable (P : Program) (ows : List Nat) (n : Nat)
def isPanic : Oper → Bool
  | { op := .panic _, .. } => true
  | _ => false
def cC : Code → Option MC
  | .skip => some .skip
  | .region _ ops draw => match mapO (cO P ows n ops) ops.toList with
    | some L => if distinctB L = true ∧ (draw = true → drawB ops L = true ∧ P.follows .mixedOrders = true) then some (.reg draw L) else none
    | none => match (if draw = true then none else cNext P n ops) with
      | some m => some m
      | none => match (if draw = true ∧ P.follows .mixedOrders = true then cInc P ows n ops else none) with
        | some L => some (.reg true L)
        | none => if ops.toList.any isPanic = true then some .bad else none
  | .seq a b => match cC a, cC b with
    | some a, some b => some (.seq a b)
    | _, _ => none
  | .cond c a b => match opd P 0 c, cC a, cC b with
    | some c, some a, some b => some (.cond c a b)
    | _, _, _ => none
  | .block id b => (cC b).map (.block id)
  | .loop b => (cC b).map .loop
  | .exit id => some (.exit id)
  | .ret => some .ret
  | _ => none
end

inductive MI where
  | code (c : MC)
  | inBlock (id : Nat)
  | inLoop (c : MC)
  | stop

def mexit (id : Nat) : List MI → Option (List MI)
  | .inBlock j :: k => if j = id then some k else mexit id k
  | .stop :: k => (mexit id k).map (MI.stop :: ·)
  | .code _ :: k => mexit id k
  | .inLoop _ :: k => mexit id k
  | [] => none

section
variable (P : Program) (ows : List Nat) (n : Nat)
inductive Mt : MI → Item → Prop
  | code {c : Code} {m : MC} : cC P ows n c = some m → Mt (.code m) (.code c)
  | inBlock {id : Nat} : Mt (.inBlock id) (.inBlock id)
  | inLoop {c : Code} {m : MC} : cC P ows n c = some m → Mt (.inLoop m) (.inLoop c)
inductive Mts : List MI → List Item → Prop
  | nil : Mts [] []
  | cons {x : MI} {y : Item} {k : List MI} {l : List Item} : Mt P ows n x y → Mts k l → Mts (x :: k) (y :: l)
  | stop {k : List MI} {l : List Item} : Mts k l → Mts (.stop :: k) l
end

/-- A function: its number, the cuts that take a row over, how many slots, which hold the results. -/
structure Fd where
  f : FuncId
  ows : List Nat
  n : Nat
  rs : List Nat

/-- What is to come out: the result, the rows; how many rows were handed over. -/
structure Gl where
  nin : Nat
  res : AV
  H' : Heap

def Done (P : Program) (C : Cx) (G : Gl) (v : Value) (W' : World) : Prop :=
  ∃ hdr' ow', Mem C W' G.H' hdr' ow' ∧ RepA W' (OK C W' G.H' ow') hdr' G.H' G.res v ∧ ∀ k, k < G.nin → ∀ e', find G.H' k = some e' → hdr' k = C.hdr0 k

/-- Which slot a result comes out of (a place that is read at the end: its slot, its type, its cells in one number). -/
def resOf (P : Program) : ResultVar → Option Nat
  | .tmp t => if t < 1000000 then some t else none
  | .cell a t => if a < 1000000 ∧ t < 999999 ∧ knownT P t = true then some (a + 1000000 * (t + 1) + 1000000000000 * (2 * szT P t + (if aggT P t = true then 1 else 0))) else none

def FnIs (P : Program) (D : Fd) (fn : Func) : Prop := P.funcs[D.f]? = some fn ∧ mapO (resOf P) fn.results.toList = some D.rs

/-- From the state s on, with the code k ahead, the function comes to G. -/
def Run (P : Program) (D : Fd) (G : Gl) (k : List MI) (s : St) : Prop :=
  ∀ (C : Cx) (fn : Func) (a : Act) (W : World) (hdr : Nat → Value) (ow : Nat → Option Nat) (items : List Item), C.nin = G.nin → FnIs P D fn → RelAt C D.n (· < s.nx) s a W hdr ow → Mts P D.ows D.n k items →
    ∀ (b : Frame) (cs : List Frame), b.fn = D.f → b.kind = .normal → ∃ v W' fr, Done P C G v W' ∧ Steps P (lone (b.at a items) cs W) (lone fr cs W') ∧ fr.fn = D.f ∧ fr.leaving P W' (.returned v)

section
variable {P : Program} {D : Fd} {G : Gl} {k : List MI} {s : St}

theorem Run.step {k' : List MI} (h : Run P D G k' s)
    (hs : ∀ (a : Act) (W : World) (items : List Item) (b : Frame) (cs : List Frame) (C : Cx) (hdr : Nat → Value) (ow : Nat → Option Nat), RelAt C D.n (· < s.nx) s a W hdr ow → Mts P D.ows D.n k items →
      ∃ items', Mts P D.ows D.n k' items' ∧ Steps P (lone (b.at a items) cs W) (lone (b.at a items') cs W)) : Run P D G k s := by
  intro C fn a W hdr ow items hC hfn r hm b cs hb hbk
  obtain ⟨items', h1, h2⟩ := hs a W items b cs C hdr ow r hm
  obtain ⟨v, W', fr, q1, q2, q3⟩ := h C fn a W hdr ow items' hC hfn r h1 b cs hb hbk
  exact ⟨v, W', fr, q1, h2.trans q2, q3⟩

/-- What code a reading is of. -/
theorem cC_inv {P : Program} {ows : List Nat} {n : Nat} {c : Code} {m : MC} (h : cC P ows n c = some m) :
    match m with
    | .skip => c = .skip
    | .reg q L => (∃ id ops, c = .region id ops q ∧ mapO (cO P ows n ops) ops.toList = some L ∧ distinctB L = true ∧ (q = true → drawB ops L = true ∧ P.follows .mixedOrders = true)) ∨
      ∃ id ops, c = .region id ops true ∧ q = true ∧ cInc P ows n ops = some L ∧ P.follows .mixedOrders = true
    | .seq a b => ∃ a' b', c = .seq a' b' ∧ cC P ows n a' = some a ∧ cC P ows n b' = some b
    | .cond x a b => ∃ x' a' b', c = .cond x' a' b' ∧ opd P 0 x' = some x ∧ cC P ows n a' = some a ∧ cC P ows n b' = some b
    | .block id b => ∃ b', c = .block id b' ∧ cC P ows n b' = some b
    | .loop b => ∃ b', c = .loop b' ∧ cC P ows n b' = some b
    | .exit id => c = .exit id
    | .ret => c = .ret
    | .next d1 d2 x => ∃ id ops, c = .region id ops false ∧ cNext P n ops = some (.next d1 d2 x)
    | .bad => True := by
  cases c with
  | skip => simp only [cC] at h; cases h; rfl
  | region id ops draw =>
    simp only [cC] at h
    split at h
    · rename_i L hL
      split at h
      · rename_i hh; cases h; exact .inl ⟨id, ops, rfl, hL, hh.1, hh.2⟩
      · cases h
    · split at h
      · rename_i m' hm
        cases h
        split at hm
        · cases hm
        · rename_i hdraw
          obtain ⟨d1, d2, x, rfl⟩ := cNext_form hm
          exact ⟨id, ops, by cases draw <;> simp_all, hm⟩
      · split at h
        · rename_i L' hL'
          cases h
          split at hL'
          · rename_i hd; exact .inr ⟨id, ops, by rw [hd.1], rfl, hL', hd.2⟩
          · cases hL'
        · split at h
          · cases h; trivial
          · cases h
  | seq a b =>
    simp only [cC] at h
    split at h
    · rename_i x y h1 h2; cases h; exact ⟨a, b, rfl, h1, h2⟩
    · cases h
  | cond c a b =>
    simp only [cC] at h
    split at h
    · rename_i x y z h1 h2 h3; cases h; exact ⟨c, a, b, rfl, h1, h2, h3⟩
    · cases h
  | block id b => simp only [cC] at h; obtain ⟨x, h1, rfl⟩ := Option.map_eq_some_iff.1 h; exact ⟨b, rfl, h1⟩
  | loop b => simp only [cC] at h; obtain ⟨x, h1, rfl⟩ := Option.map_eq_some_iff.1 h; exact ⟨b, rfl, h1⟩
  | exit id => simp only [cC] at h; cases h; rfl
  | ret => simp only [cC] at h; cases h; rfl
  | _ => simp [cC] at h

theorem Run.skip (h : Run P D G k s) : Run P D G (.code .skip :: k) s := h.step fun a W items b cs C hdr ow r hm => by
  cases hm with
  | cons hx hk =>
    cases hx with
    | code hc =>
      have e := cC_inv hc
      simp only at e
      subst e
      exact ⟨_, hk, .one step_skip⟩

theorem Run.seq {x y : MC} (h : Run P D G (.code x :: .code y :: k) s) : Run P D G (.code (.seq x y) :: k) s := h.step fun a W items b cs C hdr ow r hm => by
  cases hm with
  | cons hx hk => cases hx with
    | code hc =>
      obtain ⟨a', b', rfl, h1, h2⟩ := cC_inv hc
      exact ⟨_, .cons (.code h1) (.cons (.code h2) hk), .one step_seq⟩

theorem Run.cond {c : Opd} {x y : MC} {t : Bool} (hc : ev s.env c = some (.v (.w (.bool t)))) (h1 : t = true → Run P D G (.code x :: k) s) (h2 : t = false → Run P D G (.code y :: k) s) : Run P D G (.code (.cond c x y) :: k) s := by
  have key : Run P D G (.code (if t = true then x else y) :: k) s := by cases t; exact h2 rfl; exact h1 rfl
  refine key.step fun a W items b cs C hdr ow r hm => ?_
  cases hm with
  | cons hx hk => cases hx with
    | code hcc =>
      obtain ⟨x', a', b', rfl, g1, g2, g3⟩ := cC_inv hcc
      have hv := (opd_ok r g1 hc).1
      simp only [RepA] at hv
      refine ⟨_, .cons (.code (c := if t = true then a' else b') ?_) hk, .one ?_⟩
      · cases t; exact g3; exact g2
      · exact step_cond hv.wInv.1

/-- A test of which nothing is known. -/
theorem Run.condU {c : Opd} {x y : MC} (hc : ev s.env c = some .ub) (h1 : Run P D G (.code x :: k) s) (h2 : Run P D G (.code y :: k) s) : Run P D G (.code (.cond c x y) :: k) s := by
  intro C fn a W hdr ow items hC hfn r hm b cs hb hbk
  cases hm with
  | cons hx hk => cases hx with
    | code hcc =>
      obtain ⟨x', a', b', rfl, g1, g2, g3⟩ := cC_inv hcc
      have hv := (opd_ok r g1 hc).1
      simp only [RepA] at hv
      obtain ⟨t, ht⟩ := hv
      cases t
      · obtain ⟨v, W', fr, q1, q2, q3⟩ := h2 C fn a W hdr ow _ hC hfn r (.cons (.code g3) hk) b cs hb hbk
        exact ⟨v, W', fr, q1, (Steps.one (step_cond ht)).trans q2, q3⟩
      · obtain ⟨v, W', fr, q1, q2, q3⟩ := h1 C fn a W hdr ow _ hC hfn r (.cons (.code g2) hk) b cs hb hbk
        exact ⟨v, W', fr, q1, (Steps.one (step_cond ht)).trans q2, q3⟩

theorem Run.block {id : Nat} {x : MC} (h : Run P D G (.code x :: .inBlock id :: k) s) : Run P D G (.code (.block id x) :: k) s := h.step fun a W items b cs C hdr ow r hm => by
  cases hm with
  | cons hx hk => cases hx with
    | code hc =>
      obtain ⟨b', rfl, h1⟩ := cC_inv hc
      exact ⟨_, .cons (.code h1) (.cons .inBlock hk), .one step_block⟩

theorem Run.inBlock {id : Nat} (h : Run P D G k s) : Run P D G (.inBlock id :: k) s := h.step fun a W items b cs C hdr ow r hm => by
  cases hm with
  | cons hx hk => cases hx with
    | inBlock => exact ⟨_, hk, .one step_inBlock⟩

theorem Run.loop {x : MC} (h : Run P D G (.code x :: .inLoop x :: k) s) : Run P D G (.code (.loop x) :: k) s := h.step fun a W items b cs C hdr ow r hm => by
  cases hm with
  | cons hx hk => cases hx with
    | code hc =>
      obtain ⟨b', rfl, h1⟩ := cC_inv hc
      exact ⟨_, .cons (.code h1) (.cons (.inLoop h1) hk), .one step_loop⟩

theorem Run.inLoop {x : MC} (h : Run P D G (.code x :: .inLoop x :: k) s) : Run P D G (.inLoop x :: k) s := h.step fun a W items b cs C hdr ow r hm => by
  cases hm with
  | cons hx hk => cases hx with
    | inLoop hc => exact ⟨_, .cons (.code hc) (.cons (.inLoop hc) hk), .one step_inLoop⟩

theorem mexit_ok {P : Program} {ows : List Nat} {n id : Nat} : ∀ {k k' : List MI} {items : List Item}, mexit id k = some k' → Mts P ows n k items → ∃ items', exitTo id items = some items' ∧ Mts P ows n k' items'
  | [], _, _, h, _ => by simp [mexit] at h
  | x :: k, k', _, h, .cons hx hk => by
    cases hx with
    | code hc => simp only [mexit] at h; obtain ⟨i, h1, h2⟩ := mexit_ok h hk; exact ⟨i, by simpa [exitTo] using h1, h2⟩
    | inLoop hc => simp only [mexit] at h; obtain ⟨i, h1, h2⟩ := mexit_ok h hk; exact ⟨i, by simpa [exitTo] using h1, h2⟩
    | inBlock =>
      simp only [mexit] at h
      split at h
      · rename_i hj; cases h; exact ⟨_, by simp [exitTo, hj], hk⟩
      · rename_i hj
        obtain ⟨i, h1, h2⟩ := mexit_ok h hk
        exact ⟨i, by simp [exitTo, hj, h1], h2⟩
  | _, k', _, h, .stop hk => by
    simp only [mexit] at h
    obtain ⟨k'', h3, rfl⟩ := Option.map_eq_some_iff.1 h
    obtain ⟨i, h1, h2⟩ := mexit_ok h3 hk
    exact ⟨i, h1, .stop h2⟩

theorem Run.stop (h : Run P D G k s) : Run P D G (.stop :: k) s := by
  intro C fn a W hdr ow items hC hfn r hm b cs hb hbk
  cases hm with
  | cons hx _ => cases hx
  | stop hk => exact h C fn a W hdr ow items hC hfn r hk b cs hb hbk

theorem Run.unstop (h : Run P D G (.stop :: k) s) : Run P D G k s := by
  intro C fn a W hdr ow items hC hfn r hm b cs hb hbk
  exact h C fn a W hdr ow items hC hfn r (.stop hm) b cs hb hbk

theorem Run.exit {id : Nat} {k' : List MI} (he : mexit id k = some k') (h : Run P D G k' s) : Run P D G (.code (.exit id) :: k) s := h.step fun a W items b cs C hdr ow r hm => by
  cases hm with
  | cons hx hk => cases hx with
    | code hc =>
      have hc' := cC_inv hc
      simp only at hc'
      subst hc'
      obtain ⟨i, h1, h2⟩ := mexit_ok he hk
      exact ⟨i, h2, .one (step_exit h1)⟩

/-- A chain of operations, at whose end a count may go up. -/
inductive RChainI (P : Program) (q : Bool) : St → List MO → St → Prop
  | nil {s : St} : RChainI P q s [] s
  | cons {s s1 s2 : St} {mo : MO} {L : List MO} : AStep P (q && !mo.loud) s mo s1 → RChainI P q s1 L s2 → RChainI P q s (mo :: L) s2
  | inc {s : St} {d1 d2 d3 d4 : Nat} {ag : Bool} {ks : List Bool} {x k : Opd} {H' : Heap} : incV s.env s.heap ag ks x k = some H' → RChainI P q s [.inc d1 d2 d3 d4 ag ks x k] ⟨(d4, .u) :: (d3, .u) :: (d2, .u) :: (d1, .u) :: s.env, H', s.nx⟩

def MO.isInc : MO → Bool | .inc .. => true | _ => false

theorem RChainI.plain {q : Bool} {s s' : St} {L : List MO} (h : RChainI P q s L s') (hn : ∀ mo ∈ L, mo.isInc = false) : RChain P q s L s' := by
  induction h with
  | nil => exact .nil
  | cons h1 _ ih => exact .cons h1 (ih fun mo hm => hn mo (by simp [hm]))
  | inc h => have := hn _ (List.mem_singleton.2 rfl); cases this

theorem RChainI.split {q : Bool} {d1 d2 d3 d4 : Nat} {ag : Bool} {ks : List Bool} {x k : Opd} : ∀ {L : List MO} {s s' : St}, RChainI P q s (L ++ [.inc d1 d2 d3 d4 ag ks x k]) s' → (∀ mo ∈ L, mo.isInc = false) →
    ∃ s1 H', RChain P q s L s1 ∧ incV s1.env s1.heap ag ks x k = some H' ∧ s' = ⟨(d4, .u) :: (d3, .u) :: (d2, .u) :: (d1, .u) :: s1.env, H', s1.nx⟩
  | [], s, s', h, _ => by
    cases h with
    | cons h1 _ => cases h1
    | inc h => exact ⟨s, _, .nil, h, rfl⟩
  | mo :: L, s, s', h, hn => by
    rw [List.cons_append] at h
    generalize hL : L ++ [MO.inc d1 d2 d3 d4 ag ks x k] = L' at h
    cases h with
    | cons h1 h2 =>
      subst hL
      obtain ⟨s1, H', g1, g2, g3⟩ := RChainI.split h2 fun m hm => hn m (by simp [hm])
      exact ⟨s1, H', .cons h1 g1, g2, g3⟩
    | inc _ => exact absurd hL (by simp)

theorem cO_noInc {P : Program} {ows : List Nat} {n : Nat} {ops : Array Oper} {o : Oper} {mo : MO} (h : cO P ows n ops o = some mo) : mo.isInc = false := by
  unfold cO at h
  split at h
  · cases h
  · split at h
    · split at h
      · split at h <;> cases h; rfl
      · cases h
    · split at h
      · split at h <;> cases h; rfl
      · cases h
    · obtain ⟨m, _, rfl⟩ := Option.map_eq_some_iff.1 h; rfl
    · obtain ⟨m, _, rfl⟩ := Option.map_eq_some_iff.1 h; rfl
    · split at h
      · obtain ⟨m, _, rfl⟩ := Option.map_eq_some_iff.1 h; rfl
      · cases h
    · split at h
      · cases h; rfl
      · cases h

theorem mapO_noInc {P : Program} {ows : List Nat} {n : Nat} {ops : Array Oper} : ∀ {os : List Oper} {L : List MO}, mapO (cO P ows n ops) os = some L → ∀ mo ∈ L, mo.isInc = false
  | [], L, h => by simp [mapO] at h; subst h; simp
  | o :: os, L, h => by
    simp only [mapO] at h
    split at h
    · rename_i y ys h1 h2
      cases h
      intro mo hm
      rcases List.mem_cons.1 hm with rfl | hm
      · exact cO_noInc h1
      · exact mapO_noInc h2 mo hm
    · cases h

theorem cInc_form {P : Program} {ows : List Nat} {n : Nat} {ops : Array Oper} {L : List MO} (h : cInc P ows n ops = some L) : ∃ L' d1 d2 d3 d4 ag ks x k, L = L' ++ [.inc d1 d2 d3 d4 ag ks x k] ∧ ∀ mo ∈ L', mo.isInc = false := by
  unfold cInc at h
  split at h
  · split at h
    · split at h
      · split at h
        · rename_i hL
          split at h
          · cases h; exact ⟨_, _, _, _, _, _, _, _, _, rfl, mapO_noInc hL⟩
          · cases h
        · cases h
      · cases h
    · cases h
  · cases h

theorem Run.reg {q : Bool} {L : List MO} {s' : St} (hch : RChainI P q s L s') (h : Run P D G k ⟨s'.env, s'.heap, s.nx + 8192⟩) : Run P D G (.code (.reg q L) :: k) s := by
  intro C fn a W hdr ow items hC hfn r hm b cs hb hbk
  cases hm with
  | cons hx hk => cases hx with
    | code hc =>
      rename_i l c0
      rcases cC_inv hc with ⟨rid, ops, rfl, h1, h2, h3⟩ | ⟨rid, ops, rfl, rfl, h1, h2⟩
      · have hw := reg_ok (rid := rid) (Q := fun e a' W' => e = .normal ∧ ∃ hdr' ow', RelAt C D.n (· < s.nx + 8192) ⟨s'.env, s'.heap, s.nx + 8192⟩ a' W' hdr' ow') h1 h2 h3 (hch.plain (mapO_noInc h1)) r (fun a' W' hdr' ow' r' => ⟨rfl, hdr', ow', r'⟩)
        obtain ⟨e, a', W', ⟨rfl, hdr', ow', r'⟩, harr⟩ := hw b l cs
        obtain ⟨v, W'', fr, q1, q2, q3⟩ := h C fn a' W' hdr' ow' l hC hfn r' hk b cs hb hbk
        exact ⟨v, W'', fr, q1, Go.Steps.trans harr q2, q3⟩
      · obtain ⟨L', d1, d2, d3, d4, ag, ks, x, k', rfl, hno⟩ := cInc_form h1
        obtain ⟨s1, H', g1, g2, rfl⟩ := hch.split hno
        have hw := reg_inc (rid := rid) (Q := fun e a' W' => e = .normal ∧ ∃ hdr' ow', RelAt C D.n (· < s.nx + 8192) ⟨(d4, .u) :: (d3, .u) :: (d2, .u) :: (d1, .u) :: s1.env, H', s.nx + 8192⟩ a' W' hdr' ow') h1 h2 g1 g2 r (fun a' W' hdr' ow' r' => ⟨rfl, hdr', ow', r'⟩)
        obtain ⟨e, a', W', ⟨rfl, hdr', ow', r'⟩, harr⟩ := hw b l cs
        obtain ⟨v, W'', fr, q1, q2, q3⟩ := h C fn a' W' hdr' ow' l hC hfn r' hk b cs hb hbk
        exact ⟨v, W'', fr, q1, Go.Steps.trans harr q2, q3⟩

/-- The next entry of a map: whichever it is. -/
theorem Run.next {d1 d2 : Nat} {x : Opd} {i m : Nat} {S : List Nat} {rest : List PV} (hu : ev s.env x = some (.h i)) (hi : irest s.heap i = some (m, rest.length, itL S)) (hr : mrest s.heap m = some rest)
    (h1 : (∀ j, j < rest.length → j ∈ S) → Run P D G k ⟨(d2, .v (.w (.bool false))) :: (d1, .u) :: s.env, s.heap, s.nx⟩)
    (h2 : ∀ j, j < rest.length → j ∉ S → Run P D G k ⟨(d2, .v (.w (.bool true))) :: (d1, .u) :: s.env, setIn s.heap i ⟨false, 0, mkI m rest.length :: itL (S ++ [j])⟩, s.nx⟩) : Run P D G (.code (.next d1 d2 x) :: k) s := by
  intro C fn a W hdr ow items hC hfn r hm b cs hb hbk
  cases hm with
  | cons hx hk => cases hx with
    | code hc =>
      obtain ⟨rid, ops, rfl, hn⟩ := cC_inv hc
      rename_i l
      have hw := reg_next (rid := rid) (Q := fun e a' W' => e = .normal ∧ ∃ s' hdr' ow', Run P D G k s' ∧ RelAt C D.n (· < s'.nx) s' a' W' hdr' ow') hn r hu hi hr
        (fun g a' W' hdr' ow' r' => ⟨rfl, _, hdr', ow', h1 g, r'⟩) (fun j g1 g2 a' W' hdr' ow' r' => ⟨rfl, _, hdr', ow', h2 j g1 g2, r'⟩)
      obtain ⟨e, a', W', ⟨rfl, s', hdr', ow', hrun, r'⟩, harr⟩ := hw b l cs
      obtain ⟨v, W'', fr, q1, q2, q3⟩ := hrun C fn a' W' hdr' ow' l hC hfn r' hk b cs hb hbk
      exact ⟨v, W'', fr, q1, Go.Steps.trans harr q2, q3⟩

/-- The value that comes out of slots. -/
def resX (H : Heap) (E : Env) (r : Nat) : Option AV := if r < 1000000 then find E r else match find E (r % 1000000) with
  | some (.ptr k i o) => match find H k with
    | some e => match e.l[i]? with
      | some w => if o < e.sz then (cellRd w.cells (decide (r / 1000000000000 % 2 = 1)) o (r / 1000000000000 / 2)).map .v else none
      | none => none
    | none => none
  | _ => none
def resXs (H : Heap) (E : Env) : List Nat → Option (List AV)
  | [] => some []
  | r :: rs => match resX H E r, resXs H E rs with
    | some x, some l => some (x :: l)
    | _, _ => none
def retA (H : Heap) (E : Env) : List Nat → Option AV
  | [t] => resX H E t
  | ts => (resXs H E ts).map .tup

def passR (H : Heap) (ids : List Nat) : AV → Option AV
  | .tup l => match passAs true H ids l with
    | some l => some (.tup l)
    | none => none
  | x => passA true H ids x

/-- The function may end in the state s. -/
def Ends (D : Fd) (G : Gl) (s : St) : Prop :=
  ∃ ids x, ids.Nodup ∧ retA s.heap s.env D.rs = some x ∧ passR s.heap ids x = some G.res ∧ passN s.heap ids = G.H' ∧ (∀ id ∈ ids, ∀ e, find s.heap id = some e → e.pas ∧ ∀ c, e.ref = some c → c ∈ ids) ∧ ∀ k, k < G.nin → (find G.H' k).isSome = true → ids[k]? = some k

theorem Ends.sol {D : Fd} {G : Gl} {s : St} (ids : List Nat) (x : AV) (h1 : ids.Nodup) (h2 : retA s.heap s.env D.rs = some x) (h3 : passR s.heap ids x = some G.res) (h4 : passH s.heap 0 ids = G.H') (h5 : ∀ p ∈ G.H', p.2.sol)
    (h6 : ∀ k, k < G.nin → (find G.H' k).isSome = true → ids[k]? = some k) : Ends D G s :=
  ⟨ids, x, h1, h2, h3, by rw [passN, renH_sol (by rw [h4]; exact h5)]; exact h4, fun id hid e he => by
    obtain ⟨k, hk⟩ := List.mem_iff_getElem?.1 hid
    have h7 : find (passH s.heap 0 ids) k = some e := by rw [find_passH, if_pos (Nat.zero_le _), Nat.sub_zero, hk]; exact he
    rw [h4] at h7
    have h8 := h5 _ (find_mem h7)
    exact ⟨.inl h8, fun c hc => (Ent.sol_refs h8 (.inl hc)).elim⟩, h6⟩

theorem RepAs.len {W : World} {ok : Nat → Prop} {hdr : Nat → Value} {H : Heap} : ∀ {l : List AV} {vs : List Value}, RepAs W ok hdr H l vs → vs.length = l.length
  | [], [], _ => rfl
  | [], _ :: _, h => by simp [RepAs] at h
  | _ :: _, [], h => by simp [RepAs] at h
  | _ :: l, _ :: vs, h => by simp only [RepAs] at h; simp [RepAs.len h.2]

/-- A result, as the machine reads it at the end. -/
def resRun (tmps : Array Value) : ResultVar → Sem Value
  | .tmp t => pure (tmps.getD t undef)
  | .cell a t => do loadVar t (← asAddr (tmps.getD a undef))

theorem resX_ok {C : Cx} {n : Nat} {F : Nat → Prop} {s : St} {a : Act} {W : World} {hdr : Nat → Value} {ow : Nat → Option Nat} (r : RelAt C n F s a W hdr ow) {rv : ResultVar} {k : Nat} {x : AV} (hk : resOf P rv = some k) (hx : resX s.heap s.env k = some x) :
    ∃ v, (resRun a.tmps rv).run P W = .ok v W ∧ RepA W (OK C W s.heap ow) hdr s.heap x v := by
  cases rv with
  | tmp t =>
    simp only [resOf] at hk
    split at hk
    · rename_i ht
      cases hk
      unfold resX at hx
      rw [if_pos ht] at hx
      exact ⟨_, by simp [resRun], r.env _ _ hx⟩
    · cases hk
  | cell c t =>
    simp only [resOf] at hk
    split at hk
    · rename_i hh
      obtain ⟨h1, h2, h3⟩ := hh
      have h1' : @LT.lt Nat instLTNat c 1000000 := h1
      have h2' : @LT.lt Nat instLTNat t 999999 := h2
      clear h1 h2
      simp only [Option.some.injEq] at hk
      have e4 : k / 1000000000000 = 2 * szT P t + (if aggT P t = true then 1 else 0) := by
        rw [← hk, Nat.add_mul_div_left _ _ (by decide), Nat.div_eq_of_lt (by omega), Nat.zero_add]
      have e1 : k % 1000000 = c := by
        rw [← hk, show 1000000000000 * (2 * szT P t + (if aggT P t = true then 1 else 0)) = 1000000 * (1000000 * (2 * szT P t + (if aggT P t = true then 1 else 0))) by rw [← Nat.mul_assoc], Nat.add_mul_mod_self_left, Nat.add_mul_mod_self_left, Nat.mod_eq_of_lt h1']
      have hge : ¬ k < 1000000 := by
        rw [← hk]
        have : 1000000 * 1 ≤ 1000000 * (t + 1) := Nat.mul_le_mul_left _ (by omega)
        omega
      unfold resX at hx
      rw [if_neg hge] at hx
      have e2 : k / 1000000000000 / 2 = szT P t := by
        rw [e4]; split <;> omega
      have e3 : decide (k / 1000000000000 % 2 = 1) = aggT P t := by
        rw [e4]
        cases ha : aggT P t
        · simp
        · simp
      rw [e1, e2, e3] at hx
      split at hx
      · rename_i q i o hf
        split at hx
        · rename_i e he
          split at hx
          · rename_i w hw
            split at hx
            · rename_i ho
              obtain ⟨p, hp, rfl⟩ := Option.map_eq_some_iff.1 hx
              obtain ⟨b, o', v, g1, g2, g3⟩ := run_ld_p r h3 (r.env _ _ hf) he hw ho hp
              refine ⟨v, ?_, by simp only [RepA]; exact g3⟩
              simp [resRun, asAddr, g1, g2]
            · cases hx
          · cases hx
        · cases hx
      · cases hx
    · cases hk

theorem resXs_ok {C : Cx} {n : Nat} {F : Nat → Prop} {s : St} {a : Act} {W : World} {hdr : Nat → Value} {ow : Nat → Option Nat} (r : RelAt C n F s a W hdr ow) : ∀ {rvs : List ResultVar} {ks : List Nat} {l : List AV}, mapO (resOf P) rvs = some ks → resXs s.heap s.env ks = some l →
    ∃ vs, (rvs.mapM (resRun a.tmps)).run P W = .ok vs W ∧ RepAs W (OK C W s.heap ow) hdr s.heap l vs
  | [], ks, l, h, hx => by
    simp only [mapO, Option.some.injEq] at h
    subst h
    simp only [resXs, Option.some.injEq] at hx
    subst hx
    exact ⟨[], by simp, by simp [RepAs]⟩
  | rv :: rvs, ks, l, h, hx => by
    simp only [mapO] at h
    split at h
    · rename_i k ks' h1 h2
      cases h
      simp only [resXs] at hx
      split at hx
      · rename_i x xs q1 q2
        cases hx
        obtain ⟨v, g1, g2⟩ := resX_ok r h1 q1
        obtain ⟨vs, g3, g4⟩ := resXs_ok r h2 q2
        exact ⟨v :: vs, by simp [List.mapM_cons, g1, g3], by simp only [RepAs]; exact ⟨g2, g4⟩⟩
      · cases hx
    · cases h

theorem run_results {fn : Func} {tmps : Array Value} {W : World} {vs : List Value} (h : (fn.results.toList.mapM (resRun tmps)).run P W = .ok vs W) : (results fn tmps).run P W = .ok (match vs with | [v] => v | vs => .tuple vs.toArray) W := by
  have h1 : (fn.results.mapM (resRun tmps)).run P W = .ok vs.toArray W := by
    rw [Array.mapM_eq_mapM_toList]
    simp [h]
  have h2 : results fn tmps = (do let vs ← fn.results.mapM (resRun tmps); pure (if h : vs.size = 1 then vs[0] else .tuple vs)) := rfl
  rw [h2]
  simp only [Sem.run_bind, h1, Result.andThen_ok, Sem.run_pure]
  match vs with
  | [] => simp
  | [v] => simp
  | _ :: _ :: _ => simp

theorem retA_ok {C : Cx} {n : Nat} {F : Nat → Prop} {s : St} {a : Act} {W : World} {hdr : Nat → Value} {ow : Nat → Option Nat} (r : RelAt C n F s a W hdr ow) {fn : Func} {rs : List Nat} {x : AV} (h : mapO (resOf P) fn.results.toList = some rs) (hx : retA s.heap s.env rs = some x) :
    ∃ v, (results fn a.tmps).run P W = .ok v W ∧ RepA W (OK C W s.heap ow) hdr s.heap x v := by
  have key : ∀ l, resXs s.heap s.env rs = some l → (match l with | [y] => y | l => .tup l) = x → ∃ v, (results fn a.tmps).run P W = .ok v W ∧ RepA W (OK C W s.heap ow) hdr s.heap x v := by
    intro l hl hxl
    obtain ⟨vs, g1, g2⟩ := resXs_ok r h hl
    refine ⟨_, run_results g1, ?_⟩
    have hlen := RepAs.len g2
    match l, vs, g2, hlen with
    | [], [], g2, _ => simp only at hxl; subst hxl; simp only [RepA]; exact ⟨[], rfl, g2⟩
    | [y], [v], g2, _ => simp only at hxl; subst hxl; simp only [RepAs] at g2; exact g2.1
    | y :: z :: l, v :: w :: vs, g2, _ => simp only at hxl; subst hxl; simp only [RepA]; exact ⟨_, rfl, g2⟩
    | [], _ :: _, _, hl => simp at hl
    | [_], [], _, hl => simp at hl
    | [_], _ :: _ :: _, _, hl => simp at hl
    | _ :: _ :: _, [], _, hl => simp at hl
    | _ :: _ :: _, [_], _, hl => simp at hl
  match rs, hx, key with
  | [], hx, key =>
    simp only [retA, resXs, Option.map_some, Option.some.injEq] at hx
    exact key [] rfl hx
  | [t], hx, key =>
    simp only [retA] at hx
    exact key [x] (by simp only [resXs, hx]) rfl
  | t :: u :: ts, hx, key =>
    simp only [retA] at hx
    obtain ⟨l, hl, rfl⟩ := Option.map_eq_some_iff.1 hx
    refine key l hl ?_
    simp only [resXs] at hl
    split at hl
    · rename_i q1 q2 q3 q4
      cases hl
      split at q4
      · cases q4; rfl
      · cases q4
    · cases hl

theorem fin_ok {C : Cx} {a : Act} {W : World} {hdr : Nat → Value} {ow : Nat → Option Nat} (hC : C.nin = G.nin) (r : RelAt C D.n (· < s.nx) s a W hdr ow) (h : Ends D G s) {fn : Func} (hfn : FnIs P D fn) : ∃ v, (results fn a.tmps).run P W = .ok v W ∧ Done P C G v W := by
  obtain ⟨ids, x, hn, hx, hp, hH, hsz, hnin⟩ := h
  have hfound : ∀ k e, find G.H' k = some e → ∃ id e0, ids[k]? = some id ∧ find s.heap id = some e0 ∧ e = renE (gi ids) e0 := fun k e hk => by
    rw [← hH] at hk
    obtain ⟨e0, h1, h2⟩ := find_ren hk
    obtain ⟨id, h3, h4⟩ := find_in h1
    exact ⟨id, e0, h3, h4, h2⟩
  have hown : ∀ j, Own G.H' (owI ow ids) j → ∃ id e, id ∈ ids ∧ find s.heap id = some e ∧ ow id = some j := by
    rintro j ⟨k, e, hk, ho⟩
    obtain ⟨id, e0, h1, h2, _⟩ := hfound k e hk
    simp only [owI, h1] at ho
    exact ⟨id, e0, List.mem_of_getElem? h1, h2, ho⟩
  have hok : ∀ j, OK C W s.heap ow j → OK C W G.H' (owI ow ids) j := by
    rintro j ⟨h1, h2⟩
    refine ⟨h1, fun h => ?_⟩
    obtain ⟨id, e, _, q1, q2⟩ := hown j h
    exact h2 ⟨id, e, q1, q2⟩
  have hokb : true = true → ∀ id e j, id ∉ ids → find s.heap id = some e → ow id = some j → OK C W G.H' (owI ow ids) j := by
    intro _ id e j hni he hj
    have hlt := r.mem.lt id e j he hj
    refine ⟨⟨.inr hlt.2, hlt.1⟩, fun h => ?_⟩
    obtain ⟨id', e', q0, q1, q2⟩ := hown j h
    have := r.mem.inj id id' e e' j he q1 hj q2
    subst this; exact hni q0
  obtain ⟨v, hrun, hret⟩ := retA_ok r hfn.2 hx
  refine ⟨v, hrun, ?_⟩
  refine ⟨hdrI hdr ids, owI ow ids, ⟨?_, ?_, ?_, r.mem.size, r.mem.frame, r.mem.os, r.mem.tape, r.mem.output⟩, ?_, ?_⟩
  · intro k e he
    obtain ⟨id, e0, h1, h2, rfl⟩ := hfound k e he
    simp only [hdrI, owI, h1]
    obtain ⟨g1, g2⟩ := hsz id (List.mem_of_getElem? h1) e0 h2
    exact (r.mem.ent id e0 h2).ren g1 (fun j hj => ⟨hok j hj, rfl⟩) (fun _ _ => rfl) (fun c hc => by simp only [gi_get hn (g2 c hc), hdrI])
  · intro k k' e e' b hk hk' hb hb'
    obtain ⟨id, e0, h1, h2, _⟩ := hfound k e hk
    obtain ⟨id', e0', h1', h2', _⟩ := hfound k' e' hk'
    simp only [owI, h1] at hb
    simp only [owI, h1'] at hb'
    have := r.mem.inj id id' e0 e0' b h2 h2' hb hb'
    subst this
    obtain ⟨g1, g2⟩ := List.getElem?_eq_some_iff.1 h1
    obtain ⟨g3, g4⟩ := List.getElem?_eq_some_iff.1 h1'
    exact (List.getElem_inj hn).1 (g2.trans g4.symm)
  · intro k e b hk hb
    obtain ⟨id, e0, h1, h2, _⟩ := hfound k e hk
    simp only [owI, h1] at hb
    exact r.mem.lt id e0 b h2 hb
  · have := hret
    have hpass := fun (y : AV) (v : Value) (z : AV) (hz : passA true s.heap ids y = some z) (hv : RepA W (OK C W s.heap ow) hdr s.heap y v) => (passA_ok (ids := ids) r hok hokb y z v hz hv).renH (g := gi ids)
    simp only [← passN.eq_1, hH] at hpass
    unfold passR at hp
    split at hp
    · rename_i l
      split at hp
      · rename_i l' hl'
        simp only [Option.some.injEq] at hp
        rw [← hp]
        simp only [RepA] at hret ⊢
        obtain ⟨vs, h1, h2⟩ := hret
        have := (passAs_ok (ids := ids) r hok hokb l l' vs hl' h2).renH (g := gi ids)
        rw [← passN.eq_1, hH] at this
        exact ⟨vs, h1, this⟩
      · cases hp
    · exact hpass _ _ _ hp hret
  · intro k hk e' he'
    have h1 := hnin k hk (by rw [he']; rfl)
    obtain ⟨id, e0, h2, h3, _⟩ := hfound k e' he'
    rw [h1] at h2; cases h2
    simp only [hdrI, h1]
    exact r.gh k (by rw [hC]; exact hk) e0 h3

theorem Run.ret (hl : D.rs.length ≤ 4) (h : Ends D G s) : Run P D G (.code .ret :: k) s := by
  intro C fn a W hdr ow items hC hfn r hm b cs hb hbk
  cases hm with
  | cons hx hk => cases hx with
    | code hc =>
      have hc' := cC_inv hc
      simp only at hc'
      subst hc'
      obtain ⟨v, hrun, hdone⟩ := fin_ok hC r h hfn
      refine ⟨v, W, _, hdone, .one step_ret, hb, rfl, r.defers, hbk, fn, ?_, hrun⟩
      have := hfn.1
      rw [← hb] at this; exact this

theorem Run.done (hl : D.rs.length ≤ 4) (h : Ends D G s) : Run P D G [] s := by
  intro C fn a W hdr ow items hC hfn r hm b cs hb hbk
  cases hm
  obtain ⟨v, hrun, hdone⟩ := fin_ok hC r h hfn
  refine ⟨v, W, _, hdone, .one step_end, hb, rfl, r.defers, hbk, fn, ?_, hrun⟩
  have := hfn.1
  rw [← hb] at this; exact this

/-- The slots at the beginning. -/
def envOf : Nat → List AV → Env
  | _, [] => []
  | i, x :: l => (i, x) :: envOf (i + 1) l

theorem find_envOf : ∀ (l : List AV) (i t : Nat) (x : AV), find (envOf i l) t = some x → i ≤ t ∧ l[t - i]? = some x
  | [], i, t, x, h => by simp [envOf, find] at h
  | y :: l, i, t, x, h => by
    simp only [envOf, find_cons] at h
    split at h
    · rename_i ht; subst ht; cases h; simp
    · rename_i ht
      obtain ⟨h1, h2⟩ := find_envOf l (i + 1) t x h
      refine ⟨by omega, ?_⟩
      rw [show t - i = (t - (i + 1)) + 1 by omega, List.getElem?_cons_succ]; exact h2

theorem mens_mem : ∀ {l : List AV} {x : AV} {k : Nat}, x ∈ l → x.men k → AV.mens l k
  | y :: l, x, k, h, hk => by
    rcases List.mem_cons.1 h with rfl | h
    · simp [AV.mens, hk]
    · simp [AV.mens, mens_mem h hk]

/-- A function comes to what its code runs to. -/
theorem FOk.intro {f : FuncId} {fn : Func} {c : Code} {m : MC} {args : List AV} {H : Heap} (hfn : P.funcs[f]? = some fn) (hcall : ∀ (as : Array Value) (W : World), (callFunc f as).run P W = .ok (.enter f as) W)
    (hb : fn.body = some c) (ows rs : List Nat) (hr : mapO (resOf P) fn.results.toList = some rs) (hc : cC P ows fn.ntmps c = some m) (hargs : args.length ≤ fn.ntmps) (nin : Nat) (hnin : nin ≤ 1024)
    (hH : ∀ p ∈ H, p.1 < nin ∧ p.2.pas ∧ ∀ c, p.2.ref = some c → c < 1024) (hmen : ∀ k, AV.mens args k → k < 1024) {res : AV} {H' : Heap} (hsz : ∀ k e e', find H k = some e → find H' k = some e' → e'.sz = e.sz)
    (h : Run P ⟨f, ows, fn.ntmps, rs⟩ ⟨nin, res, H'⟩ [.code m] ⟨envOf 0 args, H, 1024⟩) : FOk P f args H res H' := by
  refine ⟨hcall, ?_⟩
  intro W ok0 vals hdr ow hmem hrep cs
  have hlen := hrep.len
  let C : Cx := ⟨W, ok0, Own H ow, nin, hdr⟩
  let a : Act := { tmps := vals.toArray ++ Array.replicate (fn.ntmps - vals.toArray.size) undef, defers := [] }
  have hslot : ∀ (t : Nat) (x : AV), args[t]? = some x → ∃ v, vals[t]? = some v ∧ RepA W (OK C W H ow) hdr H x v := fun t x hx => RepAs.get hrep hx
  have r0 : RelAt C fn.ntmps (· < 1024) ⟨envOf 0 args, H, 1024⟩ a W hdr ow := by
    refine ⟨⟨hmem.ent, hmem.inj, hmem.lt, hmem.size, hmem.frame, hmem.os, hmem.tape, hmem.output⟩, rfl, ?_, ?_, ?_, ?_, ?_, ?_, ?_⟩
    · simp only [a, Array.size_append, List.size_toArray, Array.size_replicate]; omega
    · intro t x hx
      obtain ⟨_, h1⟩ := find_envOf args 0 t x hx
      rw [Nat.sub_zero] at h1
      obtain ⟨v, hv, hrx⟩ := hslot t x h1
      have ht : t < vals.length := (List.getElem?_eq_some_iff.1 hv).1
      have : a.tmps.getD t undef = v := by
        simp only [a, Array.getD_eq_getD_getElem?]
        rw [Array.getElem?_append_left (by simpa using ht)]
        simp [hv]
      rw [this]; exact hrx
    · intro t x hx k hk
      obtain ⟨_, h1⟩ := find_envOf args 0 t x hx
      exact hmen k (mens_mem (List.mem_of_getElem? h1) hk)
    · intro id e he
      have := (hH _ (find_mem he)).1
      simp only at this
      omega
    · intro k hk; show k < 1024; have : k < nin := hk; omega
    · intro k _ e _; rfl
    · intro id e c he hc
      obtain ⟨_, g1, g2⟩ := hH _ (find_mem he)
      exact g2 c ((Ent.pas_refs g1).1 hc)
  let b : Frame := { (default : Frame) with fn := f, kind := .normal }
  have henter : Frame.enter P f vals.toArray .normal = b.at a [.code c] := by
    simp [Frame.enter, Frame.at, hfn, hb, b, a]
  obtain ⟨v, W', fr, ⟨hdr', ow', q1, q2, q3⟩, q4, q5, q6⟩ := h C fn a W hdr ow [.code c] rfl ⟨hfn, hr⟩ r0 (.cons (.code hc) .nil) b cs rfl rfl
  rw [← henter] at q4
  refine ⟨.returned v, W', fr, ⟨v, hdr', ow', rfl, ⟨q1.ent, q1.inj, q1.lt, q1.size, q1.frame, q1.os, q1.tape, q1.output⟩, q2, ?_⟩, q4, q5, q6⟩
  intro k e e' hk hk'
  have hkn := hH _ (find_mem hk)
  exact ⟨q3 k hkn.1 e' hk', hsz k e e' hk hk'⟩

end
end Go.AM
/- Running through the code by reckoning. -/
set_option linter.all false
namespace Go.AM
open Go
variable [dr : Inhabited Prop]

/-- What is being done: code ahead; operations of a region; a guard; a value to be put; a store; a test. -/
inductive Md where
  | ctl
  | ops (q : Bool) (L : List MO)
  | gd (r : Option Bool) (o : MO) (q : Bool) (L : List MO)
  | put (d : Nat) (r : Option (AV × Heap)) (q : Bool) (L : List MO)
  | sto (r : Option (AV × Heap)) (q : Bool) (L : List MO)
  | cnd (r : Option AV) (a b : MC)

/-- A truth that is tested is known behind the test. -/
def repl : Env → Nat → Bool → Env
  | [], _, _ => []
  | (k, x) :: E, g, b => if g = k then (match x with | .v (.w (.bool _)) => (k, .v (.w (.bool b))) :: E | _ => (k, x) :: E) else (k, x) :: repl E g b

def setG (E : Env) : Option (Nat × Bool) → Bool → Env
  | none, _ => E
  | some (g, w), t => repl E g (t == w)

theorem repl_eq : ∀ {E : Env} {g : Nat} {b : Bool}, find E g = some (.v (.w (.bool b))) → repl E g b = E
  | [], _, _, h => rfl
  | (k, x) :: E, g, b, h => by
    simp only [find] at h
    simp only [repl]
    split at h
    · rename_i hk; cases h; rw [if_pos hk]
    · rename_i hk; rw [if_neg hk, repl_eq h]

theorem repl_no : ∀ {E : Env} {g : Nat} {b : Bool} {x : AV}, find E g = some x → (∀ b', x ≠ .v (.w (.bool b'))) → repl E g b = E
  | [], _, _, _, h, _ => rfl
  | (k, y) :: E, g, b, x, h, hx => by
    simp only [find] at h
    simp only [repl]
    split at h
    · rename_i hk
      cases h
      rw [if_pos hk]
      split
      · exact absurd rfl (hx _)
      · rfl
    · rename_i hk; rw [if_neg hk, repl_no h hx]

theorem setG_eq {E : Env} {g : Option (Nat × Bool)} {t : Bool} (h : guardOf E g = some t) : setG E g t = E := by
  cases g with
  | none => rfl
  | some p =>
    obtain ⟨g, w⟩ := p
    simp only [guardOf] at h
    split at h
    · rename_i b hb
      cases h
      simp only [setG]
      apply repl_eq
      rw [hb]
      cases b <;> cases w <;> rfl
    · rename_i l hb
      exact repl_no hb (by intro b; simp)
    · cases h

def CallX (P : Program) (q : Bool) (s : St) (d : Nat) (f : Opd) (as : List Opd) (s' : St) : Prop :=
  (∃ x N, CallQ P s d f as x N ∧ s' = ⟨(d, x) :: s.env, N ++ s.heap, s.nx⟩) ∨ (q = false ∧ CallOk P s d f as s')

def mvalS (q : Bool) (E : Env) (H : Heap) (id : Nat) (m : MOp) : Option (AV × Heap) := if m.lS = true then mval q E H id m else none

def Ex (P : Program) (D : Fd) (G : Gl) : Nat → Md → List MI → St → Prop
  | 0, .ctl, k, s => Run P D G k s
  | 0, _, _, _ => False
  | _ + 1, .ctl, [], s => Ends D G s
  | m + 1, .ctl, .code c :: k, s => match c with
    | .ret => Ends D G s
    | .bad => False
    | .skip => Ex P D G m .ctl k s
    | .seq a b => Ex P D G m .ctl (.code a :: .code b :: k) s
    | .cond c a b => Ex P D G m (.cnd (ev s.env c) a b) k s
    | .block id b => Ex P D G m .ctl (.code b :: .inBlock id :: k) s
    | .exit id => match mexit id k with
      | some k' => Ex P D G m .ctl k' s
      | none => False
    | .reg q L => Ex P D G m (.ops q L) k s
    | .loop b => Run P D G (.code (.loop b) :: k) s
    | .next d1 d2 x => ∃ i mm S rest, ev s.env x = some (.h i) ∧ irest s.heap i = some (mm, List.length rest, itL S) ∧ mrest s.heap mm = some rest ∧
      ((∀ j, j < List.length rest → j ∈ S) → Ex P D G m .ctl k ⟨(d2, .v (.w (.bool false))) :: (d1, .u) :: s.env, s.heap, s.nx⟩) ∧
      ∀ j, j < List.length rest → j ∉ S → Ex P D G m .ctl k ⟨(d2, .v (.w (.bool true))) :: (d1, .u) :: s.env, setIn s.heap i ⟨false, 0, mkI mm (List.length rest) :: itL (S ++ [j])⟩, s.nx⟩
  | m + 1, .ctl, .inBlock _ :: k, s => Ex P D G m .ctl k s
  | _ + 1, .ctl, .inLoop b :: k, s => Run P D G (.inLoop b :: k) s
  | _ + 1, .ctl, .stop :: k, s => Run P D G k s
  | m + 1, .cnd r a b, k, s => match r with
    | some (.v (.w (.bool t))) => (t = true → Ex P D G m .ctl (.code a :: k) s) ∧ (t = false → Ex P D G m .ctl (.code b :: k) s)
    | some .ub => Ex P D G m .ctl (.code a :: k) s ∧ Ex P D G m .ctl (.code b :: k) s
    | _ => False
  | m + 1, .ops q L, k, s => match L with
    | [] => Ex P D G m .ctl k ⟨s.env, s.heap, s.nx + 8192⟩
    | o :: L => Ex P D G m (.gd (guardOf s.env o.g) o q L) k s
  | m + 1, .gd r o q L, k, s => match r with
    | some t => (t = true → match o with
        | .op _ d mo => Ex P D G m (.put d (mval (q && !o.loud) (setG s.env o.g true) s.heap (s.nx + d) mo) q L) k ⟨setG s.env o.g true, s.heap, s.nx⟩
        | .store _ mo => Ex P D G m (.sto (mvalS (q && !o.loud) (setG s.env o.g true) s.heap s.nx mo) q L) k ⟨setG s.env o.g true, s.heap, s.nx⟩
        | .call _ d f as => ∃ s', CallX P q ⟨setG s.env o.g true, s.heap, s.nx⟩ d f as s' ∧ Ex P D G m (.ops q L) k s'
        | .inc d1 d2 d3 d4 ag ks x y => match L with
          | [] => Ex P D G m (.sto ((incV s.env s.heap ag ks x y).map fun H' => (.u, H')) q []) k ⟨(d4, .u) :: (d3, .u) :: (d2, .u) :: (d1, .u) :: s.env, s.heap, s.nx⟩
          | _ :: _ => False) ∧
      (t = false → match o.dst with
        | some d => Ex P D G m (.ops q L) k ⟨(d, .tup []) :: setG s.env o.g false, s.heap, s.nx⟩
        | none => Ex P D G m (.ops q L) k ⟨setG s.env o.g false, s.heap, s.nx⟩)
    | none => False
  | m + 1, .put d r q L, k, s => match r with
    | some (x, H') => Ex P D G m (.ops q L) k ⟨(d, x) :: s.env, H', s.nx⟩
    | none => False
  | m + 1, .sto r q L, k, s => match r with
    | some (_, H') => Ex P D G m (.ops q L) k ⟨s.env, H', s.nx⟩
    | none => False

/-- A call, and what is ahead behind it. -/
def CallG (P : Program) (D : Fd) (G : Gl) (m : Nat) (q : Bool) (L : List MO) (k : List MI) (s : St) (d : Nat) (f : Opd) (as : List Opd) : Prop := ∃ s', CallX P q s d f as s' ∧ Ex P D G m (.ops q L) k s'

section sound
variable {P : Program} {D : Fd} {G : Gl}

/-- What each way of reckoning says. -/
def Says (P : Program) (D : Fd) (G : Gl) (md : Md) (k : List MI) (s : St) : Prop :=
  match md with
  | .ctl => Run P D G k s
  | .ops q L => ∃ s', RChainI P q s L s' ∧ Run P D G k ⟨s'.env, s'.heap, s.nx + 8192⟩
  | .gd r o q L => r = guardOf s.env o.g → ∃ s', RChainI P q s (o :: L) s' ∧ Run P D G k ⟨s'.env, s'.heap, s.nx + 8192⟩
  | .put d r q L => ∀ x H', r = some (x, H') → ∃ s', RChainI P q ⟨(d, x) :: s.env, H', s.nx⟩ L s' ∧ Run P D G k ⟨s'.env, s'.heap, s.nx + 8192⟩
  | .sto r q L => ∀ x H', r = some (x, H') → ∃ s', RChainI P q ⟨s.env, H', s.nx⟩ L s' ∧ Run P D G k ⟨s'.env, s'.heap, s.nx + 8192⟩
  | .cnd r a b => ∀ c, ev s.env c = r → Run P D G (.code (.cond c a b) :: k) s

theorem callX_step {q : Bool} {s s' : St} {g : Option (Nat × Bool)} {d : Nat} {f : Opd} {as : List Opd} (hg : guardOf s.env g = some true) (h : CallX P q s d f as s') : AStep P (q && !(MO.call g d f as).loud) s (.call g d f as) s' := by
  have e : (q && !(MO.call g d f as).loud) = q := by simp [MO.loud]
  rw [e]
  rcases h with ⟨x, N, h, rfl⟩ | ⟨rfl, h⟩
  · exact .callQ hg h
  · exact .call hg h rfl

theorem Ex.says (hl : D.rs.length ≤ 4) : ∀ (m : Nat) (md : Md) (k : List MI) (s : St), Ex P D G m md k s → Says P D G md k s := by
  intro m
  induction m with
  | zero =>
    intro md k s h
    cases md <;> simp only [Ex] at h
    exact h
  | succ m ih =>
    intro md k s h
    cases md with
    | ctl =>
      cases k with
      | nil => simp only [Ex] at h; exact Run.done hl h
      | cons x k =>
        cases x with
        | inBlock id => simp only [Ex] at h; exact (ih _ _ _ h : Run P D G k s).inBlock
        | inLoop b => simp only [Ex] at h; exact h
        | stop => simp only [Ex] at h; exact (h : Run P D G k s).stop
        | code c =>
          cases c with
          | skip => simp only [Ex] at h; exact (ih _ _ _ h : Run P D G k s).skip
          | bad => simp only [Ex] at h
          | ret => simp only [Ex] at h; exact Run.ret hl h
          | seq a b => simp only [Ex] at h; exact (ih _ _ _ h : Run P D G _ s).seq
          | block id b => simp only [Ex] at h; exact (ih _ _ _ h : Run P D G _ s).block
          | loop b => simp only [Ex] at h; exact h
          | next d1 d2 x =>
            simp only [Ex] at h
            obtain ⟨i, mm, S, rest, g1, g2, g3, g4, g5⟩ := h
            exact Run.next g1 g2 g3 (fun g => ih _ _ _ (g4 g)) fun j g6 g7 => ih _ _ _ (g5 j g6 g7)
          | exit id =>
            simp only [Ex] at h
            split at h
            · rename_i k' hk; exact (ih _ _ _ h : Run P D G _ s).exit hk
            · exact h.elim
          | reg q L =>
            simp only [Ex] at h
            obtain ⟨s', h1, h2⟩ := (ih _ _ _ h : ∃ s', RChainI P q s L s' ∧ Run P D G k ⟨s'.env, s'.heap, s.nx + 8192⟩)
            exact Run.reg h1 h2
          | cond c a b =>
            simp only [Ex] at h
            exact ih _ _ _ h c rfl
    | cnd r a b =>
      intro c hc
      simp only [Ex] at h
      split at h
      · rename_i t
        exact Run.cond hc (fun ht => ih _ _ _ (h.1 ht)) (fun ht => ih _ _ _ (h.2 ht))
      · exact Run.condU hc (ih _ _ _ h.1) (ih _ _ _ h.2)
      · exact h.elim
    | ops q L =>
      simp only [Ex] at h
      cases L with
      | nil => exact ⟨s, .nil, ih _ _ _ h⟩
      | cons o L => exact ih _ _ _ h rfl
    | gd r o q L =>
      intro hr
      simp only [Ex] at h
      cases r with
      | none => exact h.elim
      | some t =>
        simp only at h
        cases t with
        | true =>
          have h1 := h.1 rfl
          rw [setG_eq hr.symm] at h1
          cases o with
          | op g d mo =>
            simp only at h1
            have h2 := ih _ _ _ h1
            cases hm : mval (q && !(MO.op g d mo).loud) s.env s.heap (s.nx + d) mo with
            | none => rw [hm] at h1; cases m <;> simp [Ex] at h1
            | some r =>
              obtain ⟨x, H'⟩ := r
              rw [hm] at h2
              obtain ⟨s', g1, g2⟩ := h2 x H' rfl
              exact ⟨s', .cons (.op hr.symm hm) g1, g2⟩
          | store g mo =>
            simp only at h1
            have h2 := ih _ _ _ h1
            cases hm : mvalS (q && !(MO.store g mo).loud) s.env s.heap s.nx mo with
            | none => rw [hm] at h1; cases m <;> simp [Ex] at h1
            | some r =>
              obtain ⟨y, H'⟩ := r
              rw [hm] at h2
              obtain ⟨s', g1, g2⟩ := h2 y H' rfl
              unfold mvalS at hm
              split at hm
              · rename_i hlS
                exact ⟨s', .cons (.store hr.symm hlS hm) g1, g2⟩
              · cases hm
          | inc d1 d2 d3 d4 ag ks x y =>
            cases L with
            | cons _ _ => simp only at h1
            | nil =>
              simp only at h1
              have h2 := ih _ _ _ h1
              cases hm : incV s.env s.heap ag ks x y with
              | none => rw [hm] at h1; cases m <;> simp [Ex] at h1
              | some H' =>
                obtain ⟨s', g1, g2⟩ := h2 .u H' (by rw [hm]; rfl)
                cases g1
                exact ⟨_, .inc hm, g2⟩
          | call g d f as =>
            obtain ⟨s1, h2, h3⟩ := h1
            have hst := callX_step (g := g) hr.symm h2
            obtain ⟨s', g1, g2⟩ := (ih _ _ _ h3 : ∃ s', RChainI P q s1 L s' ∧ Run P D G k ⟨s'.env, s'.heap, s1.nx + 8192⟩)
            rw [step_nx hst] at g2
            exact ⟨s', .cons hst g1, g2⟩
        | false =>
          have h1 := h.2 rfl
          rw [setG_eq hr.symm] at h1
          cases o with
          | op g d mo =>
            obtain ⟨s', g1, g2⟩ := ih _ _ _ h1
            exact ⟨s', .cons (.skip hr.symm) g1, g2⟩
          | store g mo =>
            obtain ⟨s', g1, g2⟩ := ih _ _ _ h1
            exact ⟨s', .cons (.skipS hr.symm) g1, g2⟩
          | call g d f as =>
            obtain ⟨s', g1, g2⟩ := ih _ _ _ h1
            exact ⟨s', .cons (.skipC hr.symm) g1, g2⟩
          | inc d1 d2 d3 d4 ag ks x y => simp [MO.g, guardOf] at hr
    | put d r q L =>
      intro x H' hr
      subst hr
      simp only [Ex] at h
      exact ih _ _ _ h
    | sto r q L =>
      intro x H' hr
      subst hr
      simp only [Ex] at h
      exact ih _ _ _ h

theorem Ex.run (hl : D.rs.length ≤ 4) {m : Nat} {k : List MI} {s : St} (h : Ex P D G m .ctl k s) : Run P D G k s := Ex.says hl m .ctl k s h

end sound

/-! ### The reckoning, as equations -/
section eqs
variable {P : Program} {D : Fd} {G : Gl} {m : Nat} {k : List MI} {E : Env} {H : Heap} {nx : Nat} {q : Bool} {L : List MO} {s : St}

theorem ex_bad : Ex P D G (m + 1) .ctl (.code .bad :: k) s = False := Eq.trans rfl rfl
theorem ex_ret : Ex P D G (m + 1) .ctl (.code .ret :: k) s = Ends D G s := Eq.trans rfl rfl
theorem ex_nil : Ex P D G (m + 1) .ctl [] s = Ends D G s := Eq.trans rfl rfl
theorem ex_skip : Ex P D G (m + 1) .ctl (.code .skip :: k) s = Ex P D G m .ctl k s := Eq.trans rfl rfl
theorem ex_seq {a b : MC} : Ex P D G (m + 1) .ctl (.code (.seq a b) :: k) s = Ex P D G m .ctl (.code a :: .code b :: k) s := Eq.trans rfl rfl
theorem ex_cond {c : Opd} {a b : MC} : Ex P D G (m + 1) .ctl (.code (.cond c a b) :: k) ⟨E, H, nx⟩ = Ex P D G m (.cnd (ev E c) a b) k ⟨E, H, nx⟩ := Eq.trans rfl rfl
theorem ex_cnd {t : Bool} {a b : MC} : Ex P D G (m + 1) (.cnd (some (.v (.w (.bool t)))) a b) k s = ((t = true → Ex P D G m .ctl (.code a :: k) s) ∧ (t = false → Ex P D G m .ctl (.code b :: k) s)) := Eq.trans rfl rfl
theorem ex_block {id : Nat} {b : MC} : Ex P D G (m + 1) .ctl (.code (.block id b) :: k) s = Ex P D G m .ctl (.code b :: .inBlock id :: k) s := Eq.trans rfl rfl
theorem ex_inBlock {id : Nat} : Ex P D G (m + 1) .ctl (.inBlock id :: k) s = Ex P D G m .ctl k s := Eq.trans rfl rfl
theorem ex_exit {id : Nat} : Ex P D G (m + 1) .ctl (.code (.exit id) :: k) s = match mexit id k with | some k' => Ex P D G m .ctl k' s | none => False := Eq.trans rfl rfl
theorem ex_loop {b : MC} : Ex P D G (m + 1) .ctl (.code (.loop b) :: k) s = Run P D G (.code (.loop b) :: k) s := Eq.trans rfl rfl
theorem ex_inLoop {b : MC} : Ex P D G (m + 1) .ctl (.inLoop b :: k) s = Run P D G (.inLoop b :: k) s := Eq.trans rfl rfl
theorem ex_stop : Ex P D G (m + 1) .ctl (.stop :: k) s = Run P D G k s := Eq.trans rfl rfl
theorem ex_reg : Ex P D G (m + 1) .ctl (.code (.reg q L) :: k) s = Ex P D G m (.ops q L) k s := Eq.trans rfl rfl
theorem ex_end : Ex P D G (m + 1) (.ops q []) k ⟨E, H, nx⟩ = Ex P D G m .ctl k ⟨E, H, nx + 8192⟩ := Eq.trans rfl rfl
theorem ex_op {d : Nat} {mo : MOp} : Ex P D G (m + 2) (.ops q (.op none d mo :: L)) k ⟨E, H, nx⟩ = Ex P D G m (.put d (mval (q && !(MO.op none d mo).loud) E H (nx + d) mo) q L) k ⟨E, H, nx⟩ := by
  simp [Ex, guardOf, MO.g, setG]
theorem ex_opG {g : Nat × Bool} {d : Nat} {mo : MOp} : Ex P D G (m + 1) (.ops q (.op (some g) d mo :: L)) k ⟨E, H, nx⟩ = Ex P D G m (.gd (guardOf E (some g)) (.op (some g) d mo) q L) k ⟨E, H, nx⟩ := Eq.trans rfl rfl
theorem ex_gdO {t : Bool} {g : Option (Nat × Bool)} {d : Nat} {mo : MOp} : Ex P D G (m + 1) (.gd (some t) (.op g d mo) q L) k ⟨E, H, nx⟩ =
    ((t = true → Ex P D G m (.put d (mval (q && !(MO.op g d mo).loud) (setG E g true) H (nx + d) mo) q L) k ⟨setG E g true, H, nx⟩) ∧ (t = false → Ex P D G m (.ops q L) k ⟨(d, .tup []) :: setG E g false, H, nx⟩)) := Eq.trans rfl rfl
theorem ex_put {d : Nat} {x : AV} {H' : Heap} : Ex P D G (m + 1) (.put d (some (x, H')) q L) k ⟨E, H, nx⟩ = Ex P D G m (.ops q L) k ⟨(d, x) :: E, H', nx⟩ := Eq.trans rfl rfl
theorem ex_st {mo : MOp} : Ex P D G (m + 2) (.ops q (.store none mo :: L)) k ⟨E, H, nx⟩ = Ex P D G m (.sto (mvalS false E H nx mo) q L) k ⟨E, H, nx⟩ := by
  simp [Ex, guardOf, MO.g, MO.loud, setG]
theorem ex_stG {g : Nat × Bool} {mo : MOp} : Ex P D G (m + 1) (.ops q (.store (some g) mo :: L)) k ⟨E, H, nx⟩ = Ex P D G m (.gd (guardOf E (some g)) (.store (some g) mo) q L) k ⟨E, H, nx⟩ := Eq.trans rfl rfl
theorem ex_gdS {t : Bool} {g : Option (Nat × Bool)} {mo : MOp} : Ex P D G (m + 1) (.gd (some t) (.store g mo) q L) k ⟨E, H, nx⟩ =
    ((t = true → Ex P D G m (.sto (mvalS false (setG E g true) H nx mo) q L) k ⟨setG E g true, H, nx⟩) ∧ (t = false → Ex P D G m (.ops q L) k ⟨setG E g false, H, nx⟩)) := by
  simp only [Ex, MO.loud, Bool.not_true, Bool.and_false]; rfl
theorem mvalS_stt {agg : Bool} {sz : Nat} {x v : Opd} : mvalS q E H nx (.stt agg sz x v) = mval q E H nx (.stt agg sz x v) := Eq.trans rfl rfl
theorem mvalS_mup {ag : Bool} {ks : List Bool} {x y v : Opd} : mvalS q E H nx (.mup ag ks x y v) = mval q E H nx (.mup ag ks x y v) := Eq.trans rfl rfl
/-- The next entry of a map, and what is ahead behind it. -/
def NextG (P : Program) (D : Fd) (G : Gl) (m : Nat) (k : List MI) (s : St) (d1 d2 : Nat) (x : Opd) : Prop := ∃ i mm S rest, ev s.env x = some (.h i) ∧ irest s.heap i = some (mm, List.length rest, itL S) ∧ mrest s.heap mm = some rest ∧
  ((∀ j, j < List.length rest → j ∈ S) → Ex P D G m .ctl k ⟨(d2, .v (.w (.bool false))) :: (d1, .u) :: s.env, s.heap, s.nx⟩) ∧
  ∀ j, j < List.length rest → j ∉ S → Ex P D G m .ctl k ⟨(d2, .v (.w (.bool true))) :: (d1, .u) :: s.env, setIn s.heap i ⟨false, 0, mkI mm (List.length rest) :: itL (S ++ [j])⟩, s.nx⟩
theorem ex_next {d1 d2 : Nat} {x : Opd} : Ex P D G (m + 1) .ctl (.code (.next d1 d2 x) :: k) s = NextG P D G m k s d1 d2 x := Eq.trans rfl rfl
theorem ex_inc {d1 d2 d3 d4 : Nat} {ag : Bool} {ks : List Bool} {x y : Opd} : Ex P D G (m + 2) (.ops q [.inc d1 d2 d3 d4 ag ks x y]) k ⟨E, H, nx⟩ = Ex P D G m (.sto ((incV E H ag ks x y).map fun H' => (.u, H')) q []) k ⟨(d4, .u) :: (d3, .u) :: (d2, .u) :: (d1, .u) :: E, H, nx⟩ := by
  simp [Ex, guardOf, MO.g, setG]
theorem ex_sto {x : AV} {H' : Heap} : Ex P D G (m + 1) (.sto (some (x, H')) q L) k ⟨E, H, nx⟩ = Ex P D G m (.ops q L) k ⟨E, H', nx⟩ := Eq.trans rfl rfl
theorem ex_call {d : Nat} {f : Opd} {as : List Opd} : Ex P D G (m + 2) (.ops q (.call none d f as :: L)) k ⟨E, H, nx⟩ = CallG P D G m q L k ⟨E, H, nx⟩ d f as := by
  simp [Ex, guardOf, MO.g, CallG, setG]
theorem ex_callG {g : Nat × Bool} {d : Nat} {f : Opd} {as : List Opd} : Ex P D G (m + 1) (.ops q (.call (some g) d f as :: L)) k ⟨E, H, nx⟩ = Ex P D G m (.gd (guardOf E (some g)) (.call (some g) d f as) q L) k ⟨E, H, nx⟩ := Eq.trans rfl rfl
theorem ex_gdC {t : Bool} {g : Option (Nat × Bool)} {d : Nat} {f : Opd} {as : List Opd} : Ex P D G (m + 1) (.gd (some t) (.call g d f as) q L) k ⟨E, H, nx⟩ =
    ((t = true → CallG P D G m q L k ⟨setG E g true, H, nx⟩ d f as) ∧ (t = false → Ex P D G m (.ops q L) k ⟨(d, .tup []) :: setG E g false, H, nx⟩)) := Eq.trans rfl rfl

/-! tests whose answer is known -/
theorem ex_cndU {a b : MC} : Ex P D G (m + 1) (.cnd (some .ub) a b) k s = (Ex P D G m .ctl (.code a :: k) s ∧ Ex P D G m .ctl (.code b :: k) s) := Eq.trans rfl rfl
theorem ex_cndT {a b : MC} : Ex P D G (m + 1) (.cnd (some (.v (.w (.bool true)))) a b) k s = Ex P D G m .ctl (.code a :: k) s := by rw [ex_cnd]; simp
theorem ex_cndF {a b : MC} : Ex P D G (m + 1) (.cnd (some (.v (.w (.bool false)))) a b) k s = Ex P D G m .ctl (.code b :: k) s := by rw [ex_cnd]; simp
theorem ex_gdOT {g : Option (Nat × Bool)} {d : Nat} {mo : MOp} : Ex P D G (m + 1) (.gd (some true) (.op g d mo) q L) k ⟨E, H, nx⟩ = Ex P D G m (.put d (mval (q && !(MO.op g d mo).loud) (setG E g true) H (nx + d) mo) q L) k ⟨setG E g true, H, nx⟩ := by rw [ex_gdO]; simp
theorem ex_gdOF {g : Option (Nat × Bool)} {d : Nat} {mo : MOp} : Ex P D G (m + 1) (.gd (some false) (.op g d mo) q L) k ⟨E, H, nx⟩ = Ex P D G m (.ops q L) k ⟨(d, .tup []) :: setG E g false, H, nx⟩ := by rw [ex_gdO]; simp
theorem ex_gdST {g : Option (Nat × Bool)} {mo : MOp} : Ex P D G (m + 1) (.gd (some true) (.store g mo) q L) k ⟨E, H, nx⟩ = Ex P D G m (.sto (mvalS false (setG E g true) H nx mo) q L) k ⟨setG E g true, H, nx⟩ := by rw [ex_gdS]; simp
theorem ex_gdSF {g : Option (Nat × Bool)} {mo : MOp} : Ex P D G (m + 1) (.gd (some false) (.store g mo) q L) k ⟨E, H, nx⟩ = Ex P D G m (.ops q L) k ⟨setG E g false, H, nx⟩ := by rw [ex_gdS]; simp
theorem ex_gdCT {g : Option (Nat × Bool)} {d : Nat} {f : Opd} {as : List Opd} : Ex P D G (m + 1) (.gd (some true) (.call g d f as) q L) k ⟨E, H, nx⟩ = CallG P D G m q L k ⟨setG E g true, H, nx⟩ d f as := by rw [ex_gdC]; simp
theorem ex_gdCF {g : Option (Nat × Bool)} {d : Nat} {f : Opd} {as : List Opd} : Ex P D G (m + 1) (.gd (some false) (.call g d f as) q L) k ⟨E, H, nx⟩ = Ex P D G m (.ops q L) k ⟨(d, .tup []) :: setG E g false, H, nx⟩ := by rw [ex_gdC]; simp

end eqs

/-! ### Calls -/
section calls
variable {P : Program} {D : Fd} {G : Gl} {m : Nat} {k : List MI} {E : Env} {H : Heap} {nx : Nat} {q : Bool} {L : List MO} {d : Nat} {f : Opd} {args : List Opd} {u res : AV} {fid : FuncId} {caps as ys : List AV}

/-- Rows are lent; a flat value comes back. -/
theorem CallG.lent (h1 : ev E f = some u) (h2 : fnOf u = some (fid, caps)) (h3 : evs E args = some as) (h4 : passAs true H [] (as ++ caps) = some ys) (h5 : FOk P fid ys [] res []) (h6 : flatA res = true)
    (h : Ex P D G m (.ops q L) k ⟨(d, res) :: E, H, nx⟩) : CallG P D G m q L k ⟨E, H, nx⟩ d f args :=
  ⟨_, .inl ⟨res, [], CallQ.lent h1 h2 h3 h4 h5 h6, rfl⟩, h⟩

/-- Values are handed over; a value, or new rows, come back. -/
theorem CallG.plain {Hout : Heap} (h1 : ev E f = some u) (h2 : fnOf u = some (fid, caps)) (h3 : evs E args = some as) (h4 : passAs false H [] (as ++ caps) = some ys) (h5 : FOk P fid ys [] res Hout) (h6 : ∀ p ∈ Hout, p.1 < 8 ∧ p.2.sol) (h7 : ∀ k, res.men k → k < 8)
    (h : Ex P D G m (.ops q L) k ⟨(d, backA [] (nx + d) res) :: E, (Hout.map fun p => (bk [] (nx + d) p.1, p.2)) ++ H, nx⟩) : CallG P D G m q L k ⟨E, H, nx⟩ d f args :=
  ⟨_, .inl ⟨_, _, CallQ.plain (s := ⟨E, H, nx⟩) h1 h2 h3 h4 h5 h6 h7, rfl⟩, h⟩

/-- Rows are handed over (ids), rows of rows among them; the others are written no more. -/
theorem CallG.rowsN (ids : List Nat) {Hout : Heap} (h1 : ev E f = some u) (h2 : fnOf u = some (fid, caps)) (h3 : evs E args = some as) (h4 : passAs false (frzs ids H (as ++ caps)) ids (as ++ caps) = some ys) (hn : ids.Nodup)
    (hf : ∀ id ∈ ids, ∃ e, find (frzs ids H (as ++ caps)) id = some e ∧ e.pas ∧ ∀ c, e.ref = some c → c ∈ ids) (h5 : FOk P fid ys (passN (frzs ids H (as ++ caps)) ids) res Hout)
    (h6 : ∀ p ∈ Hout, p.1 < ids.length + 8 ∧ p.2.pas ∧ ∀ c, p.2.ref = some c → (find Hout c).isSome = true) (h7 : ∀ k, res.men k → k < ids.length + 8)
    (h : Ex P D G m (.ops false L) k ⟨(d, backA ids (nx + d) res) :: E, outN (frzs ids H (as ++ caps)) ids (nx + d) Hout, nx⟩) : CallG P D G m false L k ⟨E, H, nx⟩ d f args :=
  ⟨_, .inr ⟨rfl, CallOk.rows (s := ⟨E, H, nx⟩) h1 h2 h3 h4 hn hf h5 h6 h7 fun _ => rfl⟩, h⟩

/-- Rows are handed over (ids); the others are written no more. -/
theorem CallG.rows (ids : List Nat) {Hout : Heap} (h1 : ev E f = some u) (h2 : fnOf u = some (fid, caps)) (h3 : evs E args = some as) (h4 : passAs false (frzs ids H (as ++ caps)) ids (as ++ caps) = some ys) (hn : ids.Nodup)
    (hf : ∀ id ∈ ids, ∃ e, find H id = some e ∧ e.sol) (h5 : FOk P fid ys (passH (frzs ids H (as ++ caps)) 0 ids) res Hout) (h6 : ∀ p ∈ Hout, p.1 < ids.length + 8 ∧ p.2.sol) (h7 : ∀ k, res.men k → k < ids.length + 8)
    (h : Ex P D G m (.ops false L) k ⟨(d, backA ids (nx + d) res) :: E, outH (frzs ids H (as ++ caps)) ids (nx + d) Hout, nx⟩) : CallG P D G m false L k ⟨E, H, nx⟩ d f args := by
  have hsol : ∀ id ∈ ids, ∃ e, find (frzs ids H (as ++ caps)) id = some e ∧ e.sol := fun id hid => by
    obtain ⟨e, he, hs⟩ := hf id hid
    obtain ⟨e', he', hs'⟩ := frzs_sol ids (as ++ caps) H id e he hs
    exact ⟨e', he', hs'⟩
  refine CallG.rowsN ids h1 h2 h3 h4 hn (fun id hid => ?_) ?_ (fun p hp => ⟨(h6 p hp).1, pas_sol (h6 p hp).2⟩) h7 ?_
  · obtain ⟨e, he, hs⟩ := hsol id hid
    exact ⟨e, he, .inl hs, fun c hc => (Ent.sol_refs hs (.inl hc)).elim⟩
  · rw [passN, renH_sol]
    · exact h5
    · intro p hp
      obtain ⟨i, g1, g2⟩ := passH_mem _ ids 0 p hp
      obtain ⟨e0, g3, g4⟩ := hsol i g1
      rw [g2] at g3; cases g3
      exact g4
  · rw [outN, renH_sol fun p hp => (h6 p hp).2]; exact h

/-- Rows are handed over and are behind the call as they were. -/
theorem CallG.same (ids : List Nat) (h1 : ev E f = some u) (h2 : fnOf u = some (fid, caps)) (h3 : evs E args = some as) (h4 : passAs false H ids (as ++ caps) = some ys) (hn : ids.Nodup) (hf : ∀ id ∈ ids, ∃ e, find H id = some e ∧ e.sol)
    (h5 : FOk P fid ys (passH H 0 ids) res (passH H 0 ids)) (h7 : ∀ k, res.men k → k < ids.length) (h8 : ∀ id ∈ ids, Named' E (args ++ [f]) id)
    (h : Ex P D G m (.ops q L) k ⟨(d, backA ids (nx + d) res) :: E, H, nx⟩) : CallG P D G m q L k ⟨E, H, nx⟩ d f args :=
  ⟨_, .inl ⟨_, _, CallQ.same (s := ⟨E, H, nx⟩) h1 h2 h3 h4 hn hf h5 h7 h8, rfl⟩, h⟩

end calls
end Go.AM
/- Forgetting, renaming, loops. -/
set_option linter.all false
namespace Go.AM
open Go
variable [dr : Inhabited Prop]

/-- The new number of a row: kp has pairs (new, old). -/
def newOf : List (Nat × Nat) → Nat → Option Nat
  | [], _ => none
  | (a, b) :: l, id => if id = b then some a else newOf l id

mutual
/-- A value under new numbers; a row that is not kept becomes a shared value. -/
def conv (kp : List (Nat × Nat)) (H : Heap) : AV → Option AV
  | .h id => match newOf kp id with
    | some a => some (.h a)
    | none => match find H id with
      | some e => if e.sz = 0 then none else some (.v (.sl e.sz e.l))
      | none => none
  | .ptr id i o => match newOf kp id with
    | some a => some (.ptr a i o)
    | none => none
  | .sub id i o => match newOf kp id with
    | some a => some (.sub a i o)
    | none => none
  | .fn f l => match convs kp H l with
    | some l => some (.fn f l)
    | none => none
  | .tup l => match convs kp H l with
    | some l => some (.tup l)
    | none => none
  | .u => some .u
  | .ub => some .ub
  | .v p => some (.v p)
  | .rp cs => some (.rp cs)
def convs (kp : List (Nat × Nat)) (H : Heap) : List AV → Option (List AV)
  | [] => some []
  | x :: l => match conv kp H x, convs kp H l with
    | some y, some ys => some (y :: ys)
    | _, _ => none
end

def EnvLe (kp : List (Nat × Nat)) (H : Heap) (E : Env) : Env → Prop
  | [] => True
  | (t, x) :: E' => (find E t).bind (conv kp H) = some x ∧ EnvLe kp H E E'

/-- The elements of a row of owned rows become the rows c0, .., c0 + n - 1. -/
def kpAll (kp : List (Nat × Nat)) (c0 : Nat) (ov : Option (Nat × Nat)) : Nat → Bool
  | 0 => true
  | n + 1 => kpAll kp c0 ov n && (find kp (c0 + n) == some (dAt c0 ov n))

theorem kpAll_at {kp : List (Nat × Nat)} {c0 : Nat} {ov : Option (Nat × Nat)} : ∀ {n j : Nat}, kpAll kp c0 ov n = true → j < n → find kp (c0 + j) = some (dAt c0 ov j)
  | 0, _, _, hj => absurd hj (by omega)
  | n + 1, j, h, hj => by
    simp only [kpAll, Bool.and_eq_true, beq_iff_eq] at h
    by_cases e : j = n
    · subst e; exact h.2
    · exact kpAll_at h.1 (by omega)

/-- The elements of a row of owned rows, written no more. -/
def deepRows (kp : List (Nat × Nat)) (H : Heap) (c0 : Nat) (ov : Option (Nat × Nat)) : Nat → Option (List PV)
  | 0 => some []
  | n + 1 => match deepRows kp H c0 ov n with
    | some l => match newOf kp (dAt c0 ov n) with
      | some _ => none
      | none => match find H (dAt c0 ov n) with
        | some ec => if ec.sz = 0 then none else some (l ++ [.sl ec.sz ec.l])
        | none => none
    | none => none

theorem deepRows_get {kp : List (Nat × Nat)} {H : Heap} {c0 : Nat} {ov : Option (Nat × Nat)} : ∀ {n : Nat} {rows : List PV}, deepRows kp H c0 ov n = some rows →
    rows.length = n ∧ ∀ j, j < n → ∃ ec, newOf kp (dAt c0 ov j) = none ∧ find H (dAt c0 ov j) = some ec ∧ ec.sz ≠ 0 ∧ rows[j]? = some (.sl ec.sz ec.l)
  | 0, rows, h => by simp only [deepRows, Option.some.injEq] at h; subst h; exact ⟨rfl, fun j hj => absurd hj (by omega)⟩
  | n + 1, rows, h => by
    simp only [deepRows] at h
    split at h
    · rename_i l hl
      obtain ⟨h1, h2⟩ := deepRows_get hl
      split at h
      · cases h
      · rename_i hn
        split at h
        · rename_i ec hec
          split at h
          · cases h
          · rename_i hz
            cases h
            refine ⟨by simp [h1], fun j hj => ?_⟩
            by_cases e : j = n
            · subst e
              exact ⟨ec, hn, hec, hz, by rw [List.getElem?_append_right (by omega), h1, Nat.sub_self]; rfl⟩
            · obtain ⟨ec', g1, g2, g3, g4⟩ := h2 j (by omega)
              exact ⟨ec', g1, g2, g3, by rw [List.getElem?_append_left (by omega)]; exact g4⟩
        · cases h
    · cases h

/-- A row under new numbers; z: as a row of rows. -/
def convE (kp : List (Nat × Nat)) (H : Heap) (e : Ent) (z : Bool) : Option Ent :=
  if e.sz = 0 then (if e.fro = false then (match e.l with
    | h :: rest => (match decR h with
      | some none => if z = true then some e else some ⟨e.fro, 1, rest⟩
      | some (some (i, c)) => (match newOf kp c with
        | some c' => if z = true then some ⟨e.fro, 0, encR i c' :: rest⟩ else none
        | none => (match find H c with
          | some ec => if ec.sz = 0 then none else if z = true then some ⟨e.fro, 0, .st [] :: rest.set i (.sl ec.sz ec.l)⟩ else some ⟨e.fro, 1, rest.set i (.sl ec.sz ec.l)⟩
          | none => none))
      | none => (match decD h with
        | some (c0, ov) => if z = true ∧ kpAll kp c0 ov rest.length = true then some ⟨e.fro, 0, encD c0 :: rest⟩ else (match deepRows kp H c0 ov rest.length with
          | some rows => if z = true then some ⟨e.fro, 0, .st [] :: rows⟩ else some ⟨e.fro, 1, rows⟩
          | none => none)
        | none => if decM h = true ∧ z = true then some e else (match decI h with
          | some (m, n) => (match newOf kp m with
            | some m' => if z = true then some ⟨e.fro, 0, mkI m' n :: rest⟩ else none
            | none => none)
          | none => none)))
    | [] => none) else none)
  else if z = true then (if e.sz = 1 ∧ e.fro = false then some ⟨e.fro, 0, .st [] :: e.l⟩ else none) else some e

def HeapLe (kp : List (Nat × Nat)) (H : Heap) : Heap → Prop
  | [] => True
  | (a, e) :: H' => ((find kp a).bind (find H)).bind (fun x => convE kp H x (e.sz == 0)) = some e ∧ HeapLe kp H H'

section
variable {P : Program} {D : Fd} {G : Gl} {k : List MI} {s s' : St} {kp : List (Nat × Nat)}

theorem newOf_mem : ∀ {kp : List (Nat × Nat)} {id a : Nat}, newOf kp id = some a → (a, id) ∈ kp
  | [], _, _, h => by simp [newOf] at h
  | (x, y) :: l, id, a, h => by
    simp only [newOf] at h
    split at h
    · rename_i he; cases h; subst he; simp
    · simp [newOf_mem h]

theorem newOf_none : ∀ {kp : List (Nat × Nat)} {id : Nat}, newOf kp id = none → ∀ a, (a, id) ∉ kp
  | [], _, _, _ => by simp
  | (x, y) :: l, id, h, a => by
    simp only [newOf] at h
    split at h
    · cases h
    · rename_i he
      intro hm
      rcases List.mem_cons.1 hm with hm | hm
      · cases hm; exact he rfl
      · exact newOf_none h a hm

theorem find_of_mem {α : Type} : ∀ {l : List (Nat × α)} {a : Nat} {x : α}, (l.map Prod.fst).Nodup → (a, x) ∈ l → find l a = some x
  | (b, y) :: l, a, x, hn, hm => by
    simp only [List.map_cons, List.nodup_cons] at hn
    rw [find_cons]
    rcases List.mem_cons.1 hm with hm | hm
    · cases hm; simp
    · have : a ≠ b := by intro hab; exact hn.1 (List.mem_map.2 ⟨(a, x), hm, hab⟩)
      rw [if_neg this]; exact find_of_mem hn.2 hm

theorem envLe_get {kp : List (Nat × Nat)} {H : Heap} {E : Env} : ∀ {E' : Env} {t : Nat} {x : AV}, EnvLe kp H E E' → find E' t = some x → ∃ y, find E t = some y ∧ conv kp H y = some x
  | [], t, x, _, h => by simp [find] at h
  | (u, z) :: E', t, x, hle, h => by
    simp only [EnvLe] at hle
    rw [find_cons] at h
    split at h
    · rename_i ht; cases h; subst ht; exact Option.bind_eq_some_iff.1 hle.1
    · exact envLe_get hle.2 h

theorem heapLe_get {kp : List (Nat × Nat)} {H : Heap} : ∀ {H' : Heap} {a : Nat} {e : Ent}, HeapLe kp H H' → find H' a = some e → ∃ old e0, find kp a = some old ∧ find H old = some e0 ∧ convE kp H e0 (e.sz == 0) = some e
  | [], a, e, _, h => by simp [find] at h
  | (u, z) :: H', a, e, hle, h => by
    simp only [HeapLe] at hle
    rw [find_cons] at h
    split at h
    · rename_i ht; cases h; subst ht
      obtain ⟨e0, h1, h2⟩ := Option.bind_eq_some_iff.1 hle.1
      obtain ⟨old, h3, h4⟩ := Option.bind_eq_some_iff.1 h1
      exact ⟨old, e0, h3, h4, h2⟩
    · exact heapLe_get hle.2 h

theorem convE_w {kp : List (Nat × Nat)} {H : Heap} {e0 e : Ent} {z : Bool} (h : convE kp H e0 z = some e) : e.w = e0.w := by
  unfold convE at h
  split at h
  · rename_i hz
    have hw : e0.w = 1 := by unfold Ent.w; rw [if_pos hz]
    rw [hw]
    split at h
    rotate_left
    · cases h
    split at h
    · split at h
      · split at h
        · cases h; exact hw
        · cases h; rfl
      · split at h
        · split at h
          · cases h; rfl
          · cases h
        · split at h
          · split at h
            · cases h
            · split at h
              · cases h; rfl
              · cases h; rfl
          · cases h
      · split at h
        · split at h
          · cases h; rfl
          · split at h
            · split at h
              · cases h; rfl
              · cases h; rfl
            · cases h
        · split at h
          · cases h; exact hw
          · split at h
            · split at h
              · split at h
                · cases h; rfl
                · cases h
              · cases h
            · cases h
    · cases h
  · rename_i hz
    split at h
    · split at h
      · rename_i h1; cases h; unfold Ent.w; rw [if_pos rfl, if_neg hz, h1.1]
      · cases h
    · cases h; rfl

theorem snd_one : ∀ {l : List (Nat × Nat)}, (l.map Prod.snd).Nodup → ∀ {i i' old : Nat}, (i, old) ∈ l → (i', old) ∈ l → i = i'
  | [], _, _, _, _, h, _ => by simp at h
  | (x, y) :: l, hnd, i, i', old, h, h' => by
    simp only [List.map_cons, List.nodup_cons] at hnd
    rcases List.mem_cons.1 h with g | g <;> rcases List.mem_cons.1 h' with g' | g'
    · cases g; cases g'; rfl
    · cases g; exact (hnd.1 (List.mem_map.2 ⟨(i', y), g', rfl⟩)).elim
    · cases g'; exact (hnd.1 (List.mem_map.2 ⟨(i, y), g, rfl⟩)).elim
    · exact snd_one hnd.2 g g'

def ren {α : Type} (f : Nat → α) (d : α) (kp : List (Nat × Nat)) (a : Nat) : α := match find kp a with | some old => f old | none => d

section conv
variable {C : Cx} {n : Nat} {F : Nat → Prop} {a : Act} {W : World} {hdr : Nat → Value} {ow : Nat → Option Nat} {okC : Nat → Prop} {H' : Heap}
mutual
theorem conv_ok (r : RelAt C n F s a W hdr ow) (hn : (kp.map Prod.fst).Nodup) (hle : HeapLe kp s.heap H') (hok : ∀ j, OK C W s.heap ow j → okC j) (hb : ∀ id e j, (∀ b, (b, id) ∉ kp) → find s.heap id = some e → ow id = some j → okC j) :
    ∀ (x y : AV) (v : Value), conv kp s.heap x = some y → RepA W (OK C W s.heap ow) hdr s.heap x v → RepA W okC (ren hdr default kp) H' y v
  | .h id, y, v, h, hx => by
    simp only [conv] at h
    simp only [RepA] at hx
    split at h
    · rename_i b hb'
      cases h
      have hf := find_of_mem hn (newOf_mem hb')
      simp only [RepA]
      intro e he
      obtain ⟨old, e0, h1, h2, _⟩ := heapLe_get hle he
      rw [hf] at h1; cases h1
      rw [hx e0 h2]; simp [ren, hf]
    · rename_i hnone
      split at h
      · rename_i e he
        split at h
        · cases h
        rename_i hz
        cases h
        simp only [RepA]
        rw [hx e he]
        exact RepV.sl (((r.mem.ent id e he).plain hz).shared hok fun j hj => hb id e j (newOf_none hnone) he hj)
      · cases h
  | .ptr id i off, y, v, h, hx => by
    simp only [conv] at h
    simp only [RepA] at hx
    split at h
    · rename_i b hb'
      cases h
      have hf := find_of_mem hn (newOf_mem hb')
      simp only [RepA]
      intro e he
      obtain ⟨old, e0, h1, h2, h3⟩ := heapLe_get hle he
      rw [hf] at h1; cases h1
      rw [convE_w h3]
      simpa [ren, hf] using hx e0 h2
    · cases h
  | .sub id i off, y, v, h, hx => by
    simp only [conv] at h
    simp only [RepA] at hx
    split at h
    · rename_i b hb'
      cases h
      have hf := find_of_mem hn (newOf_mem hb')
      simp only [RepA]
      intro e he
      obtain ⟨old, e0, h1, h2, h3⟩ := heapLe_get hle he
      rw [hf] at h1; cases h1
      rw [convE_w h3]
      simpa [ren, hf] using hx e0 h2
    · cases h
  | .fn f l, y, v, h, hx => by
    simp only [conv] at h
    simp only [RepA] at hx
    split at h
    · rename_i l' hl
      cases h
      simp only [RepA]
      obtain ⟨vs, h1, h2⟩ := hx
      exact ⟨vs, h1, convs_ok r hn hle hok hb l l' vs hl h2⟩
    · cases h
  | .tup l, y, v, h, hx => by
    simp only [conv] at h
    simp only [RepA] at hx
    split at h
    · rename_i l' hl
      cases h
      simp only [RepA]
      obtain ⟨vs, h1, h2⟩ := hx
      exact ⟨vs, h1, convs_ok r hn hle hok hb l l' vs hl h2⟩
    · cases h
  | .u, y, v, h, hx => by simp only [conv] at h; cases h; simp [RepA]
  | .ub, y, v, h, hx => by simp only [conv] at h; cases h; simp only [RepA] at *; exact hx
  | .v p, y, v, h, hx => by
    simp only [conv] at h; cases h
    simp only [RepA] at *
    exact hx.mono fun j hj => ⟨hok j hj, rfl⟩
  | .rp cs, y, v, h, hx => by
    simp only [conv] at h; cases h
    simp only [RepA] at *
    obtain ⟨b, o, c, h1, h2, h3, h4, h5⟩ := hx
    exact ⟨b, o, c, h1, hok b h2, h3, h4.mono fun j hj => ⟨hok j hj, rfl⟩, h5⟩
theorem convs_ok (r : RelAt C n F s a W hdr ow) (hn : (kp.map Prod.fst).Nodup) (hle : HeapLe kp s.heap H') (hok : ∀ j, OK C W s.heap ow j → okC j) (hb : ∀ id e j, (∀ b, (b, id) ∉ kp) → find s.heap id = some e → ow id = some j → okC j) :
    ∀ (l l' : List AV) (vs : List Value), convs kp s.heap l = some l' → RepAs W (OK C W s.heap ow) hdr s.heap l vs → RepAs W okC (ren hdr default kp) H' l' vs
  | [], l', [], h, _ => by simp [convs] at h; subst h; simp [RepAs]
  | [], l', _ :: _, h, hx => by simp [RepAs] at hx
  | _ :: _, l', [], h, hx => by simp [RepAs] at hx
  | x :: l, l', v :: vs, h, hx => by
    simp only [convs] at h
    simp only [RepAs] at hx
    split at h
    · rename_i y ys h1 h2
      cases h
      simp only [RepAs]
      exact ⟨conv_ok r hn hle hok hb x y v h1 hx.1, convs_ok r hn hle hok hb l ys vs h2 hx.2⟩
    · cases h
end
mutual
theorem conv_men {H : Heap} : ∀ (x y : AV) (i : Nat), conv kp H x = some y → y.men i → ∃ b, (i, b) ∈ kp
  | .h id, y, i, h, hi => by
    simp only [conv] at h
    split at h
    · rename_i b hb; cases h; simp only [AV.men] at hi; subst hi; exact ⟨id, newOf_mem hb⟩
    · split at h
      · split at h
        · cases h
        · cases h; simp [AV.men] at hi
      · cases h
  | .ptr id j o, y, i, h, hi => by
    simp only [conv] at h
    split at h
    · rename_i b hb; cases h; simp only [AV.men] at hi; subst hi; exact ⟨id, newOf_mem hb⟩
    · cases h
  | .sub id j o, y, i, h, hi => by
    simp only [conv] at h
    split at h
    · rename_i b hb; cases h; simp only [AV.men] at hi; subst hi; exact ⟨id, newOf_mem hb⟩
    · cases h
  | .fn f l, y, i, h, hi => by
    simp only [conv] at h
    split at h
    · rename_i l' hl; cases h; exact convs_men l l' i hl (by simpa [AV.men] using hi)
    · cases h
  | .tup l, y, i, h, hi => by
    simp only [conv] at h
    split at h
    · rename_i l' hl; cases h; exact convs_men l l' i hl (by simpa [AV.men] using hi)
    · cases h
  | .u, y, i, h, hi => by simp only [conv] at h; cases h; simp [AV.men] at hi
  | .ub, y, i, h, hi => by simp only [conv] at h; cases h; simp [AV.men] at hi
  | .v _, y, i, h, hi => by simp only [conv] at h; cases h; simp [AV.men] at hi
  | .rp _, y, i, h, hi => by simp only [conv] at h; cases h; simp [AV.men] at hi
theorem convs_men {H : Heap} : ∀ (l l' : List AV) (i : Nat), convs kp H l = some l' → AV.mens l' i → ∃ b, (i, b) ∈ kp
  | [], l', i, h, hi => by simp [convs] at h; subst h; simp [AV.mens] at hi
  | x :: l, l', i, h, hi => by
    simp only [convs] at h
    split at h
    · rename_i y ys h1 h2
      cases h
      simp only [AV.mens] at hi
      rcases hi with hi | hi
      · exact conv_men x y i h1 hi
      · exact convs_men l ys i h2 hi
    · cases h
end
end conv

section ent
variable {C : Cx} {n : Nat} {F : Nat → Prop} {a : Act} {W : World} {hdr : Nat → Value} {ow : Nat → Option Nat} {okC : Nat → Prop}

theorem nestL_rep {ok : Nat → Prop} {rest : List PV} {vs : List Value} (r : NestL W ok hdr none rest vs) : RepL W ok 1 rest vs := by
  refine RepL.ofGet (by rw [r.1, Nat.mul_one]) fun i p hp => ?_
  have hi : i < vs.length := by rw [r.1]; exact (List.getElem?_eq_some_iff.1 hp).1
  have := (r.2 i p vs[i] hp (List.getElem?_eq_getElem hi)).2 (fun i c h => by cases h)
  rw [Nat.mul_one, List.drop_eq_getElem_cons hi, List.take_succ_cons, List.take_zero]
  exact this

theorem rep_nestL {ok : Nat → Prop} {hdr : Nat → Value} {rest : List PV} {vs : List Value} (r : RepL W ok 1 rest vs) : NestL W ok hdr none rest vs := by
  refine ⟨by rw [r.length, Nat.mul_one], fun j p v hp hv => ⟨fun i c h => (by cases h), fun _ => ?_⟩⟩
  obtain ⟨v', h1, h2⟩ := r.get1 hp
  rw [hv] at h1; cases h1; exact h2

theorem nestL_set {ok ok' : Nat → Prop} {hdr hdr' : Nat → Value} {rest : List PV} {vs : List Value} {i c : Nat} {p : PV} (r : NestL W ok hdr (some (i, c)) rest vs) (h : ∀ b, ok b → ok' b) (hp : RepC W ok' p [hdr c]) : NestL W ok' hdr' none (rest.set i p) vs := by
  refine ⟨by rw [r.1, List.length_set], fun j q v hq hv => ⟨fun i c h => (by cases h), fun _ => ?_⟩⟩
  rw [List.getElem?_set] at hq
  by_cases hji : i = j
  · subst hji
    rw [if_pos rfl] at hq
    split at hq
    · rename_i hlt
      cases hq
      have := (r.2 i rest[i] v (List.getElem?_eq_getElem hlt) hv).1 i c rfl rfl
      rw [this.1]; exact hp
    · cases hq
  · rw [if_neg hji] at hq
    exact ((r.2 j q v hq hv).2 (fun i' c' h => by cases h; exact fun h' => hji h'.symm)).mono fun b hb => ⟨h b hb, rfl⟩

theorem conv_ent (r : RelAt C n F s a W hdr ow) (hn : (kp.map Prod.fst).Nodup) (hok : ∀ j, OK C W s.heap ow j → okC j) (hb : ∀ id e j, (∀ b, (b, id) ∉ kp) → find s.heap id = some e → ow id = some j → okC j) {old : Nat} {e0 e : Ent} {z : Bool}
    (he : find s.heap old = some e0) (h : convE kp s.heap e0 z = some e) : RepE W okC (ren hdr default kp) e (hdr old) (ow old) ∧ (∀ c, e.refs c → ∃ b, (c, b) ∈ kp) := by
  have hmo : ∀ b, OK C W s.heap ow b → okC b ∧ W.heap[b]? = W.heap[b]? := fun b hb => ⟨hok b hb, rfl⟩
  have hE := r.mem.ent old e0 he
  unfold convE at h
  split at h
  · rename_i hz
    split at h
    rotate_left
    · cases h
    rename_i hfr
    split at h
    · rename_i g rest hl
      split at h
      · rename_i hq
        obtain ⟨_, _, g', rest', rf, hl', hrf, hN⟩ := hE.nest hz hfr hl hq
        rw [hl] at hl'
        injection hl' with q1 q2
        subst q1 q2
        rw [hrf] at hq; cases hq
        split at h
        · cases h
          refine ⟨.inr (.inl ⟨hfr, hz, g, rest, none, hl, hrf, ?_⟩), fun c hc => by obtain ⟨i, hi⟩ := (Ent.refs_R hz hl hrf).1 hc; cases hi⟩
          rcases hN with hN | ⟨b, off, cap, c, h1, h2, h3, h4, h5, h6⟩
          · exact .inl hN
          · exact .inr ⟨b, off, cap, c, h1, h2, h3, h4, h5, h6.mono hmo (fun i c h => by cases h)⟩
        · cases h
          refine ⟨.inl ⟨fun h => by simp at h, ?_⟩, fun c hc => (Ent.refs_none (by simp) hc).elim⟩
          rcases hN with ⟨h1, h2, h3⟩ | ⟨b, off, cap, c, h1, h2, h3, h4, h5, h6⟩
          · exact .inr (.inl ⟨h1, h2, h3⟩)
          · exact .inr (.inr ⟨hfr, b, off, cap, c, h1, h2, h3, by simpa using h4, h5, by simpa using nestL_rep (hdr := hdr) (h6.mono hmo (fun i c h => by cases h))⟩)
      · rename_i i c hq
        obtain ⟨_, _, g', rest', rf, hl', hrf, hN⟩ := hE.nest hz hfr hl hq
        rw [hl] at hl'
        injection hl' with q1 q2
        subst q1 q2
        rw [hrf] at hq; cases hq
        split at h
        · rename_i c' hc'
          split at h
          · cases h
            have hm := newOf_mem hc'
            have hf := find_of_mem hn hm
            refine ⟨.inr (.inl ⟨hfr, rfl, encR i c', rest, some (i, c'), rfl, by simp [decR], ?_⟩), fun c1 hc1 => by obtain ⟨i1, hi⟩ := (Ent.refs_R rfl rfl (rf := some (i, c')) (by simp [decR])).1 hc1; simp at hi; rw [← hi.2]; exact ⟨c, hm⟩⟩
            rcases hN with hN | ⟨b, off, cap, cc, h1, h2, h3, h4, h5, h6⟩
            · exact .inl hN
            · refine .inr ⟨b, off, cap, cc, h1, h2, h3, h4, h5, h6.1, fun j p v hp hv => ?_⟩
              obtain ⟨k1, k2⟩ := h6.2 j p v hp hv
              refine ⟨fun i1 c1 h h' => ?_, fun h' => (k2 fun i1 c1 h => by cases h; exact h' i c' rfl).mono hmo⟩
              cases h
              have := k1 i c rfl h'
              simp only [ren, hf]; exact this
          · cases h
        · rename_i hnone
          split at h
          · rename_i ec hec
            split at h
            · cases h
            · rename_i hzc
              have hsh : RepC W okC (.sl ec.sz ec.l) [hdr c] := ((r.mem.ent c ec hec).plain hzc).shared hok fun j hj => hb c ec j (newOf_none hnone) hec hj
              split at h
              · cases h
                refine ⟨.inr (.inl ⟨hfr, rfl, .st [], rest.set i (.sl ec.sz ec.l), none, rfl, by simp [decR], ?_⟩), fun c1 hc1 => by obtain ⟨i1, hi⟩ := (Ent.refs_R rfl rfl (rf := none) (by simp [decR])).1 hc1; cases hi⟩
                rcases hN with ⟨h1, h2, h3⟩ | ⟨b, off, cap, cc, h1, h2, h3, h4, h5, h6⟩
                · exact .inl ⟨by rw [h1]; rfl, h2, h3⟩
                · exact .inr ⟨b, off, cap, cc, h1, by rw [List.length_set]; exact h2, h3, h4, by rw [List.length_set]; exact h5, by rw [List.length_set]; exact nestL_set h6 hok hsh⟩
              · cases h
                refine ⟨.inl ⟨fun h => by simp at h, ?_⟩, fun c hc => (Ent.refs_none (by simp) hc).elim⟩
                rcases hN with ⟨h1, h2, h3⟩ | ⟨b, off, cap, cc, h1, h2, h3, h4, h5, h6⟩
                · exact .inr (.inl ⟨by rw [h1]; rfl, h2, h3⟩)
                · exact .inr (.inr ⟨hfr, b, off, cap, cc, h1, by simp only [List.length_set]; exact h2, h3, by simpa using h4, by simp only [List.length_set]; exact h5, by
                    simp only [List.length_set, Nat.mul_one]
                    exact nestL_rep (nestL_set (hdr' := hdr) h6 hok hsh)⟩)
          · cases h
      · split at h
        · rename_i c0 ov hd
          have hD := hE.deep hz hfr hl hd
          split at h
          · rename_i hc
            cases h
            have hk : ∀ j, j < rest.length → find kp (c0 + j) = some (dAt c0 ov j) := fun j hj => kpAll_at hc.2 hj
            have hdec : decD (encD c0) = some (c0, none) := by simp [decD]
            refine ⟨.inr (.inr (.inl ⟨hfr, rfl, encD c0, rest, c0, none, rfl, hdec, ?_⟩)), fun c hc => ?_⟩
            · refine hD.imp id fun ⟨b, off, cap, cc, h1, h2, h3, h4, h5, h6⟩ => ⟨b, off, cap, cc, h1, h2, h3, h4, h5, fun j v hj hv => ?_⟩
              have := h6 j v hj hv
              simp only [dAt] at this ⊢
              simp only [ren, hk j hj]
              exact this
            · obtain ⟨j, hj, e1⟩ := (Ent.refs_D rfl rfl hdec).1 hc
              exact ⟨_, by rw [e1]; exact find_mem (hk j hj)⟩
          · split at h
            · rename_i rows hrows
              obtain ⟨hlen, hget⟩ := deepRows_get hrows
              have hrep : ∀ (b off cap : Nat) (cc : List Value), off + cap ≤ cc.length → rest.length ≤ cap → (∀ j v, j < rest.length → cc[off + j]? = some v → v = hdr (dAt c0 ov j) ∧ ∃ a m n, v = .slice a m n) →
                  RepL W okC 1 rows ((cc.drop off).take rest.length) := by
                intro b off cap cc h4 h5 h6
                refine RepL.ofGet (by rw [List.length_take, List.length_drop]; omega) fun i p hp => ?_
                have hi : i < rest.length := by rw [← hlen]; exact (List.getElem?_eq_some_iff.1 hp).1
                obtain ⟨ec, g1, g2, g3, g4⟩ := hget i hi
                rw [hp] at g4; cases g4
                have hcell : cc[off + i]? = some (cc[off + i]'(by omega)) := List.getElem?_eq_getElem (by omega)
                have hv := (h6 i _ hi hcell).1
                have hsh : RepC W okC (.sl ec.sz ec.l) [hdr (dAt c0 ov i)] := ((r.mem.ent _ ec g2).plain g3).shared hok fun j hj => hb _ ec j (newOf_none g1) g2 hj
                have e1 : (((cc.drop off).take rest.length).drop (i * 1)).take 1 = [cc[off + i]'(by omega)] := by
                  rw [Nat.mul_one, List.drop_eq_getElem_cons (by rw [List.length_take, List.length_drop]; omega), List.take_succ_cons, List.take_zero]
                  simp
                rw [e1, hv]; exact hsh
              split at h
              · cases h
                refine ⟨.inr (.inl ⟨hfr, rfl, .st [], rows, none, rfl, by simp [decR], ?_⟩), fun c hc => by obtain ⟨i1, hi⟩ := (Ent.refs_R rfl rfl (rf := none) (by simp [decR])).1 hc; cases hi⟩
                rcases hD with ⟨h1, h2, h3⟩ | ⟨b, off, cap, cc, h1, h2, h3, h4, h5, h6⟩
                · exact .inl ⟨List.length_eq_zero_iff.1 (by rw [hlen, h1]; rfl), h2, h3⟩
                · exact .inr ⟨b, off, cap, cc, h1, by rw [hlen]; exact h2, h3, h4, by rw [hlen]; exact h5, by rw [hlen]; exact rep_nestL (hrep b off cap cc h4 h5 h6)⟩
              · cases h
                refine ⟨.inl ⟨fun h => by simp at h, ?_⟩, fun c hc => (Ent.refs_none (by simp) hc).elim⟩
                rcases hD with ⟨h1, h2, h3⟩ | ⟨b, off, cap, cc, h1, h2, h3, h4, h5, h6⟩
                · exact .inr (.inl ⟨List.length_eq_zero_iff.1 (by rw [hlen, h1]; rfl), h2, h3⟩)
                · exact .inr (.inr ⟨hfr, b, off, cap, cc, h1, by rw [hlen]; exact h2, h3, by simpa using h4, by rw [hlen]; exact h5, by
                    simp only [hlen, Nat.mul_one]
                    exact hrep b off cap cc h4 h5 h6⟩)
            · cases h
        · split at h
          · rename_i hm
            cases h
            refine ⟨.inr (.inr (.inr ⟨hfr, hz, .inl ?_⟩)), fun c hc => (Ent.refs_M hz hl hm.1 hc).elim⟩
            obtain ⟨b, es, h1, h2, h3, h4, h5⟩ := hE.map hz hfr hl hm.1
            refine ⟨g, rest, b, es, hl, hm.1, h1, h2, h3, h4, fun j p m hp hm' => ?_⟩
            obtain ⟨g1, k, v, g2, g3, g4⟩ := h5 j p m hp hm'
            exact ⟨g1, k, v, g2, g3.mono hmo, g4.mono hmo⟩
          · split at h
            · rename_i m nn hi
              split at h
              · rename_i m' hm'
                split at h
                · cases h
                  have hm := newOf_mem hm'
                  have hf := find_of_mem hn hm
                  have hdec : decI (mkI m' nn) = some (m', nn) := by simp [decI]
                  obtain ⟨b, bm, sn, h1, h2, h3, h4, h5⟩ := hE.iter hz hfr hl hi
                  refine ⟨.inr (.inr (.inr ⟨hfr, rfl, .inr ⟨mkI m' nn, rest, b, m', nn, bm, sn, rfl, hdec, h1, h2, ?_, h4, h5⟩⟩)), fun c hc => ?_⟩
                  · simp only [ren, hf]; exact h3
                  · have := (Ent.refs_I (e := ⟨e0.fro, 0, mkI m' nn :: rest⟩) rfl rfl hdec).1 hc
                    subst this
                    exact ⟨m, hm⟩
                · cases h
              · cases h
            · cases h
    · cases h
  · rename_i hz
    split at h
    · split at h
      · rename_i hc
        cases h
        refine ⟨.inr (.inl ⟨hc.2, rfl, .st [], e0.l, none, rfl, by simp [decR], ?_⟩), fun c hc => by obtain ⟨i1, hi⟩ := (Ent.refs_R rfl rfl (rf := none) (by simp [decR])).1 hc; cases hi⟩
        rcases hE.plain hz with ⟨h3, _⟩ | ⟨h1, h2, h3⟩ | ⟨_, b, off, cap, c, h1, h2, h3, h4, h5, h6⟩
        · rw [hc.2] at h3; cases h3
        · exact .inl ⟨h1, h2, h3⟩
        · rw [hc.1, Nat.mul_one] at h4
          rw [hc.1, Nat.mul_one] at h6
          exact .inr ⟨b, off, cap, c, h1, h2, h3, h4, h5, (rep_nestL (hdr := ren hdr default kp) h6).mono hmo (fun i c h => by cases h)⟩
      · cases h
    · cases h
      exact ⟨hE.mono hmo (fun _ _ => rfl) (fun c hc => (Ent.refs_none hz hc).elim), fun c hc => (Ent.refs_none hz hc).elim⟩
end ent

/-- What holds from a state that says less holds from one that says more. -/
theorem Run.weaken (kp : List (Nat × Nat)) (hn : (kp.map Prod.fst).Nodup) (hn2 : (kp.map Prod.snd).Nodup) (hE : EnvLe kp s.heap s.env s'.env) (hH : HeapLe kp s.heap s'.heap) (hnx : ∀ p ∈ kp, p.1 < s'.nx) (hnin : G.nin ≤ s'.nx)
    (hkeep : ∀ j, j < G.nin → (find s'.heap j).isSome = true → find kp j = some j) (h : Run P D G k s') : Run P D G k s := by
  intro C fn a W hdr ow items hC hfn r hm b cs hb hbk
  have hget : ∀ i e, find s'.heap i = some e → ∃ old e0, find kp i = some old ∧ find s.heap old = some e0 ∧ convE kp s.heap e0 (e.sz == 0) = some e := fun i e he => heapLe_get hH he
  have hown : ∀ j, Own s'.heap (ren ow none kp) j → ∃ i id e, (i, id) ∈ kp ∧ find s.heap id = some e ∧ ow id = some j := by
    rintro j ⟨i, e, hi, ho⟩
    obtain ⟨old, e0, h1, h2, _⟩ := hget i e hi
    simp only [ren, h1] at ho
    exact ⟨i, old, e0, find_mem h1, h2, ho⟩
  have hok : ∀ j, OK C W s.heap ow j → OK C W s'.heap (ren ow none kp) j := by
    rintro j ⟨h1, h2⟩
    refine ⟨h1, fun h => ?_⟩
    obtain ⟨i, id, e, _, q1, q2⟩ := hown j h
    exact h2 ⟨id, e, q1, q2⟩
  have hokb : ∀ id e j, (∀ b, (b, id) ∉ kp) → find s.heap id = some e → ow id = some j → OK C W s'.heap (ren ow none kp) j := by
    intro id e j hni he hj
    have hlt := r.mem.lt id e j he hj
    refine ⟨⟨.inr hlt.2, hlt.1⟩, fun h => ?_⟩
    obtain ⟨i, id', e', q0, q1, q2⟩ := hown j h
    have := r.mem.inj id id' e e' j he q1 hj q2
    subst this; exact hni i q0
  have hold : ∀ {i i' old : Nat}, (i, old) ∈ kp → (i', old) ∈ kp → i = i' := fun h1 h2 => snd_one hn2 h1 h2
  have r' : RelAt C D.n (· < s'.nx) s' a W (ren hdr default kp) (ren ow none kp) := by
    refine ⟨⟨?_, ?_, ?_, r.mem.size, r.mem.frame, r.mem.os, r.mem.tape, r.mem.output⟩, r.defers, r.tsz, ?_, ?_, ?_, ?_, ?_, ?_⟩
    · intro i e he
      obtain ⟨old, e0, h1, h2, h3⟩ := hget i e he
      have := (conv_ent r hn hok hokb h2 h3).1
      have e1 : ren hdr default kp i = hdr old := by simp [ren, h1]
      have e2 : ren ow none kp i = ow old := by simp [ren, h1]
      rw [e1, e2]; exact this
    · intro i i' e e' j hi hi' hj hj'
      obtain ⟨old, e0, h1, h2, _⟩ := hget i e hi
      obtain ⟨old', e0', h1', h2', _⟩ := hget i' e' hi'
      simp only [ren, h1] at hj
      simp only [ren, h1'] at hj'
      have := r.mem.inj old old' e0 e0' j h2 h2' hj hj'
      subst this
      exact hold (find_mem h1) (find_mem h1')
    · intro i e j hi hj
      obtain ⟨old, e0, h1, h2, _⟩ := hget i e hi
      simp only [ren, h1] at hj
      exact r.mem.lt old e0 j h2 hj
    · intro t x hx
      obtain ⟨y, h1, h2⟩ := envLe_get hE hx
      exact conv_ok r hn hH hok hokb y x _ h2 (r.env t y h1)
    · intro t x hx i hi
      obtain ⟨y, h1, h2⟩ := envLe_get hE hx
      obtain ⟨b, hb⟩ := conv_men y x i h2 hi
      exact hnx _ hb
    · intro i e he
      obtain ⟨old, e0, h1, h2, _⟩ := hget i e he
      exact hnx _ (find_mem h1)
    · intro j hj
      rw [hC] at hj
      show j < s'.nx
      omega
    · intro j hj e he
      rw [hC] at hj
      have h1 := hkeep j hj (by rw [he]; rfl)
      obtain ⟨old, e0, h2, h3, _⟩ := hget j e he
      rw [h1] at h2; cases h2
      simp only [ren, h1]
      exact r.gh j (by rw [hC]; exact hj) e0 h3
    · intro i e c he hc
      obtain ⟨old, e0, h1, h2, h3⟩ := hget i e he
      obtain ⟨b, hb⟩ := (conv_ent r hn hok hokb h2 h3).2 c hc
      exact hnx _ hb
  exact h C fn a W _ _ items hC hfn r' hm b cs hb hbk

/-- A loop: from the states st i (I i), by what is left (ms i). -/
theorem Run.loop_ind {x : MC} {ι : Type} (I : ι → Prop) (st : ι → St) (ms : ι → Nat) (step : ∀ i, I i → (∀ j, I j → ms j < ms i → Run P D G (.inLoop x :: k) (st j)) → Run P D G (.code x :: .inLoop x :: k) (st i)) :
    ∀ i, I i → Run P D G (.code (.loop x) :: k) (st i) := by
  have key : ∀ (m : Nat) (i : ι), ms i < m → I i → Run P D G (.inLoop x :: k) (st i) := by
    intro m
    induction m with
    | zero => intro i h; omega
    | succ m ih => intro i h hI; exact (step i hI fun j hj hlt => ih j (by omega) hj).inLoop
  intro i hI
  exact (step i hI fun j hj _ => key (ms j + 1) j (Nat.lt_succ_self _) hj).loop

end
end Go.AM
/- The set of equations that the reckoning goes by. -/
set_option linter.all false
namespace Go.AM
open Go
variable [dr : Inhabited Prop]

/-- The function's text, read. -/
def FnCode (P : Program) (f : FuncId) (ows : List Nat) (n : Nat) (rs : List Nat) (m : MC) : Prop :=
  ∃ fn, P.funcs[f]? = some fn ∧ (∀ (as : Array Value) (W : World), (callFunc f as).run P W = .ok (.enter f as) W) ∧ fn.ntmps = n ∧ mapO (resOf P) fn.results.toList = some rs ∧ fn.body.bind (cC P ows n) = some m

theorem FOk.ofN {P : Program} {f : FuncId} {ows rs : List Nat} {n : Nat} {m : MC} {args : List AV} {H : Heap} {res : AV} {H' : Heap} (hc : FnCode P f ows n rs m) (nin : Nat) (hargs : args.length ≤ n) (hnin : nin ≤ 1024) (hH : ∀ p ∈ H, p.1 < nin ∧ p.2.pas ∧ ∀ c, p.2.ref = some c → c < 1024)
    (hmen : ∀ k, AV.mens args k → k < 1024) (hsz : ∀ k e e', find H k = some e → find H' k = some e' → e'.sz = e.sz) (hl : rs.length ≤ 4)
    (h : Ex P ⟨f, ows, n, rs⟩ ⟨nin, res, H'⟩ 4000 .ctl [.code m] ⟨envOf 0 args, H, 1024⟩) : FOk P f args H res H' := by
  obtain ⟨fn, h1, h2, rfl, h4, h5⟩ := hc
  obtain ⟨c, h6, h7⟩ := Option.bind_eq_some_iff.1 h5
  exact FOk.intro h1 h2 h6 ows rs h4 h7 hargs nin hnin hH hmen hsz (Ex.run hl h)
theorem FOk.of {P : Program} {f : FuncId} {ows rs : List Nat} {n : Nat} {m : MC} {args : List AV} {H : Heap} {res : AV} {H' : Heap} (hc : FnCode P f ows n rs m) (nin : Nat) (hargs : args.length ≤ n) (hnin : nin ≤ 1024) (hH : ∀ p ∈ H, p.1 < nin ∧ p.2.sol)
    (hmen : ∀ k, AV.mens args k → k < 1024) (hsz : ∀ k e e', find H k = some e → find H' k = some e' → e'.sz = e.sz) (hl : rs.length ≤ 4)
    (h : Ex P ⟨f, ows, n, rs⟩ ⟨nin, res, H'⟩ 4000 .ctl [.code m] ⟨envOf 0 args, H, 1024⟩) : FOk P f args H res H' :=
  FOk.ofN hc nin hargs hnin (fun p hp => ⟨(hH p hp).1, .inl (hH p hp).2, fun c hc => (Ent.sol_refs (hH p hp).2 (.inl hc)).elim⟩) hmen hsz hl h

/-- Values come in, a value goes out. -/
theorem FOk.val {P : Program} {f : FuncId} {ows rs : List Nat} {n : Nat} {m : MC} {args : List AV} {res : AV} {H' : Heap} (hc : FnCode P f ows n rs m) (hargs : args.length ≤ n) (hmen : ∀ k, AV.mens args k → k < 1024) (hl : rs.length ≤ 4)
    (h : Ex P ⟨f, ows, n, rs⟩ ⟨0, res, H'⟩ 4000 .ctl [.code m] ⟨envOf 0 args, [], 1024⟩) : FOk P f args [] res H' :=
  FOk.of hc 0 hargs (by decide) (by simp) hmen (by simp [find]) hl h

theorem Ends.val {D : Fd} {G : Gl} {s : St} {x : AV} (h1 : retA s.heap s.env D.rs = some x) (h2 : passR s.heap [] x = some G.res) (h3 : G.H' = []) : Ends D G s :=
  ⟨[], x, List.nodup_nil, h1, h2, by simp [passN, passH, renH, h3], by simp, by intro k _ h; rw [h3] at h; simp [find] at h⟩

/-- The finish, by reckoning: nothing but a value goes out. -/
def outV (E : Env) (H : Heap) (rs : List Nat) : Option AV := match retA H E rs with
  | some x => passR H [] x
  | none => none

theorem Ends.v {D : Fd} {G : Gl} {s : St} (h3 : G.H' = []) (h : outV s.env s.heap D.rs = some G.res) : Ends D G s := by
  unfold outV at h
  split at h
  · rename_i x hx
    exact Ends.val hx h h3
  · cases h

/-- Says less, of the same. -/
def Le (nin : Nat) (kp : List (Nat × Nat)) (s s' : St) : Prop :=
  (kp.map Prod.fst).Nodup ∧ (kp.map Prod.snd).Nodup ∧ EnvLe kp s.heap s.env s'.env ∧ HeapLe kp s.heap s'.heap ∧ (∀ p ∈ kp, p.1 < s'.nx) ∧ nin ≤ s'.nx ∧ ∀ j, j < nin → (find s'.heap j).isSome = true → find kp j = some j

section
variable {P : Program} {D : Fd} {G : Gl} {k : List MI} {s s' : St}

theorem Run.le {kp : List (Nat × Nat)} (h : Le G.nin kp s s') (hr : Run P D G k s') : Run P D G k s :=
  Run.weaken kp h.1 h.2.1 h.2.2.1 h.2.2.2.1 h.2.2.2.2.1 h.2.2.2.2.2.1 h.2.2.2.2.2.2 hr

/-- A loop whose rounds begin at states st i. -/
theorem Run.loopI {x : MC} {ι : Type} (I : ι → Prop) (st : ι → St) (ms : ι → Nat) (i0 : ι) (kp : List (Nat × Nat)) (hl : D.rs.length ≤ 4) (hle : Le G.nin kp s (st i0)) (h0 : I i0)
    (step : ∀ i, I i → (∀ (j : ι) (kp : List (Nat × Nat)) (s' : St), I j → ms j < ms i → Le G.nin kp s' (st j) → Run P D G (.inLoop x :: k) s') → Ex P D G 4000 .ctl (.code x :: .inLoop x :: k) (st i)) : Run P D G (.code (.loop x) :: k) s :=
  Run.le hle (Run.loop_ind I st ms (fun i hi ih => Ex.run hl (step i hi fun j _ _ hj hm hle' => Run.le hle' (ih j hj hm))) i0 h0)

/-- Ahead to a place from which all is known by states st j. -/
theorem Run.cut {a b : MC} {ι : Type} (J : ι → Prop) (st : ι → St) (hl : D.rs.length ≤ 4) (hk : ∀ j, J j → Ex P D G 4000 .ctl (.code b :: k) (st j))
    (h : (∀ (j : ι) (kp : List (Nat × Nat)) (s' : St), J j → Le G.nin kp s' (st j) → Run P D G (.code b :: k) s') → Ex P D G 4000 .ctl (.code a :: .stop :: .code b :: k) s) : Run P D G (.code (.seq a b) :: k) s :=
  Run.seq (by
    have h1 : Run P D G (.code a :: .stop :: .code b :: k) s := Ex.run hl (h fun j _ _ hj hle => Run.le hle (Ex.run hl (hk j hj)))
    intro C fn a W hdr ow items hC hfn r hm b cs hb hbk
    cases hm with
    | cons hx hm => exact h1 C fn a W hdr ow _ hC hfn r (.cons hx (.stop hm)) b cs hb hbk)

end

theorem wrap_i64 {x : Int} (h0 : -9223372036854775808 ≤ x) (h : x ≤ 9223372036854775807) : IntKind.i64.wrap x = x := IntWalk.i64_in x ⟨h0, h⟩

attribute [simp] outV Le
@[simp] theorem sol_mk (f : Bool) (z : Nat) (l : List PV) : (Ent.mk f z l).sol ↔ z ≠ 0 ∨ isM l = true := Iff.rfl
@[simp] theorem pas_mk (f : Bool) (z : Nat) (l : List PV) : (Ent.mk f z l).pas ↔ (z ≠ 0 ∨ isM l = true) ∨ (z = 0 ∧ f = false ∧ isR l = true) := Iff.rfl
@[simp] theorem isR_cons (q : PV) (l : List PV) : isR (q :: l) = (decR q).isSome := rfl
@[simp] theorem isM_cons (q : PV) (l : List PV) : isM (q :: l) = decM q := rfl
@[simp] theorem isSp_cons (q : PV) (l : List PV) : isSp (q :: l) = sp q := rfl
@[simp] theorem sp_nil : sp (.st []) = false := rfl
@[simp] theorem sp_int (k : IntKind) (i : Int) (l : List PV) : sp (.st (.w (.int k i) :: l)) = false := rfl
@[simp] theorem sp_bool (b : Bool) (l : List PV) : sp (.st (.w (.bool b) :: l)) = false := rfl
@[simp] theorem sp_str (x : ByteArray) (l : List PV) : sp (.st (.w (.string x) :: l)) = true := rfl
@[simp] theorem decM_str (x : ByteArray) : decM (.st [.w (.string x)]) = true := rfl
@[simp] theorem decM_str3 (x : ByteArray) (p q : PV) : decM (.st [.w (.string x), p, q]) = false := rfl
@[simp] theorem decI_M (x : ByteArray) : decI (.st [.w (.string x)]) = none := rfl
@[simp] theorem decI_I (x : ByteArray) (k k' : IntKind) (m n : Int) : decI (.st [.w (.string x), .w (.int k m), .w (.int k' n)]) = some (m.toNat, n.toNat) := rfl
@[simp] theorem decR_str (x : ByteArray) (l : List PV) : decR (.st (.w (.string x) :: l)) = none := rfl
@[simp] theorem decD_str (x : ByteArray) (l : List PV) : decD (.st (.w (.string x) :: l)) = none := rfl
attribute [simp] mrest irest kok keq mvalS_stt mvalS_mup ex_next ex_inc incV
@[simp] theorem mfind_nil (ag : Bool) (ks : List Bool) (k : PV) : mfind ag ks k [] = some none := rfl
@[simp] theorem mset_nil (ag : Bool) (ks : List Bool) (k v : PV) : mset ag ks k v [] = some [.st [k, v]] := rfl
attribute [simp high] ex_cndT ex_cndF ex_cndU ex_gdOT ex_gdOF ex_gdST ex_gdSF ex_gdCT ex_gdCF
@[simp] theorem tov2_v (q : Bool) (H : Heap) (p : PV) : tov2 q H (.v p) = tov q H (.v p) := rfl
@[simp] theorem tov2_h (q : Bool) (H : Heap) (id : Nat) : tov2 q H (.h id) = tov q H (.h id) := rfl
@[simp] theorem tov2_f0 (q : Bool) (H : Heap) (f : Nat) : tov2 q H (.fn f []) = tov q H (.fn f []) := rfl
@[simp] theorem tov2_f (q : Bool) (H : Heap) (f : Nat) (c : AV) (cs : List AV) : tov2 q H (.fn f (c :: cs)) = if q = true then none else (capVs H (c :: cs)).map fun (ps, H') => (.cl f ps, H') := rfl
attribute [simp] capV capVs capAs
attribute [simp] ex_bad ex_ret ex_nil ex_skip ex_seq ex_cond ex_cnd ex_block ex_inBlock ex_exit ex_loop ex_inLoop ex_stop ex_reg ex_end ex_op ex_opG ex_gdO ex_put ex_st ex_stG ex_gdS ex_sto ex_call ex_callG ex_gdC
attribute [simp] mval.eq_1 mval.eq_2 mval.eq_3 mval.eq_4 mval.eq_5 mval.eq_6 mval.eq_7 mval.eq_8 mval.eq_9 mval.eq_10 mval.eq_11 mval.eq_12 mval.eq_13 mval.eq_14 mval.eq_15 mval.eq_16 mval.eq_17 mval.eq_18 mval.eq_19 mval.eq_20 mval.eq_21 mval.eq_22 mval.eq_23 mval.eq_24 mval.eq_25 mval.eq_26 mval.eq_27 mval.eq_28 mval.eq_29 mval.eq_30 mval.eq_31 mval.eq_32 mval.eq_33 mval.eq_34 mval.eq_35 mval.eq_36 mval.eq_37 mval.eq_38 mval.eq_39 mval.eq_40 mval.eq_41 mval.eq_42 mval.eq_43 mval.eq_44 mval.eq_45 mval.eq_46 mval.eq_47 mval.eq_48 mval.eq_49 mval.eq_50
attribute [simp] intBin.eq_1 intBin.eq_2 intBin.eq_3 intBin.eq_4 intBin.eq_5 intBin.eq_6 intBin.eq_7 intBin.eq_8 intBin.eq_9 intBin.eq_10 intBin.eq_11 intBin.eq_12 intBin.eq_13 intBin.eq_14 shV strBin.eq_1 strBin.eq_2 strBin.eq_3 strBin.eq_4 strBin.eq_5 strBin.eq_6 strBin.eq_7 binV.eq_1 binV.eq_2 binA.eq_1 ev.eq_1 ev.eq_2 ev.eq_3 ev.eq_4 ev.eq_5 asI.eq_1 guardOf.eq_1 guardOf.eq_2 rdRow.eq_1 rdRow.eq_2 tov.eq_1 tov.eq_2 tov.eq_3
attribute [simp] setG repl find_cons find_nil evs mexit MO.loud unA optL bnds cellRd layP mkEl zOf buildP buildL strike_nil strike_cons setIn_nil setIn_cons envOf
@[simp] theorem denl_nl : denl .nl = .sl 1 [] := rfl
@[simp] theorem denl_w (v : Value) : denl (.w v) = .w v := rfl
@[simp] theorem denl_sl (sz : Nat) (l : List PV) : denl (.sl sz l) = .sl sz l := rfl
@[simp] theorem denl_st (l : List PV) : denl (.st l) = .st l := rfl
@[simp] theorem denl_ifc (t : Nat) (p : PV) : denl (.ifc t p) = .ifc t p := rfl
@[simp] theorem decR_D2 (b : Bool) (k : IntKind) (i : Int) : decR (.st [.w (.bool b), .w (.int k i)]) = none := rfl
@[simp] theorem decR_D4 (b : Bool) (k k1 k2 : IntKind) (i j c : Int) : decR (.st [.w (.bool b), .w (.int k i), .w (.int k1 j), .w (.int k2 c)]) = none := rfl
attribute [simp] decD.eq_1 decD.eq_2 dAt.eq_1 dAt.eq_2 dOld
@[simp] theorem nlen_v (H : Heap) (p : PV) : nlen H (.v p) = none := rfl
@[simp] theorem nlen_h (H : Heap) (id : Nat) : nlen H (.h id) = match find H id with | some e => if e.sz = 0 ∧ e.fro = false then (match e.l with | g :: rest => if sp g = true then none else some rest.length | [] => none) else none | none => none := rfl
attribute [simp] sttM derefN derefQ ldSR ldS noSt.eq_1 noSt.eq_2 ldX sttN decR.eq_1 decR.eq_2 eqCells.eq_1 eqCells.eq_2 eqCells.eq_3 convE
attribute [simp] passA passAs passR retA resX resXs newOf conv convs EnvLe HeapLe frz frzs idx passH bk backA backAs strikes outH fnOf flatA flatAs AV.men AV.mens

end Go.AM
/- Texts as lists of bytes, words as lists of texts. -/
set_option linter.all false
namespace Go.AM
open Go
variable [dr : Inhabited Prop]

abbrev Bs := List UInt8

/-- A text. -/
def bs (l : Bs) : ByteArray := ⟨l.toArray⟩

theorem bs_size (l : Bs) : (bs l).size = l.length := by simp [bs, ByteArray.size]
theorem bs_data (l : Bs) : (bs l).data = l.toArray := rfl
theorem bs_list (l : Bs) : (bs l).data.toList = l := by simp [bs]
theorem bs_mk (l : Bs) : (⟨l.toArray⟩ : ByteArray) = bs l := rfl
theorem bs_inj {a b : Bs} : bs a = bs b ↔ a = b := by simp [bs]
theorem bs_toList (l : Bs) : (bs l).toList = l := by rw [Lib.toList_data, bs_list]
theorem bs_extract (l : Bs) (i j : Nat) : (bs l).extract i j = bs ((l.drop i).take (j - i)) := by
  rw [Lib.extract_eq, bs_list]; rfl
theorem bs_append (a b : Bs) : bs a ++ bs b = bs (a ++ b) := by
  apply ByteArray.ext
  simp [bs]
theorem bs_all (b : ByteArray) : ∃ l, b = bs l := ⟨b.data.toList, by simp [bs]⟩
/-- The order of texts. -/
def ltB (a b : Bs) : Bool := Op.bytesLess a b
theorem slt_bs (a b : Bs) : slt (bs a) (bs b) = ltB a b := by simp [slt, bs_toList, ltB]

abbrev AV.I (n : Int) : AV := .v (.w (.int .i64 n))
abbrev AV.B (b : Bool) : AV := .v (.w (.bool b))
abbrev AV.S (l : Bs) : AV := .v (.w (.string (bs l)))
/-- A word as a value. -/
def PV.word (w : List Bs) : PV := .sl 1 (w.map fun s => .w (.string (bs s)))

theorem ci_le {n m : Nat} : ((no_index (OfNat.ofNat n) : Int) ≤ (m : Int)) ↔ (OfNat.ofNat n : Nat) ≤ m := by
  show (Int.ofNat n ≤ (m : Int)) ↔ n ≤ m; exact Int.ofNat_le
theorem ci_le2 {n m : Nat} : ((m : Int) ≤ (no_index (OfNat.ofNat n) : Int)) ↔ m ≤ (OfNat.ofNat n : Nat) := by
  show ((m : Int) ≤ Int.ofNat n) ↔ m ≤ n; exact Int.ofNat_le
theorem ci_lt {n m : Nat} : ((no_index (OfNat.ofNat n) : Int) < (m : Int)) ↔ (OfNat.ofNat n : Nat) < m := by
  show (Int.ofNat n < (m : Int)) ↔ n < m; exact Int.ofNat_lt
theorem ci_lt2 {n m : Nat} : ((m : Int) < (no_index (OfNat.ofNat n) : Int)) ↔ m < (OfNat.ofNat n : Nat) := by
  show ((m : Int) < Int.ofNat n) ↔ m < n; exact Int.ofNat_lt
theorem ci_eq {n m : Nat} : ((m : Int) = (no_index (OfNat.ofNat n) : Int)) ↔ m = (OfNat.ofNat n : Nat) := by
  show ((m : Int) = Int.ofNat n) ↔ m = n; exact Int.ofNat_inj
theorem ci_lnat {m : Nat} : ((OfNat.ofNat m : Nat) : Int) = (OfNat.ofNat m : Int) := rfl

/-! rows, read up to a place -/
theorem take_all {α : Type} (p : α → Bool) (l : List α) {i : Nat} (h : i < l.length) (hi : (l.take i).all p = true) (hc : p l[i] = true) : (l.take (i + 1)).all p = true := by
  rw [List.take_succ_eq_append_getElem h, List.all_append, hi]; simp [hc]
theorem all_no {α : Type} (p : α → Bool) (l : List α) {i : Nat} (h : i < l.length) (hc : p l[i] = false) : l.all p = false := by
  rw [List.all_eq_false]; exact ⟨l[i], List.getElem_mem h, by simp [hc]⟩
theorem take_end {α : Type} (p : α → Bool) (l : List α) {i : Nat} (hi : i ≤ l.length) (h : ¬ i < l.length) (ha : (l.take i).all p = true) : l.all p = true := by
  rwa [List.take_of_length_le (by omega)] at ha
theorem any_yes {α : Type} (p : α → Bool) (l : List α) {i : Nat} (h : i < l.length) (hc : p l[i] = true) : l.any p = true := by
  rw [List.any_eq_true]; exact ⟨l[i], List.getElem_mem h, hc⟩
theorem take_none {α : Type} (p : α → Bool) (l : List α) {i : Nat} (h : i < l.length) (hi : (l.take i).any p = false) (hc : p l[i] = false) : (l.take (i + 1)).any p = false := by
  rw [List.take_succ_eq_append_getElem h, List.any_append, hi]; simp [hc]
theorem none_end {α : Type} (p : α → Bool) (l : List α) {i : Nat} (hi : i ≤ l.length) (h : ¬ i < l.length) (ha : (l.take i).any p = false) : l.any p = false := by
  rwa [List.take_of_length_le (by omega)] at ha

theorem cellRd0 {x : PV} {cs : List PV} {sz : Nat} : cellRd (x :: cs) false 0 sz = some x := rfl
theorem cellRd1 {x y : PV} {cs : List PV} {sz : Nat} : cellRd (x :: y :: cs) false 1 sz = some y := rfl
theorem cellRd2 {x y z : PV} {cs : List PV} {sz : Nat} : cellRd (x :: y :: z :: cs) false 2 sz = some z := rfl
theorem cellRd3 {x y z u : PV} {cs : List PV} {sz : Nat} : cellRd (x :: y :: z :: u :: cs) false 3 sz = some u := rfl
theorem cellRd4 {x y z u v : PV} {cs : List PV} {sz : Nat} : cellRd (x :: y :: z :: u :: v :: cs) false 4 sz = some v := rfl
attribute [simp high] cellRd0 cellRd1 cellRd2 cellRd3 cellRd4
attribute [simp high] List.getElem?_cons_zero List.getElem?_cons_succ
attribute [simp] ci_le ci_le2 ci_lt ci_lt2 ci_eq
attribute [simp] PV.word bs_size bs_list bs_mk bs_inj bs_toList bs_extract bs_append slt_bs
end Go.AM
/- How an argument of a statement is opened: what the statement reads as data is a value of the walk. -/
set_option linter.all false
namespace Go.AM
open Go
variable [dr : Inhabited Prop]

/-- Readings of type t are values f a, with C a. -/
def Opn {α : Type} (P : Program) (t : TypeId) (f : α → PV) (C : α → Prop) : Prop :=
  ∀ (H : Type) (enc : TypeId × Value → H) (w : World) (held : Bool) (fuel : Nat) (cs : List Value) (x : DataW H × List MemPlace),
    DataW.trod enc P w 0 (fun _ => true) held fuel t cs = some x → (∀ n ∈ x.1.weights P t, n ≤ reachBytes) → ∃ a, RepC w (· < w.heap.size) (f a) cs ∧ C a

theorem opn_int {P : Program} {t : TypeId} {k : IntKind} (ht : P.underlying t = some (.int k)) : Opn P t (fun n : Int => .w (.int k n)) (fun n => (Lit.int k n).wf = true) := by
  intro H enc w held fuel cs x hx _
  obtain ⟨n, rfl, _, hw⟩ := DataW.trod_int ht hx
  exact ⟨n, .w rfl, hw⟩

theorem opn_bool {P : Program} {t : TypeId} (ht : P.underlying t = some .bool) : Opn P t (fun b : Bool => .w (.bool b)) (fun _ => True) := by
  intro H enc w held fuel cs x hx _
  obtain ⟨n, rfl, _⟩ := DataW.trod_bool ht hx
  exact ⟨n, .w rfl, trivial⟩

theorem opn_str {P : Program} {t : TypeId} (ht : P.underlying t = some .string) : Opn P t (fun s : Bs => .w (.string (bs s))) (fun s => s.length ≤ 140737488351232) := by
  intro H enc w held fuel cs x hx hw
  obtain ⟨s, rfl, rfl, _⟩ := DataW.trod_string ht hx
  obtain ⟨l, rfl⟩ := bs_all s
  refine ⟨l, .w rfl, ?_⟩
  have := hw (bs l).data.toList.length (by simp [DataW.weights])
  rw [bs_list] at this
  exact this

theorem weightsAll_mem {H : Type} {P : Program} {e : TypeId} : ∀ {ds : List (DataW H)} {d : DataW H}, d ∈ ds → ∀ n ∈ d.weights P e, n ∈ DataW.weightsAll P e ds
  | [], _, h, _, _ => by cases h
  | d0 :: ds, d, h, n, hn => by
    rw [DataW.weightsAll]
    rcases List.mem_cons.1 h with rfl | h
    · exact List.mem_append_left _ hn
    · exact List.mem_append_right _ (weightsAll_mem h n hn)

theorem cells_get {w : World} {base : Nat} {a : Addr} {n : Nat} {cs : List Value} (h : w.cells? base a n = some cs) :
    cs.length = n ∧ ∀ i u, cs[i]? = some u → w.cell? (a.add i) = some u := by
  unfold World.cells? at h
  split at h
  · refine ⟨by simpa using mapM_some_length h, fun i u hu => ?_⟩
    have hl := mapM_some_length h
    have hi : i < n := by have := (List.getElem?_eq_some_iff.1 hu).1; simp at hl; omega
    have := mapM_some_get h i i (by simp [hi])
    exact this.trans hu
  · cases h

/-- A cell that is read lies in a block of cells. -/
theorem cell_blk {w : World} {a : Addr} {v : Value} (h : w.cell? a = some v) : ∃ c, World.row w a.block c ∧ a.spot = none ∧ c[a.off]? = some v ∧ a.block < w.heap.size := by
  unfold World.cell? at h
  split at h
  · rename_i c t fr hc
    split at h
    · cases h
    · rename_i hs
      refine ⟨c.toList, ⟨t, fr, by simpa using hc⟩, by simpa using hs, by simpa using h, ?_⟩
      rcases Nat.lt_or_ge a.block w.heap.size with hl | hl
      · exact hl
      · rw [Array.getElem?_eq_none (by omega)] at hc; cases hc
  · cases h

theorem opn_slice {α : Type} {P : Program} {t e b sz : Nat} {f : α → PV} {C : α → Prop} (ht : P.underlying t = some (.slice e)) (hz : P.cellsOf e = sz) (hs : sz ≠ 0) (hbb : P.bytesOf e = b) (h : Opn P e f C) :
    Opn P t (fun l : List α => .sl sz (l.map f)) (fun l => l.length * b ≤ 140737488351232 ∧ ∀ x ∈ l, C x) := by
  subst hbb hz
  intro H enc w held fuel cs x hx hw
  rcases DataW.trod_slice ht hx with ⟨rfl, rfl⟩ | ⟨a, len, cap, elems, rest, n, rfl, rfl, rfl, _, hl, hm, hlen, hel, hsp, _⟩
  · exact ⟨[], .nil, by simp, by simp⟩
  obtain ⟨hrl, hrest⟩ := hsp rfl
  have hall : ∀ i, i < cap → ∀ j, j < P.cellsOf e → ∃ v, w.cell? (a.add (i * P.cellsOf e + j)) = some v := by
    intro i hi j hj
    have : ∃ c, w.cells? 0 (a.add (i * P.cellsOf e)) (P.cellsOf e) = some c := by
      by_cases h1 : i < len
      · have h0 := hel i h1
        rw [List.getElem?_eq_getElem (by omega : i < elems.length), Option.bind_eq_some_iff] at h0
        obtain ⟨c, hc, _⟩ := h0; exact ⟨c, hc⟩
      · have h0 := hrest (i - len) (by omega)
        rw [List.getElem?_eq_getElem (by omega : i - len < rest.length), Option.bind_eq_some_iff, show len + (i - len) = i by omega] at h0
        obtain ⟨c, hc, _⟩ := h0; exact ⟨c, hc⟩
    obtain ⟨c, hc⟩ := this
    obtain ⟨h1, h2⟩ := cells_get hc
    have := h2 j c[j] (by rw [List.getElem?_eq_getElem])
    rw [Addr.add_add] at this
    exact ⟨_, this⟩
  have each : ∀ i, i < len → ∃ y : α, ∃ c, c.length = P.cellsOf e ∧ RepC w (· < w.heap.size) (f y) c ∧ (∀ j u, c[j]? = some u → w.cell? (a.add (i * P.cellsOf e + j)) = some u) ∧ C y := by
    intro i hi
    have h0 := hel i hi
    have hi' : i < elems.length := by omega
    rw [List.getElem?_eq_getElem hi', Option.bind_eq_some_iff] at h0
    obtain ⟨c, hc, hd⟩ := h0
    obtain ⟨hcl, hcc⟩ := cells_get hc
    obtain ⟨y, hk, hb⟩ := h H enc w held n c _ hd (fun m hmm => hw m (by
      rw [DataW.weights, ht]
      refine List.mem_cons_of_mem _ (List.mem_append_left _ (weightsAll_mem (d := elems[i].1) (List.mem_map.2 ⟨elems[i], List.getElem_mem hi', rfl⟩) m hmm))))
    refine ⟨y, c, hcl, hk, fun j u hj => ?_, hb⟩
    have := hcc j u hj
    rwa [Addr.add_add] at this
  rcases Nat.eq_zero_or_pos cap with hcap | hcap
  · subst hcap
    obtain rfl : len = 0 := by omega
    exact ⟨[], .nil, by simp, by simp⟩
  obtain ⟨v0, hv0⟩ := hall (cap - 1) (by omega) (P.cellsOf e - 1) (by omega)
  obtain ⟨v1, hv1⟩ := hall 0 hcap 0 (by omega)
  obtain ⟨c0, hrow, hspot, hv1', hlt⟩ := cell_blk (by simpa [Addr.add] using hv1)
  obtain ⟨blk, off, spot⟩ := a
  simp only at hspot hlt hv1' hrow
  subst hspot
  have hcell : ∀ k v, w.cell? ((⟨blk, off, none⟩ : Addr).add k) = some v → c0[off + k]? = some v := by
    intro k v hk
    have hb' : ((⟨blk, off, none⟩ : Addr).add k) = ⟨blk, off + k, none⟩ := by
      unfold Addr.add; split
      · rename_i h0; subst h0; rfl
      · rfl
    rw [hb'] at hk
    obtain ⟨c1, hr1, _, h3, _⟩ := cell_blk hk
    obtain ⟨t1, f1, q1⟩ := hr1
    obtain ⟨t0, f0, q0⟩ := hrow
    simp only at q1 h3
    rw [q0] at q1
    have : c0 = c1 := by simpa using congrArg (fun o => match o with | some (Obj.cells c _ _) => c.toList | _ => []) q1
    rw [this]; exact h3
  have hlast := hcell _ _ hv0
  have hbound : off + cap * P.cellsOf e ≤ c0.length := by
    have h1 := (List.getElem?_eq_some_iff.1 hlast).1
    have h2 : (cap - 1) * P.cellsOf e + P.cellsOf e = cap * P.cellsOf e := by
      rw [← Nat.succ_mul]; congr 1; omega
    have h3 : 0 < P.cellsOf e := by omega
    omega
  have build : ∀ m, m ≤ len → ∃ l : List α, l.length = m ∧ (∀ y ∈ l, C y) ∧ RepL w (· < w.heap.size) (P.cellsOf e) (l.map f) ((c0.drop off).take (m * P.cellsOf e)) := by
    intro m
    induction m with
    | zero => intro _; exact ⟨[], rfl, by simp, by simpa using RepL.nil⟩
    | succ m ih =>
      intro hm1
      obtain ⟨l, h1, h2, h3⟩ := ih (by omega)
      obtain ⟨y, c, g1, g2, g3, g4⟩ := each m (by omega)
      refine ⟨l ++ [y], by simp [h1], ?_, ?_⟩
      · intro z hz
        rcases List.mem_append.1 hz with hz | hz
        · exact h2 z hz
        · simp at hz; subst hz; exact g4
      · rw [List.map_append]
        have e1 : (c0.drop off).take ((m + 1) * P.cellsOf e) = (c0.drop off).take (m * P.cellsOf e) ++ c := by
          rw [Nat.succ_mul, List.take_add]
          congr 1
          apply List.ext_getElem?
          intro j
          rw [List.getElem?_take, List.getElem?_drop, List.getElem?_drop]
          by_cases hj : j < P.cellsOf e
          · rw [if_pos hj]
            have hj' : j < c.length := by omega
            have := hcell _ _ (g3 j c[j] (by rw [List.getElem?_eq_getElem]))
            rw [this, List.getElem?_eq_getElem hj']
          · rw [if_neg hj, List.getElem?_eq_none (by omega)]
        rw [e1]
        refine h3.append ?_
        have := RepL.cons g1 g2 RepL.nil
        simpa using this
  obtain ⟨l, h1, h2, h3⟩ := build len (Nat.le_refl _)
  refine ⟨l, ?_, ?_, h2⟩
  · have hl' : (l.map f).length = len := by simp [h1]
    rw [← hl'] at h3 ⊢
    exact RepC.sl (b := blk) (off := off) (cap := cap) (c := c0) hlt hrow hbound (by omega) h3
  · have := hw ((elems.length + rest.length) * P.bytesOf e) (by rw [DataW.weights, ht]; simp)
    rw [h1, ← hlen]
    exact Nat.le_trans (Nat.mul_le_mul_right _ (Nat.le_add_right _ _)) this

/-! ### structs of one-cell fields, arrays of one-cell elements -/
def OpnR {α : Type} (P : Program) (ts : List TypeId) (f : α → List PV) (C : α → Prop) : Prop :=
  ∀ (H : Type) (enc : TypeId × Value → H) (w : World) (held : Bool) (fuel : Nat) (cs : List Value) (xs : List (DataW H × List MemPlace)),
    cs.length = ts.length → xs.length = ts.length → (∀ (i : Nat) (t : TypeId), ts[i]? = some t → DataW.trod enc P w 0 (fun _ => true) held fuel t ((cs.drop i).take 1) = xs[i]?) →
    (∀ (i : Nat) (t : TypeId) x, ts[i]? = some t → xs[i]? = some x → ∀ n ∈ x.1.weights P t, n ≤ reachBytes) → ∃ a, RepL w (· < w.heap.size) 1 (f a) cs ∧ (∀ p ∈ f a, p.isSt = false) ∧ C a

theorem opnR_nil {P : Program} : OpnR P [] (fun _ : Unit => []) (fun _ => True) := by
  intro H enc w held fuel cs xs h1 h2 h3 h4
  obtain rfl : cs = [] := by simpa using h1
  exact ⟨(), .nil, by simp, trivial⟩

theorem opnR_cons {α β : Type} {P : Program} {t : TypeId} {ts : List TypeId} {f : α → PV} {C : α → Prop} {g : β → List PV} {D : β → Prop} (hf : ∀ a, (f a).isSt = false) (h : Opn P t f C) (hr : OpnR P ts g D) :
    OpnR P (t :: ts) (fun q : α × β => f q.1 :: g q.2) (fun q => C q.1 ∧ D q.2) := by
  intro H enc w held fuel cs xs h1 h2 h3 h4
  cases cs with
  | nil => simp at h1
  | cons c cs =>
    cases xs with
    | nil => simp at h2
    | cons x xs =>
      have h0 := h3 0 t rfl
      simp at h0
      obtain ⟨a, q1, q2⟩ := h H enc w held fuel [c] x h0 (h4 0 t x rfl rfl)
      obtain ⟨b, g1, g2, g3⟩ := hr H enc w held fuel cs xs (by simpa using h1) (by simpa using h2) (fun i t' ht' => by simpa using h3 (i + 1) t' (by simpa using ht')) (fun i t' x' a1 a2 => h4 (i + 1) t' x' (by simpa using a1) (by simpa using a2))
      refine ⟨(a, b), ?_, ?_, q2, g3⟩
      · exact RepL.cons (vs := [c]) rfl q1 g1
      · intro p hp
        rcases List.mem_cons.1 hp with rfl | hp
        · exact hf a
        · exact g2 p hp

theorem opn_struct {α : Type} {P : Program} {t : TypeId} {fs : Array Field} {ts : List TypeId} {f : α → List PV} {C : α → Prop} (ht : P.underlying t = some (.struct fs)) (hts : fs.toList.map (·.type) = ts)
    (hoff : fs.toList.map (·.offset) = List.range ts.length) (hsz : P.cellsOf t = ts.length) (h1 : ∀ t' ∈ ts, P.cellsOf t' = 1) (h : OpnR P ts f C) : Opn P t (fun a => .st (f a)) C := by
  intro H enc w held fuel cs x hx hw
  obtain ⟨xs, n, rfl, rfl, hl, hxl, hel⟩ := DataW.trod_struct ht hx
  have hfl : fs.size = ts.length := by rw [← hts]; simp
  have hget : ∀ (i : Nat) (t' : TypeId), ts[i]? = some t' → ∃ f', fs[i]? = some f' ∧ f'.type = t' ∧ f'.offset = i := by
    intro i t' hi
    rw [← hts, List.getElem?_map, Option.map_eq_some_iff] at hi
    obtain ⟨f', hf', rfl⟩ := hi
    refine ⟨f', by simpa using hf', rfl, ?_⟩
    have := congrArg (fun l => l[i]?) hoff
    simp only [List.getElem?_map, hf', Option.map_some] at this
    have hlt : i < ts.length := by have := (List.getElem?_eq_some_iff.1 hf').1; simp at this; omega
    rw [List.getElem?_range hlt] at this
    exact Option.some.inj this
  obtain ⟨a, q1, q2, q3⟩ := h H enc w held n cs xs (by omega) (by omega) (fun i t' hi => by
      obtain ⟨f', g1, g2, g3⟩ := hget i t' hi
      have := hel i f' g1
      rw [g2, g3, h1 t' (List.mem_of_getElem? hi)] at this
      exact this) (fun i t' y hi hy m hm => hw m (by
      rw [DataW.weights, ht]
      refine DataW.weights_mem_each (j := i) (t := t') (d := y.1) ?_ ?_ m hm
      · rw [hts]; exact hi
      · rw [List.getElem?_map, hy]; rfl))
  exact ⟨a, .st q2 q1, q3⟩

theorem opn_array {α : Type} {P : Program} {t e : TypeId} {n : Nat} {f : α → List PV} {C : α → Prop} (ht : P.underlying t = some (.array n e)) (hsz : P.cellsOf t = n) (h1 : P.cellsOf e = 1) (h : OpnR P (List.replicate n e) f C) : Opn P t (fun a => .st (f a)) C := by
  intro H enc w held fuel cs x hx hw
  obtain ⟨xs, m, rfl, rfl, hl, hxl, hel⟩ := DataW.trod_array ht hx
  obtain ⟨a, q1, q2, q3⟩ := h H enc w held m cs xs (by simp; omega) (by simp; omega) (fun i t' hi => by
      obtain ⟨hlt, he⟩ := List.getElem?_eq_some_iff.1 hi
      simp at hlt he
      subst he
      have := hel i hlt
      rwa [h1, Nat.mul_one] at this) (fun i t' y hi hy k hk => hw k (by
      rw [DataW.weights, ht]
      obtain ⟨hlt, he⟩ := List.getElem?_eq_some_iff.1 hi
      simp at he
      subst he
      exact weightsAll_mem (d := y.1) (List.mem_map.2 ⟨y, List.mem_of_getElem? hy, rfl⟩) k hk))
  exact ⟨a, .st q2 q1, q3⟩

/-- An argument of the row, opened. -/
theorem open_argA {α : Type} {P : Program} {t : TypeId} {f : α → PV} {C : α → Prop} (h : Opn P t f C) {H : Type} {enc : TypeId × Value → H} {W : World} {held : Bool} {ts : List TypeId} {ds : List (DataW H)} {j : Nat} {v : Value} {dd : DataW H} {ps : List MemPlace}
    (hsz : (DataW.weightsEach P ts ds).all (· ≤ reachBytes) = true) (ht : ts[j]? = some t) (hd : ds[j]? = some dd) (ha : DataW.Trod enc P W 0 (fun _ => true) held t v dd ps) : ∃ a, RepC W (· < W.heap.size) (f a) v.cells.toList ∧ C a := by
  obtain ⟨fuel, hf⟩ := ha
  refine h H enc W held fuel _ _ hf (fun n hn => ?_)
  have := List.all_eq_true.1 hsz n (DataW.weights_mem_each ht hd n hn)
  simpa using this
end Go.AM
/- From the walk of a statement's function to the row. -/
set_option linter.all false
namespace Go.AM
open Go

theorem FOk.row {d : Inhabited Prop} {P : Program} {f : FuncId} {args : List AV} (h : FOk P f args [] (.v (.w (.bool true))) []) {W : World} {vals : List Value} (hv : RepAs W (· < W.heap.size) (fun _ => default) [] args vals) :
    Calls P f vals.toArray W fun e W' => e = .returned (.bool true) ∧ Go.RowKit.Below W.heap.size W W' := by
  have no : ∀ j, ¬ Own [] (fun _ => none) j := by rintro j ⟨id, e, h1, _⟩; simp [find] at h1
  refine (h.2 W (· < W.heap.size) vals (fun _ => default) (fun _ => none) ?_ ?_).mono fun e W' he => ?_
  · exact ⟨fun id e h => by simp [find] at h, fun id id' e e' b h => by simp [find] at h, fun id e b h => by simp [find] at h, Nat.le_refl _, fun _ _ _ => rfl, rfl, rfl, .refl _⟩
  · exact RepAs.mono (fun j hj => ⟨⟨⟨.inl hj, hj⟩, no j⟩, rfl⟩) args vals (fun id _ e' he' => by simp [find] at he') hv
  · obtain ⟨v, hdr', ow', rfl, hm, hr, _⟩ := he
    refine ⟨?_, hm.os, hm.tape, hm.output.1, hm.size, fun k hk => hm.frame k hk (fun ho => no k ho)⟩
    simp only [RepA] at hr
    rw [hr.wInv.1]

theorem RepV.ofSt {W : World} {ok : Nat → Prop} {p : PV} {cs : Array Value} (hp : p.isSt = true) (h : RepC W ok p cs.toList) : RepV W ok p (.agg cs) := by
  unfold RepV; rw [if_pos hp]; exact ⟨cs.toList, by simp, h⟩

theorem RepC.slV {W : World} {ok : Nat → Prop} {sz : Nat} {l : List PV} {cs : List Value} (h : RepC W ok (.sl sz l) cs) : ∃ a n c, cs = [.slice a n c] := by
  cases h
  · exact ⟨_, _, _, rfl⟩
  · exact ⟨_, _, _, rfl⟩

theorem okWide_array {P : Program} {w : World} {r : Reach} {base n : Nat} {t e : TypeId} {v : Value} (ht : P.underlying t = some (.array n e)) (h : Value.okWide P w r base t v) : ∃ cs, v = .agg cs ∧ cs.size = P.cellsOf t := by
  unfold Value.okWide at h
  rw [ht] at h
  obtain ⟨cs, h1, h2, _⟩ := h
  exact ⟨cs, h1, h2⟩
end Go.AM
/- Loops whose rows are found by their slots; more finishes; more reckoning of numbers. -/
set_option linter.all false
namespace Go.AM
open Go
variable [dr : Inhabited Prop]

/-- The rows to keep, by the slots that hold them. -/
def kpA (E : Env) : List (Nat × Nat) → List (Nat × Nat)
  | [] => []
  | (a, t) :: l => match find E t with
    | some (.h id) => (a, id) :: kpA E l
    | some (.ptr id _ _) => (a, id) :: kpA E l
    | _ => kpA E l
attribute [simp] kpA

section
variable {P : Program} {D : Fd} {G : Gl} {k : List MI} {s s' : St}
/-- A loop whose rounds begin at states st i; tg: the numbers of its rows, and the slots that hold them. -/
theorem Run.loopA {x : MC} {ι : Type} (tg : List (Nat × Nat)) (I : ι → Prop) (st : ι → St) (ms : ι → Nat) (i0 : ι) (hl : D.rs.length ≤ 4) (hle : Le G.nin (kpA s.env tg) s (st i0)) (h0 : I i0)
    (step : ∀ i, I i → (∀ (j : ι) (s' : St), I j → ms j < ms i → Le G.nin (kpA s'.env tg) s' (st j) → Run P D G (.inLoop x :: k) s') → Ex P D G 4000 .ctl (.code x :: .inLoop x :: k) (st i)) : Run P D G (.code (.loop x) :: k) s :=
  Run.loopI I st ms i0 _ hl hle h0 fun i hi ih => step i hi fun j s' hj hm hle' => ih j _ s' hj hm hle'

/-- Ahead to a place from which all is known by states st j. -/
theorem Run.cutA {a b : MC} {ι : Type} (tg : List (Nat × Nat)) (J : ι → Prop) (st : ι → St) (hl : D.rs.length ≤ 4) (hk : ∀ j, J j → Ex P D G 4000 .ctl (.code b :: k) (st j))
    (h : (∀ (j : ι) (s' : St), J j → Le G.nin (kpA s'.env tg) s' (st j) → Run P D G (.code b :: k) s') → Ex P D G 4000 .ctl (.code a :: .stop :: .code b :: k) s) : Run P D G (.code (.seq a b) :: k) s :=
  Run.cut J st hl hk fun h' => h fun j s' hj hle => h' j _ s' hj hle

/-- The place behind a loop's block, from which all is known by states st j. -/
theorem Run.cutB {x : MC} {id : Nat} {ι : Type} (tg : List (Nat × Nat)) (J : ι → Prop) (st : ι → St) (hl : D.rs.length ≤ 4) (hk : ∀ j, J j → Ex P D G 4000 .ctl k (st j))
    (h : (∀ (j : ι) (s' : St), J j → Le G.nin (kpA s'.env tg) s' (st j) → Run P D G k s') → Run P D G (.code (.loop x) :: .inBlock id :: .stop :: k) s) : Run P D G (.code (.loop x) :: .inBlock id :: k) s := by
  have h1 := h fun j s' hj hle => Run.le hle (Ex.run hl (hk j hj))
  intro C fn a W hdr ow items hC hfn r hm b cs hb hbk
  cases hm with
  | cons hx hm => cases hm with
    | cons hy hm => exact h1 C fn a W hdr ow _ hC hfn r (.cons hx (.cons hy (.stop hm))) b cs hb hbk

/-- A row that was handed in is handed back. -/
theorem Ends.one {x : AV} (hn : G.nin = 1) (h1 : retA s.heap s.env D.rs = some x) (h2 : passR s.heap [0] x = some G.res) (h3 : passH s.heap 0 [0] = G.H') (h4 : ∀ p ∈ G.H', p.2.sol := by simp) : Ends D G s :=
  Ends.sol [0] x (by simp) h1 h2 h3 h4 fun k hk _ => by
    have : k = 0 := by omega
    subst this; rfl
/-- Rows go out, rows of rows among them. -/
theorem Ends.rowsN (ids : List Nat) {x : AV} (h0 : ids.Nodup) (h1 : retA s.heap s.env D.rs = some x) (h2 : passR s.heap ids x = some G.res) (h3 : passN s.heap ids = G.H')
    (h4 : ∀ id ∈ ids, ∀ e, find s.heap id = some e → e.pas ∧ ∀ c, e.ref = some c → c ∈ ids) (h5 : (List.range G.nin).all (fun k => !(find G.H' k).isSome || ids[k]? == some k) = true) : Ends D G s :=
  ⟨ids, x, h0, h1, h2, h3, h4, fun k hk hs => by
    have := List.all_eq_true.1 h5 k (List.mem_range.2 hk)
    simpa [hs] using this⟩
def szOk (H H' : Heap) : Bool := H.all fun p => match find H' p.1 with | some e' => e'.sz == p.2.sz | none => true
theorem szOk_ok {H H' : Heap} (h : szOk H H' = true) : ∀ k e e', find H k = some e → find H' k = some e' → e'.sz = e.sz := fun k e e' h1 h2 => by
  have := List.all_eq_true.1 h _ (find_mem h1)
  simp only [h2] at this
  simpa using this
/-- A nil slice as an empty row. -/
theorem FOk.rowNil {P : Program} {f : FuncId} {k : Nat} {args : List AV} (h : FOk P f (.h 0 :: args) [(0, ⟨false, k, []⟩)] (.tup []) [(0, ⟨false, k, []⟩)]) (ha : ∀ i, ¬ AV.mens args i) : FOk P f (.v .nl :: args) [] (.tup []) [] := by
  refine ⟨h.1, fun W ok0 vals hdr ow hm hv => ?_⟩
  cases vals with
  | nil => simp [RepAs] at hv
  | cons v vs =>
    simp only [RepAs] at hv
    obtain ⟨hv1, hv2⟩ := hv
    have hvn : v = .slice none 0 0 := by
      simp only [RepA] at hv1
      unfold RepV at hv1
      simp only [PV.isSt, Bool.false_eq_true, if_false] at hv1
      generalize hvv : [v] = vv at hv1
      cases hv1
      simpa using hvv
    have hO : ∀ ow' : Nat → Option Nat, Own ([] : Heap) ow' = fun _ => False := fun ow' => by
      funext b; apply propext; constructor
      · rintro ⟨i, e, h1, _⟩; simp [find] at h1
      · intro h; exact h.elim
    have hO2 : Own [(0, (⟨false, k, []⟩ : Ent))] (fun _ => none) = fun _ => False := by
      funext b; apply propext; constructor
      · rintro ⟨i, e, _, h2⟩; cases h2
      · intro h; exact h.elim
    have hm2 : Mem (Cx.of W ok0 (Own [(0, (⟨false, k, []⟩ : Ent))] (fun _ => none))) W [(0, ⟨false, k, []⟩)] (fun _ => v) (fun _ => none) := by
      refine ⟨fun id e he => ?_, fun _ _ _ _ _ _ _ h => (by cases h), fun _ _ _ _ h => (by cases h), Nat.le_refl _, fun _ _ _ => rfl, rfl, rfl, .refl _⟩
      have h9 := find_mem he
      simp at h9
      obtain ⟨_, rfl⟩ := h9
      exact .inl ⟨fun _ => .inr rfl, .inr (.inl ⟨rfl, rfl, none, hvn⟩)⟩
    have hv3 : RepAs W (OK (Cx.of W ok0 (Own [(0, (⟨false, k, []⟩ : Ent))] (fun _ => none))) W [(0, ⟨false, k, []⟩)] (fun _ => none)) (fun _ => v) [(0, ⟨false, k, []⟩)] (.h 0 :: args) (v :: vs) := by
      simp only [RepAs]
      refine ⟨by simp [RepA], RepAs.mono (fun b hb => ⟨?_, rfl⟩) args vs (fun id hi => (ha id hi).elim) hv2⟩
      have hb' := hb
      unfold OK Cx.vis at hb' ⊢
      simp only [Cx.of, hO, hO2] at hb' ⊢
      exact hb'
    refine (h.2 W ok0 (v :: vs) (fun _ => v) (fun _ => none) hm2 hv3).mono ?_
    rintro e W' ⟨v', hdr', ow', rfl, q1, q2, q3⟩
    refine ⟨v', hdr', ow', rfl, ⟨fun id e he => by simp [find] at he, fun _ _ _ _ _ he => by simp [find] at he, fun _ _ _ he => by simp [find] at he, q1.size, ?_, q1.os, q1.tape, q1.output⟩, ?_, fun _ _ _ he => by simp [find] at he⟩
    · intro b hb _
      refine q1.frame b hb ?_
      simp [Cx.of, hO2]
    · simp only [RepA] at q2 ⊢
      obtain ⟨vs', g1, g2⟩ := q2
      cases vs' with
      | nil => exact ⟨[], g1, by simp [RepAs]⟩
      | cons _ _ => simp [RepAs] at g2
/-- A new row goes out. -/
theorem Ends.new {x : AV} (id : Nat) (hn : G.nin = 0) (h1 : retA s.heap s.env D.rs = some x) (h2 : passR s.heap [id] x = some G.res) (h3 : passH s.heap 0 [id] = G.H') (h4 : ∀ p ∈ G.H', p.2.sol := by simp) : Ends D G s :=
  Ends.sol [id] x (by simp) h1 h2 h3 h4 fun k hk _ => by omega
/-- A row that was handed in has been taken over: it goes out under the next number. -/
theorem Ends.moved {x : AV} (a id : Nat) (hd : a ≠ id) (hn : G.nin = 1) (h1 : retA s.heap s.env D.rs = some x) (h2 : passR s.heap [a, id] x = some G.res) (h3 : passH s.heap 0 [a, id] = G.H') (h5 : find G.H' 0 = none := by simp) (h4 : ∀ p ∈ G.H', p.2.sol := by simp) : Ends D G s :=
  Ends.sol [a, id] x (by simp [hd]) h1 h2 h3 h4 fun k hk h => by
    have : k = 0 := by omega
    subst this; rw [h5] at h; cases h
end

theorem wrap_u64 {x : Int} (h0 : 0 ≤ x) (h : x ≤ 18446744073709551615) : IntKind.u64.wrap x = x := IntWalk.u64_in x ⟨h0, h⟩
theorem half_eq {i j : Nat} (h : i + j ≤ 9223372036854775807) : IntKind.i64.wrap (((i : Int) + (j : Int)).fdiv (2 ^ min 1 IntKind.u64.bits)) = (((i + j) / 2 : Nat) : Int) := by
  have e : (2 : Int) ^ min 1 IntKind.u64.bits = 2 := by decide
  rw [e, wrap_i64] <;> rw [Int.fdiv_eq_ediv_of_nonneg _ (by decide)] <;> omega
theorem bs_ite {c : Prop} [Decidable c] (x y : Bs) : (if c then bs x else bs y) = bs (if c then x else y) := by split <;> rfl
theorem toNat1 (i : Nat) : ((i : Int) + 1).toNat = i + 1 := by omega
theorem toNat2 (i : Nat) : ((i : Int) + 2).toNat = i + 2 := by omega
theorem nn1 (i : Nat) : (0 : Int) ≤ (i : Int) + 1 := by omega
theorem nn2 (i : Nat) : (0 : Int) ≤ (i : Int) + 2 := by omega
theorem lt1 {i n : Nat} : ((i : Int) + 1 < (n : Int)) ↔ i + 1 < n := by omega
theorem lt1c {i n : Nat} : ((i : Int) + 1 < (no_index (OfNat.ofNat n) : Int)) ↔ i + 1 < (OfNat.ofNat n : Nat) := by
  show ((i : Int) + 1 < (n : Int)) ↔ i + 1 < n; omega
theorem lt2c {i n : Nat} : ((i : Int) + 2 < (no_index (OfNat.ofNat n) : Int)) ↔ i + 2 < (OfNat.ofNat n : Nat) := by
  show ((i : Int) + 2 < (n : Int)) ↔ i + 2 < n; omega
theorem le1 {i n : Nat} : ((n : Int) ≤ (i : Int) + 1) ↔ n ≤ i + 1 := by omega
attribute [simp] toNat1 toNat2 nn1 nn2 lt1 lt1c lt2c le1
theorem drop_at {α : Type} {l : List α} {i : Nat} (h : i < l.length) : l.drop i = l[i] :: l.drop (i + 1) := List.drop_eq_getElem_cons h
theorem drop_no {α : Type} {l : List α} {i : Nat} (h : ¬ i < l.length) : l.drop i = [] := List.drop_of_length_le (by omega)

/-- Nil slices where empty rows are asked for. -/
inductive NlL : List PV → List PV → Prop
  | nil : NlL [] []
  | same {p : PV} {l m : List PV} : NlL l m → NlL (p :: l) (p :: m)
  | nl {k : Nat} {l m : List PV} : NlL l m → NlL (.nl :: l) (.sl k [] :: m)

theorem NlL.rep {W : World} {ok : Nat → Prop} {l m : List PV} (h : NlL l m) : ∀ {vs : List Value}, RepL W ok 1 l vs → RepL W ok 1 m vs := by
  induction h with
  | nil => exact fun r => r
  | same _ ih =>
    intro vs r
    cases r with
    | cons h1 h2 h3 => exact .cons h1 h2 (ih h3)
  | nl _ ih =>
    intro vs r
    cases r with
    | cons h1 h2 h3 => cases h2; exact .cons h1 .nil (ih h3)

theorem NlL.noSt {l m : List PV} (h : NlL l m) : (∀ p ∈ l, p.isSt = false) → ∀ p ∈ m, p.isSt = false := by
  induction h with
  | nil => exact fun h => h
  | same _ ih =>
    intro h p hp
    rcases List.mem_cons.1 hp with rfl | hp
    · exact h _ (by simp)
    · exact ih (fun q hq => h q (by simp [hq])) p hp
  | nl _ ih =>
    intro h p hp
    rcases List.mem_cons.1 hp with rfl | hp
    · rfl
    · exact ih (fun q hq => h q (by simp [hq])) p hp

theorem FOk.nl {P : Program} {f : FuncId} {l m : List PV} {as : List AV} {H : Heap} {res : AV} {H' : Heap} (hn : NlL l m) (h : FOk P f (.v (.st m) :: as) H res H') : FOk P f (.v (.st l) :: as) H res H' := by
  refine ⟨h.1, fun W ok0 vals hdr ow hm hv => h.2 W ok0 vals hdr ow hm ?_⟩
  cases vals with
  | nil => simp [RepAs] at hv
  | cons v vs =>
    simp only [RepAs, RepA] at hv ⊢
    obtain ⟨hv1, hv2⟩ := hv
    obtain ⟨ws, rfl, r1, r2⟩ := hv1.stInv
    exact ⟨RepV.st (hn.rep r1) (hn.noSt r2), hv2⟩

theorem FOk.resNl {P : Program} {f : FuncId} {l m : List PV} {as rs : List AV} {H : Heap} {H' : Heap} (hn : NlL l m) (h : FOk P f as H (.tup (.v (.st l) :: rs)) H') : FOk P f as H (.tup (.v (.st m) :: rs)) H' := by
  refine ⟨h.1, fun W ok0 vals hdr ow hm hv => (h.2 W ok0 vals hdr ow hm hv).mono ?_⟩
  rintro e W' ⟨v, hdr', ow', h1, h2, h3, h4⟩
  refine ⟨v, hdr', ow', h1, h2, ?_, h4⟩
  simp only [RepA] at h3 ⊢
  obtain ⟨vs, rfl, h3⟩ := h3
  cases vs with
  | nil => simp [RepAs] at h3
  | cons v vs =>
    simp only [RepAs, RepA] at h3 ⊢
    obtain ⟨hv1, hv2⟩ := h3
    obtain ⟨ws, rfl, r1, r2⟩ := hv1.stInv
    exact ⟨_, rfl, RepV.st (hn.rep r1) (hn.noSt r2), hv2⟩

end Go.AM
