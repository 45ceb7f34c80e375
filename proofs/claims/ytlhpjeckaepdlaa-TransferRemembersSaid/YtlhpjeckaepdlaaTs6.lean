/- The walk. -/
import Derived.Test.YtlhpjeckaepdlaaTs5
import Derived.Test.YtlhpjeckaepdlaaProg
import Derived.KernelRfl
set_option linter.all false
set_option maxHeartbeats 2000000
namespace Go.Proofs
open Go Go.AM
attribute [local irreducible] Run Ends
theorem any_false {α : Type} {p : α → Bool} {l : List α} (h : l.any p = false) : ∀ x ∈ l, p x = false := by
  intro x hx
  have := List.any_eq_false.1 h x hx
  simpa using this
theorem lngW_false {w : List Bs} (h : lngW w = false) : w.length ≤ 16 := by
  simp only [lngW, Bool.or_eq_false_iff, decide_eq_false_iff_not] at h
  omega
structure Ok8 (b : BrT) (l : List UnitT) : Prop where
  put : brB b
  pat : shB b.2.1
  nS : b.2.1.length ≤ 24
  out : ∀ r ∈ b.2.1, r.2.1.length ≤ 24 ∧ ∀ s ∈ r.2.1, s.2.2.1.length ≤ 1000 ∧ s.2.2.2.2.1.length ≤ 1000 ∧ slotOk s r.1.length = true
  nl : l.length ≤ 200
  tags : ∀ u ∈ l, u.2.1.length ≤ 16
theorem both0 {b : BrT} {l : List UnitT} (h : bothF b l = 0) : Ok8 b l := by
  have hv : validF b = 0 := by
    unfold bothF at h
    split at h
    · assumption
    · exact absurd h (by assumption)
  have hu : unitsF l = 0 := by simpa [bothF, hv] using h
  unfold validF at hv
  split at hv
  · cases hv
  rename_i hL
  split at hv
  · cases hv
  split at hv
  · cases hv
  rename_i hT hR
  clear hv
  unfold unitsF at hu
  split at hu
  · cases hu
  rename_i hn
  split at hu
  · cases hu
  rename_i hUL
  have hUL : l.any unitLng = false := by simpa using hUL
  have hL : brLng b = false := by simpa using hL
  have hR : b.2.1.any ruleBad = false := by simpa using hR
  simp only [brLng, Bool.or_eq_false_iff, decide_eq_false_iff_not] at hL
  obtain ⟨g1, g2, g3, g4⟩ := hL
  refine ⟨fun r hr => ?_, fun r hr => ?_, by omega, fun r hr => ⟨?_, fun s hs => ⟨?_, ?_, ?_⟩⟩, by omega, fun u hu2 => ?_⟩
  · have := any_false g3 r hr
    simp only [turnLng, List.any_cons, Bool.or_eq_false_iff] at this
    have := lngW_false this.2.1
    omega
  · have := any_false hR r hr
    simp only [ruleBad, Bool.or_eq_false_iff, decide_eq_false_iff_not] at this
    exact this.1
  · have := any_false g4 r hr
    simp only [shufLng, Bool.or_eq_false_iff, decide_eq_false_iff_not] at this
    omega
  · have := any_false g4 r hr
    simp only [shufLng, Bool.or_eq_false_iff, decide_eq_false_iff_not] at this
    have := any_false this.2.2.2 s hs
    simp only [slotLng, List.any_cons, Bool.or_eq_false_iff] at this
    have := lngW_false this.1
    omega
  · have := any_false g4 r hr
    simp only [shufLng, Bool.or_eq_false_iff, decide_eq_false_iff_not] at this
    have := any_false this.2.2.2 s hs
    simp only [slotLng, List.any_cons, Bool.or_eq_false_iff] at this
    have := lngW_false this.2.1
    omega
  · have := any_false hR r hr
    simp only [ruleBad, Bool.or_eq_false_iff] at this
    have := any_false this.2.2 s hs
    simpa using this
  · have := any_false hUL u hu2
    simp only [unitLng, List.any_cons, Bool.or_eq_false_iff] at this
    exact lngW_false this.1
theorem wthF_mem : ∀ (l o : List Bs) (s : Bs), s ∈ wthF o l → s ∈ o ∨ s ∈ l
  | [], _, _, h => .inl h
  | x :: l, o, s, h => by
    simp only [wthF] at h
    split at h
    · rcases wthF_mem l o s h with q | q
      · exact .inl q
      · exact .inr (by simp [q])
    · rcases wthF_mem l _ s h with q | q
      · rcases List.mem_append.1 q with q | q
        · exact .inl q
        · exact .inr (by simp at q; simp [q])
      · exact .inr (by simp [q])
theorem wordF_ok {b : BrT} {x : UnitT} (hb : brS b) (hB : brB b) (hx : unitS x) (hl : x.2.1.length ≤ 16) : unitS (wordF b.1 x).1 ∧ (wordF b.1 x).1.2.1.length ≤ 1016 := by
  unfold wordF
  split
  · rename_i r hr
    have hm := List.mem_of_find?_eq_some hr
    have h1 := hb.2.1 r hm
    have h2 := hB r hm
    have h3 := wthF_le r.2.2.2.1 x.2.1
    refine ⟨⟨⟨by simp only []; omega, fun s hs => ?_⟩, h1.2.2.2⟩, by simp only []; omega⟩
    rcases wthF_mem _ _ s hs with q | q
    · exact hx.1.2 s q
    · exact h1.2.1.2 s q
  · exact ⟨⟨hx.1, hx.2⟩, by simp only []; omega⟩
def many (u : UnitT) : Bool := decide (16 < u.2.1.length)
def wordsF (R : List TurnT) (l : List UnitT) : List UnitT := l.map fun u => (wordF R u).1
def slotsF (S : List ShufT) (l W : List UnitT) (c : ChT) : List UnitT := match S[c.1]? with
  | some r => r.2.1.map fun s => writeF s ((l.take c.2.2).drop c.2.1) ((W.take c.2.2).drop c.2.1)
  | none => []
def outF (S : List ShufT) (l W : List UnitT) : Nat → List ChT → List UnitT
  | a, [] => W.drop a
  | a, c :: cs => (W.take c.2.1).drop a ++ (slotsF S l W c ++ outF S l W c.2.2 cs)
def transF (b : BrT) (l : List UnitT) : List UnitT × Int :=
  if bothF b l ≠ 0 then ([], bothF b l) else
  if (wordsF b.1 l).any many = true then ([], 3) else
  if 200 < (outF b.2.1 l (wordsF b.1 l) 0 (chunksF b.2.1 l)).length then ([], 3) else
  if (outF b.2.1 l (wordsF b.1 l) 0 (chunksF b.2.1 l)).any many = true then ([], 3) else (outF b.2.1 l (wordsF b.1 l) 0 (chunksF b.2.1 l), 0)

end Go.Proofs
