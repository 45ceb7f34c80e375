/- The walk. -/
import Derived.Test.YtlhpjeckaepdlaaTr10
import Derived.Test.YtlhpjeckaepdlaaProg
import Derived.KernelRfl
set_option linter.all false
set_option maxHeartbeats 2000000
namespace Go.Proofs
open Go Go.AM
attribute [local irreducible] Run Ends
theorem decN {p q : Prop} [Decidable p] [Decidable q] (h : p ↔ ¬ q) : decide p = !decide q := by by_cases hq : q <;> simp [h, hq]
theorem slotOk_eq (o : Int) (b : Bs) (t : List Bs) (f : Int) (k : List Bs) (u : Unit) (n : Nat) :
    slotOk (o, b, t, f, k, u) n = (!(decide (o < -1) || (decide ((n : Int) ≤ o) || (decide (f < -1) || (decide ((n : Int) ≤ f) || (!isNms [] t || !isNms [] k))))) &&
      !((decide (f = -1) && decide (k ≠ [])) || ((decide (o ≠ -1) && (decide (b ≠ []) || decide (t ≠ []))) || (decide (o = -1) && (decide (b = []) || !isPl b))))) := by
  simp only [slotOk, frOk]
  by_cases h1 : o = -1
  · subst h1
    have e1 : decide ((n : Int) ≤ -1) = false := decide_eq_false (by omega)
    have e2 : decide (-1 ≤ f) = !decide (f < -1) := decN (by omega)
    have e3 : decide (f < (n : Int)) = !decide ((n : Int) ≤ f) := decN (by omega)
    simp only [if_true, e1, e2, e3]
    cases decide ((n : Int) ≤ f) <;> cases decide (f < -1) <;> cases isNms [] t <;> cases isNms [] k <;> cases isPl b <;> by_cases q1 : b = [] <;> by_cases q2 : f = -1 <;> by_cases q3 : k = [] <;> simp [q1, q2, q3]
  · have e2 : decide (-1 ≤ f) = !decide (f < -1) := decN (by omega)
    have e3 : decide (f < (n : Int)) = !decide ((n : Int) ≤ f) := decN (by omega)
    have e4 : decide (-1 ≤ o) = !decide (o < -1) := decN (by omega)
    have e5 : decide (o < (n : Int)) = !decide ((n : Int) ≤ o) := decN (by omega)
    rw [if_neg h1]
    simp only [e2, e3, e4, e5]
    by_cases q4 : t = []
    · subst q4
      have e6 : isNms [] [] = true := rfl
      rw [e6]
      cases decide ((n : Int) ≤ f) <;> cases decide (f < -1) <;> cases decide ((n : Int) ≤ o) <;> cases decide (o < -1) <;> cases isNms [] k <;> by_cases q1 : b = [] <;> by_cases q2 : f = -1 <;> by_cases q3 : k = [] <;> simp [h1, q1, q2, q3]
    · simp [h1, q4]
theorem fok49 (r : ShufT) (hr : shufS r) : FOk Try.prog 49 [.v (shufV r)] [] (.B (!ruleBad r)) [] := by
  obtain ⟨p, o, u⟩ := r
  obtain ⟨p1, p2, p3, p4⟩ := hr
  simp only at p1 p2 p3 p4
  refine FOk.val k49 (by simp) (by simp) (by decide) ?_
  simp only [ruleBad]
  by_cases c1 : p = []
  · subst c1
    simp [c49, shufV, wordsV]
    exact Ends.v rfl (by simp)
  have c1' : ¬ p.length = 0 := by simpa using c1
  have c1i : ¬ (p.length : Int) = 0 := by omega
  simp [c49, shufV, wordsV, c1, c1', c1i]
  refine Run.loopA (ι := Nat) [(1, 1)] (fun i => i ≤ p.length ∧ ∀ s ∈ p.take i, (!ascN none s) = false) (fun i => ⟨[(1, .ptr 1 0 0), (3, .I i)], [(1, ⟨false, 2, [shufV (p, o, u)]⟩)], 1024⟩) (fun i => p.length - i) 0 (by decide) (by simp [shufV, wordsV]) (by simp) ?_
  rintro i ⟨hi, hno⟩ ih
  by_cases h : i < p.length
  · have hyes := any_at (fun l => !ascN none l) p h
    have hnext := any_take (fun l => !ascN none l) p h hno
    have hc := fok70 p[i] (p2 _ (List.getElem_mem h))
    generalize ascN none p[i] = x1 at hc hyes hnext
    simp (disch := omega) [h, wrap_i64, shufV, wordsV]
    refine CallG.lent rfl rfl rfl rfl hc rfl ?_
    cases x1
    · simp (disch := omega) [wrap_i64]
      exact Ends.v rfl (by simp only [hyes rfl]; simp)
    · simp (disch := omega) [wrap_i64]
      exact ih (i + 1) _ ⟨by omega, hnext rfl⟩ (by omega) (by simp [shufV, wordsV])
  have hiR : i = p.length := by omega
  subst hiR
  rw [List.take_length] at hno
  rw [any_end (fun l => !ascN none l) p hno]
  clear ih h hno
  simp [shufV, wordsV]
  refine Run.loopA (ι := Nat) [(1, 1)] (fun i => i ≤ o.length ∧ ∀ s ∈ o.take i, (!slotOk s p.length) = false) (fun i => ⟨[(1, .ptr 1 0 0), (4, .I i)], [(1, ⟨false, 2, [shufV (p, o, u)]⟩)], 1024⟩) (fun i => o.length - i) 0 (by decide) (by simp [shufV, wordsV]) (by simp) ?_
  rintro i ⟨hi, hno⟩ ih
  by_cases h : i < o.length
  · have hs := p4 _ (List.getElem_mem h)
    have hyes := any_at (fun s => !slotOk s p.length) o h
    have hnext := any_take (fun s => !slotOk s p.length) o h hno
    generalize hx : o[i] = s at hs hyes hnext
    obtain ⟨a, b, t, f, k, u2⟩ := s
    have c3 := fok55 t hs.1
    have c4 := fok55 k hs.2.1
    have c5 := fok56 b hs.2.2
    simp only [slotOk_eq] at hyes hnext
    generalize isNms [] t = x1 at c3 hyes hnext
    generalize isNms [] k = x2 at c4 hyes hnext
    generalize isPl b = x3 at c5 hyes hnext
    have bad : (!(!(decide (a < -1) || (decide ((p.length : Int) ≤ a) || (decide (f < -1) || (decide ((p.length : Int) ≤ f) || (!x1 || !x2))))) &&
      !((decide (f = -1) && decide (k ≠ [])) || ((decide (a ≠ -1) && (decide (b ≠ []) || decide (t ≠ []))) || (decide (a = -1) && (decide (b = []) || !x3)))))) = true → (!(o.any fun s => !slotOk s p.length)) = false := fun q => by rw [hyes q]; rfl
    clear hyes hno
    have m1 : (-1 : Int) < p.length := by omega
    by_cases d1 : a < -1
    · rw [bad (by simp [d1])]
      simp (disch := omega) [h, wrap_i64, shufV, wordsV, hx, slotV, d1]
      exact Ends.v rfl (by simp)
    by_cases d2 : (p.length : Int) ≤ a
    · rw [bad (by simp [d2])]
      simp (disch := omega) [h, wrap_i64, shufV, wordsV, hx, slotV, d1, d2]
      exact Ends.v rfl (by simp)
    by_cases d3 : f < -1
    · rw [bad (by simp [d3])]
      simp (disch := omega) [h, wrap_i64, shufV, wordsV, hx, slotV, d1, d2, d3]
      exact Ends.v rfl (by simp)
    by_cases d4 : (p.length : Int) ≤ f
    · rw [bad (by simp [d4])]
      simp (disch := omega) [h, wrap_i64, shufV, wordsV, hx, slotV, d1, d2, d3, d4]
      exact Ends.v rfl (by simp)
    simp (disch := omega) [h, wrap_i64, shufV, wordsV, hx, slotV, d1, d2, d3, d4]
    refine CallG.lent rfl rfl rfl rfl c3 rfl ?_
    cases x1
    case false =>
      rw [bad (by simp)]
      simp (disch := omega) [wrap_i64]
      exact Ends.v rfl (by simp)
    simp (disch := omega) [wrap_i64, slotV]
    refine CallG.lent rfl rfl rfl rfl c4 rfl ?_
    cases x2
    case false =>
      rw [bad (by simp)]
      simp (disch := omega) [wrap_i64]
      exact Ends.v rfl (by simp)
    by_cases e1 : f = -1
    · by_cases e2 : k = []
      case neg =>
        have e2' : ¬ k.length = 0 := by simpa using e2
        have e2i : 0 < k.length := by omega
        rw [bad (by simp [e1, e2])]
        simp (disch := omega) [wrap_i64, slotV, e1, e2, e2', e2i]
        exact Ends.v rfl (by simp)
      by_cases e3 : a = -1
      · by_cases e4 : b = []
        · rw [bad (by simp [e3, e4])]
          simp (disch := omega) [wrap_i64, slotV, e1, e2, e3, e4]
          exact Ends.v rfl (by simp)
        simp (disch := omega) [wrap_i64, slotV, e1, e2, e3, e4]
        refine CallG.lent rfl rfl rfl rfl c5 rfl ?_
        cases x3
        case false =>
          rw [bad (by simp [e3])]
          simp (disch := omega) [wrap_i64]
          exact Ends.v rfl (by simp)
        simp (disch := omega) [wrap_i64]
        exact ih (i + 1) _ ⟨by omega, hnext (by simp [e1, e2, e3, e4, d1, d2, d3, d4, m1])⟩ (by omega) (by simp [shufV, wordsV])
      · by_cases e4 : b = []
        case neg =>
          rw [bad (by simp [e3, e4])]
          simp (disch := omega) [wrap_i64, slotV, e1, e2, e3, e4]
          exact Ends.v rfl (by simp)
        by_cases e5 : t = []
        case neg =>
          have e5' : ¬ t.length = 0 := by simpa using e5
          have e5i : 0 < t.length := by omega
          rw [bad (by simp [e3, e5])]
          simp (disch := omega) [wrap_i64, slotV, e1, e2, e3, e4, e5, e5', e5i]
          exact Ends.v rfl (by simp)
        simp (disch := omega) [wrap_i64, slotV, e1, e2, e3, e4, e5]
        exact ih (i + 1) _ ⟨by omega, hnext (by simp [e1, e2, e3, e4, e5, d1, d2, d3, d4, m1])⟩ (by omega) (by simp [shufV, wordsV])
    · by_cases e3 : a = -1
      · by_cases e4 : b = []
        · rw [bad (by simp [e3, e4])]
          simp (disch := omega) [wrap_i64, slotV, e1, e3, e4]
          exact Ends.v rfl (by simp)
        simp (disch := omega) [wrap_i64, slotV, e1, e3, e4]
        refine CallG.lent rfl rfl rfl rfl c5 rfl ?_
        cases x3
        case false =>
          rw [bad (by simp [e3])]
          simp (disch := omega) [wrap_i64]
          exact Ends.v rfl (by simp)
        simp (disch := omega) [wrap_i64]
        exact ih (i + 1) _ ⟨by omega, hnext (by simp [e1, e3, e4, d1, d2, d3, d4, m1])⟩ (by omega) (by simp [shufV, wordsV])
      · by_cases e4 : b = []
        case neg =>
          rw [bad (by simp [e3, e4])]
          simp (disch := omega) [wrap_i64, slotV, e1, e3, e4]
          exact Ends.v rfl (by simp)
        by_cases e5 : t = []
        case neg =>
          have e5' : ¬ t.length = 0 := by simpa using e5
          have e5i : 0 < t.length := by omega
          rw [bad (by simp [e3, e5])]
          simp (disch := omega) [wrap_i64, slotV, e1, e3, e4, e5, e5', e5i]
          exact Ends.v rfl (by simp)
        simp (disch := omega) [wrap_i64, slotV, e1, e3, e4, e5]
        exact ih (i + 1) _ ⟨by omega, hnext (by simp [e1, e3, e4, e5, d1, d2, d3, d4, m1])⟩ (by omega) (by simp [shufV, wordsV])
  · have hiR : i = o.length := by omega
    subst hiR
    rw [List.take_length] at hno
    rw [any_end (fun s => !slotOk s p.length) o hno]
    simp [shufV, wordsV]
    exact Ends.v rfl (by simp)

end Go.Proofs
