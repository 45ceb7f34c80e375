/- For all lists SymsParts answers true: what two alphabets have alike and what one has alone make it up. -/
import Derived.Test.YtlncfkgodioocaaS9
import Derived.Test.YtlncfkgodioocaaP12
namespace Go.Proofs.Ytlncfkgodioocaa.P
open Go.RowKit Go.Proofs.YtlncfkgodioocaaW.PrintWords

theorem vSigma_filter {a : List ByteArray} (h : vSigma a = 0) (p : ByteArray → Bool) : vSigma (a.filter p) = 0 := by
  obtain ⟨h1, h2, h3, h4⟩ := vSigma_okS h
  have e1 : (a.filter p).length ≤ 40 := Nat.le_trans (List.length_filter_le _ _) h1
  have e2 : (a.filter p).any isLong = false := List.any_eq_false.2 fun x hx => List.any_eq_false.1 h2 x ((List.mem_filter.1 hx).1)
  have e3 : (a.filter p).all isSym = true := List.all_eq_true.2 fun x hx => List.all_eq_true.1 h3 x ((List.mem_filter.1 hx).1)
  have e4 : isSet (a.filter p) = true := isSet_of_asc _ ((asc_of_isSet _ h4).sublist List.filter_sublist)
  unfold vSigma
  rw [if_neg (by omega), e2, e3, e4]; rfl
theorem filters_length (a : List ByteArray) (p : ByteArray → Bool) : (a.filter p).length + (a.filter fun s => !p s).length = a.length := by
  induction a with
  | nil => rfl
  | cons x a ih =>
    rw [List.filter_cons, List.filter_cons]
    cases p x <;> simp <;> omega

theorem SymsParts_ev (a b : List ByteArray) (ha : a.length ≤ 9223372036854775807) (_ : a.length * 16 ≤ 140737488351232 ∧ ∀ x ∈ a, x.size ≤ 140737488351232) (hb : b.length ≤ 9223372036854775807) (_ : b.length * 16 ≤ 140737488351232 ∧ ∀ x ∈ b, x.size ≤ 140737488351232) :
    Ev (fun k => ablautlaw01_SymsParts.f k a b) true := by
  unfold ablautlaw01_SymsParts.f
  obtain ⟨o, ho, _⟩ := over_ev [a, b] (by simp)
  refine Ev.bind ho ?_
  simp only [known_true, Option.bind_some]
  cases o with
  | true => simpa using Ev.now _
  | false =>
    simp only [Bool.false_eq_true, if_false]
    refine Ev.bind (syms_Both_ev a b ha hb) ?_
    refine Ev.bind (syms_Less_ev a b ha hb) ?_
    unfold bothW lessW
    by_cases hv : vBoth a b = 0
    · obtain ⟨h1, h2⟩ := vBoth_ok hv
      have hl := (vSigma_okS h1).1
      have f1 := vSigma_filter h1 (fun s => isIn s b)
      have f2 := vSigma_filter h1 (fun s => !isIn s b)
      have n1 := (vSigma_okS f1).1
      have n2 := (vSigma_okS f2).1
      have hE : eitherW (a.filter fun s => isIn s b) (a.filter fun s => !isIn s b) = (a, 0) := by
        have hvb : vBoth (a.filter fun s => isIn s b) (a.filter fun s => !isIn s b) = 0 := by unfold vBoth; rw [if_pos f1, f2]
        obtain ⟨s1, s2⟩ := sets_asc ((a.filter fun s => isIn s b) ++ (a.filter fun s => !isIn s b))
        have e : compactB (sortB ((a.filter fun s => isIn s b) ++ (a.filter fun s => !isIn s b))) = a := by
          refine asc_unique _ _ s1 (asc_of_isSet _ (vSigma_okS h1).2.2.2) fun x => ?_
          rw [s2, List.mem_append, List.mem_filter, List.mem_filter]
          cases isIn x b <;> simp
        unfold eitherW
        rw [if_pos hvb, e, if_neg (by omega)]
      simp only [hv, if_true]
      refine Ev.bind (syms_Either_ev _ _ (by omega) (by omega)) ?_
      rw [hE]
      simp only [if_true]
      refine Ev.bind (Same_ev a a ha) ?_
      have hlen := filters_length a (fun s => isIn s b)
      have hw : wrap64 (((a.filter fun s => isIn s b).length : Int) + ((a.filter fun s => !isIn s b).length : Int)) = (a.length : Int) := wrap_of (by omega) (by omega)
      simp only [hw, decide_true, if_true]
      refine Ev.bind (syms_Is_ev _ b (by omega) hb) ?_
      have hall : ((a.filter fun s => isIn s b).all fun x => isIn x b) = true := List.all_eq_true.2 fun x hx => (List.mem_filter.1 hx).2
      rw [hall]
      simp only [if_true]
      exact Ev.now _
    · simp only [hv, if_false, if_true]
      exact Ev.now _

end Go.Proofs.Ytlncfkgodioocaa.P
