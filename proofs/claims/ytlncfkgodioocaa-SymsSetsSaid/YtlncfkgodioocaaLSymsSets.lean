/- For all lists SymsSets answers true: what two alphabets have together, alike and alone is as in the reference, and whether a list is of the first one. -/
import Derived.Test.YtlncfkgodioocaaS9
import Derived.Test.YtlncfkgodioocaaP11
namespace Go.Proofs.Ytlncfkgodioocaa.P
open Go.RowKit Go.Proofs.YtlncfkgodioocaaW.PrintWords

theorem SymsSets_ev (a b w : List ByteArray) (ha : a.length ≤ 9223372036854775807) (_ : a.length * 16 ≤ 140737488351232 ∧ ∀ x ∈ a, x.size ≤ 140737488351232) (hb : b.length ≤ 9223372036854775807) (_ : b.length * 16 ≤ 140737488351232 ∧ ∀ x ∈ b, x.size ≤ 140737488351232) (hw : w.length ≤ 9223372036854775807) (_ : w.length * 16 ≤ 140737488351232 ∧ ∀ x ∈ w, x.size ≤ 140737488351232) :
    Ev (fun k => ablautlaw01_SymsSets.f k a b w) true := by
  unfold ablautlaw01_SymsSets.f
  obtain ⟨o, ho, _⟩ := over_ev [a, b, w] (by simp)
  refine Ev.bind ho ?_
  simp only [known_true, Option.bind_some]
  have hE : (eitherW a b).1.length ≤ 9223372036854775807 := by
    unfold eitherW
    split
    · split
      · simp
      · simp only; omega
    · simp
  have hF : ∀ (l : List ByteArray), (if vBoth a b = 0 then (l, (0 : Int)) else ([], vBoth a b)).1.length ≤ l.length := by
    intro l; split <;> simp
  have hBo : (bothW a b).1.length ≤ 9223372036854775807 := Nat.le_trans (hF _) (Nat.le_trans (List.length_filter_le _ _) ha)
  have hLe : (lessW a b).1.length ≤ 9223372036854775807 := Nat.le_trans (hF _) (Nat.le_trans (List.length_filter_le _ _) ha)
  cases o with
  | true => simpa using Ev.now _
  | false =>
    simp only [Bool.false_eq_true, if_false]
    refine Ev.bind (syms_Either_ev a b ha hb) ?_
    refine Ev.bind (ref_Either_ev a b ha hb) ?_
    refine Ev.bind (Same_ev _ _ hE) ?_
    simp only [decide_true, if_true]
    refine Ev.bind (syms_Is_ev w a hw ha) ?_
    refine Ev.bind (ref_Is_ev w a hw ha) ?_
    refine Ev.step (fun k => ablautlaw01_SymsSets.j0.eq_2 _ _ _ _) ?_
    simp only [bne_self_eq_false, Bool.false_eq_true, if_false]
    refine Ev.bind (syms_Both_ev a b ha hb) ?_
    refine Ev.bind (ref_Both_ev a b ha hb) ?_
    refine Ev.bind (Same_ev _ _ hBo) ?_
    simp only [decide_true, if_true]
    refine Ev.step (fun k => ablautlaw01_SymsSets.j1.eq_2 _ _ _ _) ?_
    simp only [bne_self_eq_false, Bool.false_eq_true, if_false]
    refine Ev.bind (syms_Less_ev a b ha hb) ?_
    refine Ev.bind (ref_Less_ev a b ha hb) ?_
    refine Ev.bind (Same_ev _ _ hLe) ?_
    simp only [decide_true, if_true, known_true, Option.bind_some]
    exact Ev.now _

end Go.Proofs.Ytlncfkgodioocaa.P
