/- For every text and every list SymsSplits answers true: the program and the reference cut the text alike, and in as many ways. -/
import Derived.Test.YtlncfkgodioocaaS7
import Derived.Test.YtlncfkgodioocaaP7
namespace Go.Proofs.Ytlncfkgodioocaa.P
open Go.RowKit Go.Proofs.YtlncfkgodioocaaW.PrintWords

theorem SymsSplits_ev (s : ByteArray) (l : List ByteArray) (_ : s.size ≤ 140737488351232) (hlen : l.length ≤ 9223372036854775807) (_ : l.length * 16 ≤ 140737488351232 ∧ ∀ x ∈ l, x.size ≤ 140737488351232) : Ev (fun k => ablautlaw01_SymsSplits.f k s l) true := by
  unfold ablautlaw01_SymsSplits.f
  have hyes : Ev (fun k => ablautlaw01_SymsSplits.j0 k s l true) true := Ev.step (fun k => ablautlaw01_SymsSplits.j0.eq_2 _ _ _ _) (by simpa [known_true] using Ev.now _)
  have hno : Ev (fun k => ablautlaw01_SymsSplits.j0 k s l false) true := by
    refine Ev.step (fun k => ablautlaw01_SymsSplits.j0.eq_2 _ _ _ _) ?_
    simp only [Bool.false_eq_true, if_false, known_true, Option.bind_some]
    refine Ev.bind (syms_Split_ev s l hlen) ?_
    refine Ev.bind (ref_Split_ev s l hlen) ?_
    refine Ev.bind (syms_Cuts_ev s l hlen) ?_
    refine Ev.bind (ref_Cuts_ev s l hlen) ?_
    refine Ev.bind (Same_ev _ _ (by have := splitW_len s l; omega)) ?_
    simp only [decide_true, if_true]
    exact Ev.now _
  by_cases h : (s.size : Int) > 4000
  · simp only [h, if_true]; exact hyes
  · simp only [h, if_false]
    obtain ⟨b, hb, _⟩ := over_ev [l] (by simp)
    refine Ev.bind hb ?_
    cases b with
    | true => exact hyes
    | false => exact hno

end Go.Proofs.Ytlncfkgodioocaa.P
