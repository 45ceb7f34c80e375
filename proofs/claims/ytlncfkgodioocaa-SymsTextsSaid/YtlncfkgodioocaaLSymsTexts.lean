/- For every list SymsTexts answers true: the program and the reference tell the same text and the same raw text of it. -/
import Derived.Test.YtlncfkgodioocaaS6
import Derived.Test.YtlncfkgodioocaaP6
namespace Go.Proofs.Ytlncfkgodioocaa.P
open Go.RowKit Go.Proofs.YtlncfkgodioocaaW.PrintWords

theorem SymsTexts_ev (l : List ByteArray) (hlen : l.length ≤ 9223372036854775807) (_ : l.length * 16 ≤ 140737488351232 ∧ ∀ x ∈ l, x.size ≤ 140737488351232) : Ev (fun k => ablautlaw01_SymsTexts.f k l) true := by
  unfold ablautlaw01_SymsTexts.f
  obtain ⟨b, hb, _⟩ := over_ev [l] (by simp)
  refine Ev.bind hb ?_
  simp only [known_true, Option.bind_some, syms_Text_eq, syms_Raw_eq]
  cases b with
  | true => simpa using Ev.now _
  | false =>
    simp only [Bool.false_eq_true, if_false]
    refine Ev.bind (ref_Text_ev l hlen) ?_
    refine Ev.bind (ref_Raw_ev l hlen) ?_
    simpa using Ev.now _

end Go.Proofs.Ytlncfkgodioocaa.P
