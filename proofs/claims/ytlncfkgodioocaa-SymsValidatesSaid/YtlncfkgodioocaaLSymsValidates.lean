/- For every list SymsValidates answers true: the program and the reference tell the same of it as an alphabet and as a word. -/
import Derived.Test.YtlncfkgodioocaaS3
import Derived.Test.YtlncfkgodioocaaP3
namespace Go.Proofs.Ytlncfkgodioocaa.P
open Go.RowKit Go.Proofs.YtlncfkgodioocaaW.PrintWords

theorem SymsValidates_ev (l : List ByteArray) (hlen : l.length ≤ 9223372036854775807) (_ : l.length * 16 ≤ 140737488351232 ∧ ∀ x ∈ l, x.size ≤ 140737488351232) : Ev (fun k => ablautlaw01_SymsValidates.f k l) true := by
  unfold ablautlaw01_SymsValidates.f
  obtain ⟨b, hb, _⟩ := over_ev [l] (by simp)
  refine Ev.bind hb ?_
  simp only [known_true, Option.bind_some]
  cases b with
  | true => simpa using Ev.now _
  | false =>
    simp only [Bool.false_eq_true, if_false]
    refine Ev.bind (syms_Validate_ev l hlen) ?_
    refine Ev.bind (ref_Validate_ev l hlen) ?_
    simp only [if_true]
    refine Ev.bind (syms_ValidateWord_ev l) ?_
    refine Ev.bind (ref_ValidateWord_ev l hlen) ?_
    simpa using Ev.now _

end Go.Proofs.Ytlncfkgodioocaa.P
