/- For every list and every text SymsBack answers true: the text of a word is read as the word, and what is read has the text that it was read of. -/
import Derived.Test.YtlncfkgodioocaaS6
import Derived.Test.YtlncfkgodioocaaP8
namespace Go.Proofs.Ytlncfkgodioocaa.P
open Go.RowKit Go.Proofs.YtlncfkgodioocaaW.PrintWords

theorem SymsBack_ev (l : List ByteArray) (s : ByteArray) (hlen : l.length ≤ 9223372036854775807) (_ : l.length * 16 ≤ 140737488351232 ∧ ∀ x ∈ l, x.size ≤ 140737488351232) (_ : s.size ≤ 140737488351232) : Ev (fun k => ablautlaw01_SymsBack.f k l s) true := by
  unfold ablautlaw01_SymsBack.f
  obtain ⟨b, hb, _⟩ := over_ev [l] (by simp)
  refine Ev.bind hb ?_
  have hyes : Ev (fun k => ablautlaw01_SymsBack.j0 k l s true) true := Ev.step (fun k => ablautlaw01_SymsBack.j0.eq_2 _ _ _ _) (by simpa [known_true] using Ev.now _)
  have h1 : Ev (fun k => ablautlaw01_SymsBack.j1 k s) true := by
    refine Ev.step (fun k => ablautlaw01_SymsBack.j1.eq_2 _ _) ?_
    refine Ev.bind (syms_Read_ev s) ?_
    simp only [known_true, Option.bind_some, syms_Text_eq]
    by_cases h : (readW s).2 = 0
    · simp only [h, text_read h, if_true]
      exact Ev.now _
    · simp only [h, if_false]
      exact Ev.now _
  have hno : Ev (fun k => ablautlaw01_SymsBack.j0 k l s false) true := by
    refine Ev.step (fun k => ablautlaw01_SymsBack.j0.eq_2 _ _ _ _) ?_
    simp only [Bool.false_eq_true, if_false, Option.bind_some, syms_Text_eq]
    by_cases h : (textW l).2 = 0
    · simp only [h, if_true]
      refine Ev.bind (syms_Read_ev _) ?_
      simp only [read_text h, if_true]
      refine Ev.bind (syms_Compare_ev l l hlen) ?_
      simp only [cmpL_self, if_true]
      exact h1
    · simp only [h, if_false]
      exact h1
  cases b with
  | true => simpa using hyes
  | false =>
    simp only [Bool.false_eq_true, if_false]
    by_cases h : (s.size : Int) > 4000
    · simp only [h, decide_true]; exact hyes
    · simp only [h, decide_false]; exact hno

end Go.Proofs.Ytlncfkgodioocaa.P
