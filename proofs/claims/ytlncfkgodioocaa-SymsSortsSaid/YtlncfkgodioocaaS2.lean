/- What syms.ValidateWord, syms.Validate and the reference's twins come to; the text of a word. -/
import Derived.Test.YtlncfkgodioocaaX43
import Derived.Test.YtlncfkgodioocaaQ1a
import Derived.Test.YtlncfkgodioocaaQ0b
namespace Go.Proofs.Ytlncfkgodioocaa.P
open Go.RowKit Go.Proofs.YtlncfkgodioocaaW.PrintWords


theorem cf_isLong (l : List ByteArray) : slices_ContainsFunc_string_string.f l (Value.func (Fn.func 44) #[] #[]) = some (l.any isLong) := by
  simp [slices_ContainsFunc_string_string.f, fnOf]
theorem cf_notSym (l : List ByteArray) (h : l.any isLong = false) : slices_ContainsFunc_string_string.f l (Value.func (Fn.func 49) #[] #[]) = some (!l.all isSym) := by
  simp [slices_ContainsFunc_string_string.f, fnOf, h]

theorem syms_ValidateWord_ev (l : List ByteArray) : Ev (fun k => syms_ValidateWord.f k l) (vWord l) := by
  unfold syms_ValidateWord.f vWord
  by_cases h60 : 60 < l.length
  · simp only [show (l.length : Int) > 60 from by omega, if_true, h60]
    exact Ev.step (fun k => syms_ValidateWord.j0.eq_2 _ _ _) (by simpa using Ev.now _)
  · simp only [show ¬ ((l.length : Int) > 60) from by omega, if_false, h60]
    simp only [cf_isLong, Option.bind_some]
    refine Ev.step (fun k => syms_ValidateWord.j0.eq_2 _ _ _) ?_
    cases hL : l.any isLong with
    | true => simpa using Ev.now _
    | false =>
      simp only [cf_notSym l hL]
      cases l.all isSym <;> simpa using Ev.now _

end Go.Proofs.Ytlncfkgodioocaa.P
