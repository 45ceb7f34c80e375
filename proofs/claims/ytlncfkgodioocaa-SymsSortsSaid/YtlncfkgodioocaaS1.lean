/- What the program's and the reference's functions on symbols, words and alphabets come to. -/
import Derived.Test.YtlncfkgodioocaaS0
import Derived.Test.YtlncfkgodioocaaQ0a
namespace Go.Proofs.Ytlncfkgodioocaa.P
open Go.RowKit Go.Proofs.YtlncfkgodioocaaW.PrintWords

theorem isSymbol_l (s : ByteArray) (hs : s.size ≤ 9223372036854775807) : ∀ (d j : Nat), s.toList.length = j + d →
    Ev (fun k => syms_isSymbol.l0 k s (s.size : Int) (j : Int)) ((s.toList.drop j).all okB && !s.toList.isEmpty) := by
  intro d
  have hl := sz_toList s
  induction d with
  | zero =>
    intro j hj
    refine Ev.step (fun k => syms_isSymbol.l0.eq_2 _ _ _ _) ?_
    simp only [if_neg (show ¬ ((j : Int) < (s.size : Int)) by omega)]
    rw [List.drop_eq_nil_of_le (by omega), mw_bne_nil]
    exact Ev.now _
  | succ d ih =>
    intro j hj
    have hj' : j < s.toList.length := by omega
    refine Ev.step (fun k => syms_isSymbol.l0.eq_2 _ _ _ _) ?_
    rw [List.drop_eq_getElem_cons hj', List.all_cons, bt_nat s hj', wrap_succ (by omega)]
    have ih' := ih (j + 1) (by omega)
    simp only [okB]
    generalize (s.toList[j].toNat : Int) = b
    simp only [show ((j : Int) < (s.size : Int)) from by omega, show (0 : Int) ≤ j from by omega, if_true]
    by_cases h1 : b < 33
    · simp [h1, show ¬ 33 ≤ b by omega]; exact Ev.now _
    by_cases h2 : b > 126
    · simp [h1, h2, show ¬ b ≤ 126 by omega]; exact Ev.now _
    by_cases h3 : b = 60
    · simp [h3]; exact Ev.now _
    by_cases h4 : b = 62
    · simp [h4]; exact Ev.now _
    · simp only [h1, h2, h3, h4, if_false]
      simp [show 33 ≤ b by omega, show b ≤ 126 by omega, h3, h4]
      simpa using ih'

theorem isSymbol_ev (s : ByteArray) (hs : s.size ≤ 9223372036854775807) : Ev (fun k => syms_isSymbol.f k s) (isSym s) := by
  have := isSymbol_l s hs s.toList.length 0 (by omega)
  simpa [isSym, syms_isSymbol.f] using this

end Go.Proofs.Ytlncfkgodioocaa.P
