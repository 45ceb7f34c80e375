/- For all lists SymsOrders answers true: the program's order is the reference's, it is turned round if the lists are, and of two of three orders the third one follows. -/
import Derived.Test.YtlncfkgodioocaaS4
import Derived.Test.YtlncfkgodioocaaP5
namespace Go.Proofs.Ytlncfkgodioocaa.P
open Go.RowKit Go.Proofs.YtlncfkgodioocaaW.PrintWords

theorem SymsOrders_ev (a b c : List ByteArray) (ha : a.length ≤ 9223372036854775807) (_ : a.length * 16 ≤ 140737488351232 ∧ ∀ x ∈ a, x.size ≤ 140737488351232) (hb : b.length ≤ 9223372036854775807) (_ : b.length * 16 ≤ 140737488351232 ∧ ∀ x ∈ b, x.size ≤ 140737488351232) (_hc : c.length ≤ 9223372036854775807) (_ : c.length * 16 ≤ 140737488351232 ∧ ∀ x ∈ c, x.size ≤ 140737488351232) :
    Ev (fun k => ablautlaw01_SymsOrders.f k a b c) true := by
  unfold ablautlaw01_SymsOrders.f
  obtain ⟨o, ho, _⟩ := over_ev [a, b, c] (by simp)
  refine Ev.bind ho ?_
  simp only [known_true, Option.bind_some]
  cases o with
  | true => simpa using Ev.now _
  | false =>
    simp only [Bool.false_eq_true, if_false]
    refine Ev.bind (syms_Compare_ev a b ha) ?_
    refine Ev.bind (syms_Compare_ev b c hb) ?_
    refine Ev.bind (syms_Compare_ev a c ha) ?_
    refine Ev.bind (ref_Compare_ev a b ha) ?_
    simp only [if_true]
    refine Ev.bind (ref_Compare_ev b c hb) ?_
    simp only [if_true]
    refine Ev.bind (ref_Compare_ev a c ha) ?_
    simp only [if_true]
    refine Ev.bind (syms_Compare_ev b a hb) ?_
    have hw : wrap64 (-cmpL a b) = -cmpL a b := by unfold wrap64; rcases cmpL_three a b with h | h | h <;> rw [h] <;> rfl
    rw [hw, cmpL_flip a b]
    refine Ev.step (fun k => ablautlaw01_SymsOrders.j0.eq_2 _ _ _ _ _) ?_
    simp only [bne_self_eq_false, Bool.false_eq_true, if_false, known_true, Option.bind_some]
    by_cases h1 : cmpL a b ≤ 0
    · by_cases h2 : cmpL b c ≤ 0
      · obtain ⟨h3, h4⟩ := cmpL_trans a b c h1 h2
        simp only [h1, h2, if_true, show ¬ (cmpL a c > 0) from by omega, if_false]
        by_cases h5 : cmpL a c = 0
        · obtain ⟨h6, h7⟩ := h4 h5
          simp only [h5, h6, h7, if_true]
          exact Ev.now _
        · simp only [h5, if_false]
          exact Ev.now _
      · simp only [h1, h2, if_true, if_false]
        exact Ev.now _
    · simp only [h1, if_false]
      exact Ev.now _

end Go.Proofs.Ytlncfkgodioocaa.P
