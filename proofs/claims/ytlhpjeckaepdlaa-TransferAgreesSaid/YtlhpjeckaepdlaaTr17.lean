/- The walk. -/
import Derived.Test.YtlhpjeckaepdlaaTr16
import Derived.Test.YtlhpjeckaepdlaaProg
import Derived.KernelRfl
set_option linter.all false
set_option maxHeartbeats 2000000
namespace Go.Proofs
open Go Go.AM
attribute [local irreducible] Run Ends
theorem transferAgrees_ok (l : List UnitT) (G : List (List Bs)) (p : Int × Int × Unit) (hl : l.length * 40 ≤ 140737488351232 ∧ ∀ u ∈ l, unitC u) (hG : G.length * 24 ≤ 140737488351232 ∧ ∀ w ∈ G, wordC w) (hp : intC p.1 ∧ intC p.2.1 ∧ True) :
    FOk Try.prog 5 [.v (.sl 2 (l.map unitV)), .v (wordsV G), .v (.st [.i p.1, .i p.2.1])] [] (.B true) [] := by
  obtain ⟨i, k, u⟩ := p
  obtain ⟨hi, hk, _⟩ := hp
  simp only at hi hk
  have hl1 : l.length ≤ 200000000000000 := by have := hl.1; omega
  have hl2 : ∀ u ∈ l, unitS u := fun u hu => (hl.2 u hu).s
  have hG1 : G.length ≤ 200000000000000 := by have := hG.1; omega
  have hG2 : ∀ w ∈ G, wordS w := fun w hw => (hG.2 w hw).s8
  have h2 := fok9 l hl1 hl2
  have h3 := fok23 G hG1 hG2
  have h4 := fok24 l G i k hl1 hl2 hG1 hG2 hi hk
  have h5 := fok25 l G i k hl1 hl2 hG1 hG2 hi hk
  have hkn := fok10
  generalize endN (ovU l l.length) = x2 at h2
  generalize agreeF l G i k = v at h4 h5
  generalize decide (16384 < lgL G 0) = x3 at h3
  obtain ⟨v1, v2⟩ := v
  simp only [wordsV] at h3 h4 h5
  refine FOk.val k5 (by simp) (by simp) (by decide) ?_
  simp [c5, wordsV]
  refine CallG.lent rfl rfl rfl rfl h2 rfl ?_
  cases x2
  case true =>
    simp
    refine CallG.lent rfl rfl rfl rfl hkn rfl ?_
    simp
    exact Ends.v rfl (by simp)
  by_cases c2 : 1000 < G.length
  · simp [c2]
    refine CallG.lent rfl rfl rfl rfl hkn rfl ?_
    simp
    exact Ends.v rfl (by simp)
  simp [c2]
  refine CallG.lent rfl rfl rfl rfl h3 rfl ?_
  cases x3
  case true =>
    simp
    refine CallG.lent rfl rfl rfl rfl hkn rfl ?_
    simp
    exact Ends.v rfl (by simp)
  simp
  refine CallG.plain rfl rfl rfl rfl h4 (by simp) (by simp) ?_
  simp
  refine CallG.plain rfl rfl rfl rfl h5 (by simp) (by simp) ?_
  simp
  refine CallG.lent rfl rfl rfl rfl hkn rfl ?_
  simp
  exact Ends.v rfl (by simp)

end Go.Proofs
