/- The walk. -/
import Derived.Test.YtphjjlhpepmofaaF13
import Derived.Test.YtphjjlhpepmofaaProg
import Derived.KernelRfl
set_option linter.all false
set_option maxHeartbeats 2000000
namespace Go.Proofs
open Go Go.AM
attribute [local irreducible] Run Ends
theorem fok37 (p : PricesT) (ws : List (List Bs)) (hp : prS p) (hw : ∀ w ∈ ws, wordS w) (hl : ws.length ≤ 200000000000000) : FOk Try.prog 37 [.v (pricesV p), .v (wordsV ws)] [] (.I (vChecked p ws)) [] := by
  have h1 := fok19 p hp
  have h2 := fok59 ws hw hl
  refine FOk.val k37 (by simp) (by simp) (by decide) ?_
  simp [c37, pricesV, wordsV]
  refine CallG.lent rfl rfl rfl rfl h1 rfl ?_
  simp
  refine ⟨fun h => Ends.v rfl (by simp [vChecked, h]), fun h => ?_⟩
  refine CallG.lent rfl rfl rfl rfl h2 rfl ?_
  simp
  exact Ends.v rfl (by simp [vChecked, h])
theorem fok15 (p : PricesT) (a b : List Bs) (hp : prS p) (ha : wordS a) (hb : wordS b) :
    FOk Try.prog 15 [.v (pricesV p), .v (PV.word a), .v (PV.word b)] [] (.tup [.I (priceF p a b).1, .I (priceF p a b).2]) [] := by
  have hc := fok37 p [a, b] hp (by simp [ha, hb]) (by simp)
  refine FOk.val k15 (by simp) (by simp) (by decide) ?_
  simp [c15, pricesV]
  refine CallG.lent rfl rfl rfl rfl hc rfl ?_
  simp
  refine ⟨fun h => Ends.v rfl (by simp [priceF, h]), fun h => ?_⟩
  obtain ⟨h1, h2⟩ := vChecked_ok h
  refine CallG.lent rfl rfl rfl rfl (fok38 p a b h1 (h2 a (by simp)) (h2 b (by simp))) rfl ?_
  simp
  exact Ends.v rfl (by simp [priceF, h])
def withinF (p : PricesT) (a b : List Bs) (n : Int) : Bool × Int × Int :=
  if vChecked p [a, b] = 0 then (if n < 0 then (false, 0, 1) else if n < pr p a b then (false, 0, 0) else (true, pr p a b, 0)) else (false, 0, vChecked p [a, b])
theorem fok16 (p : PricesT) (a b : List Bs) (n : Int) (hp : prS p) (ha : wordS a) (hb : wordS b) :
    FOk Try.prog 16 [.v (pricesV p), .v (PV.word a), .v (PV.word b), .I n] [] (.tup [.B (withinF p a b n).1, .I (withinF p a b n).2.1, .I (withinF p a b n).2.2]) [] := by
  have hP := fok14 p a b hp ha hb
  refine FOk.val k16 (by simp) (by simp) (by decide) ?_
  simp [c16, pricesV]
  refine CallG.lent rfl rfl rfl rfl hP rfl ?_
  by_cases hc : vChecked p [a, b] = 0
  · have e : priceF p a b = (pr p a b, 0) := by simp [priceF, hc]
    rw [e]
    by_cases h1 : n < 0
    · simp [h1]
      exact Ends.v rfl (by simp [withinF, hc, h1])
    · by_cases h2 : n < pr p a b
      · simp [h1, h2]
        exact Ends.v rfl (by simp [withinF, hc, h1, h2])
      · simp [h1, h2]
        exact Ends.v rfl (by simp [withinF, hc, h1, h2])
  · have e : priceF p a b = (0, vChecked p [a, b]) := by simp [priceF, hc]
    rw [e]
    simp [hc]
    exact Ends.v rfl (by simp [withinF, hc])
theorem fok17 (p : PricesT) (a b : List Bs) (n : Int) (hp : prS p) (ha : wordS a) (hb : wordS b) :
    FOk Try.prog 17 [.v (pricesV p), .v (PV.word a), .v (PV.word b), .I n] [] (.tup [.B (withinF p a b n).1, .I (withinF p a b n).2.1, .I (withinF p a b n).2.2]) [] := by
  have hA := fok37 p [a, b] hp (by simp [ha, hb]) (by simp)
  refine FOk.val k17 (by simp) (by simp) (by decide) ?_
  simp [c17, pricesV]
  refine CallG.lent rfl rfl rfl rfl hA rfl ?_
  by_cases hc : vChecked p [a, b] = 0
  · obtain ⟨g1, g2⟩ := vChecked_ok hc
    by_cases h1 : n < 0
    · simp [hc, h1]
      exact Ends.v rfl (by simp [withinF, hc, h1])
    · simp [hc, h1]
      refine CallG.lent rfl rfl rfl rfl (fok38 p a b g1 (g2 a (by simp)) (g2 b (by simp))) rfl ?_
      by_cases h2 : n < pr p a b
      · simp [h1, h2]
        exact Ends.v rfl (by simp [withinF, hc, h1, h2])
      · simp [h1, h2]
        exact Ends.v rfl (by simp [withinF, hc, h1, h2])
  · simp [hc]
    exact Ends.v rfl (by simp [withinF, hc])

end Go.Proofs
