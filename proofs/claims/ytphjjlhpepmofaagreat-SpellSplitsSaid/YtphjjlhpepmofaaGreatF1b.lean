/- The walk. -/
import Derived.Test.YtphjjlhpepmofaaGreatF1
import Derived.Test.YtphjjlhpepmofaaGreatProg
import Derived.KernelRfl
set_option linter.all false
set_option maxHeartbeats 2000000
namespace Go.Proofs
open Go Go.AM
attribute [local irreducible] Run Ends
/-- ablaut/spell.isSymbol -/
def c97 : MC :=
  .seq (.reg false [.op .none 2 (.mv (.c (.w (.bool false))))]) <|
  .seq (.reg false [.op .none 3 (.mv (.t 0)),
    .op .none 4 (.buildS false 1 1 false [(.w (.string ⟨#[]⟩))] [(0, (.t 3))]),
    .call .none 5 (.f 32) [(.t 4)],
    .op .none 6 (.bin .eql (.t 5) (.c (.w (.int .i64 0)))),
    .op .none 2 (.mv (.t 6))]) <|
  .ret
theorem k97 : FnCode Tryz.prog 97 [] 7 [2] c97 := ⟨Tryz.f97, Tryz.func97, fun xs W => Tryz.call97 xs W, by kernel_rfl, by kernel_rfl, by kernel_rfl⟩

theorem fok97 (s : Bs) (hs : s.length ≤ 200000000000000) : FOk Tryz.prog 97 [.S s] [] (.B (decide (s.length ≤ 16) && sym0 s)) [] := by
  have h1 := fok32 [s] (by simp) (by simpa using hs)
  refine FOk.val k97 (by simp) (by simp) (by decide) ?_
  simp [c97]
  refine CallG.lent rfl rfl rfl rfl h1 rfl ?_
  simp
  refine Ends.v rfl ?_
  simp [vWord, longW, badW]
  by_cases h : 16 < s.length <;> cases hc : sym0 s <;> simp [h, hc] <;> omega

end Go.Proofs
