/- The walk. -/
import Derived.Test.YtphjjlhpepmofaaF1
import Derived.Test.YtphjjlhpepmofaaProg
import Derived.KernelRfl
set_option linter.all false
set_option maxHeartbeats 2000000
namespace Go.Proofs
open Go Go.AM
attribute [local irreducible] Run Ends
/-- ablaut/spell.isSymbol -/
def c40 : MC :=
  .seq (.reg false [.op .none 2 (.mv (.c (.w (.bool false))))]) <|
  .seq (.reg false [.op .none 3 (.mv (.t 0)),
    .op .none 4 (.buildS false 1 1 false [(.w (.string ⟨#[]⟩))] [(0, (.t 3))]),
    .call .none 5 (.f 46) [(.t 4)],
    .op .none 6 (.bin .eql (.t 5) (.c (.w (.int .i64 0)))),
    .op .none 2 (.mv (.t 6))]) <|
  .ret
theorem k40 : FnCode Try.prog 40 [] 7 [2] c40 := ⟨Try.f40, Try.func40, fun xs W => Try.call40 xs W, by kernel_rfl, by kernel_rfl, by kernel_rfl⟩

theorem fok40 (s : Bs) (hs : s.length ≤ 200000000000000) : FOk Try.prog 40 [.S s] [] (.B (decide (s.length ≤ 16) && sym0 s)) [] := by
  have h1 := fok46 [s] (by simp) (by simpa using hs)
  refine FOk.val k40 (by simp) (by simp) (by decide) ?_
  simp [c40]
  refine CallG.lent rfl rfl rfl rfl h1 rfl ?_
  simp
  refine Ends.v rfl ?_
  simp [vWord, longW, badW]
  by_cases h : 16 < s.length <;> cases hc : sym0 s <;> simp [h, hc] <;> omega

end Go.Proofs
