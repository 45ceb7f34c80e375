/- The walk. -/
import Derived.Test.YtlncfkgodioocaaAMY
import Derived.Test.YtlncfkgodioocaaQ2a
import Derived.Test.YtlncfkgodioocaaProg
import Derived.KernelRfl
set_option linter.all false
set_option maxHeartbeats 2000000
namespace Go.Proofs
open Go Go.AM
attribute [local irreducible] Run Ends
/-- ablaut/ablautlaw01.known -/
def c14 : MC :=
  .seq (.reg false [.op .none 0 (.mv (.c (.w (.bool false))))]) <|
  .seq (.reg false [.op .none 4 (.buildS false 1 4 false [(.w (.string ⟨#[]⟩))] [(0, (.c (.w (.string ⟨#[99]⟩)))), (1, (.c (.w (.string ⟨#[97]⟩)))), (2, (.c (.w (.string ⟨#[116]⟩)))), (3, (.c (.w (.string ⟨#[43, 80, 108]⟩))))]),
    .call .none 5 (.f 24) [(.t 4)],
    .op .none 3 (.mv (.t 5)),
    .op .none 6 (.ext (.t 3) 0),
    .op .none 7 (.ext (.t 3) 1),
    .op .none 1 (.mv (.t 6)),
    .op .none 2 (.mv (.t 7))]) <|
  .seq (.reg false [.op .none 8 (.mv (.t 1)),
    .op .none 9 (.bin .eql (.t 8) (.c (.w (.string ⟨#[99, 97, 116, 60, 43, 80, 108, 62]⟩)))),
    .op .none 10 (.mv (.t 9)),
    .op (.some (10, true)) 11 (.mv (.t 2)),
    .op (.some (10, true)) 12 (.bin .eql (.t 11) (.c (.w (.int .i64 0)))),
    .op .none 13 (.pick (.t 10) (.t 12) (.c (.w (.bool false)))),
    .op .none 0 (.mv (.t 13))]) <|
  .ret
theorem k14 : FnCode Try.prog 14 [] 14 [0] c14 := ⟨Try.f14, Try.func14, fun xs W => Try.call14 xs W, by kernel_rfl, by kernel_rfl, by kernel_rfl⟩

theorem known_f : Ytlncfkgodioocaa.P.ablautlaw01_known.f = some true := by
  simp [Ytlncfkgodioocaa.P.ablautlaw01_known.f, Ytlncfkgodioocaa.P.syms_Text.f, Ytlncfkgodioocaa.P.vWord, Ytlncfkgodioocaa.P.isLong, Ytlncfkgodioocaa.P.isSym, Ytlncfkgodioocaa.P.okB, Ytlncfkgodioocaa.P.written, Ytlncfkgodioocaa.P.wr1, Lib.toList_data, Ytlncfkgodioocaa.P.mw_size_mk]
/-- The document's example; how many draws it takes is not told. -/
theorem fok14 : @FOk ⟨False⟩ Try.prog 14 [] [] (.B true) [] := by
  obtain ⟨fn, _, h2, _⟩ := k14
  refine ⟨h2, fun W ok0 vals hdr ow hm hv => ?_⟩
  cases vals with
  | cons v vs => simp [RepAs] at hv
  | nil =>
    refine (Ytlncfkgodioocaa.P.ablautlaw01_known.calls true W known_f).mono ?_
    rintro e W' ⟨rfl, hB⟩
    refine ⟨.bool true, hdr, ow, rfl, ?_, ?_, by simp [find]⟩
    · exact @Mem.mk ⟨False⟩ _ _ _ _ _ (fun id e h => by simp [find] at h) (fun id id' e e' b h => by simp [find] at h) (fun id e b h => by simp [find] at h) hB.size (fun b hb _ => hB.block b hb) hB.os hB.tape ⟨hB.output, fun h => h.elim⟩
    · simp only [RepA]; exact RepV.w rfl

end Go.Proofs
