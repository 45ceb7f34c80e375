/- The walk. -/
import Derived.Test.YtphjjlhpepmofaaF15
import Derived.Test.YtphjjlhpepmofaaProg
import Derived.KernelRfl
set_option linter.all false
set_option maxHeartbeats 2000000
namespace Go.Proofs
open Go Go.AM
attribute [local irreducible] Run Ends
/-- ablaut/ablautlaw23.SpellEdits -/
def c5 : MC :=
  .seq (.reg false [.op .none 3 (.box false (.t 0)),
    .op .none 6 (.mv (.c (.w (.bool false))))]) <|
  .seq (.seq (.reg false [.op .none 11 (.ld true 5 (.t 3)),
    .call .none 12 (.f 11) [(.t 11)],
    .op .none 13 (.mv (.t 12)),
    .op (.some (13, false)) 14 (.mv (.t 1)),
    .op (.some (13, false)) 15 (.mv (.t 2)),
    .op (.some (13, false)) 16 (.buildS false 1 2 false [(.sl 1 [])] [(0, (.t 14)), (1, (.t 15))]),
    .call (.some (13, false)) 17 (.f 12) [(.t 16)],
    .op (.some (13, false)) 18 (.bin .gtr (.t 17) (.c (.w (.int .i64 100000)))),
    .op .none 19 (.pick (.t 13) (.c (.w (.bool true))) (.t 18))]) <|
  .cond (.t 19)
    (.seq (.reg false [.call .none 20 (.f 13) [],
      .op .none 6 (.mv (.t 20))]) <|
    .ret)
    (.skip)) <|
  .seq (.reg false [.op .none 22 (.ld true 5 (.t 3)),
    .op .none 23 (.mv (.t 1)),
    .op .none 24 (.mv (.t 2)),
    .call .none 25 (.f 20) [(.t 22), (.t 23), (.t 24)],
    .op .none 21 (.mv (.t 25)),
    .op .none 26 (.ext (.t 21) 0),
    .op .none 27 (.ext (.t 21) 1),
    .op .none 7 (.mv (.t 26)),
    .op .none 8 (.mv (.t 27))]) <|
  .seq (.reg false [.op .none 29 (.ld true 5 (.t 3)),
    .op .none 30 (.mv (.t 1)),
    .op .none 31 (.mv (.t 2)),
    .call .none 32 (.f 21) [(.t 29), (.t 30), (.t 31)],
    .op .none 28 (.mv (.t 32)),
    .op .none 33 (.ext (.t 28) 0),
    .op .none 34 (.ext (.t 28) 1),
    .op .none 9 (.mv (.t 33)),
    .op .none 10 (.mv (.t 34))]) <|
  .seq (.reg false [.op .none 35 (.mv (.t 7)),
    .op .none 36 (.mv (.t 9)),
    .call .none 37 (.f 22) [(.t 35), (.t 36)],
    .op .none 38 (.mv (.t 37)),
    .op (.some (38, true)) 39 (.mv (.t 8)),
    .op (.some (38, true)) 40 (.mv (.t 10)),
    .op (.some (38, true)) 41 (.bin .eql (.t 39) (.t 40)),
    .op .none 42 (.pick (.t 38) (.t 41) (.c (.w (.bool false)))),
    .op .none 43 (.mv (.t 42)),
    .call (.some (43, true)) 44 (.f 13) [],
    .op .none 45 (.pick (.t 43) (.t 44) (.c (.w (.bool false)))),
    .op .none 6 (.mv (.t 45))]) <|
  .ret
theorem k5 : FnCode Try.prog 5 [] 46 [6] c5 := ⟨Try.f5, Try.func5, fun xs W => Try.call5 xs W, by kernel_rfl, by kernel_rfl, by kernel_rfl⟩

theorem editsF_len (p : PricesT) (a b : List Bs) : (editsF p a b).1.length ≤ 200000000000000 := by
  unfold editsF
  split
  · rename_i h
    obtain ⟨_, h2⟩ := vChecked_ok h
    have h3 := h2 a (by simp); have h4 := h2 b (by simp)
    have := edL_len p (a.length + b.length) 0 a b
    simp only [edF]; omega
  · simp
theorem spellEdits_ok (p : PricesT) (a b : List Bs) (hp : pricesC p) (ha : wordC a) (hb : wordC b) : FOk Try.prog 5 [.v (pricesV p), .v (.word a), .v (.word b)] [] (.B true) [] := by
  have h1 := fok11 p hp.s.1 hp.s.2
  have h2 := fok12 [a, b] (by simp [ha.s, hb.s]) (by simp)
  have hk := fok13
  have hP := fok20 p a b hp.s.1 ha.s hb.s
  have hQ := fok21 p a b hp.s.1 ha.s hb.s
  have hS := fok22 (editsF p a b).1 (editsF_len p a b)
  refine FOk.val k5 (by simp) (by simp) (by decide) ?_
  simp [c5, pricesV]
  refine CallG.lent rfl rfl rfl rfl h1 rfl ?_
  cases ho : overF p with
  | true =>
    simp
    refine CallG.lent rfl rfl rfl rfl hk rfl ?_
    simp
    exact Ends.v rfl (by simp)
  | false =>
    simp
    refine CallG.lent rfl rfl rfl rfl h2 rfl ?_
    simp
    refine ⟨fun _ => ?_, fun _ => ?_⟩
    · refine CallG.lent rfl rfl rfl rfl hk rfl ?_
      simp
      exact Ends.v rfl (by simp)
    refine CallG.plain rfl rfl rfl rfl hP (by simp) (by simp) ?_
    simp
    refine CallG.plain rfl rfl rfl rfl hQ (by simp) (by simp) ?_
    simp
    refine CallG.lent rfl rfl rfl rfl hS rfl ?_
    simp
    refine CallG.lent rfl rfl rfl rfl hk rfl ?_
    simp
    exact Ends.v rfl (by simp)

end Go.Proofs
