/- The walk. -/
import Derived.Test.YtphjjlhpepmofaaF14
import Derived.Test.YtphjjlhpepmofaaProg
import Derived.KernelRfl
set_option linter.all false
set_option maxHeartbeats 2000000
namespace Go.Proofs
open Go Go.AM
attribute [local irreducible] Run Ends
/-- ablaut/ablautlaw23.SpellPrices -/
def c4 : MC :=
  .seq (.reg false [.op .none 3 (.box false (.t 0)),
    .op .none 4 (.box false (.t 1)),
    .op .none 6 (.mv (.c (.w (.bool false))))]) <|
  .seq (.seq (.reg false [.op .none 17 (.ld true 5 (.t 3)),
    .call .none 18 (.f 11) [(.t 17)],
    .op .none 19 (.mv (.t 18)),
    .op (.some (19, false)) 20 (.iaA 2 1 (.t 4) (.c (.w (.int .i64 0)))),
    .op (.some (19, false)) 21 (.ld false 1 (.t 20)),
    .op (.some (19, false)) 22 (.iaA 2 1 (.t 4) (.c (.w (.int .i64 1)))),
    .op (.some (19, false)) 23 (.ld false 1 (.t 22)),
    .op (.some (19, false)) 24 (.buildS false 1 2 false [(.sl 1 [])] [(0, (.t 21)), (1, (.t 23))]),
    .call (.some (19, false)) 25 (.f 12) [(.t 24)],
    .op (.some (19, false)) 26 (.bin .gtr (.t 25) (.c (.w (.int .i64 100000)))),
    .op .none 27 (.pick (.t 19) (.c (.w (.bool true))) (.t 26))]) <|
  .cond (.t 27)
    (.seq (.reg false [.call .none 28 (.f 13) [],
      .op .none 6 (.mv (.t 28))]) <|
    .ret)
    (.skip)) <|
  .seq (.reg false [.op .none 30 (.ld true 5 (.t 3)),
    .op .none 31 (.iaA 2 1 (.t 4) (.c (.w (.int .i64 0)))),
    .op .none 32 (.ld false 1 (.t 31)),
    .op .none 33 (.iaA 2 1 (.t 4) (.c (.w (.int .i64 1)))),
    .op .none 34 (.ld false 1 (.t 33)),
    .call .none 35 (.f 14) [(.t 30), (.t 32), (.t 34)],
    .op .none 29 (.mv (.t 35)),
    .op .none 36 (.ext (.t 29) 0),
    .op .none 37 (.ext (.t 29) 1),
    .op .none 7 (.mv (.t 36)),
    .op .none 8 (.mv (.t 37))]) <|
  .seq (.reg false [.op .none 39 (.ld true 5 (.t 3)),
    .op .none 40 (.iaA 2 1 (.t 4) (.c (.w (.int .i64 0)))),
    .op .none 41 (.ld false 1 (.t 40)),
    .op .none 42 (.iaA 2 1 (.t 4) (.c (.w (.int .i64 1)))),
    .op .none 43 (.ld false 1 (.t 42)),
    .call .none 44 (.f 15) [(.t 39), (.t 41), (.t 43)],
    .op .none 38 (.mv (.t 44)),
    .op .none 45 (.ext (.t 38) 0),
    .op .none 46 (.ext (.t 38) 1),
    .op .none 9 (.mv (.t 45)),
    .op .none 10 (.mv (.t 46))]) <|
  .seq (.reg false [.op .none 48 (.ld true 5 (.t 3)),
    .op .none 49 (.iaA 2 1 (.t 4) (.c (.w (.int .i64 0)))),
    .op .none 50 (.ld false 1 (.t 49)),
    .op .none 51 (.iaA 2 1 (.t 4) (.c (.w (.int .i64 1)))),
    .op .none 52 (.ld false 1 (.t 51)),
    .op .none 53 (.mv (.t 2)),
    .call .none 54 (.f 16) [(.t 48), (.t 50), (.t 52), (.t 53)],
    .op .none 47 (.mv (.t 54)),
    .op .none 55 (.ext (.t 47) 0),
    .op .none 56 (.ext (.t 47) 1),
    .op .none 57 (.ext (.t 47) 2),
    .op .none 11 (.mv (.t 55)),
    .op .none 12 (.mv (.t 56)),
    .op .none 13 (.mv (.t 57))]) <|
  .seq (.reg false [.op .none 59 (.ld true 5 (.t 3)),
    .op .none 60 (.iaA 2 1 (.t 4) (.c (.w (.int .i64 0)))),
    .op .none 61 (.ld false 1 (.t 60)),
    .op .none 62 (.iaA 2 1 (.t 4) (.c (.w (.int .i64 1)))),
    .op .none 63 (.ld false 1 (.t 62)),
    .op .none 64 (.mv (.t 2)),
    .call .none 65 (.f 17) [(.t 59), (.t 61), (.t 63), (.t 64)],
    .op .none 58 (.mv (.t 65)),
    .op .none 66 (.ext (.t 58) 0),
    .op .none 67 (.ext (.t 58) 1),
    .op .none 68 (.ext (.t 58) 2),
    .op .none 14 (.mv (.t 66)),
    .op .none 15 (.mv (.t 67)),
    .op .none 16 (.mv (.t 68))]) <|
  .seq (.reg true [.op .none 69 (.ld true 5 (.t 3)),
    .call .none 70 (.f 18) [(.t 69)],
    .op .none 71 (.ld true 5 (.t 3)),
    .call .none 72 (.f 19) [(.t 71)],
    .op .none 73 (.bin .eql (.t 70) (.t 72)),
    .op .none 74 (.mv (.t 73)),
    .op (.some (74, true)) 75 (.mv (.t 7)),
    .op (.some (74, true)) 76 (.mv (.t 9)),
    .op (.some (74, true)) 77 (.bin .eql (.t 75) (.t 76)),
    .op .none 78 (.pick (.t 74) (.t 77) (.c (.w (.bool false)))),
    .op .none 79 (.mv (.t 78)),
    .op (.some (79, true)) 80 (.mv (.t 8)),
    .op (.some (79, true)) 81 (.mv (.t 10)),
    .op (.some (79, true)) 82 (.bin .eql (.t 80) (.t 81)),
    .op .none 83 (.pick (.t 79) (.t 82) (.c (.w (.bool false)))),
    .op .none 84 (.mv (.t 83)),
    .op (.some (84, true)) 85 (.mv (.t 11)),
    .op (.some (84, true)) 86 (.mv (.t 14)),
    .op (.some (84, true)) 87 (.eqb false (.t 85) (.t 86)),
    .op .none 88 (.pick (.t 84) (.t 87) (.c (.w (.bool false)))),
    .op .none 89 (.mv (.t 88)),
    .op (.some (89, true)) 90 (.mv (.t 12)),
    .op (.some (89, true)) 91 (.mv (.t 15)),
    .op (.some (89, true)) 92 (.bin .eql (.t 90) (.t 91)),
    .op .none 93 (.pick (.t 89) (.t 92) (.c (.w (.bool false)))),
    .op .none 94 (.mv (.t 93)),
    .op (.some (94, true)) 95 (.mv (.t 13)),
    .op (.some (94, true)) 96 (.mv (.t 16)),
    .op (.some (94, true)) 97 (.bin .eql (.t 95) (.t 96)),
    .op .none 98 (.pick (.t 94) (.t 97) (.c (.w (.bool false)))),
    .op .none 99 (.mv (.t 98)),
    .call (.some (99, true)) 100 (.f 13) [],
    .op .none 101 (.pick (.t 99) (.t 100) (.c (.w (.bool false)))),
    .op .none 6 (.mv (.t 101))]) <|
  .ret
theorem k4 : FnCode Try.prog 4 [] 102 [6] c4 := ⟨Try.f4, Try.func4, fun xs W => Try.call4 xs W, by kernel_rfl, by kernel_rfl, by kernel_rfl⟩

theorem spellPrices_ok (p : PricesT) (w : List Bs × List Bs × Unit) (n : Int) (hp : pricesC p) (hw : wordC w.1 ∧ wordC w.2.1 ∧ True) (hn : intC n) : FOk Try.prog 4 [.v (pricesV p), .v (.st [.word w.1, .word w.2.1]), .I n] [] (.B true) [] := by
  obtain ⟨a, b, u⟩ := w
  have ha : wordC a := hw.1
  have hb : wordC b := hw.2.1
  have h1 := fok11 p hp.s.1 hp.s.2
  have h2 := fok12 [a, b] (by simp [ha.s, hb.s]) (by simp)
  have hk := fok13
  have hP := fok14 p a b hp.s.1 ha.s hb.s
  have hQ := fok15 p a b hp.s.1 ha.s hb.s
  have hW := fok16 p a b n hp.s.1 ha.s hb.s
  have hX := fok17 p a b n hp.s.1 ha.s hb.s
  have hV := fok18 p hp.s.1
  have hU := fok19 p hp.s.1
  refine FOk.val k4 (by simp) (by simp) (by decide) ?_
  simp [c4, pricesV]
  refine CallG.lent rfl rfl rfl rfl h1 rfl ?_
  cases ho : overF p with
  | true =>
    simp
    refine CallG.lent rfl rfl rfl rfl hk rfl ?_
    simp
    exact Ends.v rfl (by simp)
  | false =>
    simp
    refine CallG.lent rfl rfl rfl rfl h2 rfl ?_
    simp
    refine ⟨fun _ => ?_, fun _ => ?_⟩
    · refine CallG.lent rfl rfl rfl rfl hk rfl ?_
      simp
      exact Ends.v rfl (by simp)
    refine CallG.lent rfl rfl rfl rfl hP rfl ?_
    simp
    refine CallG.lent rfl rfl rfl rfl hQ rfl ?_
    simp
    refine CallG.lent rfl rfl rfl rfl hW rfl ?_
    simp
    refine CallG.lent rfl rfl rfl rfl hX rfl ?_
    simp
    refine CallG.lent rfl rfl rfl rfl hV rfl ?_
    simp
    refine CallG.lent rfl rfl rfl rfl hU rfl ?_
    simp
    refine CallG.lent rfl rfl rfl rfl hk rfl ?_
    simp
    exact Ends.v rfl (by simp)

end Go.Proofs
