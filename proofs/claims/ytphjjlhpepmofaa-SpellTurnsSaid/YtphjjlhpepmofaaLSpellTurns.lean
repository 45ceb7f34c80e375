/- The walk. -/
import Derived.Test.YtphjjlhpepmofaaF7
import Derived.Test.YtphjjlhpepmofaaProg
import Derived.KernelRfl
set_option linter.all false
set_option maxHeartbeats 2000000
namespace Go.Proofs
open Go Go.AM
attribute [local irreducible] Run Ends
/-- ablaut/ablautlaw23.SpellTurns -/
def c3 : MC :=
  .seq (.reg false [.op .none 3 (.box (.t 0)),
    .op .none 6 (.mv (.c (.w (.bool false))))]) <|
  .seq (.seq (.reg false [.op .none 13 (.ld true 5 (.t 3)),
    .call .none 14 (.f 11) [(.t 13)],
    .op .none 15 (.mv (.t 14)),
    .op (.some (15, false)) 16 (.mv (.t 1)),
    .op (.some (15, false)) 17 (.mv (.t 2)),
    .op (.some (15, false)) 18 (.buildS 1 2 false [(.sl 1 [])] [(0, (.t 16)), (1, (.t 17))]),
    .call (.some (15, false)) 19 (.f 12) [(.t 18)],
    .op (.some (15, false)) 20 (.bin .gtr (.t 19) (.c (.w (.int .i64 100000)))),
    .op .none 21 (.pick (.t 15) (.c (.w (.bool true))) (.t 20))]) <|
  .cond (.t 21)
    (.seq (.reg false [.call .none 22 (.f 13) [],
      .op .none 6 (.mv (.t 22))]) <|
    .ret)
    (.skip)) <|
  .seq (.reg false [.op .none 24 (.ld true 5 (.t 3)),
    .op .none 25 (.mv (.t 1)),
    .op .none 26 (.mv (.t 1)),
    .call .none 27 (.f 14) [(.t 24), (.t 25), (.t 26)],
    .op .none 23 (.mv (.t 27)),
    .op .none 28 (.ext (.t 23) 0),
    .op .none 29 (.ext (.t 23) 1),
    .op .none 7 (.mv (.t 28)),
    .op .none 8 (.mv (.t 29))]) <|
  .seq (.seq (.reg false [.op .none 30 (.mv (.t 8)),
    .op .none 31 (.bin .eql (.t 30) (.c (.w (.int .i64 0)))),
    .op .none 32 (.mv (.t 31)),
    .op (.some (32, true)) 33 (.mv (.t 7)),
    .op (.some (32, true)) 34 (.bin .neq (.t 33) (.c (.w (.int .i64 0)))),
    .op .none 35 (.pick (.t 32) (.t 34) (.c (.w (.bool false))))]) <|
  .cond (.t 35)
    (.seq (.reg false [.op .none 6 (.mv (.c (.w (.bool false))))]) <|
    .ret)
    (.skip)) <|
  .seq (.reg false [.op .none 36 (.fa 0 (.t 3)),
    .op .none 37 (.ld false 1 (.t 36)),
    .op .none 38 (.fa 1 (.t 3)),
    .store .none false 1 (.t 38) (.t 37)]) <|
  .seq (.reg false [.op .none 40 (.ld true 5 (.t 3)),
    .op .none 41 (.mv (.t 1)),
    .op .none 42 (.mv (.t 2)),
    .call .none 43 (.f 14) [(.t 40), (.t 41), (.t 42)],
    .op .none 39 (.mv (.t 43)),
    .op .none 44 (.ext (.t 39) 0),
    .op .none 45 (.ext (.t 39) 1),
    .op .none 9 (.mv (.t 44)),
    .op .none 10 (.mv (.t 45))]) <|
  .seq (.reg false [.op .none 47 (.ld true 5 (.t 3)),
    .op .none 48 (.mv (.t 2)),
    .op .none 49 (.mv (.t 1)),
    .call .none 50 (.f 14) [(.t 47), (.t 48), (.t 49)],
    .op .none 46 (.mv (.t 50)),
    .op .none 51 (.ext (.t 46) 0),
    .op .none 52 (.ext (.t 46) 1),
    .op .none 11 (.mv (.t 51)),
    .op .none 12 (.mv (.t 52))]) <|
  .seq (.reg false [.op .none 53 (.mv (.t 10)),
    .op .none 54 (.bin .neq (.t 53) (.c (.w (.int .i64 0)))),
    .op .none 55 (.mv (.t 54)),
    .op (.some (55, false)) 56 (.mv (.t 12)),
    .op (.some (55, false)) 57 (.bin .neq (.t 56) (.c (.w (.int .i64 0)))),
    .op .none 58 (.pick (.t 55) (.c (.w (.bool true))) (.t 57)),
    .op .none 59 (.mv (.t 58)),
    .op (.some (59, false)) 60 (.mv (.t 9)),
    .op (.some (59, false)) 61 (.mv (.t 11)),
    .op (.some (59, false)) 62 (.bin .eql (.t 60) (.t 61)),
    .op .none 63 (.pick (.t 59) (.c (.w (.bool true))) (.t 62)),
    .op .none 64 (.mv (.t 63)),
    .call (.some (64, true)) 65 (.f 13) [],
    .op .none 66 (.pick (.t 64) (.t 65) (.c (.w (.bool false)))),
    .op .none 6 (.mv (.t 66))]) <|
  .ret
theorem k3 : FnCode Try.prog 3 [] 67 [6] c3 := ⟨Try.f3, Try.func3, fun xs W => Try.call3 xs W, by kernel_rfl, by kernel_rfl, by kernel_rfl⟩

theorem spellTurns_ok (p : PricesT) (a b : List Bs) (hp : pricesC p) (ha : wordC a) (hb : wordC b) : FOk Try.prog 3 [.v (pricesV p), .v (.word a), .v (.word b)] [] (.B true) [] := by
  have h1 := fok11 p hp.s.1 hp.s.2
  have h2 := fok12 [a, b] (by simp [ha.s, hb.s]) (by simp)
  have hk := fok13
  have hP := fok14 p a a hp.s.1 ha.s ha.s
  obtain ⟨pd, pp, ps, pc, l, u⟩ := p
  have hp' : prS (pd, pd, ps, pc, l, u) := hp.s.1
  have hQ := fok14 (pd, pd, ps, pc, l, u) a b hp' ha.s hb.s
  have hR := fok14 (pd, pd, ps, pc, l, u) b a hp' hb.s ha.s
  have hc : ∀ a b, vChecked (pd, pd, ps, pc, l, u) [a, b] = 0 → pr (pd, pd, ps, pc, l, u) a b = pr (pd, pd, ps, pc, l, u) b a := by
    intro a b h
    exact pr_turn (vChecked_ok h).1 rfl _ a b (Nat.lt_succ_self _)
  refine FOk.val k3 (by simp) (by simp) (by decide) ?_
  simp [c3, pricesV]
  refine CallG.lent rfl rfl rfl rfl h1 rfl ?_
  cases ho : overF (pd, pp, ps, pc, l, u) with
  | true =>
    simp
    refine CallG.lent rfl rfl rfl rfl hk rfl ?_
    simp
    exact Ends.v rfl (by simp)
  | false =>
    simp
    refine CallG.lent rfl rfl rfl rfl h2 rfl ?_
    simp
    refine ⟨fun _ => ?_, fun _ => ?_⟩
    · refine CallG.lent rfl rfl rfl rfl hk rfl ?_
      simp
      exact Ends.v rfl (by simp)
    refine CallG.lent rfl rfl rfl rfl hP rfl ?_
    have hz : (priceF (pd, pp, ps, pc, l, u) a a).2 = 0 → (priceF (pd, pp, ps, pc, l, u) a a).1 = 0 := by
      unfold priceF; split
      · rename_i h; intro _; exact pr_self (vChecked_ok h).1 a
      · intro _; rfl
    generalize priceF (pd, pp, ps, pc, l, u) a a = P at hz ⊢
    obtain ⟨n, e⟩ := P
    simp only at hz
    have hS : (priceF (pd, pd, ps, pc, l, u) a b).2 = 0 → (priceF (pd, pd, ps, pc, l, u) b a).2 = 0 → (priceF (pd, pd, ps, pc, l, u) a b).1 = (priceF (pd, pd, ps, pc, l, u) b a).1 := by
      unfold priceF
      split
      · rename_i h
        split
        · intro _ _; exact hc a b h
        · rename_i h2; intro _ q; exact absurd q h2
      · rename_i h; intro q; exact absurd q h
    by_cases he : e = 0
    · have hn := hz he
      subst he hn
      simp
      refine CallG.lent rfl rfl rfl rfl hQ rfl ?_
      simp
      refine CallG.lent rfl rfl rfl rfl hR rfl ?_
      simp
      refine ⟨fun q1 => ⟨fun q2 => ⟨fun q3 => ?_, fun q3 => absurd (hS q1 q2) q3⟩, fun q2 => ?_⟩, fun q1 => ?_⟩
      all_goals
        refine CallG.lent rfl rfl rfl rfl hk rfl ?_
        simp
        exact Ends.v rfl (by simp)
    · simp [he]
      refine CallG.lent rfl rfl rfl rfl hQ rfl ?_
      simp
      refine CallG.lent rfl rfl rfl rfl hR rfl ?_
      simp
      refine ⟨fun q1 => ⟨fun q2 => ⟨fun q3 => ?_, fun q3 => absurd (hS q1 q2) q3⟩, fun q2 => ?_⟩, fun q1 => ?_⟩
      all_goals
        refine CallG.lent rfl rfl rfl rfl hk rfl ?_
        simp
        exact Ends.v rfl (by simp)

end Go.Proofs
