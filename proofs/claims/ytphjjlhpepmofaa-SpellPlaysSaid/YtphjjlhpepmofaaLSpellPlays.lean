/- The walk. -/
import Derived.Test.YtphjjlhpepmofaaF9
import Derived.Test.YtphjjlhpepmofaaF7
import Derived.Test.YtphjjlhpepmofaaProg
import Derived.KernelRfl
set_option linter.all false
set_option maxHeartbeats 2000000
namespace Go.Proofs
open Go Go.AM
attribute [local irreducible] Run Ends
/-- ablaut/ablautlaw23.SpellPlays -/
def c6 : MC :=
  .seq (.reg false [.op .none 4 (.mv (.c (.w (.bool false))))]) <|
  .seq (.reg false [.op .none 11 (.mv (.t 1)),
    .op .none 12 (.len false (.t 11)),
    .op .none 5 (.mv (.t 12))]) <|
  .seq (.seq (.reg false [.op .none 6 (.mv (.c (.w (.int .i64 0))))]) <|
  .block 0 <|
    .loop <|
      .seq (.seq (.reg false [.op .none 13 (.mv (.t 6)),
        .op .none 14 (.mv (.t 1)),
        .op .none 15 (.len false (.t 14)),
        .op .none 16 (.bin .lss (.t 13) (.t 15)),
        .op .none 17 (.mv (.t 16)),
        .op (.some (17, true)) 18 (.mv (.t 5)),
        .op (.some (17, true)) 19 (.bin .leq (.t 18) (.c (.w (.int .i64 100000)))),
        .op .none 20 (.pick (.t 17) (.t 19) (.c (.w (.bool false))))]) <|
      .cond (.t 20)
        (.skip)
        (.exit 0)) <|
      .seq (.block 1 <|
        .reg false [.op .none 23 (.mv (.t 5)),
          .op .none 24 (.mv (.t 1)),
          .op .none 25 (.mv (.t 6)),
          .op .none 26 (.ia 3 (.t 24) (.t 25)),
          .op .none 27 (.fa 2 (.t 26)),
          .op .none 28 (.ld false 1 (.t 27)),
          .op .none 29 (.len true (.t 28)),
          .op .none 30 (.bin .add (.t 23) (.t 29)),
          .op .none 5 (.mv (.t 30))]) <|
      .reg false [.op .none 21 (.mv (.t 6)),
        .op .none 22 (.bin .add (.t 21) (.c (.w (.int .i64 1)))),
        .op .none 6 (.mv (.t 22))]) <|
  .seq (.seq (.reg false [.op .none 31 (.mv (.t 5)),
    .op .none 32 (.bin .gtr (.t 31) (.c (.w (.int .i64 100000)))),
    .op .none 33 (.mv (.t 32)),
    .op (.some (33, false)) 34 (.mv (.t 0)),
    .op (.some (33, false)) 35 (.buildS 1 1 false [(.sl 1 [])] [(0, (.t 34))]),
    .call (.some (33, false)) 36 (.f 12) [(.t 35)],
    .op (.some (33, false)) 37 (.bin .gtr (.t 36) (.c (.w (.int .i64 100000)))),
    .op .none 38 (.pick (.t 33) (.c (.w (.bool true))) (.t 37))]) <|
  .cond (.t 38)
    (.seq (.reg false [.call .none 39 (.f 13) [],
      .op .none 4 (.mv (.t 39))]) <|
    .ret)
    (.skip)) <|
  .seq (.reg false [.op .none 41 (.mv (.t 0)),
    .op .none 42 (.mv (.t 1)),
    .call .none 43 (.f 23) [(.t 41), (.t 42)],
    .op .none 40 (.mv (.t 43)),
    .op .none 44 (.ext (.t 40) 0),
    .op .none 45 (.ext (.t 40) 1),
    .op .none 7 (.mv (.t 44)),
    .op .none 8 (.mv (.t 45))]) <|
  .seq (.reg false [.op .none 47 (.mv (.t 0)),
    .op .none 48 (.mv (.t 1)),
    .call .none 49 (.f 24) [(.t 47), (.t 48)],
    .op .none 46 (.mv (.t 49)),
    .op .none 50 (.ext (.t 46) 0),
    .op .none 51 (.ext (.t 46) 1),
    .op .none 9 (.mv (.t 50)),
    .op .none 10 (.mv (.t 51))]) <|
  .seq (.reg false [.op .none 52 (.mv (.t 7)),
    .op .none 53 (.mv (.t 9)),
    .call .none 54 (.f 25) [(.t 52), (.t 53)],
    .op .none 55 (.mv (.t 54)),
    .op (.some (55, true)) 56 (.mv (.t 8)),
    .op (.some (55, true)) 57 (.mv (.t 10)),
    .op (.some (55, true)) 58 (.bin .eql (.t 56) (.t 57)),
    .op .none 59 (.pick (.t 55) (.t 58) (.c (.w (.bool false)))),
    .op .none 60 (.mv (.t 59)),
    .call (.some (60, true)) 61 (.f 13) [],
    .op .none 62 (.pick (.t 60) (.t 61) (.c (.w (.bool false)))),
    .op .none 4 (.mv (.t 62))]) <|
  .ret
theorem k6 : FnCode Try.prog 6 [] 63 [4] c6 := ⟨Try.f6, Try.func6, fun xs W => Try.call6 xs W, by kernel_rfl, by kernel_rfl, by kernel_rfl⟩

def ovE : List EditT → Nat → Nat
  | [], n => n
  | x :: l, n => if n ≤ 100000 then ovE l (n + x.2.2.1.length) else n
def editC (e : EditT) : Prop := intC e.1 ∧ intC e.2.1 ∧ strC e.2.2.1 ∧ True
theorem playF_len (a : List Bs) (l : List EditT) : (playF a l).1.length ≤ 60 := by
  unfold playF
  split
  · split
    · simp
    · split
      · simp
      · split
        · split
          · simp
          · simp; omega
        · simp
  · simp
theorem spellPlays_ok (a : List Bs) (l : List EditT) (ha : wordC a) (hl : l.length * 32 ≤ 140737488351232 ∧ ∀ e ∈ l, editC e) : FOk Try.prog 6 [.v (.word a), .v (editsV l)] [] (.B true) [] := by
  have hS : editS l := ⟨by omega, fun e he => by
    have := (hl.2 e he).2.2.1
    unfold strC at this; omega⟩
  have hlen := hl.1
  have hk := fok13
  have hb := fok12 [a] (by simp [ha.s]) (by simp)
  have hP := fok23 a l ha.s hS
  have hQ := fok24 a l ha.s hS
  have hE := fok25 (playF a l).1 (playF a l).1 (by have := playF_len a l; omega) (by have := playF_len a l; omega)
  refine FOk.val k6 (by simp) (by simp) (by decide) ?_
  simp [c6, editsV]
  refine Run.loopA (ι := Nat × Nat) [] (fun q => q.1 ≤ l.length) (fun q => ⟨[(0, .v (.word a)), (1, .v (.sl 3 (l.map editV))), (5, .I q.2), (6, .I q.1)], [], 1024⟩) (fun q => l.length - q.1) (0, l.length) (by decide) (by simp) (by simp) ?_
  rintro ⟨i, n⟩ hi ih
  simp only at hi ih ⊢
  have fin : ∀ s : AM.St, True := fun _ => trivial
  by_cases h : i < l.length ∧ n ≤ 100000
  · obtain ⟨h, hn⟩ := h
    have hs := hS.2 l[i] (List.getElem_mem h)
    simp (disch := omega) [h, hn, wrap_i64, editV]
    exact ih (i + 1, n + l[i].2.2.1.length) _ (by simp; omega) (by simp; omega) (by simp)
  · have tail : True := trivial
    by_cases hn : n ≤ 100000
    · have h' : ¬ i < l.length := by omega
      have hn' : ¬ 100000 < n := by omega
      simp (disch := omega) [h', hn, hn']
      refine CallG.lent rfl rfl rfl rfl hb rfl ?_
      simp
      refine ⟨fun _ => ?_, fun _ => ?_⟩
      · refine CallG.lent rfl rfl rfl rfl hk rfl ?_
        simp
        exact Ends.v rfl (by simp)
      refine CallG.plain rfl rfl rfl rfl hP (by simp) (by simp) ?_
      simp
      refine CallG.plain rfl rfl rfl rfl hQ (by simp) (by simp) ?_
      simp
      refine CallG.lent rfl rfl rfl rfl hE rfl ?_
      simp
      refine CallG.lent rfl rfl rfl rfl hk rfl ?_
      simp
      exact Ends.v rfl (by simp)
    · have hn' : 100000 < n := by omega
      by_cases h' : i < l.length
      · simp (disch := omega) [h', hn, hn']
        refine CallG.lent rfl rfl rfl rfl hk rfl ?_
        simp
        exact Ends.v rfl (by simp)
      · simp (disch := omega) [h', hn, hn']
        refine CallG.lent rfl rfl rfl rfl hk rfl ?_
        simp
        exact Ends.v rfl (by simp)

end Go.Proofs
