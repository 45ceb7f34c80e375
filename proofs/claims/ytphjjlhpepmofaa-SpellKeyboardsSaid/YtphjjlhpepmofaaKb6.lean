/- The walk. -/
import Derived.Test.YtphjjlhpepmofaaKb5
import Derived.Test.YtphjjlhpepmofaaF7
import Derived.Test.YtphjjlhpepmofaaProg
import Derived.KernelRfl
set_option linter.all false
set_option maxHeartbeats 2000000
namespace Go.Proofs
open Go Go.AM
attribute [local irreducible] Run Ends
/-- ablaut/ablautref23.SameNear -/
def c32 : MC :=
  .seq (.reg false [.op .none 4 (.mv (.c (.w (.bool false))))]) <|
  .seq (.seq (.reg false [.op .none 6 (.mv (.t 0)),
    .op .none 7 (.len false (.t 6)),
    .op .none 8 (.mv (.t 1)),
    .op .none 9 (.len false (.t 8)),
    .op .none 10 (.bin .neq (.t 7) (.t 9))]) <|
  .cond (.t 10)
    (.seq (.reg false [.op .none 4 (.mv (.c (.w (.bool false))))]) <|
    .ret)
    (.skip)) <|
  .seq (.seq (.reg false [.op .none 5 (.mv (.c (.w (.int .i64 0))))]) <|
  .block 0 <|
    .loop <|
      .seq (.seq (.reg false [.op .none 11 (.mv (.t 5)),
        .op .none 12 (.mv (.t 0)),
        .op .none 13 (.len false (.t 12)),
        .op .none 14 (.bin .lss (.t 11) (.t 13))]) <|
      .cond (.t 14)
        (.skip)
        (.exit 0)) <|
      .seq (.block 1 <|
        .seq (.reg true [.op .none 17 (.mv (.t 0)),
          .op .none 18 (.mv (.t 5)),
          .op .none 19 (.ia 3 (.t 17) (.t 18)),
          .op .none 20 (.ld true 3 (.t 19)),
          .op .none 21 (.mv (.t 1)),
          .op .none 22 (.mv (.t 5)),
          .op .none 23 (.ia 3 (.t 21) (.t 22)),
          .op .none 24 (.ld true 3 (.t 23)),
          .op .none 25 (.eqS true [false, false, true] (.t 20) (.t 24))]) <|
        .cond (.t 25)
          (.seq (.reg false [.op .none 4 (.mv (.c (.w (.bool false))))]) <|
          .ret)
          (.skip)) <|
      .reg false [.op .none 15 (.mv (.t 5)),
        .op .none 16 (.bin .add (.t 15) (.c (.w (.int .i64 1)))),
        .op .none 5 (.mv (.t 16))]) <|
  .seq (.reg false [.op .none 4 (.mv (.c (.w (.bool true))))]) <|
  .ret
theorem k32 : FnCode Try.prog 32 [] 26 [4] c32 := ⟨Try.f32, Try.func32, fun xs W => Try.call32 xs W, by kernel_rfl, by kernel_rfl, by kernel_rfl⟩

/-- ablaut/ablautlaw23.SpellKeyboards -/
def c9 : MC :=
  .seq (.reg false [.op .none 4 (.mv (.c (.w (.bool false))))]) <|
  .seq (.seq (.reg false [.op .none 9 (.mv (.t 0)),
    .op .none 10 (.len false (.t 9)),
    .op .none 11 (.bin .gtr (.t 10) (.c (.w (.int .i64 100000)))),
    .op .none 12 (.mv (.t 11)),
    .op (.some (12, false)) 13 (.mv (.t 0)),
    .call (.some (12, false)) 14 (.f 12) [(.t 13)],
    .op (.some (12, false)) 15 (.bin .gtr (.t 14) (.c (.w (.int .i64 100000)))),
    .op .none 16 (.pick (.t 12) (.c (.w (.bool true))) (.t 15))]) <|
  .cond (.t 16)
    (.seq (.reg false [.call .none 17 (.f 13) [],
      .op .none 4 (.mv (.t 17))]) <|
    .ret)
    (.skip)) <|
  .seq (.reg false [.op .none 19 (.mv (.t 0)),
    .op .none 20 (.mv (.t 1)),
    .call .none 21 (.f 30) [(.t 19), (.t 20)],
    .op .none 18 (.mv (.t 21)),
    .op .none 22 (.ext (.t 18) 0),
    .op .none 23 (.ext (.t 18) 1),
    .op .none 5 (.mv (.t 22)),
    .op .none 6 (.mv (.t 23))]) <|
  .seq (.reg false [.op .none 25 (.mv (.t 0)),
    .op .none 26 (.mv (.t 1)),
    .call .none 27 (.f 31) [(.t 25), (.t 26)],
    .op .none 24 (.mv (.t 27)),
    .op .none 28 (.ext (.t 24) 0),
    .op .none 29 (.ext (.t 24) 1),
    .op .none 7 (.mv (.t 28)),
    .op .none 8 (.mv (.t 29))]) <|
  .seq (.reg false [.op .none 30 (.mv (.t 5)),
    .op .none 31 (.mv (.t 7)),
    .call .none 32 (.f 32) [(.t 30), (.t 31)],
    .op .none 33 (.mv (.t 32)),
    .op (.some (33, true)) 34 (.mv (.t 6)),
    .op (.some (33, true)) 35 (.mv (.t 8)),
    .op (.some (33, true)) 36 (.bin .eql (.t 34) (.t 35)),
    .op .none 37 (.pick (.t 33) (.t 36) (.c (.w (.bool false)))),
    .op .none 38 (.mv (.t 37)),
    .call (.some (38, true)) 39 (.f 13) [],
    .op .none 40 (.pick (.t 38) (.t 39) (.c (.w (.bool false)))),
    .op .none 4 (.mv (.t 40))]) <|
  .ret
theorem k9 : FnCode Try.prog 9 [] 41 [4] c9 := ⟨Try.f9, Try.func9, fun xs W => Try.call9 xs W, by kernel_rfl, by kernel_rfl, by kernel_rfl⟩

theorem fok32 (l : List NearT) (hl : l.length ≤ 200000000000000) : FOk Try.prog 32 [.v (.sl 3 (l.map nearV)), .v (.sl 3 (l.map nearV))] [] (.B true) [] := by
  refine FOk.val k32 (by simp) (by simp) (by decide) ?_
  simp [c32]
  refine Run.loopA (ι := Nat) [] (fun i => i ≤ l.length) (fun i => ⟨[(0, .v (.sl 3 (l.map nearV))), (1, .v (.sl 3 (l.map nearV))), (5, .I i)], [], 1024⟩) (fun i => l.length - i) 0 (by decide) (by simp) (by simp) ?_
  rintro i hi ih
  by_cases h : i < l.length
  · simp (disch := omega) [h, wrap_i64, nearV]
    exact ih (i + 1) _ (by omega) (by omega) (by simp)
  · simp (disch := omega) [h, wrap_i64]
    exact Ends.v rfl (by simp)
theorem keyN_of (rows : List (List Bs)) (c : Int) : ∃ l : List NearT, keyN rows c = l.map nearV ∧ l.length ≤ 200 := by
  unfold keyN
  split
  · rename_i h
    refine ⟨(srt cmpK (pairsS rows)).map (nrG fun _ => c), by simp [nrV], ?_⟩
    rw [List.length_map, srt_len]
    unfold vKey at h
    split at h
    · omega
    split at h
    · omega
    split at h
    · omega
    split at h
    · omega
    · omega
  · exact ⟨[], rfl, by simp⟩
theorem spellKeyboards_ok (rows : List (List Bs)) (c : Int) (hr : rows.length * 24 ≤ 140737488351232 ∧ ∀ w ∈ rows, wordC w) (hc : intC c) : FOk Try.prog 9 [.v (.sl 1 (rows.map PV.word)), .I c] [] (.B true) [] := by
  have hw : ∀ w ∈ rows, wordS w := fun w h => (hr.2 w h).s
  have hlen : rows.length ≤ 200000000000000 := by have := hr.1; omega
  have h2 := fok12 rows hw hlen
  have hk := fok13
  have hP := fok30 rows c hlen hw
  have hQ := fok31 rows c hlen hw
  obtain ⟨l, hl, hl2⟩ := keyN_of rows c
  rw [hl] at hP hQ
  have hN := fok32 l (by omega)
  generalize vKey rows c = v at hP hQ
  simp only [wordsV] at h2 hP hQ
  refine FOk.val k9 (by simp) (by simp) (by decide) ?_
  simp [c9]
  refine ⟨fun _ => ?_, fun _ => ?_⟩
  · refine CallG.lent rfl rfl rfl rfl h2 rfl ?_
    simp
    refine ⟨fun _ => ?_, fun _ => ?_⟩
    · refine CallG.lent rfl rfl rfl rfl hk rfl ?_
      simp
      exact Ends.v rfl (by simp)
    refine CallG.plain rfl rfl rfl rfl hP (by simp) (by simp) ?_
    simp
    refine CallG.plain rfl rfl rfl rfl hQ (by simp) (by simp) ?_
    simp
    refine CallG.lent rfl rfl rfl rfl hN rfl ?_
    simp
    refine CallG.lent rfl rfl rfl rfl hk rfl ?_
    simp
    exact Ends.v rfl (by simp)
  · refine CallG.lent rfl rfl rfl rfl hk rfl ?_
    simp
    exact Ends.v rfl (by simp)

end Go.Proofs
