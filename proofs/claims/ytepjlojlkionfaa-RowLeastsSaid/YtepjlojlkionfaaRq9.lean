/- The walk. -/
import Derived.Test.YtepjlojlkionfaaRq8
import Derived.Test.YtepjlojlkionfaaProg
import Derived.KernelRfl
set_option linter.all false
set_option maxHeartbeats 2000000
namespace Go.Proofs
open Go Go.AM
attribute [local irreducible] Run Ends
/-- ablaut/ablautref19.SameInts -/
def c26 : MC :=
  .seq (.reg false [.op .none 4 (.mv (.c (.w (.bool false))))]) <|
  .seq (.seq (.reg false [.op .none 6 (.mv (.t 0)),
    .op .none 7 (.len false (.t 6)),
    .op .none 8 (.mv (.t 1)),
    .op .none 9 (.len false (.t 8)),
    .op .none 10 (.bin .neq (.t 7) (.t 9))]) <|
  .cond (.t 10)
    (.seq (.reg false [.op .none 4 (.mv (.c (.w (.bool false))))]) <|
    .ret)
    (.skip)) <|
  .seq (.seq (.reg false [.op .none 5 (.mv (.c (.w (.int .i64 0))))]) <|
  .block 0 <|
    .loop <|
      .seq (.seq (.reg false [.op .none 11 (.mv (.t 5)),
        .op .none 12 (.mv (.t 0)),
        .op .none 13 (.len false (.t 12)),
        .op .none 14 (.bin .lss (.t 11) (.t 13))]) <|
      .cond (.t 14)
        (.skip)
        (.exit 0)) <|
      .seq (.block 1 <|
        .seq (.reg true [.op .none 17 (.mv (.t 0)),
          .op .none 18 (.mv (.t 5)),
          .op .none 19 (.ia 1 (.t 17) (.t 18)),
          .op .none 20 (.ld false 1 (.t 19)),
          .op .none 21 (.mv (.t 1)),
          .op .none 22 (.mv (.t 5)),
          .op .none 23 (.ia 1 (.t 21) (.t 22)),
          .op .none 24 (.ld false 1 (.t 23)),
          .op .none 25 (.bin .neq (.t 20) (.t 24))]) <|
        .cond (.t 25)
          (.seq (.reg false [.op .none 4 (.mv (.c (.w (.bool false))))]) <|
          .ret)
          (.skip)) <|
      .reg false [.op .none 15 (.mv (.t 5)),
        .op .none 16 (.bin .add (.t 15) (.c (.w (.int .i64 1)))),
        .op .none 5 (.mv (.t 16))]) <|
  .seq (.reg false [.op .none 4 (.mv (.c (.w (.bool true))))]) <|
  .ret
theorem k26 : FnCode Try.prog 26 [] 26 [4] c26 := ⟨Try.f26, Try.func26, fun xs W => Try.call26 xs W, by kernel_rfl, by kernel_rfl, by kernel_rfl⟩

/-- ablaut/ablautlaw19.RowAts -/
def c6 : MC :=
  .seq (.reg false [.op .none 3 (.box false (.t 0)),
    .op .none 6 (.mv (.c (.w (.bool false))))]) <|
  .seq (.seq (.reg false [.op .none 11 (.ld true 6 (.t 3)),
    .call .none 12 (.f 12) [(.t 11)],
    .op .none 13 (.mv (.t 12)),
    .op (.some (13, false)) 14 (.mv (.t 1)),
    .call (.some (13, false)) 15 (.f 13) [(.t 14)],
    .op (.some (13, false)) 16 (.bin .gtr (.t 15) (.c (.w (.int .i64 200000)))),
    .op .none 17 (.pick (.t 13) (.c (.w (.bool true))) (.t 16))]) <|
  .cond (.t 17)
    (.seq (.reg false [.call .none 18 (.f 14) [],
      .op .none 6 (.mv (.t 18))]) <|
    .ret)
    (.skip)) <|
  .seq (.reg false [.op .none 20 (.ld true 6 (.t 3)),
    .op .none 21 (.mv (.t 1)),
    .op .none 22 (.mv (.t 2)),
    .call .none 23 (.f 24) [(.t 20), (.t 21), (.t 22)],
    .op .none 19 (.mv (.t 23)),
    .op .none 24 (.ext (.t 19) 0),
    .op .none 25 (.ext (.t 19) 1),
    .op .none 7 (.mv (.t 24)),
    .op .none 8 (.mv (.t 25))]) <|
  .seq (.reg false [.op .none 27 (.ld true 6 (.t 3)),
    .op .none 28 (.mv (.t 1)),
    .op .none 29 (.mv (.t 2)),
    .call .none 30 (.f 25) [(.t 27), (.t 28), (.t 29)],
    .op .none 26 (.mv (.t 30)),
    .op .none 31 (.ext (.t 26) 0),
    .op .none 32 (.ext (.t 26) 1),
    .op .none 9 (.mv (.t 31)),
    .op .none 10 (.mv (.t 32))]) <|
  .seq (.reg false [.op .none 33 (.mv (.t 7)),
    .op .none 34 (.mv (.t 9)),
    .call .none 35 (.f 26) [(.t 33), (.t 34)],
    .op .none 36 (.mv (.t 35)),
    .op (.some (36, true)) 37 (.mv (.t 8)),
    .op (.some (36, true)) 38 (.mv (.t 10)),
    .op (.some (36, true)) 39 (.bin .eql (.t 37) (.t 38)),
    .op .none 40 (.pick (.t 36) (.t 39) (.c (.w (.bool false)))),
    .op .none 41 (.mv (.t 40)),
    .call (.some (41, true)) 42 (.f 14) [],
    .op .none 43 (.pick (.t 41) (.t 42) (.c (.w (.bool false)))),
    .op .none 6 (.mv (.t 43))]) <|
  .ret
theorem k6 : FnCode Try.prog 6 [] 44 [6] c6 := ⟨Try.f6, Try.func6, fun xs W => Try.call6 xs W, by kernel_rfl, by kernel_rfl, by kernel_rfl⟩

theorem fok26 (x : List Int) (hl : x.length ≤ 200000000000000) : FOk Try.prog 26 [.v (intsV x), .v (intsV x)] [] (.B true) [] := by
  refine FOk.val k26 (by simp) (by simp) (by decide) ?_
  simp [c26, intsV]
  refine Run.loopA (ι := Nat) [] (fun i => i ≤ x.length) (fun i => ⟨[(0, .v (.sl 1 (x.map .i))), (1, .v (.sl 1 (x.map .i))), (5, .I i)], [], 1024⟩) (fun i => x.length - i) 0 (by decide) (by simp) (by simp) ?_
  rintro i hi ih
  by_cases h : i < x.length
  · simp (disch := omega) [h, wrap_i64]
    exact ih (i + 1) _ (by omega) (by omega) (by simp)
  · simp [h]
    exact Ends.v rfl (by simp)
theorem atF_len (t : TagT) (l : List Bs) (i : Int) : (atF t l i).1.length ≤ 200 := by
  unfold atF
  by_cases h1 : chkF t l.length = 0
  · have h1' : ¬ chkF t l.length ≠ 0 := by simpa using h1
    rw [if_neg h1']
    have := (chkF_ok h1).1.g
    split
    · simp
    · simp only [atP, List.length_map, List.length_range]; omega
  · rw [if_pos h1]; simp
theorem rowAts_ok (t : TagT) (l : List Bs) (i : Int) (ht : tagC t) (hl : wordC l) (hi : intC i) : FOk Try.prog 6 [.v (tagV t), .v (.word l), .I i] [] (.B true) [] := by
  have hts := ht.s
  have hls := hl.s8
  have h1 := fok12 t hts
  have h2 := fok13 l hls
  have c1 := fok24 t l i hts hls.1
  have c2 := fok25 t l i hts hls.1
  rw [atF_same] at c2
  have c3 := fok26 (atF t l i).1 (by have := atF_len t l i; omega)
  have hk := fok14
  have htc2 : tagV t = .st [.word t.1, intsV t.2.1, intsV t.2.2.1, .sl 1 (t.2.2.2.1.map intsV), .sl 2 (t.2.2.2.2.1.map worthV), intsV t.2.2.2.2.2.1] := by
    obtain ⟨G, Fi, Z, P, W, U, uu⟩ := t; rfl
  generalize overF9 t = x1 at h1
  generalize txF l = x2 at h2
  generalize atF t l i = a at c1 c2 c3
  obtain ⟨a, e⟩ := a
  simp only [intsV] at c1 c2 c3
  rw [htc2] at h1 c1 c2 ⊢
  refine FOk.val k6 (by simp) (by simp) (by decide) ?_
  simp [c6]
  refine CallG.lent rfl rfl rfl rfl h1 rfl ?_
  cases x1
  case true =>
    simp
    refine CallG.lent rfl rfl rfl rfl hk rfl ?_
    simp
    exact Ends.v rfl (by simp)
  simp
  refine CallG.lent rfl rfl rfl rfl h2 rfl ?_
  by_cases q2 : 200000 < x2
  · have q2' : ¬ x2 ≤ 200000 := by omega
    simp [q2, q2']
    refine CallG.lent rfl rfl rfl rfl hk rfl ?_
    simp
    exact Ends.v rfl (by simp)
  have q2' : x2 ≤ 200000 := by omega
  simp [q2, q2']
  refine CallG.plain rfl rfl rfl rfl c1 (by simp) (by simp) ?_
  simp
  refine CallG.plain rfl rfl rfl rfl c2 (by simp) (by simp) ?_
  simp
  refine CallG.lent rfl rfl rfl rfl c3 rfl ?_
  simp
  refine CallG.lent rfl rfl rfl rfl hk rfl ?_
  simp
  exact Ends.v rfl (by simp)

end Go.Proofs
