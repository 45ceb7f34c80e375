/- The walk. -/
import Derived.Test.YtlhpjeckaepdlaaTs12
import Derived.Test.YtlhpjeckaepdlaaTr14
import Derived.Test.YtlhpjeckaepdlaaProg
import Derived.KernelRfl
set_option linter.all false
set_option maxHeartbeats 2000000
namespace Go.Proofs
open Go Go.AM
attribute [local irreducible] Run Ends
/-- ablaut/ablautlaw28.sameUnits -/
def c21 : MC :=
  .seq (.reg false [.op .none 4 (.mv (.c (.w (.bool false))))]) <|
  .seq (.seq (.reg false [.op .none 6 (.mv (.t 0)),
    .op .none 7 (.len false (.t 6)),
    .op .none 8 (.mv (.t 1)),
    .op .none 9 (.len false (.t 8)),
    .op .none 10 (.bin .neq (.t 7) (.t 9))]) <|
  .cond (.t 10)
    (.seq (.reg false [.op .none 4 (.mv (.c (.w (.bool false))))]) <|
    .ret)
    (.skip)) <|
  .seq (.seq (.reg false [.op .none 5 (.mv (.c (.w (.int .i64 0))))]) <|
  .block 0 <|
    .loop <|
      .seq (.seq (.reg false [.op .none 11 (.mv (.t 5)),
        .op .none 12 (.mv (.t 0)),
        .op .none 13 (.len false (.t 12)),
        .op .none 14 (.bin .lss (.t 11) (.t 13))]) <|
      .cond (.t 14)
        (.skip)
        (.exit 0)) <|
      .seq (.block 1 <|
        .seq (.reg true [.op .none 17 (.mv (.t 0)),
          .op .none 18 (.mv (.t 5)),
          .op .none 19 (.ia 2 (.t 17) (.t 18)),
          .op .none 20 (.fa 0 (.t 19)),
          .op .none 21 (.ld false 1 (.t 20)),
          .op .none 22 (.mv (.t 1)),
          .op .none 23 (.mv (.t 5)),
          .op .none 24 (.ia 2 (.t 22) (.t 23)),
          .op .none 25 (.fa 0 (.t 24)),
          .op .none 26 (.ld false 1 (.t 25)),
          .op .none 27 (.bin .neq (.t 21) (.t 26)),
          .op .none 28 (.mv (.t 27)),
          .op (.some (28, false)) 29 (.mv (.t 0)),
          .op (.some (28, false)) 30 (.mv (.t 5)),
          .op (.some (28, false)) 31 (.ia 2 (.t 29) (.t 30)),
          .op (.some (28, false)) 32 (.fa 1 (.t 31)),
          .op (.some (28, false)) 33 (.ld false 1 (.t 32)),
          .op (.some (28, false)) 34 (.mv (.t 1)),
          .op (.some (28, false)) 35 (.mv (.t 5)),
          .op (.some (28, false)) 36 (.ia 2 (.t 34) (.t 35)),
          .op (.some (28, false)) 37 (.fa 1 (.t 36)),
          .op (.some (28, false)) 38 (.ld false 1 (.t 37)),
          .call (.some (28, false)) 39 (.f 32) [(.t 33), (.t 38)],
          .op (.some (28, false)) 40 (.un .not (.t 39)),
          .op .none 41 (.pick (.t 28) (.c (.w (.bool true))) (.t 40))]) <|
        .cond (.t 41)
          (.seq (.reg false [.op .none 4 (.mv (.c (.w (.bool false))))]) <|
          .ret)
          (.skip)) <|
      .reg false [.op .none 15 (.mv (.t 5)),
        .op .none 16 (.bin .add (.t 15) (.c (.w (.int .i64 1)))),
        .op .none 5 (.mv (.t 16))]) <|
  .seq (.reg false [.op .none 4 (.mv (.c (.w (.bool true))))]) <|
  .ret
theorem k21 : FnCode Try.prog 21 [] 42 [4] c21 := ⟨Try.f21, Try.func21, fun xs W => Try.call21 xs W, by kernel_rfl, by kernel_rfl, by kernel_rfl⟩

/-- ablaut/ablautlaw28.sameInts -/
def c22 : MC :=
  .seq (.reg false [.op .none 4 (.mv (.c (.w (.bool false))))]) <|
  .seq (.seq (.reg false [.op .none 6 (.mv (.t 0)),
    .op .none 7 (.len false (.t 6)),
    .op .none 8 (.mv (.t 1)),
    .op .none 9 (.len false (.t 8)),
    .op .none 10 (.bin .neq (.t 7) (.t 9))]) <|
  .cond (.t 10)
    (.seq (.reg false [.op .none 4 (.mv (.c (.w (.bool false))))]) <|
    .ret)
    (.skip)) <|
  .seq (.seq (.reg false [.op .none 5 (.mv (.c (.w (.int .i64 0))))]) <|
  .block 0 <|
    .loop <|
      .seq (.seq (.reg false [.op .none 11 (.mv (.t 5)),
        .op .none 12 (.mv (.t 0)),
        .op .none 13 (.len false (.t 12)),
        .op .none 14 (.bin .lss (.t 11) (.t 13))]) <|
      .cond (.t 14)
        (.skip)
        (.exit 0)) <|
      .seq (.block 1 <|
        .seq (.reg true [.op .none 17 (.mv (.t 0)),
          .op .none 18 (.mv (.t 5)),
          .op .none 19 (.ia 1 (.t 17) (.t 18)),
          .op .none 20 (.ld false 1 (.t 19)),
          .op .none 21 (.mv (.t 1)),
          .op .none 22 (.mv (.t 5)),
          .op .none 23 (.ia 1 (.t 21) (.t 22)),
          .op .none 24 (.ld false 1 (.t 23)),
          .op .none 25 (.bin .neq (.t 20) (.t 24))]) <|
        .cond (.t 25)
          (.seq (.reg false [.op .none 4 (.mv (.c (.w (.bool false))))]) <|
          .ret)
          (.skip)) <|
      .reg false [.op .none 15 (.mv (.t 5)),
        .op .none 16 (.bin .add (.t 15) (.c (.w (.int .i64 1)))),
        .op .none 5 (.mv (.t 16))]) <|
  .seq (.reg false [.op .none 4 (.mv (.c (.w (.bool true))))]) <|
  .ret
theorem k22 : FnCode Try.prog 22 [] 26 [4] c22 := ⟨Try.f22, Try.func22, fun xs W => Try.call22 xs W, by kernel_rfl, by kernel_rfl, by kernel_rfl⟩

/-- ablaut/ablautlaw28.TransferTranslates -/
def c4 : MC :=
  .seq (.reg false [.op .none 2 (.box false (.t 0)),
    .op .none 4 (.mv (.c (.w (.bool false))))]) <|
  .seq (.seq (.reg false [.op .none 18 (.ld true 2 (.t 2)),
    .call .none 19 (.f 8) [(.t 18)],
    .op .none 20 (.mv (.t 19)),
    .op (.some (20, false)) 21 (.mv (.t 1)),
    .call (.some (20, false)) 22 (.f 9) [(.t 21)],
    .op .none 23 (.pick (.t 20) (.c (.w (.bool true))) (.t 22))]) <|
  .cond (.t 23)
    (.seq (.reg false [.call .none 24 (.f 10) [],
      .op .none 4 (.mv (.t 24))]) <|
    .ret)
    (.skip)) <|
  .seq (.reg false [.op .none 26 (.ld true 2 (.t 2)),
    .op .none 27 (.mv (.t 1)),
    .call .none 28 (.f 15) [(.t 26), (.t 27)],
    .op .none 25 (.mv (.t 28)),
    .op .none 29 (.ext (.t 25) 0),
    .op .none 30 (.ext (.t 25) 1),
    .op .none 5 (.mv (.t 29)),
    .op .none 6 (.mv (.t 30))]) <|
  .seq (.reg false [.op .none 32 (.ld true 2 (.t 2)),
    .op .none 33 (.mv (.t 1)),
    .call .none 34 (.f 16) [(.t 32), (.t 33)],
    .op .none 31 (.mv (.t 34)),
    .op .none 35 (.ext (.t 31) 0),
    .op .none 36 (.ext (.t 31) 1),
    .op .none 7 (.mv (.t 35)),
    .op .none 8 (.mv (.t 36))]) <|
  .seq (.reg false [.op .none 38 (.ld true 2 (.t 2)),
    .op .none 39 (.mv (.t 1)),
    .call .none 40 (.f 17) [(.t 38), (.t 39)],
    .op .none 37 (.mv (.t 40)),
    .op .none 41 (.ext (.t 37) 0),
    .op .none 42 (.ext (.t 37) 1),
    .op .none 9 (.mv (.t 41)),
    .op .none 10 (.mv (.t 42))]) <|
  .seq (.reg false [.op .none 44 (.ld true 2 (.t 2)),
    .op .none 45 (.mv (.t 1)),
    .call .none 46 (.f 18) [(.t 44), (.t 45)],
    .op .none 43 (.mv (.t 46)),
    .op .none 47 (.ext (.t 43) 0),
    .op .none 48 (.ext (.t 43) 1),
    .op .none 11 (.mv (.t 47)),
    .op .none 12 (.mv (.t 48))]) <|
  .seq (.reg false [.op .none 50 (.ld true 2 (.t 2)),
    .op .none 51 (.mv (.t 1)),
    .call .none 52 (.f 19) [(.t 50), (.t 51)],
    .op .none 49 (.mv (.t 52)),
    .op .none 53 (.ext (.t 49) 0),
    .op .none 54 (.ext (.t 49) 1),
    .op .none 13 (.mv (.t 53)),
    .op .none 14 (.mv (.t 54))]) <|
  .seq (.reg false [.op .none 56 (.ld true 2 (.t 2)),
    .op .none 57 (.mv (.t 1)),
    .call .none 58 (.f 20) [(.t 56), (.t 57)],
    .op .none 55 (.mv (.t 58)),
    .op .none 59 (.ext (.t 55) 0),
    .op .none 60 (.ext (.t 55) 1),
    .op .none 15 (.mv (.t 59)),
    .op .none 16 (.mv (.t 60))]) <|
  .seq (.seq (.reg false [.op .none 61 (.mv (.t 5)),
    .op .none 62 (.mv (.t 7)),
    .call .none 63 (.f 21) [(.t 61), (.t 62)],
    .op .none 64 (.un .not (.t 63)),
    .op .none 65 (.mv (.t 64)),
    .op (.some (65, false)) 66 (.mv (.t 6)),
    .op (.some (65, false)) 67 (.mv (.t 8)),
    .op (.some (65, false)) 68 (.bin .neq (.t 66) (.t 67)),
    .op .none 69 (.pick (.t 65) (.c (.w (.bool true))) (.t 68)),
    .op .none 70 (.mv (.t 69)),
    .op (.some (70, false)) 71 (.mv (.t 9)),
    .op (.some (70, false)) 72 (.len false (.t 71)),
    .op (.some (70, false)) 73 (.mv (.t 11)),
    .op (.some (70, false)) 74 (.len false (.t 73)),
    .op (.some (70, false)) 75 (.bin .neq (.t 72) (.t 74)),
    .op .none 76 (.pick (.t 70) (.c (.w (.bool true))) (.t 75)),
    .op .none 77 (.mv (.t 76)),
    .op (.some (77, false)) 78 (.mv (.t 10)),
    .op (.some (77, false)) 79 (.mv (.t 12)),
    .op (.some (77, false)) 80 (.bin .neq (.t 78) (.t 79)),
    .op .none 81 (.pick (.t 77) (.c (.w (.bool true))) (.t 80)),
    .op .none 82 (.mv (.t 81)),
    .op (.some (82, false)) 83 (.mv (.t 13)),
    .op (.some (82, false)) 84 (.mv (.t 15)),
    .call (.some (82, false)) 85 (.f 22) [(.t 83), (.t 84)],
    .op (.some (82, false)) 86 (.un .not (.t 85)),
    .op .none 87 (.pick (.t 82) (.c (.w (.bool true))) (.t 86)),
    .op .none 88 (.mv (.t 87)),
    .op (.some (88, false)) 89 (.mv (.t 14)),
    .op (.some (88, false)) 90 (.mv (.t 16)),
    .op (.some (88, false)) 91 (.bin .neq (.t 89) (.t 90)),
    .op .none 92 (.pick (.t 88) (.c (.w (.bool true))) (.t 91))]) <|
  .cond (.t 92)
    (.seq (.reg false [.op .none 4 (.mv (.c (.w (.bool false))))]) <|
    .ret)
    (.skip)) <|
  .seq (.seq (.reg false [.op .none 17 (.mv (.c (.w (.int .i64 0))))]) <|
  .block 0 <|
    .loop <|
      .seq (.seq (.reg false [.op .none 93 (.mv (.t 17)),
        .op .none 94 (.mv (.t 9)),
        .op .none 95 (.len false (.t 94)),
        .op .none 96 (.bin .lss (.t 93) (.t 95))]) <|
      .cond (.t 96)
        (.skip)
        (.exit 0)) <|
      .seq (.block 1 <|
        .seq (.reg true [.op .none 99 (.mv (.t 9)),
          .op .none 100 (.mv (.t 17)),
          .op .none 101 (.ia 3 (.t 99) (.t 100)),
          .op .none 102 (.ld true 3 (.t 101)),
          .op .none 103 (.mv (.t 11)),
          .op .none 104 (.mv (.t 17)),
          .op .none 105 (.ia 3 (.t 103) (.t 104)),
          .op .none 106 (.ld true 3 (.t 105)),
          .op .none 107 (.eqS true [true, true, true] (.t 102) (.t 106))]) <|
        .cond (.t 107)
          (.seq (.reg false [.op .none 4 (.mv (.c (.w (.bool false))))]) <|
          .ret)
          (.skip)) <|
      .reg false [.op .none 97 (.mv (.t 17)),
        .op .none 98 (.bin .add (.t 97) (.c (.w (.int .i64 1)))),
        .op .none 17 (.mv (.t 98))]) <|
  .seq (.reg false [.call .none 108 (.f 10) [],
    .op .none 4 (.mv (.t 108))]) <|
  .ret
theorem k4 : FnCode Try.prog 4 [] 109 [4] c4 := ⟨Try.f4, Try.func4, fun xs W => Try.call4 xs W, by kernel_rfl, by kernel_rfl, by kernel_rfl⟩

theorem fok21 (x : List UnitT) (hl : x.length ≤ 200000000000000) (ht : ∀ u ∈ x, u.2.1.length ≤ 200000000000000) : FOk Try.prog 21 [.v (.sl 2 (x.map unitV)), .v (.sl 2 (x.map unitV))] [] (.B true) [] := by
  refine FOk.val k21 (by simp) (by simp) (by decide) ?_
  simp [c21]
  refine Run.loopA (ι := Nat) [] (fun i => i ≤ x.length) (fun i => ⟨[(0, .v (.sl 2 (x.map unitV))), (1, .v (.sl 2 (x.map unitV))), (5, .I i)], [], 1024⟩) (fun i => x.length - i) 0 (by decide) (by simp) (by simp) ?_
  rintro i hi ih
  by_cases h : i < x.length
  · have hu := ht _ (List.getElem_mem h)
    generalize hx : x[i] = u at hu
    obtain ⟨b, t, v⟩ := u
    simp only at hu
    have k1 := fok32 t t hu hu
    simp at k1
    simp (disch := omega) [h, wrap_i64, hx, unitV]
    refine CallG.lent rfl rfl rfl rfl k1 rfl ?_
    simp (disch := omega) [wrap_i64]
    exact ih (i + 1) _ (by omega) (by omega) (by simp)
  · simp [h]
    exact Ends.v rfl (by simp)
theorem fok22 (x : List Int) (hl : x.length ≤ 200000000000000) : FOk Try.prog 22 [.v (.sl 1 (x.map .i)), .v (.sl 1 (x.map .i))] [] (.B true) [] := by
  refine FOk.val k22 (by simp) (by simp) (by decide) ?_
  simp [c22]
  refine Run.loopA (ι := Nat) [] (fun i => i ≤ x.length) (fun i => ⟨[(0, .v (.sl 1 (x.map .i))), (1, .v (.sl 1 (x.map .i))), (5, .I i)], [], 1024⟩) (fun i => x.length - i) 0 (by decide) (by simp) (by simp) ?_
  rintro i hi ih
  by_cases h : i < x.length
  · simp (disch := omega) [h, wrap_i64]
    exact ih (i + 1) _ (by omega) (by omega) (by simp)
  · simp [h]
    exact Ends.v rfl (by simp)
theorem chF_len (S : List ShufT) (l : List UnitT) : ∀ (n a : Nat), (chF S l n a).length ≤ n
  | 0, _ => by simp [chF]
  | n + 1, a => by
    simp only [chF]
    split
    · split
      · have := chF_len S l n (a + 1); omega
      · rename_i k m _
        have := chF_len S l n (a + m); simp; omega
    · simp
theorem unkF_len (R : List TurnT) : ∀ (l : List UnitT) (i : Nat), (unkF R l i).length ≤ l.length
  | [], _ => by simp [unkF]
  | u :: l, i => by
    simp only [unkF]
    have := unkF_len R l (i + 1)
    split <;> simp <;> omega
theorem transF_small (b : BrT) (l : List UnitT) : (transF b l).1.length ≤ 200 ∧ ∀ u ∈ (transF b l).1, u.2.1.length ≤ 200000000000000 := by
  unfold transF
  split
  · simp
  split
  · simp
  split
  · simp
  split
  · simp
  rename_i h1 h2
  refine ⟨Nat.le_of_not_lt h1, fun u hu => ?_⟩
  have : ¬ many u = true := fun e => h2 (List.any_eq_true.2 ⟨u, hu, e⟩)
  simp only [many, decide_eq_true_eq] at this
  omega
theorem chunks_small (b : BrT) (l : List UnitT) (hl : l.length ≤ 200000000000000) : (if bothF b l = 0 then chunksF b.2.1 l else []).length ≤ 200000000000000 := by
  split
  · have := chF_len b.2.1 l l.length 0
    simp only [chunksF]; omega
  · simp
theorem unk_small (b : BrT) (l : List UnitT) (hl : l.length ≤ 200000000000000) : (if bothF b l = 0 then unkF b.1 l 0 else []).length ≤ 200000000000000 := by
  split
  · have := unkF_len b.1 l 0
    omega
  · simp
theorem transferTranslates_ok (b : BrT) (l : List UnitT) (hb : brC b) (hl : l.length * 40 ≤ 140737488351232 ∧ ∀ u ∈ l, unitC u) : FOk Try.prog 4 [.v (brV b), .v (.sl 2 (l.map unitV))] [] (.B true) [] := by
  have hbs := hb.s
  have hl1 : l.length ≤ 200000000000000 := by have := hl.1; omega
  have hl2 : ∀ u ∈ l, unitS u := fun u hu => (hl.2 u hu).s
  have h1 := fok8 b hbs
  have h2 := fok9 l hl1 hl2
  have t1 := fok15 b l hbs hl1 hl2
  have t2 := fok16 b l hbs hl1 hl2
  have t3 := fok17 b l hbs hl1 hl2
  have t4 := fok18 b l hbs hl1 hl2
  have t5 := fok19 b l hbs hl1 hl2
  have t6 := fok20 b l hbs hl1 hl2
  have hk := fok10
  obtain ⟨s1, s2⟩ := transF_small b l
  have s3 := chunks_small b l hl1
  have s4 := unk_small b l hl1
  have u1 := fok21 (transF b l).1 (by omega) s2
  have u2 := fok22 ((if bothF b l = 0 then unkF b.1 l 0 else []).map fun i : Nat => (i : Int)) (by simpa using s4)
  rw [List.map_map] at u2
  change FOk _ _ [.v (.sl 1 ((if bothF b l = 0 then unkF b.1 l 0 else []).map fun i => .i (i : Nat))), .v (.sl 1 ((if bothF b l = 0 then unkF b.1 l 0 else []).map fun i => .i (i : Nat)))] _ _ _ at u2
  generalize overF b = x1 at h1
  generalize endN (ovU l l.length) = x2 at h2
  generalize (if bothF b l = 0 then chunksF b.2.1 l else []) = cs at t3 t4 s3
  generalize (if bothF b l = 0 then unkF b.1 l 0 else []) = us at t5 t6 s4 u2
  generalize bothF b l = v at t3 t4 t5 t6
  generalize transF b l = tr at t1 t2 s1 s2 u1
  obtain ⟨x, e⟩ := tr
  obtain ⟨R, S, u⟩ := b
  simp only [brV] at h1 t1 t2 t3 t4 t5 t6
  simp only at s1 u1
  refine FOk.val k4 (by simp) (by simp) (by decide) ?_
  simp [c4, brV]
  refine CallG.lent rfl rfl rfl rfl h1 rfl ?_
  cases x1
  case true =>
    simp
    refine CallG.lent rfl rfl rfl rfl hk rfl ?_
    simp
    exact Ends.v rfl (by simp)
  simp
  refine CallG.lent rfl rfl rfl rfl h2 rfl ?_
  cases x2
  case true =>
    simp
    refine CallG.lent rfl rfl rfl rfl hk rfl ?_
    simp
    exact Ends.v rfl (by simp)
  simp
  refine CallG.plain rfl rfl rfl rfl t1 (by simp) (by simp) ?_
  simp
  refine CallG.plain rfl rfl rfl rfl t2 (by simp) (by simp) ?_
  simp
  refine CallG.plain rfl rfl rfl rfl t3 (by simp) (by simp) ?_
  simp
  refine CallG.plain rfl rfl rfl rfl t4 (by simp) (by simp) ?_
  simp
  refine CallG.plain rfl rfl rfl rfl t5 (by simp) (by simp) ?_
  simp
  refine CallG.plain rfl rfl rfl rfl t6 (by simp) (by simp) ?_
  simp
  refine CallG.lent rfl rfl rfl rfl u1 rfl ?_
  simp
  refine CallG.lent rfl rfl rfl rfl u2 rfl ?_
  simp
  refine Run.loopA (ι := Nat) [] (fun i => i ≤ cs.length) (fun i => ⟨[(9, .v (.sl 3 (cs.map chV))), (11, .v (.sl 3 (cs.map chV))), (17, .I i)], [], 1024⟩) (fun i => cs.length - i) 0 (by decide) (by simp) (by simp) ?_
  rintro i hi ih
  by_cases h : i < cs.length
  · simp (disch := omega) [h, wrap_i64, chV]
    exact ih (i + 1) _ (by omega) (by omega) (by simp)
  · simp [h]
    refine CallG.lent rfl rfl rfl rfl hk rfl ?_
    simp
    exact Ends.v rfl (by simp)

end Go.Proofs
