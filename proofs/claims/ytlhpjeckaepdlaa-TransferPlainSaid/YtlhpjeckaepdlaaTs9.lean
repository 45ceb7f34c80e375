/- The walk. -/
import Derived.Test.YtlhpjeckaepdlaaTr13
import Derived.Test.YtlhpjeckaepdlaaProg
import Derived.KernelRfl
set_option linter.all false
set_option maxHeartbeats 2000000
namespace Go.Proofs
open Go Go.AM
attribute [local irreducible] Run Ends
/-- ablaut/ablautref28.hasAll -/
def c104 : MC :=
  .seq (.reg false [.op .none 4 (.mv (.c (.w (.bool false))))]) <|
  .seq (.seq (.reg false [.op .none 5 (.mv (.c (.w (.int .i64 0))))]) <|
  .block 0 <|
    .loop <|
      .seq (.seq (.reg false [.op .none 6 (.mv (.t 5)),
        .op .none 7 (.mv (.t 1)),
        .op .none 8 (.len false (.t 7)),
        .op .none 9 (.bin .lss (.t 6) (.t 8))]) <|
      .cond (.t 9)
        (.skip)
        (.exit 0)) <|
      .seq (.block 1 <|
        .seq (.reg false [.op .none 12 (.mv (.t 0)),
          .op .none 13 (.mv (.t 1)),
          .op .none 14 (.mv (.t 5)),
          .op .none 15 (.ia 1 (.t 13) (.t 14)),
          .op .none 16 (.ld false 1 (.t 15)),
          .call .none 17 (.f 71) [(.t 12), (.t 16)],
          .op .none 18 (.un .not (.t 17))]) <|
        .cond (.t 18)
          (.seq (.reg false [.op .none 4 (.mv (.c (.w (.bool false))))]) <|
          .ret)
          (.skip)) <|
      .reg false [.op .none 10 (.mv (.t 5)),
        .op .none 11 (.bin .add (.t 10) (.c (.w (.int .i64 1)))),
        .op .none 5 (.mv (.t 11))]) <|
  .seq (.reg false [.op .none 4 (.mv (.c (.w (.bool true))))]) <|
  .ret
theorem k104 : FnCode Try.prog 104 [] 19 [4] c104 := ⟨Try.f104, Try.func104, fun xs W => Try.call104 xs W, by kernel_rfl, by kernel_rfl, by kernel_rfl⟩

/-- ablaut/ablautref28.row -/
def c67 : MC :=
  .seq (.reg false [.op .none 2 (.box false (.t 0)),
    .op .none 3 (.box false (.t 1)),
    .op .none 4 (.mv (.c (.w (.int .i64 0))))]) <|
  .seq (.seq (.reg false [.op .none 5 (.mv (.c (.w (.int .i64 0))))]) <|
  .block 0 <|
    .loop <|
      .seq (.seq (.reg false [.op .none 6 (.mv (.t 5)),
        .op .none 7 (.fa 0 (.t 2)),
        .op .none 8 (.ld false 1 (.t 7)),
        .op .none 9 (.len false (.t 8)),
        .op .none 10 (.bin .lss (.t 6) (.t 9))]) <|
      .cond (.t 10)
        (.skip)
        (.exit 0)) <|
      .seq (.block 1 <|
        .seq (.reg true [.op .none 13 (.fa 0 (.t 2)),
          .op .none 14 (.ld false 1 (.t 13)),
          .op .none 15 (.mv (.t 5)),
          .op .none 16 (.ia 4 (.t 14) (.t 15)),
          .op .none 17 (.fa 0 (.t 16)),
          .op .none 18 (.ld false 1 (.t 17)),
          .op .none 19 (.fa 0 (.t 3)),
          .op .none 20 (.ld false 1 (.t 19)),
          .op .none 21 (.bin .eql (.t 18) (.t 20)),
          .op .none 22 (.mv (.t 21)),
          .op (.some (22, true)) 23 (.fa 1 (.t 3)),
          .op (.some (22, true)) 24 (.ld false 1 (.t 23)),
          .op (.some (22, true)) 25 (.fa 0 (.t 2)),
          .op (.some (22, true)) 26 (.ld false 1 (.t 25)),
          .op (.some (22, true)) 27 (.mv (.t 5)),
          .op (.some (22, true)) 28 (.ia 4 (.t 26) (.t 27)),
          .op (.some (22, true)) 29 (.fa 1 (.t 28)),
          .op (.some (22, true)) 30 (.ld false 1 (.t 29)),
          .call (.some (22, true)) 31 (.f 104) [(.t 24), (.t 30)],
          .op .none 32 (.pick (.t 22) (.t 31) (.c (.w (.bool false))))]) <|
        .cond (.t 32)
          (.seq (.reg false [.op .none 33 (.mv (.t 5)),
            .op .none 4 (.mv (.t 33))]) <|
          .ret)
          (.skip)) <|
      .reg false [.op .none 11 (.mv (.t 5)),
        .op .none 12 (.bin .add (.t 11) (.c (.w (.int .i64 1)))),
        .op .none 5 (.mv (.t 12))]) <|
  .seq (.reg false [.op .none 4 (.mv (.c (.w (.int .i64 (-1)))))]) <|
  .ret
theorem k67 : FnCode Try.prog 67 [] 34 [4] c67 := ⟨Try.f67, Try.func67, fun xs W => Try.call67 xs W, by kernel_rfl, by kernel_rfl, by kernel_rfl⟩

/-- ablaut/ablautref28.behind -/
def c100 : MC :=
  .seq (.reg false [.op .none 4 (.nilS 1)]) <|
  .seq (.reg false [.op .none 7 (.mv (.t 0)),
    .op .none 8 (.cln 1 16 (.t 7)),
    .op .none 5 (.mv (.t 8))]) <|
  .seq (.seq (.reg false [.op .none 6 (.mv (.c (.w (.int .i64 0))))]) <|
  .block 0 <|
    .loop <|
      .seq (.seq (.reg false [.op .none 9 (.mv (.t 6)),
        .op .none 10 (.mv (.t 1)),
        .op .none 11 (.len false (.t 10)),
        .op .none 12 (.bin .lss (.t 9) (.t 11))]) <|
      .cond (.t 12)
        (.skip)
        (.exit 0)) <|
      .seq (.block 1 <|
        .seq (.reg false [.op .none 15 (.mv (.t 5)),
          .op .none 16 (.mv (.t 1)),
          .op .none 17 (.mv (.t 6)),
          .op .none 18 (.ia 1 (.t 16) (.t 17)),
          .op .none 19 (.ld false 1 (.t 18)),
          .call .none 20 (.f 71) [(.t 15), (.t 19)],
          .op .none 21 (.un .not (.t 20))]) <|
        .cond (.t 21)
          (.reg false [.op .none 22 (.mv (.t 5)),
            .op .none 23 (.mv (.t 1)),
            .op .none 24 (.mv (.t 6)),
            .op .none 25 (.ia 1 (.t 23) (.t 24)),
            .op .none 26 (.ld false 1 (.t 25)),
            .op .none 27 (.buildS false 1 1 false [(.w (.string ⟨#[]⟩))] [(0, (.t 26))]),
            .op .none 28 (.app 1 16 (.t 22) (.t 27)),
            .op .none 5 (.mv (.t 28))])
          (.skip)) <|
      .reg false [.op .none 13 (.mv (.t 6)),
        .op .none 14 (.bin .add (.t 13) (.c (.w (.int .i64 1)))),
        .op .none 6 (.mv (.t 14))]) <|
  .seq (.reg false [.op .none 29 (.mv (.t 5)),
    .op .none 4 (.mv (.t 29))]) <|
  .ret
theorem k100 : FnCode Try.prog 100 [] 30 [4] c100 := ⟨Try.f100, Try.func100, fun xs W => Try.call100 xs W, by kernel_rfl, by kernel_rfl, by kernel_rfl⟩

/-- ablaut/ablautref28.copied -/
def c99 : MC :=
  .seq (.reg false [.op .none 1 (.box false (.t 0)),
    .op .none 2 (.alloc true [(.w (.string ⟨#[]⟩)), (.sl 1 [])])]) <|
  .seq (.reg true [.op .none 3 (.fa 0 (.t 1)),
    .op .none 4 (.ld false 1 (.t 3)),
    .op .none 5 (.fa 1 (.t 1)),
    .op .none 6 (.ld false 1 (.t 5)),
    .op .none 7 (.cln 1 16 (.t 6)),
    .op .none 8 (.build true [(.w (.string ⟨#[]⟩)), (.sl 1 [])] [(0, 1, (.t 4)), (1, 1, (.t 7))]),
    .store .none true 2 (.t 2) (.t 8)]) <|
  .ret
theorem k99 : FnCode Try.prog 99 [8] 9 [5000054000002] c99 := ⟨Try.f99, Try.func99, fun xs W => Try.call99 xs W, by kernel_rfl, by kernel_rfl, by kernel_rfl⟩

/-- ablaut/ablautref28.turned -/
def c63 : MC :=
  .seq (.reg false [.op .none 2 (.box false (.t 0)),
    .op .none 3 (.box false (.t 1)),
    .op .none 4 (.alloc true [(.w (.string ⟨#[]⟩)), (.sl 1 [])])]) <|
  .seq (.reg false [.op .none 7 (.ld true 2 (.t 3)),
    .call .none 8 (.f 99) [(.t 7)],
    .op .none 5 (.alloc true [(.w (.string ⟨#[]⟩)), (.sl 1 [])]),
    .store .none true 2 (.t 5) (.t 8)]) <|
  .seq (.seq (.reg false [.op .none 9 (.ld true 2 (.t 2)),
    .op .none 10 (.ld true 2 (.t 3)),
    .call .none 11 (.f 67) [(.t 9), (.t 10)],
    .op .none 6 (.mv (.t 11))]) <|
  .seq (.reg false [.op .none 12 (.mv (.t 6)),
    .op .none 13 (.bin .geq (.t 12) (.c (.w (.int .i64 0))))]) <|
  .cond (.t 13)
    (.seq (.reg false [.op .none 14 (.fa 0 (.t 2)),
      .op .none 15 (.ld false 1 (.t 14)),
      .op .none 16 (.mv (.t 6)),
      .op .none 17 (.ia 4 (.t 15) (.t 16)),
      .op .none 18 (.fa 2 (.t 17)),
      .op .none 19 (.ld false 1 (.t 18)),
      .op .none 20 (.fa 0 (.t 5)),
      .store .none false 1 (.t 20) (.t 19)]) <|
    .reg true [.op .none 21 (.fa 1 (.t 3)),
      .op .none 22 (.ld false 1 (.t 21)),
      .op .none 23 (.fa 0 (.t 2)),
      .op .none 24 (.ld false 1 (.t 23)),
      .op .none 25 (.mv (.t 6)),
      .op .none 26 (.ia 4 (.t 24) (.t 25)),
      .op .none 27 (.fa 3 (.t 26)),
      .op .none 28 (.ld false 1 (.t 27)),
      .call .none 29 (.f 100) [(.t 22), (.t 28)],
      .op .none 30 (.fa 1 (.t 5)),
      .store .none false 1 (.t 30) (.t 29)])
    (.skip)) <|
  .seq (.reg false [.op .none 31 (.ld true 2 (.t 5)),
    .store .none true 2 (.t 4) (.t 31)]) <|
  .ret
theorem k63 : FnCode Try.prog 63 [] 32 [5000054000004] c63 := ⟨Try.f63, Try.func63, fun xs W => Try.call63 xs W, by kernel_rfl, by kernel_rfl, by kernel_rfl⟩

/-- ablaut/ablautref28.several -/
def c62 : MC :=
  .seq (.reg false [.op .none 2 (.box false (.t 0)),
    .op .none 4 (.mv (.c (.w (.int .i64 0))))]) <|
  .seq (.seq (.reg false [.op .none 6 (.ld true 2 (.t 2)),
    .call .none 7 (.f 12) [(.t 6)],
    .op .none 5 (.mv (.t 7))]) <|
  .seq (.reg false [.op .none 8 (.mv (.t 5)),
    .op .none 9 (.bin .neq (.t 8) (.c (.w (.int .i64 0))))]) <|
  .cond (.t 9)
    (.seq (.reg false [.op .none 10 (.mv (.t 5)),
      .op .none 4 (.mv (.t 10))]) <|
    .ret)
    (.skip)) <|
  .seq (.reg false [.op .none 11 (.mv (.t 1)),
    .call .none 12 (.f 14) [(.t 11)],
    .op .none 4 (.mv (.t 12))]) <|
  .ret
theorem k62 : FnCode Try.prog 62 [] 13 [4] c62 := ⟨Try.f62, Try.func62, fun xs W => Try.call62 xs W, by kernel_rfl, by kernel_rfl, by kernel_rfl⟩

/-- ablaut/ablautref28.chunk -/
def c101 : MC :=
  .seq (.reg false [.op .none 3 (.box false (.t 0)),
    .op .none 6 (.mv (.c (.w (.int .i64 0))))]) <|
  .seq (.reg false [.op .none 7 (.mv (.c (.w (.int .i64 (-1)))))]) <|
  .seq (.seq (.reg false [.op .none 8 (.mv (.c (.w (.int .i64 0))))]) <|
  .block 0 <|
    .loop <|
      .seq (.seq (.reg false [.op .none 12 (.mv (.t 8)),
        .op .none 13 (.fa 1 (.t 3)),
        .op .none 14 (.ld false 1 (.t 13)),
        .op .none 15 (.len false (.t 14)),
        .op .none 16 (.bin .lss (.t 12) (.t 15))]) <|
      .cond (.t 16)
        (.skip)
        (.exit 0)) <|
      .seq (.block 1 <|
        .seq (.reg false [.op .none 19 (.fa 1 (.t 3)),
          .op .none 20 (.ld false 1 (.t 19)),
          .op .none 21 (.mv (.t 8)),
          .op .none 22 (.ia 2 (.t 20) (.t 21)),
          .op .none 23 (.fa 0 (.t 22)),
          .op .none 24 (.ld false 1 (.t 23)),
          .op .none 9 (.mv (.t 24))]) <|
        .seq (.reg false [.op .none 25 (.mv (.t 2)),
          .op .none 26 (.mv (.t 9)),
          .op .none 27 (.len false (.t 26)),
          .op .none 28 (.bin .add (.t 25) (.t 27)),
          .op .none 29 (.mv (.t 1)),
          .op .none 30 (.len false (.t 29)),
          .op .none 31 (.bin .leq (.t 28) (.t 30)),
          .op .none 10 (.mv (.t 31))]) <|
        .seq (.seq (.reg false [.op .none 11 (.mv (.c (.w (.int .i64 0))))]) <|
        .block 2 <|
          .loop <|
            .seq (.seq (.reg false [.op .none 32 (.mv (.t 10)),
              .op .none 33 (.mv (.t 32)),
              .op (.some (33, true)) 34 (.mv (.t 11)),
              .op (.some (33, true)) 35 (.mv (.t 9)),
              .op (.some (33, true)) 36 (.len false (.t 35)),
              .op (.some (33, true)) 37 (.bin .lss (.t 34) (.t 36)),
              .op .none 38 (.pick (.t 33) (.t 37) (.c (.w (.bool false))))]) <|
            .cond (.t 38)
              (.skip)
              (.exit 2)) <|
            .seq (.block 3 <|
              .reg true [.op .none 41 (.mv (.t 1)),
                .op .none 42 (.mv (.t 2)),
                .op .none 43 (.mv (.t 11)),
                .op .none 44 (.bin .add (.t 42) (.t 43)),
                .op .none 45 (.ia 2 (.t 41) (.t 44)),
                .op .none 46 (.fa 1 (.t 45)),
                .op .none 47 (.ld false 1 (.t 46)),
                .op .none 48 (.mv (.t 9)),
                .op .none 49 (.mv (.t 11)),
                .op .none 50 (.ia 1 (.t 48) (.t 49)),
                .op .none 51 (.ld false 1 (.t 50)),
                .call .none 52 (.f 104) [(.t 47), (.t 51)],
                .op .none 10 (.mv (.t 52))]) <|
            .reg false [.op .none 39 (.mv (.t 11)),
              .op .none 40 (.bin .add (.t 39) (.c (.w (.int .i64 1)))),
              .op .none 11 (.mv (.t 40))]) <|
        .seq (.reg false [.op .none 53 (.mv (.t 10)),
          .op .none 54 (.mv (.t 53)),
          .op (.some (54, true)) 55 (.mv (.t 7)),
          .op (.some (54, true)) 56 (.bin .lss (.t 55) (.c (.w (.int .i64 0)))),
          .op (.some (54, true)) 57 (.mv (.t 56)),
          .op (.some (57, false)) 58 (.mv (.t 9)),
          .op (.some (57, false)) 59 (.len false (.t 58)),
          .op (.some (57, false)) 60 (.fa 1 (.t 3)),
          .op (.some (57, false)) 61 (.ld false 1 (.t 60)),
          .op (.some (57, false)) 62 (.mv (.t 7)),
          .op (.some (57, false)) 63 (.ia 2 (.t 61) (.t 62)),
          .op (.some (57, false)) 64 (.fa 0 (.t 63)),
          .op (.some (57, false)) 65 (.ld false 1 (.t 64)),
          .op (.some (57, false)) 66 (.len false (.t 65)),
          .op (.some (57, false)) 67 (.bin .gtr (.t 59) (.t 66)),
          .op (.some (54, true)) 68 (.pick (.t 57) (.c (.w (.bool true))) (.t 67)),
          .op .none 69 (.pick (.t 54) (.t 68) (.c (.w (.bool false))))]) <|
        .cond (.t 69)
          (.reg false [.op .none 70 (.mv (.t 8)),
            .op .none 7 (.mv (.t 70))])
          (.skip)) <|
      .reg false [.op .none 17 (.mv (.t 8)),
        .op .none 18 (.bin .add (.t 17) (.c (.w (.int .i64 1)))),
        .op .none 8 (.mv (.t 18))]) <|
  .seq (.reg false [.op .none 71 (.mv (.t 7)),
    .op .none 6 (.mv (.t 71))]) <|
  .ret
theorem k101 : FnCode Try.prog 101 [] 72 [6] c101 := ⟨Try.f101, Try.func101, fun xs W => Try.call101 xs W, by kernel_rfl, by kernel_rfl, by kernel_rfl⟩

/-- ablaut/ablautref28.chunks -/
def c64 : MC :=
  .seq (.reg false [.op .none 2 (.box false (.t 0)),
    .op .none 4 (.nilS 3)]) <|
  .seq (.reg false [.op .none 5 (.nilS 3)]) <|
  .seq (.seq (.reg false [.op .none 6 (.mv (.c (.w (.int .i64 0))))]) <|
  .block 0 <|
    .loop <|
      .seq (.seq (.reg false [.op .none 9 (.mv (.t 6)),
        .op .none 10 (.mv (.t 1)),
        .op .none 11 (.len false (.t 10)),
        .op .none 12 (.bin .lss (.t 9) (.t 11))]) <|
      .cond (.t 12)
        (.skip)
        (.exit 0)) <|
      .block 1 <|
        .seq (.reg false [.op .none 13 (.ld true 2 (.t 2)),
          .op .none 14 (.mv (.t 1)),
          .op .none 15 (.mv (.t 6)),
          .call .none 16 (.f 101) [(.t 13), (.t 14), (.t 15)],
          .op .none 7 (.mv (.t 16))]) <|
        .seq (.seq (.reg false [.op .none 17 (.mv (.t 7)),
          .op .none 18 (.bin .lss (.t 17) (.c (.w (.int .i64 0))))]) <|
        .cond (.t 18)
          (.seq (.reg false [.op .none 19 (.mv (.t 6)),
            .op .none 20 (.bin .add (.t 19) (.c (.w (.int .i64 1)))),
            .op .none 6 (.mv (.t 20))]) <|
          .exit 1)
          (.skip)) <|
        .seq (.reg false [.op .none 21 (.mv (.t 6)),
          .op .none 22 (.fa 1 (.t 2)),
          .op .none 23 (.ld false 1 (.t 22)),
          .op .none 24 (.mv (.t 7)),
          .op .none 25 (.ia 2 (.t 23) (.t 24)),
          .op .none 26 (.fa 0 (.t 25)),
          .op .none 27 (.ld false 1 (.t 26)),
          .op .none 28 (.len false (.t 27)),
          .op .none 29 (.bin .add (.t 21) (.t 28)),
          .op .none 8 (.mv (.t 29))]) <|
        .seq (.reg false [.op .none 30 (.mv (.t 5)),
          .op .none 31 (.mv (.t 7)),
          .op .none 32 (.mv (.t 6)),
          .op .none 33 (.mv (.t 8)),
          .op .none 34 (.build false [(.w (.int .i64 0)), (.w (.int .i64 0)), (.w (.int .i64 0))] [(0, 1, (.t 31)), (1, 1, (.t 32)), (2, 1, (.t 33))]),
          .op .none 35 (.buildS false 3 1 true [(.w (.int .i64 0)), (.w (.int .i64 0)), (.w (.int .i64 0))] [(0, (.t 34))]),
          .op .none 36 (.app 3 24 (.t 30) (.t 35)),
          .op .none 5 (.mv (.t 36))]) <|
        .reg false [.op .none 37 (.mv (.t 8)),
          .op .none 6 (.mv (.t 37))]) <|
  .seq (.reg false [.op .none 38 (.mv (.t 5)),
    .op .none 4 (.mv (.t 38))]) <|
  .ret
theorem k64 : FnCode Try.prog 64 [] 39 [4] c64 := ⟨Try.f64, Try.func64, fun xs W => Try.call64 xs W, by kernel_rfl, by kernel_rfl, by kernel_rfl⟩

theorem fok104 (x : UnitT) (w : List Bs) (hx : unitS x) (hw : w.length ≤ 200000000000000) : FOk Try.prog 104 [.v (.word x.2.1), .v (.word w)] [] (.B (hasU x w)) [] := by
  obtain ⟨b, t, u⟩ := x
  refine FOk.val k104 (by simp) (by simp) (by decide) ?_
  simp only [hasU]
  simp [c104]
  refine Run.loopA (ι := Nat) [] (fun i => i ≤ w.length ∧ ∀ s ∈ w.take i, (!inW t s) = false) (fun i => ⟨[(0, .v (.word t)), (1, .v (.word w)), (5, .I i)], [], 1024⟩) (fun i => w.length - i) 0 (by decide) (by simp) (by simp) ?_
  rintro i ⟨hi, hno⟩ ih
  by_cases h : i < w.length
  · have hyes := any_at (fun s => !inW t s) w h
    have hnext := any_take (fun s => !inW t s) w h hno
    have k1 := fok71 t w[i] hx.1.1
    generalize inW t w[i] = x1 at k1 hyes hnext
    simp (disch := omega) [h, wrap_i64]
    refine CallG.lent rfl rfl rfl rfl k1 rfl ?_
    cases x1
    · simp (disch := omega) [wrap_i64]
      exact Ends.v rfl (by simp only [hyes rfl]; simp)
    · simp (disch := omega) [wrap_i64]
      exact ih (i + 1) _ ⟨by omega, hnext rfl⟩ (by omega) (by simp)
  · have hiR : i = w.length := by omega
    subst hiR
    rw [List.take_length] at hno
    rw [any_end (fun s => !inW t s) w hno]
    simp
    exact Ends.v rfl (by simp)
theorem fok67 (b : BrT) (x : UnitT) (hb : brS b) (hx : unitS x) : FOk Try.prog 67 [.v (brV b), .v (unitV x)] [] (.I (rowF b.1 x)) [] := by
  have hh := fun w hw => fok104 x w hx hw
  obtain ⟨R, S, u⟩ := b
  obtain ⟨b1, b2, b3, b4⟩ := hb
  simp only at b1 b2
  simp only [rowF]
  generalize hp : rowP x = p
  obtain ⟨c, w, v⟩ := x
  refine FOk.val k67 (by simp) (by simp) (by decide) ?_
  simp [c67, brV, unitV]
  refine Run.loopA (ι := Nat) [(1, 2), (2, 3)] (fun i => i ≤ R.length ∧ idxF p (R.drop i) i = idxF p R 0) (fun i => ⟨[(2, .ptr 1 0 0), (3, .ptr 2 0 0), (5, .I i)], [(1, ⟨false, 2, [brV (R, S, u)]⟩), (2, ⟨false, 2, [unitV (c, w, v)]⟩)], 1024⟩) (fun i => R.length - i) 0 (by decide) (by simp [brV, unitV]) (by simp) ?_
  rintro i ⟨hi, hall⟩ ih
  by_cases h : i < R.length
  · rw [drop_at h] at hall
    simp only [idxF] at hall
    have hr := b2 _ (List.getElem_mem h)
    have hpr : p R[i] = rowP (c, w, v) R[i] := by rw [hp]
    generalize hy : R[i] = r at hr hpr hall
    obtain ⟨f, ii, t, q, u2⟩ := r
    have hc := hh ii hr.1.1
    simp only [rowP] at hpr
    generalize hasU (c, w, v) ii = y at hc hpr
    simp at hc
    by_cases d : f = c
    · simp (disch := omega) [h, wrap_i64, brV, unitV, hy, turnV, d]
      refine CallG.lent rfl rfl rfl rfl hc rfl ?_
      simp only [d, decide_true, Bool.true_and] at hpr hall
      rw [hpr] at hall
      cases y
      · simp (disch := omega) [wrap_i64]
        exact ih (i + 1) _ ⟨by omega, by simpa using hall⟩ (by omega) (by simp [brV, unitV])
      · simp (disch := omega) [wrap_i64]
        exact Ends.v rfl (by simp at hall; simp [← hall])
    · simp (disch := omega) [h, wrap_i64, brV, unitV, hy, turnV, d]
      simp only [d, decide_false, Bool.false_and] at hpr
      rw [hpr] at hall
      exact ih (i + 1) _ ⟨by omega, by simpa using hall⟩ (by omega) (by simp [brV, unitV])
  · rw [drop_no h] at hall
    simp only [idxF] at hall
    rw [← hall]
    simp [h, brV]
    exact Ends.v rfl (by simp)
theorem fok100 (l m : List Bs) (hl : l.length ≤ 1000000) (hm : m.length ≤ 1000000) : FOk Try.prog 100 [.v (.word l), .v (.word m)] [] (.v (.word (wthF l m))) [] := by
  have hb0 : (l.length + 1000) * 16 ≤ 70368744177664 := by omega
  refine FOk.val k100 (by simp) (by simp) (by decide) ?_
  simp [c100, hb0]
  clear hb0
  refine Run.loopA (ι := Nat × List Bs) [(1, 5)] (fun q => q.1 ≤ m.length ∧ q.2.length ≤ 1000000 + q.1 ∧ wthF q.2 (m.drop q.1) = wthF l m) (fun q => ⟨[(1, .v (.word m)), (5, .h 1), (6, .I q.1)], [(1, ⟨false, 1, q.2.map fun s => .w (.string (bs s))⟩)], 1024⟩) (fun q => m.length - q.1) (0, l) (by decide) (by simp) ⟨by simp, by simpa using hl, by simp⟩ ?_
  rintro ⟨i, o⟩ ⟨hi, ho, hall⟩ ih
  simp only at hi ho hall ih
  by_cases h : i < m.length
  · rw [drop_at h] at hall
    simp only [wthF] at hall
    have hc := fok71 o m[i] (by omega)
    have hb : (o.length + 1 + 1000) * 16 ≤ 70368744177664 := by omega
    simp (disch := omega) [h, wrap_i64]
    simp at hc
    refine CallG.lent rfl rfl rfl rfl hc rfl ?_
    cases hq : inW o m[i]
    · rw [hq] at hall
      simp (disch := omega) [wrap_i64, hb, h]
      exact ih (i + 1, o ++ [m[i]]) _ ⟨by simp; omega, by simp; omega, by simpa using hall⟩ (by simp; omega) (by simp)
    · rw [hq] at hall
      simp (disch := omega) [wrap_i64]
      exact ih (i + 1, o) _ ⟨by simp; omega, by simp; omega, by simpa using hall⟩ (by simp; omega) (by simp)
  · rw [drop_no h] at hall
    simp only [wthF] at hall
    simp [h]
    exact Ends.v rfl (by simp [hall])
theorem fok99 (x : UnitT) (hl : x.2.1.length ≤ 1000000) : FOk Try.prog 99 [.v (unitV x)] [] (.v (unitV x)) [] := by
  obtain ⟨b, t, u⟩ := x
  simp only at hl
  have hb0 : (t.length + 1000) * 16 ≤ 70368744177664 := by omega
  refine FOk.val k99 (by simp) (by simp) (by decide) ?_
  simp [c99, hb0, unitV]
  exact Ends.v rfl (by simp)
theorem fok63 (b : BrT) (x : UnitT) (hb : brS b) (hB : brB b) (hx : unitS x) (hl : x.2.1.length ≤ 1000) : FOk Try.prog 63 [.v (brV b), .v (unitV x)] [] (.v (unitV (wordF b.1 x).1)) [] := by
  have h1 := fok67 b x hb hx
  have h2 := fok99 x (by omega)
  obtain ⟨R, S, u⟩ := b
  obtain ⟨c, w, v⟩ := x
  simp only [wordF]
  simp only [rowF] at h1
  refine FOk.val k63 (by simp) (by simp) (by decide) ?_
  simp [c63, brV, unitV]
  simp [brV, unitV] at h1 h2
  refine CallG.plain rfl rfl rfl rfl h2 (by simp) (by simp) ?_
  simp
  rcases idxF_find (rowP (c, w, v)) R 0 with ⟨q, hq⟩ | ⟨k, hk0, hk, hkf, hkp, hkn⟩
  · rw [q] at h1
    refine CallG.lent rfl rfl rfl rfl h1 rfl ?_
    simp
    exact Ends.v rfl (by simp [hq])
  · rw [hk0] at h1
    have h3 := fok100 w R[k].2.2.2.1 (by simp only at hl; omega) (by have := hB _ (List.getElem_mem hk); omega)
    refine CallG.lent rfl rfl rfl rfl h1 rfl ?_
    rw [hkf]
    simp only
    generalize hx : R[k] = r at h3
    obtain ⟨f, i, t, p, u2⟩ := r
    have hkn : ¬ (k : Int) < 0 := by omega
    simp [hk, hx, turnV]
    simp at h3
    refine CallG.plain rfl rfl rfl rfl h3 (by simp) (by simp) ?_
    simp [hk, hx, turnV]
    exact Ends.v rfl (by simp)
theorem fok62 (b : BrT) (l : List UnitT) (hb : brS b) (hl : l.length ≤ 200000000000000) (hs : ∀ u ∈ l, unitS u) : FOk Try.prog 62 [.v (brV b), .v (.sl 2 (l.map unitV))] [] (.I (bothF b l)) [] := by
  have h1 := fok12 b hb
  have h2 := fok14 l hl hs
  obtain ⟨R, S, u⟩ := b
  refine FOk.val k62 (by simp) (by simp) (by decide) ?_
  simp only [bothF]
  generalize validF (R, S, u) = v at h1 ⊢
  simp [c62, brV]
  refine CallG.lent rfl rfl rfl rfl h1 rfl ?_
  by_cases hv : v = 0
  · subst hv
    simp
    refine CallG.lent rfl rfl rfl rfl h2 rfl ?_
    simp
    exact Ends.v rfl (by simp)
  · simp [hv]
    exact Ends.v rfl (by simp)

end Go.Proofs
