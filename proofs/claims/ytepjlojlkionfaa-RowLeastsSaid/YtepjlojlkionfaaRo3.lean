/- The walk. -/
import Derived.Test.YtepjlojlkionfaaRo2
import Derived.Test.YtepjlojlkionfaaProg
import Derived.KernelRfl
set_option linter.all false
set_option maxHeartbeats 2000000
namespace Go.Proofs
open Go Go.AM
attribute [local irreducible] Run Ends
/-- ablaut/ablautref09.IsName -/
def c95 : MC :=
  .seq (.reg false [.op .none 2 (.mv (.c (.w (.bool false))))]) <|
  .seq (.seq (.reg false [.op .none 3 (.mv (.c (.w (.int .i64 0))))]) <|
  .block 0 <|
    .loop <|
      .seq (.seq (.reg false [.op .none 6 (.mv (.t 3)),
        .op .none 7 (.mv (.t 0)),
        .op .none 8 (.len true (.t 7)),
        .op .none 9 (.bin .lss (.t 6) (.t 8))]) <|
      .cond (.t 9)
        (.skip)
        (.exit 0)) <|
      .seq (.block 1 <|
        .seq (.reg false [.op .none 12 (.mv (.t 0)),
          .op .none 13 (.mv (.t 3)),
          .op .none 14 (.six (.t 12) (.t 13)),
          .op .none 15 (.bin .geq (.t 14) (.c (.w (.int .u8 97)))),
          .op .none 16 (.mv (.t 15)),
          .op (.some (16, true)) 17 (.mv (.t 0)),
          .op (.some (16, true)) 18 (.mv (.t 3)),
          .op (.some (16, true)) 19 (.six (.t 17) (.t 18)),
          .op (.some (16, true)) 20 (.bin .leq (.t 19) (.c (.w (.int .u8 122)))),
          .op .none 21 (.pick (.t 16) (.t 20) (.c (.w (.bool false)))),
          .op .none 22 (.mv (.t 21)),
          .op (.some (22, false)) 23 (.mv (.t 0)),
          .op (.some (22, false)) 24 (.mv (.t 3)),
          .op (.some (22, false)) 25 (.six (.t 23) (.t 24)),
          .op (.some (22, false)) 26 (.bin .geq (.t 25) (.c (.w (.int .u8 65)))),
          .op (.some (22, false)) 27 (.mv (.t 26)),
          .op (.some (27, true)) 28 (.mv (.t 0)),
          .op (.some (27, true)) 29 (.mv (.t 3)),
          .op (.some (27, true)) 30 (.six (.t 28) (.t 29)),
          .op (.some (27, true)) 31 (.bin .leq (.t 30) (.c (.w (.int .u8 90)))),
          .op (.some (22, false)) 32 (.pick (.t 27) (.t 31) (.c (.w (.bool false)))),
          .op .none 33 (.pick (.t 22) (.c (.w (.bool true))) (.t 32)),
          .op .none 4 (.mv (.t 33))]) <|
        .seq (.reg false [.op .none 34 (.mv (.t 0)),
          .op .none 35 (.mv (.t 3)),
          .op .none 36 (.six (.t 34) (.t 35)),
          .op .none 37 (.bin .geq (.t 36) (.c (.w (.int .u8 48)))),
          .op .none 38 (.mv (.t 37)),
          .op (.some (38, true)) 39 (.mv (.t 0)),
          .op (.some (38, true)) 40 (.mv (.t 3)),
          .op (.some (38, true)) 41 (.six (.t 39) (.t 40)),
          .op (.some (38, true)) 42 (.bin .leq (.t 41) (.c (.w (.int .u8 57)))),
          .op .none 43 (.pick (.t 38) (.t 42) (.c (.w (.bool false)))),
          .op .none 5 (.mv (.t 43))]) <|
        .seq (.reg false [.op .none 44 (.mv (.t 4)),
          .op .none 45 (.un .not (.t 44)),
          .op .none 46 (.mv (.t 45)),
          .op (.some (46, true)) 47 (.mv (.t 5)),
          .op (.some (46, true)) 48 (.un .not (.t 47)),
          .op (.some (46, true)) 49 (.mv (.t 48)),
          .op (.some (49, false)) 50 (.mv (.t 3)),
          .op (.some (49, false)) 51 (.bin .eql (.t 50) (.c (.w (.int .i64 0)))),
          .op (.some (46, true)) 52 (.pick (.t 49) (.c (.w (.bool true))) (.t 51)),
          .op .none 53 (.pick (.t 46) (.t 52) (.c (.w (.bool false))))]) <|
        .cond (.t 53)
          (.seq (.reg false [.op .none 2 (.mv (.c (.w (.bool false))))]) <|
          .ret)
          (.skip)) <|
      .reg false [.op .none 10 (.mv (.t 3)),
        .op .none 11 (.bin .add (.t 10) (.c (.w (.int .i64 1)))),
        .op .none 3 (.mv (.t 11))]) <|
  .seq (.reg false [.op .none 54 (.mv (.t 0)),
    .op .none 55 (.len true (.t 54)),
    .op .none 56 (.bin .geq (.t 55) (.c (.w (.int .i64 1)))),
    .op .none 57 (.mv (.t 56)),
    .op (.some (57, true)) 58 (.mv (.t 0)),
    .op (.some (57, true)) 59 (.len true (.t 58)),
    .op (.some (57, true)) 60 (.bin .leq (.t 59) (.c (.w (.int .i64 12)))),
    .op .none 61 (.pick (.t 57) (.t 60) (.c (.w (.bool false)))),
    .op .none 2 (.mv (.t 61))]) <|
  .ret
theorem k95 : FnCode Try.prog 95 [] 62 [2] c95 := ⟨Try.f95, Try.func95, fun xs W => Try.call95 xs W, by kernel_rfl, by kernel_rfl, by kernel_rfl⟩

/-- ablaut/ablautref01.IsSet -/
def c96 : MC :=
  .seq (.reg false [.op .none 2 (.mv (.c (.w (.bool false))))]) <|
  .seq (.seq (.reg false [.op .none 3 (.mv (.c (.w (.int .i64 1))))]) <|
  .block 0 <|
    .loop <|
      .seq (.seq (.reg false [.op .none 4 (.mv (.t 3)),
        .op .none 5 (.mv (.t 0)),
        .op .none 6 (.len false (.t 5)),
        .op .none 7 (.bin .lss (.t 4) (.t 6))]) <|
      .cond (.t 7)
        (.skip)
        (.exit 0)) <|
      .seq (.block 1 <|
        .seq (.reg true [.op .none 10 (.mv (.t 0)),
          .op .none 11 (.mv (.t 3)),
          .op .none 12 (.bin .sub (.t 11) (.c (.w (.int .i64 1)))),
          .op .none 13 (.ia 1 (.t 10) (.t 12)),
          .op .none 14 (.ld false 1 (.t 13)),
          .op .none 15 (.mv (.t 0)),
          .op .none 16 (.mv (.t 3)),
          .op .none 17 (.ia 1 (.t 15) (.t 16)),
          .op .none 18 (.ld false 1 (.t 17)),
          .op .none 19 (.bin .geq (.t 14) (.t 18))]) <|
        .cond (.t 19)
          (.seq (.reg false [.op .none 2 (.mv (.c (.w (.bool false))))]) <|
          .ret)
          (.skip)) <|
      .reg false [.op .none 8 (.mv (.t 3)),
        .op .none 9 (.bin .add (.t 8) (.c (.w (.int .i64 1)))),
        .op .none 3 (.mv (.t 9))]) <|
  .seq (.reg false [.op .none 2 (.mv (.c (.w (.bool true))))]) <|
  .ret
theorem k96 : FnCode Try.prog 96 [] 20 [2] c96 := ⟨Try.f96, Try.func96, fun xs W => Try.call96 xs W, by kernel_rfl, by kernel_rfl, by kernel_rfl⟩

/-- ablaut/ablautref19.isNames -/
def c58 : MC :=
  .seq (.reg false [.op .none 2 (.mv (.c (.w (.bool false))))]) <|
  .seq (.seq (.reg false [.op .none 3 (.mv (.c (.w (.int .i64 0))))]) <|
  .block 0 <|
    .loop <|
      .seq (.seq (.reg false [.op .none 4 (.mv (.t 3)),
        .op .none 5 (.mv (.t 0)),
        .op .none 6 (.len false (.t 5)),
        .op .none 7 (.bin .lss (.t 4) (.t 6))]) <|
      .cond (.t 7)
        (.skip)
        (.exit 0)) <|
      .seq (.block 1 <|
        .seq (.reg false [.op .none 10 (.mv (.t 0)),
          .op .none 11 (.mv (.t 3)),
          .op .none 12 (.ia 1 (.t 10) (.t 11)),
          .op .none 13 (.ld false 1 (.t 12)),
          .call .none 14 (.f 95) [(.t 13)],
          .op .none 15 (.un .not (.t 14))]) <|
        .cond (.t 15)
          (.seq (.reg false [.op .none 2 (.mv (.c (.w (.bool false))))]) <|
          .ret)
          (.skip)) <|
      .reg false [.op .none 8 (.mv (.t 3)),
        .op .none 9 (.bin .add (.t 8) (.c (.w (.int .i64 1)))),
        .op .none 3 (.mv (.t 9))]) <|
  .seq (.reg false [.op .none 16 (.mv (.t 0)),
    .call .none 17 (.f 96) [(.t 16)],
    .op .none 2 (.mv (.t 17))]) <|
  .ret
theorem k58 : FnCode Try.prog 58 [] 18 [2] c58 := ⟨Try.f58, Try.func58, fun xs W => Try.call58 xs W, by kernel_rfl, by kernel_rfl, by kernel_rfl⟩

/-- ablaut/ablautref19.isCosts -/
def c59 : MC :=
  .seq (.reg false [.op .none 6 (.mv (.c (.w (.bool false))))]) <|
  .seq (.seq (.reg false [.op .none 7 (.mv (.c (.w (.int .i64 0))))]) <|
  .block 0 <|
    .loop <|
      .seq (.seq (.reg false [.op .none 8 (.mv (.t 7)),
        .op .none 9 (.mv (.t 0)),
        .op .none 10 (.len false (.t 9)),
        .op .none 11 (.bin .lss (.t 8) (.t 10))]) <|
      .cond (.t 11)
        (.skip)
        (.exit 0)) <|
      .seq (.block 1 <|
        .seq (.reg false [.op .none 14 (.mv (.t 0)),
          .op .none 15 (.mv (.t 7)),
          .op .none 16 (.ia 1 (.t 14) (.t 15)),
          .op .none 17 (.ld false 1 (.t 16)),
          .op .none 18 (.mv (.t 2)),
          .op .none 19 (.bin .lss (.t 17) (.t 18)),
          .op .none 20 (.mv (.t 19)),
          .op (.some (20, false)) 21 (.mv (.t 0)),
          .op (.some (20, false)) 22 (.mv (.t 7)),
          .op (.some (20, false)) 23 (.ia 1 (.t 21) (.t 22)),
          .op (.some (20, false)) 24 (.ld false 1 (.t 23)),
          .op (.some (20, false)) 25 (.bin .gtr (.t 24) (.c (.w (.int .i64 100000000)))),
          .op .none 26 (.pick (.t 20) (.c (.w (.bool true))) (.t 25))]) <|
        .cond (.t 26)
          (.seq (.reg false [.op .none 6 (.mv (.c (.w (.bool false))))]) <|
          .ret)
          (.skip)) <|
      .reg false [.op .none 12 (.mv (.t 7)),
        .op .none 13 (.bin .add (.t 12) (.c (.w (.int .i64 1)))),
        .op .none 7 (.mv (.t 13))]) <|
  .seq (.reg false [.op .none 27 (.mv (.t 0)),
    .op .none 28 (.len false (.t 27)),
    .op .none 29 (.mv (.t 1)),
    .op .none 30 (.bin .eql (.t 28) (.t 29)),
    .op .none 6 (.mv (.t 30))]) <|
  .ret
theorem k59 : FnCode Try.prog 59 [] 31 [6] c59 := ⟨Try.f59, Try.func59, fun xs W => Try.call59 xs W, by kernel_rfl, by kernel_rfl, by kernel_rfl⟩

/-- ablaut/ablautref19.Validate -/
def c23 : MC :=
  .seq (.reg false [.op .none 1 (.box false (.t 0)),
    .op .none 2 (.mv (.c (.w (.int .i64 0))))]) <|
  .seq (.seq (.reg false [.op .none 7 (.fa 0 (.t 1)),
    .op .none 8 (.ld false 1 (.t 7)),
    .op .none 9 (.len false (.t 8)),
    .op .none 10 (.bin .gtr (.t 9) (.c (.w (.int .i64 16)))),
    .op .none 11 (.mv (.t 10)),
    .op (.some (11, false)) 12 (.fa 4 (.t 1)),
    .op (.some (11, false)) 13 (.ld false 1 (.t 12)),
    .op (.some (11, false)) 14 (.len false (.t 13)),
    .op (.some (11, false)) 15 (.bin .gtr (.t 14) (.c (.w (.int .i64 300)))),
    .op .none 16 (.pick (.t 11) (.c (.w (.bool true))) (.t 15))]) <|
  .cond (.t 16)
    (.seq (.reg false [.op .none 2 (.mv (.c (.w (.int .i64 3))))]) <|
    .ret)
    (.skip)) <|
  .seq (.seq (.reg false [.op .none 3 (.mv (.c (.w (.int .i64 0))))]) <|
  .block 0 <|
    .loop <|
      .seq (.seq (.reg false [.op .none 17 (.mv (.t 3)),
        .op .none 18 (.fa 4 (.t 1)),
        .op .none 19 (.ld false 1 (.t 18)),
        .op .none 20 (.len false (.t 19)),
        .op .none 21 (.bin .lss (.t 17) (.t 20))]) <|
      .cond (.t 21)
        (.skip)
        (.exit 0)) <|
      .seq (.block 1 <|
        .seq (.reg false [.op .none 24 (.fa 4 (.t 1)),
          .op .none 25 (.ld false 1 (.t 24)),
          .op .none 26 (.mv (.t 3)),
          .op .none 27 (.ia 2 (.t 25) (.t 26)),
          .op .none 28 (.fa 0 (.t 27)),
          .op .none 29 (.ld false 1 (.t 28)),
          .op .none 30 (.len true (.t 29)),
          .op .none 31 (.bin .gtr (.t 30) (.c (.w (.int .i64 400))))]) <|
        .cond (.t 31)
          (.seq (.reg false [.op .none 2 (.mv (.c (.w (.int .i64 3))))]) <|
          .ret)
          (.skip)) <|
      .reg false [.op .none 22 (.mv (.t 3)),
        .op .none 23 (.bin .add (.t 22) (.c (.w (.int .i64 1)))),
        .op .none 3 (.mv (.t 23))]) <|
  .seq (.reg false [.op .none 32 (.fa 0 (.t 1)),
    .op .none 33 (.ld false 1 (.t 32)),
    .op .none 34 (.len false (.t 33)),
    .op .none 4 (.mv (.t 34))]) <|
  .seq (.seq (.reg false [.op .none 35 (.fa 0 (.t 1)),
    .op .none 36 (.ld false 1 (.t 35)),
    .call .none 37 (.f 58) [(.t 36)],
    .op .none 38 (.un .not (.t 37)),
    .op .none 39 (.mv (.t 38)),
    .op (.some (39, false)) 40 (.fa 1 (.t 1)),
    .op (.some (39, false)) 41 (.ld false 1 (.t 40)),
    .op (.some (39, false)) 42 (.mv (.t 4)),
    .call (.some (39, false)) 43 (.f 59) [(.t 41), (.t 42), (.c (.w (.int .i64 0)))],
    .op (.some (39, false)) 44 (.un .not (.t 43)),
    .op .none 45 (.pick (.t 39) (.c (.w (.bool true))) (.t 44)),
    .op .none 46 (.mv (.t 45)),
    .op (.some (46, false)) 47 (.fa 2 (.t 1)),
    .op (.some (46, false)) 48 (.ld false 1 (.t 47)),
    .op (.some (46, false)) 49 (.mv (.t 4)),
    .call (.some (46, false)) 50 (.f 59) [(.t 48), (.t 49), (.c (.w (.int .i64 0)))],
    .op (.some (46, false)) 51 (.un .not (.t 50)),
    .op .none 52 (.pick (.t 46) (.c (.w (.bool true))) (.t 51)),
    .op .none 53 (.mv (.t 52)),
    .op (.some (53, false)) 54 (.fa 3 (.t 1)),
    .op (.some (53, false)) 55 (.ld false 1 (.t 54)),
    .op (.some (53, false)) 56 (.len false (.t 55)),
    .op (.some (53, false)) 57 (.mv (.t 4)),
    .op (.some (53, false)) 58 (.bin .neq (.t 56) (.t 57)),
    .op .none 59 (.pick (.t 53) (.c (.w (.bool true))) (.t 58)),
    .op .none 60 (.mv (.t 59)),
    .op (.some (60, false)) 61 (.fa 5 (.t 1)),
    .op (.some (60, false)) 62 (.ld false 1 (.t 61)),
    .op (.some (60, false)) 63 (.mv (.t 4)),
    .call (.some (60, false)) 64 (.f 59) [(.t 62), (.t 63), (.c (.w (.int .i64 (-1))))],
    .op (.some (60, false)) 65 (.un .not (.t 64)),
    .op .none 66 (.pick (.t 60) (.c (.w (.bool true))) (.t 65))]) <|
  .cond (.t 66)
    (.seq (.reg false [.op .none 2 (.mv (.c (.w (.int .i64 1))))]) <|
    .ret)
    (.skip)) <|
  .seq (.seq (.reg false [.op .none 5 (.mv (.c (.w (.int .i64 0))))]) <|
  .block 2 <|
    .loop <|
      .seq (.seq (.reg false [.op .none 67 (.mv (.t 5)),
        .op .none 68 (.mv (.t 4)),
        .op .none 69 (.bin .lss (.t 67) (.t 68))]) <|
      .cond (.t 69)
        (.skip)
        (.exit 2)) <|
      .seq (.block 3 <|
        .seq (.reg false [.op .none 72 (.fa 3 (.t 1)),
          .op .none 73 (.ld false 1 (.t 72)),
          .op .none 74 (.mv (.t 5)),
          .op .none 75 (.ia 1 (.t 73) (.t 74)),
          .op .none 76 (.ld false 1 (.t 75)),
          .op .none 77 (.mv (.t 4)),
          .call .none 78 (.f 59) [(.t 76), (.t 77), (.c (.w (.int .i64 0)))],
          .op .none 79 (.un .not (.t 78))]) <|
        .cond (.t 79)
          (.seq (.reg false [.op .none 2 (.mv (.c (.w (.int .i64 1))))]) <|
          .ret)
          (.skip)) <|
      .reg false [.op .none 70 (.mv (.t 5)),
        .op .none 71 (.bin .add (.t 70) (.c (.w (.int .i64 1)))),
        .op .none 5 (.mv (.t 71))]) <|
  .seq (.seq (.reg false [.op .none 6 (.mv (.c (.w (.int .i64 0))))]) <|
  .block 4 <|
    .loop <|
      .seq (.seq (.reg false [.op .none 80 (.mv (.t 6)),
        .op .none 81 (.fa 4 (.t 1)),
        .op .none 82 (.ld false 1 (.t 81)),
        .op .none 83 (.len false (.t 82)),
        .op .none 84 (.bin .lss (.t 80) (.t 83))]) <|
      .cond (.t 84)
        (.skip)
        (.exit 4)) <|
      .seq (.block 5 <|
        .seq (.reg true [.op .none 87 (.fa 4 (.t 1)),
          .op .none 88 (.ld false 1 (.t 87)),
          .op .none 89 (.mv (.t 6)),
          .op .none 90 (.ia 2 (.t 88) (.t 89)),
          .op .none 91 (.fa 1 (.t 90)),
          .op .none 92 (.ld false 1 (.t 91)),
          .op .none 93 (.mv (.t 4)),
          .call .none 94 (.f 59) [(.t 92), (.t 93), (.c (.w (.int .i64 (-1))))],
          .op .none 95 (.un .not (.t 94)),
          .op .none 96 (.mv (.t 95)),
          .op (.some (96, false)) 97 (.mv (.t 6)),
          .op (.some (96, false)) 98 (.bin .gtr (.t 97) (.c (.w (.int .i64 0)))),
          .op (.some (96, false)) 99 (.mv (.t 98)),
          .op (.some (99, true)) 100 (.fa 4 (.t 1)),
          .op (.some (99, true)) 101 (.ld false 1 (.t 100)),
          .op (.some (99, true)) 102 (.mv (.t 6)),
          .op (.some (99, true)) 103 (.bin .sub (.t 102) (.c (.w (.int .i64 1)))),
          .op (.some (99, true)) 104 (.ia 2 (.t 101) (.t 103)),
          .op (.some (99, true)) 105 (.fa 0 (.t 104)),
          .op (.some (99, true)) 106 (.ld false 1 (.t 105)),
          .op (.some (99, true)) 107 (.fa 4 (.t 1)),
          .op (.some (99, true)) 108 (.ld false 1 (.t 107)),
          .op (.some (99, true)) 109 (.mv (.t 6)),
          .op (.some (99, true)) 110 (.ia 2 (.t 108) (.t 109)),
          .op (.some (99, true)) 111 (.fa 0 (.t 110)),
          .op (.some (99, true)) 112 (.ld false 1 (.t 111)),
          .op (.some (99, true)) 113 (.bin .geq (.t 106) (.t 112)),
          .op (.some (96, false)) 114 (.pick (.t 99) (.t 113) (.c (.w (.bool false)))),
          .op .none 115 (.pick (.t 96) (.c (.w (.bool true))) (.t 114))]) <|
        .cond (.t 115)
          (.seq (.reg false [.op .none 2 (.mv (.c (.w (.int .i64 1))))]) <|
          .ret)
          (.skip)) <|
      .reg false [.op .none 85 (.mv (.t 6)),
        .op .none 86 (.bin .add (.t 85) (.c (.w (.int .i64 1)))),
        .op .none 6 (.mv (.t 86))]) <|
  .seq (.reg false [.op .none 2 (.mv (.c (.w (.int .i64 0))))]) <|
  .ret
theorem k23 : FnCode Try.prog 23 [] 116 [2] c23 := ⟨Try.f23, Try.func23, fun xs W => Try.call23 xs W, by kernel_rfl, by kernel_rfl, by kernel_rfl⟩

/-- ablaut/ablautref19.asked -/
def c38 : MC :=
  .seq (.reg false [.op .none 2 (.box false (.t 0)),
    .op .none 4 (.mv (.c (.w (.int .i64 0))))]) <|
  .seq (.seq (.reg false [.op .none 6 (.ld true 6 (.t 2)),
    .call .none 7 (.f 23) [(.t 6)],
    .op .none 5 (.mv (.t 7))]) <|
  .seq (.reg false [.op .none 8 (.mv (.t 5)),
    .op .none 9 (.bin .neq (.t 8) (.c (.w (.int .i64 0))))]) <|
  .cond (.t 9)
    (.seq (.reg false [.op .none 10 (.mv (.t 5)),
      .op .none 4 (.mv (.t 10))]) <|
    .ret)
    (.skip)) <|
  .seq (.seq (.reg false [.op .none 11 (.mv (.t 1)),
    .op .none 12 (.len false (.t 11)),
    .op .none 13 (.bin .gtr (.t 12) (.c (.w (.int .i64 200))))]) <|
  .cond (.t 13)
    (.seq (.reg false [.op .none 4 (.mv (.c (.w (.int .i64 3))))]) <|
    .ret)
    (.skip)) <|
  .seq (.reg false [.op .none 4 (.mv (.c (.w (.int .i64 0))))]) <|
  .ret
theorem k38 : FnCode Try.prog 38 [] 14 [4] c38 := ⟨Try.f38, Try.func38, fun xs W => Try.call38 xs W, by kernel_rfl, by kernel_rfl, by kernel_rfl⟩

theorem fok95 (s : Bs) (hs : smB s) : FOk Try.prog 95 [.S s] [] (.B (isNm s)) [] := by
  refine FOk.val k95 (by simp) (by simp) (by decide) ?_
  simp [c95]
  refine Run.loopA (ι := Nat) [] (fun i => i ≤ s.length ∧ allN (s.drop i) i = allN s 0) (fun i => ⟨[(0, .S s), (3, .I i)], [], 1024⟩) (fun i => s.length - i) 0 (by decide) (by simp) ⟨by omega, by simp⟩ ?_
  rintro i ⟨hi, hall⟩ ih
  by_cases h : i < s.length
  · rw [drop_at h] at hall
    simp only [allN] at hall
    have hx : letC s[i] = true ↔ ((97 ≤ s[i].toNat ∧ s[i].toNat ≤ 122) ∨ (65 ≤ s[i].toNat ∧ s[i].toNat ≤ 90)) := by simp [letC]
    have hd : nmC i s[i] = true ↔ (letC s[i] = true ∨ (i ≠ 0 ∧ 48 ≤ s[i].toNat ∧ s[i].toNat ≤ 57)) := by simp [nmC, digC]
    simp (disch := omega) [h, wrap_i64]
    generalize s[i] = c at *
    by_cases hn : nmC i c = true
    · rw [hn, Bool.true_and] at hall
      have hgo := fun s' hle => ih (i + 1) s' ⟨by omega, hall⟩ (by omega) hle
      have hn2 := hd.1 hn
      rw [hx] at hn2
      clear hall ih hd hn hx
      repeat' (first | refine And.intro ?_ ?_ | intro _)
      all_goals first
        | exact hgo _ (by simp)
        | (exfalso; omega)
    · have hn' : nmC i c = false := by simpa using hn
      rw [hn', Bool.false_and] at hall
      have hn2 : ¬ (((97 ≤ c.toNat ∧ c.toNat ≤ 122) ∨ (65 ≤ c.toNat ∧ c.toNat ≤ 90)) ∨ (i ≠ 0 ∧ 48 ≤ c.toNat ∧ c.toNat ≤ 57)) := fun q => hn (hd.2 (q.imp hx.2 id))
      have hE : isNm s = false := by simp [isNm, ← hall]
      rw [hE]
      clear hall ih hd hn hn' hE hx
      repeat' (first | refine And.intro ?_ ?_ | intro _)
      all_goals first
        | exact Ends.v rfl (by simp)
        | (exfalso; omega)
  · rw [drop_no h] at hall
    have hE : isNm s = (decide (s ≠ []) && decide (s.length ≤ 12)) := by rw [isNm, ← hall]; rfl
    rw [hE]
    simp [h]
    refine ⟨fun q => Ends.v rfl ?_, fun q => Ends.v rfl ?_⟩
    · have : s ≠ [] := by rintro rfl; simp at q
      simp [this]
    · have : s = [] := by cases s with
        | nil => rfl
        | cons a s => simp at q
      simp [this]

def stA : Option Bs → List Bs → Bool
  | _, [] => true
  | none, s :: l => stA (some s) l
  | some a, s :: l => ltB a s && stA (some s) l
theorem ascN_st : ∀ (l : List Bs) (p : Option Bs), ascN p l = (l.all isNm && stA p l)
  | [], p => by cases p <;> rfl
  | s :: l, none => by simp [ascN, stA, ascN_st l, Bool.and_assoc]
  | s :: l, some a => by
    simp only [ascN, stA, ascN_st l, List.all_cons]
    cases isNm s <;> cases l.all isNm <;> simp
theorem fok96 (l : List Bs) (hl : wordS l) : FOk Try.prog 96 [.v (.word l)] [] (.B (stA none l)) [] := by
  have hl1 := hl.1
  refine FOk.val k96 (by simp) (by simp) (by decide) ?_
  simp [c96]
  refine Run.loopA (ι := Nat) [] (fun i => 1 ≤ i ∧ stA (pv l i) (l.drop i) = stA none l) (fun i => ⟨[(0, .v (.word l)), (3, .I i)], [], 1024⟩) (fun i => l.length - i) 1 (by decide) (by simp) ⟨by omega, ?_⟩ ?_
  · cases l with
    | nil => simp [pv, stA]
    | cons s l => simp [pv, stA]
  rintro i ⟨hi, hall⟩ ih
  by_cases h : i < l.length
  · rw [drop_at h] at hall
    obtain ⟨j, rfl⟩ : ∃ j, i = j + 1 := ⟨i - 1, by omega⟩
    have h' : j < l.length := by omega
    have hnx := pv_succ l h
    rw [pv_succ l h'] at hall
    simp only [stA] at hall
    have e2 : (((j : Int) + 1) - 1) = (j : Int) := by omega
    cases hlt : ltB l[j] l[j + 1]
    · rw [hlt, Bool.false_and] at hall
      simp (disch := omega) [h, h', wrap_i64, e2, hlt]
      exact Ends.v rfl (by simp [← hall])
    · rw [hlt, Bool.true_and] at hall
      simp (disch := omega) [h, h', wrap_i64, e2, hlt]
      exact ih (j + 1 + 1) _ ⟨by omega, by rw [hnx]; exact hall⟩ (by omega) (by simp)
  · rw [drop_no h] at hall
    have : stA none l = true := by rw [← hall]; cases pv l i <;> rfl
    rw [this]
    simp [h]
    exact Ends.v rfl (by simp)
theorem fok58 (l : List Bs) (hl : wordS l) : FOk Try.prog 58 [.v (.word l)] [] (.B (ascN none l)) [] := by
  have hl1 := hl.1
  have hs := fok96 l hl
  rw [ascN_st]
  generalize stA none l = y at hs ⊢
  refine FOk.val k58 (by simp) (by simp) (by decide) ?_
  simp [c58]
  refine Run.loopA (ι := Nat) [] (fun i => i ≤ l.length ∧ (l.drop i).all isNm = l.all isNm) (fun i => ⟨[(0, .v (.word l)), (3, .I i)], [], 1024⟩) (fun i => l.length - i) 0 (by decide) (by simp) ⟨by omega, by simp⟩ ?_
  rintro i ⟨hi, hall⟩ ih
  by_cases h : i < l.length
  · rw [drop_at h, List.all_cons] at hall
    have hnm := fok95 l[i] (hl.2 _ (List.getElem_mem h))
    simp (disch := omega) [h, wrap_i64]
    refine CallG.lent rfl rfl rfl rfl hnm rfl ?_
    cases hn : isNm l[i]
    · rw [hn, Bool.false_and] at hall
      simp (disch := omega) [wrap_i64]
      exact Ends.v rfl (by rw [← hall]; simp)
    · rw [hn, Bool.true_and] at hall
      simp (disch := omega) [wrap_i64]
      exact ih (i + 1) _ ⟨by omega, hall⟩ (by omega) (by simp)
  · rw [drop_no h] at hall
    rw [← hall]
    simp [h]
    refine CallG.lent rfl rfl rfl rfl hs rfl ?_
    simp
    exact Ends.v rfl (by simp)
theorem fok59 (l : List Int) (n : Nat) (m : Int) (hl : l.length ≤ 200000000000000) : FOk Try.prog 59 [.v (intsV l), .I n, .I m] [] (.B (csB n m l)) [] := by
  refine FOk.val k59 (by simp) (by simp) (by decide) ?_
  simp only [csB]
  simp [c59, intsV]
  refine Run.loopA (ι := Nat) [] (fun i => i ≤ l.length ∧ ∀ x ∈ l.take i, badC m x = false) (fun i => ⟨[(0, .v (.sl 1 (l.map .i))), (1, .I n), (2, .I m), (7, .I i)], [], 1024⟩) (fun i => l.length - i) 0 (by decide) (by simp) (by simp) ?_
  rintro i ⟨hi, hno⟩ ih
  by_cases h : i < l.length
  · have hyes := any_at (badC m) l h
    have hnext := any_take (badC m) l h hno
    generalize hx : l[i] = x at hyes hnext
    by_cases c1 : x < m
    · have c1' : ¬ m ≤ x := by omega
      rw [hyes (by simp [badC, c1])]
      simp (disch := omega) [h, wrap_i64, hx, c1, c1']
      exact Ends.v rfl (by simp)
    have c1' : m ≤ x := by omega
    by_cases c2 : 100000000 < x
    · have c2' : ¬ x ≤ 100000000 := by omega
      rw [hyes (by simp [badC, c2])]
      simp (disch := omega) [h, wrap_i64, hx, c1, c1', c2, c2']
      exact Ends.v rfl (by simp)
    have c2' : x ≤ 100000000 := by omega
    simp (disch := omega) [h, wrap_i64, hx, c1, c1', c2, c2']
    exact ih (i + 1) _ ⟨by omega, hnext (by simp [badC, c1', c2'])⟩ (by omega) (by simp)
  · have hil : i = l.length := by omega
    subst hil
    rw [List.take_length] at hno
    rw [any_end (badC m) l hno]
    by_cases e : l.length = n
    · subst e
      simp
      exact Ends.v rfl (by simp)
    · have e' : ¬ (l.length : Int) = (n : Int) := by omega
      simp [e, e']
      exact Ends.v rfl (by simp)

end Go.Proofs
