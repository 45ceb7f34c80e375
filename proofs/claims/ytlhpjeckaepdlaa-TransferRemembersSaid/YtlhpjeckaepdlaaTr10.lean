/- The walk. -/
import Derived.Test.YtlhpjeckaepdlaaTs8
import Derived.Test.YtlhpjeckaepdlaaProg
import Derived.KernelRfl
set_option linter.all false
set_option maxHeartbeats 2000000
namespace Go.Proofs
open Go Go.AM
attribute [local irreducible] Run Ends
/-- ablaut/ablautref28.isLargeRule -/
def c47 : MC :=
  .seq (.reg false [.op .none 1 (.box false (.t 0)),
    .op .none 2 (.mv (.c (.w (.bool false))))]) <|
  .seq (.seq (.reg false [.op .none 5 (.fa 0 (.t 1)),
    .op .none 6 (.ld false 1 (.t 5)),
    .op .none 7 (.len false (.t 6)),
    .op .none 8 (.bin .gtr (.t 7) (.c (.w (.int .i64 24)))),
    .op .none 9 (.mv (.t 8)),
    .op (.some (9, false)) 10 (.fa 1 (.t 1)),
    .op (.some (9, false)) 11 (.ld false 1 (.t 10)),
    .op (.some (9, false)) 12 (.len false (.t 11)),
    .op (.some (9, false)) 13 (.bin .gtr (.t 12) (.c (.w (.int .i64 24)))),
    .op .none 14 (.pick (.t 9) (.c (.w (.bool true))) (.t 13))]) <|
  .cond (.t 14)
    (.seq (.reg false [.op .none 2 (.mv (.c (.w (.bool true))))]) <|
    .ret)
    (.skip)) <|
  .seq (.seq (.reg false [.op .none 3 (.mv (.c (.w (.int .i64 0))))]) <|
  .block 0 <|
    .loop <|
      .seq (.seq (.reg false [.op .none 15 (.mv (.t 3)),
        .op .none 16 (.fa 0 (.t 1)),
        .op .none 17 (.ld false 1 (.t 16)),
        .op .none 18 (.len false (.t 17)),
        .op .none 19 (.bin .lss (.t 15) (.t 18))]) <|
      .cond (.t 19)
        (.skip)
        (.exit 0)) <|
      .seq (.block 1 <|
        .seq (.reg false [.op .none 22 (.fa 0 (.t 1)),
          .op .none 23 (.ld false 1 (.t 22)),
          .op .none 24 (.mv (.t 3)),
          .op .none 25 (.ia 1 (.t 23) (.t 24)),
          .op .none 26 (.ld false 1 (.t 25)),
          .call .none 27 (.f 46) [(.t 26)]]) <|
        .cond (.t 27)
          (.seq (.reg false [.op .none 2 (.mv (.c (.w (.bool true))))]) <|
          .ret)
          (.skip)) <|
      .reg false [.op .none 20 (.mv (.t 3)),
        .op .none 21 (.bin .add (.t 20) (.c (.w (.int .i64 1)))),
        .op .none 3 (.mv (.t 21))]) <|
  .seq (.seq (.reg false [.op .none 4 (.mv (.c (.w (.int .i64 0))))]) <|
  .block 2 <|
    .loop <|
      .seq (.seq (.reg false [.op .none 28 (.mv (.t 4)),
        .op .none 29 (.fa 1 (.t 1)),
        .op .none 30 (.ld false 1 (.t 29)),
        .op .none 31 (.len false (.t 30)),
        .op .none 32 (.bin .lss (.t 28) (.t 31))]) <|
      .cond (.t 32)
        (.skip)
        (.exit 2)) <|
      .seq (.block 3 <|
        .seq (.reg false [.op .none 35 (.fa 1 (.t 1)),
          .op .none 36 (.ld false 1 (.t 35)),
          .op .none 37 (.mv (.t 4)),
          .op .none 38 (.ia 5 (.t 36) (.t 37)),
          .op .none 39 (.fa 1 (.t 38)),
          .op .none 40 (.ld false 1 (.t 39)),
          .op .none 41 (.len true (.t 40)),
          .op .none 42 (.bin .gtr (.t 41) (.c (.w (.int .i64 400)))),
          .op .none 43 (.mv (.t 42)),
          .op (.some (43, false)) 44 (.fa 1 (.t 1)),
          .op (.some (43, false)) 45 (.ld false 1 (.t 44)),
          .op (.some (43, false)) 46 (.mv (.t 4)),
          .op (.some (43, false)) 47 (.ia 5 (.t 45) (.t 46)),
          .op (.some (43, false)) 48 (.fa 2 (.t 47)),
          .op (.some (43, false)) 49 (.ld false 1 (.t 48)),
          .call (.some (43, false)) 50 (.f 46) [(.t 49)],
          .op .none 51 (.pick (.t 43) (.c (.w (.bool true))) (.t 50)),
          .op .none 52 (.mv (.t 51)),
          .op (.some (52, false)) 53 (.fa 1 (.t 1)),
          .op (.some (52, false)) 54 (.ld false 1 (.t 53)),
          .op (.some (52, false)) 55 (.mv (.t 4)),
          .op (.some (52, false)) 56 (.ia 5 (.t 54) (.t 55)),
          .op (.some (52, false)) 57 (.fa 4 (.t 56)),
          .op (.some (52, false)) 58 (.ld false 1 (.t 57)),
          .call (.some (52, false)) 59 (.f 46) [(.t 58)],
          .op .none 60 (.pick (.t 52) (.c (.w (.bool true))) (.t 59))]) <|
        .cond (.t 60)
          (.seq (.reg false [.op .none 2 (.mv (.c (.w (.bool true))))]) <|
          .ret)
          (.skip)) <|
      .reg false [.op .none 33 (.mv (.t 4)),
        .op .none 34 (.bin .add (.t 33) (.c (.w (.int .i64 1)))),
        .op .none 4 (.mv (.t 34))]) <|
  .seq (.reg false [.op .none 2 (.mv (.c (.w (.bool false))))]) <|
  .ret
theorem k47 : FnCode Try.prog 47 [] 61 [2] c47 := ⟨Try.f47, Try.func47, fun xs W => Try.call47 xs W, by kernel_rfl, by kernel_rfl, by kernel_rfl⟩

/-- ablaut/ablautref28.isTurned -/
def c48 : MC :=
  .seq (.reg false [.op .none 1 (.box false (.t 0)),
    .op .none 2 (.mv (.c (.w (.bool false))))]) <|
  .seq (.reg false [.op .none 3 (.fa 1 (.t 1)),
    .op .none 4 (.ld false 1 (.t 3)),
    .call .none 5 (.f 70) [(.t 4)],
    .op .none 6 (.mv (.t 5)),
    .op (.some (6, true)) 7 (.fa 3 (.t 1)),
    .op (.some (6, true)) 8 (.ld false 1 (.t 7)),
    .call (.some (6, true)) 9 (.f 55) [(.t 8)],
    .op .none 10 (.pick (.t 6) (.t 9) (.c (.w (.bool false)))),
    .op .none 11 (.mv (.t 10)),
    .op (.some (11, true)) 12 (.fa 0 (.t 1)),
    .op (.some (11, true)) 13 (.ld false 1 (.t 12)),
    .op (.some (11, true)) 14 (.bin .neq (.t 13) (.c (.w (.string ⟨#[]⟩)))),
    .op .none 15 (.pick (.t 11) (.t 14) (.c (.w (.bool false)))),
    .op .none 16 (.mv (.t 15)),
    .op (.some (16, true)) 17 (.fa 0 (.t 1)),
    .op (.some (16, true)) 18 (.ld false 1 (.t 17)),
    .call (.some (16, true)) 19 (.f 56) [(.t 18)],
    .op .none 20 (.pick (.t 16) (.t 19) (.c (.w (.bool false)))),
    .op .none 21 (.mv (.t 20)),
    .op (.some (21, true)) 22 (.fa 2 (.t 1)),
    .op (.some (21, true)) 23 (.ld false 1 (.t 22)),
    .op (.some (21, true)) 24 (.bin .neq (.t 23) (.c (.w (.string ⟨#[]⟩)))),
    .op .none 25 (.pick (.t 21) (.t 24) (.c (.w (.bool false)))),
    .op .none 26 (.mv (.t 25)),
    .op (.some (26, true)) 27 (.fa 2 (.t 1)),
    .op (.some (26, true)) 28 (.ld false 1 (.t 27)),
    .call (.some (26, true)) 29 (.f 56) [(.t 28)],
    .op .none 30 (.pick (.t 26) (.t 29) (.c (.w (.bool false)))),
    .op .none 2 (.mv (.t 30))]) <|
  .ret
theorem k48 : FnCode Try.prog 48 [] 31 [2] c48 := ⟨Try.f48, Try.func48, fun xs W => Try.call48 xs W, by kernel_rfl, by kernel_rfl, by kernel_rfl⟩

/-- ablaut/ablautref28.isRule -/
def c49 : MC :=
  .seq (.reg false [.op .none 1 (.box false (.t 0)),
    .op .none 2 (.mv (.c (.w (.bool false))))]) <|
  .seq (.seq (.reg false [.op .none 6 (.fa 0 (.t 1)),
    .op .none 7 (.ld false 1 (.t 6)),
    .op .none 8 (.len false (.t 7)),
    .op .none 9 (.bin .eql (.t 8) (.c (.w (.int .i64 0))))]) <|
  .cond (.t 9)
    (.seq (.reg false [.op .none 2 (.mv (.c (.w (.bool false))))]) <|
    .ret)
    (.skip)) <|
  .seq (.seq (.reg false [.op .none 3 (.mv (.c (.w (.int .i64 0))))]) <|
  .block 0 <|
    .loop <|
      .seq (.seq (.reg false [.op .none 10 (.mv (.t 3)),
        .op .none 11 (.fa 0 (.t 1)),
        .op .none 12 (.ld false 1 (.t 11)),
        .op .none 13 (.len false (.t 12)),
        .op .none 14 (.bin .lss (.t 10) (.t 13))]) <|
      .cond (.t 14)
        (.skip)
        (.exit 0)) <|
      .seq (.block 1 <|
        .seq (.reg false [.op .none 17 (.fa 0 (.t 1)),
          .op .none 18 (.ld false 1 (.t 17)),
          .op .none 19 (.mv (.t 3)),
          .op .none 20 (.ia 1 (.t 18) (.t 19)),
          .op .none 21 (.ld false 1 (.t 20)),
          .call .none 22 (.f 70) [(.t 21)],
          .op .none 23 (.un .not (.t 22))]) <|
        .cond (.t 23)
          (.seq (.reg false [.op .none 2 (.mv (.c (.w (.bool false))))]) <|
          .ret)
          (.skip)) <|
      .reg false [.op .none 15 (.mv (.t 3)),
        .op .none 16 (.bin .add (.t 15) (.c (.w (.int .i64 1)))),
        .op .none 3 (.mv (.t 16))]) <|
  .seq (.seq (.reg false [.op .none 4 (.mv (.c (.w (.int .i64 0))))]) <|
  .block 2 <|
    .loop <|
      .seq (.seq (.reg false [.op .none 24 (.mv (.t 4)),
        .op .none 25 (.fa 1 (.t 1)),
        .op .none 26 (.ld false 1 (.t 25)),
        .op .none 27 (.len false (.t 26)),
        .op .none 28 (.bin .lss (.t 24) (.t 27))]) <|
      .cond (.t 28)
        (.skip)
        (.exit 2)) <|
      .seq (.block 3 <|
        .seq (.reg false [.op .none 31 (.fa 1 (.t 1)),
          .op .none 32 (.ld false 1 (.t 31)),
          .op .none 33 (.mv (.t 4)),
          .op .none 34 (.ia 5 (.t 32) (.t 33)),
          .op .none 35 (.ld true 5 (.t 34)),
          .op .none 5 (.alloc true [(.w (.int .i64 0)), (.w (.string ⟨#[]⟩)), (.sl 1 []), (.w (.int .i64 0)), (.sl 1 [])]),
          .store .none true 5 (.t 5) (.t 35)]) <|
        .seq (.seq (.reg false [.op .none 36 (.fa 0 (.t 5)),
          .op .none 37 (.ld false 1 (.t 36)),
          .op .none 38 (.bin .lss (.t 37) (.c (.w (.int .i64 (-1))))),
          .op .none 39 (.mv (.t 38)),
          .op (.some (39, false)) 40 (.fa 0 (.t 5)),
          .op (.some (39, false)) 41 (.ld false 1 (.t 40)),
          .op (.some (39, false)) 42 (.fa 0 (.t 1)),
          .op (.some (39, false)) 43 (.ld false 1 (.t 42)),
          .op (.some (39, false)) 44 (.len false (.t 43)),
          .op (.some (39, false)) 45 (.bin .geq (.t 41) (.t 44)),
          .op .none 46 (.pick (.t 39) (.c (.w (.bool true))) (.t 45)),
          .op .none 47 (.mv (.t 46)),
          .op (.some (47, false)) 48 (.fa 3 (.t 5)),
          .op (.some (47, false)) 49 (.ld false 1 (.t 48)),
          .op (.some (47, false)) 50 (.bin .lss (.t 49) (.c (.w (.int .i64 (-1))))),
          .op .none 51 (.pick (.t 47) (.c (.w (.bool true))) (.t 50)),
          .op .none 52 (.mv (.t 51)),
          .op (.some (52, false)) 53 (.fa 3 (.t 5)),
          .op (.some (52, false)) 54 (.ld false 1 (.t 53)),
          .op (.some (52, false)) 55 (.fa 0 (.t 1)),
          .op (.some (52, false)) 56 (.ld false 1 (.t 55)),
          .op (.some (52, false)) 57 (.len false (.t 56)),
          .op (.some (52, false)) 58 (.bin .geq (.t 54) (.t 57)),
          .op .none 59 (.pick (.t 52) (.c (.w (.bool true))) (.t 58)),
          .op .none 60 (.mv (.t 59)),
          .op (.some (60, false)) 61 (.fa 2 (.t 5)),
          .op (.some (60, false)) 62 (.ld false 1 (.t 61)),
          .call (.some (60, false)) 63 (.f 55) [(.t 62)],
          .op (.some (60, false)) 64 (.un .not (.t 63)),
          .op .none 65 (.pick (.t 60) (.c (.w (.bool true))) (.t 64)),
          .op .none 66 (.mv (.t 65)),
          .op (.some (66, false)) 67 (.fa 4 (.t 5)),
          .op (.some (66, false)) 68 (.ld false 1 (.t 67)),
          .call (.some (66, false)) 69 (.f 55) [(.t 68)],
          .op (.some (66, false)) 70 (.un .not (.t 69)),
          .op .none 71 (.pick (.t 66) (.c (.w (.bool true))) (.t 70))]) <|
        .cond (.t 71)
          (.seq (.reg false [.op .none 2 (.mv (.c (.w (.bool false))))]) <|
          .ret)
          (.skip)) <|
        .seq (.reg false [.op .none 72 (.fa 3 (.t 5)),
          .op .none 73 (.ld false 1 (.t 72)),
          .op .none 74 (.bin .eql (.t 73) (.c (.w (.int .i64 (-1))))),
          .op .none 75 (.mv (.t 74)),
          .op (.some (75, true)) 76 (.fa 4 (.t 5)),
          .op (.some (75, true)) 77 (.ld false 1 (.t 76)),
          .op (.some (75, true)) 78 (.len false (.t 77)),
          .op (.some (75, true)) 79 (.bin .gtr (.t 78) (.c (.w (.int .i64 0)))),
          .op .none 80 (.pick (.t 75) (.t 79) (.c (.w (.bool false)))),
          .op .none 81 (.mv (.t 80)),
          .op (.some (81, false)) 82 (.fa 0 (.t 5)),
          .op (.some (81, false)) 83 (.ld false 1 (.t 82)),
          .op (.some (81, false)) 84 (.bin .neq (.t 83) (.c (.w (.int .i64 (-1))))),
          .op (.some (81, false)) 85 (.mv (.t 84)),
          .op (.some (85, true)) 86 (.fa 1 (.t 5)),
          .op (.some (85, true)) 87 (.ld false 1 (.t 86)),
          .op (.some (85, true)) 88 (.bin .neq (.t 87) (.c (.w (.string ⟨#[]⟩)))),
          .op (.some (85, true)) 89 (.mv (.t 88)),
          .op (.some (89, false)) 90 (.fa 2 (.t 5)),
          .op (.some (89, false)) 91 (.ld false 1 (.t 90)),
          .op (.some (89, false)) 92 (.len false (.t 91)),
          .op (.some (89, false)) 93 (.bin .gtr (.t 92) (.c (.w (.int .i64 0)))),
          .op (.some (85, true)) 94 (.pick (.t 89) (.c (.w (.bool true))) (.t 93)),
          .op (.some (81, false)) 95 (.pick (.t 85) (.t 94) (.c (.w (.bool false)))),
          .op .none 96 (.pick (.t 81) (.c (.w (.bool true))) (.t 95)),
          .op .none 97 (.mv (.t 96)),
          .op (.some (97, false)) 98 (.fa 0 (.t 5)),
          .op (.some (97, false)) 99 (.ld false 1 (.t 98)),
          .op (.some (97, false)) 100 (.bin .eql (.t 99) (.c (.w (.int .i64 (-1))))),
          .op (.some (97, false)) 101 (.mv (.t 100)),
          .op (.some (101, true)) 102 (.fa 1 (.t 5)),
          .op (.some (101, true)) 103 (.ld false 1 (.t 102)),
          .op (.some (101, true)) 104 (.bin .eql (.t 103) (.c (.w (.string ⟨#[]⟩)))),
          .op (.some (101, true)) 105 (.mv (.t 104)),
          .op (.some (105, false)) 106 (.fa 1 (.t 5)),
          .op (.some (105, false)) 107 (.ld false 1 (.t 106)),
          .call (.some (105, false)) 108 (.f 56) [(.t 107)],
          .op (.some (105, false)) 109 (.un .not (.t 108)),
          .op (.some (101, true)) 110 (.pick (.t 105) (.c (.w (.bool true))) (.t 109)),
          .op (.some (97, false)) 111 (.pick (.t 101) (.t 110) (.c (.w (.bool false)))),
          .op .none 112 (.pick (.t 97) (.c (.w (.bool true))) (.t 111))]) <|
        .cond (.t 112)
          (.seq (.reg false [.op .none 2 (.mv (.c (.w (.bool false))))]) <|
          .ret)
          (.skip)) <|
      .reg false [.op .none 29 (.mv (.t 4)),
        .op .none 30 (.bin .add (.t 29) (.c (.w (.int .i64 1)))),
        .op .none 4 (.mv (.t 30))]) <|
  .seq (.reg false [.op .none 2 (.mv (.c (.w (.bool true))))]) <|
  .ret
theorem k49 : FnCode Try.prog 49 [] 113 [2] c49 := ⟨Try.f49, Try.func49, fun xs W => Try.call49 xs W, by kernel_rfl, by kernel_rfl, by kernel_rfl⟩

/-- ablaut/ablautref28.ValidateUnits -/
def c14 : MC :=
  .seq (.reg false [.op .none 2 (.mv (.c (.w (.int .i64 0))))]) <|
  .seq (.seq (.reg false [.op .none 5 (.mv (.t 0)),
    .op .none 6 (.len false (.t 5)),
    .op .none 7 (.bin .gtr (.t 6) (.c (.w (.int .i64 200))))]) <|
  .cond (.t 7)
    (.seq (.reg false [.op .none 2 (.mv (.c (.w (.int .i64 3))))]) <|
    .ret)
    (.skip)) <|
  .seq (.seq (.reg false [.op .none 3 (.mv (.c (.w (.int .i64 0))))]) <|
  .block 0 <|
    .loop <|
      .seq (.seq (.reg false [.op .none 8 (.mv (.t 3)),
        .op .none 9 (.mv (.t 0)),
        .op .none 10 (.len false (.t 9)),
        .op .none 11 (.bin .lss (.t 8) (.t 10))]) <|
      .cond (.t 11)
        (.skip)
        (.exit 0)) <|
      .seq (.block 1 <|
        .seq (.reg false [.op .none 14 (.mv (.t 0)),
          .op .none 15 (.mv (.t 3)),
          .op .none 16 (.ia 2 (.t 14) (.t 15)),
          .op .none 17 (.fa 0 (.t 16)),
          .op .none 18 (.ld false 1 (.t 17)),
          .op .none 19 (.len true (.t 18)),
          .op .none 20 (.bin .gtr (.t 19) (.c (.w (.int .i64 400)))),
          .op .none 21 (.mv (.t 20)),
          .op (.some (21, false)) 22 (.mv (.t 0)),
          .op (.some (21, false)) 23 (.mv (.t 3)),
          .op (.some (21, false)) 24 (.ia 2 (.t 22) (.t 23)),
          .op (.some (21, false)) 25 (.fa 1 (.t 24)),
          .op (.some (21, false)) 26 (.ld false 1 (.t 25)),
          .call (.some (21, false)) 27 (.f 46) [(.t 26)],
          .op .none 28 (.pick (.t 21) (.c (.w (.bool true))) (.t 27))]) <|
        .cond (.t 28)
          (.seq (.reg false [.op .none 2 (.mv (.c (.w (.int .i64 3))))]) <|
          .ret)
          (.skip)) <|
      .reg false [.op .none 12 (.mv (.t 3)),
        .op .none 13 (.bin .add (.t 12) (.c (.w (.int .i64 1)))),
        .op .none 3 (.mv (.t 13))]) <|
  .seq (.seq (.reg false [.op .none 4 (.mv (.c (.w (.int .i64 0))))]) <|
  .block 2 <|
    .loop <|
      .seq (.seq (.reg false [.op .none 29 (.mv (.t 4)),
        .op .none 30 (.mv (.t 0)),
        .op .none 31 (.len false (.t 30)),
        .op .none 32 (.bin .lss (.t 29) (.t 31))]) <|
      .cond (.t 32)
        (.skip)
        (.exit 2)) <|
      .seq (.block 3 <|
        .seq (.reg false [.op .none 35 (.mv (.t 0)),
          .op .none 36 (.mv (.t 4)),
          .op .none 37 (.ia 2 (.t 35) (.t 36)),
          .op .none 38 (.fa 1 (.t 37)),
          .op .none 39 (.ld false 1 (.t 38)),
          .call .none 40 (.f 55) [(.t 39)],
          .op .none 41 (.un .not (.t 40)),
          .op .none 42 (.mv (.t 41)),
          .op (.some (42, false)) 43 (.mv (.t 0)),
          .op (.some (42, false)) 44 (.mv (.t 4)),
          .op (.some (42, false)) 45 (.ia 2 (.t 43) (.t 44)),
          .op (.some (42, false)) 46 (.fa 0 (.t 45)),
          .op (.some (42, false)) 47 (.ld false 1 (.t 46)),
          .call (.some (42, false)) 48 (.f 56) [(.t 47)],
          .op (.some (42, false)) 49 (.un .not (.t 48)),
          .op .none 50 (.pick (.t 42) (.c (.w (.bool true))) (.t 49))]) <|
        .cond (.t 50)
          (.seq (.reg false [.op .none 2 (.mv (.c (.w (.int .i64 1))))]) <|
          .ret)
          (.skip)) <|
      .reg false [.op .none 33 (.mv (.t 4)),
        .op .none 34 (.bin .add (.t 33) (.c (.w (.int .i64 1)))),
        .op .none 4 (.mv (.t 34))]) <|
  .seq (.reg false [.op .none 2 (.mv (.c (.w (.int .i64 0))))]) <|
  .ret
theorem k14 : FnCode Try.prog 14 [] 51 [2] c14 := ⟨Try.f14, Try.func14, fun xs W => Try.call14 xs W, by kernel_rfl, by kernel_rfl, by kernel_rfl⟩

/-- ablaut/ablautref02.IsLong -/
def c23 : MC :=
  .seq (.reg false [.op .none 2 (.mv (.c (.w (.bool false))))]) <|
  .seq (.reg false [.op .none 3 (.mv (.c (.w (.int .i64 0))))]) <|
  .seq (.seq (.reg false [.op .none 4 (.mv (.c (.w (.int .i64 0))))]) <|
  .block 0 <|
    .loop <|
      .seq (.seq (.reg false [.op .none 6 (.mv (.t 4)),
        .op .none 7 (.mv (.t 0)),
        .op .none 8 (.len false (.t 7)),
        .op .none 9 (.bin .lss (.t 6) (.t 8)),
        .op .none 10 (.mv (.t 9)),
        .op (.some (10, true)) 11 (.mv (.t 3)),
        .op (.some (10, true)) 12 (.bin .leq (.t 11) (.c (.w (.int .i64 16384)))),
        .op .none 13 (.pick (.t 10) (.t 12) (.c (.w (.bool false))))]) <|
      .cond (.t 13)
        (.skip)
        (.exit 0)) <|
      .seq (.block 1 <|
        .seq (.reg false [.op .none 5 (.mv (.c (.w (.int .i64 0))))]) <|
        .block 2 <|
          .loop <|
            .seq (.seq (.reg false [.op .none 16 (.mv (.t 5)),
              .op .none 17 (.mv (.t 0)),
              .op .none 18 (.mv (.t 4)),
              .op .none 19 (.ia 1 (.t 17) (.t 18)),
              .op .none 20 (.ld false 1 (.t 19)),
              .op .none 21 (.len false (.t 20)),
              .op .none 22 (.bin .lss (.t 16) (.t 21)),
              .op .none 23 (.mv (.t 22)),
              .op (.some (23, true)) 24 (.mv (.t 3)),
              .op (.some (23, true)) 25 (.bin .leq (.t 24) (.c (.w (.int .i64 16384)))),
              .op .none 26 (.pick (.t 23) (.t 25) (.c (.w (.bool false))))]) <|
            .cond (.t 26)
              (.skip)
              (.exit 2)) <|
            .seq (.block 3 <|
              .reg false [.op .none 29 (.mv (.t 3)),
                .op .none 30 (.mv (.t 0)),
                .op .none 31 (.mv (.t 4)),
                .op .none 32 (.ia 1 (.t 30) (.t 31)),
                .op .none 33 (.ld false 1 (.t 32)),
                .op .none 34 (.mv (.t 5)),
                .op .none 35 (.ia 1 (.t 33) (.t 34)),
                .op .none 36 (.ld false 1 (.t 35)),
                .op .none 37 (.len true (.t 36)),
                .op .none 38 (.bin .add (.c (.w (.int .i64 1))) (.t 37)),
                .op .none 39 (.bin .add (.t 29) (.t 38)),
                .op .none 3 (.mv (.t 39))]) <|
            .reg false [.op .none 27 (.mv (.t 5)),
              .op .none 28 (.bin .add (.t 27) (.c (.w (.int .i64 1)))),
              .op .none 5 (.mv (.t 28))]) <|
      .reg false [.op .none 14 (.mv (.t 4)),
        .op .none 15 (.bin .add (.t 14) (.c (.w (.int .i64 1)))),
        .op .none 4 (.mv (.t 15))]) <|
  .seq (.reg false [.op .none 40 (.mv (.t 3)),
    .op .none 41 (.bin .gtr (.t 40) (.c (.w (.int .i64 16384)))),
    .op .none 2 (.mv (.t 41))]) <|
  .ret
theorem k23 : FnCode Try.prog 23 [] 42 [2] c23 := ⟨Try.f23, Try.func23, fun xs W => Try.call23 xs W, by kernel_rfl, by kernel_rfl, by kernel_rfl⟩

theorem lngW_one (b : Bs) : lngW [b] = decide (400 < b.length) := by simp [lngW]
theorem slotLng_eq (o : Int) (b : Bs) (t : List Bs) (f : Int) (k : List Bs) (u : Unit) : slotLng (o, b, t, f, k, u) = (decide (400 < b.length) || (lngW t || lngW k)) := by
  simp only [slotLng, List.any_cons, List.any_nil, lngW_one, Bool.or_false]
  cases decide (400 < b.length) <;> cases lngW t <;> cases lngW k <;> rfl
theorem turnLng_eq (f : Bs) (i : List Bs) (t : Bs) (p : List Bs) (u : Unit) : turnLng (f, i, t, p, u) = (decide (400 < f.length) || (decide (400 < t.length) || (lngW i || lngW p))) := by
  have e : lngW [f, t] = (decide (400 < f.length) || decide (400 < t.length)) := by simp [lngW]
  simp only [turnLng, List.any_cons, List.any_nil, e, Bool.or_false]
  cases decide (400 < f.length) <;> cases decide (400 < t.length) <;> cases lngW i <;> cases lngW p <;> rfl
theorem unitLng_eq (b : Bs) (t : List Bs) (u : Unit) : unitLng (b, t, u) = (decide (400 < b.length) || lngW t) := by
  simp only [unitLng, List.any_cons, List.any_nil, lngW_one, Bool.or_false]
  cases decide (400 < b.length) <;> cases lngW t <;> rfl
theorem fok47 (r : ShufT) (hr : shufS r) : FOk Try.prog 47 [.v (shufV r)] [] (.B (shufLng r)) [] := by
  obtain ⟨p, o, u⟩ := r
  obtain ⟨p1, p2, p3, p4⟩ := hr
  simp only at p1 p2 p3 p4
  refine FOk.val k47 (by simp) (by simp) (by decide) ?_
  by_cases c1 : 24 < p.length
  · simp [c47, shufV, wordsV, c1]
    exact Ends.v rfl (by simp [shufLng, c1])
  by_cases c2 : 24 < o.length
  · simp [c47, shufV, wordsV, c1, c2]
    exact Ends.v rfl (by simp [shufLng, c1, c2])
  have e : shufLng (p, o, u) = (p.any lngW || o.any slotLng) := by simp only [shufLng, c1, c2]; simp
  rw [e]
  simp [c47, shufV, wordsV, c1, c2]
  refine Run.loopA (ι := Nat) [(1, 1)] (fun i => i ≤ p.length ∧ ∀ s ∈ p.take i, lngW s = false) (fun i => ⟨[(1, .ptr 1 0 0), (3, .I i)], [(1, ⟨false, 2, [shufV (p, o, u)]⟩)], 1024⟩) (fun i => p.length - i) 0 (by decide) (by simp [shufV, wordsV]) (by simp) ?_
  rintro i ⟨hi, hno⟩ ih
  by_cases h : i < p.length
  · have hyes := any_at lngW p h
    have hnext := any_take lngW p h hno
    have hc := fok46 p[i] (p2 _ (List.getElem_mem h)).1
    generalize lngW p[i] = x1 at hc hyes hnext
    simp (disch := omega) [h, wrap_i64, shufV, wordsV]
    refine CallG.lent rfl rfl rfl rfl hc rfl ?_
    cases x1
    · simp (disch := omega) [wrap_i64]
      exact ih (i + 1) _ ⟨by omega, hnext rfl⟩ (by omega) (by simp [shufV, wordsV])
    · simp (disch := omega) [wrap_i64]
      exact Ends.v rfl (by simp [hyes rfl])
  have hiR : i = p.length := by omega
  subst hiR
  rw [List.take_length] at hno
  rw [any_end lngW p hno]
  clear ih h hno
  simp [shufV, wordsV]
  refine Run.loopA (ι := Nat) [(1, 1)] (fun i => i ≤ o.length ∧ ∀ s ∈ o.take i, slotLng s = false) (fun i => ⟨[(1, .ptr 1 0 0), (4, .I i)], [(1, ⟨false, 2, [shufV (p, o, u)]⟩)], 1024⟩) (fun i => o.length - i) 0 (by decide) (by simp [shufV, wordsV]) (by simp) ?_
  rintro i ⟨hi, hno⟩ ih
  by_cases h : i < o.length
  · have hs := p4 _ (List.getElem_mem h)
    have hyes := any_at slotLng o h
    have hnext := any_take slotLng o h hno
    generalize hx : o[i] = s at hs hyes hnext
    obtain ⟨a, b, t, f, k, u2⟩ := s
    have c3 := fok46 t hs.1.1
    have c4 := fok46 k hs.2.1.1
    rw [slotLng_eq] at hyes hnext
    generalize lngW t = x1 at c3 hyes hnext
    generalize lngW k = x2 at c4 hyes hnext
    by_cases d : 400 < b.length
    · simp (disch := omega) [h, wrap_i64, shufV, wordsV, hx, slotV, d]
      exact Ends.v rfl (by simp [hyes (by simp [d])])
    simp (disch := omega) [h, wrap_i64, shufV, wordsV, hx, slotV, d]
    refine CallG.lent rfl rfl rfl rfl c3 rfl ?_
    cases x1
    case true =>
      simp (disch := omega) [wrap_i64]
      exact Ends.v rfl (by simp [hyes (by simp)])
    simp (disch := omega) [h, wrap_i64, shufV, wordsV, hx, slotV, d]
    refine CallG.lent rfl rfl rfl rfl c4 rfl ?_
    cases x2
    · simp (disch := omega) [wrap_i64]
      exact ih (i + 1) _ ⟨by omega, hnext (by simp [d])⟩ (by omega) (by simp [shufV, wordsV])
    · simp (disch := omega) [wrap_i64]
      exact Ends.v rfl (by simp [hyes (by simp)])
  · have hiR : i = o.length := by omega
    subst hiR
    rw [List.take_length] at hno
    rw [any_end slotLng o hno]
    simp [shufV, wordsV]
    exact Ends.v rfl (by simp)
theorem fok48 (r : TurnT) (hr : turnS r) : FOk Try.prog 48 [.v (turnV r)] [] (.B (!turnBad r)) [] := by
  obtain ⟨f, i, t, p, u⟩ := r
  obtain ⟨q1, q2, q3, q4⟩ := hr
  simp only at q1 q2 q3 q4
  have c1 := fok70 i q1
  have c2 := fok55 p q2
  have c3 := fok56 f q3
  have c4 := fok56 t q4
  refine FOk.val k48 (by simp) (by simp) (by decide) ?_
  simp only [turnBad, Bool.not_not]
  generalize ascN none i = x1 at c1 ⊢
  generalize isNms [] p = x2 at c2 ⊢
  generalize isPl f = x3 at c3 ⊢
  generalize isPl t = x4 at c4 ⊢
  simp [c48, turnV]
  refine CallG.lent rfl rfl rfl rfl c1 rfl ?_
  cases x1
  case false =>
    simp
    exact Ends.v rfl (by simp)
  simp
  refine CallG.lent rfl rfl rfl rfl c2 rfl ?_
  cases x2
  case false =>
    simp
    exact Ends.v rfl (by simp)
  by_cases d1 : f = []
  · simp [d1]
    exact Ends.v rfl (by simp)
  simp [d1]
  refine CallG.lent rfl rfl rfl rfl c3 rfl ?_
  cases x3
  case false =>
    simp
    exact Ends.v rfl (by simp)
  by_cases d2 : t = []
  · simp [d2]
    exact Ends.v rfl (by simp)
  simp [d2]
  refine CallG.lent rfl rfl rfl rfl c4 rfl ?_
  simp
  exact Ends.v rfl (by simp)

end Go.Proofs
