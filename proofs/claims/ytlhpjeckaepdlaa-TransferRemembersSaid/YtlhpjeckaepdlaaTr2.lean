/- The walk. -/
import Derived.Test.YtlhpjeckaepdlaaTr1
import Derived.Test.YtlhpjeckaepdlaaProg
import Derived.KernelRfl
set_option linter.all false
set_option maxHeartbeats 2000000
namespace Go.Proofs
open Go Go.AM
attribute [local irreducible] Run Ends
/-- slices.Index[[]string,string] -/
def c81 : MC :=
  .seq (.reg false [.op .none 4 (.mv (.c (.w (.int .i64 0))))]) <|
  .seq (.seq (.reg false [.op .none 6 (.mv (.t 0)),
    .op .none 7 (.len false (.t 6)),
    .op .none 8 (.mv (.c (.w (.int .i64 0))))]) <|
  .block 0 <|
    .loop <|
      .seq (.reg false [.op .none 9 (.bin .lss (.t 8) (.t 7))]) <|
      .seq (.cond (.t 9)
        (.skip)
        (.exit 0)) <|
      .seq (.block 1 <|
        .seq (.reg false [.op .none 10 (.mv (.t 8)),
          .op .none 5 (.mv (.t 10))]) <|
        .seq (.reg false [.op .none 11 (.mv (.t 1)),
          .op .none 12 (.mv (.t 0)),
          .op .none 13 (.mv (.t 5)),
          .op .none 14 (.ia 1 (.t 12) (.t 13)),
          .op .none 15 (.ld false 1 (.t 14)),
          .op .none 16 (.bin .eql (.t 11) (.t 15))]) <|
        .cond (.t 16)
          (.seq (.reg false [.op .none 17 (.mv (.t 5)),
            .op .none 4 (.mv (.t 17))]) <|
          .ret)
          (.skip)) <|
      .reg false [.op .none 18 (.bin .add (.t 8) (.c (.w (.int .i64 1)))),
        .op .none 8 (.mv (.t 18))]) <|
  .seq (.reg false [.op .none 4 (.mv (.c (.w (.int .i64 (-1)))))]) <|
  .ret
theorem k81 : FnCode Try.prog 81 [] 19 [4] c81 := ⟨Try.f81, Try.func81, fun xs W => Try.call81 xs W, by kernel_rfl, by kernel_rfl, by kernel_rfl⟩

/-- slices.Contains[[]string,string] -/
def c69 : MC :=
  .seq (.reg false [.op .none 4 (.mv (.c (.w (.bool false))))]) <|
  .seq (.reg false [.op .none 5 (.mv (.t 0)),
    .op .none 6 (.mv (.t 1)),
    .call .none 7 (.f 81) [(.t 5), (.t 6)],
    .op .none 8 (.bin .geq (.t 7) (.c (.w (.int .i64 0)))),
    .op .none 4 (.mv (.t 8))]) <|
  .ret
theorem k69 : FnCode Try.prog 69 [] 9 [4] c69 := ⟨Try.f69, Try.func69, fun xs W => Try.call69 xs W, by kernel_rfl, by kernel_rfl, by kernel_rfl⟩

/-- ablaut/transfer.isNames -/
def c36 : MC :=
  .seq (.reg false [.op .none 2 (.mv (.c (.w (.bool false))))]) <|
  .seq (.seq (.reg false [.op .none 5 (.mv (.t 0)),
    .op .none 6 (.len false (.t 5)),
    .op .none 7 (.mv (.c (.w (.int .i64 0))))]) <|
  .block 0 <|
    .loop <|
      .seq (.reg false [.op .none 8 (.bin .lss (.t 7) (.t 6))]) <|
      .seq (.cond (.t 8)
        (.skip)
        (.exit 0)) <|
      .seq (.block 1 <|
        .seq (.reg false [.op .none 9 (.mv (.t 7)),
          .op .none 10 (.ia 1 (.t 5) (.t 7)),
          .op .none 11 (.ld false 1 (.t 10)),
          .op .none 3 (.mv (.t 9)),
          .op .none 4 (.mv (.t 11))]) <|
        .seq (.reg false [.op .none 12 (.mv (.t 4)),
          .call .none 13 (.f 85) [(.t 12)],
          .op .none 14 (.un .not (.t 13)),
          .op .none 15 (.mv (.t 14)),
          .op (.some (15, false)) 16 (.mv (.t 0)),
          .op (.some (15, false)) 17 (.mv (.t 3)),
          .op (.some (15, false)) 18 (.slc false 1 (.t 16) .none (.some (.t 17))),
          .op (.some (15, false)) 19 (.mv (.t 4)),
          .call (.some (15, false)) 20 (.f 69) [(.t 18), (.t 19)],
          .op .none 21 (.pick (.t 15) (.c (.w (.bool true))) (.t 20))]) <|
        .cond (.t 21)
          (.seq (.reg false [.op .none 2 (.mv (.c (.w (.bool false))))]) <|
          .ret)
          (.skip)) <|
      .reg false [.op .none 22 (.bin .add (.t 7) (.c (.w (.int .i64 1)))),
        .op .none 7 (.mv (.t 22))]) <|
  .seq (.reg false [.op .none 2 (.mv (.c (.w (.bool true))))]) <|
  .ret
theorem k36 : FnCode Try.prog 36 [] 23 [2] c36 := ⟨Try.f36, Try.func36, fun xs W => Try.call36 xs W, by kernel_rfl, by kernel_rfl, by kernel_rfl⟩

/-- cmp.isNaN[string] -/
def c117 : MC :=
  .seq (.reg false [.op .none 2 (.mv (.c (.w (.bool false))))]) <|
  .seq (.reg false [.op .none 3 (.mv (.t 0)),
    .op .none 4 (.mv (.t 0)),
    .op .none 5 (.bin .neq (.t 3) (.t 4)),
    .op .none 2 (.mv (.t 5))]) <|
  .ret
theorem k117 : FnCode Try.prog 117 [] 6 [2] c117 := ⟨Try.f117, Try.func117, fun xs W => Try.call117 xs W, by kernel_rfl, by kernel_rfl, by kernel_rfl⟩

/-- cmp.Less[string] -/
def c111 : MC :=
  .seq (.reg false [.op .none 4 (.mv (.c (.w (.bool false))))]) <|
  .seq (.reg false [.op .none 5 (.mv (.t 0)),
    .call .none 6 (.f 117) [(.t 5)],
    .op .none 7 (.mv (.t 6)),
    .op (.some (7, true)) 8 (.mv (.t 1)),
    .call (.some (7, true)) 9 (.f 117) [(.t 8)],
    .op (.some (7, true)) 10 (.un .not (.t 9)),
    .op .none 11 (.pick (.t 7) (.t 10) (.c (.w (.bool false)))),
    .op .none 12 (.mv (.t 11)),
    .op (.some (12, false)) 13 (.mv (.t 0)),
    .op (.some (12, false)) 14 (.mv (.t 1)),
    .op (.some (12, false)) 15 (.bin .lss (.t 13) (.t 14)),
    .op .none 16 (.pick (.t 12) (.c (.w (.bool true))) (.t 15)),
    .op .none 4 (.mv (.t 16))]) <|
  .ret
theorem k111 : FnCode Try.prog 111 [] 17 [4] c111 := ⟨Try.f111, Try.func111, fun xs W => Try.call111 xs W, by kernel_rfl, by kernel_rfl, by kernel_rfl⟩

/-- slices.IsSorted[[]string,string] -/
def c84 : MC :=
  .seq (.reg false [.op .none 2 (.mv (.c (.w (.bool false))))]) <|
  .seq (.seq (.reg false [.op .none 4 (.mv (.t 0)),
    .op .none 5 (.len false (.t 4)),
    .op .none 6 (.bin .sub (.t 5) (.c (.w (.int .i64 1)))),
    .op .none 3 (.mv (.t 6))]) <|
  .block 0 <|
    .loop <|
      .seq (.seq (.reg false [.op .none 7 (.mv (.t 3)),
        .op .none 8 (.bin .gtr (.t 7) (.c (.w (.int .i64 0))))]) <|
      .cond (.t 8)
        (.skip)
        (.exit 0)) <|
      .seq (.block 1 <|
        .seq (.reg true [.op .none 11 (.mv (.t 0)),
          .op .none 12 (.mv (.t 3)),
          .op .none 13 (.ia 1 (.t 11) (.t 12)),
          .op .none 14 (.ld false 1 (.t 13)),
          .op .none 15 (.mv (.t 0)),
          .op .none 16 (.mv (.t 3)),
          .op .none 17 (.bin .sub (.t 16) (.c (.w (.int .i64 1)))),
          .op .none 18 (.ia 1 (.t 15) (.t 17)),
          .op .none 19 (.ld false 1 (.t 18)),
          .call .none 20 (.f 111) [(.t 14), (.t 19)]]) <|
        .cond (.t 20)
          (.seq (.reg false [.op .none 2 (.mv (.c (.w (.bool false))))]) <|
          .ret)
          (.skip)) <|
      .reg false [.op .none 9 (.mv (.t 3)),
        .op .none 10 (.bin .sub (.t 9) (.c (.w (.int .i64 1)))),
        .op .none 3 (.mv (.t 10))]) <|
  .seq (.reg false [.op .none 2 (.mv (.c (.w (.bool true))))]) <|
  .ret
theorem k84 : FnCode Try.prog 84 [] 21 [2] c84 := ⟨Try.f84, Try.func84, fun xs W => Try.call84 xs W, by kernel_rfl, by kernel_rfl, by kernel_rfl⟩

/-- ablaut/transfer.isSet -/
def c35 : MC :=
  .seq (.reg false [.op .none 2 (.mv (.c (.w (.bool false))))]) <|
  .seq (.reg false [.op .none 3 (.mv (.t 0)),
    .call .none 4 (.f 36) [(.t 3)],
    .op .none 5 (.mv (.t 4)),
    .op (.some (5, true)) 6 (.mv (.t 0)),
    .call (.some (5, true)) 7 (.f 84) [(.t 6)],
    .op .none 8 (.pick (.t 5) (.t 7) (.c (.w (.bool false)))),
    .op .none 2 (.mv (.t 8))]) <|
  .ret
theorem k35 : FnCode Try.prog 35 [] 9 [2] c35 := ⟨Try.f35, Try.func35, fun xs W => Try.call35 xs W, by kernel_rfl, by kernel_rfl, by kernel_rfl⟩

/-- ablaut/transfer.isPlain -/
def c37 : MC :=
  .seq (.reg false [.op .none 2 (.mv (.c (.w (.bool false))))]) <|
  .seq (.seq (.reg false [.op .none 4 (.mv (.t 0)),
    .op .none 5 (.len true (.t 4)),
    .op .none 6 (.mv (.c (.w (.int .i64 0))))]) <|
  .block 0 <|
    .loop <|
      .seq (.reg false [.op .none 7 (.bin .lss (.t 6) (.t 5))]) <|
      .seq (.cond (.t 7)
        (.skip)
        (.exit 0)) <|
      .seq (.block 1 <|
        .seq (.reg false [.op .none 8 (.mv (.t 6)),
          .op .none 3 (.mv (.t 8))]) <|
        .seq (.reg false [.op .none 9 (.mv (.t 0)),
          .op .none 10 (.mv (.t 3)),
          .op .none 11 (.six (.t 9) (.t 10)),
          .op .none 12 (.bin .lss (.t 11) (.c (.w (.int .u8 33)))),
          .op .none 13 (.mv (.t 12)),
          .op (.some (13, false)) 14 (.mv (.t 0)),
          .op (.some (13, false)) 15 (.mv (.t 3)),
          .op (.some (13, false)) 16 (.six (.t 14) (.t 15)),
          .op (.some (13, false)) 17 (.bin .gtr (.t 16) (.c (.w (.int .u8 126)))),
          .op .none 18 (.pick (.t 13) (.c (.w (.bool true))) (.t 17))]) <|
        .cond (.t 18)
          (.seq (.reg false [.op .none 2 (.mv (.c (.w (.bool false))))]) <|
          .ret)
          (.skip)) <|
      .reg false [.op .none 19 (.bin .add (.t 6) (.c (.w (.int .i64 1)))),
        .op .none 6 (.mv (.t 19))]) <|
  .seq (.reg false [.op .none 2 (.mv (.c (.w (.bool true))))]) <|
  .ret
theorem k37 : FnCode Try.prog 37 [] 20 [2] c37 := ⟨Try.f37, Try.func37, fun xs W => Try.call37 xs W, by kernel_rfl, by kernel_rfl, by kernel_rfl⟩

/-- ablaut/ablautref28.has -/
def c71 : MC :=
  .seq (.reg false [.op .none 4 (.mv (.c (.w (.bool false))))]) <|
  .seq (.seq (.reg false [.op .none 5 (.mv (.c (.w (.int .i64 0))))]) <|
  .block 0 <|
    .loop <|
      .seq (.seq (.reg false [.op .none 6 (.mv (.t 5)),
        .op .none 7 (.mv (.t 0)),
        .op .none 8 (.len false (.t 7)),
        .op .none 9 (.bin .lss (.t 6) (.t 8))]) <|
      .cond (.t 9)
        (.skip)
        (.exit 0)) <|
      .seq (.block 1 <|
        .seq (.reg false [.op .none 12 (.mv (.t 0)),
          .op .none 13 (.mv (.t 5)),
          .op .none 14 (.ia 1 (.t 12) (.t 13)),
          .op .none 15 (.ld false 1 (.t 14)),
          .op .none 16 (.mv (.t 1)),
          .op .none 17 (.bin .eql (.t 15) (.t 16))]) <|
        .cond (.t 17)
          (.seq (.reg false [.op .none 4 (.mv (.c (.w (.bool true))))]) <|
          .ret)
          (.skip)) <|
      .reg false [.op .none 10 (.mv (.t 5)),
        .op .none 11 (.bin .add (.t 10) (.c (.w (.int .i64 1)))),
        .op .none 5 (.mv (.t 11))]) <|
  .seq (.reg false [.op .none 4 (.mv (.c (.w (.bool false))))]) <|
  .ret
theorem k71 : FnCode Try.prog 71 [] 18 [4] c71 := ⟨Try.f71, Try.func71, fun xs W => Try.call71 xs W, by kernel_rfl, by kernel_rfl, by kernel_rfl⟩

/-- ablaut/ablautref28.isRow -/
def c55 : MC :=
  .seq (.reg false [.op .none 2 (.mv (.c (.w (.bool false))))]) <|
  .seq (.seq (.reg false [.op .none 3 (.mv (.c (.w (.int .i64 0))))]) <|
  .block 0 <|
    .loop <|
      .seq (.seq (.reg false [.op .none 4 (.mv (.t 3)),
        .op .none 5 (.mv (.t 0)),
        .op .none 6 (.len false (.t 5)),
        .op .none 7 (.bin .lss (.t 4) (.t 6))]) <|
      .cond (.t 7)
        (.skip)
        (.exit 0)) <|
      .seq (.block 1 <|
        .seq (.reg true [.op .none 10 (.mv (.t 0)),
          .op .none 11 (.mv (.t 3)),
          .op .none 12 (.ia 1 (.t 10) (.t 11)),
          .op .none 13 (.ld false 1 (.t 12)),
          .call .none 14 (.f 94) [(.t 13)],
          .op .none 15 (.un .not (.t 14)),
          .op .none 16 (.mv (.t 15)),
          .op (.some (16, false)) 17 (.mv (.t 0)),
          .op (.some (16, false)) 18 (.mv (.t 3)),
          .op (.some (16, false)) 19 (.slc false 1 (.t 17) .none (.some (.t 18))),
          .op (.some (16, false)) 20 (.mv (.t 0)),
          .op (.some (16, false)) 21 (.mv (.t 3)),
          .op (.some (16, false)) 22 (.ia 1 (.t 20) (.t 21)),
          .op (.some (16, false)) 23 (.ld false 1 (.t 22)),
          .call (.some (16, false)) 24 (.f 71) [(.t 19), (.t 23)],
          .op .none 25 (.pick (.t 16) (.c (.w (.bool true))) (.t 24))]) <|
        .cond (.t 25)
          (.seq (.reg false [.op .none 2 (.mv (.c (.w (.bool false))))]) <|
          .ret)
          (.skip)) <|
      .reg false [.op .none 8 (.mv (.t 3)),
        .op .none 9 (.bin .add (.t 8) (.c (.w (.int .i64 1)))),
        .op .none 3 (.mv (.t 9))]) <|
  .seq (.reg false [.op .none 2 (.mv (.c (.w (.bool true))))]) <|
  .ret
theorem k55 : FnCode Try.prog 55 [] 26 [2] c55 := ⟨Try.f55, Try.func55, fun xs W => Try.call55 xs W, by kernel_rfl, by kernel_rfl, by kernel_rfl⟩

/-- ablaut/ablautref20.IsNames -/
def c70 : MC :=
  .seq (.reg false [.op .none 2 (.mv (.c (.w (.bool false))))]) <|
  .seq (.seq (.reg false [.op .none 3 (.mv (.c (.w (.int .i64 0))))]) <|
  .block 0 <|
    .loop <|
      .seq (.seq (.reg false [.op .none 4 (.mv (.t 3)),
        .op .none 5 (.mv (.t 0)),
        .op .none 6 (.len false (.t 5)),
        .op .none 7 (.bin .lss (.t 4) (.t 6))]) <|
      .cond (.t 7)
        (.skip)
        (.exit 0)) <|
      .seq (.block 1 <|
        .seq (.reg true [.op .none 10 (.mv (.t 0)),
          .op .none 11 (.mv (.t 3)),
          .op .none 12 (.ia 1 (.t 10) (.t 11)),
          .op .none 13 (.ld false 1 (.t 12)),
          .call .none 14 (.f 94) [(.t 13)],
          .op .none 15 (.un .not (.t 14)),
          .op .none 16 (.mv (.t 15)),
          .op (.some (16, false)) 17 (.mv (.t 3)),
          .op (.some (16, false)) 18 (.bin .gtr (.t 17) (.c (.w (.int .i64 0)))),
          .op (.some (16, false)) 19 (.mv (.t 18)),
          .op (.some (19, true)) 20 (.mv (.t 0)),
          .op (.some (19, true)) 21 (.mv (.t 3)),
          .op (.some (19, true)) 22 (.bin .sub (.t 21) (.c (.w (.int .i64 1)))),
          .op (.some (19, true)) 23 (.ia 1 (.t 20) (.t 22)),
          .op (.some (19, true)) 24 (.ld false 1 (.t 23)),
          .op (.some (19, true)) 25 (.mv (.t 0)),
          .op (.some (19, true)) 26 (.mv (.t 3)),
          .op (.some (19, true)) 27 (.ia 1 (.t 25) (.t 26)),
          .op (.some (19, true)) 28 (.ld false 1 (.t 27)),
          .op (.some (19, true)) 29 (.bin .geq (.t 24) (.t 28)),
          .op (.some (16, false)) 30 (.pick (.t 19) (.t 29) (.c (.w (.bool false)))),
          .op .none 31 (.pick (.t 16) (.c (.w (.bool true))) (.t 30))]) <|
        .cond (.t 31)
          (.seq (.reg false [.op .none 2 (.mv (.c (.w (.bool false))))]) <|
          .ret)
          (.skip)) <|
      .reg false [.op .none 8 (.mv (.t 3)),
        .op .none 9 (.bin .add (.t 8) (.c (.w (.int .i64 1)))),
        .op .none 3 (.mv (.t 9))]) <|
  .seq (.reg false [.op .none 2 (.mv (.c (.w (.bool true))))]) <|
  .ret
theorem k70 : FnCode Try.prog 70 [] 32 [2] c70 := ⟨Try.f70, Try.func70, fun xs W => Try.call70 xs W, by kernel_rfl, by kernel_rfl, by kernel_rfl⟩

/-- ablaut/ablautref28.isBase -/
def c56 : MC :=
  .seq (.reg false [.op .none 2 (.mv (.c (.w (.bool false))))]) <|
  .seq (.seq (.reg false [.op .none 3 (.mv (.c (.w (.int .i64 0))))]) <|
  .block 0 <|
    .loop <|
      .seq (.seq (.reg false [.op .none 4 (.mv (.t 3)),
        .op .none 5 (.mv (.t 0)),
        .op .none 6 (.len true (.t 5)),
        .op .none 7 (.bin .lss (.t 4) (.t 6))]) <|
      .cond (.t 7)
        (.skip)
        (.exit 0)) <|
      .seq (.block 1 <|
        .seq (.reg false [.op .none 10 (.mv (.t 0)),
          .op .none 11 (.mv (.t 3)),
          .op .none 12 (.six (.t 10) (.t 11)),
          .op .none 13 (.bin .lss (.t 12) (.c (.w (.int .u8 33)))),
          .op .none 14 (.mv (.t 13)),
          .op (.some (14, false)) 15 (.mv (.t 0)),
          .op (.some (14, false)) 16 (.mv (.t 3)),
          .op (.some (14, false)) 17 (.six (.t 15) (.t 16)),
          .op (.some (14, false)) 18 (.bin .gtr (.t 17) (.c (.w (.int .u8 126)))),
          .op .none 19 (.pick (.t 14) (.c (.w (.bool true))) (.t 18))]) <|
        .cond (.t 19)
          (.seq (.reg false [.op .none 2 (.mv (.c (.w (.bool false))))]) <|
          .ret)
          (.skip)) <|
      .reg false [.op .none 8 (.mv (.t 3)),
        .op .none 9 (.bin .add (.t 8) (.c (.w (.int .i64 1)))),
        .op .none 3 (.mv (.t 9))]) <|
  .seq (.reg false [.op .none 2 (.mv (.c (.w (.bool true))))]) <|
  .ret
theorem k56 : FnCode Try.prog 56 [] 20 [2] c56 := ⟨Try.f56, Try.func56, fun xs W => Try.call56 xs W, by kernel_rfl, by kernel_rfl, by kernel_rfl⟩

/-- slices.Equal[[]string,string] -/
def c45 : MC :=
  .seq (.reg false [.op .none 4 (.mv (.c (.w (.bool false))))]) <|
  .seq (.seq (.reg false [.op .none 6 (.mv (.t 0)),
    .op .none 7 (.len false (.t 6)),
    .op .none 8 (.mv (.t 1)),
    .op .none 9 (.len false (.t 8)),
    .op .none 10 (.bin .neq (.t 7) (.t 9))]) <|
  .cond (.t 10)
    (.seq (.reg false [.op .none 4 (.mv (.c (.w (.bool false))))]) <|
    .ret)
    (.skip)) <|
  .seq (.seq (.reg false [.op .none 11 (.mv (.t 0)),
    .op .none 12 (.len false (.t 11)),
    .op .none 13 (.mv (.c (.w (.int .i64 0))))]) <|
  .block 0 <|
    .loop <|
      .seq (.reg false [.op .none 14 (.bin .lss (.t 13) (.t 12))]) <|
      .seq (.cond (.t 14)
        (.skip)
        (.exit 0)) <|
      .seq (.block 1 <|
        .seq (.reg false [.op .none 15 (.mv (.t 13)),
          .op .none 5 (.mv (.t 15))]) <|
        .seq (.reg true [.op .none 16 (.mv (.t 0)),
          .op .none 17 (.mv (.t 5)),
          .op .none 18 (.ia 1 (.t 16) (.t 17)),
          .op .none 19 (.ld false 1 (.t 18)),
          .op .none 20 (.mv (.t 1)),
          .op .none 21 (.mv (.t 5)),
          .op .none 22 (.ia 1 (.t 20) (.t 21)),
          .op .none 23 (.ld false 1 (.t 22)),
          .op .none 24 (.bin .neq (.t 19) (.t 23))]) <|
        .cond (.t 24)
          (.seq (.reg false [.op .none 4 (.mv (.c (.w (.bool false))))]) <|
          .ret)
          (.skip)) <|
      .reg false [.op .none 25 (.bin .add (.t 13) (.c (.w (.int .i64 1)))),
        .op .none 13 (.mv (.t 25))]) <|
  .seq (.reg false [.op .none 4 (.mv (.c (.w (.bool true))))]) <|
  .ret
theorem k45 : FnCode Try.prog 45 [] 26 [4] c45 := ⟨Try.f45, Try.func45, fun xs W => Try.call45 xs W, by kernel_rfl, by kernel_rfl, by kernel_rfl⟩

/-- ablaut/ablautref28.sameNames -/
def c50 : MC :=
  .seq (.reg false [.op .none 4 (.mv (.c (.w (.bool false))))]) <|
  .seq (.seq (.reg false [.op .none 6 (.mv (.t 0)),
    .op .none 7 (.len false (.t 6)),
    .op .none 8 (.mv (.t 1)),
    .op .none 9 (.len false (.t 8)),
    .op .none 10 (.bin .neq (.t 7) (.t 9))]) <|
  .cond (.t 10)
    (.seq (.reg false [.op .none 4 (.mv (.c (.w (.bool false))))]) <|
    .ret)
    (.skip)) <|
  .seq (.seq (.reg false [.op .none 5 (.mv (.c (.w (.int .i64 0))))]) <|
  .block 0 <|
    .loop <|
      .seq (.seq (.reg false [.op .none 11 (.mv (.t 5)),
        .op .none 12 (.mv (.t 0)),
        .op .none 13 (.len false (.t 12)),
        .op .none 14 (.bin .lss (.t 11) (.t 13))]) <|
      .cond (.t 14)
        (.skip)
        (.exit 0)) <|
      .seq (.block 1 <|
        .seq (.reg true [.op .none 17 (.mv (.t 0)),
          .op .none 18 (.mv (.t 5)),
          .op .none 19 (.ia 1 (.t 17) (.t 18)),
          .op .none 20 (.ld false 1 (.t 19)),
          .op .none 21 (.mv (.t 1)),
          .op .none 22 (.mv (.t 5)),
          .op .none 23 (.ia 1 (.t 21) (.t 22)),
          .op .none 24 (.ld false 1 (.t 23)),
          .op .none 25 (.bin .neq (.t 20) (.t 24))]) <|
        .cond (.t 25)
          (.seq (.reg false [.op .none 4 (.mv (.c (.w (.bool false))))]) <|
          .ret)
          (.skip)) <|
      .reg false [.op .none 15 (.mv (.t 5)),
        .op .none 16 (.bin .add (.t 15) (.c (.w (.int .i64 1)))),
        .op .none 5 (.mv (.t 16))]) <|
  .seq (.reg false [.op .none 4 (.mv (.c (.w (.bool true))))]) <|
  .ret
theorem k50 : FnCode Try.prog 50 [] 26 [4] c50 := ⟨Try.f50, Try.func50, fun xs W => Try.call50 xs W, by kernel_rfl, by kernel_rfl, by kernel_rfl⟩

/-- ablaut/ablautlaw28.sameTexts -/
def c32 : MC :=
  .seq (.reg false [.op .none 4 (.mv (.c (.w (.bool false))))]) <|
  .seq (.seq (.reg false [.op .none 6 (.mv (.t 0)),
    .op .none 7 (.len false (.t 6)),
    .op .none 8 (.mv (.t 1)),
    .op .none 9 (.len false (.t 8)),
    .op .none 10 (.bin .neq (.t 7) (.t 9))]) <|
  .cond (.t 10)
    (.seq (.reg false [.op .none 4 (.mv (.c (.w (.bool false))))]) <|
    .ret)
    (.skip)) <|
  .seq (.seq (.reg false [.op .none 5 (.mv (.c (.w (.int .i64 0))))]) <|
  .block 0 <|
    .loop <|
      .seq (.seq (.reg false [.op .none 11 (.mv (.t 5)),
        .op .none 12 (.mv (.t 0)),
        .op .none 13 (.len false (.t 12)),
        .op .none 14 (.bin .lss (.t 11) (.t 13))]) <|
      .cond (.t 14)
        (.skip)
        (.exit 0)) <|
      .seq (.block 1 <|
        .seq (.reg true [.op .none 17 (.mv (.t 0)),
          .op .none 18 (.mv (.t 5)),
          .op .none 19 (.ia 1 (.t 17) (.t 18)),
          .op .none 20 (.ld false 1 (.t 19)),
          .op .none 21 (.mv (.t 1)),
          .op .none 22 (.mv (.t 5)),
          .op .none 23 (.ia 1 (.t 21) (.t 22)),
          .op .none 24 (.ld false 1 (.t 23)),
          .op .none 25 (.bin .neq (.t 20) (.t 24))]) <|
        .cond (.t 25)
          (.seq (.reg false [.op .none 4 (.mv (.c (.w (.bool false))))]) <|
          .ret)
          (.skip)) <|
      .reg false [.op .none 15 (.mv (.t 5)),
        .op .none 16 (.bin .add (.t 15) (.c (.w (.int .i64 1)))),
        .op .none 5 (.mv (.t 16))]) <|
  .seq (.reg false [.op .none 4 (.mv (.c (.w (.bool true))))]) <|
  .ret
theorem k32 : FnCode Try.prog 32 [] 26 [4] c32 := ⟨Try.f32, Try.func32, fun xs W => Try.call32 xs W, by kernel_rfl, by kernel_rfl, by kernel_rfl⟩

theorem fok81 (l : List Bs) (s : Bs) (hl : l.length ≤ 200000000000000) : FOk Try.prog 81 [.v (.word l), .S s] [] (.I (idxF (fun x => decide (s = x)) l 0)) [] := by
  refine FOk.val k81 (by simp) (by simp) (by decide) ?_
  simp [c81]
  refine Run.loopA (ι := Nat) [] (fun i => i ≤ l.length ∧ idxF (fun x => decide (s = x)) (l.drop i) i = idxF (fun x => decide (s = x)) l 0) (fun i => ⟨[(0, .v (.word l)), (1, .S s), (7, .I l.length), (8, .I i)], [], 1024⟩) (fun i => l.length - i) 0 (by decide) (by simp) ⟨by omega, by simp⟩ ?_
  rintro i ⟨hi, hall⟩ ih
  by_cases h : i < l.length
  · rw [drop_at h] at hall
    simp only [idxF] at hall
    by_cases hp : s = l[i]
    · simp only [hp, decide_true, if_true] at hall
      simp (disch := omega) [h, wrap_i64, ← hp]
      exact Ends.v rfl (by simp [hp, ← hall])
    · simp only [hp, decide_false] at hall
      simp (disch := omega) [h, wrap_i64, hp]
      exact ih (i + 1) _ ⟨by omega, by simpa using hall⟩ (by omega) (by simp)
  · rw [drop_no h] at hall
    simp [h]
    exact Ends.v rfl (by simp [idxF, ← hall])
theorem fok69 (l : List Bs) (s : Bs) (hl : l.length ≤ 200000000000000) : FOk Try.prog 69 [.v (.word l), .S s] [] (.B (inW l s)) [] := by
  refine FOk.val k69 (by simp) (by simp) (by decide) ?_
  simp [c69]
  refine CallG.lent rfl rfl rfl rfl (fok81 l s hl) rfl ?_
  simp [idxF_in]
  exact Ends.v rfl (by simp)
theorem fok71 (l : List Bs) (s : Bs) (hl : l.length ≤ 200000000000000) : FOk Try.prog 71 [.v (.word l), .S s] [] (.B (inW l s)) [] := by
  refine FOk.val k71 (by simp) (by simp) (by decide) ?_
  simp [c71]
  refine Run.loopA (ι := Nat) [] (fun i => i ≤ l.length ∧ inW (l.drop i) s = inW l s) (fun i => ⟨[(0, .v (.word l)), (1, .S s), (5, .I i)], [], 1024⟩) (fun i => l.length - i) 0 (by decide) (by simp) ⟨by omega, by simp⟩ ?_
  rintro i ⟨hi, hall⟩ ih
  by_cases h : i < l.length
  · rw [drop_at h] at hall
    simp only [inW] at hall
    by_cases hp : l[i] = s
    · simp only [hp, decide_true, Bool.true_or] at hall
      simp (disch := omega) [h, wrap_i64, hp]
      exact Ends.v rfl (by simp [← hall])
    · have hp' : ¬ s = l[i] := fun e => hp e.symm
      simp only [hp', decide_false, Bool.false_or] at hall
      simp (disch := omega) [h, wrap_i64, hp]
      exact ih (i + 1) _ ⟨by omega, hall⟩ (by omega) (by simp)
  · rw [drop_no h] at hall
    simp [h]
    exact Ends.v rfl (by simp [inW, ← hall])
theorem fok36 (l : List Bs) (hl : wordS l) : FOk Try.prog 36 [.v (.word l)] [] (.B (isNms [] l)) [] := by
  have hl1 := hl.1
  refine FOk.val k36 (by simp) (by simp) (by decide) ?_
  simp [c36]
  refine Run.loopA (ι := Nat) [] (fun i => i ≤ l.length ∧ isNms (l.take i) (l.drop i) = isNms [] l) (fun i => ⟨[(0, .v (.word l)), (5, .v (.word l)), (6, .I l.length), (7, .I i)], [], 1024⟩) (fun i => l.length - i) 0 (by decide) (by simp) ⟨by omega, by simp⟩ ?_
  rintro i ⟨hi, hall⟩ ih
  by_cases h : i < l.length
  · rw [drop_at h] at hall
    simp only [isNms] at hall
    rw [← List.take_succ_eq_append_getElem h] at hall
    have hc := fok69 (l.take i) l[i] (by simp; omega)
    simp (disch := omega) [h, wrap_i64]
    refine CallG.lent rfl rfl rfl rfl (fok85 l[i] (hl.2 _ (List.getElem_mem h))) rfl ?_
    cases hn : isNm l[i]
    · rw [hn, Bool.false_and] at hall
      simp (disch := omega) [wrap_i64]
      exact Ends.v rfl (by simp [← hall])
    · rw [hn, Bool.true_and] at hall
      simp (disch := omega) [wrap_i64, hi]
      simp [PV.word] at hc
      refine CallG.lent rfl rfl rfl rfl hc rfl ?_
      generalize inW (l.take i) l[i] = b at hall ⊢
      cases b
      · simp (disch := omega) [wrap_i64]
        exact ih (i + 1) _ ⟨by omega, by simpa using hall⟩ (by omega) (by simp)
      · simp (disch := omega) [wrap_i64]
        exact Ends.v rfl (by simpa using hall)
  · rw [drop_no h] at hall
    simp [h]
    exact Ends.v rfl (by simp [isNms, ← hall])
theorem fok55 (l : List Bs) (hl : wordS l) : FOk Try.prog 55 [.v (.word l)] [] (.B (isNms [] l)) [] := by
  have hl1 := hl.1
  refine FOk.val k55 (by simp) (by simp) (by decide) ?_
  simp [c55]
  refine Run.loopA (ι := Nat) [] (fun i => i ≤ l.length ∧ isNms (l.take i) (l.drop i) = isNms [] l) (fun i => ⟨[(0, .v (.word l)), (3, .I i)], [], 1024⟩) (fun i => l.length - i) 0 (by decide) (by simp) ⟨by omega, by simp⟩ ?_
  rintro i ⟨hi, hall⟩ ih
  by_cases h : i < l.length
  · rw [drop_at h] at hall
    simp only [isNms] at hall
    rw [← List.take_succ_eq_append_getElem h] at hall
    have hc := fok71 (l.take i) l[i] (by simp; omega)
    simp (disch := omega) [h, wrap_i64]
    refine CallG.lent rfl rfl rfl rfl (fok94 l[i] (hl.2 _ (List.getElem_mem h))) rfl ?_
    cases hn : isNm l[i]
    · rw [hn, Bool.false_and] at hall
      simp (disch := omega) [wrap_i64]
      exact Ends.v rfl (by simp [← hall])
    · rw [hn, Bool.true_and] at hall
      simp (disch := omega) [wrap_i64, hi, h]
      simp [PV.word] at hc
      refine CallG.lent rfl rfl rfl rfl hc rfl ?_
      generalize inW (l.take i) l[i] = b at hall ⊢
      cases b
      · simp (disch := omega) [wrap_i64]
        exact ih (i + 1) _ ⟨by omega, by simpa using hall⟩ (by omega) (by simp)
      · simp (disch := omega) [wrap_i64]
        exact Ends.v rfl (by simpa using hall)
  · rw [drop_no h] at hall
    simp [h]
    exact Ends.v rfl (by simp [isNms, ← hall])
theorem fok117 (s : Bs) : FOk Try.prog 117 [.S s] [] (.B false) [] := by
  refine FOk.val k117 (by simp) (by simp) (by decide) ?_
  simp [c117]
  exact Ends.v rfl (by simp)
theorem fok111 (a b : Bs) : FOk Try.prog 111 [.S a, .S b] [] (.B (ltB a b)) [] := by
  refine FOk.val k111 (by simp) (by simp) (by decide) ?_
  simp [c111]
  refine CallG.lent rfl rfl rfl rfl (fok117 a) rfl ?_
  simp
  exact Ends.v rfl (by simp)
theorem fok84 (l : List Bs) (hl : l.length ≤ 200000000000000) : FOk Try.prog 84 [.v (.word l)] [] (.B (srtd l)) [] := by
  refine FOk.val k84 (by simp) (by simp) (by decide) ?_
  simp (disch := omega) [c84, wrap_i64]
  have h0 : srtd (l.drop (l.length - 1)) = true := by
    by_cases h : l.length = 0
    · have : l = [] := List.length_eq_zero_iff.1 h
      subst this; rfl
    · rw [List.drop_eq_getElem_cons (show l.length - 1 < l.length by omega), List.drop_eq_nil_of_le (by omega)]; rfl
  refine Run.loopA (ι := Nat) [] (fun J => J ≤ l.length ∧ srtd (l.drop (J - 1)) = true) (fun J => ⟨[(0, .v (.word l)), (3, .I ((J : Int) - 1))], [], 1024⟩) (fun J => J) l.length (by decide) (by simp) ⟨by omega, h0⟩ ?_
  rintro J ⟨hJ, hs⟩ ih
  rcases J with _ | _ | j
  · have : srtd l = true := by simpa using hs
    simp
    exact Ends.v rfl (by simp [this])
  · have : srtd l = true := by simpa using hs
    simp
    exact Ends.v rfl (by simp [this])
  · have h1 : j + 1 < l.length := by omega
    have h2 : j < l.length := by omega
    have e1 : ((j : Int) + 1 + 1 - 1) = ((j + 1 : Nat) : Int) := by omega
    have e2 : (((j + 1 : Nat) : Int) - 1) = (j : Int) := by omega
    simp (disch := omega) [wrap_i64, e1, e2, h1, h2]
    refine CallG.lent rfl rfl rfl rfl (fok111 l[j + 1] l[j]) rfl ?_
    cases hb : ltB l[j + 1] l[j]
    · have hst := srtd_step h1 hb
      simp (disch := omega) [wrap_i64]
      exact ih (j + 1) _ ⟨by omega, by simpa [hst] using hs⟩ (by omega) (by simp)
    · have hno := srtd_no h1 hb
      simp
      exact Ends.v rfl (by simp [hno])
theorem fok35 (l : List Bs) (hl : wordS l) : FOk Try.prog 35 [.v (.word l)] [] (.B (ascN none l)) [] := by
  have h1 := fok36 l hl
  have h2 := fok84 l hl.1
  rw [← set_eq]
  refine FOk.val k35 (by simp) (by simp) (by decide) ?_
  simp [c35]
  refine CallG.lent rfl rfl rfl rfl h1 rfl ?_
  cases isNms [] l
  · simp
    exact Ends.v rfl (by simp)
  · simp
    refine CallG.lent rfl rfl rfl rfl h2 rfl ?_
    simp
    exact Ends.v rfl (by simp)
theorem fok70 (l : List Bs) (hl : wordS l) : FOk Try.prog 70 [.v (.word l)] [] (.B (ascN none l)) [] := by
  have hl1 := hl.1
  refine FOk.val k70 (by simp) (by simp) (by decide) ?_
  simp [c70]
  refine Run.loopA (ι := Nat) [] (fun i => i ≤ l.length ∧ ascN (if i = 0 then none else l[i - 1]?) (l.drop i) = ascN none l) (fun i => ⟨[(0, .v (.word l)), (3, .I i)], [], 1024⟩) (fun i => l.length - i) 0 (by decide) (by simp) ⟨by omega, by simp⟩ ?_
  rintro i ⟨hi, hall⟩ ih
  by_cases h : i < l.length
  · rw [drop_at h] at hall
    have hnm := fok94 l[i] (hl.2 _ (List.getElem_mem h))
    have hnext : ascN (some l[i]) (l.drop (i + 1)) = ascN none l → ascN (if i + 1 = 0 then none else l[i + 1 - 1]?) (l.drop (i + 1)) = ascN none l := by
      intro q; simpa [h] using q
    simp (disch := omega) [h, wrap_i64]
    refine CallG.lent rfl rfl rfl rfl hnm rfl ?_
    rcases i with _ | i
    · simp only [if_true, ascN] at hall
      cases hn : isNm l[0]
      · rw [hn, Bool.false_and] at hall
        simp (disch := omega) [wrap_i64]
        exact Ends.v rfl (by simp [← hall])
      · rw [hn, Bool.true_and] at hall
        simp (disch := omega) [wrap_i64]
        exact ih 1 _ ⟨by omega, hnext hall⟩ (by omega) (by simp)
    · have h' : i < l.length := by omega
      rw [if_neg (by omega)] at hall
      simp only [Nat.add_sub_cancel, List.getElem?_eq_getElem h', ascN] at hall
      cases hn : isNm l[i + 1]
      · rw [hn, Bool.false_and] at hall
        simp (disch := omega) [wrap_i64]
        exact Ends.v rfl (by simp [← hall])
      · rw [hn, Bool.true_and] at hall
        have e2 : (((i : Int) + 1) - 1) = (i : Int) := by omega
        cases hb : ltB l[i] l[i + 1]
        · rw [hb, Bool.false_and] at hall
          simp (disch := omega) [wrap_i64, e2, h, h', hb]
          exact Ends.v rfl (by simp [← hall])
        · rw [hb, Bool.true_and] at hall
          simp (disch := omega) [wrap_i64, e2, h, h', hb]
          exact ih (i + 1 + 1) _ ⟨by omega, hnext hall⟩ (by omega) (by simp)
  · rw [drop_no h] at hall
    have hE : ascN none l = true := by rw [← hall]; split <;> first | rfl | (cases l[i - 1]? <;> rfl)
    simp [h]
    exact Ends.v rfl (by simp [hE])
theorem fok37 (s : Bs) (hs : smB s) : FOk Try.prog 37 [.S s] [] (.B (isPl s)) [] := by
  refine FOk.val k37 (by simp) (by simp) (by decide) ?_
  simp [c37]
  refine Run.loopA (ι := Nat) [] (fun i => i ≤ s.length ∧ isPl (s.drop i) = isPl s) (fun i => ⟨[(0, .S s), (5, .I s.length), (6, .I i)], [], 1024⟩) (fun i => s.length - i) 0 (by decide) (by simp) ⟨by omega, by simp⟩ ?_
  rintro i ⟨hi, hall⟩ ih
  by_cases h : i < s.length
  · rw [drop_at h] at hall
    simp only [isPl, List.all_cons] at hall
    simp (disch := omega) [h, wrap_i64]
    repeat' (first | refine And.intro ?_ ?_ | intro _)
    all_goals first
      | (have hc : plC s[i] = true := by simp [plC] <;> omega
         exact ih (i + 1) _ ⟨by omega, by simpa [isPl, hc] using hall⟩ (by omega) (by simp))
      | (have hc : plC s[i] = false := by simp [plC] <;> omega
         rw [hc, Bool.false_and] at hall
         exact Ends.v rfl (by simp [isPl, ← hall]))
  · rw [drop_no h] at hall
    have hE : isPl s = true := by rw [← hall]; rfl
    simp [h]
    exact Ends.v rfl (by simp [hE])
theorem fok56 (s : Bs) (hs : smB s) : FOk Try.prog 56 [.S s] [] (.B (isPl s)) [] := by
  refine FOk.val k56 (by simp) (by simp) (by decide) ?_
  simp [c56]
  refine Run.loopA (ι := Nat) [] (fun i => i ≤ s.length ∧ isPl (s.drop i) = isPl s) (fun i => ⟨[(0, .S s), (3, .I i)], [], 1024⟩) (fun i => s.length - i) 0 (by decide) (by simp) ⟨by omega, by simp⟩ ?_
  rintro i ⟨hi, hall⟩ ih
  by_cases h : i < s.length
  · rw [drop_at h] at hall
    simp only [isPl, List.all_cons] at hall
    simp (disch := omega) [h, wrap_i64]
    repeat' (first | refine And.intro ?_ ?_ | intro _)
    all_goals first
      | (have hc : plC s[i] = true := by simp [plC] <;> omega
         exact ih (i + 1) _ ⟨by omega, by simpa [isPl, hc] using hall⟩ (by omega) (by simp))
      | (have hc : plC s[i] = false := by simp [plC] <;> omega
         rw [hc, Bool.false_and] at hall
         exact Ends.v rfl (by simp [isPl, ← hall]))
  · rw [drop_no h] at hall
    have hE : isPl s = true := by rw [← hall]; rfl
    simp [h]
    exact Ends.v rfl (by simp [hE])
theorem fok45 (w v : List Bs) (hw : w.length ≤ 200000000000000) (hv : v.length ≤ 200000000000000) : FOk Try.prog 45 [.v (.word w), .v (.word v)] [] (.B (decide (w = v))) [] := by
  refine FOk.val k45 (by simp) (by simp) (by decide) ?_
  by_cases h0 : w.length = v.length
  · simp [c45, h0]
    refine Run.loopA (ι := Nat) [] (fun i => i ≤ w.length ∧ w.take i = v.take i) (fun i => ⟨[(0, .v (.word w)), (1, .v (.word v)), (12, .I w.length), (13, .I i)], [], 1024⟩) (fun i => w.length - i) 0 (by decide) (by simp [h0]) (by simp) ?_
    rintro i ⟨hi, he⟩ ih
    by_cases h : i < w.length
    · have h' : i < v.length := by omega
      by_cases hv : w[i] = v[i]
      · simp (disch := omega) [h, h', wrap_i64, hv]
        exact ih (i + 1) _ ⟨by omega, by rw [List.take_succ_eq_append_getElem h, List.take_succ_eq_append_getElem h', he, hv]⟩ (by omega) (by simp)
      · have hne : w ≠ v := by rintro rfl; exact hv rfl
        simp (disch := omega) [h, h', wrap_i64, hv]
        exact Ends.v rfl (by simp [hne])
    · have e : w = v := by rw [List.take_of_length_le (by omega), List.take_of_length_le (by omega)] at he; exact he
      simp [h]
      exact Ends.v rfl (by simp [e])
  · have hne : w ≠ v := by rintro rfl; exact h0 rfl
    have h0' : ¬ (w.length : Int) = (v.length : Int) := by omega
    simp [c45, h0']
    exact Ends.v rfl (by simp [hne])
theorem fok50 (w v : List Bs) (hw : w.length ≤ 200000000000000) (hv : v.length ≤ 200000000000000) : FOk Try.prog 50 [.v (.word w), .v (.word v)] [] (.B (decide (w = v))) [] := by
  refine FOk.val k50 (by simp) (by simp) (by decide) ?_
  by_cases h0 : w.length = v.length
  · simp [c50, h0]
    refine Run.loopA (ι := Nat) [] (fun i => i ≤ w.length ∧ w.take i = v.take i) (fun i => ⟨[(0, .v (.word w)), (1, .v (.word v)), (5, .I i)], [], 1024⟩) (fun i => w.length - i) 0 (by decide) (by simp [h0]) (by simp) ?_
    rintro i ⟨hi, he⟩ ih
    by_cases h : i < w.length
    · have h' : i < v.length := by omega
      by_cases hv : w[i] = v[i]
      · simp (disch := omega) [h, h', wrap_i64, hv]
        exact ih (i + 1) _ ⟨by omega, by rw [List.take_succ_eq_append_getElem h, List.take_succ_eq_append_getElem h', he, hv]⟩ (by omega) (by simp)
      · have hne : w ≠ v := by rintro rfl; exact hv rfl
        simp (disch := omega) [h, h', wrap_i64, hv]
        exact Ends.v rfl (by simp [hne])
    · have e : w = v := by rw [List.take_of_length_le (by omega), List.take_of_length_le (by omega)] at he; exact he
      simp [h]
      exact Ends.v rfl (by simp [e])
  · have hne : w ≠ v := by rintro rfl; exact h0 rfl
    have h0' : ¬ (w.length : Int) = (v.length : Int) := by omega
    simp [c50, h0']
    exact Ends.v rfl (by simp [hne])
theorem fok32 (w v : List Bs) (hw : w.length ≤ 200000000000000) (hv : v.length ≤ 200000000000000) : FOk Try.prog 32 [.v (.word w), .v (.word v)] [] (.B (decide (w = v))) [] := by
  refine FOk.val k32 (by simp) (by simp) (by decide) ?_
  by_cases h0 : w.length = v.length
  · simp [c32, h0]
    refine Run.loopA (ι := Nat) [] (fun i => i ≤ w.length ∧ w.take i = v.take i) (fun i => ⟨[(0, .v (.word w)), (1, .v (.word v)), (5, .I i)], [], 1024⟩) (fun i => w.length - i) 0 (by decide) (by simp [h0]) (by simp) ?_
    rintro i ⟨hi, he⟩ ih
    by_cases h : i < w.length
    · have h' : i < v.length := by omega
      by_cases hv : w[i] = v[i]
      · simp (disch := omega) [h, h', wrap_i64, hv]
        exact ih (i + 1) _ ⟨by omega, by rw [List.take_succ_eq_append_getElem h, List.take_succ_eq_append_getElem h', he, hv]⟩ (by omega) (by simp)
      · have hne : w ≠ v := by rintro rfl; exact hv rfl
        simp (disch := omega) [h, h', wrap_i64, hv]
        exact Ends.v rfl (by simp [hne])
    · have e : w = v := by rw [List.take_of_length_le (by omega), List.take_of_length_le (by omega)] at he; exact he
      simp [h]
      exact Ends.v rfl (by simp [e])
  · have hne : w ≠ v := by rintro rfl; exact h0 rfl
    have h0' : ¬ (w.length : Int) = (v.length : Int) := by omega
    simp [c32, h0']
    exact Ends.v rfl (by simp [hne])

end Go.Proofs
