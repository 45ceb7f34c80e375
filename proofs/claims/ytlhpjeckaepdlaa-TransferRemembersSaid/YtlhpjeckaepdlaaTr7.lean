/- The walk. -/
import Derived.Test.YtlhpjeckaepdlaaTr6
import Derived.Test.YtlhpjeckaepdlaaProg
import Derived.KernelRfl
set_option linter.all false
set_option maxHeartbeats 2000000
namespace Go.Proofs
open Go Go.AM
attribute [local irreducible] Run Ends
/-- ablaut/transfer.ValidateUnits$1 -/
def c52 : MC :=
  .seq (.reg false [.op .none 1 (.box false (.t 0)),
    .op .none 2 (.mv (.c (.w (.bool false))))]) <|
  .seq (.reg false [.op .none 3 (.fa 1 (.t 1)),
    .op .none 4 (.ld false 1 (.t 3)),
    .op .none 5 (.fa 0 (.t 1)),
    .op .none 6 (.ld false 1 (.t 5)),
    .op .none 7 (.buildS false 1 1 false [(.w (.string ⟨#[]⟩))] [(0, (.t 6))]),
    .op .none 8 (.buildS false 1 2 false [(.sl 1 [])] [(0, (.t 4)), (1, (.t 7))]),
    .call .none 9 (.f 53) [(.t 8)],
    .op .none 2 (.mv (.t 9))]) <|
  .ret
theorem k52 : FnCode Try.prog 52 [] 10 [2] c52 := ⟨Try.f52, Try.func52, fun xs W => Try.call52 xs W, by kernel_rfl, by kernel_rfl, by kernel_rfl⟩

/-- ablaut/transfer.ValidateUnits$2 -/
def c54 : MC :=
  .seq (.reg false [.op .none 1 (.box false (.t 0)),
    .op .none 2 (.mv (.c (.w (.bool false))))]) <|
  .seq (.reg false [.op .none 3 (.fa 1 (.t 1)),
    .op .none 4 (.ld false 1 (.t 3)),
    .call .none 5 (.f 36) [(.t 4)],
    .op .none 6 (.un .not (.t 5)),
    .op .none 7 (.mv (.t 6)),
    .op (.some (7, false)) 8 (.fa 0 (.t 1)),
    .op (.some (7, false)) 9 (.ld false 1 (.t 8)),
    .call (.some (7, false)) 10 (.f 37) [(.t 9)],
    .op (.some (7, false)) 11 (.un .not (.t 10)),
    .op .none 12 (.pick (.t 7) (.c (.w (.bool true))) (.t 11)),
    .op .none 2 (.mv (.t 12))]) <|
  .ret
theorem k54 : FnCode Try.prog 54 [] 13 [2] c54 := ⟨Try.f54, Try.func54, fun xs W => Try.call54 xs W, by kernel_rfl, by kernel_rfl, by kernel_rfl⟩

/-- ablaut/transfer.ValidateUnits -/
def c13 : MC :=
  .seq (.reg false [.op .none 2 (.mv (.c (.w (.int .i64 0))))]) <|
  .seq (.seq (.reg false [.op .none 3 (.mv (.t 0)),
    .op .none 4 (.len false (.t 3)),
    .op .none 5 (.bin .gtr (.t 4) (.c (.w (.int .i64 200)))),
    .op .none 6 (.mv (.t 5)),
    .op (.some (6, false)) 7 (.mv (.t 0)),
    .call (.some (6, false)) 8 (.f 51) [(.t 7), (.f 52)],
    .op .none 9 (.pick (.t 6) (.c (.w (.bool true))) (.t 8))]) <|
  .cond (.t 9)
    (.seq (.reg false [.op .none 2 (.mv (.c (.w (.int .i64 3))))]) <|
    .ret)
    (.skip)) <|
  .seq (.seq (.reg false [.op .none 10 (.mv (.t 0)),
    .call .none 11 (.f 51) [(.t 10), (.f 54)]]) <|
  .cond (.t 11)
    (.seq (.reg false [.op .none 2 (.mv (.c (.w (.int .i64 1))))]) <|
    .ret)
    (.skip)) <|
  .seq (.reg false [.op .none 2 (.mv (.c (.w (.int .i64 0))))]) <|
  .ret
theorem k13 : FnCode Try.prog 13 [] 12 [2] c13 := ⟨Try.f13, Try.func13, fun xs W => Try.call13 xs W, by kernel_rfl, by kernel_rfl, by kernel_rfl⟩

/-- ablaut/transfer.both -/
def c57 : MC :=
  .seq (.reg false [.op .none 2 (.box false (.t 0)),
    .op .none 4 (.mv (.c (.w (.int .i64 0))))]) <|
  .seq (.seq (.reg false [.op .none 6 (.ld true 2 (.t 2)),
    .call .none 7 (.f 11) [(.t 6)],
    .op .none 5 (.mv (.t 7))]) <|
  .seq (.reg false [.op .none 8 (.mv (.t 5)),
    .op .none 9 (.bin .neq (.t 8) (.c (.w (.int .i64 0))))]) <|
  .cond (.t 9)
    (.seq (.reg false [.op .none 10 (.mv (.t 5)),
      .op .none 4 (.mv (.t 10))]) <|
    .ret)
    (.skip)) <|
  .seq (.reg false [.op .none 11 (.mv (.t 1)),
    .call .none 12 (.f 13) [(.t 11)],
    .op .none 4 (.mv (.t 12))]) <|
  .ret
theorem k57 : FnCode Try.prog 57 [] 13 [4] c57 := ⟨Try.f57, Try.func57, fun xs W => Try.call57 xs W, by kernel_rfl, by kernel_rfl, by kernel_rfl⟩

def unitS (u : UnitT) : Prop := wordS u.2.1 ∧ smB u.1
def unitLng (u : UnitT) : Bool := [u.2.1, [u.1]].any lngW
def unitBad (u : UnitT) : Bool := !isNms [] u.2.1 || !isPl u.1
def unitsF (l : List UnitT) : Int := if 200 < l.length then 3 else if l.any unitLng = true then 3 else if l.any unitBad = true then 1 else 0
theorem fok52 (x : UnitT) (hx : unitS x) : FOk Try.prog 52 [.v (unitV x)] [] (.B (unitLng x)) [] := by
  obtain ⟨b, t, u⟩ := x
  have h1 := fok53 [t, [b]] (by simp) (by have := hx.1.1; simp; exact this)
  refine FOk.val k52 (by simp) (by simp) (by decide) ?_
  simp [c52, unitV]
  simp only [wordsV, List.map_cons, List.map_nil] at h1
  refine CallG.lent rfl rfl rfl rfl h1 rfl ?_
  have e : unitLng (b, t, u) = [t, [b]].any lngW := rfl
  rw [e]
  generalize [t, [b]].any lngW = bb
  simp
  exact Ends.v rfl (by simp)
theorem fok54 (x : UnitT) (hx : unitS x) : FOk Try.prog 54 [.v (unitV x)] [] (.B (unitBad x)) [] := by
  obtain ⟨b, t, u⟩ := x
  have h1 := fok36 t hx.1
  have h2 := fok37 b hx.2
  refine FOk.val k54 (by simp) (by simp) (by decide) ?_
  simp [c54, unitV]
  refine CallG.lent rfl rfl rfl rfl h1 rfl ?_
  simp only [unitBad]
  cases isNms [] t
  · simp
    exact Ends.v rfl (by simp)
  · simp
    refine CallG.lent rfl rfl rfl rfl h2 rfl ?_
    simp
    exact Ends.v rfl (by simp)
theorem fok13 (l : List UnitT) (hl : l.length ≤ 200000000000000) (hs : ∀ u ∈ l, unitS u) : FOk Try.prog 13 [.v (.sl 2 (l.map unitV))] [] (.I (unitsF l)) [] := by
  have h1 := fok51 l _ _ _ (fixF0 52) unitLng (fun x hx => fok52 x (hs x hx)) hl
  have h2 := fok51 l _ _ _ (fixF0 54) unitBad (fun x hx => fok54 x (hs x hx)) hl
  refine FOk.val k13 (by simp) (by simp) (by decide) ?_
  by_cases c1 : 200 < l.length
  · simp [c13, c1]
    exact Ends.v rfl (by simp [unitsF, c1])
  simp only [unitsF, c1, if_false]
  generalize l.any unitLng = x1 at h1 ⊢
  generalize l.any unitBad = x2 at h2 ⊢
  simp [c13, c1]
  refine CallG.lent rfl rfl rfl rfl h1 rfl ?_
  cases x1
  · simp
    refine CallG.lent rfl rfl rfl rfl h2 rfl ?_
    cases x2
    · simp
      exact Ends.v rfl (by simp)
    · simp
      exact Ends.v rfl (by simp)
  · simp
    exact Ends.v rfl (by simp)
def bothF (b : BrT) (l : List UnitT) : Int := if validF b = 0 then unitsF l else validF b
theorem fok57 (b : BrT) (l : List UnitT) (hb : brS b) (hl : l.length ≤ 200000000000000) (hs : ∀ u ∈ l, unitS u) : FOk Try.prog 57 [.v (brV b), .v (.sl 2 (l.map unitV))] [] (.I (bothF b l)) [] := by
  have h1 := fok11 b hb
  have h2 := fok13 l hl hs
  obtain ⟨R, S, u⟩ := b
  refine FOk.val k57 (by simp) (by simp) (by decide) ?_
  simp only [bothF]
  generalize validF (R, S, u) = v at h1 ⊢
  simp [c57, brV]
  refine CallG.lent rfl rfl rfl rfl h1 rfl ?_
  by_cases hv : v = 0
  · subst hv
    simp
    refine CallG.lent rfl rfl rfl rfl h2 rfl ?_
    simp
    exact Ends.v rfl (by simp)
  · simp [hv]
    exact Ends.v rfl (by simp)
/-- ablaut/transfer.has$1 -/
def c113 : MC :=
  .seq (.reg false [.op .none 3 (.mv (.c (.w (.bool false))))]) <|
  .seq (.reg false [.op .none 4 (.fa 1 (.t 1)),
    .op .none 5 (.ld false 1 (.t 4)),
    .op .none 6 (.mv (.t 0)),
    .call .none 7 (.f 69) [(.t 5), (.t 6)],
    .op .none 8 (.un .not (.t 7)),
    .op .none 3 (.mv (.t 8))]) <|
  .ret
theorem k113 : FnCode Try.prog 113 [] 9 [3] c113 := ⟨Try.f113, Try.func113, fun xs W => Try.call113 xs W, by kernel_rfl, by kernel_rfl, by kernel_rfl⟩

/-- ablaut/transfer.has -/
def c103 : MC :=
  .seq (.reg false [.op .none 2 (.box false (.t 0)),
    .op .none 4 (.mv (.c (.w (.bool false))))]) <|
  .seq (.reg false [.op .none 5 (.mv (.t 1)),
    .op .none 6 (.mkf 113 [(.t 2)]),
    .call .none 7 (.f 92) [(.t 5), (.t 6)],
    .op .none 8 (.un .not (.t 7)),
    .op .none 4 (.mv (.t 8))]) <|
  .ret
theorem k103 : FnCode Try.prog 103 [] 9 [4] c103 := ⟨Try.f103, Try.func103, fun xs W => Try.call103 xs W, by kernel_rfl, by kernel_rfl, by kernel_rfl⟩

/-- ablaut/transfer.rule -/
def c96 : MC :=
  .seq (.reg false [.op .none 2 (.box false (.t 0)),
    .op .none 4 (.mv (.c (.w (.int .i64 0))))]) <|
  .seq (.reg false [.op .none 5 (.mv (.c (.w (.int .i64 (-1)))))]) <|
  .seq (.seq (.reg false [.op .none 12 (.fa 1 (.t 2)),
    .op .none 13 (.ld false 1 (.t 12)),
    .op .none 14 (.len false (.t 13)),
    .op .none 15 (.mv (.c (.w (.int .i64 0))))]) <|
  .block 0 <|
    .loop <|
      .seq (.reg false [.op .none 16 (.bin .lss (.t 15) (.t 14))]) <|
      .seq (.cond (.t 16)
        (.skip)
        (.exit 0)) <|
      .seq (.block 1 <|
        .seq (.reg false [.op .none 17 (.mv (.t 15)),
          .op .none 18 (.ia 2 (.t 13) (.t 15)),
          .op .none 19 (.ld true 2 (.t 18)),
          .op .none 7 (.alloc true [(.sl 1 []), (.sl 5 [])]),
          .op .none 6 (.mv (.t 17)),
          .store .none true 2 (.t 7) (.t 19)]) <|
        .seq (.reg false [.op .none 20 (.fa 0 (.t 7)),
          .op .none 21 (.ld false 1 (.t 20)),
          .op .none 22 (.len false (.t 21)),
          .op .none 8 (.mv (.t 22))]) <|
        .seq (.seq (.reg false [.op .none 23 (.mv (.t 8)),
          .op .none 24 (.mv (.t 1)),
          .op .none 25 (.len false (.t 24)),
          .op .none 26 (.bin .gtr (.t 23) (.t 25)),
          .op .none 27 (.mv (.t 26)),
          .op (.some (27, false)) 28 (.mv (.t 5)),
          .op (.some (27, false)) 29 (.bin .geq (.t 28) (.c (.w (.int .i64 0)))),
          .op (.some (27, false)) 30 (.mv (.t 29)),
          .op (.some (30, true)) 31 (.mv (.t 8)),
          .op (.some (30, true)) 32 (.fa 1 (.t 2)),
          .op (.some (30, true)) 33 (.ld false 1 (.t 32)),
          .op (.some (30, true)) 34 (.mv (.t 5)),
          .op (.some (30, true)) 35 (.ia 2 (.t 33) (.t 34)),
          .op (.some (30, true)) 36 (.fa 0 (.t 35)),
          .op (.some (30, true)) 37 (.ld false 1 (.t 36)),
          .op (.some (30, true)) 38 (.len false (.t 37)),
          .op (.some (30, true)) 39 (.bin .leq (.t 31) (.t 38)),
          .op (.some (27, false)) 40 (.pick (.t 30) (.t 39) (.c (.w (.bool false)))),
          .op .none 41 (.pick (.t 27) (.c (.w (.bool true))) (.t 40))]) <|
        .cond (.t 41)
          (.exit 1)
          (.skip)) <|
        .seq (.reg false [.op .none 9 (.mv (.c (.w (.bool true))))]) <|
        .seq (.seq (.reg false [.op .none 42 (.fa 0 (.t 7)),
          .op .none 43 (.ld false 1 (.t 42)),
          .op .none 44 (.len false (.t 43)),
          .op .none 45 (.mv (.c (.w (.int .i64 0))))]) <|
        .block 2 <|
          .loop <|
            .seq (.reg false [.op .none 46 (.bin .lss (.t 45) (.t 44))]) <|
            .seq (.cond (.t 46)
              (.skip)
              (.exit 2)) <|
            .seq (.block 3 <|
              .seq (.reg false [.op .none 47 (.mv (.t 45)),
                .op .none 48 (.ia 1 (.t 43) (.t 45)),
                .op .none 49 (.ld false 1 (.t 48)),
                .op .none 10 (.mv (.t 47)),
                .op .none 11 (.mv (.t 49))]) <|
              .reg false [.op .none 50 (.mv (.t 9)),
                .op .none 51 (.mv (.t 50)),
                .op (.some (51, true)) 52 (.mv (.t 1)),
                .op (.some (51, true)) 53 (.mv (.t 10)),
                .op (.some (51, true)) 54 (.ia 2 (.t 52) (.t 53)),
                .op (.some (51, true)) 55 (.ld true 2 (.t 54)),
                .op (.some (51, true)) 56 (.mv (.t 11)),
                .call (.some (51, true)) 57 (.f 103) [(.t 55), (.t 56)],
                .op .none 58 (.pick (.t 51) (.t 57) (.c (.w (.bool false)))),
                .op .none 9 (.mv (.t 58))]) <|
            .reg false [.op .none 59 (.bin .add (.t 45) (.c (.w (.int .i64 1)))),
              .op .none 45 (.mv (.t 59))]) <|
        .seq (.reg false [.op .none 60 (.mv (.t 9))]) <|
        .cond (.t 60)
          (.reg false [.op .none 61 (.mv (.t 6)),
            .op .none 5 (.mv (.t 61))])
          (.skip)) <|
      .reg false [.op .none 62 (.bin .add (.t 15) (.c (.w (.int .i64 1)))),
        .op .none 15 (.mv (.t 62))]) <|
  .seq (.reg false [.op .none 63 (.mv (.t 5)),
    .op .none 4 (.mv (.t 63))]) <|
  .ret
theorem k96 : FnCode Try.prog 96 [] 64 [4] c96 := ⟨Try.f96, Try.func96, fun xs W => Try.call96 xs W, by kernel_rfl, by kernel_rfl, by kernel_rfl⟩

/-- ablaut/transfer.chunks -/
def c60 : MC :=
  .seq (.reg false [.op .none 2 (.box false (.t 0)),
    .op .none 4 (.nilS 3)]) <|
  .seq (.reg false [.op .none 5 (.nilS 3)]) <|
  .seq (.seq (.reg false [.op .none 6 (.mv (.c (.w (.int .i64 0))))]) <|
  .block 0 <|
    .loop <|
      .seq (.seq (.reg false [.op .none 9 (.mv (.t 6)),
        .op .none 10 (.mv (.t 1)),
        .op .none 11 (.len false (.t 10)),
        .op .none 12 (.bin .lss (.t 9) (.t 11))]) <|
      .cond (.t 12)
        (.skip)
        (.exit 0)) <|
      .block 1 <|
        .seq (.reg true [.op .none 13 (.ld true 2 (.t 2)),
          .op .none 14 (.mv (.t 1)),
          .op .none 15 (.mv (.t 6)),
          .op .none 16 (.slc false 2 (.t 14) (.some (.t 15)) .none),
          .call .none 17 (.f 96) [(.t 13), (.t 16)],
          .op .none 7 (.mv (.t 17))]) <|
        .seq (.seq (.reg false [.op .none 18 (.mv (.t 7)),
          .op .none 19 (.bin .lss (.t 18) (.c (.w (.int .i64 0))))]) <|
        .cond (.t 19)
          (.seq (.reg false [.op .none 20 (.mv (.t 6)),
            .op .none 21 (.bin .add (.t 20) (.c (.w (.int .i64 1)))),
            .op .none 6 (.mv (.t 21))]) <|
          .exit 1)
          (.skip)) <|
        .seq (.reg false [.op .none 22 (.mv (.t 6)),
          .op .none 23 (.fa 1 (.t 2)),
          .op .none 24 (.ld false 1 (.t 23)),
          .op .none 25 (.mv (.t 7)),
          .op .none 26 (.ia 2 (.t 24) (.t 25)),
          .op .none 27 (.fa 0 (.t 26)),
          .op .none 28 (.ld false 1 (.t 27)),
          .op .none 29 (.len false (.t 28)),
          .op .none 30 (.bin .add (.t 22) (.t 29)),
          .op .none 8 (.mv (.t 30))]) <|
        .seq (.reg false [.op .none 31 (.mv (.t 5)),
          .op .none 32 (.mv (.t 7)),
          .op .none 33 (.mv (.t 6)),
          .op .none 34 (.mv (.t 8)),
          .op .none 35 (.build false [(.w (.int .i64 0)), (.w (.int .i64 0)), (.w (.int .i64 0))] [(0, 1, (.t 32)), (1, 1, (.t 33)), (2, 1, (.t 34))]),
          .op .none 36 (.buildS false 3 1 true [(.w (.int .i64 0)), (.w (.int .i64 0)), (.w (.int .i64 0))] [(0, (.t 35))]),
          .op .none 37 (.app 3 24 (.t 31) (.t 36)),
          .op .none 5 (.mv (.t 37))]) <|
        .reg false [.op .none 38 (.mv (.t 8)),
          .op .none 6 (.mv (.t 38))]) <|
  .seq (.reg false [.op .none 39 (.mv (.t 5)),
    .op .none 4 (.mv (.t 39))]) <|
  .ret
theorem k60 : FnCode Try.prog 60 [] 40 [4] c60 := ⟨Try.f60, Try.func60, fun xs W => Try.call60 xs W, by kernel_rfl, by kernel_rfl, by kernel_rfl⟩

/-- ablaut/transfer.word -/
def c58 : MC :=
  .seq (.reg false [.op .none 2 (.box false (.t 0)),
    .op .none 3 (.box false (.t 1)),
    .op .none 4 (.alloc true [(.w (.string ⟨#[]⟩)), (.sl 1 [])]),
    .op .none 5 (.mv (.c (.w (.bool false))))]) <|
  .seq (.reg false [.op .none 7 (.ld true 2 (.t 2)),
    .op .none 8 (.ld true 2 (.t 3)),
    .call .none 9 (.f 66) [(.t 7), (.t 8)],
    .op .none 6 (.mv (.t 9))]) <|
  .seq (.seq (.reg false [.op .none 10 (.mv (.t 6)),
    .op .none 11 (.bin .lss (.t 10) (.c (.w (.int .i64 0))))]) <|
  .cond (.t 11)
    (.seq (.reg true [.op .none 12 (.fa 0 (.t 3)),
      .op .none 13 (.ld false 1 (.t 12)),
      .op .none 14 (.fa 1 (.t 3)),
      .op .none 15 (.ld false 1 (.t 14)),
      .call .none 16 (.f 74) [(.t 15)],
      .op .none 17 (.build true [(.w (.string ⟨#[]⟩)), (.sl 1 [])] [(0, 1, (.t 13)), (1, 1, (.t 16))]),
      .store .none true 2 (.t 4) (.t 17),
      .op .none 5 (.mv (.c (.w (.bool false))))]) <|
    .ret)
    (.skip)) <|
  .seq (.reg true [.op .none 18 (.fa 0 (.t 2)),
    .op .none 19 (.ld false 1 (.t 18)),
    .op .none 20 (.mv (.t 6)),
    .op .none 21 (.ia 4 (.t 19) (.t 20)),
    .op .none 22 (.fa 2 (.t 21)),
    .op .none 23 (.ld false 1 (.t 22)),
    .op .none 24 (.fa 1 (.t 3)),
    .op .none 25 (.ld false 1 (.t 24)),
    .op .none 26 (.fa 0 (.t 2)),
    .op .none 27 (.ld false 1 (.t 26)),
    .op .none 28 (.mv (.t 6)),
    .op .none 29 (.ia 4 (.t 27) (.t 28)),
    .op .none 30 (.fa 3 (.t 29)),
    .op .none 31 (.ld false 1 (.t 30)),
    .call .none 32 (.f 95) [(.t 25), (.t 31)],
    .op .none 33 (.build true [(.w (.string ⟨#[]⟩)), (.sl 1 [])] [(0, 1, (.t 23)), (1, 1, (.t 32))]),
    .store .none true 2 (.t 4) (.t 33),
    .op .none 5 (.mv (.c (.w (.bool true))))]) <|
  .ret
theorem k58 : FnCode Try.prog 58 [17, 33] 34 [5000054000004, 5] c58 := ⟨Try.f58, Try.func58, fun xs W => Try.call58 xs W, by kernel_rfl, by kernel_rfl, by kernel_rfl⟩

/-- ablaut/transfer.row -/
def c66 : MC :=
  .seq (.reg false [.op .none 2 (.box false (.t 0)),
    .op .none 3 (.box false (.t 1)),
    .op .none 4 (.mv (.c (.w (.int .i64 0))))]) <|
  .seq (.reg false [.op .none 5 (.fa 0 (.t 2)),
    .op .none 6 (.ld false 1 (.t 5)),
    .op .none 7 (.mkf 102 [(.t 3)]),
    .call .none 8 (.f 89) [(.t 6), (.t 7)],
    .op .none 4 (.mv (.t 8))]) <|
  .ret
theorem k66 : FnCode Try.prog 66 [] 9 [4] c66 := ⟨Try.f66, Try.func66, fun xs W => Try.call66 xs W, by kernel_rfl, by kernel_rfl, by kernel_rfl⟩

/-- ablaut/transfer.Translate$1 -/
def c59 : MC :=
  .seq (.reg false [.op .none 1 (.box false (.t 0)),
    .op .none 2 (.mv (.c (.w (.bool false))))]) <|
  .seq (.reg false [.op .none 3 (.fa 1 (.t 1)),
    .op .none 4 (.ld false 1 (.t 3)),
    .op .none 5 (.len false (.t 4)),
    .op .none 6 (.bin .gtr (.t 5) (.c (.w (.int .i64 16)))),
    .op .none 2 (.mv (.t 6))]) <|
  .ret
theorem k59 : FnCode Try.prog 59 [] 7 [2] c59 := ⟨Try.f59, Try.func59, fun xs W => Try.call59 xs W, by kernel_rfl, by kernel_rfl, by kernel_rfl⟩

/-- ablaut/transfer.write$1 -/
def c98 : MC :=
  .seq (.reg false [.op .none 4 (.mv (.c (.w (.bool false))))]) <|
  .seq (.reg false [.op .none 5 (.fa 4 (.t 1)),
    .op .none 6 (.ld false 1 (.t 5)),
    .op .none 7 (.mv (.t 0)),
    .call .none 8 (.f 69) [(.t 6), (.t 7)],
    .op .none 9 (.mv (.t 8)),
    .op (.some (9, true)) 10 (.ld false 1 (.t 2)),
    .op (.some (9, true)) 11 (.mv (.t 0)),
    .call (.some (9, true)) 12 (.f 69) [(.t 10), (.t 11)],
    .op (.some (9, true)) 13 (.un .not (.t 12)),
    .op .none 14 (.pick (.t 9) (.t 13) (.c (.w (.bool false)))),
    .op .none 4 (.mv (.t 14))]) <|
  .ret
theorem k98 : FnCode Try.prog 98 [] 15 [4] c98 := ⟨Try.f98, Try.func98, fun xs W => Try.call98 xs W, by kernel_rfl, by kernel_rfl, by kernel_rfl⟩

/-- ablaut/transfer.with -/
def c95 : MC :=
  .seq (.reg false [.op .none 4 (.nilS 1)]) <|
  .seq (.reg false [.op .none 8 (.mv (.t 0)),
    .call .none 9 (.f 74) [(.t 8)],
    .op .none 5 (.mv (.t 9))]) <|
  .seq (.seq (.reg false [.op .none 10 (.mv (.t 1)),
    .op .none 11 (.len false (.t 10)),
    .op .none 12 (.mv (.c (.w (.int .i64 0))))]) <|
  .block 0 <|
    .loop <|
      .seq (.reg false [.op .none 13 (.bin .lss (.t 12) (.t 11))]) <|
      .seq (.cond (.t 13)
        (.skip)
        (.exit 0)) <|
      .seq (.block 1 <|
        .seq (.reg false [.op .none 14 (.ia 1 (.t 10) (.t 12)),
          .op .none 15 (.ld false 1 (.t 14)),
          .op .none 7 (.mv (.t 15))]) <|
        .seq (.reg false [.op .none 16 (.mv (.t 5)),
          .op .none 17 (.mv (.t 7)),
          .call .none 18 (.f 69) [(.t 16), (.t 17)],
          .op .none 19 (.un .not (.t 18))]) <|
        .cond (.t 19)
          (.reg false [.op .none 20 (.mv (.t 5)),
            .op .none 21 (.mv (.t 7)),
            .op .none 22 (.buildS false 1 1 false [(.w (.string ⟨#[]⟩))] [(0, (.t 21))]),
            .op .none 23 (.app 1 16 (.t 20) (.t 22)),
            .op .none 5 (.mv (.t 23))])
          (.skip)) <|
      .reg false [.op .none 24 (.bin .add (.t 12) (.c (.w (.int .i64 1)))),
        .op .none 12 (.mv (.t 24))]) <|
  .seq (.reg false [.op .none 25 (.mv (.t 5)),
    .op .none 4 (.mv (.t 25))]) <|
  .ret
theorem k95 : FnCode Try.prog 95 [] 26 [4] c95 := ⟨Try.f95, Try.func95, fun xs W => Try.call95 xs W, by kernel_rfl, by kernel_rfl, by kernel_rfl⟩

/-- ablaut/ablautlaw28.example -/
def c33 : MC :=
  .seq (.reg false [.op .none 0 (.alloc true [(.sl 4 []), (.sl 2 [])]),
    .op .none 1 (.nilS 2)]) <|
  .seq (.reg false [.op .none 3 (.buildS false 1 1 false [(.w (.string ⟨#[]⟩))] [(0, (.c (.w (.string ⟨#[65, 100, 106]⟩))))]),
    .op .none 4 (.buildS false 1 1 false [(.w (.string ⟨#[]⟩))] [(0, (.c (.w (.string ⟨#[78]⟩))))]),
    .op .none 5 (.buildS false 1 2 false [(.sl 1 [])] [(0, (.t 3)), (1, (.t 4))]),
    .op .none 6 (.build false [(.w (.int .i64 0)), (.w (.string ⟨#[]⟩)), (.sl 1 []), (.w (.int .i64 0)), (.sl 1 [])] [(0, 1, (.c (.w (.int .i64 1)))), (3, 1, (.c (.w (.int .i64 (-1)))))]),
    .op .none 7 (.buildS false 1 1 false [(.w (.string ⟨#[]⟩))] [(0, (.c (.w (.string ⟨#[112, 108]⟩))))]),
    .op .none 8 (.build false [(.w (.int .i64 0)), (.w (.string ⟨#[]⟩)), (.sl 1 []), (.w (.int .i64 0)), (.sl 1 [])] [(0, 1, (.c (.w (.int .i64 0)))), (3, 1, (.c (.w (.int .i64 1)))), (4, 1, (.t 7))]),
    .op .none 9 (.buildS false 5 2 true [(.w (.int .i64 0)), (.w (.string ⟨#[]⟩)), (.sl 1 []), (.w (.int .i64 0)), (.sl 1 [])] [(0, (.t 6)), (1, (.t 8))]),
    .op .none 10 (.build false [(.sl 1 []), (.sl 5 [])] [(0, 1, (.t 5)), (1, 1, (.t 9))]),
    .op .none 11 (.buildS false 2 1 true [(.sl 1 []), (.sl 5 [])] [(0, (.t 10))]),
    .op .none 12 (.build false [(.sl 4 []), (.sl 2 [])] [(1, 1, (.t 11))]),
    .op .none 2 (.alloc true [(.sl 4 []), (.sl 2 [])]),
    .store .none true 2 (.t 2) (.t 12)]) <|
  .seq (.reg false [.op .none 13 (.ld true 2 (.t 2)),
    .op .none 14 (.buildS false 1 1 false [(.w (.string ⟨#[]⟩))] [(0, (.c (.w (.string ⟨#[65, 100, 106]⟩))))]),
    .op .none 15 (.build false [(.w (.string ⟨#[]⟩)), (.sl 1 [])] [(0, 1, (.c (.w (.string ⟨#[114, 101, 100]⟩)))), (1, 1, (.t 14))]),
    .op .none 16 (.buildS false 1 2 false [(.w (.string ⟨#[]⟩))] [(0, (.c (.w (.string ⟨#[78]⟩)))), (1, (.c (.w (.string ⟨#[112, 108]⟩))))]),
    .op .none 17 (.build false [(.w (.string ⟨#[]⟩)), (.sl 1 [])] [(0, 1, (.c (.w (.string ⟨#[104, 111, 117, 115, 101]⟩)))), (1, 1, (.t 16))]),
    .op .none 18 (.buildS false 2 2 true [(.w (.string ⟨#[]⟩)), (.sl 1 [])] [(0, (.t 15)), (1, (.t 17))]),
    .store .none true 2 (.t 0) (.t 13),
    .op .none 1 (.mv (.t 18))]) <|
  .ret
theorem k33 : FnCode Try.prog 33 [] 19 [5000026000000, 1] c33 := ⟨Try.f33, Try.func33, fun xs W => Try.call33 xs W, by kernel_rfl, by kernel_rfl, by kernel_rfl⟩

/-! The document's example. -/
def xAdj : Bs := [65, 100, 106]
def xN : Bs := [78]
def xPl : Bs := [112, 108]
def xRed : Bs := [114, 101, 100]
def xHouse : Bs := [104, 111, 117, 115, 101]
def exB : BrT := ([], [([[xAdj], [xN]], [(1, [], [], -1, [], ()), (0, [], [], 1, [xPl], ())], ())], ())
def exU : List UnitT := [(xRed, [xAdj], ()), (xHouse, [xN, xPl], ())]
theorem fok33 : FOk Try.prog 33 [] [] (.tup [.v (brV exB), .v (.sl 2 (exU.map unitV))]) [] := by
  refine FOk.val k33 (by simp) (by simp) (by decide) ?_
  simp [c33]
  refine Ends.v rfl ?_
  simp
  exact ⟨rfl, rfl⟩
theorem fok113 (x : UnitT) (s : Bs) (hx : unitS x) : FOk Try.prog 113 [.v (txtV s), .rp (unitV x).cells] [] (.B (!inW x.2.1 s)) [] := by
  obtain ⟨b, t, u⟩ := x
  refine FOk.val k113 (by simp) (by simp [unitV]) (by decide) ?_
  simp [c113, unitV, txtV]
  refine CallG.lent rfl rfl rfl rfl (fok69 t s hx.1.1) rfl ?_
  simp
  exact Ends.v rfl (by simp)
def hasU (x : UnitT) (l : List Bs) : Bool := !l.any fun s => !inW x.2.1 s
theorem fok103 (x : UnitT) (l : List Bs) (hx : unitS x) (hl : l.length ≤ 200000000000000) : FOk Try.prog 103 [.v (unitV x), .v (.word l)] [] (.B (hasU x l)) [] := by
  have h1 := fok92 l _ _ _ (fixFn 113 (unitV x).cells [] (by simp) (by simp) (by simp) (by simp)) (fun s => !inW x.2.1 s) (fun s _ => fok113 x s hx) hl
  simp only [hasU]
  generalize (l.any fun s => !inW x.2.1 s) = bb at h1
  obtain ⟨b, t, u⟩ := x
  refine FOk.val k103 (by simp) (by simp) (by decide) ?_
  simp [c103, unitV]
  simp only [unitV, PV.cells_st] at h1
  refine CallG.lent rfl rfl rfl rfl h1 rfl ?_
  simp
  exact Ends.v rfl (by simp)

/-! What the program makes of the example. -/
theorem ex_tags : ∀ u ∈ exU, unitS u := by
  intro u hu
  simp only [exU, List.mem_cons, List.not_mem_nil, or_false] at hu
  rcases hu with rfl | rfl <;> simp [unitS, wordS, xAdj, xN, xPl, xRed, xHouse]
theorem ex_brS : brS exB := by
  refine ⟨by simp [exB], by simp [exB], by simp [exB], ?_⟩
  intro r hr
  simp only [exB, List.mem_cons, List.not_mem_nil, or_false] at hr
  subst hr
  simp [shufS, slotS, wordS, xAdj, xN, xPl]
theorem ex_both : bothF exB exU = 0 := by
  have h1 : validF exB = 0 := by decide +kernel
  have h2 : unitsF exU = 0 := by decide +kernel
  simp [bothF, h1, h2]

end Go.Proofs
