/- The walk. -/
import Derived.Test.YtphjjlhpepmofaaF12
import Derived.Test.YtphjjlhpepmofaaProg
import Derived.KernelRfl
set_option linter.all false
set_option maxHeartbeats 2000000
namespace Go.Proofs
open Go Go.AM
attribute [local irreducible] Run Ends
/-- ablaut/ablautref23.Validate -/
def c19 : MC :=
  .seq (.reg false [.op .none 1 (.box false (.t 0)),
    .op .none 2 (.mv (.c (.w (.int .i64 0))))]) <|
  .seq (.seq (.reg false [.op .none 6 (.fa 4 (.t 1)),
    .op .none 7 (.ld false 1 (.t 6)),
    .op .none 8 (.len false (.t 7)),
    .op .none 9 (.bin .gtr (.t 8) (.c (.w (.int .i64 200))))]) <|
  .cond (.t 9)
    (.seq (.reg false [.op .none 2 (.mv (.c (.w (.int .i64 3))))]) <|
    .ret)
    (.skip)) <|
  .seq (.seq (.reg false [.op .none 3 (.mv (.c (.w (.int .i64 0))))]) <|
  .block 0 <|
    .loop <|
      .seq (.seq (.reg false [.op .none 10 (.mv (.t 3)),
        .op .none 11 (.fa 4 (.t 1)),
        .op .none 12 (.ld false 1 (.t 11)),
        .op .none 13 (.len false (.t 12)),
        .op .none 14 (.bin .lss (.t 10) (.t 13))]) <|
      .cond (.t 14)
        (.skip)
        (.exit 0)) <|
      .seq (.block 1 <|
        .seq (.reg false [.op .none 17 (.fa 4 (.t 1)),
          .op .none 18 (.ld false 1 (.t 17)),
          .op .none 19 (.mv (.t 3)),
          .op .none 20 (.ia 3 (.t 18) (.t 19)),
          .op .none 21 (.fa 0 (.t 20)),
          .op .none 22 (.ld false 1 (.t 21)),
          .op .none 23 (.len true (.t 22)),
          .op .none 24 (.bin .gtr (.t 23) (.c (.w (.int .i64 16)))),
          .op .none 25 (.mv (.t 24)),
          .op (.some (25, false)) 26 (.fa 4 (.t 1)),
          .op (.some (25, false)) 27 (.ld false 1 (.t 26)),
          .op (.some (25, false)) 28 (.mv (.t 3)),
          .op (.some (25, false)) 29 (.ia 3 (.t 27) (.t 28)),
          .op (.some (25, false)) 30 (.fa 1 (.t 29)),
          .op (.some (25, false)) 31 (.ld false 1 (.t 30)),
          .op (.some (25, false)) 32 (.len true (.t 31)),
          .op (.some (25, false)) 33 (.bin .gtr (.t 32) (.c (.w (.int .i64 16)))),
          .op .none 34 (.pick (.t 25) (.c (.w (.bool true))) (.t 33))]) <|
        .cond (.t 34)
          (.seq (.reg false [.op .none 2 (.mv (.c (.w (.int .i64 3))))]) <|
          .ret)
          (.skip)) <|
      .reg false [.op .none 15 (.mv (.t 3)),
        .op .none 16 (.bin .add (.t 15) (.c (.w (.int .i64 1)))),
        .op .none 3 (.mv (.t 16))]) <|
  .seq (.seq (.reg false [.op .none 35 (.fa 0 (.t 1)),
    .op .none 36 (.ld false 1 (.t 35)),
    .call .none 37 (.f 42) [(.t 36)],
    .op .none 38 (.un .not (.t 37)),
    .op .none 39 (.mv (.t 38)),
    .op (.some (39, false)) 40 (.fa 1 (.t 1)),
    .op (.some (39, false)) 41 (.ld false 1 (.t 40)),
    .call (.some (39, false)) 42 (.f 42) [(.t 41)],
    .op (.some (39, false)) 43 (.un .not (.t 42)),
    .op .none 44 (.pick (.t 39) (.c (.w (.bool true))) (.t 43)),
    .op .none 45 (.mv (.t 44)),
    .op (.some (45, false)) 46 (.fa 3 (.t 1)),
    .op (.some (45, false)) 47 (.ld false 1 (.t 46)),
    .call (.some (45, false)) 48 (.f 42) [(.t 47)],
    .op (.some (45, false)) 49 (.un .not (.t 48)),
    .op .none 50 (.pick (.t 45) (.c (.w (.bool true))) (.t 49)),
    .op .none 51 (.mv (.t 50)),
    .op (.some (51, false)) 52 (.fa 2 (.t 1)),
    .op (.some (51, false)) 53 (.ld false 1 (.t 52)),
    .op (.some (51, false)) 54 (.bin .neq (.t 53) (.c (.w (.int .i64 0)))),
    .op (.some (51, false)) 55 (.mv (.t 54)),
    .op (.some (55, true)) 56 (.fa 2 (.t 1)),
    .op (.some (55, true)) 57 (.ld false 1 (.t 56)),
    .call (.some (55, true)) 58 (.f 42) [(.t 57)],
    .op (.some (55, true)) 59 (.un .not (.t 58)),
    .op (.some (51, false)) 60 (.pick (.t 55) (.t 59) (.c (.w (.bool false)))),
    .op .none 61 (.pick (.t 51) (.c (.w (.bool true))) (.t 60))]) <|
  .cond (.t 61)
    (.seq (.reg false [.op .none 2 (.mv (.c (.w (.int .i64 1))))]) <|
    .ret)
    (.skip)) <|
  .seq (.seq (.reg false [.op .none 4 (.mv (.c (.w (.int .i64 0))))]) <|
  .block 2 <|
    .loop <|
      .seq (.seq (.reg false [.op .none 62 (.mv (.t 4)),
        .op .none 63 (.fa 4 (.t 1)),
        .op .none 64 (.ld false 1 (.t 63)),
        .op .none 65 (.len false (.t 64)),
        .op .none 66 (.bin .lss (.t 62) (.t 65))]) <|
      .cond (.t 66)
        (.skip)
        (.exit 2)) <|
      .seq (.block 3 <|
        .seq (.reg false [.op .none 69 (.fa 4 (.t 1)),
          .op .none 70 (.ld false 1 (.t 69)),
          .op .none 71 (.mv (.t 4)),
          .op .none 72 (.ia 3 (.t 70) (.t 71)),
          .op .none 73 (.ld true 3 (.t 72)),
          .op .none 5 (.alloc true [(.w (.string ⟨#[]⟩)), (.w (.string ⟨#[]⟩)), (.w (.int .i64 0))]),
          .store .none (.stt true 3 (.t 5) (.t 73))]) <|
        .seq (.seq (.reg false [.op .none 74 (.fa 0 (.t 5)),
          .op .none 75 (.ld false 1 (.t 74)),
          .call .none 76 (.f 43) [(.t 75)],
          .op .none 77 (.un .not (.t 76)),
          .op .none 78 (.mv (.t 77)),
          .op (.some (78, false)) 79 (.fa 1 (.t 5)),
          .op (.some (78, false)) 80 (.ld false 1 (.t 79)),
          .call (.some (78, false)) 81 (.f 43) [(.t 80)],
          .op (.some (78, false)) 82 (.un .not (.t 81)),
          .op .none 83 (.pick (.t 78) (.c (.w (.bool true))) (.t 82)),
          .op .none 84 (.mv (.t 83)),
          .op (.some (84, false)) 85 (.fa 0 (.t 5)),
          .op (.some (84, false)) 86 (.ld false 1 (.t 85)),
          .op (.some (84, false)) 87 (.fa 1 (.t 5)),
          .op (.some (84, false)) 88 (.ld false 1 (.t 87)),
          .op (.some (84, false)) 89 (.bin .geq (.t 86) (.t 88)),
          .op .none 90 (.pick (.t 84) (.c (.w (.bool true))) (.t 89)),
          .op .none 91 (.mv (.t 90)),
          .op (.some (91, false)) 92 (.fa 2 (.t 5)),
          .op (.some (91, false)) 93 (.ld false 1 (.t 92)),
          .op (.some (91, false)) 94 (.bin .lss (.t 93) (.c (.w (.int .i64 0)))),
          .op .none 95 (.pick (.t 91) (.c (.w (.bool true))) (.t 94)),
          .op .none 96 (.mv (.t 95)),
          .op (.some (96, false)) 97 (.fa 2 (.t 5)),
          .op (.some (96, false)) 98 (.ld false 1 (.t 97)),
          .op (.some (96, false)) 99 (.fa 3 (.t 1)),
          .op (.some (96, false)) 100 (.ld false 1 (.t 99)),
          .op (.some (96, false)) 101 (.bin .gtr (.t 98) (.t 100)),
          .op .none 102 (.pick (.t 96) (.c (.w (.bool true))) (.t 101))]) <|
        .cond (.t 102)
          (.seq (.reg false [.op .none 2 (.mv (.c (.w (.int .i64 1))))]) <|
          .ret)
          (.skip)) <|
        .seq (.reg true [.op .none 103 (.mv (.t 4)),
          .op .none 104 (.bin .gtr (.t 103) (.c (.w (.int .i64 0)))),
          .op .none 105 (.mv (.t 104)),
          .op (.some (105, true)) 106 (.fa 4 (.t 1)),
          .op (.some (105, true)) 107 (.ld false 1 (.t 106)),
          .op (.some (105, true)) 108 (.mv (.t 4)),
          .op (.some (105, true)) 109 (.bin .sub (.t 108) (.c (.w (.int .i64 1)))),
          .op (.some (105, true)) 110 (.ia 3 (.t 107) (.t 109)),
          .op (.some (105, true)) 111 (.fa 0 (.t 110)),
          .op (.some (105, true)) 112 (.ld false 1 (.t 111)),
          .op (.some (105, true)) 113 (.fa 0 (.t 5)),
          .op (.some (105, true)) 114 (.ld false 1 (.t 113)),
          .op (.some (105, true)) 115 (.bin .gtr (.t 112) (.t 114)),
          .op (.some (105, true)) 116 (.mv (.t 115)),
          .op (.some (116, false)) 117 (.fa 4 (.t 1)),
          .op (.some (116, false)) 118 (.ld false 1 (.t 117)),
          .op (.some (116, false)) 119 (.mv (.t 4)),
          .op (.some (116, false)) 120 (.bin .sub (.t 119) (.c (.w (.int .i64 1)))),
          .op (.some (116, false)) 121 (.ia 3 (.t 118) (.t 120)),
          .op (.some (116, false)) 122 (.fa 0 (.t 121)),
          .op (.some (116, false)) 123 (.ld false 1 (.t 122)),
          .op (.some (116, false)) 124 (.fa 0 (.t 5)),
          .op (.some (116, false)) 125 (.ld false 1 (.t 124)),
          .op (.some (116, false)) 126 (.bin .eql (.t 123) (.t 125)),
          .op (.some (116, false)) 127 (.mv (.t 126)),
          .op (.some (127, true)) 128 (.fa 4 (.t 1)),
          .op (.some (127, true)) 129 (.ld false 1 (.t 128)),
          .op (.some (127, true)) 130 (.mv (.t 4)),
          .op (.some (127, true)) 131 (.bin .sub (.t 130) (.c (.w (.int .i64 1)))),
          .op (.some (127, true)) 132 (.ia 3 (.t 129) (.t 131)),
          .op (.some (127, true)) 133 (.fa 1 (.t 132)),
          .op (.some (127, true)) 134 (.ld false 1 (.t 133)),
          .op (.some (127, true)) 135 (.fa 1 (.t 5)),
          .op (.some (127, true)) 136 (.ld false 1 (.t 135)),
          .op (.some (127, true)) 137 (.bin .geq (.t 134) (.t 136)),
          .op (.some (116, false)) 138 (.pick (.t 127) (.t 137) (.c (.w (.bool false)))),
          .op (.some (105, true)) 139 (.pick (.t 116) (.c (.w (.bool true))) (.t 138)),
          .op .none 140 (.pick (.t 105) (.t 139) (.c (.w (.bool false))))]) <|
        .cond (.t 140)
          (.seq (.reg false [.op .none 2 (.mv (.c (.w (.int .i64 1))))]) <|
          .ret)
          (.skip)) <|
      .reg false [.op .none 67 (.mv (.t 4)),
        .op .none 68 (.bin .add (.t 67) (.c (.w (.int .i64 1)))),
        .op .none 4 (.mv (.t 68))]) <|
  .seq (.reg false [.op .none 2 (.mv (.c (.w (.int .i64 0))))]) <|
  .ret
theorem k19 : FnCode Try.prog 19 [] 141 [2] c19 := ⟨Try.f19, Try.func19, fun xs W => Try.call19 xs W, by kernel_rfl, by kernel_rfl, by kernel_rfl⟩

/-- ablaut/ablautref23.asked -/
def c37 : MC :=
  .seq (.reg false [.op .none 2 (.box false (.t 0)),
    .op .none 4 (.mv (.c (.w (.int .i64 0))))]) <|
  .seq (.seq (.reg false [.op .none 6 (.ld true 5 (.t 2)),
    .call .none 7 (.f 19) [(.t 6)],
    .op .none 5 (.mv (.t 7))]) <|
  .seq (.reg false [.op .none 8 (.mv (.t 5)),
    .op .none 9 (.bin .neq (.t 8) (.c (.w (.int .i64 0))))]) <|
  .cond (.t 9)
    (.seq (.reg false [.op .none 10 (.mv (.t 5)),
      .op .none 4 (.mv (.t 10))]) <|
    .ret)
    (.skip)) <|
  .seq (.reg false [.op .none 11 (.mv (.t 1)),
    .call .none 12 (.f 59) [(.t 11)],
    .op .none 4 (.mv (.t 12))]) <|
  .ret
theorem k37 : FnCode Try.prog 37 [] 13 [4] c37 := ⟨Try.f37, Try.func37, fun xs W => Try.call37 xs W, by kernel_rfl, by kernel_rfl, by kernel_rfl⟩

/-- ablaut/ablautref23.Price -/
def c15 : MC :=
  .seq (.reg false [.op .none 3 (.box false (.t 0)),
    .op .none 6 (.mv (.c (.w (.int .i64 0)))),
    .op .none 7 (.mv (.c (.w (.int .i64 0))))]) <|
  .seq (.seq (.reg false [.op .none 9 (.ld true 5 (.t 3)),
    .op .none 10 (.mv (.t 1)),
    .op .none 11 (.mv (.t 2)),
    .op .none 12 (.buildS false 1 2 false [(.sl 1 [])] [(0, (.t 10)), (1, (.t 11))]),
    .call .none 13 (.f 37) [(.t 9), (.t 12)],
    .op .none 8 (.mv (.t 13))]) <|
  .seq (.reg false [.op .none 14 (.mv (.t 8)),
    .op .none 15 (.bin .neq (.t 14) (.c (.w (.int .i64 0))))]) <|
  .cond (.t 15)
    (.seq (.reg false [.op .none 16 (.mv (.t 8)),
      .op .none 6 (.mv (.c (.w (.int .i64 0)))),
      .op .none 7 (.mv (.t 16))]) <|
    .ret)
    (.skip)) <|
  .seq (.reg false [.op .none 17 (.ld true 5 (.t 3)),
    .op .none 18 (.mv (.t 1)),
    .op .none 19 (.mv (.t 2)),
    .call .none 20 (.f 38) [(.t 17), (.t 18), (.t 19)],
    .op .none 6 (.mv (.t 20)),
    .op .none 7 (.mv (.c (.w (.int .i64 0))))]) <|
  .ret
theorem k15 : FnCode Try.prog 15 [] 21 [6, 7] c15 := ⟨Try.f15, Try.func15, fun xs W => Try.call15 xs W, by kernel_rfl, by kernel_rfl, by kernel_rfl⟩

/-- ablaut/spell.Within -/
def c16 : MC :=
  .seq (.reg false [.op .none 4 (.box false (.t 0)),
    .op .none 8 (.mv (.c (.w (.bool false)))),
    .op .none 9 (.mv (.c (.w (.int .i64 0)))),
    .op .none 10 (.mv (.c (.w (.int .i64 0))))]) <|
  .seq (.reg false [.op .none 14 (.ld true 5 (.t 4)),
    .op .none 15 (.mv (.t 1)),
    .op .none 16 (.mv (.t 2)),
    .call .none 17 (.f 14) [(.t 14), (.t 15), (.t 16)],
    .op .none 13 (.mv (.t 17)),
    .op .none 18 (.ext (.t 13) 0),
    .op .none 19 (.ext (.t 13) 1),
    .op .none 11 (.mv (.t 18)),
    .op .none 12 (.mv (.t 19))]) <|
  .seq (.block 0 <|
    .seq (.reg false [.op .none 21 (.mv (.t 12)),
      .op .none 22 (.bin .neq (.t 21) (.c (.w (.int .i64 0)))),
      .op .none 20 (.mv (.t 22))]) <|
    .cond (.t 20)
      (.seq (.reg false [.op .none 23 (.mv (.t 12)),
        .op .none 8 (.mv (.c (.w (.bool false)))),
        .op .none 9 (.mv (.c (.w (.int .i64 0)))),
        .op .none 10 (.mv (.t 23))]) <|
      .ret)
      (.seq (.reg false [.op .none 25 (.mv (.t 3)),
        .op .none 26 (.bin .lss (.t 25) (.c (.w (.int .i64 0)))),
        .op .none 24 (.mv (.t 26))]) <|
      .cond (.t 24)
        (.seq (.reg false [.op .none 8 (.mv (.c (.w (.bool false)))),
          .op .none 9 (.mv (.c (.w (.int .i64 0)))),
          .op .none 10 (.mv (.c (.w (.int .i64 1))))]) <|
        .ret)
        (.seq (.reg false [.op .none 28 (.mv (.t 11)),
          .op .none 29 (.mv (.t 3)),
          .op .none 30 (.bin .gtr (.t 28) (.t 29)),
          .op .none 27 (.mv (.t 30))]) <|
        .cond (.t 27)
          (.seq (.reg false [.op .none 8 (.mv (.c (.w (.bool false)))),
            .op .none 9 (.mv (.c (.w (.int .i64 0)))),
            .op .none 10 (.mv (.c (.w (.int .i64 0))))]) <|
          .ret)
          (.skip)))) <|
  .seq (.reg false [.op .none 31 (.mv (.t 11)),
    .op .none 8 (.mv (.c (.w (.bool true)))),
    .op .none 9 (.mv (.t 31)),
    .op .none 10 (.mv (.c (.w (.int .i64 0))))]) <|
  .ret
theorem k16 : FnCode Try.prog 16 [] 32 [8, 9, 10] c16 := ⟨Try.f16, Try.func16, fun xs W => Try.call16 xs W, by kernel_rfl, by kernel_rfl, by kernel_rfl⟩

/-- ablaut/ablautref23.Within -/
def c17 : MC :=
  .seq (.reg false [.op .none 4 (.box false (.t 0)),
    .op .none 8 (.mv (.c (.w (.bool false)))),
    .op .none 9 (.mv (.c (.w (.int .i64 0)))),
    .op .none 10 (.mv (.c (.w (.int .i64 0))))]) <|
  .seq (.seq (.reg false [.op .none 13 (.ld true 5 (.t 4)),
    .op .none 14 (.mv (.t 1)),
    .op .none 15 (.mv (.t 2)),
    .op .none 16 (.buildS false 1 2 false [(.sl 1 [])] [(0, (.t 14)), (1, (.t 15))]),
    .call .none 17 (.f 37) [(.t 13), (.t 16)],
    .op .none 11 (.mv (.t 17))]) <|
  .seq (.reg false [.op .none 18 (.mv (.t 11)),
    .op .none 19 (.bin .neq (.t 18) (.c (.w (.int .i64 0))))]) <|
  .cond (.t 19)
    (.seq (.reg false [.op .none 20 (.mv (.t 11)),
      .op .none 8 (.mv (.c (.w (.bool false)))),
      .op .none 9 (.mv (.c (.w (.int .i64 0)))),
      .op .none 10 (.mv (.t 20))]) <|
    .ret)
    (.skip)) <|
  .seq (.seq (.reg false [.op .none 21 (.mv (.t 3)),
    .op .none 22 (.bin .lss (.t 21) (.c (.w (.int .i64 0))))]) <|
  .cond (.t 22)
    (.seq (.reg false [.op .none 8 (.mv (.c (.w (.bool false)))),
      .op .none 9 (.mv (.c (.w (.int .i64 0)))),
      .op .none 10 (.mv (.c (.w (.int .i64 1))))]) <|
    .ret)
    (.skip)) <|
  .seq (.reg false [.op .none 23 (.ld true 5 (.t 4)),
    .op .none 24 (.mv (.t 1)),
    .op .none 25 (.mv (.t 2)),
    .call .none 26 (.f 38) [(.t 23), (.t 24), (.t 25)],
    .op .none 12 (.mv (.t 26))]) <|
  .seq (.seq (.reg false [.op .none 27 (.mv (.t 12)),
    .op .none 28 (.mv (.t 3)),
    .op .none 29 (.bin .gtr (.t 27) (.t 28))]) <|
  .cond (.t 29)
    (.seq (.reg false [.op .none 8 (.mv (.c (.w (.bool false)))),
      .op .none 9 (.mv (.c (.w (.int .i64 0)))),
      .op .none 10 (.mv (.c (.w (.int .i64 0))))]) <|
    .ret)
    (.skip)) <|
  .seq (.reg false [.op .none 30 (.mv (.t 12)),
    .op .none 8 (.mv (.c (.w (.bool true)))),
    .op .none 9 (.mv (.t 30)),
    .op .none 10 (.mv (.c (.w (.int .i64 0))))]) <|
  .ret
theorem k17 : FnCode Try.prog 17 [] 31 [8, 9, 10] c17 := ⟨Try.f17, Try.func17, fun xs W => Try.call17 xs W, by kernel_rfl, by kernel_rfl, by kernel_rfl⟩

theorem fok42 (n : Int) : FOk Try.prog 42 [.I n] [] (.B (within n 1 1000)) [] := by
  refine FOk.val k42 (by simp) (by simp) (by decide) ?_
  simp [c42]
  exact ⟨fun h => Ends.v rfl (by simp [within, h]), fun h => Ends.v rfl (by simp [within]; omega)⟩
theorem fok59 (ws : List (List Bs)) (hw : ∀ w ∈ ws, wordS w) (hl : ws.length ≤ 200000000000000) : FOk Try.prog 59 [.v (wordsV ws)] [] (.I (vWords ws)) [] := by
  refine FOk.val k59 (by simp) (by simp) (by decide) ?_
  simp [c59, wordsV]
  refine Run.loopA (ι := Nat) [] (fun i => i ≤ ws.length ∧ vWords (ws.drop i) = vWords ws) (fun i => ⟨[(0, .v (.sl 1 (ws.map PV.word))), (3, .I i)], [], 1024⟩) (fun i => ws.length - i) 0 (by decide) (by simp) ⟨by simp, by simp⟩ ?_
  rintro i ⟨hi, hall⟩ ih
  by_cases h : i < ws.length
  · rw [drop_at h] at hall
    simp only [vWords] at hall
    have hs := hw ws[i] (List.getElem_mem h)
    simp (disch := omega) [h, wrap_i64]
    refine CallG.lent rfl rfl rfl rfl (fok48 ws[i] hs) rfl ?_
    simp (disch := omega) [wrap_i64]
    refine ⟨fun h1 => Ends.v rfl (by simp [← hall, h1]), fun h1 => ?_⟩
    exact ih (i + 1) _ ⟨by omega, by simpa [h1] using hall⟩ (by omega) (by simp)
  · rw [drop_no h] at hall
    simp [h]
    exact Ends.v rfl (by simp [← hall, vWords])
theorem fok38 (p : PricesT) (a b : List Bs) (hp : OkP p) (ha : a.length ≤ 60) (hb : b.length ≤ 60) : FOk Try.prog 38 [.v (pricesV p), .v (.word a), .v (.word b)] [] (.I (pr p a b)) [] := by
  have h := fok70 p a b hp ha hb
  obtain ⟨h1, h2⟩ := List.getElem?_eq_some_iff.1 (rowsF_at p a b (I := 0) (i := 0) (by omega) (by omega))
  obtain ⟨h3, h4⟩ := List.getElem?_eq_some_iff.1 (rowF_at p a b (i := 0) (k := 0) (by omega))
  simp only [List.drop_zero] at h4
  refine FOk.val k38 (by simp) (by simp) (by decide) ?_
  simp [c38, pricesV]
  refine CallG.plain rfl rfl rfl rfl h (by simp) (by simp) ?_
  simp [h1, h2, h3, h4]
  exact Ends.v rfl (by simp)
theorem cmpN_ge (m n : NearT) : decide (0 ≤ cmpN m n) = (!(ltB m.1 n.1 || decide (m.1 = n.1)) || (decide (m.1 = n.1) && !ltB m.2.1 n.2.1)) := by
  unfold cmpN
  by_cases h1 : m.1 = n.1
  · rw [h1]
    by_cases h2 : m.2.1 = n.2.1
    · rw [h2]; simp [cmpW, cmpB_self, ltB_irrefl]
    · have h3 : ¬ cmpB m.2.1 n.2.1 = 0 := fun e => h2 (cmpB_zero.1 e)
      simp [cmpW, cmpB_self, h3]
      cases h4 : ltB m.2.1 n.2.1
      · simp [cmpB, h4, h2]
      · simp [cmpB, h4]
  · have h3 : ¬ cmpB m.1 n.1 = 0 := fun e => h1 (cmpB_zero.1 e)
    simp [cmpW, h3, h1]
    cases h4 : ltB m.1 n.1
    · simp [cmpB, h4, h1]
    · simp [cmpB, h4]
set_option maxRecDepth 100000 in
theorem fok19 (p : PricesT) (hp : prS p) : FOk Try.prog 19 [.v (pricesV p)] [] (.I (vPrices p)) [] := by
  obtain ⟨pd, pp, ps, pc, l, u⟩ := p
  simp only [prS] at hp
  refine FOk.val k19 (by simp) (by simp) (by decide) ?_
  simp [c19, pricesV]
  refine ⟨fun h => Ends.v rfl (by simp [vPrices, h]), fun hlen => ?_⟩
  have hlen' : ¬ 200 < l.length := by omega
  refine Run.cutB (ι := Unit) [(1, 1)] (fun _ => longN l = false) (fun _ => ⟨[(1, .ptr 1 0 0)], [(1, ⟨false, 5, [pricesV (pd, pp, ps, pc, l, u)]⟩)], 1024⟩) (by decide) ?_ ?_
  · intro _ hl
    simp [pricesV]
    refine CallG.lent rfl rfl rfl rfl (fok42 pd) rfl ?_
    simp
    refine ⟨fun h1 => ?_, fun h1 => Ends.v rfl (by simp [vPrices, hl, hlen', numBad, h1])⟩
    refine CallG.lent rfl rfl rfl rfl (fok42 pp) rfl ?_
    simp
    refine ⟨fun h2 => ?_, fun h2 => Ends.v rfl (by simp [vPrices, hl, hlen', numBad, h1, h2])⟩
    refine CallG.lent rfl rfl rfl rfl (fok42 pc) rfl ?_
    simp
    refine ⟨fun h3 => ?_, fun h3 => Ends.v rfl (by simp [vPrices, hl, hlen', numBad, h1, h2, h3])⟩
    refine ⟨fun h4 => ?_, fun h4 => ?_⟩
    · refine CallG.lent rfl rfl rfl rfl (fok42 ps) rfl ?_
      simp
      refine ⟨fun h5 => ?_, fun h5 => ?_⟩
      · refine Ends.v rfl ?_
        have hnb : numBad (pd, pp, ps, pc, l, u) = true := by
          simp [numBad, h1, h2, h3]; simp [within] at h5 ⊢; omega
        simp [vPrices, hl, hlen', hnb]
      · have hnb : numBad (pd, pp, ps, pc, l, u) = false := by
          simp [numBad, h1, h2, h3]; simp [within] at h5 ⊢; omega
        refine Run.loopA (ι := Nat) [(1, 1)] (fun i => i ≤ l.length ∧ rowsBad pc (prevAt l i) (l.drop i) = rowsBad pc none l) (fun i => ⟨[(1, .ptr 1 0 0), (4, .I i)], [(1, ⟨false, 5, [pricesV (pd, pp, ps, pc, l, u)]⟩)], 1024⟩) (fun i => l.length - i) 0 (by decide) (by simp [pricesV]) ⟨by omega, by simp [prevAt]⟩ ?_
        rintro i ⟨hi, hall⟩ ih
        by_cases h : i < l.length
        · rw [drop_at h] at hall
          simp only [rowsBad] at hall
          have hs := hp l[i] (List.getElem_mem h)
          have hbad : nearBad pc (prevAt l i) l[i] = true → vPrices (pd, pp, ps, pc, l, u) = 1 := by
            intro q; rw [q] at hall
            simp [vPrices, hl, hlen', hnb, ← hall]
          have hgood : nearBad pc (prevAt l i) l[i] = false → rowsBad pc (some l[i]) (l.drop (i + 1)) = rowsBad pc none l := by
            intro q; rw [q, Bool.false_or] at hall; exact hall
          have e4 : prevAt l (i + 1) = some l[i] := by simp [prevAt, h]
          simp (disch := omega) [h, wrap_i64, nearV, pricesV]
          refine CallG.lent rfl rfl rfl rfl (fok43 l[i].1 hs.1) rfl ?_
          simp
          refine ⟨fun q1 => ?_, fun q1 => Ends.v rfl (by simp [hbad (by simp [nearBad, q1])])⟩
          refine CallG.lent rfl rfl rfl rfl (fok43 l[i].2.1 hs.2) rfl ?_
          rcases Nat.eq_zero_or_pos i with hi0 | hi0
          · subst hi0
            simp (disch := omega) [wrap_i64, pricesV, nearV, h]
            repeat' (first | refine And.intro ?_ ?_ | intro _)
            all_goals
              cases hz : nearBad pc (prevAt l 0) l[0] with
              | true =>
                have hb := hbad hz
                first
                | (refine Ends.v rfl ?_; simp [hb]; done)
                | (exfalso; simp_all [nearBad, prevAt, within]; done)
                | (exfalso; simp_all [nearBad, prevAt, within]; omega)
              | false =>
                have hg := hgood hz
                first
                | exact ih 1 _ ⟨by omega, by rw [e4]; exact hg⟩ (by omega) (by simp [pricesV])
                | (exfalso; simp_all [nearBad, prevAt, within]; done)
                | (exfalso; simp_all [nearBad, prevAt, within]; omega)
          · have e1 : IntKind.i64.wrap ((i : Int) - 1) = ((i - 1 : Nat) : Int) := by rw [wrap_i64] <;> omega
            have e2 : i - 1 < l.length := by omega
            have e3 : prevAt l i = some l[i - 1] := by simp [prevAt, show i ≠ 0 by omega, e2]
            have ec := cmpN_ge l[i - 1] l[i]
            simp (disch := omega) [wrap_i64, e1, e2, hi0, pricesV, nearV, h]
            repeat' (first | refine And.intro ?_ ?_ | intro _)
            all_goals
              cases hz : nearBad pc (prevAt l i) l[i] with
              | true =>
                have hb := hbad hz
                first
                | (refine Ends.v rfl ?_; simp [hb]; done)
                | (exfalso; simp only [nearBad, e3, ec] at hz; simp_all [within]; done)
                | (exfalso; simp only [nearBad, e3, ec] at hz; simp_all [within]; omega)
              | false =>
                have hg := hgood hz
                first
                | exact ih (i + 1) _ ⟨by omega, by rw [e4]; exact hg⟩ (by omega) (by simp [pricesV])
                | (exfalso; simp only [nearBad, e3, ec] at hz; simp_all [within]; done)
                | (exfalso; simp only [nearBad, e3, ec] at hz; simp_all [within]; omega)
        · rw [drop_no h] at hall
          simp [h, pricesV]
          exact Ends.v rfl (by simp [vPrices, hl, hlen', hnb, ← hall, rowsBad])
    · have hnb : numBad (pd, pp, ps, pc, l, u) = false := by
        simp [numBad, h1, h2, h3, h4]; simp [within]
      refine Run.loopA (ι := Nat) [(1, 1)] (fun i => i ≤ l.length ∧ rowsBad pc (prevAt l i) (l.drop i) = rowsBad pc none l) (fun i => ⟨[(1, .ptr 1 0 0), (4, .I i)], [(1, ⟨false, 5, [pricesV (pd, pp, ps, pc, l, u)]⟩)], 1024⟩) (fun i => l.length - i) 0 (by decide) (by simp [pricesV]) ⟨by omega, by simp [prevAt]⟩ ?_
      rintro i ⟨hi, hall⟩ ih
      by_cases h : i < l.length
      · rw [drop_at h] at hall
        simp only [rowsBad] at hall
        have hs := hp l[i] (List.getElem_mem h)
        have hbad : nearBad pc (prevAt l i) l[i] = true → vPrices (pd, pp, ps, pc, l, u) = 1 := by
          intro q; rw [q] at hall
          simp [vPrices, hl, hlen', hnb, ← hall]
        have hgood : nearBad pc (prevAt l i) l[i] = false → rowsBad pc (some l[i]) (l.drop (i + 1)) = rowsBad pc none l := by
          intro q; rw [q, Bool.false_or] at hall; exact hall
        have e4 : prevAt l (i + 1) = some l[i] := by simp [prevAt, h]
        simp (disch := omega) [h, wrap_i64, nearV, pricesV]
        refine CallG.lent rfl rfl rfl rfl (fok43 l[i].1 hs.1) rfl ?_
        simp
        refine ⟨fun q1 => ?_, fun q1 => Ends.v rfl (by simp [hbad (by simp [nearBad, q1])])⟩
        refine CallG.lent rfl rfl rfl rfl (fok43 l[i].2.1 hs.2) rfl ?_
        rcases Nat.eq_zero_or_pos i with hi0 | hi0
        · subst hi0
          simp (disch := omega) [wrap_i64, pricesV, nearV, h]
          repeat' (first | refine And.intro ?_ ?_ | intro _)
          all_goals
            cases hz : nearBad pc (prevAt l 0) l[0] with
            | true =>
              have hb := hbad hz
              first
              | (refine Ends.v rfl ?_; simp [hb]; done)
              | (exfalso; simp_all [nearBad, prevAt, within]; done)
              | (exfalso; simp_all [nearBad, prevAt, within]; omega)
            | false =>
              have hg := hgood hz
              first
              | exact ih 1 _ ⟨by omega, by rw [e4]; exact hg⟩ (by omega) (by simp [pricesV])
              | (exfalso; simp_all [nearBad, prevAt, within]; done)
              | (exfalso; simp_all [nearBad, prevAt, within]; omega)
        · have e1 : IntKind.i64.wrap ((i : Int) - 1) = ((i - 1 : Nat) : Int) := by rw [wrap_i64] <;> omega
          have e2 : i - 1 < l.length := by omega
          have e3 : prevAt l i = some l[i - 1] := by simp [prevAt, show i ≠ 0 by omega, e2]
          have ec := cmpN_ge l[i - 1] l[i]
          simp (disch := omega) [wrap_i64, e1, e2, hi0, pricesV, nearV, h]
          repeat' (first | refine And.intro ?_ ?_ | intro _)
          all_goals
            cases hz : nearBad pc (prevAt l i) l[i] with
            | true =>
              have hb := hbad hz
              first
              | (refine Ends.v rfl ?_; simp [hb]; done)
              | (exfalso; simp only [nearBad, e3, ec] at hz; simp_all [within]; done)
              | (exfalso; simp only [nearBad, e3, ec] at hz; simp_all [within]; omega)
            | false =>
              have hg := hgood hz
              first
              | exact ih (i + 1) _ ⟨by omega, by rw [e4]; exact hg⟩ (by omega) (by simp [pricesV])
              | (exfalso; simp only [nearBad, e3, ec] at hz; simp_all [within]; done)
              | (exfalso; simp only [nearBad, e3, ec] at hz; simp_all [within]; omega)
      · rw [drop_no h] at hall
        simp [h, pricesV]
        exact Ends.v rfl (by simp [vPrices, hl, hlen', hnb, ← hall, rowsBad])
  · intro hK
    refine Run.loopA (ι := Nat) [(1, 1)] (fun i => i ≤ l.length ∧ longN (l.drop i) = longN l) (fun i => ⟨[(1, .ptr 1 0 0), (3, .I i)], [(1, ⟨false, 5, [pricesV (pd, pp, ps, pc, l, u)]⟩)], 1024⟩) (fun i => l.length - i) 0 (by decide) (by simp [pricesV]) ⟨by omega, by simp⟩ ?_
    rintro i ⟨hi, hall⟩ ih
    by_cases h : i < l.length
    · rw [drop_at h] at hall
      simp only [longN] at hall
      by_cases q1 : 16 < l[i].1.length
      · simp (disch := omega) [h, wrap_i64, nearV, pricesV, q1]
        have hl : longN l = true := by rw [← hall]; simp [q1]
        exact Ends.v rfl (by simp [vPrices, hlen', hl])
      · by_cases q2 : 16 < l[i].2.1.length
        · simp (disch := omega) [h, wrap_i64, nearV, pricesV, q1, q2]
          have hl : longN l = true := by rw [← hall]; simp [q2]
          exact Ends.v rfl (by simp [vPrices, hlen', hl])
        · simp (disch := omega) [h, wrap_i64, nearV, pricesV, q1, q2]
          exact ih (i + 1) _ ⟨by omega, by simpa [q1, q2] using hall⟩ (by omega) (by simp [pricesV])
    · rw [drop_no h] at hall
      have hl : longN l = false := by rw [← hall]; rfl
      simp [h, pricesV]
      exact hK () _ hl (by simp [pricesV])

end Go.Proofs
