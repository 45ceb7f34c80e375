/- The walk. -/
import Derived.Test.YtphjjlhpepmofaaRe4
import Derived.Test.YtphjjlhpepmofaaProg
import Derived.KernelRfl
set_option linter.all false
set_option maxHeartbeats 2000000
namespace Go.Proofs
open Go Go.AM
attribute [local irreducible] Run Ends
/-- ablaut/ablautref23.has -/
def c60 : MC :=
  .seq (.reg false [.op .none 4 (.mv (.c (.w (.bool false))))]) <|
  .seq (.seq (.reg false [.op .none 5 (.mv (.c (.w (.int .i64 0))))]) <|
  .block 0 <|
    .loop <|
      .seq (.seq (.reg false [.op .none 6 (.mv (.t 5)),
        .op .none 7 (.mv (.t 0)),
        .op .none 8 (.len false (.t 7)),
        .op .none 9 (.bin .lss (.t 6) (.t 8))]) <|
      .cond (.t 9)
        (.skip)
        (.exit 0)) <|
      .seq (.block 1 <|
        .seq (.reg false [.op .none 12 (.mv (.t 0)),
          .op .none 13 (.mv (.t 5)),
          .op .none 14 (.ia 1 (.t 12) (.t 13)),
          .op .none 15 (.ld false 1 (.t 14)),
          .op .none 16 (.mv (.t 1)),
          .call .none 17 (.f 25) [(.t 15), (.t 16)]]) <|
        .cond (.t 17)
          (.seq (.reg false [.op .none 4 (.mv (.c (.w (.bool true))))]) <|
          .ret)
          (.skip)) <|
      .reg false [.op .none 10 (.mv (.t 5)),
        .op .none 11 (.bin .add (.t 10) (.c (.w (.int .i64 1)))),
        .op .none 5 (.mv (.t 11))]) <|
  .seq (.reg false [.op .none 4 (.mv (.c (.w (.bool false))))]) <|
  .ret
theorem k60 : FnCode Try.prog 60 [] 18 [4] c60 := ⟨Try.f60, Try.func60, fun xs W => Try.call60 xs W, by kernel_rfl, by kernel_rfl, by kernel_rfl⟩

/-- ablaut/ablautref23.seen -/
def c61 : MC :=
  .seq (.reg false [.op .none 8 (.mv (.c (.w (.int .i64 0))))]) <|
  .seq (.reg false [.op .none 9 (.mv (.c (.w (.int .i64 0))))]) <|
  .seq (.seq (.reg false [.op .none 10 (.mv (.c (.w (.int .i64 0))))]) <|
  .block 0 <|
    .loop <|
      .seq (.seq (.reg false [.op .none 11 (.mv (.t 10)),
        .op .none 12 (.mv (.t 0)),
        .op .none 13 (.len false (.t 12)),
        .op .none 14 (.bin .lss (.t 11) (.t 13))]) <|
      .cond (.t 14)
        (.skip)
        (.exit 0)) <|
      .seq (.block 1 <|
        .seq (.reg false [.op .none 17 (.mv (.t 0)),
          .op .none 18 (.mv (.t 10)),
          .op .none 19 (.ia 4 (.t 17) (.t 18)),
          .op .none 20 (.fa 0 (.t 19)),
          .op .none 21 (.ld false 1 (.t 20)),
          .op .none 22 (.mv (.t 1)),
          .call .none 23 (.f 25) [(.t 21), (.t 22)],
          .op .none 24 (.mv (.t 23)),
          .op (.some (24, true)) 25 (.mv (.t 0)),
          .op (.some (24, true)) 26 (.mv (.t 10)),
          .op (.some (24, true)) 27 (.ia 4 (.t 25) (.t 26)),
          .op (.some (24, true)) 28 (.fa 1 (.t 27)),
          .op (.some (24, true)) 29 (.ld false 1 (.t 28)),
          .op (.some (24, true)) 30 (.mv (.t 2)),
          .call (.some (24, true)) 31 (.f 25) [(.t 29), (.t 30)],
          .op .none 32 (.pick (.t 24) (.t 31) (.c (.w (.bool false)))),
          .op .none 33 (.mv (.t 32)),
          .op (.some (33, true)) 34 (.mv (.t 0)),
          .op (.some (33, true)) 35 (.mv (.t 10)),
          .op (.some (33, true)) 36 (.ia 4 (.t 34) (.t 35)),
          .op (.some (33, true)) 37 (.fa 2 (.t 36)),
          .op (.some (33, true)) 38 (.ld false 1 (.t 37)),
          .op (.some (33, true)) 39 (.mv (.t 3)),
          .call (.some (33, true)) 40 (.f 25) [(.t 38), (.t 39)],
          .op .none 41 (.pick (.t 33) (.t 40) (.c (.w (.bool false))))]) <|
        .cond (.t 41)
          (.reg false [.op .none 42 (.mv (.t 9)),
            .op .none 43 (.mv (.t 0)),
            .op .none 44 (.mv (.t 10)),
            .op .none 45 (.ia 4 (.t 43) (.t 44)),
            .op .none 46 (.fa 3 (.t 45)),
            .op .none 47 (.ld false 1 (.t 46)),
            .op .none 48 (.bin .add (.t 42) (.t 47)),
            .op .none 9 (.mv (.t 48))])
          (.skip)) <|
      .reg false [.op .none 15 (.mv (.t 10)),
        .op .none 16 (.bin .add (.t 15) (.c (.w (.int .i64 1)))),
        .op .none 10 (.mv (.t 16))]) <|
  .seq (.reg false [.op .none 49 (.mv (.t 9)),
    .op .none 8 (.mv (.t 49))]) <|
  .ret
theorem k61 : FnCode Try.prog 61 [] 50 [8] c61 := ⟨Try.f61, Try.func61, fun xs W => Try.call61 xs W, by kernel_rfl, by kernel_rfl, by kernel_rfl⟩

/-- ablaut/ablautref23.Real -/
def c28 : MC :=
  .seq (.reg false [.op .none 6 (.nilS 1),
    .op .none 7 (.mv (.c (.w (.int .i64 0))))]) <|
  .seq (.reg false [.op .none 22 (.mv (.t 0)),
    .op .none 23 (.len false (.t 22)),
    .op .none 24 (.bin .gtr (.t 23) (.c (.w (.int .i64 200)))),
    .op .none 25 (.mv (.t 24)),
    .op (.some (25, false)) 26 (.mv (.t 1)),
    .op (.some (25, false)) 27 (.len false (.t 26)),
    .op (.some (25, false)) 28 (.bin .gtr (.t 27) (.c (.w (.int .i64 200)))),
    .op .none 29 (.pick (.t 25) (.c (.w (.bool true))) (.t 28)),
    .op .none 30 (.mv (.t 29)),
    .op (.some (30, false)) 31 (.mv (.t 2)),
    .op (.some (30, false)) 32 (.len false (.t 31)),
    .op (.some (30, false)) 33 (.bin .gtr (.t 32) (.c (.w (.int .i64 200)))),
    .op .none 34 (.pick (.t 30) (.c (.w (.bool true))) (.t 33)),
    .op .none 8 (.mv (.t 34))]) <|
  .seq (.reg false [.op .none 9 (.nilS 1)]) <|
  .seq (.seq (.reg false [.op .none 10 (.mv (.c (.w (.int .i64 0))))]) <|
  .block 0 <|
    .loop <|
      .seq (.seq (.reg false [.op .none 35 (.mv (.t 10)),
        .op .none 36 (.mv (.t 0)),
        .op .none 37 (.len false (.t 36)),
        .op .none 38 (.bin .lss (.t 35) (.t 37)),
        .op .none 39 (.mv (.t 38)),
        .op (.some (39, true)) 40 (.mv (.t 8)),
        .op (.some (39, true)) 41 (.un .not (.t 40)),
        .op .none 42 (.pick (.t 39) (.t 41) (.c (.w (.bool false))))]) <|
      .cond (.t 42)
        (.skip)
        (.exit 0)) <|
      .seq (.block 1 <|
        .seq (.reg false [.op .none 45 (.mv (.t 0)),
          .op .none 46 (.mv (.t 10)),
          .op .none 47 (.ia 1 (.t 45) (.t 46)),
          .op .none 48 (.ld false 1 (.t 47)),
          .op .none 49 (.len false (.t 48)),
          .op .none 50 (.bin .gtr (.t 49) (.c (.w (.int .i64 200)))),
          .op .none 8 (.mv (.t 50))]) <|
        .reg false [.op .none 51 (.mv (.t 9)),
          .op .none 52 (.mv (.t 0)),
          .op .none 53 (.mv (.t 10)),
          .op .none 54 (.ia 1 (.t 52) (.t 53)),
          .op .none 55 (.ld false 1 (.t 54)),
          .op .none 56 (.app 1 24 (.t 51) (.t 55)),
          .op .none 9 (.mv (.t 56))]) <|
      .reg false [.op .none 43 (.mv (.t 10)),
        .op .none 44 (.bin .add (.t 43) (.c (.w (.int .i64 1)))),
        .op .none 10 (.mv (.t 44))]) <|
  .seq (.seq (.reg false [.op .none 57 (.mv (.t 8))]) <|
  .cond (.t 57)
    (.seq (.reg false [.op .none 6 (.nilS 1),
      .op .none 7 (.mv (.c (.w (.int .i64 3))))]) <|
    .ret)
    (.skip)) <|
  .seq (.seq (.reg false [.op .none 11 (.mv (.c (.w (.int .i64 0))))]) <|
  .block 2 <|
    .loop <|
      .seq (.seq (.reg false [.op .none 58 (.mv (.t 11)),
        .op .none 59 (.mv (.t 1)),
        .op .none 60 (.len false (.t 59)),
        .op .none 61 (.bin .lss (.t 58) (.t 60))]) <|
      .cond (.t 61)
        (.skip)
        (.exit 2)) <|
      .seq (.block 3 <|
        .reg true [.op .none 64 (.mv (.t 9)),
          .op .none 65 (.mv (.t 1)),
          .op .none 66 (.mv (.t 11)),
          .op .none 67 (.ia 4 (.t 65) (.t 66)),
          .op .none 68 (.fa 0 (.t 67)),
          .op .none 69 (.ld false 1 (.t 68)),
          .op .none 70 (.mv (.t 1)),
          .op .none 71 (.mv (.t 11)),
          .op .none 72 (.ia 4 (.t 70) (.t 71)),
          .op .none 73 (.fa 1 (.t 72)),
          .op .none 74 (.ld false 1 (.t 73)),
          .op .none 75 (.mv (.t 1)),
          .op .none 76 (.mv (.t 11)),
          .op .none 77 (.ia 4 (.t 75) (.t 76)),
          .op .none 78 (.fa 2 (.t 77)),
          .op .none 79 (.ld false 1 (.t 78)),
          .op .none 80 (.buildS false 1 3 false [(.sl 1 [])] [(0, (.t 69)), (1, (.t 74)), (2, (.t 79))]),
          .op .none 81 (.app 1 24 (.t 64) (.t 80)),
          .op .none 9 (.mv (.t 81))]) <|
      .reg false [.op .none 62 (.mv (.t 11)),
        .op .none 63 (.bin .add (.t 62) (.c (.w (.int .i64 1)))),
        .op .none 11 (.mv (.t 63))]) <|
  .seq (.seq (.reg false [.op .none 82 (.mv (.t 9)),
    .op .none 83 (.mv (.t 2)),
    .op .none 84 (.app 1 24 (.t 82) (.t 83)),
    .call .none 85 (.f 59) [(.t 84)],
    .op .none 12 (.mv (.t 85))]) <|
  .seq (.reg false [.op .none 86 (.mv (.t 12)),
    .op .none 87 (.bin .neq (.t 86) (.c (.w (.int .i64 0))))]) <|
  .cond (.t 87)
    (.seq (.reg false [.op .none 88 (.mv (.t 12)),
      .op .none 6 (.nilS 1),
      .op .none 7 (.mv (.t 88))]) <|
    .ret)
    (.skip)) <|
  .seq (.seq (.reg false [.op .none 13 (.mv (.c (.w (.int .i64 0))))]) <|
  .block 4 <|
    .loop <|
      .seq (.seq (.reg false [.op .none 89 (.mv (.t 13)),
        .op .none 90 (.mv (.t 1)),
        .op .none 91 (.len false (.t 90)),
        .op .none 92 (.bin .lss (.t 89) (.t 91))]) <|
      .cond (.t 92)
        (.skip)
        (.exit 4)) <|
      .seq (.block 5 <|
        .seq (.reg false [.op .none 95 (.mv (.t 1)),
          .op .none 96 (.mv (.t 13)),
          .op .none 97 (.ia 4 (.t 95) (.t 96)),
          .op .none 98 (.fa 3 (.t 97)),
          .op .none 99 (.ld false 1 (.t 98)),
          .op .none 100 (.bin .lss (.t 99) (.c (.w (.int .i64 1)))),
          .op .none 101 (.mv (.t 100)),
          .op (.some (101, false)) 102 (.mv (.t 1)),
          .op (.some (101, false)) 103 (.mv (.t 13)),
          .op (.some (101, false)) 104 (.ia 4 (.t 102) (.t 103)),
          .op (.some (101, false)) 105 (.fa 3 (.t 104)),
          .op (.some (101, false)) 106 (.ld false 1 (.t 105)),
          .op (.some (101, false)) 107 (.bin .gtr (.t 106) (.c (.w (.int .i64 1000)))),
          .op .none 108 (.pick (.t 101) (.c (.w (.bool true))) (.t 107))]) <|
        .cond (.t 108)
          (.seq (.reg false [.op .none 6 (.nilS 1),
            .op .none 7 (.mv (.c (.w (.int .i64 1))))]) <|
          .ret)
          (.skip)) <|
      .reg false [.op .none 93 (.mv (.t 13)),
        .op .none 94 (.bin .add (.t 93) (.c (.w (.int .i64 1)))),
        .op .none 13 (.mv (.t 94))]) <|
  .seq (.reg false [.op .none 14 (.nilS 1)]) <|
  .seq (.seq (.reg false [.op .none 15 (.mv (.c (.w (.int .i64 0))))]) <|
  .block 6 <|
    .loop <|
      .seq (.seq (.reg false [.op .none 109 (.mv (.t 15)),
        .op .none 110 (.mv (.t 2)),
        .op .none 111 (.len false (.t 110)),
        .op .none 112 (.bin .lss (.t 109) (.t 111))]) <|
      .cond (.t 112)
        (.skip)
        (.exit 6)) <|
      .seq (.block 7 <|
        .seq (.reg false [.op .none 16 (.nilS 1),
          .op .none 17 (.nilS 1)]) <|
        .seq (.seq (.reg false [.op .none 115 (.mv (.t 15)),
          .op .none 116 (.bin .gtr (.t 115) (.c (.w (.int .i64 0))))]) <|
        .cond (.t 116)
          (.reg false [.op .none 117 (.mv (.t 2)),
            .op .none 118 (.mv (.t 15)),
            .op .none 119 (.bin .sub (.t 118) (.c (.w (.int .i64 1)))),
            .op .none 120 (.ia 1 (.t 117) (.t 119)),
            .op .none 121 (.ld false 1 (.t 120)),
            .op .none 16 (.mv (.t 121))])
          (.skip)) <|
        .seq (.seq (.reg false [.op .none 122 (.mv (.t 15)),
          .op .none 123 (.bin .add (.t 122) (.c (.w (.int .i64 1)))),
          .op .none 124 (.mv (.t 2)),
          .op .none 125 (.len false (.t 124)),
          .op .none 126 (.bin .lss (.t 123) (.t 125))]) <|
        .cond (.t 126)
          (.reg false [.op .none 127 (.mv (.t 2)),
            .op .none 128 (.mv (.t 15)),
            .op .none 129 (.bin .add (.t 128) (.c (.w (.int .i64 1)))),
            .op .none 130 (.ia 1 (.t 127) (.t 129)),
            .op .none 131 (.ld false 1 (.t 130)),
            .op .none 17 (.mv (.t 131))])
          (.skip)) <|
        .seq (.reg false [.op .none 18 (.mv (.c (.w (.int .i64 0))))]) <|
        .seq (.block 8 <|
          .loop <|
            .seq (.seq (.reg true [.op .none 132 (.mv (.t 18)),
              .op .none 133 (.mv (.t 0)),
              .op .none 134 (.len false (.t 133)),
              .op .none 135 (.bin .lss (.t 132) (.t 134)),
              .op .none 136 (.mv (.t 135)),
              .op (.some (136, true)) 137 (.mv (.t 0)),
              .op (.some (136, true)) 138 (.mv (.t 18)),
              .op (.some (136, true)) 139 (.ia 1 (.t 137) (.t 138)),
              .op (.some (136, true)) 140 (.ld false 1 (.t 139)),
              .op (.some (136, true)) 141 (.mv (.t 2)),
              .op (.some (136, true)) 142 (.mv (.t 15)),
              .op (.some (136, true)) 143 (.ia 1 (.t 141) (.t 142)),
              .op (.some (136, true)) 144 (.ld false 1 (.t 143)),
              .call (.some (136, true)) 145 (.f 60) [(.t 140), (.t 144)],
              .op (.some (136, true)) 146 (.un .not (.t 145)),
              .op .none 147 (.pick (.t 136) (.t 146) (.c (.w (.bool false))))]) <|
            .cond (.t 147)
              (.skip)
              (.exit 8)) <|
            .block 9 <|
              .reg false [.op .none 148 (.mv (.t 18)),
                .op .none 149 (.bin .add (.t 148) (.c (.w (.int .i64 1)))),
                .op .none 18 (.mv (.t 149))]) <|
        .seq (.seq (.reg false [.op .none 150 (.mv (.t 18)),
          .op .none 151 (.mv (.t 0)),
          .op .none 152 (.len false (.t 151)),
          .op .none 153 (.bin .eql (.t 150) (.t 152))]) <|
        .cond (.t 153)
          (.exit 7)
          (.skip)) <|
        .seq (.reg false [.op .none 154 (.mv (.t 1)),
          .op .none 155 (.mv (.t 16)),
          .op .none 156 (.mv (.t 2)),
          .op .none 157 (.mv (.t 15)),
          .op .none 158 (.ia 1 (.t 156) (.t 157)),
          .op .none 159 (.ld false 1 (.t 158)),
          .op .none 160 (.mv (.t 17)),
          .call .none 161 (.f 61) [(.t 154), (.t 155), (.t 159), (.t 160)],
          .op .none 19 (.mv (.t 161)),
          .op .none 20 (.mv (.c (.w (.bool false))))]) <|
        .seq (.seq (.reg false [.op .none 21 (.mv (.c (.w (.int .i64 0))))]) <|
        .block 10 <|
          .loop <|
            .seq (.seq (.reg false [.op .none 162 (.mv (.t 21)),
              .op .none 163 (.mv (.t 0)),
              .op .none 164 (.mv (.t 18)),
              .op .none 165 (.ia 1 (.t 163) (.t 164)),
              .op .none 166 (.ld false 1 (.t 165)),
              .op .none 167 (.len false (.t 166)),
              .op .none 168 (.bin .lss (.t 162) (.t 167))]) <|
            .cond (.t 168)
              (.skip)
              (.exit 10)) <|
            .seq (.block 11 <|
              .reg false [.op .none 171 (.mv (.t 20)),
                .op .none 172 (.mv (.t 171)),
                .op (.some (172, false)) 173 (.mv (.t 1)),
                .op (.some (172, false)) 174 (.mv (.t 16)),
                .op (.some (172, false)) 175 (.mv (.t 0)),
                .op (.some (172, false)) 176 (.mv (.t 18)),
                .op (.some (172, false)) 177 (.ia 1 (.t 175) (.t 176)),
                .op (.some (172, false)) 178 (.ld false 1 (.t 177)),
                .op (.some (172, false)) 179 (.mv (.t 21)),
                .op (.some (172, false)) 180 (.ia 1 (.t 178) (.t 179)),
                .op (.some (172, false)) 181 (.ld false 1 (.t 180)),
                .op (.some (172, false)) 182 (.mv (.t 17)),
                .call (.some (172, false)) 183 (.f 61) [(.t 173), (.t 174), (.t 181), (.t 182)],
                .op (.some (172, false)) 184 (.mv (.t 19)),
                .op (.some (172, false)) 185 (.bin .gtr (.t 183) (.t 184)),
                .op .none 186 (.pick (.t 172) (.c (.w (.bool true))) (.t 185)),
                .op .none 20 (.mv (.t 186))]) <|
            .reg false [.op .none 169 (.mv (.t 21)),
              .op .none 170 (.bin .add (.t 169) (.c (.w (.int .i64 1)))),
              .op .none 21 (.mv (.t 170))]) <|
        .seq (.reg false [.op .none 187 (.mv (.t 20))]) <|
        .cond (.t 187)
          (.reg false [.op .none 188 (.mv (.t 14)),
            .op .none 189 (.mv (.t 15)),
            .op .none 190 (.buildS false 1 1 false [(.w (.int .i64 0))] [(0, (.t 189))]),
            .op .none 191 (.app 1 8 (.t 188) (.t 190)),
            .op .none 14 (.mv (.t 191))])
          (.skip)) <|
      .reg false [.op .none 113 (.mv (.t 15)),
        .op .none 114 (.bin .add (.t 113) (.c (.w (.int .i64 1)))),
        .op .none 15 (.mv (.t 114))]) <|
  .seq (.reg false [.op .none 192 (.mv (.t 14)),
    .op .none 6 (.mv (.t 192)),
    .op .none 7 (.mv (.c (.w (.int .i64 0))))]) <|
  .ret
theorem k28 : FnCode Try.prog 28 [] 193 [6, 7] c28 := ⟨Try.f28, Try.func28, fun xs W => Try.call28 xs W, by kernel_rfl, by kernel_rfl, by kernel_rfl⟩

theorem fok60 (l : List (List Bs)) (w : List Bs) (hl : l.length ≤ 200000000000000) (hs : ∀ x ∈ l, smW x) (hw : smW w) : FOk Try.prog 60 [.v (.words l), .v (.word w)] [] (.B (isIn w l)) [] := by
  refine FOk.val k60 (by simp) (by simp) (by decide) ?_
  simp [c60, PV.words]
  refine Run.loopA (ι := Nat) [] (fun i => i ≤ l.length ∧ isIn w (l.drop i) = isIn w l) (fun i => ⟨[(0, .v (.words l)), (1, .v (.word w)), (5, .I i)], [], 1024⟩) (fun i => l.length - i) 0 (by decide) (by simp [PV.words]) ⟨by omega, by simp⟩ ?_
  rintro i ⟨hi, hall⟩ ih
  by_cases h : i < l.length
  · rw [drop_at h] at hall
    simp only [isIn, List.any_cons] at hall
    simp (disch := omega) [h, wrap_i64, PV.words]
    refine CallG.lent rfl rfl rfl rfl (fok25 l[i] w (hs _ (List.getElem_mem h)) hw) rfl ?_
    by_cases hp : l[i] = w
    · simp only [hp, decide_true, Bool.true_or] at hall
      simp (disch := omega) [wrap_i64, hp]
      exact Ends.v rfl (by simp [isIn, ← hall])
    · simp only [hp, decide_false, Bool.false_or] at hall
      simp (disch := omega) [wrap_i64, hp]
      exact ih (i + 1) _ ⟨by omega, hall⟩ (by omega) (by simp [PV.words])
  · rw [drop_no h] at hall
    have : isIn w l = false := by rw [← hall]; rfl
    simp [h, PV.words]
    exact Ends.v rfl (by simp [this])
theorem fok61 (L : List SeenT) (A x B : List Bs) (hL : seenS L) (hA : smW A) (hx : smW x) (hB : smW B) :
    FOk Try.prog 61 [.v (.sl 4 (L.map seenV)), .v (.word A), .v (.word x), .v (.word B)] [] (.I (seenN A x B L 0)) [] := by
  have hl1 := hL.1
  refine FOk.val k61 (by simp) (by simp) (by decide) ?_
  simp [c61]
  refine Run.loopA (ι := Nat × Int) [] (fun q => q.1 ≤ L.length ∧ 0 ≤ q.2 ∧ q.2 ≤ q.1 * 1000 ∧ seenN A x B (L.drop q.1) q.2 = seenN A x B L 0)
    (fun q => ⟨[(0, .v (.sl 4 (L.map seenV))), (1, .v (.word A)), (2, .v (.word x)), (3, .v (.word B)), (9, .I q.2), (10, .I q.1)], [], 1024⟩) (fun q => L.length - q.1) (0, 0) (by decide) (by simp) (by simp) ?_
  rintro ⟨k, n⟩ ⟨hk, hn0, hn, hall⟩ ih
  simp only at hk hn0 hn hall
  by_cases h : k < L.length
  · rw [drop_at h] at hall
    simp only [seenN] at hall
    have hs := hL.2 _ (List.getElem_mem h)
    have hm := hL.n (List.getElem_mem h)
    generalize hxx : L[k] = s at hs hm hall
    obtain ⟨a, w, c, m, u⟩ := s
    simp only at hs hm hall
    have q1 := fok25 a A hs.1 hA
    have q2 := fok25 w x hs.2.1 hx
    have q3 := fok25 c B hs.2.2.1 hB
    simp (disch := omega) [h, wrap_i64, hxx, seenV]
    refine CallG.lent rfl rfl rfl rfl q1 rfl ?_
    by_cases c1 : a = A
    case neg =>
      rw [if_neg (fun q => c1 q.1)] at hall
      simp (disch := omega) [wrap_i64, c1]
      exact ih (k + 1, n) _ ⟨by omega, by simp only []; omega, by simp only []; omega, hall⟩ (by simp only []; omega) (by simp)
    simp (disch := omega) [wrap_i64, c1, h, hxx, seenV]
    refine CallG.lent rfl rfl rfl rfl q2 rfl ?_
    by_cases c2 : w = x
    case neg =>
      rw [if_neg (fun q => c2 q.2.1)] at hall
      simp (disch := omega) [wrap_i64, c2]
      exact ih (k + 1, n) _ ⟨by omega, by simp only []; omega, by simp only []; omega, hall⟩ (by simp only []; omega) (by simp)
    simp (disch := omega) [wrap_i64, c2, h, hxx, seenV]
    refine CallG.lent rfl rfl rfl rfl q3 rfl ?_
    by_cases c3 : c = B
    case neg =>
      rw [if_neg (fun q => c3 q.2.2)] at hall
      simp (disch := omega) [wrap_i64, c3]
      exact ih (k + 1, n) _ ⟨by omega, by simp only []; omega, by simp only []; omega, hall⟩ (by simp only []; omega) (by simp)
    rw [if_pos ⟨c1, c2, c3⟩] at hall
    simp (disch := omega) [wrap_i64, c3, h, hxx, seenV]
    exact ih (k + 1, n + m) _ ⟨by omega, by simp only []; omega, by simp only []; omega, hall⟩ (by simp only []; omega) (by simp)
  · rw [drop_no h] at hall
    simp [h]
    exact Ends.v rfl (by simp [seenN, ← hall])

end Go.Proofs
