/- The walk. -/
import Derived.Test.YtlncfkgodioocaaR1
import Derived.Test.YtlncfkgodioocaaSo
import Derived.Test.YtlncfkgodioocaaProg
import Derived.KernelRfl
set_option linter.all false
set_option maxHeartbeats 2000000
namespace Go.Proofs
open Go Go.AM
attribute [local irreducible] Run Ends
/-- cmp.isNaN[string] -/
def c96 : MC :=
  .seq (.reg false [.op .none 2 (.mv (.c (.w (.bool false))))]) <|
  .seq (.reg false [.op .none 3 (.mv (.t 0)),
    .op .none 4 (.mv (.t 0)),
    .op .none 5 (.bin .neq (.t 3) (.t 4)),
    .op .none 2 (.mv (.t 5))]) <|
  .ret
theorem k96 : FnCode Try.prog 96 [] 6 [2] c96 := ⟨Try.f96, Try.func96, fun xs W => Try.call96 xs W, by kernel_rfl, by kernel_rfl, by kernel_rfl⟩

/-- cmp.Compare[string] -/
def c86 : MC :=
  .seq (.reg false [.op .none 4 (.mv (.c (.w (.int .i64 0))))]) <|
  .seq (.reg false [.op .none 7 (.mv (.t 0)),
    .call .none 8 (.f 96) [(.t 7)],
    .op .none 5 (.mv (.t 8))]) <|
  .seq (.reg false [.op .none 9 (.mv (.t 1)),
    .call .none 10 (.f 96) [(.t 9)],
    .op .none 6 (.mv (.t 10))]) <|
  .seq (.seq (.reg false [.op .none 11 (.mv (.t 5))]) <|
  .cond (.t 11)
    (.seq (.seq (.reg false [.op .none 12 (.mv (.t 6))]) <|
    .cond (.t 12)
      (.seq (.reg false [.op .none 4 (.mv (.c (.w (.int .i64 0))))]) <|
      .ret)
      (.skip)) <|
    .seq (.reg false [.op .none 4 (.mv (.c (.w (.int .i64 (-1)))))]) <|
    .ret)
    (.skip)) <|
  .seq (.seq (.reg false [.op .none 13 (.mv (.t 6))]) <|
  .cond (.t 13)
    (.seq (.reg false [.op .none 4 (.mv (.c (.w (.int .i64 1))))]) <|
    .ret)
    (.skip)) <|
  .seq (.seq (.reg false [.op .none 14 (.mv (.t 0)),
    .op .none 15 (.mv (.t 1)),
    .op .none 16 (.bin .lss (.t 14) (.t 15))]) <|
  .cond (.t 16)
    (.seq (.reg false [.op .none 4 (.mv (.c (.w (.int .i64 (-1)))))]) <|
    .ret)
    (.skip)) <|
  .seq (.seq (.reg false [.op .none 17 (.mv (.t 0)),
    .op .none 18 (.mv (.t 1)),
    .op .none 19 (.bin .gtr (.t 17) (.t 18))]) <|
  .cond (.t 19)
    (.seq (.reg false [.op .none 4 (.mv (.c (.w (.int .i64 1))))]) <|
    .ret)
    (.skip)) <|
  .seq (.reg false [.op .none 4 (.mv (.c (.w (.int .i64 0))))]) <|
  .ret
theorem k86 : FnCode Try.prog 86 [] 20 [4] c86 := ⟨Try.f86, Try.func86, fun xs W => Try.call86 xs W, by kernel_rfl, by kernel_rfl, by kernel_rfl⟩

/-- slices.Compare[[]string,string] -/
def c54 : MC :=
  .seq (.reg false [.op .none 4 (.mv (.c (.w (.int .i64 0))))]) <|
  .seq (.seq (.reg false [.op .none 9 (.mv (.t 0)),
    .op .none 10 (.len false (.t 9)),
    .op .none 11 (.mv (.c (.w (.int .i64 0))))]) <|
  .block 0 <|
    .loop <|
      .seq (.reg false [.op .none 12 (.bin .lss (.t 11) (.t 10))]) <|
      .seq (.cond (.t 12)
        (.skip)
        (.exit 0)) <|
      .seq (.block 1 <|
        .seq (.reg false [.op .none 13 (.mv (.t 11)),
          .op .none 14 (.ia 1 (.t 9) (.t 11)),
          .op .none 15 (.ld false 1 (.t 14)),
          .op .none 5 (.mv (.t 13)),
          .op .none 6 (.mv (.t 15))]) <|
        .seq (.seq (.reg false [.op .none 16 (.mv (.t 5)),
          .op .none 17 (.mv (.t 1)),
          .op .none 18 (.len false (.t 17)),
          .op .none 19 (.bin .geq (.t 16) (.t 18))]) <|
        .cond (.t 19)
          (.seq (.reg false [.op .none 4 (.mv (.c (.w (.int .i64 1))))]) <|
          .ret)
          (.skip)) <|
        .seq (.reg false [.op .none 20 (.mv (.t 1)),
          .op .none 21 (.mv (.t 5)),
          .op .none 22 (.ia 1 (.t 20) (.t 21)),
          .op .none 23 (.ld false 1 (.t 22)),
          .op .none 7 (.mv (.t 23))]) <|
        .seq (.reg false [.op .none 24 (.mv (.t 6)),
          .op .none 25 (.mv (.t 7)),
          .call .none 26 (.f 86) [(.t 24), (.t 25)],
          .op .none 8 (.mv (.t 26))]) <|
        .seq (.reg false [.op .none 27 (.mv (.t 8)),
          .op .none 28 (.bin .neq (.t 27) (.c (.w (.int .i64 0))))]) <|
        .cond (.t 28)
          (.seq (.reg false [.op .none 29 (.mv (.t 8)),
            .op .none 4 (.mv (.t 29))]) <|
          .ret)
          (.skip)) <|
      .reg false [.op .none 30 (.bin .add (.t 11) (.c (.w (.int .i64 1)))),
        .op .none 11 (.mv (.t 30))]) <|
  .seq (.seq (.reg false [.op .none 31 (.mv (.t 0)),
    .op .none 32 (.len false (.t 31)),
    .op .none 33 (.mv (.t 1)),
    .op .none 34 (.len false (.t 33)),
    .op .none 35 (.bin .lss (.t 32) (.t 34))]) <|
  .cond (.t 35)
    (.seq (.reg false [.op .none 4 (.mv (.c (.w (.int .i64 (-1)))))]) <|
    .ret)
    (.skip)) <|
  .seq (.reg false [.op .none 4 (.mv (.c (.w (.int .i64 0))))]) <|
  .ret
theorem k54 : FnCode Try.prog 54 [] 36 [4] c54 := ⟨Try.f54, Try.func54, fun xs W => Try.call54 xs W, by kernel_rfl, by kernel_rfl, by kernel_rfl⟩

/-- cmp.isNaN[int] -/
def c85 : MC :=
  .seq (.reg false [.op .none 2 (.mv (.c (.w (.bool false))))]) <|
  .seq (.reg false [.op .none 3 (.mv (.t 0)),
    .op .none 4 (.mv (.t 0)),
    .op .none 5 (.bin .neq (.t 3) (.t 4)),
    .op .none 2 (.mv (.t 5))]) <|
  .ret
theorem k85 : FnCode Try.prog 85 [] 6 [2] c85 := ⟨Try.f85, Try.func85, fun xs W => Try.call85 xs W, by kernel_rfl, by kernel_rfl, by kernel_rfl⟩

/-- cmp.Compare[int] -/
def c53 : MC :=
  .seq (.reg false [.op .none 4 (.mv (.c (.w (.int .i64 0))))]) <|
  .seq (.reg false [.op .none 7 (.mv (.t 0)),
    .call .none 8 (.f 85) [(.t 7)],
    .op .none 5 (.mv (.t 8))]) <|
  .seq (.reg false [.op .none 9 (.mv (.t 1)),
    .call .none 10 (.f 85) [(.t 9)],
    .op .none 6 (.mv (.t 10))]) <|
  .seq (.seq (.reg false [.op .none 11 (.mv (.t 5))]) <|
  .cond (.t 11)
    (.seq (.seq (.reg false [.op .none 12 (.mv (.t 6))]) <|
    .cond (.t 12)
      (.seq (.reg false [.op .none 4 (.mv (.c (.w (.int .i64 0))))]) <|
      .ret)
      (.skip)) <|
    .seq (.reg false [.op .none 4 (.mv (.c (.w (.int .i64 (-1)))))]) <|
    .ret)
    (.skip)) <|
  .seq (.seq (.reg false [.op .none 13 (.mv (.t 6))]) <|
  .cond (.t 13)
    (.seq (.reg false [.op .none 4 (.mv (.c (.w (.int .i64 1))))]) <|
    .ret)
    (.skip)) <|
  .seq (.seq (.reg false [.op .none 14 (.mv (.t 0)),
    .op .none 15 (.mv (.t 1)),
    .op .none 16 (.bin .lss (.t 14) (.t 15))]) <|
  .cond (.t 16)
    (.seq (.reg false [.op .none 4 (.mv (.c (.w (.int .i64 (-1)))))]) <|
    .ret)
    (.skip)) <|
  .seq (.seq (.reg false [.op .none 17 (.mv (.t 0)),
    .op .none 18 (.mv (.t 1)),
    .op .none 19 (.bin .gtr (.t 17) (.t 18))]) <|
  .cond (.t 19)
    (.seq (.reg false [.op .none 4 (.mv (.c (.w (.int .i64 1))))]) <|
    .ret)
    (.skip)) <|
  .seq (.reg false [.op .none 4 (.mv (.c (.w (.int .i64 0))))]) <|
  .ret
theorem k53 : FnCode Try.prog 53 [] 20 [4] c53 := ⟨Try.f53, Try.func53, fun xs W => Try.call53 xs W, by kernel_rfl, by kernel_rfl, by kernel_rfl⟩

/-- ablaut/syms.Compare -/
def c22 : MC :=
  .seq (.reg false [.op .none 4 (.mv (.c (.w (.int .i64 0))))]) <|
  .seq (.seq (.reg false [.op .none 6 (.mv (.t 0)),
    .op .none 7 (.len false (.t 6)),
    .op .none 8 (.mv (.t 1)),
    .op .none 9 (.len false (.t 8)),
    .call .none 10 (.f 53) [(.t 7), (.t 9)],
    .op .none 5 (.mv (.t 10))]) <|
  .seq (.reg false [.op .none 11 (.mv (.t 5)),
    .op .none 12 (.bin .neq (.t 11) (.c (.w (.int .i64 0))))]) <|
  .cond (.t 12)
    (.seq (.reg false [.op .none 13 (.mv (.t 5)),
      .op .none 4 (.mv (.t 13))]) <|
    .ret)
    (.skip)) <|
  .seq (.reg false [.op .none 14 (.mv (.t 0)),
    .op .none 15 (.mv (.t 1)),
    .call .none 16 (.f 54) [(.t 14), (.t 15)],
    .op .none 4 (.mv (.t 16))]) <|
  .ret
theorem k22 : FnCode Try.prog 22 [] 17 [4] c22 := ⟨Try.f22, Try.func22, fun xs W => Try.call22 xs W, by kernel_rfl, by kernel_rfl, by kernel_rfl⟩

/-- ablaut/ablautref01.Compare -/
def c23 : MC :=
  .seq (.reg false [.op .none 4 (.mv (.c (.w (.int .i64 0))))]) <|
  .seq (.seq (.reg false [.op .none 5 (.mv (.t 0)),
    .op .none 6 (.len false (.t 5)),
    .op .none 7 (.mv (.t 1)),
    .op .none 8 (.len false (.t 7)),
    .op .none 9 (.bin .lss (.t 6) (.t 8))]) <|
  .cond (.t 9)
    (.seq (.reg false [.op .none 4 (.mv (.c (.w (.int .i64 (-1)))))]) <|
    .ret)
    (.skip)) <|
  .seq (.seq (.reg false [.op .none 10 (.mv (.t 0)),
    .op .none 11 (.len false (.t 10)),
    .op .none 12 (.mv (.t 1)),
    .op .none 13 (.len false (.t 12)),
    .op .none 14 (.bin .gtr (.t 11) (.t 13))]) <|
  .cond (.t 14)
    (.seq (.reg false [.op .none 4 (.mv (.c (.w (.int .i64 1))))]) <|
    .ret)
    (.skip)) <|
  .seq (.reg false [.op .none 15 (.mv (.t 0)),
    .op .none 16 (.mv (.t 1)),
    .call .none 17 (.f 52) [(.t 15), (.t 16)],
    .op .none 4 (.mv (.t 17))]) <|
  .ret
theorem k23 : FnCode Try.prog 23 [] 18 [4] c23 := ⟨Try.f23, Try.func23, fun xs W => Try.call23 xs W, by kernel_rfl, by kernel_rfl, by kernel_rfl⟩

/-- ablaut/syms.sifted[[]string] -/
def c64 : MC :=
  .seq (.reg false [.op .none 4 (.nilS 1)]) <|
  .seq (.reg false [.op .none 5 (.nilS 1)]) <|
  .seq (.seq (.reg false [.op .none 8 (.mv (.t 0)),
    .op .none 9 (.len false (.t 8)),
    .op .none 10 (.mv (.c (.w (.int .i64 0))))]) <|
  .block 0 <|
    .loop <|
      .seq (.reg false [.op .none 11 (.bin .lss (.t 10) (.t 9))]) <|
      .seq (.cond (.t 11)
        (.skip)
        (.exit 0)) <|
      .seq (.block 1 <|
        .seq (.reg false [.op .none 12 (.ia 1 (.t 8) (.t 10)),
          .op .none 13 (.ld false 1 (.t 12)),
          .op .none 7 (.mv (.t 13))]) <|
        .seq (.reg false [.op .none 14 (.mv (.t 1)),
          .op .none 15 (.mv (.t 7)),
          .call .none 16 (.t 14) [(.t 15)]]) <|
        .cond (.t 16)
          (.reg false [.op .none 17 (.mv (.t 5)),
            .op .none 18 (.mv (.t 7)),
            .op .none 19 (.buildS false 1 1 false [(.sl 1 [])] [(0, (.t 18))]),
            .op .none 20 (.app 1 24 (.t 17) (.t 19)),
            .op .none 5 (.mv (.t 20))])
          (.skip)) <|
      .reg false [.op .none 21 (.bin .add (.t 10) (.c (.w (.int .i64 1)))),
        .op .none 10 (.mv (.t 21))]) <|
  .seq (.reg false [.op .none 22 (.mv (.t 5)),
    .op .none 4 (.mv (.t 22))]) <|
  .ret
theorem k64 : FnCode Try.prog 64 [] 23 [4] c64 := ⟨Try.f64, Try.func64, fun xs W => Try.call64 xs W, by kernel_rfl, by kernel_rfl, by kernel_rfl⟩

/-- ablaut/syms.Sorted$1 -/
def c65 : MC :=
  .seq (.reg false [.op .none 2 (.mv (.c (.w (.bool false))))]) <|
  .seq (.reg false [.op .none 2 (.mv (.c (.w (.bool true))))]) <|
  .ret
theorem k65 : FnCode Try.prog 65 [] 3 [2] c65 := ⟨Try.f65, Try.func65, fun xs W => Try.call65 xs W, by kernel_rfl, by kernel_rfl, by kernel_rfl⟩

/-- slices.Clone[[]string,string] -/
def c66 : MC :=
  .seq (.reg false [.op .none 2 (.nilS 1)]) <|
  .seq (.seq (.reg false [.op .none 3 (.mv (.t 0)),
    .op .none 4 (.nilq false (.t 3))]) <|
  .cond (.t 4)
    (.seq (.reg false [.op .none 2 (.nilS 1)]) <|
    .ret)
    (.skip)) <|
  .seq (.reg false [.op .none 5 (.buildS false 1 0 false [(.w (.string ⟨#[]⟩))] []),
    .op .none 6 (.mv (.t 0)),
    .op .none 7 (.app 1 16 (.t 5) (.t 6)),
    .op .none 2 (.mv (.t 7))]) <|
  .ret
theorem k66 : FnCode Try.prog 66 [] 8 [2] c66 := ⟨Try.f66, Try.func66, fun xs W => Try.call66 xs W, by kernel_rfl, by kernel_rfl, by kernel_rfl⟩

/-- ablaut/syms.Sorted$2 -/
def c69 : MC :=
  .seq (.reg false [.op .none 4 (.mv (.c (.w (.bool false))))]) <|
  .seq (.reg false [.op .none 5 (.mv (.t 0)),
    .op .none 6 (.mv (.t 1)),
    .call .none 7 (.f 22) [(.t 5), (.t 6)],
    .op .none 8 (.bin .eql (.t 7) (.c (.w (.int .i64 0)))),
    .op .none 4 (.mv (.t 8))]) <|
  .ret
theorem k69 : FnCode Try.prog 69 [] 9 [4] c69 := ⟨Try.f69, Try.func69, fun xs W => Try.call69 xs W, by kernel_rfl, by kernel_rfl, by kernel_rfl⟩

/-- slices.CompactFunc[[][]string,[]string] -/
def c68 : MC :=
  .seq (.reg false [.op .none 4 (.nilS 1)]) <|
  .seq (.seq (.reg false [.op .none 8 (.mv (.t 0)),
    .op .none 9 (.len false (.t 8)),
    .op .none 10 (.bin .lss (.t 9) (.c (.w (.int .i64 2))))]) <|
  .cond (.t 10)
    (.seq (.reg false [.op .none 11 (.mv (.t 0)),
      .op .none 4 (.mv (.t 11))]) <|
    .ret)
    (.skip)) <|
  .seq (.seq (.reg false [.op .none 5 (.mv (.c (.w (.int .i64 1))))]) <|
  .block 0 <|
    .loop <|
      .seq (.seq (.reg false [.op .none 12 (.mv (.t 5)),
        .op .none 13 (.mv (.t 0)),
        .op .none 14 (.len false (.t 13)),
        .op .none 15 (.bin .lss (.t 12) (.t 14))]) <|
      .cond (.t 15)
        (.skip)
        (.exit 0)) <|
      .seq (.block 1 <|
        .seq (.reg true [.op .none 18 (.mv (.t 1)),
          .op .none 19 (.mv (.t 0)),
          .op .none 20 (.mv (.t 5)),
          .op .none 21 (.ia 1 (.t 19) (.t 20)),
          .op .none 22 (.ld false 1 (.t 21)),
          .op .none 23 (.mv (.t 0)),
          .op .none 24 (.mv (.t 5)),
          .op .none 25 (.bin .sub (.t 24) (.c (.w (.int .i64 1)))),
          .op .none 26 (.ia 1 (.t 23) (.t 25)),
          .op .none 27 (.ld false 1 (.t 26)),
          .call .none 28 (.t 18) [(.t 22), (.t 27)]]) <|
        .cond (.t 28)
          (.seq (.reg false [.op .none 29 (.mv (.t 0)),
            .op .none 30 (.mv (.t 5)),
            .op .none 31 (.slcP 1 (.t 29) (.some (.t 30)) .none),
            .op .none 6 (.mv (.t 31))]) <|
          .seq (.seq (.reg false [.op .none 7 (.mv (.c (.w (.int .i64 1))))]) <|
          .block 2 <|
            .loop <|
              .seq (.seq (.reg false [.op .none 32 (.mv (.t 7)),
                .op .none 33 (.mv (.t 6)),
                .op .none 34 (.len false (.t 33)),
                .op .none 35 (.bin .lss (.t 32) (.t 34))]) <|
              .cond (.t 35)
                (.skip)
                (.exit 2)) <|
              .seq (.block 3 <|
                .seq (.reg true [.op .none 38 (.mv (.t 1)),
                  .op .none 39 (.mv (.t 6)),
                  .op .none 40 (.mv (.t 7)),
                  .op .none 41 (.ia 1 (.t 39) (.t 40)),
                  .op .none 42 (.ld false 1 (.t 41)),
                  .op .none 43 (.mv (.t 6)),
                  .op .none 44 (.mv (.t 7)),
                  .op .none 45 (.bin .sub (.t 44) (.c (.w (.int .i64 1)))),
                  .op .none 46 (.ia 1 (.t 43) (.t 45)),
                  .op .none 47 (.ld false 1 (.t 46)),
                  .call .none 48 (.t 38) [(.t 42), (.t 47)],
                  .op .none 49 (.un .not (.t 48))]) <|
                .cond (.t 49)
                  (.seq (.reg false [.op .none 50 (.mv (.t 0)),
                    .op .none 51 (.mv (.t 5)),
                    .op .none 52 (.mv (.t 6)),
                    .op .none 53 (.mv (.t 7)),
                    .op .none 54 (.ia 1 (.t 52) (.t 53)),
                    .op .none 55 (.ld false 1 (.t 54)),
                    .op .none 56 (.ia 1 (.t 50) (.t 51)),
                    .store .none false 1 (.t 56) (.t 55)]) <|
                  .reg false [.op .none 57 (.mv (.t 5)),
                    .op .none 58 (.bin .add (.t 57) (.c (.w (.int .i64 1)))),
                    .op .none 5 (.mv (.t 58))])
                  (.skip)) <|
              .reg false [.op .none 36 (.mv (.t 7)),
                .op .none 37 (.bin .add (.t 36) (.c (.w (.int .i64 1)))),
                .op .none 7 (.mv (.t 37))]) <|
          .seq (.reg false [.op .none 59 (.mv (.t 0)),
            .op .none 60 (.mv (.t 5)),
            .op .none 61 (.slcP 1 (.t 59) (.some (.t 60)) .none),
            .op .none 1023 (.clr 1 false [(.sl 1 [])] (.t 61))]) <|
          .seq (.reg false [.op .none 62 (.mv (.t 0)),
            .op .none 63 (.mv (.t 5)),
            .op .none 64 (.slc true 1 (.t 62) .none (.some (.t 63))),
            .op .none 4 (.mv (.t 64))]) <|
          .ret)
          (.skip)) <|
      .reg false [.op .none 16 (.mv (.t 5)),
        .op .none 17 (.bin .add (.t 16) (.c (.w (.int .i64 1)))),
        .op .none 5 (.mv (.t 17))]) <|
  .seq (.reg false [.op .none 65 (.mv (.t 0)),
    .op .none 4 (.mv (.t 65))]) <|
  .ret
theorem k68 : FnCode Try.prog 68 [64, 200031, 200061] 66 [4] c68 := ⟨Try.f68, Try.func68, fun xs W => Try.call68 xs W, by kernel_rfl, by kernel_rfl, by kernel_rfl⟩

theorem fok96 (s : Bs) : FOk Try.prog 96 [.S s] [] (.B false) [] := by
  refine FOk.val k96 (by simp) (by simp) (by decide) ?_
  simp [c96]
  exact Ends.v rfl (by simp)

theorem fok86 (a b : Bs) : FOk Try.prog 86 [.S a, .S b] [] (.I (cmpB a b)) [] := by
  refine FOk.val k86 (by simp) (by simp) (by decide) ?_
  simp [c86]
  refine CallG.lent rfl rfl rfl rfl (fok96 a) rfl ?_
  simp
  refine CallG.lent rfl rfl rfl rfl (fok96 b) rfl ?_
  simp
  repeat' (first | refine And.intro ?_ ?_ | intro _)
  all_goals exact Ends.v rfl (by simp_all [cmpB])

theorem fok54 (w v : List Bs) (hw : w.length ≤ 200000000000000) (hv : v.length ≤ 200000000000000) : FOk Try.prog 54 [.v (.word w), .v (.word v)] [] (.I (cmpW w v)) [] := by
  refine FOk.val k54 (by simp) (by simp) (by decide) ?_
  simp [c54]
  refine Run.loopI (ι := Nat) (fun i => i ≤ w.length ∧ i ≤ v.length ∧ cmpW (w.drop i) (v.drop i) = cmpW w v) (fun i => ⟨[(0, .v (.word w)), (1, .v (.word v)), (9, .v (.word w)), (10, .I w.length), (11, .I i)], [], 1024⟩) (fun i => w.length - i) 0 [] (by decide) (by simp) ⟨by omega, by omega, by simp⟩ ?_
  rintro i ⟨hi, hi2, hall⟩ ih
  by_cases h : i < w.length
  · rw [drop_at h] at hall
    by_cases h2 : i < v.length
    · rw [drop_at h2] at hall
      have hn : ¬ v.length ≤ i := by omega
      simp (disch := omega) [h, h2, hn, wrap_i64]
      refine CallG.lent rfl rfl rfl rfl (fok86 w[i] v[i]) rfl ?_
      simp only [cmpW] at hall
      simp (disch := omega) [wrap_i64]
      refine ⟨fun hc => ?_, fun hc => ?_⟩
      · exact Ends.v rfl (by simp [← hall, hc])
      · exact ih (i + 1) [] _ ⟨by omega, by omega, by simpa [hc] using hall⟩ (by omega) (by simp)
    · rw [drop_no h2] at hall
      have hn : v.length ≤ i := by omega
      simp (disch := omega) [h, hn, wrap_i64]
      exact Ends.v rfl (by simp [← hall, cmpW])
  · rw [drop_no h] at hall
    simp [h]
    refine ⟨fun hc => ?_, fun hc => ?_⟩
    · rw [drop_at (by omega : i < v.length)] at hall
      exact Ends.v rfl (by simp [← hall, cmpW])
    · rw [drop_no (by omega : ¬ i < v.length)] at hall
      exact Ends.v rfl (by simp [← hall, cmpW])

def cmpZ (a b : Int) : Int := if a < b then -1 else if b < a then 1 else 0
theorem fok85 (a : Int) : FOk Try.prog 85 [.I a] [] (.B false) [] := by
  refine FOk.val k85 (by simp) (by simp) (by decide) ?_
  simp [c85]
  exact Ends.v rfl (by simp)
theorem fok53 (a b : Int) : FOk Try.prog 53 [.I a, .I b] [] (.I (cmpZ a b)) [] := by
  refine FOk.val k53 (by simp) (by simp) (by decide) ?_
  simp [c53]
  refine CallG.lent rfl rfl rfl rfl (fok85 a) rfl ?_
  simp
  refine CallG.lent rfl rfl rfl rfl (fok85 b) rfl ?_
  simp
  refine ⟨fun h1 => Ends.v rfl (by simp [cmpZ, h1]), fun h1 => ⟨fun h2 => Ends.v rfl (by simp [cmpZ, h2]; omega), fun h2 => Ends.v rfl (by simp [cmpZ]; omega)⟩⟩
theorem fok22 (w v : List Bs) (hw : w.length ≤ 200000000000000) (hv : v.length ≤ 200000000000000) : FOk Try.prog 22 [.v (.word w), .v (.word v)] [] (.I (cmpL w v)) [] := by
  refine FOk.val k22 (by simp) (by simp) (by decide) ?_
  simp [c22]
  refine CallG.lent rfl rfl rfl rfl (fok53 w.length v.length) rfl ?_
  by_cases h1 : w.length < v.length
  · simp [cmpZ, h1]
    exact Ends.v rfl (by simp [cmpL, h1])
  by_cases h2 : v.length < w.length
  · simp [cmpZ, h1, h2]
    exact Ends.v rfl (by simp [cmpL, h1, h2])
  simp [cmpZ, h1, h2]
  refine CallG.lent rfl rfl rfl rfl (fok54 w v hw hv) rfl ?_
  simp
  exact Ends.v rfl (by simp [cmpL, h1, h2])
theorem fok23 (w v : List Bs) (hw : w.length ≤ 200000000000000) (hv : v.length ≤ 200000000000000) : FOk Try.prog 23 [.v (.word w), .v (.word v)] [] (.I (cmpL w v)) [] := by
  refine FOk.val k23 (by simp) (by simp) (by decide) ?_
  by_cases h1 : w.length < v.length
  · simp [c23, h1]
    exact Ends.v rfl (by simp [cmpL, h1])
  by_cases h2 : v.length < w.length
  · simp [c23, h1, h2]
    exact Ends.v rfl (by simp [cmpL, h1, h2])
  simp [c23, h1, h2]
  refine CallG.lent rfl rfl rfl rfl (fok52 w v hw hv) rfl ?_
  simp
  exact Ends.v rfl (by simp [cmpL, h1, h2])
theorem cmpL_dec (w v : List Bs) : decide (cmpL w v = 0) = decide (w = v) := by
  by_cases h : w = v
  · subst h; simp [linL.self]
  · have : cmpL w v ≠ 0 := fun e => h (linL.zero e)
    simp [h, this]
theorem fok69 (w v : List Bs) (hw : w.length ≤ 200000000000000) (hv : v.length ≤ 200000000000000) : FOk Try.prog 69 [.v (.word w), .v (.word v)] [] (.B (decide (w = v))) [] := by
  refine FOk.val k69 (by simp) (by simp) (by decide) ?_
  simp [c69]
  refine CallG.lent rfl rfl rfl rfl (fok22 w v hw hv) rfl ?_
  simp
  exact Ends.v rfl (by simp [← cmpL_dec])
theorem fok65 (w : List Bs) : FOk Try.prog 65 [.v (.word w)] [] (.B true) [] := by
  refine FOk.val k65 (by simp) (by simp) (by decide) ?_
  simp [c65]
  exact Ends.v rfl (by simp)
/-- A row of words. -/
def _root_.Go.AM.PV.words (l : List (List Bs)) : PV := .sl 1 (l.map PV.word)
theorem fok66 (w : List Bs) (hw : w.length ≤ 1000000000) : FOk Try.prog 66 [.v (.word w)] [] (.v (.word w)) [] := by
  refine FOk.val k66 (by simp) (by simp) (by decide) ?_
  rcases w with _ | ⟨s, w⟩
  · simp [c66]
    exact ⟨Ends.v rfl (by simp), Ends.v rfl (by simp)⟩
  · have h2 : (w.length + 1 + 1000) * 16 ≤ 70368744177664 := by simp at hw; omega
    simp [c66, h2]
    exact Ends.v rfl (by simp)
theorem fok64 (l : List (List Bs)) (hl : l.length ≤ 1000000000) : FOk Try.prog 64 [.v (.words l), .fn 65 []] [] (.h 0) [(0, ⟨false, 1, l.map PV.word⟩)] := by
  refine FOk.of k64 0 (by simp) (by decide) (by simp) (by simp) (by simp [find]) (by decide) ?_
  simp [c64, PV.words]
  refine Run.loopA (ι := Nat) [(1, 5)] (fun i => i ≤ l.length) (fun i => ⟨[(1, .fn 65 []), (5, .h 1), (8, .v (.words l)), (9, .I l.length), (10, .I i)], [(1, ⟨false, 1, (l.take i).map PV.word⟩)], 1024⟩) (fun i => l.length - i) 0 (by decide) (by simp [PV.words]) (by simp) ?_
  rintro i hi ih
  by_cases h : i < l.length
  · have e : (l.take (i + 1)).map PV.word = (l.take i).map PV.word ++ [PV.word l[i]] := by rw [List.take_succ_eq_append_getElem h, List.map_append]; rfl
    have hb : (i + 1 + 1000) * 24 ≤ 70368744177664 := by omega
    have hm : min i l.length = i := by omega
    simp (disch := omega) [h, wrap_i64, PV.words]
    refine CallG.lent rfl rfl rfl rfl (fok65 l[i]) rfl ?_
    simp (disch := omega) [wrap_i64, hb, hm]
    exact ih (i + 1) _ (by omega) (by omega) (by simp [PV.words, e])
  · have : i = l.length := by omega
    subst this
    simp [h]
    exact Ends.new 1 rfl rfl (by simp) (by simp)

theorem cpct_short {α : Type} [DecidableEq α] {l : List α} (h : l.length < 2) : cpct l = l := by
  rcases l with _ | ⟨a, _ | ⟨b, l⟩⟩
  · rfl
  · rfl
  · simp at h; omega
theorem cpct_take {α : Type} [DecidableEq α] {l : List α} {j : Nat} (h0 : 1 ≤ j) (h : j < l.length) : cpct (l.take (j + 1)) = if l[j - 1] = l[j] then cpct (l.take j) else cpct (l.take j) ++ [l[j]] := by
  obtain ⟨j, rfl⟩ : ∃ k, j = k + 1 := ⟨j - 1, by omega⟩
  rw [List.take_succ_eq_append_getElem h]
  have e : l.take (j + 1) = l.take j ++ [l[j]] := List.take_succ_eq_append_getElem (by omega)
  simp only [e, List.append_assoc, List.cons_append, List.nil_append, Nat.add_sub_cancel]
  exact cpct_snoc _ _ _
theorem fok68 (l : List (List Bs)) (hl : l.length ≤ 1000000000) (hw : ∀ w ∈ l, w.length ≤ 1000000000) : FOk Try.prog 68 [.h 0, .fn 69 []] [(0, ⟨false, 1, l.map PV.word⟩)] (.h 1) [(1, ⟨false, 1, (cpct l).map PV.word⟩)] := by
  have hc := fun i (h : i < l.length) j (h' : j < l.length) => fok69 l[i] l[j] (by have := hw _ (List.getElem_mem h); omega) (by have := hw _ (List.getElem_mem h'); omega)
  refine FOk.of k68 1 (by simp) (by decide) (by simp) (by simp) (by simp [find]; rintro _ _ _ rfl rfl _ rfl; rfl) (by decide) ?_
  by_cases h2 : l.length < 2
  · simp [c68, h2]
    exact Ends.moved 9 0 (by decide) rfl rfl (by simp) (by simp [cpct_short h2])
  simp [c68, h2]
  refine Run.loopA (ι := Nat) [(0, 0)] (fun i => 1 ≤ i ∧ i ≤ l.length ∧ cpct (l.take i) = l.take i) (fun i => ⟨[(0, .h 0), (1, .fn 69 []), (5, .I i)], [(0, ⟨false, 1, l.map PV.word⟩)], 1024⟩) (fun i => l.length - i) 1 (by decide) (by simp) ⟨by omega, by omega, cpct_short (by simp; omega)⟩ ?_
  rintro i ⟨hi0, hi, hp⟩ ih
  by_cases h : i < l.length
  · have hi1 : i - 1 < l.length := by omega
    have hq := cpct_take hi0 h
    simp (disch := omega) [h, wrap_i64, hi0]
    refine CallG.lent rfl rfl rfl rfl (hc i h (i - 1) hi1) rfl ?_
    by_cases hd : l[i - 1] = l[i]
    · rw [if_pos hd] at hq
      have hil : i ≤ l.length := by omega
      simp (disch := omega) [wrap_i64, hd, h, hil]
      refine Run.loopA (ι := Nat × List PV) [(0, 0)] (fun q => 1 ≤ q.1 ∧ i + q.1 ≤ l.length ∧ q.2.length = l.length ∧ (cpct (l.take (i + q.1))).length + 1 ≤ i + q.1 ∧ q.2.take (cpct (l.take (i + q.1))).length = (cpct (l.take (i + q.1))).map PV.word ∧ q.2.drop (i + q.1 - 1) = (l.map PV.word).drop (i + q.1 - 1) ∧ ∀ p ∈ q.2, ∃ w, p = PV.word w)
        (fun q => ⟨[(0, .h 0), (1, .fn 69 []), (5, .I (cpct (l.take (i + q.1))).length), (6, .sub 0 i (l.length - i)), (7, .I q.1)], [(0, ⟨false, 1, q.2⟩)], 1024⟩) (fun q => l.length - q.1) (1, l.map PV.word) (by decide) (by simp [hq, hp]; omega) ⟨by omega, by omega, by simp, by simp [hq, hp]; omega, by simp [hq, hp], rfl, fun p hp => by obtain ⟨w, _, rfl⟩ := List.mem_map.1 hp; exact ⟨w, rfl⟩⟩ ?_
      rintro ⟨k2, R⟩ ⟨g1, g2, g3, g4, g5, g6, g7⟩ ih2
      simp only at g1 g2 g3 g4 g5 g6 g7
      by_cases hk : i + k2 < l.length
      · have hq2 := cpct_take (l := l) (j := i + k2) (by omega) hk
        have hR1 : R[i + k2]? = some (PV.word l[i + k2]) := by
          have := congrArg (·[1]?) g6
          simp only [List.getElem?_drop] at this
          rw [show i + k2 - 1 + 1 = i + k2 by omega] at this
          rw [this]; simp [hk]
        have hj1 : i + k2 - 1 < l.length := by omega
        have hR2 : R[i + k2 - 1]? = some (PV.word l[i + k2 - 1]) := by
          have := congrArg (·[0]?) g6
          simp only [List.getElem?_drop, Nat.add_zero] at this
          rw [this]; simp [hj1]
        have e1 : k2 < l.length - i := by omega
        have e2 : ¬ l.length ≤ k2 + i := by omega
        have e3 : (k2 : Int) - 1 < ((l.length - i : Nat) : Int) := by omega
        have e4 : i + (k2 - 1) = i + k2 - 1 := by omega
        have e5 : (cpct (l.take (i + k2))).length < R.length := by omega
        obtain ⟨b1, b1'⟩ := List.getElem?_eq_some_iff.1 hR1
        obtain ⟨b2, b2'⟩ := List.getElem?_eq_some_iff.1 hR2
        simp (disch := omega) [wrap_i64, e1, e2, e3, e4, g1, b1, b1', b2, b2']
        refine CallG.lent rfl rfl rfl rfl (hc (i + k2) hk (i + k2 - 1) hj1) rfl ?_
        by_cases hd2 : l[i + k2 - 1] = l[i + k2]
        · rw [if_pos hd2] at hq2
          simp (disch := omega) [wrap_i64, hd2]
          have hs : i + (k2 + 1) = i + k2 + 1 := by omega
          refine ih2 (k2 + 1, R) _ ⟨by omega, by omega, g3, by simp only [hs, hq2]; omega, by simp only [hs, hq2]; exact g5, ?_, g7⟩ (by omega) (by simp [hs, hq2])
          have := congrArg (·.drop 1) g6
          simp only [List.drop_drop] at this
          rw [show i + k2 - 1 + 1 = i + k2 by omega] at this
          rw [hs, Nat.add_sub_cancel]; exact this
        · rw [if_neg hd2] at hq2
          have hd2' : ¬ l[i + k2] = l[i + k2 - 1] := fun e => hd2 e.symm
          obtain ⟨w0, hw0⟩ := g7 _ (List.getElem_mem e5)
          simp (disch := omega) [wrap_i64, hd2', e1, e5, b1, b1', hw0]
          have hs : i + (k2 + 1) = i + k2 + 1 := by omega
          refine ih2 (k2 + 1, R.set (cpct (l.take (i + k2))).length (PV.word l[i + k2])) _ ⟨by omega, by omega, by simpa using g3, ?_, ?_, ?_, ?_⟩ (by omega) ?_
          · simp only [hs, hq2]; simp; omega
          · simp only [hs, hq2]
            rw [List.length_append, List.length_singleton, List.take_succ_eq_append_getElem (by simpa using e5), List.take_set_of_le (Nat.le_refl _), g5]
            simp
          · simp only [hs, Nat.add_sub_cancel]
            have := congrArg (·.drop 1) g6
            simp only [List.drop_drop] at this
            rw [show i + k2 - 1 + 1 = i + k2 by omega] at this
            rw [← this, List.drop_set_of_lt (by omega)]
          · intro p hp
            rcases List.mem_or_eq_of_mem_set hp with hp | rfl
            · exact g7 p hp
            · exact ⟨_, rfl⟩
          · simp [hs, hq2]
      · have e1 : ¬ k2 < l.length - i := by omega
        have e2 : l.length ≤ k2 + i := by omega
        have e3 : (cpct (l.take (i + k2))).length ≤ R.length := by omega
        have e4 : (cpct (l.take (i + k2))).length < R.length := by omega
        have e5 : ¬ R.length - (cpct (l.take (i + k2))).length = 0 := by omega
        have e6 : (cpct (l.take (i + k2))).length + (R.length - (cpct (l.take (i + k2))).length) ≤ R.length := by omega
        simp (disch := omega) [wrap_i64, e1, e2, e3, e4, e5, e6]
        have hj : i + k2 = l.length := by omega
        rw [hj, List.take_length] at g5 ⊢
        exact Ends.moved 0 17472 (by decide) rfl rfl (by simp) (by simp [g5])
    · rw [if_neg hd] at hq
      have hd' : ¬ l[i] = l[i - 1] := fun e => hd e.symm
      simp (disch := omega) [wrap_i64, hd']
      exact ih (i + 1) _ ⟨by omega, by omega, by rw [hq, hp, List.take_succ_eq_append_getElem h]⟩ (by omega) (by simp)
  · have : i = l.length := by omega
    subst this
    rw [List.take_length] at hp
    simp
    exact Ends.moved 9 0 (by decide) rfl rfl (by simp) (by simp [hp])

end Go.Proofs
