/- The walk. -/
import Derived.Test.YtphjjlhpepmofaaGreatF1b
import Derived.Test.YtphjjlhpepmofaaGreatSp23
import Derived.Test.YtphjjlhpepmofaaGreatProg
import Derived.KernelRfl
set_option linter.all false
set_option maxHeartbeats 2000000
namespace Go.Proofs
open Go Go.AM
attribute [local irreducible] Run Ends
/-- cmp.isNaN[string] -/
def c126 : MC :=
  .seq (.reg false [.op .none 2 (.mv (.c (.w (.bool false))))]) <|
  .seq (.reg false [.op .none 3 (.mv (.t 0)),
    .op .none 4 (.mv (.t 0)),
    .op .none 5 (.bin .neq (.t 3) (.t 4)),
    .op .none 2 (.mv (.t 5))]) <|
  .ret
theorem k126 : FnCode Tryz.prog 126 [] 6 [2] c126 := ⟨Tryz.f126, Tryz.func126, fun xs W => Tryz.call126 xs W, by kernel_rfl, by kernel_rfl, by kernel_rfl⟩

/-- cmp.Compare[string] -/
def c94 : MC :=
  .seq (.reg false [.op .none 4 (.mv (.c (.w (.int .i64 0))))]) <|
  .seq (.reg false [.op .none 7 (.mv (.t 0)),
    .call .none 8 (.f 126) [(.t 7)],
    .op .none 5 (.mv (.t 8))]) <|
  .seq (.reg false [.op .none 9 (.mv (.t 1)),
    .call .none 10 (.f 126) [(.t 9)],
    .op .none 6 (.mv (.t 10))]) <|
  .seq (.seq (.reg false [.op .none 11 (.mv (.t 5))]) <|
  .cond (.t 11)
    (.seq (.seq (.reg false [.op .none 12 (.mv (.t 6))]) <|
    .cond (.t 12)
      (.seq (.reg false [.op .none 4 (.mv (.c (.w (.int .i64 0))))]) <|
      .ret)
      (.skip)) <|
    .seq (.reg false [.op .none 4 (.mv (.c (.w (.int .i64 (-1)))))]) <|
    .ret)
    (.skip)) <|
  .seq (.seq (.reg false [.op .none 13 (.mv (.t 6))]) <|
  .cond (.t 13)
    (.seq (.reg false [.op .none 4 (.mv (.c (.w (.int .i64 1))))]) <|
    .ret)
    (.skip)) <|
  .seq (.seq (.reg false [.op .none 14 (.mv (.t 0)),
    .op .none 15 (.mv (.t 1)),
    .op .none 16 (.bin .lss (.t 14) (.t 15))]) <|
  .cond (.t 16)
    (.seq (.reg false [.op .none 4 (.mv (.c (.w (.int .i64 (-1)))))]) <|
    .ret)
    (.skip)) <|
  .seq (.seq (.reg false [.op .none 17 (.mv (.t 0)),
    .op .none 18 (.mv (.t 1)),
    .op .none 19 (.bin .gtr (.t 17) (.t 18))]) <|
  .cond (.t 19)
    (.seq (.reg false [.op .none 4 (.mv (.c (.w (.int .i64 1))))]) <|
    .ret)
    (.skip)) <|
  .seq (.reg false [.op .none 4 (.mv (.c (.w (.int .i64 0))))]) <|
  .ret
theorem k94 : FnCode Tryz.prog 94 [] 20 [4] c94 := ⟨Tryz.f94, Tryz.func94, fun xs W => Tryz.call94 xs W, by kernel_rfl, by kernel_rfl, by kernel_rfl⟩

/-- slices.Compare[[]string,string] -/
def c70 : MC :=
  .seq (.reg false [.op .none 4 (.mv (.c (.w (.int .i64 0))))]) <|
  .seq (.seq (.reg false [.op .none 9 (.mv (.t 0)),
    .op .none 10 (.len false (.t 9)),
    .op .none 11 (.mv (.c (.w (.int .i64 0))))]) <|
  .block 0 <|
    .loop <|
      .seq (.reg false [.op .none 12 (.bin .lss (.t 11) (.t 10))]) <|
      .seq (.cond (.t 12)
        (.skip)
        (.exit 0)) <|
      .seq (.block 1 <|
        .seq (.reg false [.op .none 13 (.mv (.t 11)),
          .op .none 14 (.ia 1 (.t 9) (.t 11)),
          .op .none 15 (.ld false 1 (.t 14)),
          .op .none 5 (.mv (.t 13)),
          .op .none 6 (.mv (.t 15))]) <|
        .seq (.seq (.reg false [.op .none 16 (.mv (.t 5)),
          .op .none 17 (.mv (.t 1)),
          .op .none 18 (.len false (.t 17)),
          .op .none 19 (.bin .geq (.t 16) (.t 18))]) <|
        .cond (.t 19)
          (.seq (.reg false [.op .none 4 (.mv (.c (.w (.int .i64 1))))]) <|
          .ret)
          (.skip)) <|
        .seq (.reg false [.op .none 20 (.mv (.t 1)),
          .op .none 21 (.mv (.t 5)),
          .op .none 22 (.ia 1 (.t 20) (.t 21)),
          .op .none 23 (.ld false 1 (.t 22)),
          .op .none 7 (.mv (.t 23))]) <|
        .seq (.reg false [.op .none 24 (.mv (.t 6)),
          .op .none 25 (.mv (.t 7)),
          .call .none 26 (.f 94) [(.t 24), (.t 25)],
          .op .none 8 (.mv (.t 26))]) <|
        .seq (.reg false [.op .none 27 (.mv (.t 8)),
          .op .none 28 (.bin .neq (.t 27) (.c (.w (.int .i64 0))))]) <|
        .cond (.t 28)
          (.seq (.reg false [.op .none 29 (.mv (.t 8)),
            .op .none 4 (.mv (.t 29))]) <|
          .ret)
          (.skip)) <|
      .reg false [.op .none 30 (.bin .add (.t 11) (.c (.w (.int .i64 1)))),
        .op .none 11 (.mv (.t 30))]) <|
  .seq (.seq (.reg false [.op .none 31 (.mv (.t 0)),
    .op .none 32 (.len false (.t 31)),
    .op .none 33 (.mv (.t 1)),
    .op .none 34 (.len false (.t 33)),
    .op .none 35 (.bin .lss (.t 32) (.t 34))]) <|
  .cond (.t 35)
    (.seq (.reg false [.op .none 4 (.mv (.c (.w (.int .i64 (-1)))))]) <|
    .ret)
    (.skip)) <|
  .seq (.reg false [.op .none 4 (.mv (.c (.w (.int .i64 0))))]) <|
  .ret
theorem k70 : FnCode Tryz.prog 70 [] 36 [4] c70 := ⟨Tryz.f70, Tryz.func70, fun xs W => Tryz.call70 xs W, by kernel_rfl, by kernel_rfl, by kernel_rfl⟩

/-- ablaut/spell.compareNear -/
def c98 : MC :=
  .seq (.reg false [.op .none 2 (.box false (.t 0)),
    .op .none 3 (.box false (.t 1)),
    .op .none 4 (.mv (.c (.w (.int .i64 0))))]) <|
  .seq (.reg false [.op .none 5 (.fa 0 (.t 2)),
    .op .none 6 (.ld false 1 (.t 5)),
    .op .none 7 (.fa 1 (.t 2)),
    .op .none 8 (.ld false 1 (.t 7)),
    .op .none 9 (.buildS false 1 2 false [(.w (.string ⟨#[]⟩))] [(0, (.t 6)), (1, (.t 8))]),
    .op .none 10 (.fa 0 (.t 3)),
    .op .none 11 (.ld false 1 (.t 10)),
    .op .none 12 (.fa 1 (.t 3)),
    .op .none 13 (.ld false 1 (.t 12)),
    .op .none 14 (.buildS false 1 2 false [(.w (.string ⟨#[]⟩))] [(0, (.t 11)), (1, (.t 13))]),
    .call .none 15 (.f 70) [(.t 9), (.t 14)],
    .op .none 4 (.mv (.t 15))]) <|
  .ret
theorem k98 : FnCode Tryz.prog 98 [] 16 [4] c98 := ⟨Tryz.f98, Tryz.func98, fun xs W => Tryz.call98 xs W, by kernel_rfl, by kernel_rfl, by kernel_rfl⟩

/-- ablaut/spell.Validate$1 -/
def c96 : MC :=
  .seq (.reg false [.op .none 6 (.mv (.c (.w (.bool false))))]) <|
  .seq (.reg false [.op .none 7 (.mv (.t 0)),
    .op .none 8 (.mv (.t 1)),
    .op .none 9 (.bin .geq (.t 7) (.t 8)),
    .op .none 10 (.mv (.t 9)),
    .op (.some (10, true)) 11 (.mv (.t 0)),
    .op (.some (10, true)) 12 (.mv (.t 2)),
    .op (.some (10, true)) 13 (.bin .leq (.t 11) (.t 12)),
    .op .none 14 (.pick (.t 10) (.t 13) (.c (.w (.bool false)))),
    .op .none 6 (.mv (.t 14))]) <|
  .ret
theorem k96 : FnCode Tryz.prog 96 [] 15 [6] c96 := ⟨Tryz.f96, Tryz.func96, fun xs W => Tryz.call96 xs W, by kernel_rfl, by kernel_rfl, by kernel_rfl⟩

theorem fok126 (s : Bs) : FOk Tryz.prog 126 [.S s] [] (.B false) [] := by
  refine FOk.val k126 (by simp) (by simp) (by decide) ?_
  simp [c126]
  exact Ends.v rfl (by simp)

theorem fok94 (a b : Bs) : FOk Tryz.prog 94 [.S a, .S b] [] (.I (cmpB a b)) [] := by
  refine FOk.val k94 (by simp) (by simp) (by decide) ?_
  simp [c94]
  refine CallG.lent rfl rfl rfl rfl (fok126 a) rfl ?_
  simp
  refine CallG.lent rfl rfl rfl rfl (fok126 b) rfl ?_
  simp
  repeat' (first | refine And.intro ?_ ?_ | intro _)
  all_goals exact Ends.v rfl (by simp_all [cmpB])

theorem fok70 (w v : List Bs) (hw : w.length ≤ 200000000000000) (hv : v.length ≤ 200000000000000) : FOk Tryz.prog 70 [.v (.word w), .v (.word v)] [] (.I (cmpW w v)) [] := by
  refine FOk.val k70 (by simp) (by simp) (by decide) ?_
  simp [c70]
  refine Run.loopI (ι := Nat) (fun i => i ≤ w.length ∧ i ≤ v.length ∧ cmpW (w.drop i) (v.drop i) = cmpW w v) (fun i => ⟨[(0, .v (.word w)), (1, .v (.word v)), (9, .v (.word w)), (10, .I w.length), (11, .I i)], [], 1024⟩) (fun i => w.length - i) 0 [] (by decide) (by simp) ⟨by omega, by omega, by simp⟩ ?_
  rintro i ⟨hi, hi2, hall⟩ ih
  by_cases h : i < w.length
  · rw [drop_at h] at hall
    by_cases h2 : i < v.length
    · rw [drop_at h2] at hall
      have hn : ¬ v.length ≤ i := by omega
      simp (disch := omega) [h, h2, hn, wrap_i64]
      refine CallG.lent rfl rfl rfl rfl (fok94 w[i] v[i]) rfl ?_
      simp only [cmpW] at hall
      simp (disch := omega) [wrap_i64]
      refine ⟨fun hc => ?_, fun hc => ?_⟩
      · exact Ends.v rfl (by simp [← hall, hc])
      · exact ih (i + 1) [] _ ⟨by omega, by omega, by simpa [hc] using hall⟩ (by omega) (by simp)
    · rw [drop_no h2] at hall
      have hn : v.length ≤ i := by omega
      simp (disch := omega) [h, hn, wrap_i64]
      exact Ends.v rfl (by simp [← hall, cmpW])
  · rw [drop_no h] at hall
    simp [h]
    refine ⟨fun hc => ?_, fun hc => ?_⟩
    · rw [drop_at (by omega : i < v.length)] at hall
      exact Ends.v rfl (by simp [← hall, cmpW])
    · rw [drop_no (by omega : ¬ i < v.length)] at hall
      exact Ends.v rfl (by simp [← hall, cmpW])

theorem fok98 (a b : NearT) : FOk Tryz.prog 98 [.v (nearV a), .v (nearV b)] [] (.I (cmpN a b)) [] := by
  refine FOk.val k98 (by simp) (by simp) (by decide) ?_
  simp [c98, nearV]
  refine CallG.lent rfl rfl rfl rfl (fok70 [a.1, a.2.1] [b.1, b.2.1] (by simp) (by simp)) rfl ?_
  simp
  exact Ends.v rfl (by simp [cmpN])

theorem fok96 (c lo hi : Int) : FOk Tryz.prog 96 [.I c, .I lo, .I hi] [] (.B (within c lo hi)) [] := by
  refine FOk.val k96 (by simp) (by simp) (by decide) ?_
  simp [c96]
  exact ⟨fun h => Ends.v rfl (by simp [within, h]), fun h => Ends.v rfl (by simp [within]; omega)⟩

/-- ablaut/spell.Validate -/
def c73 : MC :=
  .seq (.reg false [.op .none 1 (.box false (.t 0)),
    .op .none 2 (.mv (.c (.w (.int .i64 0))))]) <|
  .seq (.seq (.reg false [.op .none 8 (.fa 4 (.t 1)),
    .op .none 9 (.ld false 1 (.t 8)),
    .op .none 10 (.len false (.t 9)),
    .op .none 11 (.bin .gtr (.t 10) (.c (.w (.int .i64 200))))]) <|
  .cond (.t 11)
    (.seq (.reg false [.op .none 2 (.mv (.c (.w (.int .i64 3))))]) <|
    .ret)
    (.skip)) <|
  .seq (.seq (.reg false [.op .none 12 (.fa 4 (.t 1)),
    .op .none 13 (.ld false 1 (.t 12)),
    .op .none 14 (.len false (.t 13)),
    .op .none 15 (.mv (.c (.w (.int .i64 0))))]) <|
  .block 0 <|
    .loop <|
      .seq (.reg false [.op .none 16 (.bin .lss (.t 15) (.t 14))]) <|
      .seq (.cond (.t 16)
        (.skip)
        (.exit 0)) <|
      .seq (.block 1 <|
        .seq (.reg false [.op .none 17 (.ia 3 (.t 13) (.t 15)),
          .op .none 18 (.ld true 3 (.t 17)),
          .op .none 4 (.alloc true [(.w (.string ⟨#[]⟩)), (.w (.string ⟨#[]⟩)), (.w (.int .i64 0))]),
          .store .none (.stt true 3 (.t 4) (.t 18))]) <|
        .seq (.reg false [.op .none 19 (.fa 0 (.t 4)),
          .op .none 20 (.ld false 1 (.t 19)),
          .op .none 21 (.len true (.t 20)),
          .op .none 22 (.bin .gtr (.t 21) (.c (.w (.int .i64 16)))),
          .op .none 23 (.mv (.t 22)),
          .op (.some (23, false)) 24 (.fa 1 (.t 4)),
          .op (.some (23, false)) 25 (.ld false 1 (.t 24)),
          .op (.some (23, false)) 26 (.len true (.t 25)),
          .op (.some (23, false)) 27 (.bin .gtr (.t 26) (.c (.w (.int .i64 16)))),
          .op .none 28 (.pick (.t 23) (.c (.w (.bool true))) (.t 27))]) <|
        .cond (.t 28)
          (.seq (.reg false [.op .none 2 (.mv (.c (.w (.int .i64 3))))]) <|
          .ret)
          (.skip)) <|
      .reg false [.op .none 29 (.bin .add (.t 15) (.c (.w (.int .i64 1)))),
        .op .none 15 (.mv (.t 29))]) <|
  .seq (.reg false [.op .none 5 (.mv (.f 96))]) <|
  .seq (.seq (.reg false [.op .none 30 (.mv (.t 5)),
    .op .none 31 (.fa 0 (.t 1)),
    .op .none 32 (.ld false 1 (.t 31)),
    .call .none 33 (.t 30) [(.t 32), (.c (.w (.int .i64 1))), (.c (.w (.int .i64 1000)))],
    .op .none 34 (.un .not (.t 33)),
    .op .none 35 (.mv (.t 34)),
    .op (.some (35, false)) 36 (.mv (.t 5)),
    .op (.some (35, false)) 37 (.fa 1 (.t 1)),
    .op (.some (35, false)) 38 (.ld false 1 (.t 37)),
    .call (.some (35, false)) 39 (.t 36) [(.t 38), (.c (.w (.int .i64 1))), (.c (.w (.int .i64 1000)))],
    .op (.some (35, false)) 40 (.un .not (.t 39)),
    .op .none 41 (.pick (.t 35) (.c (.w (.bool true))) (.t 40)),
    .op .none 42 (.mv (.t 41)),
    .op (.some (42, false)) 43 (.mv (.t 5)),
    .op (.some (42, false)) 44 (.fa 3 (.t 1)),
    .op (.some (42, false)) 45 (.ld false 1 (.t 44)),
    .call (.some (42, false)) 46 (.t 43) [(.t 45), (.c (.w (.int .i64 1))), (.c (.w (.int .i64 1000)))],
    .op (.some (42, false)) 47 (.un .not (.t 46)),
    .op .none 48 (.pick (.t 42) (.c (.w (.bool true))) (.t 47)),
    .op .none 49 (.mv (.t 48)),
    .op (.some (49, false)) 50 (.mv (.t 5)),
    .op (.some (49, false)) 51 (.fa 2 (.t 1)),
    .op (.some (49, false)) 52 (.ld false 1 (.t 51)),
    .call (.some (49, false)) 53 (.t 50) [(.t 52), (.c (.w (.int .i64 0))), (.c (.w (.int .i64 1000)))],
    .op (.some (49, false)) 54 (.un .not (.t 53)),
    .op .none 55 (.pick (.t 49) (.c (.w (.bool true))) (.t 54))]) <|
  .cond (.t 55)
    (.seq (.reg false [.op .none 2 (.mv (.c (.w (.int .i64 1))))]) <|
    .ret)
    (.skip)) <|
  .seq (.seq (.reg false [.op .none 56 (.fa 4 (.t 1)),
    .op .none 57 (.ld false 1 (.t 56)),
    .op .none 58 (.len false (.t 57)),
    .op .none 59 (.mv (.c (.w (.int .i64 0))))]) <|
  .block 2 <|
    .loop <|
      .seq (.reg false [.op .none 60 (.bin .lss (.t 59) (.t 58))]) <|
      .seq (.cond (.t 60)
        (.skip)
        (.exit 2)) <|
      .seq (.block 3 <|
        .seq (.reg false [.op .none 61 (.mv (.t 59)),
          .op .none 62 (.ia 3 (.t 57) (.t 59)),
          .op .none 63 (.ld true 3 (.t 62)),
          .op .none 7 (.alloc true [(.w (.string ⟨#[]⟩)), (.w (.string ⟨#[]⟩)), (.w (.int .i64 0))]),
          .op .none 6 (.mv (.t 61)),
          .store .none (.stt true 3 (.t 7) (.t 63))]) <|
        .seq (.reg true [.op .none 64 (.fa 0 (.t 7)),
          .op .none 65 (.ld false 1 (.t 64)),
          .call .none 66 (.f 97) [(.t 65)],
          .op .none 67 (.un .not (.t 66)),
          .op .none 68 (.mv (.t 67)),
          .op (.some (68, false)) 69 (.fa 1 (.t 7)),
          .op (.some (68, false)) 70 (.ld false 1 (.t 69)),
          .call (.some (68, false)) 71 (.f 97) [(.t 70)],
          .op (.some (68, false)) 72 (.un .not (.t 71)),
          .op .none 73 (.pick (.t 68) (.c (.w (.bool true))) (.t 72)),
          .op .none 74 (.mv (.t 73)),
          .op (.some (74, false)) 75 (.fa 0 (.t 7)),
          .op (.some (74, false)) 76 (.ld false 1 (.t 75)),
          .op (.some (74, false)) 77 (.fa 1 (.t 7)),
          .op (.some (74, false)) 78 (.ld false 1 (.t 77)),
          .op (.some (74, false)) 79 (.bin .geq (.t 76) (.t 78)),
          .op .none 80 (.pick (.t 74) (.c (.w (.bool true))) (.t 79)),
          .op .none 81 (.mv (.t 80)),
          .op (.some (81, false)) 82 (.mv (.t 5)),
          .op (.some (81, false)) 83 (.fa 2 (.t 7)),
          .op (.some (81, false)) 84 (.ld false 1 (.t 83)),
          .op (.some (81, false)) 85 (.fa 3 (.t 1)),
          .op (.some (81, false)) 86 (.ld false 1 (.t 85)),
          .call (.some (81, false)) 87 (.t 82) [(.t 84), (.c (.w (.int .i64 0))), (.t 86)],
          .op (.some (81, false)) 88 (.un .not (.t 87)),
          .op .none 89 (.pick (.t 81) (.c (.w (.bool true))) (.t 88)),
          .op .none 90 (.mv (.t 89)),
          .op (.some (90, false)) 91 (.mv (.t 6)),
          .op (.some (90, false)) 92 (.bin .gtr (.t 91) (.c (.w (.int .i64 0)))),
          .op (.some (90, false)) 93 (.mv (.t 92)),
          .op (.some (93, true)) 94 (.fa 4 (.t 1)),
          .op (.some (93, true)) 95 (.ld false 1 (.t 94)),
          .op (.some (93, true)) 96 (.mv (.t 6)),
          .op (.some (93, true)) 97 (.bin .sub (.t 96) (.c (.w (.int .i64 1)))),
          .op (.some (93, true)) 98 (.ia 3 (.t 95) (.t 97)),
          .op (.some (93, true)) 99 (.ld true 3 (.t 98)),
          .op (.some (93, true)) 100 (.ld true 3 (.t 7)),
          .call (.some (93, true)) 101 (.f 98) [(.t 99), (.t 100)],
          .op (.some (93, true)) 102 (.bin .geq (.t 101) (.c (.w (.int .i64 0)))),
          .op (.some (90, false)) 103 (.pick (.t 93) (.t 102) (.c (.w (.bool false)))),
          .op .none 104 (.pick (.t 90) (.c (.w (.bool true))) (.t 103))]) <|
        .cond (.t 104)
          (.seq (.reg false [.op .none 2 (.mv (.c (.w (.int .i64 1))))]) <|
          .ret)
          (.skip)) <|
      .reg false [.op .none 105 (.bin .add (.t 59) (.c (.w (.int .i64 1)))),
        .op .none 59 (.mv (.t 105))]) <|
  .seq (.reg false [.op .none 2 (.mv (.c (.w (.int .i64 0))))]) <|
  .ret
theorem k73 : FnCode Tryz.prog 73 [] 106 [2] c73 := ⟨Tryz.f73, Tryz.func73, fun xs W => Tryz.call73 xs W, by kernel_rfl, by kernel_rfl, by kernel_rfl⟩

theorem fokS (s : Bs) (hs : s.length ≤ 200000000000000) : FOk Tryz.prog 97 [.S s] [] (.B (symS s)) [] := fok97 s hs

theorem fok73 (p : PricesT) (hp : ∀ n ∈ p.2.2.2.2.1, nearS n) : FOk Tryz.prog 73 [.v (pricesV p)] [] (.I (vPrices p)) [] := by
  obtain ⟨pd, pp, ps, pc, l, u⟩ := p
  simp only at hp
  refine FOk.val k73 (by simp) (by simp) (by decide) ?_
  simp [c73, pricesV]
  refine ⟨fun h => Ends.v rfl (by simp [vPrices, h]), fun hlen => ?_⟩
  have hlen' : ¬ 200 < l.length := by omega
  refine Run.loopI (ι := Nat) (fun i => i ≤ l.length ∧ longN (l.drop i) = longN l) (fun i => ⟨[(1, .ptr 1 0 0), (13, .v (.sl 3 (l.map nearV))), (14, .I l.length), (15, .I i)], [(1, ⟨false, 5, [pricesV (pd, pp, ps, pc, l, u)]⟩)], 1024⟩) (fun i => l.length - i) 0 [(1, 1025)] (by decide) (by simp [pricesV]) ⟨by omega, by simp⟩ ?_
  rintro i ⟨hi, hall⟩ ih
  by_cases h : i < l.length
  · rw [drop_at h] at hall
    simp only [longN] at hall
    simp (disch := omega) [h, wrap_i64, nearV, pricesV]
    repeat' (first | refine And.intro ?_ ?_ | intro _)
    all_goals first
      | (have e1 : decide (16 < l[i].1.length) = false := by simp; omega
         have e2 : decide (16 < l[i].2.1.length) = false := by simp; omega
         rw [e1, e2] at hall
         exact ih (i + 1) [(1, 1)] _ ⟨by omega, by simpa using hall⟩ (by omega) (by simp [pricesV]))
      | (have hl : longN l = true := by rw [← hall]; clear hall ih; simp [*]
         exact Ends.v rfl (by simp [vPrices, hl] <;> omega))
  · rw [drop_no h] at hall
    have hl : longN l = false := by rw [← hall]; rfl
    simp [h, pricesV]
    clear ih
    refine CallG.lent rfl rfl rfl rfl (fok96 pd 1 1000) rfl ?_
    simp
    refine ⟨fun h1 => ?_, fun h1 => Ends.v rfl (by simp [vPrices, hl, hlen', numBad, h1])⟩
    refine CallG.lent rfl rfl rfl rfl (fok96 pp 1 1000) rfl ?_
    simp
    refine ⟨fun h2 => ?_, fun h2 => Ends.v rfl (by simp [vPrices, hl, hlen', numBad, h1, h2])⟩
    refine CallG.lent rfl rfl rfl rfl (fok96 pc 1 1000) rfl ?_
    simp
    refine ⟨fun h3 => ?_, fun h3 => Ends.v rfl (by simp [vPrices, hl, hlen', numBad, h1, h2, h3])⟩
    refine CallG.lent rfl rfl rfl rfl (fok96 ps 0 1000) rfl ?_
    simp
    refine ⟨fun h4 => Ends.v rfl (by simp [vPrices, hl, hlen', numBad, h1, h2, h3, h4]), fun h4 => ?_⟩
    have hn : numBad (pd, pp, ps, pc, l, u) = false := by simp [numBad, h1, h2, h3, h4]
    clear hi h hall
    refine Run.loopI (ι := Nat) (fun i => i ≤ l.length ∧ rowsBad pc (prevAt l i) (l.drop i) = rowsBad pc none l) (fun i => ⟨[(1, .ptr 1 0 0), (5, .fn 96 []), (57, .v (.sl 3 (l.map nearV))), (58, .I l.length), (59, .I i)], [(1, ⟨false, 5, [pricesV (pd, pp, ps, pc, l, u)]⟩)], 1024⟩) (fun i => l.length - i) 0 [(1, 1)] (by decide) (by simp [pricesV]) ⟨by omega, by simp [prevAt]⟩ ?_
    rintro i ⟨hi, hall⟩ ih
    by_cases h : i < l.length
    · rw [drop_at h] at hall
      simp only [rowsBad] at hall
      have hs := hp l[i] (List.getElem_mem h)
      simp (disch := omega) [h, wrap_i64, nearV, pricesV]
      refine CallG.lent rfl rfl rfl rfl (fokS l[i].1 hs.1) rfl ?_
      simp
      refine ⟨fun q1 => ?_, fun q1 => Ends.v rfl (by simp [vPrices, hl, hlen', hn, ← hall, nearBad, q1])⟩
      refine CallG.lent rfl rfl rfl rfl (fokS l[i].2.1 hs.2) rfl ?_
      simp [pricesV]
      refine ⟨fun q2 => ⟨fun q3 => ?_, fun q3 => Ends.v rfl (by simp [vPrices, hl, hlen', hn, ← hall, nearBad, q1, q2, q3])⟩, fun q2 => Ends.v rfl (by simp [vPrices, hl, hlen', hn, ← hall, nearBad, q1, q2])⟩
      refine CallG.lent rfl rfl rfl rfl (fok96 l[i].2.2.1 0 pc) rfl ?_
      rcases Nat.eq_zero_or_pos i with hi0 | hi0
      · subst hi0
        simp (disch := omega) [wrap_i64]
        refine ⟨fun q4 => ?_, fun q4 => Ends.v rfl (by simp [vPrices, hl, hlen', hn, ← hall, nearBad, q1, q2, q3, q4])⟩
        exact ih 1 [(1, 1)] _ ⟨by omega, by rw [← hall]; simp [prevAt, nearBad, q1, q2, q3, q4, h]⟩ (by omega) (by simp [pricesV])
      · have e1 : IntKind.i64.wrap ((i : Int) - 1) = ((i - 1 : Nat) : Int) := by rw [wrap_i64] <;> omega
        have e2 : i - 1 < l.length := by omega
        have e3 : prevAt l i = some l[i - 1] := by simp [prevAt, show i ≠ 0 by omega, e2]
        simp (disch := omega) [wrap_i64, e1, e2, hi0, nearV, pricesV]
        refine ⟨fun q4 => ?_, fun q4 => Ends.v rfl (by simp [vPrices, hl, hlen', hn, ← hall, nearBad, q1, q2, q3, q4])⟩
        refine CallG.lent rfl rfl rfl rfl (fok98 l[i - 1] l[i]) rfl ?_
        simp (disch := omega) [wrap_i64]
        refine ⟨fun q5 => Ends.v rfl (by simp [vPrices, hl, hlen', hn, ← hall, nearBad, q1, q2, q3, q4, q5, e3]), fun q5 => ?_⟩
        refine ih (i + 1) [(1, 1)] _ ⟨by omega, ?_⟩ (by omega) (by simp [pricesV])
        rw [← hall]
        have e4 : prevAt l (i + 1) = some l[i] := by simp [prevAt, h]
        have e5 : ¬ 0 ≤ cmpN l[i - 1] l[i] := by omega
        simp [e3, e4, nearBad, q1, q2, q3, q4, e5]
    · rw [drop_no h] at hall
      simp [h, pricesV]
      exact Ends.v rfl (by simp [vPrices, hl, hlen', hn, ← hall, rowsBad])

end Go.Proofs
