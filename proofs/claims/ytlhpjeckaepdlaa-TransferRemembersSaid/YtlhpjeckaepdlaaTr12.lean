/- The walk. -/
import Derived.Test.YtlhpjeckaepdlaaTr11
import Derived.Test.YtlhpjeckaepdlaaProg
import Derived.KernelRfl
set_option linter.all false
set_option maxHeartbeats 2000000
namespace Go.Proofs
open Go Go.AM
attribute [local irreducible] Run Ends
/-- ablaut/ablautlaw28.over -/
def c8 : MC :=
  .seq (.reg false [.op .none 1 (.box false (.t 0)),
    .op .none 2 (.mv (.c (.w (.bool false))))]) <|
  .seq (.reg false [.op .none 8 (.fa 0 (.t 1)),
    .op .none 9 (.ld false 1 (.t 8)),
    .op .none 10 (.len false (.t 9)),
    .op .none 11 (.fa 1 (.t 1)),
    .op .none 12 (.ld false 1 (.t 11)),
    .op .none 13 (.len false (.t 12)),
    .op .none 14 (.bin .add (.t 10) (.t 13)),
    .op .none 3 (.mv (.t 14))]) <|
  .seq (.seq (.reg false [.op .none 4 (.mv (.c (.w (.int .i64 0))))]) <|
  .block 0 <|
    .loop <|
      .seq (.seq (.reg false [.op .none 15 (.mv (.t 4)),
        .op .none 16 (.fa 0 (.t 1)),
        .op .none 17 (.ld false 1 (.t 16)),
        .op .none 18 (.len false (.t 17)),
        .op .none 19 (.bin .lss (.t 15) (.t 18)),
        .op .none 20 (.mv (.t 19)),
        .op (.some (20, true)) 21 (.mv (.t 3)),
        .op (.some (20, true)) 22 (.bin .lss (.t 21) (.c (.w (.int .i64 8192)))),
        .op .none 23 (.pick (.t 20) (.t 22) (.c (.w (.bool false))))]) <|
      .cond (.t 23)
        (.skip)
        (.exit 0)) <|
      .seq (.block 1 <|
        .seq (.reg true [.op .none 26 (.mv (.t 3)),
          .op .none 27 (.fa 0 (.t 1)),
          .op .none 28 (.ld false 1 (.t 27)),
          .op .none 29 (.mv (.t 4)),
          .op .none 30 (.ia 4 (.t 28) (.t 29)),
          .op .none 31 (.fa 0 (.t 30)),
          .op .none 32 (.ld false 1 (.t 31)),
          .op .none 33 (.len true (.t 32)),
          .op .none 34 (.fa 0 (.t 1)),
          .op .none 35 (.ld false 1 (.t 34)),
          .op .none 36 (.mv (.t 4)),
          .op .none 37 (.ia 4 (.t 35) (.t 36)),
          .op .none 38 (.fa 2 (.t 37)),
          .op .none 39 (.ld false 1 (.t 38)),
          .op .none 40 (.len true (.t 39)),
          .op .none 41 (.bin .add (.t 33) (.t 40)),
          .op .none 42 (.fa 0 (.t 1)),
          .op .none 43 (.ld false 1 (.t 42)),
          .op .none 44 (.mv (.t 4)),
          .op .none 45 (.ia 4 (.t 43) (.t 44)),
          .op .none 46 (.fa 1 (.t 45)),
          .op .none 47 (.ld false 1 (.t 46)),
          .op .none 48 (.len false (.t 47)),
          .op .none 49 (.bin .add (.t 41) (.t 48)),
          .op .none 50 (.fa 0 (.t 1)),
          .op .none 51 (.ld false 1 (.t 50)),
          .op .none 52 (.mv (.t 4)),
          .op .none 53 (.ia 4 (.t 51) (.t 52)),
          .op .none 54 (.fa 3 (.t 53)),
          .op .none 55 (.ld false 1 (.t 54)),
          .op .none 56 (.len false (.t 55)),
          .op .none 57 (.bin .add (.t 49) (.t 56)),
          .op .none 58 (.bin .add (.t 26) (.t 57)),
          .op .none 3 (.mv (.t 58))]) <|
        .seq (.reg true [.op .none 59 (.fa 0 (.t 1)),
          .op .none 60 (.ld false 1 (.t 59)),
          .op .none 61 (.mv (.t 4)),
          .op .none 62 (.ia 4 (.t 60) (.t 61)),
          .op .none 63 (.fa 1 (.t 62)),
          .op .none 64 (.ld false 1 (.t 63)),
          .op .none 65 (.fa 0 (.t 1)),
          .op .none 66 (.ld false 1 (.t 65)),
          .op .none 67 (.mv (.t 4)),
          .op .none 68 (.ia 4 (.t 66) (.t 67)),
          .op .none 69 (.fa 3 (.t 68)),
          .op .none 70 (.ld false 1 (.t 69)),
          .op .none 71 (.buildS true 1 2 false [(.sl 1 [])] [(0, (.t 64)), (1, (.t 70))]),
          .call .none 72 (.f 23) [(.t 71)]]) <|
        .cond (.t 72)
          (.seq (.reg false [.op .none 2 (.mv (.c (.w (.bool true))))]) <|
          .ret)
          (.skip)) <|
      .reg false [.op .none 24 (.mv (.t 4)),
        .op .none 25 (.bin .add (.t 24) (.c (.w (.int .i64 1)))),
        .op .none 4 (.mv (.t 25))]) <|
  .seq (.seq (.reg false [.op .none 5 (.mv (.c (.w (.int .i64 0))))]) <|
  .block 2 <|
    .loop <|
      .seq (.seq (.reg false [.op .none 73 (.mv (.t 5)),
        .op .none 74 (.fa 1 (.t 1)),
        .op .none 75 (.ld false 1 (.t 74)),
        .op .none 76 (.len false (.t 75)),
        .op .none 77 (.bin .lss (.t 73) (.t 76)),
        .op .none 78 (.mv (.t 77)),
        .op (.some (78, true)) 79 (.mv (.t 3)),
        .op (.some (78, true)) 80 (.bin .lss (.t 79) (.c (.w (.int .i64 8192)))),
        .op .none 81 (.pick (.t 78) (.t 80) (.c (.w (.bool false))))]) <|
      .cond (.t 81)
        (.skip)
        (.exit 2)) <|
      .seq (.block 3 <|
        .seq (.reg true [.op .none 84 (.mv (.t 3)),
          .op .none 85 (.fa 1 (.t 1)),
          .op .none 86 (.ld false 1 (.t 85)),
          .op .none 87 (.mv (.t 5)),
          .op .none 88 (.ia 2 (.t 86) (.t 87)),
          .op .none 89 (.fa 0 (.t 88)),
          .op .none 90 (.ld false 1 (.t 89)),
          .op .none 91 (.len false (.t 90)),
          .op .none 92 (.fa 1 (.t 1)),
          .op .none 93 (.ld false 1 (.t 92)),
          .op .none 94 (.mv (.t 5)),
          .op .none 95 (.ia 2 (.t 93) (.t 94)),
          .op .none 96 (.fa 1 (.t 95)),
          .op .none 97 (.ld false 1 (.t 96)),
          .op .none 98 (.len false (.t 97)),
          .op .none 99 (.bin .add (.t 91) (.t 98)),
          .op .none 100 (.bin .add (.t 84) (.t 99)),
          .op .none 3 (.mv (.t 100))]) <|
        .seq (.seq (.reg false [.op .none 101 (.fa 1 (.t 1)),
          .op .none 102 (.ld false 1 (.t 101)),
          .op .none 103 (.mv (.t 5)),
          .op .none 104 (.ia 2 (.t 102) (.t 103)),
          .op .none 105 (.fa 0 (.t 104)),
          .op .none 106 (.ld false 1 (.t 105)),
          .call .none 107 (.f 23) [(.t 106)]]) <|
        .cond (.t 107)
          (.seq (.reg false [.op .none 2 (.mv (.c (.w (.bool true))))]) <|
          .ret)
          (.skip)) <|
        .seq (.reg false [.op .none 6 (.mv (.c (.w (.int .i64 0))))]) <|
        .block 4 <|
          .loop <|
            .seq (.seq (.reg false [.op .none 108 (.mv (.t 6)),
              .op .none 109 (.fa 1 (.t 1)),
              .op .none 110 (.ld false 1 (.t 109)),
              .op .none 111 (.mv (.t 5)),
              .op .none 112 (.ia 2 (.t 110) (.t 111)),
              .op .none 113 (.fa 1 (.t 112)),
              .op .none 114 (.ld false 1 (.t 113)),
              .op .none 115 (.len false (.t 114)),
              .op .none 116 (.bin .lss (.t 108) (.t 115)),
              .op .none 117 (.mv (.t 116)),
              .op (.some (117, true)) 118 (.mv (.t 3)),
              .op (.some (117, true)) 119 (.bin .lss (.t 118) (.c (.w (.int .i64 8192)))),
              .op .none 120 (.pick (.t 117) (.t 119) (.c (.w (.bool false))))]) <|
            .cond (.t 120)
              (.skip)
              (.exit 4)) <|
            .seq (.block 5 <|
              .seq (.reg false [.op .none 123 (.fa 1 (.t 1)),
                .op .none 124 (.ld false 1 (.t 123)),
                .op .none 125 (.mv (.t 5)),
                .op .none 126 (.ia 2 (.t 124) (.t 125)),
                .op .none 127 (.fa 1 (.t 126)),
                .op .none 128 (.ld false 1 (.t 127)),
                .op .none 129 (.mv (.t 6)),
                .op .none 130 (.ia 5 (.t 128) (.t 129)),
                .op .none 131 (.ld true 5 (.t 130)),
                .op .none 7 (.alloc true [(.w (.int .i64 0)), (.w (.string ⟨#[]⟩)), (.sl 1 []), (.w (.int .i64 0)), (.sl 1 [])]),
                .store .none true 5 (.t 7) (.t 131)]) <|
              .seq (.reg false [.op .none 132 (.mv (.t 3)),
                .op .none 133 (.fa 1 (.t 7)),
                .op .none 134 (.ld false 1 (.t 133)),
                .op .none 135 (.len true (.t 134)),
                .op .none 136 (.fa 2 (.t 7)),
                .op .none 137 (.ld false 1 (.t 136)),
                .op .none 138 (.len false (.t 137)),
                .op .none 139 (.bin .add (.t 135) (.t 138)),
                .op .none 140 (.fa 4 (.t 7)),
                .op .none 141 (.ld false 1 (.t 140)),
                .op .none 142 (.len false (.t 141)),
                .op .none 143 (.bin .add (.t 139) (.t 142)),
                .op .none 144 (.bin .add (.t 132) (.t 143)),
                .op .none 3 (.mv (.t 144))]) <|
              .seq (.reg false [.op .none 145 (.fa 2 (.t 7)),
                .op .none 146 (.ld false 1 (.t 145)),
                .op .none 147 (.fa 4 (.t 7)),
                .op .none 148 (.ld false 1 (.t 147)),
                .op .none 149 (.buildS false 1 2 false [(.sl 1 [])] [(0, (.t 146)), (1, (.t 148))]),
                .call .none 150 (.f 23) [(.t 149)]]) <|
              .cond (.t 150)
                (.seq (.reg false [.op .none 2 (.mv (.c (.w (.bool true))))]) <|
                .ret)
                (.skip)) <|
            .reg false [.op .none 121 (.mv (.t 6)),
              .op .none 122 (.bin .add (.t 121) (.c (.w (.int .i64 1)))),
              .op .none 6 (.mv (.t 122))]) <|
      .reg false [.op .none 82 (.mv (.t 5)),
        .op .none 83 (.bin .add (.t 82) (.c (.w (.int .i64 1)))),
        .op .none 5 (.mv (.t 83))]) <|
  .seq (.reg false [.op .none 151 (.mv (.t 3)),
    .op .none 152 (.bin .geq (.t 151) (.c (.w (.int .i64 8192)))),
    .op .none 2 (.mv (.t 152))]) <|
  .ret
theorem k8 : FnCode Try.prog 8 [71] 153 [2] c8 := ⟨Try.f8, Try.func8, fun xs W => Try.call8 xs W, by kernel_rfl, by kernel_rfl, by kernel_rfl⟩

/-- ablaut/ablautlaw28.overUnits -/
def c9 : MC :=
  .seq (.reg false [.op .none 2 (.mv (.c (.w (.bool false))))]) <|
  .seq (.reg false [.op .none 5 (.mv (.t 0)),
    .op .none 6 (.len false (.t 5)),
    .op .none 3 (.mv (.t 6))]) <|
  .seq (.seq (.reg false [.op .none 4 (.mv (.c (.w (.int .i64 0))))]) <|
  .block 0 <|
    .loop <|
      .seq (.seq (.reg false [.op .none 7 (.mv (.t 4)),
        .op .none 8 (.mv (.t 0)),
        .op .none 9 (.len false (.t 8)),
        .op .none 10 (.bin .lss (.t 7) (.t 9)),
        .op .none 11 (.mv (.t 10)),
        .op (.some (11, true)) 12 (.mv (.t 3)),
        .op (.some (11, true)) 13 (.bin .lss (.t 12) (.c (.w (.int .i64 8192)))),
        .op .none 14 (.pick (.t 11) (.t 13) (.c (.w (.bool false))))]) <|
      .cond (.t 14)
        (.skip)
        (.exit 0)) <|
      .seq (.block 1 <|
        .seq (.reg true [.op .none 17 (.mv (.t 3)),
          .op .none 18 (.mv (.t 0)),
          .op .none 19 (.mv (.t 4)),
          .op .none 20 (.ia 2 (.t 18) (.t 19)),
          .op .none 21 (.fa 0 (.t 20)),
          .op .none 22 (.ld false 1 (.t 21)),
          .op .none 23 (.len true (.t 22)),
          .op .none 24 (.mv (.t 0)),
          .op .none 25 (.mv (.t 4)),
          .op .none 26 (.ia 2 (.t 24) (.t 25)),
          .op .none 27 (.fa 1 (.t 26)),
          .op .none 28 (.ld false 1 (.t 27)),
          .op .none 29 (.len false (.t 28)),
          .op .none 30 (.bin .add (.t 23) (.t 29)),
          .op .none 31 (.bin .add (.t 17) (.t 30)),
          .op .none 3 (.mv (.t 31))]) <|
        .seq (.reg false [.op .none 32 (.mv (.t 0)),
          .op .none 33 (.mv (.t 4)),
          .op .none 34 (.ia 2 (.t 32) (.t 33)),
          .op .none 35 (.fa 1 (.t 34)),
          .op .none 36 (.ld false 1 (.t 35)),
          .op .none 37 (.buildS false 1 1 false [(.sl 1 [])] [(0, (.t 36))]),
          .call .none 38 (.f 23) [(.t 37)]]) <|
        .cond (.t 38)
          (.seq (.reg false [.op .none 2 (.mv (.c (.w (.bool true))))]) <|
          .ret)
          (.skip)) <|
      .reg false [.op .none 15 (.mv (.t 4)),
        .op .none 16 (.bin .add (.t 15) (.c (.w (.int .i64 1)))),
        .op .none 4 (.mv (.t 16))]) <|
  .seq (.reg false [.op .none 39 (.mv (.t 3)),
    .op .none 40 (.bin .geq (.t 39) (.c (.w (.int .i64 8192)))),
    .op .none 2 (.mv (.t 40))]) <|
  .ret
theorem k9 : FnCode Try.prog 9 [] 41 [2] c9 := ⟨Try.f9, Try.func9, fun xs W => Try.call9 xs W, by kernel_rfl, by kernel_rfl, by kernel_rfl⟩

theorem fok14 (l : List UnitT) (hl : l.length ≤ 200000000000000) (hs : ∀ u ∈ l, unitS u) : FOk Try.prog 14 [.v (.sl 2 (l.map unitV))] [] (.I (unitsF l)) [] := by
  refine FOk.val k14 (by simp) (by simp) (by decide) ?_
  by_cases c1 : 200 < l.length
  · simp [c14, c1]
    exact Ends.v rfl (by simp [unitsF, c1])
  simp only [unitsF, c1, if_false]
  simp [c14, c1]
  refine Run.loopA (ι := Nat) [] (fun i => i ≤ l.length ∧ ∀ s ∈ l.take i, unitLng s = false) (fun i => ⟨[(0, .v (.sl 2 (l.map unitV))), (3, .I i)], [], 1024⟩) (fun i => l.length - i) 0 (by decide) (by simp) (by simp) ?_
  rintro i ⟨hi, hno⟩ ih
  by_cases h : i < l.length
  · have hu := hs _ (List.getElem_mem h)
    have hyes := any_at unitLng l h
    have hnext := any_take unitLng l h hno
    generalize hx : l[i] = s at hu hyes hnext
    obtain ⟨b, t, u⟩ := s
    have c3 := fok46 t hu.1.1
    rw [unitLng_eq] at hyes hnext
    generalize lngW t = x1 at c3 hyes hnext
    by_cases d : 400 < b.length
    · simp (disch := omega) [h, wrap_i64, hx, unitV, d]
      exact Ends.v rfl (by simp [hyes (by simp [d])])
    simp (disch := omega) [h, wrap_i64, hx, unitV, d]
    refine CallG.lent rfl rfl rfl rfl c3 rfl ?_
    cases x1
    · simp (disch := omega) [wrap_i64]
      exact ih (i + 1) _ ⟨by omega, hnext (by simp [d])⟩ (by omega) (by simp)
    · simp (disch := omega) [wrap_i64]
      exact Ends.v rfl (by simp [hyes (by simp)])
  have hiR : i = l.length := by omega
  subst hiR
  rw [List.take_length] at hno
  rw [any_end unitLng l hno]
  clear ih h hno
  simp
  refine Run.loopA (ι := Nat) [] (fun i => i ≤ l.length ∧ ∀ s ∈ l.take i, unitBad s = false) (fun i => ⟨[(0, .v (.sl 2 (l.map unitV))), (4, .I i)], [], 1024⟩) (fun i => l.length - i) 0 (by decide) (by simp) (by simp) ?_
  rintro i ⟨hi, hno⟩ ih
  by_cases h : i < l.length
  · have hu := hs _ (List.getElem_mem h)
    have hyes := any_at unitBad l h
    have hnext := any_take unitBad l h hno
    generalize hx : l[i] = s at hu hyes hnext
    obtain ⟨b, t, u⟩ := s
    have c3 := fok55 t hu.1
    have c4 := fok56 b hu.2
    simp only [unitBad] at hyes hnext
    generalize isNms [] t = x1 at c3 hyes hnext
    generalize isPl b = x2 at c4 hyes hnext
    simp (disch := omega) [h, wrap_i64, hx, unitV]
    refine CallG.lent rfl rfl rfl rfl c3 rfl ?_
    cases x1
    · simp (disch := omega) [wrap_i64]
      exact Ends.v rfl (by simp [hyes (by simp)])
    simp (disch := omega) [h, wrap_i64, hx, unitV]
    refine CallG.lent rfl rfl rfl rfl c4 rfl ?_
    cases x2
    · simp (disch := omega) [wrap_i64]
      exact Ends.v rfl (by simp [hyes (by simp)])
    simp (disch := omega) [wrap_i64]
    exact ih (i + 1) _ ⟨by omega, hnext (by simp)⟩ (by omega) (by simp)
  · have hiR : i = l.length := by omega
    subst hiR
    rw [List.take_length] at hno
    rw [any_end unitBad l hno]
    simp
    exact Ends.v rfl (by simp)
/-! What the laws say nothing about. -/
def lgW : List Bs → Nat → Nat
  | [], n => n
  | s :: w, n => if n ≤ 16384 then lgW w (n + (1 + s.length)) else n
def lgL : List (List Bs) → Nat → Nat
  | [], n => n
  | w :: l, n => if n ≤ 16384 then lgL l (lgW w n) else n
theorem lgW_le : ∀ (w : List Bs) (n : Nat), (∀ s ∈ w, smB s) → n ≤ 200000000020000 → lgW w n ≤ 200000000020000
  | [], n, _, h => h
  | s :: w, n, hs, h => by
    have : s.length ≤ 200000000000000 := hs s (by simp)
    simp only [lgW]
    split
    · exact lgW_le w _ (fun s h => hs s (by simp [h])) (by omega)
    · exact h
theorem fok23 (L : List (List Bs)) (hl : L.length ≤ 200000000000000) (hw : ∀ w ∈ L, wordS w) : FOk Try.prog 23 [.v (wordsV L)] [] (.B (decide (16384 < lgL L 0))) [] := by
  refine FOk.val k23 (by simp) (by simp) (by decide) ?_
  simp [c23, wordsV]
  refine Run.loopA (ι := Nat × Nat) [] (fun p => p.1 ≤ L.length ∧ p.2 ≤ 200000000020000 ∧ lgL (L.drop p.1) p.2 = lgL L 0) (fun p => ⟨[(0, .v (.sl 1 (L.map PV.word))), (3, .I p.2), (4, .I p.1)], [], 1024⟩) (fun p => L.length - p.1) (0, 0) (by decide) (by simp) ⟨by simp, by simp, by simp⟩ ?_
  rintro ⟨i, n⟩ ⟨hi, hn, hall⟩ ih
  simp only at hi hn hall ih
  by_cases h : i < L.length
  · rw [drop_at h] at hall
    simp only [lgL] at hall
    by_cases hc : n ≤ 16384
    · rw [if_pos hc] at hall
      have hwi := hw _ (List.getElem_mem h)
      have hle := lgW_le L[i] n hwi.2 (by omega)
      have hw1 := hwi.1
      simp (disch := omega) [h, wrap_i64, hc]
      refine Run.loopA (ι := Nat × Nat) [] (fun p => p.1 ≤ L[i].length ∧ p.2 ≤ 200000000020000 ∧ lgW (L[i].drop p.1) p.2 = lgW L[i] n) (fun p => ⟨[(0, .v (.sl 1 (L.map PV.word))), (3, .I p.2), (4, .I i), (5, .I p.1)], [], 1024⟩) (fun p => L[i].length - p.1) (0, n) (by decide) (by simp) ⟨by simp, by simpa using hn, by simp⟩ ?_
      rintro ⟨k, m⟩ ⟨hk, hm, hin⟩ ih2
      simp only at hk hm hin ih2
      have hend : ∀ m', m' = lgW L[i] n → lgL (L.drop (i + 1)) m' = lgL L 0 := fun m' e => by rw [e]; exact hall
      by_cases h2 : k < L[i].length
      · rw [drop_at h2] at hin
        simp only [lgW] at hin
        by_cases hc2 : m ≤ 16384
        · rw [if_pos hc2] at hin
          have hs : L[i][k].length ≤ 200000000000000 := hwi.2 _ (List.getElem_mem h2)
          simp (disch := omega) [h, h2, wrap_i64, hc2]
          exact ih2 (k + 1, m + (1 + L[i][k].length)) _ ⟨by simp; omega, by simp; omega, by simpa using hin⟩ (by simp; omega) (by simp)
        · rw [if_neg hc2] at hin
          simp (disch := omega) [h, h2, wrap_i64, hc2]
          exact ih (i + 1, m) _ ⟨by simp; omega, by simpa using hm, by simpa using hend m hin⟩ (by simp; omega) (by simp)
      · rw [drop_no h2] at hin
        simp only [lgW] at hin
        simp (disch := omega) [h, h2, wrap_i64]
        exact ih (i + 1, m) _ ⟨by simp; omega, by simpa using hm, by simpa using hend m hin⟩ (by simp; omega) (by simp)
    · rw [if_neg hc] at hall
      rw [← hall]
      simp (disch := omega) [h, wrap_i64, hc]
      exact Ends.v rfl (by simp)
  · rw [drop_no h] at hall
    simp only [lgL] at hall
    rw [← hall]
    simp [h]
    exact Ends.v rfl (by simp)

def ovT : List TurnT → Nat → Option Nat
  | [], n => some n
  | r :: l, n => if n < 8192 then (if 16384 < lgL [r.2.1, r.2.2.2.1] 0 then none else ovT l (n + (r.1.length + r.2.2.1.length + r.2.1.length + r.2.2.2.1.length))) else some n
def ovO : List SlotT → Nat → Option Nat
  | [], n => some n
  | s :: l, n => if n < 8192 then (if 16384 < lgL [s.2.2.1, s.2.2.2.2.1] 0 then none else ovO l (n + (s.2.1.length + s.2.2.1.length + s.2.2.2.2.1.length))) else some n
def ovS : List ShufT → Nat → Option Nat
  | [], n => some n
  | r :: l, n => if n < 8192 then (if 16384 < lgL r.1 0 then none else match ovO r.2.1 (n + (r.1.length + r.2.1.length)) with | some m => ovS l m | none => none) else some n
def ovU : List UnitT → Nat → Option Nat
  | [], n => some n
  | s :: l, n => if n < 8192 then (if 16384 < lgL [s.2.1] 0 then none else ovU l (n + (s.1.length + s.2.1.length))) else some n
def endN : Option Nat → Bool
  | some n => decide (8192 ≤ n)
  | none => true
def overF (b : BrT) : Bool := match ovT b.1 (b.1.length + b.2.1.length) with
  | some n => endN (ovS b.2.1 n)
  | none => true
theorem fok9 (l : List UnitT) (hl : l.length ≤ 200000000000000) (hs : ∀ u ∈ l, unitS u) : FOk Try.prog 9 [.v (.sl 2 (l.map unitV))] [] (.B (endN (ovU l l.length))) [] := by
  refine FOk.val k9 (by simp) (by simp) (by decide) ?_
  simp [c9]
  refine Run.loopA (ι := Nat × Nat) [] (fun p => p.1 ≤ l.length ∧ p.2 ≤ 1000000000000000 ∧ ovU (l.drop p.1) p.2 = ovU l l.length) (fun p => ⟨[(0, .v (.sl 2 (l.map unitV))), (3, .I p.2), (4, .I p.1)], [], 1024⟩) (fun p => l.length - p.1) (0, l.length) (by decide) (by simp) ⟨by simp, by simp; omega, by simp⟩ ?_
  rintro ⟨i, n⟩ ⟨hi, hn, hall⟩ ih
  simp only at hi hn hall ih
  by_cases h : i < l.length
  · rw [drop_at h] at hall
    simp only [ovU] at hall
    by_cases hc : n < 8192
    · rw [if_pos hc] at hall
      have hu := hs _ (List.getElem_mem h)
      generalize hx : l[i] = s at hu hall
      obtain ⟨b, t, u⟩ := s
      obtain ⟨⟨u1, u2⟩, u3⟩ := hu
      simp only at u1 u2 u3 hall
      have u3' : b.length ≤ 200000000000000 := u3
      have c3 := fok23 [t] (by simp) (by simp; exact ⟨u1, u2⟩)
      simp only [wordsV, List.map_cons, List.map_nil] at c3
      simp (disch := omega) [h, wrap_i64, hc, hx, unitV]
      refine CallG.lent rfl rfl rfl rfl c3 rfl ?_
      by_cases c4 : 16384 < lgL [t] 0
      · rw [if_pos c4] at hall
        rw [← hall]
        simp (disch := omega) [wrap_i64, c4]
        exact Ends.v rfl (by simp [endN])
      · rw [if_neg c4] at hall
        simp (disch := omega) [wrap_i64, c4]
        exact ih (i + 1, n + (b.length + t.length)) _ ⟨by simp; omega, by simp; omega, by simpa using hall⟩ (by simp; omega) (by simp)
    · rw [if_neg hc] at hall
      rw [← hall]
      simp (disch := omega) [h, wrap_i64, hc]
      exact Ends.v rfl (by simp [endN])
  · rw [drop_no h] at hall
    simp only [ovU] at hall
    rw [← hall]
    simp [h]
    exact Ends.v rfl (by simp [endN])
theorem fok8 (b : BrT) (hb : brS b) : FOk Try.prog 8 [.v (brV b)] [] (.B (overF b)) [] := by
  obtain ⟨R, S, u⟩ := b
  obtain ⟨b1, b2, b3, b4⟩ := hb
  simp only at b1 b2 b3 b4
  refine FOk.val k8 (by simp) (by simp) (by decide) ?_
  simp (disch := omega) [c8, brV, wrap_i64]
  refine Run.loopA (ι := Nat × Nat) [(1, 1)] (fun p => p.1 ≤ R.length ∧ p.2 ≤ 1000000000000000 ∧ ovT (R.drop p.1) p.2 = ovT R (R.length + S.length)) (fun p => ⟨[(1, .ptr 1 0 0), (3, .I p.2), (4, .I p.1)], [(1, ⟨false, 2, [brV (R, S, u)]⟩)], 1024⟩) (fun p => R.length - p.1) (0, R.length + S.length) (by decide) (by simp [brV]) ⟨by simp, by simp; omega, by simp⟩ ?_
  rintro ⟨i, n⟩ ⟨hi, hn, hall⟩ ih
  simp only at hi hn hall ih
  by_cases h : i < R.length ∧ n < 8192
  · obtain ⟨h, hc⟩ := h
    rw [drop_at h] at hall
    simp only [ovT] at hall
    rw [if_pos hc] at hall
    have hu := b2 _ (List.getElem_mem h)
    generalize hx : R[i] = s at hu hall
    obtain ⟨f, ii, t, p, u⟩ := s
    obtain ⟨u1, u2, u3, u4⟩ := hu
    simp only at u1 u2 u3 u4 hall
    have u1' := u1.1
    have u2' := u2.1
    have u3' : f.length ≤ 200000000000000 := u3
    have u4' : t.length ≤ 200000000000000 := u4
    have c3 := fok23 [ii, p] (by simp) (by simp; exact ⟨u1, u2⟩)
    simp only [wordsV, List.map_cons, List.map_nil] at c3
    simp (disch := omega) [h, wrap_i64, hc, hx, turnV, brV]
    refine CallG.lent rfl rfl rfl rfl c3 rfl ?_
    by_cases c4 : 16384 < lgL [ii, p] 0
    · rw [if_pos c4] at hall
      simp (disch := omega) [wrap_i64, c4]
      exact Ends.v rfl (by simp [overF, ← hall])
    · rw [if_neg c4] at hall
      simp (disch := omega) [wrap_i64, c4]
      exact ih (i + 1, n + (f.length + t.length + ii.length + p.length)) _ ⟨by simp; omega, by simp; omega, by simpa using hall⟩ (by simp; omega) (by simp [brV])
  have hE : ovT R (R.length + S.length) = some n := by
    rw [← hall]
    by_cases h1 : i < R.length
    · rw [drop_at h1]
      simp only [ovT]
      rw [if_neg (fun q => h ⟨h1, q⟩)]
    · rw [drop_no h1]; rfl
  have hF : overF (R, S, u) = endN (ovS S n) := by simp [overF, hE]
  rw [hF] at ih ⊢
  clear hall hE hF ih
  have hst : (i < R.length ∧ ¬ n < 8192) ∨ ¬ i < R.length := by omega
  rcases hst with ⟨h1, h2⟩ | h1
  case' inl => simp (disch := omega) [h1, h2, wrap_i64, brV]
  case' inr => simp (disch := omega) [h1, wrap_i64, brV]
  all_goals
    clear h1 h
    refine Run.loopA (ι := Nat × Nat) [(1, 1)] (fun p => p.1 ≤ S.length ∧ p.2 ≤ 1000000000000000 ∧ ovS (S.drop p.1) p.2 = ovS S n) (fun p => ⟨[(1, .ptr 1 0 0), (3, .I p.2), (5, .I p.1)], [(1, ⟨false, 2, [brV (R, S, u)]⟩)], 1024⟩) (fun p => S.length - p.1) (0, n) (by decide) (by simp [brV]) ⟨by simp, by simpa using hn, by simp⟩ ?_
    rintro ⟨j, m⟩ ⟨hj, hm, hall⟩ ih
    simp only at hj hm hall ih
    by_cases h : j < S.length
    · rw [drop_at h] at hall
      simp only [ovS] at hall
      by_cases hc : m < 8192
      · rw [if_pos hc] at hall
        have hu := b4 _ (List.getElem_mem h)
        generalize hx : S[j] = s at hu hall
        obtain ⟨p, o, u2⟩ := s
        obtain ⟨u1, u2, u3, u4⟩ := hu
        simp only at u1 u2 u3 u4 hall
        have c3 := fok23 p u1 u2
        simp only [wordsV] at c3
        simp (disch := omega) [h, wrap_i64, hc, hx, shufV, wordsV, brV]
        refine CallG.lent rfl rfl rfl rfl c3 rfl ?_
        by_cases c4 : 16384 < lgL p 0
        · rw [if_pos c4] at hall
          rw [← hall]
          simp (disch := omega) [wrap_i64, c4]
          exact Ends.v rfl (by simp [endN])
        rw [if_neg c4] at hall
        simp (disch := omega) [wrap_i64, c4]
        refine Run.loopA (ι := Nat × Nat) [(1, 1)] (fun q => q.1 ≤ o.length ∧ q.2 ≤ 1000000000000000 ∧ ovO (o.drop q.1) q.2 = ovO o (m + (p.length + o.length))) (fun q => ⟨[(1, .ptr 1 0 0), (3, .I q.2), (5, .I j), (6, .I q.1)], [(1, ⟨false, 2, [brV (R, S, u)]⟩)], 1024⟩) (fun q => o.length - q.1) (0, m + (p.length + o.length)) (by decide) (by simp [brV]) ⟨by simp, by simp; omega, by simp⟩ ?_
        rintro ⟨k, e⟩ ⟨hk, he, hin⟩ ih2
        simp only at hk he hin ih2
        by_cases g : k < o.length
        · rw [drop_at g] at hin
          simp only [ovO] at hin
          by_cases gc : e < 8192
          · rw [if_pos gc] at hin
            have hu := u4 _ (List.getElem_mem g)
            generalize hy : o[k] = s at hu hin
            obtain ⟨a, b, t, f, kk, u5⟩ := s
            obtain ⟨v1, v2, v3⟩ := hu
            simp only at v1 v2 v3 hin
            have v1' := v1.1
            have v2' := v2.1
            have v3' : b.length ≤ 200000000000000 := v3
            have c5 := fok23 [t, kk] (by simp) (by simp; exact ⟨v1, v2⟩)
            simp only [wordsV, List.map_cons, List.map_nil] at c5
            simp (disch := omega) [h, g, wrap_i64, gc, hx, hy, shufV, slotV, brV]
            refine CallG.lent rfl rfl rfl rfl c5 rfl ?_
            by_cases c6 : 16384 < lgL [t, kk] 0
            · rw [if_pos c6] at hin
              rw [← hin] at hall
              simp only at hall
              rw [← hall]
              simp (disch := omega) [wrap_i64, c6]
              exact Ends.v rfl (by simp [endN])
            · rw [if_neg c6] at hin
              simp (disch := omega) [wrap_i64, c6]
              exact ih2 (k + 1, e + (b.length + t.length + kk.length)) _ ⟨by simp; omega, by simp; omega, by simpa using hin⟩ (by simp; omega) (by simp [brV])
          · rw [if_neg gc] at hin
            rw [← hin] at hall
            simp only at hall
            simp (disch := omega) [h, g, wrap_i64, gc, hx, shufV, brV]
            exact ih (j + 1, e) _ ⟨by simp; omega, by simpa using he, by simpa using hall⟩ (by simp; omega) (by simp [brV])
        · rw [drop_no g] at hin
          simp only [ovO] at hin
          rw [← hin] at hall
          simp only at hall
          simp (disch := omega) [h, g, wrap_i64, hx, shufV, brV]
          exact ih (j + 1, e) _ ⟨by simp; omega, by simpa using he, by simpa using hall⟩ (by simp; omega) (by simp [brV])
      · rw [if_neg hc] at hall
        rw [← hall]
        simp (disch := omega) [h, wrap_i64, hc, brV]
        exact Ends.v rfl (by simp [endN])
    · rw [drop_no h] at hall
      simp only [ovS] at hall
      rw [← hall]
      simp [h, brV]
      exact Ends.v rfl (by simp [endN])

end Go.Proofs
