/- The walk. -/
import Derived.Test.YtlhpjeckaepdlaaTr12
import Derived.Test.YtlhpjeckaepdlaaProg
import Derived.KernelRfl
set_option linter.all false
set_option maxHeartbeats 2000000
namespace Go.Proofs
open Go Go.AM
attribute [local irreducible] Run Ends
/-- ablaut/ablautref28.Validate -/
def c12 : MC :=
  .seq (.reg false [.op .none 1 (.box false (.t 0)),
    .op .none 2 (.mv (.c (.w (.int .i64 0))))]) <|
  .seq (.seq (.reg false [.op .none 10 (.fa 0 (.t 1)),
    .op .none 11 (.ld false 1 (.t 10)),
    .op .none 12 (.len false (.t 11)),
    .op .none 13 (.bin .gtr (.t 12) (.c (.w (.int .i64 300)))),
    .op .none 14 (.mv (.t 13)),
    .op (.some (14, false)) 15 (.fa 1 (.t 1)),
    .op (.some (14, false)) 16 (.ld false 1 (.t 15)),
    .op (.some (14, false)) 17 (.len false (.t 16)),
    .op (.some (14, false)) 18 (.bin .gtr (.t 17) (.c (.w (.int .i64 24)))),
    .op .none 19 (.pick (.t 14) (.c (.w (.bool true))) (.t 18))]) <|
  .cond (.t 19)
    (.seq (.reg false [.op .none 2 (.mv (.c (.w (.int .i64 3))))]) <|
    .ret)
    (.skip)) <|
  .seq (.seq (.reg false [.op .none 3 (.mv (.c (.w (.int .i64 0))))]) <|
  .block 0 <|
    .loop <|
      .seq (.seq (.reg false [.op .none 20 (.mv (.t 3)),
        .op .none 21 (.fa 0 (.t 1)),
        .op .none 22 (.ld false 1 (.t 21)),
        .op .none 23 (.len false (.t 22)),
        .op .none 24 (.bin .lss (.t 20) (.t 23))]) <|
      .cond (.t 24)
        (.skip)
        (.exit 0)) <|
      .seq (.block 1 <|
        .seq (.reg false [.op .none 27 (.fa 0 (.t 1)),
          .op .none 28 (.ld false 1 (.t 27)),
          .op .none 29 (.mv (.t 3)),
          .op .none 30 (.ia 4 (.t 28) (.t 29)),
          .op .none 31 (.ld true 4 (.t 30)),
          .op .none 4 (.alloc true [(.w (.string ⟨#[]⟩)), (.sl 1 []), (.w (.string ⟨#[]⟩)), (.sl 1 [])]),
          .store .none true 4 (.t 4) (.t 31)]) <|
        .seq (.reg false [.op .none 32 (.fa 0 (.t 4)),
          .op .none 33 (.ld false 1 (.t 32)),
          .op .none 34 (.len true (.t 33)),
          .op .none 35 (.bin .gtr (.t 34) (.c (.w (.int .i64 400)))),
          .op .none 36 (.mv (.t 35)),
          .op (.some (36, false)) 37 (.fa 2 (.t 4)),
          .op (.some (36, false)) 38 (.ld false 1 (.t 37)),
          .op (.some (36, false)) 39 (.len true (.t 38)),
          .op (.some (36, false)) 40 (.bin .gtr (.t 39) (.c (.w (.int .i64 400)))),
          .op .none 41 (.pick (.t 36) (.c (.w (.bool true))) (.t 40)),
          .op .none 42 (.mv (.t 41)),
          .op (.some (42, false)) 43 (.fa 1 (.t 4)),
          .op (.some (42, false)) 44 (.ld false 1 (.t 43)),
          .call (.some (42, false)) 45 (.f 46) [(.t 44)],
          .op .none 46 (.pick (.t 42) (.c (.w (.bool true))) (.t 45)),
          .op .none 47 (.mv (.t 46)),
          .op (.some (47, false)) 48 (.fa 3 (.t 4)),
          .op (.some (47, false)) 49 (.ld false 1 (.t 48)),
          .call (.some (47, false)) 50 (.f 46) [(.t 49)],
          .op .none 51 (.pick (.t 47) (.c (.w (.bool true))) (.t 50))]) <|
        .cond (.t 51)
          (.seq (.reg false [.op .none 2 (.mv (.c (.w (.int .i64 3))))]) <|
          .ret)
          (.skip)) <|
      .reg false [.op .none 25 (.mv (.t 3)),
        .op .none 26 (.bin .add (.t 25) (.c (.w (.int .i64 1)))),
        .op .none 3 (.mv (.t 26))]) <|
  .seq (.seq (.reg false [.op .none 5 (.mv (.c (.w (.int .i64 0))))]) <|
  .block 2 <|
    .loop <|
      .seq (.seq (.reg false [.op .none 52 (.mv (.t 5)),
        .op .none 53 (.fa 1 (.t 1)),
        .op .none 54 (.ld false 1 (.t 53)),
        .op .none 55 (.len false (.t 54)),
        .op .none 56 (.bin .lss (.t 52) (.t 55))]) <|
      .cond (.t 56)
        (.skip)
        (.exit 2)) <|
      .seq (.block 3 <|
        .seq (.reg false [.op .none 59 (.fa 1 (.t 1)),
          .op .none 60 (.ld false 1 (.t 59)),
          .op .none 61 (.mv (.t 5)),
          .op .none 62 (.ia 2 (.t 60) (.t 61)),
          .op .none 63 (.ld true 2 (.t 62)),
          .call .none 64 (.f 47) [(.t 63)]]) <|
        .cond (.t 64)
          (.seq (.reg false [.op .none 2 (.mv (.c (.w (.int .i64 3))))]) <|
          .ret)
          (.skip)) <|
      .reg false [.op .none 57 (.mv (.t 5)),
        .op .none 58 (.bin .add (.t 57) (.c (.w (.int .i64 1)))),
        .op .none 5 (.mv (.t 58))]) <|
  .seq (.seq (.reg false [.op .none 6 (.mv (.c (.w (.int .i64 0))))]) <|
  .block 4 <|
    .loop <|
      .seq (.seq (.reg false [.op .none 65 (.mv (.t 6)),
        .op .none 66 (.fa 0 (.t 1)),
        .op .none 67 (.ld false 1 (.t 66)),
        .op .none 68 (.len false (.t 67)),
        .op .none 69 (.bin .lss (.t 65) (.t 68))]) <|
      .cond (.t 69)
        (.skip)
        (.exit 4)) <|
      .seq (.block 5 <|
        .seq (.reg false [.op .none 72 (.fa 0 (.t 1)),
          .op .none 73 (.ld false 1 (.t 72)),
          .op .none 74 (.mv (.t 6)),
          .op .none 75 (.ia 4 (.t 73) (.t 74)),
          .op .none 76 (.ld true 4 (.t 75)),
          .call .none 77 (.f 48) [(.t 76)],
          .op .none 78 (.un .not (.t 77))]) <|
        .cond (.t 78)
          (.seq (.reg false [.op .none 2 (.mv (.c (.w (.int .i64 1))))]) <|
          .ret)
          (.skip)) <|
      .reg false [.op .none 70 (.mv (.t 6)),
        .op .none 71 (.bin .add (.t 70) (.c (.w (.int .i64 1)))),
        .op .none 6 (.mv (.t 71))]) <|
  .seq (.seq (.reg false [.op .none 7 (.mv (.c (.w (.int .i64 0))))]) <|
  .block 6 <|
    .loop <|
      .seq (.seq (.reg false [.op .none 79 (.mv (.t 7)),
        .op .none 80 (.fa 1 (.t 1)),
        .op .none 81 (.ld false 1 (.t 80)),
        .op .none 82 (.len false (.t 81)),
        .op .none 83 (.bin .lss (.t 79) (.t 82))]) <|
      .cond (.t 83)
        (.skip)
        (.exit 6)) <|
      .seq (.block 7 <|
        .seq (.reg false [.op .none 86 (.fa 1 (.t 1)),
          .op .none 87 (.ld false 1 (.t 86)),
          .op .none 88 (.mv (.t 7)),
          .op .none 89 (.ia 2 (.t 87) (.t 88)),
          .op .none 90 (.ld true 2 (.t 89)),
          .call .none 91 (.f 49) [(.t 90)],
          .op .none 92 (.un .not (.t 91))]) <|
        .cond (.t 92)
          (.seq (.reg false [.op .none 2 (.mv (.c (.w (.int .i64 1))))]) <|
          .ret)
          (.skip)) <|
      .reg false [.op .none 84 (.mv (.t 7)),
        .op .none 85 (.bin .add (.t 84) (.c (.w (.int .i64 1)))),
        .op .none 7 (.mv (.t 85))]) <|
  .seq (.seq (.reg false [.op .none 8 (.mv (.c (.w (.int .i64 0))))]) <|
  .block 8 <|
    .loop <|
      .seq (.seq (.reg false [.op .none 93 (.mv (.t 8)),
        .op .none 94 (.fa 0 (.t 1)),
        .op .none 95 (.ld false 1 (.t 94)),
        .op .none 96 (.len false (.t 95)),
        .op .none 97 (.bin .lss (.t 93) (.t 96))]) <|
      .cond (.t 97)
        (.skip)
        (.exit 8)) <|
      .seq (.block 9 <|
        .seq (.reg false [.op .none 9 (.mv (.c (.w (.int .i64 0))))]) <|
        .block 10 <|
          .loop <|
            .seq (.seq (.reg false [.op .none 100 (.mv (.t 9)),
              .op .none 101 (.mv (.t 8)),
              .op .none 102 (.bin .lss (.t 100) (.t 101))]) <|
            .cond (.t 102)
              (.skip)
              (.exit 10)) <|
            .seq (.block 11 <|
              .seq (.reg true [.op .none 105 (.fa 0 (.t 1)),
                .op .none 106 (.ld false 1 (.t 105)),
                .op .none 107 (.mv (.t 8)),
                .op .none 108 (.ia 4 (.t 106) (.t 107)),
                .op .none 109 (.fa 0 (.t 108)),
                .op .none 110 (.ld false 1 (.t 109)),
                .op .none 111 (.fa 0 (.t 1)),
                .op .none 112 (.ld false 1 (.t 111)),
                .op .none 113 (.mv (.t 9)),
                .op .none 114 (.ia 4 (.t 112) (.t 113)),
                .op .none 115 (.fa 0 (.t 114)),
                .op .none 116 (.ld false 1 (.t 115)),
                .op .none 117 (.bin .eql (.t 110) (.t 116)),
                .op .none 118 (.mv (.t 117)),
                .op (.some (118, true)) 119 (.fa 0 (.t 1)),
                .op (.some (118, true)) 120 (.ld false 1 (.t 119)),
                .op (.some (118, true)) 121 (.mv (.t 8)),
                .op (.some (118, true)) 122 (.ia 4 (.t 120) (.t 121)),
                .op (.some (118, true)) 123 (.fa 1 (.t 122)),
                .op (.some (118, true)) 124 (.ld false 1 (.t 123)),
                .op (.some (118, true)) 125 (.fa 0 (.t 1)),
                .op (.some (118, true)) 126 (.ld false 1 (.t 125)),
                .op (.some (118, true)) 127 (.mv (.t 9)),
                .op (.some (118, true)) 128 (.ia 4 (.t 126) (.t 127)),
                .op (.some (118, true)) 129 (.fa 1 (.t 128)),
                .op (.some (118, true)) 130 (.ld false 1 (.t 129)),
                .call (.some (118, true)) 131 (.f 50) [(.t 124), (.t 130)],
                .op .none 132 (.pick (.t 118) (.t 131) (.c (.w (.bool false))))]) <|
              .cond (.t 132)
                (.seq (.reg false [.op .none 2 (.mv (.c (.w (.int .i64 5))))]) <|
                .ret)
                (.skip)) <|
            .reg false [.op .none 103 (.mv (.t 9)),
              .op .none 104 (.bin .add (.t 103) (.c (.w (.int .i64 1)))),
              .op .none 9 (.mv (.t 104))]) <|
      .reg false [.op .none 98 (.mv (.t 8)),
        .op .none 99 (.bin .add (.t 98) (.c (.w (.int .i64 1)))),
        .op .none 8 (.mv (.t 99))]) <|
  .seq (.reg false [.op .none 2 (.mv (.c (.w (.int .i64 0))))]) <|
  .ret
theorem k12 : FnCode Try.prog 12 [] 133 [2] c12 := ⟨Try.f12, Try.func12, fun xs W => Try.call12 xs W, by kernel_rfl, by kernel_rfl, by kernel_rfl⟩

theorem fok12 (b : BrT) (hb : brS b) : FOk Try.prog 12 [.v (brV b)] [] (.I (validF b)) [] := by
  obtain ⟨R, S, u⟩ := b
  obtain ⟨b1, b2, b3, b4⟩ := hb
  simp only at b1 b2 b3 b4
  refine FOk.val k12 (by simp) (by simp) (by decide) ?_
  simp only [validF]
  have hE : ∀ {x : Int}, R.any turnBad = true → (if R.any turnBad = true then (1 : Int) else x) = 1 := fun q => if_pos q
  have hE2 : ∀ {x : Int}, S.any ruleBad = true → (if S.any ruleBad = true then (1 : Int) else x) = 1 := fun q => if_pos q
  have hE3 : ∀ {x : Int}, brLng (R, S, u) = true → (if brLng (R, S, u) = true then (3 : Int) else x) = 3 := fun q => if_pos q
  by_cases c1 : 300 < R.length
  · rw [hE3 (by simp [brLng, c1])]
    simp [c12, brV, c1]
    exact Ends.v rfl (by simp)
  by_cases c2 : 24 < S.length
  · rw [hE3 (by simp [brLng, c2])]
    simp [c12, brV, c1, c2]
    exact Ends.v rfl (by simp)
  have e : brLng (R, S, u) = (R.any turnLng || S.any shufLng) := by simp only [brLng, c1, c2]; simp
  rw [e] at hE3 ⊢
  clear e
  simp [c12, brV, c1, c2]
  refine Run.loopA (ι := Nat) [(1, 1)] (fun i => i ≤ R.length ∧ ∀ s ∈ R.take i, turnLng s = false) (fun i => ⟨[(1, .ptr 1 0 0), (3, .I i)], [(1, ⟨false, 2, [brV (R, S, u)]⟩)], 1024⟩) (fun i => R.length - i) 0 (by decide) (by simp [brV]) (by simp) ?_
  rintro i ⟨hi, hno⟩ ih
  by_cases h : i < R.length
  · have hs := b2 _ (List.getElem_mem h)
    have hyes := any_at turnLng R h
    have hnext := any_take turnLng R h hno
    generalize hx : R[i] = r at hs hyes hnext
    obtain ⟨f, ii, t, p, u2⟩ := r
    have k1 := fok46 ii hs.1.1
    have k2 := fok46 p hs.2.1.1
    rw [turnLng_eq] at hyes hnext
    generalize lngW ii = x1 at k1 hyes hnext
    generalize lngW p = x2 at k2 hyes hnext
    by_cases d1 : 400 < f.length
    · rw [hE3 (by rw [hyes (by simp [d1])]; rfl)]
      simp (disch := omega) [h, wrap_i64, brV, hx, turnV, d1]
      exact Ends.v rfl (by simp)
    by_cases d2 : 400 < t.length
    · rw [hE3 (by rw [hyes (by simp [d2])]; rfl)]
      simp (disch := omega) [h, wrap_i64, brV, hx, turnV, d1, d2]
      exact Ends.v rfl (by simp)
    simp (disch := omega) [h, wrap_i64, brV, hx, turnV, d1, d2]
    refine CallG.lent rfl rfl rfl rfl k1 rfl ?_
    cases x1
    case true =>
      rw [hE3 (by rw [hyes (by simp)]; rfl)]
      simp (disch := omega) [wrap_i64]
      exact Ends.v rfl (by simp)
    simp (disch := omega) [h, wrap_i64]
    refine CallG.lent rfl rfl rfl rfl k2 rfl ?_
    cases x2
    case true =>
      rw [hE3 (by rw [hyes (by simp)]; rfl)]
      simp (disch := omega) [wrap_i64]
      exact Ends.v rfl (by simp)
    simp (disch := omega) [wrap_i64]
    exact ih (i + 1) _ ⟨by omega, hnext (by simp [d1, d2])⟩ (by omega) (by simp [brV])
  have hiR : i = R.length := by omega
  subst hiR
  rw [List.take_length] at hno
  rw [any_end turnLng R hno, Bool.false_or] at hE3 ⊢
  clear ih h hno
  simp [brV]
  refine Run.loopA (ι := Nat) [(1, 1)] (fun i => i ≤ S.length ∧ ∀ s ∈ S.take i, shufLng s = false) (fun i => ⟨[(1, .ptr 1 0 0), (5, .I i)], [(1, ⟨false, 2, [brV (R, S, u)]⟩)], 1024⟩) (fun i => S.length - i) 0 (by decide) (by simp [brV]) (by simp) ?_
  rintro i ⟨hi, hno⟩ ih
  by_cases h : i < S.length
  · have hs := b4 _ (List.getElem_mem h)
    have hyes := any_at shufLng S h
    have hnext := any_take shufLng S h hno
    generalize hx : S[i] = r at hs hyes hnext
    have k1 := fok47 r hs
    generalize shufLng r = x1 at k1 hyes hnext
    obtain ⟨p, o, u2⟩ := r
    simp only [shufV, wordsV] at k1
    simp (disch := omega) [h, wrap_i64, brV, hx, shufV, wordsV]
    refine CallG.lent rfl rfl rfl rfl k1 rfl ?_
    cases x1
    case true =>
      rw [hE3 (hyes rfl)]
      simp (disch := omega) [wrap_i64]
      exact Ends.v rfl (by simp)
    simp (disch := omega) [wrap_i64]
    exact ih (i + 1) _ ⟨by omega, hnext rfl⟩ (by omega) (by simp [brV])
  have hiR : i = S.length := by omega
  subst hiR
  rw [List.take_length] at hno
  rw [any_end shufLng S hno]
  clear ih h hno hE3
  simp [brV]
  refine Run.loopA (ι := Nat) [(1, 1)] (fun i => i ≤ R.length ∧ ∀ s ∈ R.take i, turnBad s = false) (fun i => ⟨[(1, .ptr 1 0 0), (6, .I i)], [(1, ⟨false, 2, [brV (R, S, u)]⟩)], 1024⟩) (fun i => R.length - i) 0 (by decide) (by simp [brV]) (by simp) ?_
  rintro i ⟨hi, hno⟩ ih
  by_cases h : i < R.length
  · have hs := b2 _ (List.getElem_mem h)
    have hyes := any_at turnBad R h
    have hnext := any_take turnBad R h hno
    generalize hx : R[i] = r at hs hyes hnext
    have k1 := fok48 r hs
    generalize turnBad r = x1 at k1 hyes hnext
    obtain ⟨f, ii, t, p, u2⟩ := r
    simp only [turnV] at k1
    simp (disch := omega) [h, wrap_i64, brV, hx, turnV]
    refine CallG.lent rfl rfl rfl rfl k1 rfl ?_
    cases x1
    case true =>
      rw [hE (hyes rfl)]
      simp (disch := omega) [wrap_i64]
      exact Ends.v rfl (by simp)
    simp (disch := omega) [wrap_i64]
    exact ih (i + 1) _ ⟨by omega, hnext rfl⟩ (by omega) (by simp [brV])
  have hiR : i = R.length := by omega
  subst hiR
  rw [List.take_length] at hno
  rw [any_end turnBad R hno]
  clear ih h hno hE
  simp [brV]
  refine Run.loopA (ι := Nat) [(1, 1)] (fun i => i ≤ S.length ∧ ∀ s ∈ S.take i, ruleBad s = false) (fun i => ⟨[(1, .ptr 1 0 0), (7, .I i)], [(1, ⟨false, 2, [brV (R, S, u)]⟩)], 1024⟩) (fun i => S.length - i) 0 (by decide) (by simp [brV]) (by simp) ?_
  rintro i ⟨hi, hno⟩ ih
  by_cases h : i < S.length
  · have hs := b4 _ (List.getElem_mem h)
    have hyes := any_at ruleBad S h
    have hnext := any_take ruleBad S h hno
    generalize hx : S[i] = r at hs hyes hnext
    have k1 := fok49 r hs
    generalize ruleBad r = x1 at k1 hyes hnext
    obtain ⟨p, o, u2⟩ := r
    simp only [shufV, wordsV] at k1
    simp (disch := omega) [h, wrap_i64, brV, hx, shufV, wordsV]
    refine CallG.lent rfl rfl rfl rfl k1 rfl ?_
    cases x1
    case true =>
      rw [hE2 (hyes rfl)]
      simp (disch := omega) [wrap_i64]
      exact Ends.v rfl (by simp)
    simp (disch := omega) [wrap_i64]
    exact ih (i + 1) _ ⟨by omega, hnext rfl⟩ (by omega) (by simp [brV])
  have hiR : i = S.length := by omega
  subst hiR
  rw [List.take_length] at hno
  rw [any_end ruleBad S hno]
  clear ih h hno hE2
  simp [brV]
  refine Run.loopA (ι := Nat) [(1, 1)] (fun i => i ≤ R.length ∧ dupT (R.take i) (R.drop i) = dupT [] R) (fun i => ⟨[(1, .ptr 1 0 0), (8, .I i)], [(1, ⟨false, 2, [brV (R, S, u)]⟩)], 1024⟩) (fun i => R.length - i) 0 (by decide) (by simp [brV]) (by simp) ?_
  rintro i ⟨hi, hd⟩ ih
  by_cases h : i < R.length
  · rw [drop_at h] at hd
    simp only [dupT] at hd
    rw [← List.take_succ_eq_append_getElem h] at hd
    have hs := b2 _ (List.getElem_mem h)
    simp (disch := omega) [h, wrap_i64, brV]
    refine Run.loopA (ι := Nat) [(1, 1)] (fun k => k ≤ i ∧ ∀ x ∈ (R.take i).take k, sameTu x R[i] = false) (fun k => ⟨[(1, .ptr 1 0 0), (8, .I i), (9, .I k)], [(1, ⟨false, 2, [brV (R, S, u)]⟩)], 1024⟩) (fun k => i - k) 0 (by decide) (by simp [brV]) (by simp) ?_
    rintro k ⟨hk, hno⟩ ih2
    by_cases g : k < i
    · have gL : k < (R.take i).length := by simp; omega
      have gR : k < R.length := by omega
      have hyes := any_at (fun x => sameTu x R[i]) (R.take i) gL
      have hnext := any_take (fun x => sameTu x R[i]) (R.take i) gL hno
      have hgk : (R.take i)[k] = R[k] := by simp
      have hs2 := b2 _ (List.getElem_mem gR)
      rw [hgk] at hyes hnext
      generalize (R.take i).any (fun x => sameTu x R[i]) = x0 at hd hyes
      generalize hx : R[i] = r at hs hyes hnext
      generalize hy : R[k] = y at hs2 hyes hnext
      obtain ⟨f, ii, t, p, u2⟩ := r
      obtain ⟨f2, ii2, t2, p2, u3⟩ := y
      have k1 := fok50 ii ii2 hs.1.1 hs2.1.1
      by_cases d1 : f = f2
      · simp (disch := omega) [h, g, gR, wrap_i64, brV, hx, hy, turnV, d1]
        refine CallG.lent rfl rfl rfl rfl k1 rfl ?_
        by_cases d2 : ii = ii2
        · rw [hyes (by simp [sameTu, d1, d2]), Bool.true_or] at hd
          rw [← hd]
          simp (disch := omega) [wrap_i64, d2]
          exact Ends.v rfl (by simp)
        · simp (disch := omega) [wrap_i64, d2]
          exact ih2 (k + 1) _ ⟨by omega, by rw [hx]; exact hnext (by simp [sameTu, Ne.symm d2])⟩ (by omega) (by simp [brV])
      · simp (disch := omega) [h, g, gR, wrap_i64, brV, hx, hy, turnV, d1]
        exact ih2 (k + 1) _ ⟨by omega, by rw [hx]; exact hnext (by simp [sameTu, Ne.symm d1])⟩ (by omega) (by simp [brV])
    · have hki : k = i := by omega
      subst hki
      rw [List.take_of_length_le (by simp; omega)] at hno
      rw [any_end (fun x => sameTu x R[k]) (R.take k) hno, Bool.false_or] at hd
      simp (disch := omega) [h, wrap_i64, brV]
      exact ih (k + 1) _ ⟨by omega, hd⟩ (by omega) (by simp [brV])
  · rw [drop_no h] at hd
    simp only [dupT] at hd
    rw [← hd]
    simp [h, brV]
    exact Ends.v rfl (by simp)

end Go.Proofs
