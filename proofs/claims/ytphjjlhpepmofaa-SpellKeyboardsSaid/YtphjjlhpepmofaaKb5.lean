/- The walk. -/
import Derived.Test.YtphjjlhpepmofaaKb4
import Derived.Test.YtphjjlhpepmofaaAMV
import Derived.Test.YtphjjlhpepmofaaF2
import Derived.Test.YtphjjlhpepmofaaProg
import Derived.KernelRfl
set_option linter.all false
set_option maxHeartbeats 2000000
namespace Go.Proofs
open Go Go.AM
attribute [local irreducible] Run Ends
/-- ablaut/spell.Keyboard$1 -/
def c63 : MC :=
  .seq (.reg false [.op .none 2 (.mv (.c (.w (.bool false))))]) <|
  .seq (.reg false [.op .none 3 (.mv (.t 0)),
    .op .none 4 (.len true (.t 3)),
    .op .none 5 (.bin .gtr (.t 4) (.c (.w (.int .i64 16)))),
    .op .none 2 (.mv (.t 5))]) <|
  .ret
theorem k63 : FnCode Try.prog 63 [] 6 [2] c63 := ⟨Try.f63, Try.func63, fun xs W => Try.call63 xs W, by kernel_rfl, by kernel_rfl, by kernel_rfl⟩

/-- ablaut/spell.Keyboard -/
def c30 : MC :=
  .seq (.reg false [.op .none 3 (.box false (.t 1)),
    .op .none 4 (.nilS 3),
    .op .none 5 (.mv (.c (.w (.int .i64 0))))]) <|
  .seq (.reg false [.op .none 21 (.mv (.t 0)),
    .op .none 22 (.len false (.t 21)),
    .op .none 23 (.bin .gtr (.t 22) (.c (.w (.int .i64 8)))),
    .op .none 6 (.mv (.t 23))]) <|
  .seq (.seq (.reg false [.op .none 24 (.mv (.t 0)),
    .op .none 25 (.len false (.t 24)),
    .op .none 26 (.mv (.c (.w (.int .i64 0))))]) <|
  .block 0 <|
    .loop <|
      .seq (.reg false [.op .none 27 (.bin .lss (.t 26) (.t 25))]) <|
      .seq (.cond (.t 27)
        (.skip)
        (.exit 0)) <|
      .seq (.block 1 <|
        .seq (.reg false [.op .none 28 (.ia 1 (.t 24) (.t 26)),
          .op .none 29 (.ld false 1 (.t 28)),
          .op .none 8 (.mv (.t 29))]) <|
        .reg false [.op .none 30 (.mv (.t 6)),
          .op .none 31 (.mv (.t 30)),
          .op (.some (31, false)) 32 (.mv (.t 8)),
          .op (.some (31, false)) 33 (.len false (.t 32)),
          .op (.some (31, false)) 34 (.bin .gtr (.t 33) (.c (.w (.int .i64 40)))),
          .op .none 35 (.pick (.t 31) (.c (.w (.bool true))) (.t 34)),
          .op .none 36 (.mv (.t 35)),
          .op (.some (36, false)) 37 (.mv (.t 8)),
          .call (.some (36, false)) 38 (.f 62) [(.t 37), (.f 63)],
          .op .none 39 (.pick (.t 36) (.c (.w (.bool true))) (.t 38)),
          .op .none 6 (.mv (.t 39))]) <|
      .reg false [.op .none 40 (.bin .add (.t 26) (.c (.w (.int .i64 1)))),
        .op .none 26 (.mv (.t 40))]) <|
  .seq (.seq (.reg false [.op .none 41 (.mv (.t 6))]) <|
  .cond (.t 41)
    (.seq (.reg false [.op .none 4 (.nilS 3),
      .op .none 5 (.mv (.c (.w (.int .i64 3))))]) <|
    .ret)
    (.skip)) <|
  .seq (.reg false [.op .none 42 (.mkM),
    .op .none 9 (.mv (.t 42))]) <|
  .seq (.seq (.reg false [.op .none 43 (.mv (.t 0)),
    .op .none 44 (.len false (.t 43)),
    .op .none 45 (.mv (.c (.w (.int .i64 0))))]) <|
  .block 2 <|
    .loop <|
      .seq (.reg false [.op .none 46 (.bin .lss (.t 45) (.t 44))]) <|
      .seq (.cond (.t 46)
        (.skip)
        (.exit 2)) <|
      .seq (.block 3 <|
        .seq (.reg false [.op .none 47 (.ia 1 (.t 43) (.t 45)),
          .op .none 48 (.ld false 1 (.t 47)),
          .op .none 11 (.mv (.t 48))]) <|
        .seq (.reg false [.op .none 49 (.mv (.t 11)),
          .op .none 50 (.len false (.t 49)),
          .op .none 51 (.mv (.c (.w (.int .i64 0))))]) <|
        .block 4 <|
          .loop <|
            .seq (.reg false [.op .none 52 (.bin .lss (.t 51) (.t 50))]) <|
            .seq (.cond (.t 52)
              (.skip)
              (.exit 4)) <|
            .seq (.block 5 <|
              .seq (.reg false [.op .none 53 (.ia 1 (.t 49) (.t 51)),
                .op .none 54 (.ld false 1 (.t 53)),
                .op .none 13 (.mv (.t 54))]) <|
              .seq (.seq (.reg false [.op .none 55 (.mv (.t 13)),
                .call .none 56 (.f 40) [(.t 55)],
                .op .none 57 (.un .not (.t 56)),
                .op .none 58 (.mv (.t 57)),
                .op (.some (58, false)) 59 (.mv (.t 9)),
                .op (.some (58, false)) 60 (.mv (.t 13)),
                .op (.some (58, false)) 61 (.mlk false [false] false (.w (.bool false)) (.t 59) (.t 60)),
                .op .none 62 (.pick (.t 58) (.c (.w (.bool true))) (.t 61))]) <|
              .cond (.t 62)
                (.seq (.reg false [.op .none 4 (.nilS 3),
                  .op .none 5 (.mv (.c (.w (.int .i64 1))))]) <|
                .ret)
                (.skip)) <|
              .reg false [.op .none 63 (.mv (.t 9)),
                .op .none 64 (.mv (.t 13)),
                .store .none (.mup false [false] (.t 63) (.t 64) (.c (.w (.bool true))))]) <|
            .reg false [.op .none 65 (.bin .add (.t 51) (.c (.w (.int .i64 1)))),
              .op .none 51 (.mv (.t 65))]) <|
      .reg false [.op .none 66 (.bin .add (.t 45) (.c (.w (.int .i64 1)))),
        .op .none 45 (.mv (.t 66))]) <|
  .seq (.seq (.reg false [.op .none 67 (.ld false 1 (.t 3)),
    .op .none 68 (.bin .lss (.t 67) (.c (.w (.int .i64 0)))),
    .op .none 69 (.mv (.t 68)),
    .op (.some (69, false)) 70 (.ld false 1 (.t 3)),
    .op (.some (69, false)) 71 (.bin .gtr (.t 70) (.c (.w (.int .i64 1000)))),
    .op .none 72 (.pick (.t 69) (.c (.w (.bool true))) (.t 71))]) <|
  .cond (.t 72)
    (.seq (.reg false [.op .none 4 (.nilS 3),
      .op .none 5 (.mv (.c (.w (.int .i64 1))))]) <|
    .ret)
    (.skip)) <|
  .seq (.reg false [.op .none 14 (.alcN [.nl])]) <|
  .seq (.reg false [.op .none 73 (.mkf 64 [(.t 14), (.t 3)]),
    .op .none 15 (.mv (.t 73))]) <|
  .seq (.seq (.reg false [.op .none 74 (.mv (.t 0)),
    .op .none 75 (.len false (.t 74)),
    .op .none 76 (.mv (.c (.w (.int .i64 0))))]) <|
  .block 6 <|
    .loop <|
      .seq (.reg false [.op .none 77 (.bin .lss (.t 76) (.t 75))]) <|
      .seq (.cond (.t 77)
        (.skip)
        (.exit 6)) <|
      .seq (.block 7 <|
        .seq (.reg false [.op .none 78 (.mv (.t 76)),
          .op .none 79 (.ia 1 (.t 74) (.t 76)),
          .op .none 80 (.ld false 1 (.t 79)),
          .op .none 16 (.mv (.t 78)),
          .op .none 17 (.mv (.t 80))]) <|
        .seq (.reg false [.op .none 81 (.mv (.t 17)),
          .op .none 82 (.len false (.t 81)),
          .op .none 83 (.mv (.c (.w (.int .i64 0))))]) <|
        .block 8 <|
          .loop <|
            .seq (.reg false [.op .none 84 (.bin .lss (.t 83) (.t 82))]) <|
            .seq (.cond (.t 84)
              (.skip)
              (.exit 8)) <|
            .seq (.block 9 <|
              .seq (.reg false [.op .none 85 (.mv (.t 83)),
                .op .none 86 (.ia 1 (.t 81) (.t 83)),
                .op .none 87 (.ld false 1 (.t 86)),
                .op .none 18 (.mv (.t 85)),
                .op .none 19 (.mv (.t 87))]) <|
              .seq (.seq (.reg false [.op .none 88 (.mv (.t 18)),
                .op .none 89 (.bin .gtr (.t 88) (.c (.w (.int .i64 0))))]) <|
              .cond (.t 89)
                (.reg false [.op .none 90 (.mv (.t 15)),
                  .op .none 91 (.mv (.t 17)),
                  .op .none 92 (.mv (.t 18)),
                  .op .none 93 (.bin .sub (.t 92) (.c (.w (.int .i64 1)))),
                  .op .none 94 (.ia 1 (.t 91) (.t 93)),
                  .op .none 95 (.ld false 1 (.t 94)),
                  .op .none 96 (.mv (.t 19)),
                  .call .none 97 (.t 90) [(.t 95), (.t 96)]])
                (.skip)) <|
              .seq (.reg false [.op .none 98 (.mv (.t 18)),
                .op .none 99 (.bin .sub (.t 98) (.c (.w (.int .i64 1)))),
                .op .none 20 (.mv (.t 99))]) <|
              .block 10 <|
                .loop <|
                  .seq (.seq (.reg false [.op .none 100 (.mv (.t 16)),
                    .op .none 101 (.bin .gtr (.t 100) (.c (.w (.int .i64 0)))),
                    .op .none 102 (.mv (.t 101)),
                    .op (.some (102, true)) 103 (.mv (.t 20)),
                    .op (.some (102, true)) 104 (.mv (.t 18)),
                    .op (.some (102, true)) 105 (.bin .add (.t 104) (.c (.w (.int .i64 1)))),
                    .op (.some (102, true)) 106 (.bin .leq (.t 103) (.t 105)),
                    .op .none 107 (.pick (.t 102) (.t 106) (.c (.w (.bool false))))]) <|
                  .cond (.t 107)
                    (.skip)
                    (.exit 10)) <|
                  .seq (.block 11 <|
                    .seq (.reg false [.op .none 110 (.mv (.t 20)),
                      .op .none 111 (.bin .geq (.t 110) (.c (.w (.int .i64 0)))),
                      .op .none 112 (.mv (.t 111)),
                      .op (.some (112, true)) 113 (.mv (.t 20)),
                      .op (.some (112, true)) 114 (.mv (.t 0)),
                      .op (.some (112, true)) 115 (.mv (.t 16)),
                      .op (.some (112, true)) 116 (.bin .sub (.t 115) (.c (.w (.int .i64 1)))),
                      .op (.some (112, true)) 117 (.ia 1 (.t 114) (.t 116)),
                      .op (.some (112, true)) 118 (.ld false 1 (.t 117)),
                      .op (.some (112, true)) 119 (.len false (.t 118)),
                      .op (.some (112, true)) 120 (.bin .lss (.t 113) (.t 119)),
                      .op .none 121 (.pick (.t 112) (.t 120) (.c (.w (.bool false))))]) <|
                    .cond (.t 121)
                      (.reg false [.op .none 122 (.mv (.t 15)),
                        .op .none 123 (.mv (.t 0)),
                        .op .none 124 (.mv (.t 16)),
                        .op .none 125 (.bin .sub (.t 124) (.c (.w (.int .i64 1)))),
                        .op .none 126 (.ia 1 (.t 123) (.t 125)),
                        .op .none 127 (.ld false 1 (.t 126)),
                        .op .none 128 (.mv (.t 20)),
                        .op .none 129 (.ia 1 (.t 127) (.t 128)),
                        .op .none 130 (.ld false 1 (.t 129)),
                        .op .none 131 (.mv (.t 19)),
                        .call .none 132 (.t 122) [(.t 130), (.t 131)]])
                      (.skip)) <|
                  .reg false [.op .none 108 (.mv (.t 20)),
                    .op .none 109 (.bin .add (.t 108) (.c (.w (.int .i64 1)))),
                    .op .none 20 (.mv (.t 109))]) <|
            .reg false [.op .none 133 (.bin .add (.t 83) (.c (.w (.int .i64 1)))),
              .op .none 83 (.mv (.t 133))]) <|
      .reg false [.op .none 134 (.bin .add (.t 76) (.c (.w (.int .i64 1)))),
        .op .none 76 (.mv (.t 134))]) <|
  .seq (.seq (.reg false [.op .none 135 (.ld false 1 (.t 14)),
    .op .none 136 (.len false (.t 135)),
    .op .none 137 (.bin .gtr (.t 136) (.c (.w (.int .i64 200))))]) <|
  .cond (.t 137)
    (.seq (.reg false [.op .none 4 (.nilS 3),
      .op .none 5 (.mv (.c (.w (.int .i64 3))))]) <|
    .ret)
    (.skip)) <|
  .seq (.reg false [.op .none 138 (.ld false 1 (.t 14)),
    .call .none 139 (.f 65) [(.t 138), (.f 41)]]) <|
  .seq (.reg false [.op .none 140 (.ld false 1 (.t 14)),
    .op .none 4 (.mv (.t 140)),
    .op .none 5 (.mv (.c (.w (.int .i64 0))))]) <|
  .ret
theorem k30 : FnCode Try.prog 30 [400014, 800014] 141 [4, 5] c30 := ⟨Try.f30, Try.func30, fun xs W => Try.call30 xs W, by kernel_rfl, by kernel_rfl, by kernel_rfl⟩

theorem fok63 (s : Bs) : FOk Try.prog 63 [.S s] [] (.B (decide (16 < s.length))) [] := by
  refine FOk.val k63 (by simp) (by simp) (by decide) ?_
  simp [c63]
  exact Ends.v rfl (by simp)
set_option maxRecDepth 100000 in
theorem fok30 (rows : List (List Bs)) (c : Int) (hr : rows.length ≤ 200000000000000) (hw : ∀ w ∈ rows, wordS w) : FOk Try.prog 30 [.v (wordsV rows), .I c] [] (.tup [.v (.sl 3 (keyN rows c)), .I (vKey rows c)]) [] := by
  have hresG : greatK rows = true → AV.tup [.v (.sl 3 (keyN rows c)), .I (vKey rows c)] = AV.tup [.v (.sl 3 []), .I 3] := fun h => by
    have h2 : vKey rows c = 3 := by unfold vKey; rw [if_pos h]
    unfold keyN; rw [h2]; rfl
  have hresB : greatK rows = false → badL [] rows.flatten = true → AV.tup [.v (.sl 3 (keyN rows c)), .I (vKey rows c)] = AV.tup [.v (.sl 3 []), .I 1] := fun h h1 => by
    have h2 : vKey rows c = 1 := by unfold vKey; rw [if_neg (by simp [h]), if_pos h1]
    unfold keyN; rw [h2]; rfl
  have hresC : greatK rows = false → badL [] rows.flatten = false → (c < 0 ∨ 1000 < c) → AV.tup [.v (.sl 3 (keyN rows c)), .I (vKey rows c)] = AV.tup [.v (.sl 3 []), .I 1] := fun h h1 h3 => by
    have h2 : vKey rows c = 1 := by unfold vKey; rw [if_neg (by simp [h]), if_neg (by simp [h1]), if_pos h3]
    unfold keyN; rw [h2]; rfl
  have hresP : greatK rows = false → badL [] rows.flatten = false → ¬ (c < 0 ∨ 1000 < c) → 200 < (pairsS rows).length → AV.tup [.v (.sl 3 (keyN rows c)), .I (vKey rows c)] = AV.tup [.v (.sl 3 []), .I 3] := fun h h1 h3 h4 => by
    have h2 : vKey rows c = 3 := by unfold vKey; rw [if_neg (by simp [h]), if_neg (by simp [h1]), if_neg h3, if_pos h4]
    unfold keyN; rw [h2]; rfl
  have hresO : greatK rows = false → badL [] rows.flatten = false → ¬ (c < 0 ∨ 1000 < c) → ¬ 200 < (pairsS rows).length → AV.tup [.v (.sl 3 (keyN rows c)), .I (vKey rows c)] = AV.tup [.v (.sl 3 (nrV (fun _ => c) (srt cmpK (pairsS rows)))), .I 0] := fun h h1 h3 h4 => by
    have h2 : vKey rows c = 0 := by unfold vKey; rw [if_neg (by simp [h]), if_neg (by simp [h1]), if_neg h3, if_neg h4]
    unfold keyN; rw [h2, if_pos rfl]
  generalize (AV.tup [.v (.sl 3 (keyN rows c)), .I (vKey rows c)]) = res at hresG hresB hresC hresP hresO ⊢
  refine FOk.val k30 (by simp) (by simp) (by decide) ?_
  simp [c30, wordsV]
  refine Run.loopA (ι := Nat × Bool) [(1, 3)] (fun q => q.1 ≤ rows.length ∧ (q.2 || greatL (rows.drop q.1)) = greatK rows) (fun q => ⟨[(0, .v (.sl 1 (rows.map PV.word))), (3, .ptr 1 0 0), (6, .B q.2), (24, .v (.sl 1 (rows.map PV.word))), (25, .I rows.length), (26, .I q.1)], [(1, ⟨false, 1, [.i c]⟩)], 1024⟩) (fun q => rows.length - q.1) (0, decide (8 < rows.length)) (by decide) (by simp) ⟨by simp, by simp [greatK]⟩ ?_
  rintro ⟨i, g⟩ ⟨hi, hg⟩ ih
  simp only at hi hg ih ⊢
  by_cases hi2 : i < rows.length
  · have hrg := rowAt_get hi2
    have hrm := hw _ (rowAt_mem hi2)
    have hra : rowAt rows i = rows[i] := by simp [rowAt, List.getElem?_eq_getElem hi2]
    rw [drop_at hi2] at hg
    simp only [greatL, longK] at hg
    rw [← hra] at hg
    generalize rowAt rows i = r at hrg hrm hg
    simp only [PV.word] at hrg
    cases g with
    | true =>
      simp only [Bool.true_or] at hg
      simp (disch := omega) [hi2, hrg, wrap_i64]
      exact ih (i + 1, true) _ ⟨by simp; omega, by simpa using hg⟩ (by simp; omega) (by simp)
    | false =>
      simp only [Bool.false_or] at hg
      by_cases h40 : 40 < r.length
      · simp only [h40, decide_true, Bool.true_or] at hg
        simp (disch := omega) [hi2, hrg, h40, wrap_i64]
        exact ih (i + 1, true) _ ⟨by simp; omega, by simpa using hg⟩ (by simp; omega) (by simp)
      · simp only [h40, decide_false, Bool.false_or] at hg
        have ch := fok62 r 63 (fun s => decide (16 < s.length)) (fun s _ => fok63 s) hrm.1
        simp only [PV.word] at ch
        simp (disch := omega) [hi2, hrg, h40, wrap_i64]
        refine CallG.lent rfl rfl rfl rfl ch rfl ?_
        rw [show (r.any fun s => decide (16 < s.length)) = longW r from rfl]
        generalize longW r = lw at hg
        simp (disch := omega) [wrap_i64]
        exact ih (i + 1, lw) _ ⟨by simp; omega, hg⟩ (by simp; omega) (by simp)
  · rw [drop_no hi2] at hg
    simp only [greatL, Bool.or_false] at hg
    subst hg
    clear ih
    cases hgk : greatK rows with
    | true =>
      simp (disch := omega) [hi2, wrap_i64]
      exact Ends.v rfl (by rw [hresG hgk]; simp)
    | false =>
      have hresB := hresB hgk
      have hresC := hresC hgk
      have hresP := hresP hgk
      have hresO := hresO hgk
      simp only [greatK, Bool.or_eq_false_iff, decide_eq_false_iff_not] at hgk
      have hok := great_ok hgk.2
      have hlen : rows.length ≤ 8 := by omega
      clear hresG
      simp (disch := omega) [hi2, wrap_i64]
      clear hi hi2 hgk
      refine Run.loopA (ι := Nat × List Bs) [(1, 3), (2, 9)] (fun q => q.1 ≤ rows.length ∧ badL q.2 (rows.drop q.1).flatten = badL [] rows.flatten) (fun q => ⟨[(0, .v (.sl 1 (rows.map PV.word))), (3, .ptr 1 0 0), (9, .h 2), (43, .v (.sl 1 (rows.map PV.word))), (44, .I rows.length), (45, .I q.1)], [(1, ⟨false, 1, [.i c]⟩), (2, ⟨false, 0, mkM :: seenV q.2⟩)], 1024⟩) (fun q => rows.length - q.1) (0, []) (by decide) (by simp [seenV]) ⟨by simp, by simp⟩ ?_
      rintro ⟨i, S⟩ ⟨hi, hb⟩ ih
      simp only at hi hb ih ⊢
      by_cases hi2 : i < rows.length
      · have hrg := rowAt_get hi2
        have hrm := hw _ (rowAt_mem hi2)
        have hra : rowAt rows i = rows[i] := by simp [rowAt, List.getElem?_eq_getElem hi2]
        rw [drop_at hi2, List.flatten_cons, ← hra] at hb
        generalize rowAt rows i = r at hrg hrm hb
        have hrl := hrm.1
        simp only [PV.word] at hrg
        simp (disch := omega) [hi2, hrg, wrap_i64]
        refine Run.loopA (ι := Nat × List Bs) [(1, 3), (2, 9)] (fun q => q.1 ≤ r.length ∧ badL q.2 (r.drop q.1 ++ (rows.drop (i + 1)).flatten) = badL [] rows.flatten) (fun q => ⟨[(0, .v (.sl 1 (rows.map PV.word))), (3, .ptr 1 0 0), (9, .h 2), (43, .v (.sl 1 (rows.map PV.word))), (44, .I rows.length), (45, .I i), (49, .v (.word r)), (50, .I r.length), (51, .I q.1)], [(1, ⟨false, 1, [.i c]⟩), (2, ⟨false, 0, mkM :: seenV q.2⟩)], 1024⟩) (fun q => r.length - q.1) (0, S) (by decide) (by simp) ⟨by simp, by simpa using hb⟩ ?_
        rintro ⟨k, S⟩ ⟨hk, hb⟩ ihk
        simp only at hk hb ihk ⊢
        by_cases hk2 : k < r.length
        · have hkg := word_get hk2
          have cs := fokS r[k] (hrm.2 _ (List.getElem_mem hk2))
          rw [drop_at hk2, List.cons_append] at hb
          simp only [badL] at hb
          generalize r[k] = x at hkg cs hb
          simp (disch := omega) [hk2, hkg, wrap_i64]
          refine CallG.lent rfl rfl rfl rfl cs rfl ?_
          cases hs : symS x
          · simp (disch := omega) [wrap_i64]
            exact Ends.v rfl (by rw [hresB (by rw [← hb]; simp [hs])]; simp)
          · by_cases hm : x ∈ S
            · simp (disch := omega) [wrap_i64, seen_find, hm]
              exact Ends.v rfl (by rw [hresB (by rw [← hb]; simp [hs, hm])]; simp)
            · simp (disch := omega) [wrap_i64, seen_find, hm, seen_set hm]
              exact ihk (k + 1, S ++ [x]) _ ⟨by simp; omega, by simpa [hs, hm] using hb⟩ (by simp; omega) (by simp)
        · rw [drop_no hk2, List.nil_append] at hb
          simp (disch := omega) [hk2, wrap_i64]
          exact ih (i + 1, S) _ ⟨by simp; omega, hb⟩ (by simp; omega) (by simp)
      · rw [drop_no hi2] at hb
        have hb : badL [] rows.flatten = false := by rw [← hb]; rfl
        have hresC := hresC hb
        have hresP := hresP hb
        have hresO := hresO hb
        clear hresB ih
        by_cases hc1 : c < 0
        · simp (disch := omega) [hi2, hc1, wrap_i64]
          exact Ends.v rfl (by rw [hresC (.inl hc1)]; simp)
        by_cases hc2 : 1000 < c
        · simp (disch := omega) [hi2, hc1, hc2, wrap_i64]
          exact Ends.v rfl (by rw [hresC (.inr hc2)]; simp)
        have hresP := hresP (by omega)
        have hresO := hresO (by omega)
        clear hresC
        simp (disch := omega) [hi2, hc1, hc2, wrap_i64]
        refine Run.fill (id := 17422) (c0 := 41984) (i := 0) 3 (rest := [.nl]) (by simp [find]) (by simp) (by simp) (by decide) ?_
        simp [setIn]
        have hrl : ∀ i, (rowAt rows i).length ≤ 40 := fun i => by
          by_cases h : i < rows.length
          · exact (hok _ (rowAt_mem h)).1
          · simp [rowAt, h]
        have hO6 : ∀ i, (rowS (preR rows i) (rowAt rows i)).length ≤ 160 := fun i => by
          have := fm_len (itemS_len (preR rows i) (rowAt rows i)) (rowAt rows i).length
          have := hrl i
          unfold rowS; omega
        clear hi hi2 hb hok hc1 hc2
        refine Run.loopB (ι := Nat) [(1, 14), (2, 3)] [(3, 14)] (fun i => i ≤ rows.length) (fun i => ⟨[(0, .v (.sl 1 (rows.map PV.word))), (3, .ptr 2 0 0), (14, .ptr 1 0 0), (15, .fn 64 [.ptr 1 0 0, .ptr 2 0 0]), (74, .v (.sl 1 (rows.map PV.word))), (75, .I rows.length), (76, .I i)], [(1, ⟨false, 0, [encR 0 3, .nl]⟩), (2, ⟨false, 1, [.i c]⟩), (3, ⟨false, 3, nrV (fun _ => c) ((List.range i).flatMap fun i => rowS (preR rows i) (rowAt rows i))⟩)], 1024⟩) (fun i => rows.length - i) 0 (by decide) (by simp [nrV]) (by omega) ?_
        intro i hi ih6
        by_cases hi3 : i < rows.length
        · have hrg := rowAt_get hi3
          have hB0 := fm_len hO6 i
          have hfs := fm_succ (fun i => rowS (preR rows i) (rowAt rows i)) i
          have hrl1 := hrl i
          have hD : (0 < i ∧ (rows.map PV.word)[i - 1]? = some (PV.word (preR rows i))) ∨ (i = 0 ∧ preR rows i = []) := by
            by_cases h : i = 0
            · exact .inr ⟨h, by simp [preR, h]⟩
            · exact .inl ⟨by omega, by rw [preR, if_neg h]; exact rowAt_get (by omega)⟩
          generalize ((List.range i).flatMap fun i => rowS (preR rows i) (rowAt rows i)) = B at hB0 hfs ⊢
          generalize preR rows i = U at hfs hD
          generalize rowAt rows i = l at hfs hrg hrl1
          simp only [PV.word] at hrg hD
          simp (disch := omega) [hi3, hrg, wrap_i64]
          refine Run.loopB (ι := Nat) [(1, 14), (2, 3)] [(3, 14)] (fun k => k ≤ l.length) (fun k => ⟨[(0, .v (.sl 1 (rows.map PV.word))), (3, .ptr 2 0 0), (14, .ptr 1 0 0), (15, .fn 64 [.ptr 1 0 0, .ptr 2 0 0]), (16, .I i), (17, .v (.word l)), (74, .v (.sl 1 (rows.map PV.word))), (75, .I rows.length), (76, .I i), (81, .v (.word l)), (82, .I l.length), (83, .I k)], [(1, ⟨false, 0, [encR 0 3, .nl]⟩), (2, ⟨false, 1, [.i c]⟩), (3, ⟨false, 3, nrV (fun _ => c) (B ++ (List.range k).flatMap fun k => winT l l k 0 ++ winS U l k)⟩)], 1024⟩) (fun k => l.length - k) 0 (by decide) (by simp) (by omega) ?_
          intro k hk ih8
          by_cases hk2 : k < l.length
          · have hkg := word_get hk2
            have hB1 := fm_len (itemS_len U l) k
            have hfs8 := fm_succ (fun k => winT l l k 0 ++ winS U l k) k
            generalize ((List.range k).flatMap fun k => winT l l k 0 ++ winS U l k) = B2 at hB1 hfs8 ⊢
            have hBl : (B ++ B2).length ≤ 2000 := by rw [List.length_append]; omega
            have hfs9 : B ++ ((List.range (k + 1)).flatMap fun k => winT l l k 0 ++ winS U l k) = (B ++ B2) ++ winT l l k 0 ++ winS U l k := by rw [hfs8]; simp only [List.append_assoc]
            clear hfs8
            generalize B ++ B2 = B3 at hBl hfs9 ⊢
            have hh : (0 < k ∧ ∃ y, (l.map fun s => PV.w (.string (bs s)))[k - 1]? = some (.w (.string (bs y))) ∧ winT l l k 0 = [pairK y l[k]]) ∨ (¬ 0 < k ∧ winT l l k 0 = []) := by
              by_cases h : 0 < k
              · have h2 : k - 1 < l.length := by omega
                exact .inl ⟨h, l[k - 1], word_get h2, by unfold winT; rw [if_pos (by omega)]; simp [oneP, List.getElem?_eq_getElem hk2, List.getElem?_eq_getElem h2]⟩
              · exact .inr ⟨h, by unfold winT; rw [if_neg (by omega)]⟩
            have hx : l[k]? = some l[k] := List.getElem?_eq_getElem hk2
            generalize l[k] = x at hkg hh hx
            rcases hh with ⟨hk3, y, hky, hh⟩ | ⟨hk3, hh⟩
            case' inl =>
              have cn := fokS64 y x c B3 (by omega)
              have hk4 : 1 ≤ k := hk3
              simp (disch := omega) [hi3, hrg, hk2, hkg, hk3, hk4, hky, wrap_i64]
              refine CallG.rowsN [1, 2, 3] rfl rfl rfl rfl (by simp) (by simp [find]) cn (by simp [find]) (by simp) ?_
              simp (disch := omega) [wrap_i64]
            case' inr => simp (disch := omega) [hi3, hrg, hk2, hkg, hk3, wrap_i64]
            all_goals
              refine Run.loopB (ι := Nat × Int) [(1, 14), (2, 3)] [(3, 14)] (fun q => q.1 ≤ 3 ∧ q.2 = (k : Int) - 1 + q.1) (fun q => ⟨[(0, .v (.sl 1 (rows.map PV.word))), (3, .ptr 2 0 0), (14, .ptr 1 0 0), (15, .fn 64 [.ptr 1 0 0, .ptr 2 0 0]), (16, .I i), (17, .v (.word l)), (18, .I k), (19, .S x), (20, .I q.2), (74, .v (.sl 1 (rows.map PV.word))), (75, .I rows.length), (76, .I i), (81, .v (.word l)), (82, .I l.length), (83, .I k)], [(1, ⟨false, 0, [encR 0 3, .nl]⟩), (2, ⟨false, 1, [.i c]⟩), (3, ⟨false, 3, nrV (fun _ => c) (B3 ++ winT l l k 0 ++ (List.range q.1).flatMap (winT U l k))⟩)], 1024⟩) (fun q => 3 - q.1) (0, (k : Int) - 1) (by decide) (by rw [hh]; simp) ⟨by simp, by simp⟩ ?_
              have hhl : (B3 ++ winT l l k 0).length ≤ 2001 := by rw [List.length_append, hh]; simp; omega
              generalize B3 ++ winT l l k 0 = B4 at hhl hfs9 ⊢
              rintro ⟨t, n⟩ ⟨ht, hn⟩ iht
              simp only at ht hn iht ⊢
              by_cases hstop : i = 0 ∨ t = 3
              · have hfin : (List.range t).flatMap (winT U l k) = winS U l k := by
                  rcases hstop with h | h
                  · have : U = [] := by
                      rcases hD with ⟨h1, _⟩ | ⟨_, h1⟩
                      · omega
                      · exact h1
                    subst this
                    rw [winS_nil]; exact (winS_nil l k 3).symm
                  · subst h; rfl
                rw [hfin]
                rw [← hfs9]
                clear iht hfs9 hfin
                by_cases hi0 : i = 0
                · subst hi0
                  simp (disch := omega) [wrap_i64]
                  exact ih8 (k + 1) _ (by omega) (by omega) (by simp)
                · have hi5 : 0 < i := by omega
                  have hn1 : ¬ n ≤ (k : Int) + 1 := by omega
                  simp (disch := omega) [hn1, hi5, wrap_i64]
                  exact ih8 (k + 1) _ (by omega) (by omega) (by simp)
              · obtain ⟨hi5, ht3⟩ : 0 < i ∧ t < 3 := by omega
                have hi6 : 1 ≤ i := hi5
                obtain ⟨_, hDg⟩ | ⟨h, _⟩ := hD
                case inr => omega
                have hn1 : n ≤ (k : Int) + 1 := by omega
                have hfs2 := fm_succ (winT U l k) t
                have hBl2 := fm_len (winT_len U l k) t
                generalize (List.range t).flatMap (winT U l k) = B5 at hfs2 hBl2 ⊢
                by_cases hn0 : 0 ≤ n
                · obtain ⟨m, rfl⟩ : ∃ m : Nat, n = m := ⟨n.toNat, by omega⟩
                  have hwt : winT U l k t = oneP U[m]? (some x) := by
                    unfold winT
                    rw [if_pos (by omega), hx, show k + t - 1 = m by omega]
                  by_cases hmD : m < U.length
                  · have hmg := word_get hmD
                    have cn := fokS64 U[m] x c (B4 ++ B5) (by rw [List.length_append]; omega)
                    have hwt2 : winT U l k t = [pairK U[m] x] := by rw [hwt, List.getElem?_eq_getElem hmD]; rfl
                    generalize U[m] = d at hmg cn hwt2
                    simp (disch := omega) [hn1, hi5, hi6, hDg, hmD, hmg, hi3, hrg, hk2, hkg, wrap_i64]
                    refine CallG.rowsN [1, 2, 3] rfl rfl rfl rfl (by simp) (by simp [find]) cn (by simp [find]) (by simp) ?_
                    simp (disch := omega) [wrap_i64]
                    exact iht (t + 1, (m : Int) + 1) _ ⟨by simp; omega, by simp; omega⟩ (by simp; omega) (by rw [hfs2, hwt2]; simp)
                  · have hwt2 : winT U l k t = [] := by rw [hwt, List.getElem?_eq_none (by omega)]; rfl
                    simp (disch := omega) [hn1, hi5, hi6, hDg, hmD, hi3, hrg, hk2, hkg, wrap_i64]
                    exact iht (t + 1, (m : Int) + 1) _ ⟨by simp; omega, by simp; omega⟩ (by simp; omega) (by rw [hfs2, hwt2]; simp)
                · have hwt2 : winT U l k t = [] := by unfold winT; rw [if_neg (by omega)]
                  simp (disch := omega) [hn1, hi5, hn0, wrap_i64]
                  exact iht (t + 1, n + 1) _ ⟨by simp; omega, by simp; omega⟩ (by simp; omega) (by rw [hfs2, hwt2]; simp)
          · have : k = l.length := by omega
            subst this
            simp (disch := omega) [hi3, hrg, wrap_i64]
            exact ih6 (i + 1) _ (by omega) (by omega) (by rw [hfs]; simp [rowS])
        · have : i = rows.length := by omega
          subst this
          have hPR : ((List.range rows.length).flatMap fun i => rowS (preR rows i) (rowAt rows i)) = pairsS rows := rfl
          rw [hPR]
          generalize pairsS rows = Q at hresP hresO
          simp (disch := omega) [wrap_i64, nrV_len]
          refine ⟨fun h => Ends.v rfl (by rw [hresP h]; simp), fun h => ?_⟩
          refine CallG.rows [3] rfl rfl rfl rfl (by simp) (by simp [find]) (fok65 (fun _ => c) Q (by omega)) (by simp) (by simp) ?_
          simp
          exact Ends.v rfl (by rw [hresO (by omega)]; simp)

end Go.Proofs
