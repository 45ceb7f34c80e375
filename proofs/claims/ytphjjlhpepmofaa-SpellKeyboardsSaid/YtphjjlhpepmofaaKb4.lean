/- The walk. -/
import Derived.Test.YtphjjlhpepmofaaKb3
import Derived.Test.YtphjjlhpepmofaaProg
import Derived.KernelRfl
set_option linter.all false
set_option maxHeartbeats 2000000
namespace Go.Proofs
open Go Go.AM
attribute [local irreducible] Run Ends
/-- ablaut/ablautref23.Keyboard -/
def c31 : MC :=
  .seq (.reg false [.op .none 4 (.nilS 3),
    .op .none 5 (.mv (.c (.w (.int .i64 0))))]) <|
  .seq (.seq (.reg false [.op .none 14 (.mv (.t 0)),
    .op .none 15 (.len false (.t 14)),
    .op .none 16 (.bin .gtr (.t 15) (.c (.w (.int .i64 8))))]) <|
  .cond (.t 16)
    (.seq (.reg false [.op .none 4 (.nilS 3),
      .op .none 5 (.mv (.c (.w (.int .i64 3))))]) <|
    .ret)
    (.skip)) <|
  .seq (.reg false [.op .none 6 (.nilS 1)]) <|
  .seq (.seq (.reg false [.op .none 7 (.mv (.c (.w (.int .i64 0))))]) <|
  .block 0 <|
    .loop <|
      .seq (.seq (.reg false [.op .none 17 (.mv (.t 7)),
        .op .none 18 (.mv (.t 0)),
        .op .none 19 (.len false (.t 18)),
        .op .none 20 (.bin .lss (.t 17) (.t 19))]) <|
      .cond (.t 20)
        (.skip)
        (.exit 0)) <|
      .seq (.block 1 <|
        .seq (.seq (.reg false [.op .none 23 (.mv (.t 0)),
          .op .none 24 (.mv (.t 7)),
          .op .none 25 (.ia 1 (.t 23) (.t 24)),
          .op .none 26 (.ld false 1 (.t 25)),
          .op .none 27 (.len false (.t 26)),
          .op .none 28 (.bin .gtr (.t 27) (.c (.w (.int .i64 40))))]) <|
        .cond (.t 28)
          (.seq (.reg false [.op .none 4 (.nilS 3),
            .op .none 5 (.mv (.c (.w (.int .i64 3))))]) <|
          .ret)
          (.skip)) <|
        .seq (.seq (.reg false [.op .none 8 (.mv (.c (.w (.int .i64 0))))]) <|
        .block 2 <|
          .loop <|
            .seq (.seq (.reg false [.op .none 29 (.mv (.t 8)),
              .op .none 30 (.mv (.t 0)),
              .op .none 31 (.mv (.t 7)),
              .op .none 32 (.ia 1 (.t 30) (.t 31)),
              .op .none 33 (.ld false 1 (.t 32)),
              .op .none 34 (.len false (.t 33)),
              .op .none 35 (.bin .lss (.t 29) (.t 34))]) <|
            .cond (.t 35)
              (.skip)
              (.exit 2)) <|
            .seq (.block 3 <|
              .seq (.reg false [.op .none 38 (.mv (.t 0)),
                .op .none 39 (.mv (.t 7)),
                .op .none 40 (.ia 1 (.t 38) (.t 39)),
                .op .none 41 (.ld false 1 (.t 40)),
                .op .none 42 (.mv (.t 8)),
                .op .none 43 (.ia 1 (.t 41) (.t 42)),
                .op .none 44 (.ld false 1 (.t 43)),
                .op .none 45 (.len true (.t 44)),
                .op .none 46 (.bin .gtr (.t 45) (.c (.w (.int .i64 16))))]) <|
              .cond (.t 46)
                (.seq (.reg false [.op .none 4 (.nilS 3),
                  .op .none 5 (.mv (.c (.w (.int .i64 3))))]) <|
                .ret)
                (.skip)) <|
            .reg false [.op .none 36 (.mv (.t 8)),
              .op .none 37 (.bin .add (.t 36) (.c (.w (.int .i64 1)))),
              .op .none 8 (.mv (.t 37))]) <|
        .reg false [.op .none 47 (.mv (.t 6)),
          .op .none 48 (.mv (.t 0)),
          .op .none 49 (.mv (.t 7)),
          .op .none 50 (.ia 1 (.t 48) (.t 49)),
          .op .none 51 (.ld false 1 (.t 50)),
          .op .none 52 (.app 1 16 (.t 47) (.t 51)),
          .op .none 6 (.mv (.t 52))]) <|
      .reg false [.op .none 21 (.mv (.t 7)),
        .op .none 22 (.bin .add (.t 21) (.c (.w (.int .i64 1)))),
        .op .none 7 (.mv (.t 22))]) <|
  .seq (.seq (.reg false [.op .none 9 (.mv (.c (.w (.int .i64 0))))]) <|
  .block 4 <|
    .loop <|
      .seq (.seq (.reg false [.op .none 53 (.mv (.t 9)),
        .op .none 54 (.mv (.t 6)),
        .op .none 55 (.len false (.t 54)),
        .op .none 56 (.bin .lss (.t 53) (.t 55))]) <|
      .cond (.t 56)
        (.skip)
        (.exit 4)) <|
      .seq (.block 5 <|
        .seq (.reg false [.op .none 59 (.mv (.t 6)),
          .op .none 60 (.mv (.t 9)),
          .op .none 61 (.ia 1 (.t 59) (.t 60)),
          .op .none 62 (.ld false 1 (.t 61)),
          .call .none 63 (.f 43) [(.t 62)],
          .op .none 64 (.un .not (.t 63))]) <|
        .cond (.t 64)
          (.seq (.reg false [.op .none 4 (.nilS 3),
            .op .none 5 (.mv (.c (.w (.int .i64 1))))]) <|
          .ret)
          (.skip)) <|
      .reg false [.op .none 57 (.mv (.t 9)),
        .op .none 58 (.bin .add (.t 57) (.c (.w (.int .i64 1)))),
        .op .none 9 (.mv (.t 58))]) <|
  .seq (.seq (.reg false [.op .none 65 (.mv (.t 6)),
    .call .none 66 (.f 66) [(.t 65)],
    .op .none 67 (.len false (.t 66)),
    .op .none 68 (.mv (.t 6)),
    .op .none 69 (.len false (.t 68)),
    .op .none 70 (.bin .neq (.t 67) (.t 69)),
    .op .none 71 (.mv (.t 70)),
    .op (.some (71, false)) 72 (.mv (.t 1)),
    .op (.some (71, false)) 73 (.bin .lss (.t 72) (.c (.w (.int .i64 0)))),
    .op .none 74 (.pick (.t 71) (.c (.w (.bool true))) (.t 73)),
    .op .none 75 (.mv (.t 74)),
    .op (.some (75, false)) 76 (.mv (.t 1)),
    .op (.some (75, false)) 77 (.bin .gtr (.t 76) (.c (.w (.int .i64 1000)))),
    .op .none 78 (.pick (.t 75) (.c (.w (.bool true))) (.t 77))]) <|
  .cond (.t 78)
    (.seq (.reg false [.op .none 4 (.nilS 3),
      .op .none 5 (.mv (.c (.w (.int .i64 1))))]) <|
    .ret)
    (.skip)) <|
  .seq (.reg false [.op .none 10 (.nilS 3)]) <|
  .seq (.seq (.reg false [.op .none 11 (.mv (.c (.w (.int .i64 0))))]) <|
  .block 6 <|
    .loop <|
      .seq (.seq (.reg false [.op .none 79 (.mv (.t 11)),
        .op .none 80 (.mv (.t 0)),
        .op .none 81 (.len false (.t 80)),
        .op .none 82 (.bin .lss (.t 79) (.t 81))]) <|
      .cond (.t 82)
        (.skip)
        (.exit 6)) <|
      .seq (.block 7 <|
        .seq (.reg false [.op .none 12 (.mv (.c (.w (.int .i64 0))))]) <|
        .block 8 <|
          .loop <|
            .seq (.seq (.reg false [.op .none 85 (.mv (.t 12)),
              .op .none 86 (.mv (.t 0)),
              .op .none 87 (.mv (.t 11)),
              .op .none 88 (.ia 1 (.t 86) (.t 87)),
              .op .none 89 (.ld false 1 (.t 88)),
              .op .none 90 (.len false (.t 89)),
              .op .none 91 (.bin .lss (.t 85) (.t 90))]) <|
            .cond (.t 91)
              (.skip)
              (.exit 8)) <|
            .seq (.block 9 <|
              .seq (.seq (.reg false [.op .none 94 (.mv (.t 12)),
                .op .none 95 (.bin .add (.t 94) (.c (.w (.int .i64 1)))),
                .op .none 96 (.mv (.t 0)),
                .op .none 97 (.mv (.t 11)),
                .op .none 98 (.ia 1 (.t 96) (.t 97)),
                .op .none 99 (.ld false 1 (.t 98)),
                .op .none 100 (.len false (.t 99)),
                .op .none 101 (.bin .lss (.t 95) (.t 100))]) <|
              .cond (.t 101)
                (.reg true [.op .none 102 (.mv (.t 10)),
                  .op .none 103 (.mv (.t 0)),
                  .op .none 104 (.mv (.t 11)),
                  .op .none 105 (.ia 1 (.t 103) (.t 104)),
                  .op .none 106 (.ld false 1 (.t 105)),
                  .op .none 107 (.mv (.t 12)),
                  .op .none 108 (.ia 1 (.t 106) (.t 107)),
                  .op .none 109 (.ld false 1 (.t 108)),
                  .op .none 110 (.mv (.t 0)),
                  .op .none 111 (.mv (.t 11)),
                  .op .none 112 (.ia 1 (.t 110) (.t 111)),
                  .op .none 113 (.ld false 1 (.t 112)),
                  .op .none 114 (.mv (.t 12)),
                  .op .none 115 (.bin .add (.t 114) (.c (.w (.int .i64 1)))),
                  .op .none 116 (.ia 1 (.t 113) (.t 115)),
                  .op .none 117 (.ld false 1 (.t 116)),
                  .op .none 118 (.mv (.t 1)),
                  .call .none 119 (.f 67) [(.t 109), (.t 117), (.t 118)],
                  .op .none 120 (.buildS true 3 1 true [(.w (.string ⟨#[]⟩)), (.w (.string ⟨#[]⟩)), (.w (.int .i64 0))] [(0, (.t 119))]),
                  .op .none 121 (.app 3 40 (.t 102) (.t 120)),
                  .op .none 10 (.mv (.t 121))])
                (.skip)) <|
              .seq (.reg false [.op .none 122 (.mv (.t 12)),
                .op .none 123 (.bin .sub (.t 122) (.c (.w (.int .i64 1)))),
                .op .none 13 (.mv (.t 123))]) <|
              .block 10 <|
                .loop <|
                  .seq (.seq (.reg false [.op .none 124 (.mv (.t 13)),
                    .op .none 125 (.mv (.t 12)),
                    .op .none 126 (.bin .add (.t 125) (.c (.w (.int .i64 1)))),
                    .op .none 127 (.bin .leq (.t 124) (.t 126)),
                    .op .none 128 (.mv (.t 127)),
                    .op (.some (128, true)) 129 (.mv (.t 11)),
                    .op (.some (128, true)) 130 (.bin .add (.t 129) (.c (.w (.int .i64 1)))),
                    .op (.some (128, true)) 131 (.mv (.t 0)),
                    .op (.some (128, true)) 132 (.len false (.t 131)),
                    .op (.some (128, true)) 133 (.bin .lss (.t 130) (.t 132)),
                    .op .none 134 (.pick (.t 128) (.t 133) (.c (.w (.bool false))))]) <|
                  .cond (.t 134)
                    (.skip)
                    (.exit 10)) <|
                  .seq (.block 11 <|
                    .seq (.reg false [.op .none 137 (.mv (.t 13)),
                      .op .none 138 (.bin .geq (.t 137) (.c (.w (.int .i64 0)))),
                      .op .none 139 (.mv (.t 138)),
                      .op (.some (139, true)) 140 (.mv (.t 13)),
                      .op (.some (139, true)) 141 (.mv (.t 0)),
                      .op (.some (139, true)) 142 (.mv (.t 11)),
                      .op (.some (139, true)) 143 (.bin .add (.t 142) (.c (.w (.int .i64 1)))),
                      .op (.some (139, true)) 144 (.ia 1 (.t 141) (.t 143)),
                      .op (.some (139, true)) 145 (.ld false 1 (.t 144)),
                      .op (.some (139, true)) 146 (.len false (.t 145)),
                      .op (.some (139, true)) 147 (.bin .lss (.t 140) (.t 146)),
                      .op .none 148 (.pick (.t 139) (.t 147) (.c (.w (.bool false))))]) <|
                    .cond (.t 148)
                      (.reg true [.op .none 149 (.mv (.t 10)),
                        .op .none 150 (.mv (.t 0)),
                        .op .none 151 (.mv (.t 11)),
                        .op .none 152 (.ia 1 (.t 150) (.t 151)),
                        .op .none 153 (.ld false 1 (.t 152)),
                        .op .none 154 (.mv (.t 12)),
                        .op .none 155 (.ia 1 (.t 153) (.t 154)),
                        .op .none 156 (.ld false 1 (.t 155)),
                        .op .none 157 (.mv (.t 0)),
                        .op .none 158 (.mv (.t 11)),
                        .op .none 159 (.bin .add (.t 158) (.c (.w (.int .i64 1)))),
                        .op .none 160 (.ia 1 (.t 157) (.t 159)),
                        .op .none 161 (.ld false 1 (.t 160)),
                        .op .none 162 (.mv (.t 13)),
                        .op .none 163 (.ia 1 (.t 161) (.t 162)),
                        .op .none 164 (.ld false 1 (.t 163)),
                        .op .none 165 (.mv (.t 1)),
                        .call .none 166 (.f 67) [(.t 156), (.t 164), (.t 165)],
                        .op .none 167 (.buildS true 3 1 true [(.w (.string ⟨#[]⟩)), (.w (.string ⟨#[]⟩)), (.w (.int .i64 0))] [(0, (.t 166))]),
                        .op .none 168 (.app 3 40 (.t 149) (.t 167)),
                        .op .none 10 (.mv (.t 168))])
                      (.skip)) <|
                  .reg false [.op .none 135 (.mv (.t 13)),
                    .op .none 136 (.bin .add (.t 135) (.c (.w (.int .i64 1)))),
                    .op .none 13 (.mv (.t 136))]) <|
            .reg false [.op .none 92 (.mv (.t 12)),
              .op .none 93 (.bin .add (.t 92) (.c (.w (.int .i64 1)))),
              .op .none 12 (.mv (.t 93))]) <|
      .reg false [.op .none 83 (.mv (.t 11)),
        .op .none 84 (.bin .add (.t 83) (.c (.w (.int .i64 1)))),
        .op .none 11 (.mv (.t 84))]) <|
  .seq (.seq (.reg false [.op .none 169 (.mv (.t 10)),
    .op .none 170 (.len false (.t 169)),
    .op .none 171 (.bin .gtr (.t 170) (.c (.w (.int .i64 200))))]) <|
  .cond (.t 171)
    (.seq (.reg false [.op .none 4 (.nilS 3),
      .op .none 5 (.mv (.c (.w (.int .i64 3))))]) <|
    .ret)
    (.skip)) <|
  .seq (.reg false [.op .none 172 (.mv (.t 10)),
    .call .none 173 (.f 68) [(.t 172)],
    .op .none 4 (.mv (.t 173)),
    .op .none 5 (.mv (.c (.w (.int .i64 0))))]) <|
  .ret
theorem k31 : FnCode Try.prog 31 [120, 167] 174 [4, 5] c31 := ⟨Try.f31, Try.func31, fun xs W => Try.call31 xs W, by kernel_rfl, by kernel_rfl, by kernel_rfl⟩

set_option maxRecDepth 100000 in
theorem fok31 (rows : List (List Bs)) (c : Int) (hr : rows.length ≤ 200000000000000) (hw : ∀ w ∈ rows, wordS w) : FOk Try.prog 31 [.v (wordsV rows), .I c] [] (.tup [.v (.sl 3 (keyN rows c)), .I (vKey rows c)]) [] := by
  have hresG : greatK rows = true → AV.tup [.v (.sl 3 (keyN rows c)), .I (vKey rows c)] = AV.tup [.v (.sl 3 []), .I 3] := fun h => by
    have h2 : vKey rows c = 3 := by unfold vKey; rw [if_pos h]
    unfold keyN; rw [h2]; rfl
  have hresB : greatK rows = false → badL [] rows.flatten = true → AV.tup [.v (.sl 3 (keyN rows c)), .I (vKey rows c)] = AV.tup [.v (.sl 3 []), .I 1] := fun h h1 => by
    have h2 : vKey rows c = 1 := by unfold vKey; rw [if_neg (by simp [h]), if_pos h1]
    unfold keyN; rw [h2]; rfl
  have hresC : greatK rows = false → badL [] rows.flatten = false → (c < 0 ∨ 1000 < c) → AV.tup [.v (.sl 3 (keyN rows c)), .I (vKey rows c)] = AV.tup [.v (.sl 3 []), .I 1] := fun h h1 h3 => by
    have h2 : vKey rows c = 1 := by unfold vKey; rw [if_neg (by simp [h]), if_neg (by simp [h1]), if_pos h3]
    unfold keyN; rw [h2]; rfl
  have hresP : greatK rows = false → badL [] rows.flatten = false → ¬ (c < 0 ∨ 1000 < c) → 200 < (pairsR rows).length → AV.tup [.v (.sl 3 (keyN rows c)), .I (vKey rows c)] = AV.tup [.v (.sl 3 []), .I 3] := fun h h1 h3 h4 => by
    have h2 : vKey rows c = 3 := by unfold vKey; rw [if_neg (by simp [h]), if_neg (by simp [h1]), if_neg h3, if_pos (by rw [pairs_len]; exact h4)]
    unfold keyN; rw [h2]; rfl
  have hresO : greatK rows = false → badL [] rows.flatten = false → ¬ (c < 0 ∨ 1000 < c) → ¬ 200 < (pairsR rows).length → AV.tup [.v (.sl 3 (keyN rows c)), .I (vKey rows c)] = AV.tup [.v (.sl 3 (nrV (fun _ => c) (srt cmpK (pairsR rows)))), .I 0] := fun h h1 h3 h4 => by
    have h2 : vKey rows c = 0 := by unfold vKey; rw [if_neg (by simp [h]), if_neg (by simp [h1]), if_neg h3, if_neg (by rw [pairs_len]; exact h4)]
    unfold keyN; rw [h2, if_pos rfl, srtK_congr (pairs_perm rows)]
  generalize (AV.tup [.v (.sl 3 (keyN rows c)), .I (vKey rows c)]) = res at hresG hresB hresC hresP hresO ⊢
  refine FOk.val k31 (by simp) (by simp) (by decide) ?_
  simp [c31, wordsV]
  refine ⟨fun h => Ends.v rfl (by rw [hresG (by simp [greatK, h])]; simp), fun h8 => ?_⟩
  have hgk : greatK rows = greatL rows := by simp [greatK]; intro; omega
  rw [hgk] at hresG hresB hresC hresP hresO
  refine Run.loopA (ι := Nat) [(1, 6)] (fun i => i ≤ rows.length ∧ greatL (rows.drop i) = greatL rows ∧ (rows.take i).flatten.length ≤ 40 * i) (fun i => ⟨[(0, .v (.sl 1 (rows.map PV.word))), (1, .I c), (6, .h 1), (7, .I i)], [(1, ⟨false, 1, (rows.take i).flatten.map fun s => .w (.string (bs s))⟩)], 1024⟩) (fun i => rows.length - i) 0 (by decide) (by simp) ⟨by omega, by simp, by simp⟩ ?_
  rintro i ⟨hi, hg, hfl⟩ ih
  by_cases hi2 : i < rows.length
  · have hrg := rowAt_get hi2
    have hrm := hw _ (rowAt_mem hi2)
    have hra : rowAt rows i = rows[i] := by simp [rowAt, List.getElem?_eq_getElem hi2]
    rw [drop_at hi2] at hg
    simp only [greatL, longK] at hg
    rw [← hra] at hg
    have htk : (rows.take (i + 1)).flatten = (rows.take i).flatten ++ rowAt rows i := by rw [List.take_succ_eq_append_getElem hi2, List.flatten_append, hra]; simp
    generalize (rows.take i).flatten = A at hfl htk
    generalize rowAt rows i = r at hrg hrm hg htk
    simp only [PV.word] at hrg
    by_cases h40 : 40 < r.length
    · simp (disch := omega) [hi2, hrg, h40, wrap_i64]
      exact Ends.v rfl (by rw [hresG (by rw [← hg]; simp [h40])]; simp)
    · simp only [h40, decide_false, Bool.false_or] at hg
      simp (disch := omega) [hi2, hrg, h40, wrap_i64]
      refine Run.loopA (ι := Nat) [(1, 6)] (fun k => k ≤ r.length ∧ longW (r.drop k) = longW r) (fun k => ⟨[(0, .v (.sl 1 (rows.map PV.word))), (1, .I c), (6, .h 1), (7, .I i), (8, .I k)], [(1, ⟨false, 1, A.map fun s => .w (.string (bs s))⟩)], 1024⟩) (fun k => r.length - k) 0 (by decide) (by simp) ⟨by omega, by simp⟩ ?_
      rintro k ⟨hk, hlw⟩ ihk
      by_cases hk2 : k < r.length
      · have hkg := word_get hk2
        rw [drop_at hk2] at hlw
        simp only [longW, List.any_cons] at hlw
        by_cases h16 : 16 < r[k].length
        · simp (disch := omega) [hi2, hrg, hk2, hkg, h16, wrap_i64]
          exact Ends.v rfl (by rw [hresG (by rw [← hg]; simp only [longW, ← hlw]; simp [h16])]; simp)
        · simp (disch := omega) [hi2, hrg, hk2, hkg, h16, wrap_i64]
          exact ihk (k + 1) _ ⟨by omega, by simpa [longW, h16] using hlw⟩ (by omega) (by simp)
      · rw [drop_no hk2] at hlw
        have hlw : longW r = false := by rw [← hlw]; rfl
        rw [hlw, Bool.false_or] at hg
        have hb : (A.length + r.length + 1000) * 16 ≤ 70368744177664 := by omega
        simp (disch := (clear hb; omega)) [hi2, hrg, hk2, hb, wrap_i64]
        exact ih (i + 1) _ ⟨by omega, hg, by rw [htk, List.length_append]; omega⟩ (by omega) (by rw [htk]; simp)
  · have hgf : greatL rows = false := by rw [← hg, drop_no hi2]; rfl
    have hT : rows.take i = rows := List.take_of_length_le (by omega)
    rw [hT] at hfl ⊢
    have hlen : rows.length ≤ 8 := by omega
    have hok := great_ok hgf
    clear ih hg hresG
    have hresB := hresB hgf
    have hresC := hresC hgf
    have hresP := hresP hgf
    have hresO := hresO hgf
    generalize hAl : rows.flatten = A at hfl hresB hresC hresP hresO
    have hsy : ∀ x ∈ A, x.length ≤ 200000000000000 := fun x hx => by
      rw [← hAl] at hx
      obtain ⟨r, h1, h2⟩ := List.mem_flatten.1 hx
      exact (hw r h1).2 x h2
    have hA : A.length ≤ 320 := by omega
    simp (disch := omega) [hi2, wrap_i64]
    refine Run.loopA (ι := Nat) [(1, 6)] (fun i => i ≤ A.length ∧ ∀ j (h : j < A.length), j < i → symS A[j] = true) (fun i => ⟨[(0, .v (.sl 1 (rows.map PV.word))), (1, .I c), (6, .h 1), (9, .I i)], [(1, ⟨false, 1, A.map fun s => .w (.string (bs s))⟩)], 1024⟩) (fun i => A.length - i) 0 (by decide) (by simp) ⟨by omega, by omega⟩ ?_
    rintro m ⟨hm, hall⟩ ihm
    by_cases hm2 : m < A.length
    · have hmg := word_get hm2
      have cs := fok43 A[m] (hsy _ (List.getElem_mem hm2))
      simp (disch := omega) [hm2, hmg, wrap_i64]
      refine CallG.lent rfl rfl rfl rfl cs rfl ?_
      cases hs : symS A[m]
      · simp (disch := omega) [wrap_i64]
        have hbad : badL [] A = true := by
          cases hb : badL [] A
          · have := ((badL_eq _ _).1 hb).1 _ (List.getElem_mem hm2); rw [hs] at this; cases this
          · rfl
        exact Ends.v rfl (by rw [hresB hbad]; simp)
      · simp (disch := omega) [wrap_i64]
        exact ihm (m + 1) _ ⟨by omega, fun j hj hjm => by
          rcases Nat.lt_or_ge j m with h1 | h1
          · exact hall j hj h1
          · obtain rfl : j = m := by omega
            exact hs⟩ (by omega) (by simp)
    · have hsym : ∀ x ∈ A, symS x = true := fun x hx => by
        obtain ⟨j, hj, rfl⟩ := List.getElem_of_mem hx
        exact hall j hj (by omega)
      have hset := fok66 A (by omega)
      clear ihm hall
      simp (disch := omega) [hm2, wrap_i64]
      refine CallG.rows [] rfl rfl rfl rfl (by simp) (by simp) hset (by simp) (by simp) ?_
      have hnd := setL_nd A
      generalize setL A = S at hnd
      have hbl := badL_eq [] A
      by_cases hc1 : c < 0 ∨ 1000 < c ∨ ¬ S.length = A.length
      · have hres : res = AV.tup [.v (.sl 3 []), .I 1] := by
          cases hb : badL [] A
          · refine hresC hb ?_
            have := (hbl.1 hb).2.1
            have := hnd.2 this
            omega
          · exact hresB hb
        clear hresB hresC hresP hresO
        subst hres
        by_cases h1 : (S.length : Int) = (A.length : Int)
        · by_cases h2 : c < 0
          · simp (disch := omega) [h1, h2, wrap_i64]
            exact Ends.v rfl (by simp)
          · have h3 : 1000 < c := by omega
            simp (disch := omega) [h1, h2, h3, wrap_i64]
            exact Ends.v rfl (by simp)
        · simp (disch := omega) [h1, wrap_i64]
          exact Ends.v rfl (by simp)
      · have hc0 : ¬ c < 0 := by omega
        have hc2 : ¬ 1000 < c := by omega
        have hcl : S.length = A.length := by omega
        have hb : badL [] A = false := hbl.2 ⟨hsym, hnd.1 hcl, by simp⟩
        have hresP := hresP hb (by omega)
        have hresO := hresO hb (by omega)
        clear hresB hresC hnd hbl
        have hcl2 : ((S.length : Int) = (A.length : Int)) := by omega
        simp (disch := omega) [hcl2, hc0, hc2, wrap_i64]
        have hrl : ∀ i, (rowAt rows i).length ≤ 40 := fun i => by
          by_cases h : i < rows.length
          · exact (hok _ (rowAt_mem h)).1
          · simp [rowAt, h]
        have hO6 : ∀ i, (rowR (rowAt rows i) (rowAt rows (i + 1))).length ≤ 160 := fun i => by
          have := fm_len (itemR_len (rowAt rows i) (rowAt rows (i + 1))) (rowAt rows i).length
          have := hrl i
          unfold rowR; omega
        clear hsym hm hm2 hcl hcl2 hsy hAl hfl
        refine Run.loopA (ι := Nat) [(1, 10)] (fun i => i ≤ rows.length) (fun i => ⟨[(0, .v (.sl 1 (rows.map PV.word))), (1, .I c), (10, .h 1), (11, .I i)], [(1, ⟨false, 3, nrV (fun _ => c) ((List.range i).flatMap fun i => rowR (rowAt rows i) (rowAt rows (i + 1)))⟩)], 1024⟩) (fun i => rows.length - i) 0 (by decide) (by simp [nrV]) (by omega) ?_
        intro i hi ih6
        by_cases hi3 : i < rows.length
        · have hrg := rowAt_get hi3
          have hB0 := fm_len hO6 i
          have hfs := fm_succ (fun i => rowR (rowAt rows i) (rowAt rows (i + 1))) i
          have hrl1 := hrl i
          have hD : (i + 1 < rows.length ∧ (rows.map PV.word)[i + 1]? = some (PV.word (rowAt rows (i + 1)))) ∨ (¬ i + 1 < rows.length ∧ rowAt rows (i + 1) = []) := by
            by_cases h : i + 1 < rows.length
            · exact .inl ⟨h, rowAt_get h⟩
            · exact .inr ⟨h, by simp [rowAt, h]⟩
          generalize ((List.range i).flatMap fun i => rowR (rowAt rows i) (rowAt rows (i + 1))) = B at hB0 hfs
          generalize rowAt rows (i + 1) = D at hfs hD
          generalize rowAt rows i = l at hfs hrg hrl1
          simp only [PV.word] at hrg hD
          simp (disch := omega) [hi3, wrap_i64]
          refine Run.loopA (ι := Nat) [(1, 10)] (fun k => k ≤ l.length) (fun k => ⟨[(0, .v (.sl 1 (rows.map PV.word))), (1, .I c), (10, .h 1), (11, .I i), (12, .I k)], [(1, ⟨false, 3, nrV (fun _ => c) (B ++ (List.range k).flatMap fun k => horR l k ++ winS D l k)⟩)], 1024⟩) (fun k => l.length - k) 0 (by decide) (by simp [nrV]) (by omega) ?_
          intro k hk ih8
          by_cases hk2 : k < l.length
          · have hkg := word_get hk2
            have hB1 := fm_len (itemR_len l D) k
            have hfs8 := fm_succ (fun k => horR l k ++ winS D l k) k
            generalize ((List.range k).flatMap fun k => horR l k ++ winS D l k) = B2 at hB1 hfs8 ⊢
            have hBl : (B ++ B2).length ≤ 2000 := by rw [List.length_append]; omega
            have hfs9 : B ++ ((List.range (k + 1)).flatMap fun k => horR l k ++ winS D l k) = (B ++ B2) ++ horR l k ++ winS D l k := by rw [hfs8]; simp only [List.append_assoc]
            clear hfs8
            generalize B ++ B2 = B3 at hBl hfs9 ⊢
            have hh : (k + 1 < l.length ∧ ∃ y, (l.map fun s => PV.w (.string (bs s)))[k + 1]? = some (.w (.string (bs y))) ∧ horR l k = [pairK l[k] y]) ∨ (¬ k + 1 < l.length ∧ horR l k = []) := by
              by_cases h : k + 1 < l.length
              · exact .inl ⟨h, l[k + 1], word_get h, by simp [horR, oneP, List.getElem?_eq_getElem hk2, List.getElem?_eq_getElem h]⟩
              · exact .inr ⟨h, by simp [horR, oneP, h]⟩
            have hx : l[k]? = some l[k] := List.getElem?_eq_getElem hk2
            generalize l[k] = x at hkg hh hx
            have hb3 : ((nrV (fun _ => c) B3).length + 1 + 1000) * 40 ≤ 70368744177664 := by rw [nrV_len]; omega
            rcases hh with ⟨hk3, y, hky, hh⟩ | ⟨hk3, hh⟩
            case' inl =>
              have cn := fok67 x y c
              simp only [nearV, nrG] at cn
              simp (disch := (clear hb3; omega)) [hi3, hrg, hk2, hkg, hk3, hky, wrap_i64]
              refine CallG.lent rfl rfl rfl rfl cn rfl ?_
              simp (disch := (clear hb3; omega)) [hb3, wrap_i64]
            case' inr => simp (disch := (clear hb3; omega)) [hi3, hrg, hk2, hkg, hk3, wrap_i64]
            all_goals
              refine Run.loopA (ι := Nat × Int) [(1, 10)] (fun q => q.1 ≤ 3 ∧ q.2 = (k : Int) - 1 + q.1) (fun q => ⟨[(0, .v (.sl 1 (rows.map PV.word))), (1, .I c), (10, .h 1), (11, .I i), (12, .I k), (13, .I q.2)], [(1, ⟨false, 3, nrV (fun _ => c) (B3 ++ horR l k ++ (List.range q.1).flatMap (winT D l k))⟩)], 1024⟩) (fun q => 3 - q.1) (0, (k : Int) - 1) (by decide) (by rw [hh]; simp [nrV, nearV, nrG, pairK]) ⟨by simp, by simp⟩ ?_
              clear hb3
              have hhl : (B3 ++ horR l k).length ≤ 2001 := by rw [List.length_append, hh]; simp; omega
              generalize B3 ++ horR l k = B4 at hhl hfs9 ⊢
              rintro ⟨t, n⟩ ⟨ht, hn⟩ iht
              simp only at ht hn iht ⊢
              by_cases hstop : ¬ i + 1 < rows.length ∨ t = 3
              · have hfin : (List.range t).flatMap (winT D l k) = winS D l k := by
                  rcases hstop with h | h
                  · have : D = [] := by
                      rcases hD with ⟨h1, _⟩ | ⟨_, h1⟩
                      · exact absurd h1 h
                      · exact h1
                    subst this
                    rw [winS_nil]; exact (winS_nil l k 3).symm
                  · subst h; rfl
                rw [hfin]
                rw [← hfs9]
                clear iht hfs9 hfin
                by_cases hn1 : n ≤ (k : Int) + 1
                · have hi4 : ¬ i + 1 < rows.length := by omega
                  simp (disch := omega) [hn1, hi4, wrap_i64]
                  exact ih8 (k + 1) _ (by omega) (by omega) (by simp)
                · simp (disch := omega) [hn1, wrap_i64]
                  exact ih8 (k + 1) _ (by omega) (by omega) (by simp)
              · obtain ⟨hi4, ht3⟩ : i + 1 < rows.length ∧ t < 3 := by omega
                obtain ⟨_, hDg⟩ | ⟨h, _⟩ := hD
                case inr => exact absurd hi4 h
                have hn1 : n ≤ (k : Int) + 1 := by omega
                have hfs2 := fm_succ (winT D l k) t
                have hBl2 := fm_len (winT_len D l k) t
                generalize (List.range t).flatMap (winT D l k) = B5 at hfs2 hBl2 ⊢
                have hb5 : ((nrV (fun _ => c) (B4 ++ B5)).length + 1 + 1000) * 40 ≤ 70368744177664 := by rw [nrV_len, List.length_append]; omega
                by_cases hn0 : 0 ≤ n
                · obtain ⟨m, rfl⟩ : ∃ m : Nat, n = m := ⟨n.toNat, by omega⟩
                  have hwt : winT D l k t = oneP D[m]? (some x) := by
                    unfold winT
                    rw [if_pos (by omega), hx, show k + t - 1 = m by omega]
                  by_cases hmD : m < D.length
                  · have hmg := word_get hmD
                    have cn := fok67 x D[m] c
                    simp only [nearV, nrG] at cn
                    have hwt2 : winT D l k t = [pairK x D[m]] := by rw [hwt, List.getElem?_eq_getElem hmD]; simp only [oneP]; rw [pairK_symm]
                    generalize D[m] = d at hmg cn hwt2
                    simp (disch := (clear hb5; omega)) [hn1, hi4, hDg, hmD, hmg, hi3, hrg, hk2, hkg, wrap_i64]
                    refine CallG.lent rfl rfl rfl rfl cn rfl ?_
                    simp (disch := (clear hb5; omega)) [hb5, wrap_i64]
                    exact iht (t + 1, (m : Int) + 1) _ ⟨by clear hb5; simp; omega, by clear hb5; simp; omega⟩ (by clear hb5; simp; omega) (by rw [hfs2, hwt2]; simp [nrV, nearV, nrG, pairK])
                  · have hwt2 : winT D l k t = [] := by rw [hwt, List.getElem?_eq_none (by omega)]; rfl
                    simp (disch := (clear hb5; omega)) [hn1, hi4, hDg, hmD, hi3, hrg, hk2, hkg, wrap_i64]
                    exact iht (t + 1, (m : Int) + 1) _ ⟨by clear hb5; simp; omega, by clear hb5; simp; omega⟩ (by clear hb5; simp; omega) (by rw [hfs2, hwt2]; simp)
                · have hwt2 : winT D l k t = [] := by unfold winT; rw [if_neg (by omega)]
                  simp (disch := (clear hb5; omega)) [hn1, hi4, hn0, wrap_i64]
                  exact iht (t + 1, n + 1) _ ⟨by clear hb5; simp; omega, by clear hb5; simp; omega⟩ (by clear hb5; simp; omega) (by rw [hfs2, hwt2]; simp)
          · have : k = l.length := by omega
            subst this
            simp (disch := omega) [hi3, hrg, wrap_i64]
            exact ih6 (i + 1) _ (by omega) (by omega) (by rw [hfs]; simp [rowR])
        · have : i = rows.length := by omega
          subst this
          have hPR : ((List.range rows.length).flatMap fun i => rowR (rowAt rows i) (rowAt rows (i + 1))) = pairsR rows := rfl
          rw [hPR]
          generalize pairsR rows = Q at hresP hresO
          simp (disch := omega) [wrap_i64, nrV_len]
          refine ⟨fun h => Ends.v rfl (by rw [hresP h]; simp), fun h => ?_⟩
          refine CallG.rows [] rfl rfl rfl rfl (by simp) (by simp) (fok68 (fun _ => c) Q (by omega)) (by simp) (by simp) ?_
          simp
          exact Ends.v rfl (by rw [hresO (by omega)]; simp)

end Go.Proofs
