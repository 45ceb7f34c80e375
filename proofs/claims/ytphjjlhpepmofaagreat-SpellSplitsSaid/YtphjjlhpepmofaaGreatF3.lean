/- The walk. -/
import Derived.Test.YtphjjlhpepmofaaGreatF2
import Derived.Test.YtphjjlhpepmofaaGreatProg
import Derived.KernelRfl
set_option linter.all false
set_option maxHeartbeats 2000000
namespace Go.Proofs
open Go Go.AM
attribute [local irreducible] Run Ends
/-- ablaut/spell.checked -/
def c38 : MC :=
  .seq (.reg false [.op .none 2 (.box false (.t 0)),
    .op .none 4 (.mv (.c (.w (.int .i64 0))))]) <|
  .seq (.seq (.reg false [.op .none 9 (.ld true 5 (.t 2)),
    .call .none 10 (.f 73) [(.t 9)],
    .op .none 5 (.mv (.t 10))]) <|
  .seq (.reg false [.op .none 11 (.mv (.t 5)),
    .op .none 12 (.bin .neq (.t 11) (.c (.w (.int .i64 0))))]) <|
  .cond (.t 12)
    (.seq (.reg false [.op .none 13 (.mv (.t 5)),
      .op .none 4 (.mv (.t 13))]) <|
    .ret)
    (.skip)) <|
  .seq (.seq (.reg false [.op .none 14 (.mv (.t 1)),
    .op .none 15 (.len false (.t 14)),
    .op .none 16 (.mv (.c (.w (.int .i64 0))))]) <|
  .block 0 <|
    .loop <|
      .seq (.reg false [.op .none 17 (.bin .lss (.t 16) (.t 15))]) <|
      .seq (.cond (.t 17)
        (.skip)
        (.exit 0)) <|
      .seq (.block 1 <|
        .seq (.reg false [.op .none 18 (.ia 1 (.t 14) (.t 16)),
          .op .none 19 (.ld false 1 (.t 18)),
          .op .none 7 (.mv (.t 19))]) <|
        .seq (.reg false [.op .none 20 (.mv (.t 7)),
          .call .none 21 (.f 32) [(.t 20)],
          .op .none 8 (.mv (.t 21))]) <|
        .seq (.reg false [.op .none 22 (.mv (.t 8)),
          .op .none 23 (.bin .neq (.t 22) (.c (.w (.int .i64 0))))]) <|
        .cond (.t 23)
          (.seq (.reg false [.op .none 24 (.mv (.t 8)),
            .op .none 4 (.mv (.t 24))]) <|
          .ret)
          (.skip)) <|
      .reg false [.op .none 25 (.bin .add (.t 16) (.c (.w (.int .i64 1)))),
        .op .none 16 (.mv (.t 25))]) <|
  .seq (.reg false [.op .none 4 (.mv (.c (.w (.int .i64 0))))]) <|
  .ret
theorem k38 : FnCode Tryz.prog 38 [] 26 [4] c38 := ⟨Tryz.f38, Tryz.func38, fun xs W => Tryz.call38 xs W, by kernel_rfl, by kernel_rfl, by kernel_rfl⟩

/-- ablaut/ablautlaw23.bytes -/
def c7 : MC :=
  .seq (.reg false [.op .none 2 (.mv (.c (.w (.int .i64 0))))]) <|
  .seq (.reg false [.op .none 3 (.mv (.c (.w (.int .i64 0))))]) <|
  .seq (.seq (.reg false [.op .none 4 (.mv (.c (.w (.int .i64 0))))]) <|
  .block 0 <|
    .loop <|
      .seq (.seq (.reg false [.op .none 6 (.mv (.t 4)),
        .op .none 7 (.mv (.t 0)),
        .op .none 8 (.len false (.t 7)),
        .op .none 9 (.bin .lss (.t 6) (.t 8)),
        .op .none 10 (.mv (.t 9)),
        .op (.some (10, true)) 11 (.mv (.t 3)),
        .op (.some (10, true)) 12 (.bin .leq (.t 11) (.c (.w (.int .i64 100000)))),
        .op .none 13 (.pick (.t 10) (.t 12) (.c (.w (.bool false))))]) <|
      .cond (.t 13)
        (.skip)
        (.exit 0)) <|
      .seq (.block 1 <|
        .seq (.reg false [.op .none 16 (.mv (.t 3)),
          .op .none 17 (.mv (.t 0)),
          .op .none 18 (.mv (.t 4)),
          .op .none 19 (.ia 1 (.t 17) (.t 18)),
          .op .none 20 (.ld false 1 (.t 19)),
          .op .none 21 (.len false (.t 20)),
          .op .none 22 (.bin .add (.c (.w (.int .i64 1))) (.t 21)),
          .op .none 23 (.bin .add (.t 16) (.t 22)),
          .op .none 3 (.mv (.t 23))]) <|
        .seq (.reg false [.op .none 5 (.mv (.c (.w (.int .i64 0))))]) <|
        .block 2 <|
          .loop <|
            .seq (.seq (.reg false [.op .none 24 (.mv (.t 5)),
              .op .none 25 (.mv (.t 0)),
              .op .none 26 (.mv (.t 4)),
              .op .none 27 (.ia 1 (.t 25) (.t 26)),
              .op .none 28 (.ld false 1 (.t 27)),
              .op .none 29 (.len false (.t 28)),
              .op .none 30 (.bin .lss (.t 24) (.t 29)),
              .op .none 31 (.mv (.t 30)),
              .op (.some (31, true)) 32 (.mv (.t 3)),
              .op (.some (31, true)) 33 (.bin .leq (.t 32) (.c (.w (.int .i64 100000)))),
              .op .none 34 (.pick (.t 31) (.t 33) (.c (.w (.bool false))))]) <|
            .cond (.t 34)
              (.skip)
              (.exit 2)) <|
            .seq (.block 3 <|
              .reg false [.op .none 37 (.mv (.t 3)),
                .op .none 38 (.mv (.t 0)),
                .op .none 39 (.mv (.t 4)),
                .op .none 40 (.ia 1 (.t 38) (.t 39)),
                .op .none 41 (.ld false 1 (.t 40)),
                .op .none 42 (.mv (.t 5)),
                .op .none 43 (.ia 1 (.t 41) (.t 42)),
                .op .none 44 (.ld false 1 (.t 43)),
                .op .none 45 (.len true (.t 44)),
                .op .none 46 (.bin .add (.t 37) (.t 45)),
                .op .none 3 (.mv (.t 46))]) <|
            .reg false [.op .none 35 (.mv (.t 5)),
              .op .none 36 (.bin .add (.t 35) (.c (.w (.int .i64 1)))),
              .op .none 5 (.mv (.t 36))]) <|
      .reg false [.op .none 14 (.mv (.t 4)),
        .op .none 15 (.bin .add (.t 14) (.c (.w (.int .i64 1)))),
        .op .none 4 (.mv (.t 15))]) <|
  .seq (.reg false [.op .none 47 (.mv (.t 3)),
    .op .none 2 (.mv (.t 47))]) <|
  .ret
theorem k7 : FnCode Tryz.prog 7 [] 48 [2] c7 := ⟨Tryz.f7, Tryz.func7, fun xs W => Tryz.call7 xs W, by kernel_rfl, by kernel_rfl, by kernel_rfl⟩

def vWords : List (List Bs) → Int
  | [] => 0
  | w :: l => if vWord w = 0 then vWords l else vWord w
def vChecked (p : PricesT) (ws : List (List Bs)) : Int := if vPrices p = 0 then vWords ws else vPrices p
/-- Words as a value. -/
def wordsV (ws : List (List Bs)) : PV := .sl 1 (ws.map PV.word)

theorem fok38 (p : PricesT) (ws : List (List Bs)) (hp : ∀ n ∈ p.2.2.2.2.1, nearS n) (hw : ∀ w ∈ ws, wordS w) (hl : ws.length ≤ 200000000000000) : FOk Tryz.prog 38 [.v (pricesV p), .v (wordsV ws)] [] (.I (vChecked p ws)) [] := by
  refine FOk.val k38 (by simp) (by simp) (by decide) ?_
  simp [c38, pricesV, wordsV]
  refine CallG.lent rfl rfl rfl rfl (fok73 p hp) rfl ?_
  simp
  refine ⟨fun h => Ends.v rfl (by simp [vChecked, h]), fun hv => ?_⟩
  refine Run.loopI (ι := Nat) (fun i => i ≤ ws.length ∧ vWords (ws.drop i) = vWords ws) (fun i => ⟨[(14, .v (.sl 1 (ws.map PV.word))), (15, .I ws.length), (16, .I i)], [], 1024⟩) (fun i => ws.length - i) 0 [] (by decide) (by simp) ⟨by omega, by simp⟩ ?_
  rintro i ⟨hi, hall⟩ ih
  by_cases h : i < ws.length
  · rw [drop_at h] at hall
    simp only [vWords] at hall
    have hs := hw ws[i] (List.getElem_mem h)
    simp (disch := omega) [h, wrap_i64]
    refine CallG.lent rfl rfl rfl rfl (fok32 ws[i] hs.1 hs.2) rfl ?_
    simp (disch := omega) [wrap_i64]
    refine ⟨fun h1 => Ends.v rfl (by simp [vChecked, hv, ← hall, h1]), fun h1 => ?_⟩
    exact ih (i + 1) [] _ ⟨by omega, by simpa [h1] using hall⟩ (by omega) (by simp)
  · rw [drop_no h] at hall
    simp [h]
    exact Ends.v rfl (by simp [vChecked, hv, ← hall, vWords])

/-- How much there is in words, if it is not far too much. -/
def byt1 : List Bs → Nat → Nat
  | [], n => n
  | s :: w, n => if n ≤ 100000 then byt1 w (n + s.length) else n
def byt : List (List Bs) → Nat → Nat
  | [], n => n
  | w :: l, n => if n ≤ 100000 then byt l (byt1 w (n + (1 + w.length))) else n

theorem fok7 (ws : List (List Bs)) (hw : ∀ w ∈ ws, wordS w) (hl : ws.length ≤ 200000000000000) : FOk Tryz.prog 7 [.v (wordsV ws)] [] (.I (byt ws 0)) [] := by
  refine FOk.val k7 (by simp) (by simp) (by decide) ?_
  simp [c7, wordsV]
  refine Run.loopI (ι := Nat × Nat) (fun q => q.1 ≤ ws.length ∧ byt (ws.drop q.1) q.2 = byt ws 0) (fun q => ⟨[(0, .v (.sl 1 (ws.map PV.word))), (3, .I q.2), (4, .I q.1)], [], 1024⟩) (fun q => ws.length - q.1) (0, 0) [] (by decide) (by simp) ⟨by simp, by simp⟩ ?_
  rintro ⟨i, n⟩ ⟨hi, hall⟩ ih
  simp only at hi hall ih ⊢
  by_cases h : i < ws.length
  · rw [drop_at h] at hall
    simp only [byt] at hall
    have hs := hw ws[i] (List.getElem_mem h)
    have hs1 := hs.1
    by_cases hn : n ≤ 100000
    · rw [if_pos hn] at hall
      simp (disch := omega) [h, hn, wrap_i64]
      refine Run.loopI (ι := Nat × Nat) (fun q => q.1 ≤ ws[i].length ∧ byt (ws.drop (i + 1)) (byt1 (ws[i].drop q.1) q.2) = byt ws 0) (fun q => ⟨[(0, .v (.sl 1 (ws.map PV.word))), (3, .I q.2), (4, .I i), (5, .I q.1)], [], 1024⟩) (fun q => ws[i].length - q.1) (0, n + (1 + ws[i].length)) [] (by decide) (by simp) ⟨by simp, by simpa using hall⟩ ?_
      rintro ⟨j, m⟩ ⟨hj, hall2⟩ ih2
      simp only at hj hall2 ih2 ⊢
      by_cases h2 : j < ws[i].length
      · rw [drop_at h2] at hall2
        simp only [byt1] at hall2
        have hs2 := hs.2 ws[i][j] (List.getElem_mem h2)
        by_cases hm : m ≤ 100000
        · rw [if_pos hm] at hall2
          simp (disch := omega) [h, h2, hm, wrap_i64]
          exact ih2 (j + 1, m + ws[i][j].length) [] _ ⟨by simp; omega, hall2⟩ (by simp; omega) (by simp)
        · rw [if_neg hm] at hall2
          simp (disch := omega) [h, h2, hm, wrap_i64]
          exact ih (i + 1, m) [] _ ⟨by simp; omega, hall2⟩ (by simp; omega) (by simp)
      · rw [drop_no h2] at hall2
        simp only [byt1] at hall2
        simp (disch := omega) [h, h2, wrap_i64]
        exact ih (i + 1, m) [] _ ⟨by simp; omega, hall2⟩ (by simp; omega) (by simp)
    · rw [if_neg hn] at hall
      simp (disch := omega) [h, hn, wrap_i64]
      exact Ends.v rfl (by simp [← hall])
  · rw [drop_no h] at hall
    simp [h]
    exact Ends.v rfl (by simp [← hall, byt])

end Go.Proofs
