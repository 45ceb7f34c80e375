/- The walk. -/
import Derived.Test.YtlhpjeckaepdlaaTr0
import Derived.Test.YtlhpjeckaepdlaaProg
import Derived.KernelRfl
set_option linter.all false
set_option maxHeartbeats 2000000
namespace Go.Proofs
open Go Go.AM
attribute [local irreducible] Run Ends
/-- ablaut/transfer.isName -/
def c85 : MC :=
  .seq (.reg false [.op .none 2 (.mv (.c (.w (.bool false))))]) <|
  .seq (.seq (.reg false [.op .none 5 (.mv (.t 0)),
    .op .none 6 (.len true (.t 5)),
    .op .none 7 (.mv (.c (.w (.int .i64 0))))]) <|
  .block 0 <|
    .loop <|
      .seq (.reg false [.op .none 8 (.bin .lss (.t 7) (.t 6))]) <|
      .seq (.cond (.t 8)
        (.skip)
        (.exit 0)) <|
      .seq (.block 1 <|
        .seq (.reg false [.op .none 9 (.mv (.t 7)),
          .op .none 3 (.mv (.t 9))]) <|
        .seq (.reg false [.op .none 10 (.mv (.t 0)),
          .op .none 11 (.mv (.t 3)),
          .op .none 12 (.six (.t 10) (.t 11)),
          .op .none 13 (.bin .or (.t 12) (.c (.w (.int .u8 32)))),
          .op .none 4 (.mv (.t 13))]) <|
        .seq (.reg false [.op .none 14 (.mv (.t 4)),
          .op .none 15 (.bin .lss (.t 14) (.c (.w (.int .u8 97)))),
          .op .none 16 (.mv (.t 15)),
          .op (.some (16, false)) 17 (.mv (.t 4)),
          .op (.some (16, false)) 18 (.bin .gtr (.t 17) (.c (.w (.int .u8 122)))),
          .op .none 19 (.pick (.t 16) (.c (.w (.bool true))) (.t 18)),
          .op .none 20 (.mv (.t 19)),
          .op (.some (20, true)) 21 (.mv (.t 3)),
          .op (.some (20, true)) 22 (.bin .eql (.t 21) (.c (.w (.int .i64 0)))),
          .op (.some (20, true)) 23 (.mv (.t 22)),
          .op (.some (23, false)) 24 (.mv (.t 0)),
          .op (.some (23, false)) 25 (.mv (.t 3)),
          .op (.some (23, false)) 26 (.six (.t 24) (.t 25)),
          .op (.some (23, false)) 27 (.bin .lss (.t 26) (.c (.w (.int .u8 48)))),
          .op (.some (20, true)) 28 (.pick (.t 23) (.c (.w (.bool true))) (.t 27)),
          .op (.some (20, true)) 29 (.mv (.t 28)),
          .op (.some (29, false)) 30 (.mv (.t 0)),
          .op (.some (29, false)) 31 (.mv (.t 3)),
          .op (.some (29, false)) 32 (.six (.t 30) (.t 31)),
          .op (.some (29, false)) 33 (.bin .gtr (.t 32) (.c (.w (.int .u8 57)))),
          .op (.some (20, true)) 34 (.pick (.t 29) (.c (.w (.bool true))) (.t 33)),
          .op .none 35 (.pick (.t 20) (.t 34) (.c (.w (.bool false))))]) <|
        .cond (.t 35)
          (.seq (.reg false [.op .none 2 (.mv (.c (.w (.bool false))))]) <|
          .ret)
          (.skip)) <|
      .reg false [.op .none 36 (.bin .add (.t 7) (.c (.w (.int .i64 1)))),
        .op .none 7 (.mv (.t 36))]) <|
  .seq (.reg false [.op .none 37 (.mv (.t 0)),
    .op .none 38 (.bin .neq (.t 37) (.c (.w (.string ⟨#[]⟩)))),
    .op .none 39 (.mv (.t 38)),
    .op (.some (39, true)) 40 (.mv (.t 0)),
    .op (.some (39, true)) 41 (.len true (.t 40)),
    .op (.some (39, true)) 42 (.bin .leq (.t 41) (.c (.w (.int .i64 12)))),
    .op .none 43 (.pick (.t 39) (.t 42) (.c (.w (.bool false)))),
    .op .none 2 (.mv (.t 43))]) <|
  .ret
theorem k85 : FnCode Try.prog 85 [] 44 [2] c85 := ⟨Try.f85, Try.func85, fun xs W => Try.call85 xs W, by kernel_rfl, by kernel_rfl, by kernel_rfl⟩

/-- ablaut/ablautref09.IsName -/
def c94 : MC :=
  .seq (.reg false [.op .none 2 (.mv (.c (.w (.bool false))))]) <|
  .seq (.seq (.reg false [.op .none 3 (.mv (.c (.w (.int .i64 0))))]) <|
  .block 0 <|
    .loop <|
      .seq (.seq (.reg false [.op .none 6 (.mv (.t 3)),
        .op .none 7 (.mv (.t 0)),
        .op .none 8 (.len true (.t 7)),
        .op .none 9 (.bin .lss (.t 6) (.t 8))]) <|
      .cond (.t 9)
        (.skip)
        (.exit 0)) <|
      .seq (.block 1 <|
        .seq (.reg false [.op .none 12 (.mv (.t 0)),
          .op .none 13 (.mv (.t 3)),
          .op .none 14 (.six (.t 12) (.t 13)),
          .op .none 15 (.bin .geq (.t 14) (.c (.w (.int .u8 97)))),
          .op .none 16 (.mv (.t 15)),
          .op (.some (16, true)) 17 (.mv (.t 0)),
          .op (.some (16, true)) 18 (.mv (.t 3)),
          .op (.some (16, true)) 19 (.six (.t 17) (.t 18)),
          .op (.some (16, true)) 20 (.bin .leq (.t 19) (.c (.w (.int .u8 122)))),
          .op .none 21 (.pick (.t 16) (.t 20) (.c (.w (.bool false)))),
          .op .none 22 (.mv (.t 21)),
          .op (.some (22, false)) 23 (.mv (.t 0)),
          .op (.some (22, false)) 24 (.mv (.t 3)),
          .op (.some (22, false)) 25 (.six (.t 23) (.t 24)),
          .op (.some (22, false)) 26 (.bin .geq (.t 25) (.c (.w (.int .u8 65)))),
          .op (.some (22, false)) 27 (.mv (.t 26)),
          .op (.some (27, true)) 28 (.mv (.t 0)),
          .op (.some (27, true)) 29 (.mv (.t 3)),
          .op (.some (27, true)) 30 (.six (.t 28) (.t 29)),
          .op (.some (27, true)) 31 (.bin .leq (.t 30) (.c (.w (.int .u8 90)))),
          .op (.some (22, false)) 32 (.pick (.t 27) (.t 31) (.c (.w (.bool false)))),
          .op .none 33 (.pick (.t 22) (.c (.w (.bool true))) (.t 32)),
          .op .none 4 (.mv (.t 33))]) <|
        .seq (.reg false [.op .none 34 (.mv (.t 0)),
          .op .none 35 (.mv (.t 3)),
          .op .none 36 (.six (.t 34) (.t 35)),
          .op .none 37 (.bin .geq (.t 36) (.c (.w (.int .u8 48)))),
          .op .none 38 (.mv (.t 37)),
          .op (.some (38, true)) 39 (.mv (.t 0)),
          .op (.some (38, true)) 40 (.mv (.t 3)),
          .op (.some (38, true)) 41 (.six (.t 39) (.t 40)),
          .op (.some (38, true)) 42 (.bin .leq (.t 41) (.c (.w (.int .u8 57)))),
          .op .none 43 (.pick (.t 38) (.t 42) (.c (.w (.bool false)))),
          .op .none 5 (.mv (.t 43))]) <|
        .seq (.reg false [.op .none 44 (.mv (.t 4)),
          .op .none 45 (.un .not (.t 44)),
          .op .none 46 (.mv (.t 45)),
          .op (.some (46, true)) 47 (.mv (.t 5)),
          .op (.some (46, true)) 48 (.un .not (.t 47)),
          .op (.some (46, true)) 49 (.mv (.t 48)),
          .op (.some (49, false)) 50 (.mv (.t 3)),
          .op (.some (49, false)) 51 (.bin .eql (.t 50) (.c (.w (.int .i64 0)))),
          .op (.some (46, true)) 52 (.pick (.t 49) (.c (.w (.bool true))) (.t 51)),
          .op .none 53 (.pick (.t 46) (.t 52) (.c (.w (.bool false))))]) <|
        .cond (.t 53)
          (.seq (.reg false [.op .none 2 (.mv (.c (.w (.bool false))))]) <|
          .ret)
          (.skip)) <|
      .reg false [.op .none 10 (.mv (.t 3)),
        .op .none 11 (.bin .add (.t 10) (.c (.w (.int .i64 1)))),
        .op .none 3 (.mv (.t 11))]) <|
  .seq (.reg false [.op .none 54 (.mv (.t 0)),
    .op .none 55 (.len true (.t 54)),
    .op .none 56 (.bin .geq (.t 55) (.c (.w (.int .i64 1)))),
    .op .none 57 (.mv (.t 56)),
    .op (.some (57, true)) 58 (.mv (.t 0)),
    .op (.some (57, true)) 59 (.len true (.t 58)),
    .op (.some (57, true)) 60 (.bin .leq (.t 59) (.c (.w (.int .i64 12)))),
    .op .none 61 (.pick (.t 57) (.t 60) (.c (.w (.bool false)))),
    .op .none 2 (.mv (.t 61))]) <|
  .ret
theorem k94 : FnCode Try.prog 94 [] 62 [2] c94 := ⟨Try.f94, Try.func94, fun xs W => Try.call94 xs W, by kernel_rfl, by kernel_rfl, by kernel_rfl⟩

theorem fok85 (s : Bs) (hs : smB s) : FOk Try.prog 85 [.S s] [] (.B (isNm s)) [] := by
  refine FOk.val k85 (by simp) (by simp) (by decide) ?_
  simp [c85]
  refine Run.loopA (ι := Nat) [] (fun i => i ≤ s.length ∧ allN (s.drop i) i = allN s 0) (fun i => ⟨[(0, .S s), (6, .I s.length), (7, .I i)], [], 1024⟩) (fun i => s.length - i) 0 (by decide) (by simp) ⟨by omega, by simp⟩ ?_
  rintro i ⟨hi, hall⟩ ih
  by_cases h : i < s.length
  · rw [drop_at h] at hall
    simp only [allN] at hall
    have hl := or_let s[i]
    simp (disch := omega) [h, wrap_i64]
    generalize orI .u8 (s[i].toNat : Int) 32 = x at hl ⊢
    have hx : (97 ≤ x ∧ x ≤ 122) ↔ letC s[i] = true := by rw [← hl]; simp
    have hd : nmC i s[i] = true ↔ (letC s[i] = true ∨ (i ≠ 0 ∧ 48 ≤ s[i].toNat ∧ s[i].toNat ≤ 57)) := by simp [nmC, digC]
    clear hl
    by_cases hn : nmC i s[i] = true
    · rw [hn, Bool.true_and] at hall
      have hgo := fun s' hle => ih (i + 1) s' ⟨by omega, hall⟩ (by omega) hle
      have hn2 := hd.1 hn
      clear hall ih hd hn
      cases hL : letC s[i]
      all_goals
        rw [hL] at hx hn2
        simp at hx hn2
        repeat' (first | refine And.intro ?_ ?_ | intro _)
        all_goals first
          | exact hgo _ (by simp)
          | (exfalso; omega)
    · have hn' : nmC i s[i] = false := by simpa using hn
      rw [hn', Bool.false_and] at hall
      have hn2 := fun q => hn (hd.2 q)
      have hE : isNm s = false := by simp [isNm, ← hall]
      rw [hE]
      clear hall ih hd hn hn' hE
      cases hL : letC s[i]
      all_goals
        rw [hL] at hx hn2
        simp at hx hn2
        repeat' (first | refine And.intro ?_ ?_ | intro _)
        all_goals first
          | exact Ends.v rfl (by simp)
          | (exfalso; omega)
  · rw [drop_no h] at hall
    have hE : isNm s = (decide (s ≠ []) && decide (s.length ≤ 12)) := by rw [isNm, ← hall]; rfl
    rw [hE]
    simp [h]
    exact ⟨fun q => Ends.v rfl (by simp [q]), fun q => Ends.v rfl (by simp [q])⟩
theorem fok94 (s : Bs) (hs : smB s) : FOk Try.prog 94 [.S s] [] (.B (isNm s)) [] := by
  refine FOk.val k94 (by simp) (by simp) (by decide) ?_
  simp [c94]
  refine Run.loopA (ι := Nat) [] (fun i => i ≤ s.length ∧ allN (s.drop i) i = allN s 0) (fun i => ⟨[(0, .S s), (3, .I i)], [], 1024⟩) (fun i => s.length - i) 0 (by decide) (by simp) ⟨by omega, by simp⟩ ?_
  rintro i ⟨hi, hall⟩ ih
  by_cases h : i < s.length
  · rw [drop_at h] at hall
    simp only [allN] at hall
    have hx : letC s[i] = true ↔ ((97 ≤ s[i].toNat ∧ s[i].toNat ≤ 122) ∨ (65 ≤ s[i].toNat ∧ s[i].toNat ≤ 90)) := by simp [letC]
    have hd : nmC i s[i] = true ↔ (letC s[i] = true ∨ (i ≠ 0 ∧ 48 ≤ s[i].toNat ∧ s[i].toNat ≤ 57)) := by simp [nmC, digC]
    simp (disch := omega) [h, wrap_i64]
    generalize s[i] = c at *
    by_cases hn : nmC i c = true
    · rw [hn, Bool.true_and] at hall
      have hgo := fun s' hle => ih (i + 1) s' ⟨by omega, hall⟩ (by omega) hle
      have hn2 := hd.1 hn
      rw [hx] at hn2
      clear hall ih hd hn hx
      repeat' (first | refine And.intro ?_ ?_ | intro _)
      all_goals first
        | exact hgo _ (by simp)
        | (exfalso; omega)
    · have hn' : nmC i c = false := by simpa using hn
      rw [hn', Bool.false_and] at hall
      have hn2 : ¬ (((97 ≤ c.toNat ∧ c.toNat ≤ 122) ∨ (65 ≤ c.toNat ∧ c.toNat ≤ 90)) ∨ (i ≠ 0 ∧ 48 ≤ c.toNat ∧ c.toNat ≤ 57)) := fun q => hn (hd.2 (q.imp hx.2 id))
      have hE : isNm s = false := by simp [isNm, ← hall]
      rw [hE]
      clear hall ih hd hn hn' hE hx
      repeat' (first | refine And.intro ?_ ?_ | intro _)
      all_goals first
        | exact Ends.v rfl (by simp)
        | (exfalso; omega)
  · rw [drop_no h] at hall
    have hE : isNm s = (decide (s ≠ []) && decide (s.length ≤ 12)) := by rw [isNm, ← hall]; rfl
    rw [hE]
    simp [h]
    refine ⟨fun q => Ends.v rfl ?_, fun q => Ends.v rfl ?_⟩
    · have : s ≠ [] := by rintro rfl; simp at q
      simp [this]
    · have : s = [] := by cases s with
        | nil => rfl
        | cons a s => simp at q
      simp [this]

end Go.Proofs
