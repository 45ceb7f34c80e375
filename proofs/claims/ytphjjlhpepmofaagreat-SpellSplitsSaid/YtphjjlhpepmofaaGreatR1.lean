/- The walk. -/
import Derived.Test.YtphjjlhpepmofaaGreatF1
import Derived.Test.YtphjjlhpepmofaaGreatOrd
import Derived.Test.YtphjjlhpepmofaaGreatProg
import Derived.KernelRfl
set_option linter.all false
set_option maxHeartbeats 2000000
namespace Go.Proofs
open Go Go.AM
attribute [local irreducible] Run Ends
/-- ablaut/ablautref01.IsSymbol -/
def c95 : MC :=
  .seq (.reg false [.op .none 2 (.mv (.c (.w (.bool false))))]) <|
  .seq (.seq (.reg false [.op .none 3 (.mv (.c (.w (.int .i64 0))))]) <|
  .block 0 <|
    .loop <|
      .seq (.seq (.reg false [.op .none 4 (.mv (.t 3)),
        .op .none 5 (.mv (.t 0)),
        .op .none 6 (.len true (.t 5)),
        .op .none 7 (.bin .lss (.t 4) (.t 6))]) <|
      .cond (.t 7)
        (.skip)
        (.exit 0)) <|
      .seq (.block 1 <|
        .seq (.reg false [.op .none 10 (.mv (.t 0)),
          .op .none 11 (.mv (.t 3)),
          .op .none 12 (.six (.t 10) (.t 11)),
          .op .none 13 (.bin .lss (.t 12) (.c (.w (.int .u8 33)))),
          .op .none 14 (.mv (.t 13)),
          .op (.some (14, false)) 15 (.mv (.t 0)),
          .op (.some (14, false)) 16 (.mv (.t 3)),
          .op (.some (14, false)) 17 (.six (.t 15) (.t 16)),
          .op (.some (14, false)) 18 (.bin .gtr (.t 17) (.c (.w (.int .u8 126)))),
          .op .none 19 (.pick (.t 14) (.c (.w (.bool true))) (.t 18)),
          .op .none 20 (.mv (.t 19)),
          .op (.some (20, false)) 21 (.mv (.t 0)),
          .op (.some (20, false)) 22 (.mv (.t 3)),
          .op (.some (20, false)) 23 (.six (.t 21) (.t 22)),
          .op (.some (20, false)) 24 (.bin .eql (.t 23) (.c (.w (.int .u8 60)))),
          .op .none 25 (.pick (.t 20) (.c (.w (.bool true))) (.t 24)),
          .op .none 26 (.mv (.t 25)),
          .op (.some (26, false)) 27 (.mv (.t 0)),
          .op (.some (26, false)) 28 (.mv (.t 3)),
          .op (.some (26, false)) 29 (.six (.t 27) (.t 28)),
          .op (.some (26, false)) 30 (.bin .eql (.t 29) (.c (.w (.int .u8 62)))),
          .op .none 31 (.pick (.t 26) (.c (.w (.bool true))) (.t 30))]) <|
        .cond (.t 31)
          (.seq (.reg false [.op .none 2 (.mv (.c (.w (.bool false))))]) <|
          .ret)
          (.skip)) <|
      .reg false [.op .none 8 (.mv (.t 3)),
        .op .none 9 (.bin .add (.t 8) (.c (.w (.int .i64 1)))),
        .op .none 3 (.mv (.t 9))]) <|
  .seq (.reg false [.op .none 32 (.mv (.t 0)),
    .op .none 33 (.len true (.t 32)),
    .op .none 34 (.bin .geq (.t 33) (.c (.w (.int .i64 1)))),
    .op .none 35 (.mv (.t 34)),
    .op (.some (35, true)) 36 (.mv (.t 0)),
    .op (.some (35, true)) 37 (.len true (.t 36)),
    .op (.some (35, true)) 38 (.bin .leq (.t 37) (.c (.w (.int .i64 16)))),
    .op .none 39 (.pick (.t 35) (.t 38) (.c (.w (.bool false)))),
    .op .none 2 (.mv (.t 39))]) <|
  .ret
theorem k95 : FnCode Tryz.prog 95 [] 40 [2] c95 := ⟨Tryz.f95, Tryz.func95, fun xs W => Tryz.call95 xs W, by kernel_rfl, by kernel_rfl, by kernel_rfl⟩

/-- ablaut/ablautref01.anyLong -/
def c71 : MC :=
  .seq (.reg false [.op .none 2 (.mv (.c (.w (.bool false))))]) <|
  .seq (.seq (.reg false [.op .none 3 (.mv (.c (.w (.int .i64 0))))]) <|
  .block 0 <|
    .loop <|
      .seq (.seq (.reg false [.op .none 4 (.mv (.t 3)),
        .op .none 5 (.mv (.t 0)),
        .op .none 6 (.len false (.t 5)),
        .op .none 7 (.bin .lss (.t 4) (.t 6))]) <|
      .cond (.t 7)
        (.skip)
        (.exit 0)) <|
      .seq (.block 1 <|
        .seq (.reg false [.op .none 10 (.mv (.t 0)),
          .op .none 11 (.mv (.t 3)),
          .op .none 12 (.ia 1 (.t 10) (.t 11)),
          .op .none 13 (.ld false 1 (.t 12)),
          .op .none 14 (.len true (.t 13)),
          .op .none 15 (.bin .gtr (.t 14) (.c (.w (.int .i64 16))))]) <|
        .cond (.t 15)
          (.seq (.reg false [.op .none 2 (.mv (.c (.w (.bool true))))]) <|
          .ret)
          (.skip)) <|
      .reg false [.op .none 8 (.mv (.t 3)),
        .op .none 9 (.bin .add (.t 8) (.c (.w (.int .i64 1)))),
        .op .none 3 (.mv (.t 9))]) <|
  .seq (.reg false [.op .none 2 (.mv (.c (.w (.bool false))))]) <|
  .ret
theorem k71 : FnCode Tryz.prog 71 [] 16 [2] c71 := ⟨Tryz.f71, Tryz.func71, fun xs W => Tryz.call71 xs W, by kernel_rfl, by kernel_rfl, by kernel_rfl⟩

/-- ablaut/ablautref01.allSymbols -/
def c72 : MC :=
  .seq (.reg false [.op .none 2 (.mv (.c (.w (.bool false))))]) <|
  .seq (.seq (.reg false [.op .none 3 (.mv (.c (.w (.int .i64 0))))]) <|
  .block 0 <|
    .loop <|
      .seq (.seq (.reg false [.op .none 4 (.mv (.t 3)),
        .op .none 5 (.mv (.t 0)),
        .op .none 6 (.len false (.t 5)),
        .op .none 7 (.bin .lss (.t 4) (.t 6))]) <|
      .cond (.t 7)
        (.skip)
        (.exit 0)) <|
      .seq (.block 1 <|
        .seq (.reg false [.op .none 10 (.mv (.t 0)),
          .op .none 11 (.mv (.t 3)),
          .op .none 12 (.ia 1 (.t 10) (.t 11)),
          .op .none 13 (.ld false 1 (.t 12)),
          .call .none 14 (.f 95) [(.t 13)],
          .op .none 15 (.un .not (.t 14))]) <|
        .cond (.t 15)
          (.seq (.reg false [.op .none 2 (.mv (.c (.w (.bool false))))]) <|
          .ret)
          (.skip)) <|
      .reg false [.op .none 8 (.mv (.t 3)),
        .op .none 9 (.bin .add (.t 8) (.c (.w (.int .i64 1)))),
        .op .none 3 (.mv (.t 9))]) <|
  .seq (.reg false [.op .none 2 (.mv (.c (.w (.bool true))))]) <|
  .ret
theorem k72 : FnCode Tryz.prog 72 [] 16 [2] c72 := ⟨Tryz.f72, Tryz.func72, fun xs W => Tryz.call72 xs W, by kernel_rfl, by kernel_rfl, by kernel_rfl⟩

/-- ablaut/ablautref01.ValidateWord -/
def c35 : MC :=
  .seq (.reg false [.op .none 2 (.mv (.c (.w (.int .i64 0))))]) <|
  .seq (.seq (.reg false [.op .none 3 (.mv (.t 0)),
    .op .none 4 (.len false (.t 3)),
    .op .none 5 (.bin .gtr (.t 4) (.c (.w (.int .i64 60)))),
    .op .none 6 (.mv (.t 5)),
    .op (.some (6, false)) 7 (.mv (.t 0)),
    .call (.some (6, false)) 8 (.f 71) [(.t 7)],
    .op .none 9 (.pick (.t 6) (.c (.w (.bool true))) (.t 8))]) <|
  .cond (.t 9)
    (.seq (.reg false [.op .none 2 (.mv (.c (.w (.int .i64 3))))]) <|
    .ret)
    (.skip)) <|
  .seq (.seq (.reg false [.op .none 10 (.mv (.t 0)),
    .call .none 11 (.f 72) [(.t 10)],
    .op .none 12 (.un .not (.t 11))]) <|
  .cond (.t 12)
    (.seq (.reg false [.op .none 2 (.mv (.c (.w (.int .i64 1))))]) <|
    .ret)
    (.skip)) <|
  .seq (.reg false [.op .none 2 (.mv (.c (.w (.int .i64 0))))]) <|
  .ret
theorem k35 : FnCode Tryz.prog 35 [] 13 [2] c35 := ⟨Tryz.f35, Tryz.func35, fun xs W => Tryz.call35 xs W, by kernel_rfl, by kernel_rfl, by kernel_rfl⟩

/-- ablaut/ablautref01.Order -/
def c37 : MC :=
  .seq (.reg false [.op .none 4 (.mv (.c (.w (.int .i64 0))))]) <|
  .seq (.seq (.reg false [.op .none 5 (.mv (.c (.w (.int .i64 0))))]) <|
  .block 0 <|
    .loop <|
      .seq (.seq (.reg false [.op .none 6 (.mv (.t 5)),
        .op .none 7 (.mv (.t 0)),
        .op .none 8 (.len false (.t 7)),
        .op .none 9 (.bin .lss (.t 6) (.t 8)),
        .op .none 10 (.mv (.t 9)),
        .op (.some (10, true)) 11 (.mv (.t 5)),
        .op (.some (10, true)) 12 (.mv (.t 1)),
        .op (.some (10, true)) 13 (.len false (.t 12)),
        .op (.some (10, true)) 14 (.bin .lss (.t 11) (.t 13)),
        .op .none 15 (.pick (.t 10) (.t 14) (.c (.w (.bool false))))]) <|
      .cond (.t 15)
        (.skip)
        (.exit 0)) <|
      .seq (.block 1 <|
        .seq (.seq (.reg true [.op .none 18 (.mv (.t 0)),
          .op .none 19 (.mv (.t 5)),
          .op .none 20 (.ia 1 (.t 18) (.t 19)),
          .op .none 21 (.ld false 1 (.t 20)),
          .op .none 22 (.mv (.t 1)),
          .op .none 23 (.mv (.t 5)),
          .op .none 24 (.ia 1 (.t 22) (.t 23)),
          .op .none 25 (.ld false 1 (.t 24)),
          .op .none 26 (.bin .lss (.t 21) (.t 25))]) <|
        .cond (.t 26)
          (.seq (.reg false [.op .none 4 (.mv (.c (.w (.int .i64 (-1)))))]) <|
          .ret)
          (.skip)) <|
        .seq (.reg true [.op .none 27 (.mv (.t 0)),
          .op .none 28 (.mv (.t 5)),
          .op .none 29 (.ia 1 (.t 27) (.t 28)),
          .op .none 30 (.ld false 1 (.t 29)),
          .op .none 31 (.mv (.t 1)),
          .op .none 32 (.mv (.t 5)),
          .op .none 33 (.ia 1 (.t 31) (.t 32)),
          .op .none 34 (.ld false 1 (.t 33)),
          .op .none 35 (.bin .gtr (.t 30) (.t 34))]) <|
        .cond (.t 35)
          (.seq (.reg false [.op .none 4 (.mv (.c (.w (.int .i64 1))))]) <|
          .ret)
          (.skip)) <|
      .reg false [.op .none 16 (.mv (.t 5)),
        .op .none 17 (.bin .add (.t 16) (.c (.w (.int .i64 1)))),
        .op .none 5 (.mv (.t 17))]) <|
  .seq (.block 2 <|
    .seq (.reg false [.op .none 37 (.mv (.t 0)),
      .op .none 38 (.len false (.t 37)),
      .op .none 39 (.mv (.t 1)),
      .op .none 40 (.len false (.t 39)),
      .op .none 41 (.bin .lss (.t 38) (.t 40)),
      .op .none 36 (.mv (.t 41))]) <|
    .cond (.t 36)
      (.seq (.reg false [.op .none 4 (.mv (.c (.w (.int .i64 (-1)))))]) <|
      .ret)
      (.seq (.reg false [.op .none 43 (.mv (.t 0)),
        .op .none 44 (.len false (.t 43)),
        .op .none 45 (.mv (.t 1)),
        .op .none 46 (.len false (.t 45)),
        .op .none 47 (.bin .gtr (.t 44) (.t 46)),
        .op .none 42 (.mv (.t 47))]) <|
      .cond (.t 42)
        (.seq (.reg false [.op .none 4 (.mv (.c (.w (.int .i64 1))))]) <|
        .ret)
        (.skip))) <|
  .seq (.reg false [.op .none 4 (.mv (.c (.w (.int .i64 0))))]) <|
  .ret
theorem k37 : FnCode Tryz.prog 37 [] 48 [4] c37 := ⟨Tryz.f37, Tryz.func37, fun xs W => Tryz.call37 xs W, by kernel_rfl, by kernel_rfl, by kernel_rfl⟩

/-- ablaut/ablautref01.Same -/
def c12 : MC :=
  .seq (.reg false [.op .none 4 (.mv (.c (.w (.bool false))))]) <|
  .seq (.reg false [.op .none 5 (.mv (.t 0)),
    .op .none 6 (.mv (.t 1)),
    .call .none 7 (.f 37) [(.t 5), (.t 6)],
    .op .none 8 (.bin .eql (.t 7) (.c (.w (.int .i64 0)))),
    .op .none 4 (.mv (.t 8))]) <|
  .ret
theorem k12 : FnCode Tryz.prog 12 [] 9 [4] c12 := ⟨Tryz.f12, Tryz.func12, fun xs W => Tryz.call12 xs W, by kernel_rfl, by kernel_rfl, by kernel_rfl⟩

def symS (s : Bs) : Bool := decide (s.length ≤ 16) && sym0 s
theorem fok95 (s : Bs) (hs : s.length ≤ 200000000000000) : FOk Tryz.prog 95 [.S s] [] (.B (symS s)) [] := by
  refine FOk.val k95 (by simp) (by simp) (by decide) ?_
  simp [c95]
  refine Run.loopA (ι := Nat) [] (fun i => i ≤ s.length ∧ (s.drop i).all symC = s.all symC) (fun i => ⟨[(0, .S s), (3, .I i)], [], 1024⟩) (fun i => s.length - i) 0 (by decide) (by simp) ⟨by omega, by simp⟩ ?_
  rintro i ⟨hi, hall⟩ ih
  by_cases h : i < s.length
  · rw [drop_at h, List.all_cons] at hall
    simp (disch := omega) [h, wrap_i64]
    repeat' (first | refine And.intro ?_ ?_ | intro _)
    all_goals first
      | (have hc : symC s[i] = true := by simp [symC] <;> omega
         exact ih (i + 1) _ ⟨by omega, by simpa [hc] using hall⟩ (by omega) (by simp))
      | (have hc : symC s[i] = false := by simp [symC] <;> omega
         rw [hc, Bool.false_and] at hall
         exact Ends.v rfl (by simp [symS, sym0, ← hall]))
  · rw [drop_no h] at hall
    simp only [List.all_nil] at hall
    simp [h]
    refine ⟨fun h1 => Ends.v rfl ?_, fun h1 => Ends.v rfl ?_⟩
    · have : s ≠ [] := by rintro rfl; simp at h1
      simp [symS, sym0, ← hall, this]
    · have : s = [] := by cases s with
        | nil => rfl
        | cons a s => simp at h1
      subst this; simp [symS, sym0]

theorem fok71 (w : List Bs) (hw : w.length ≤ 200000000000000) : FOk Tryz.prog 71 [.v (.word w)] [] (.B (longW w)) [] := by
  refine FOk.val k71 (by simp) (by simp) (by decide) ?_
  simp [c71]
  refine Run.loopA (ι := Nat) [] (fun i => i ≤ w.length ∧ longW (w.drop i) = longW w) (fun i => ⟨[(0, .v (.word w)), (3, .I i)], [], 1024⟩) (fun i => w.length - i) 0 (by decide) (by simp) ⟨by omega, by simp⟩ ?_
  rintro i ⟨hi, hall⟩ ih
  by_cases h : i < w.length
  · rw [drop_at h] at hall
    simp only [longW, List.any_cons] at hall
    simp (disch := omega) [h, wrap_i64]
    refine ⟨fun h1 => ?_, fun h1 => ?_⟩
    · exact Ends.v rfl (by simp [longW, ← hall, h1])
    · have e : decide (16 < w[i].length) = false := by simp; omega
      rw [e] at hall
      exact ih (i + 1) _ ⟨by omega, by simpa [longW] using hall⟩ (by omega) (by simp)
  · rw [drop_no h] at hall
    simp [h]
    have hz : longW w = false := by rw [← hall]; rfl
    exact Ends.v rfl (by simp [hz])

def allSy : List Bs → Bool
  | [] => true
  | s :: w => symS s && allSy w
theorem fok72 (w : List Bs) (hw : wordS w) : FOk Tryz.prog 72 [.v (.word w)] [] (.B (allSy w)) [] := by
  refine FOk.val k72 (by simp) (by simp) (by decide) ?_
  simp [c72]
  have hl := hw.1
  refine Run.loopA (ι := Nat) [] (fun i => i ≤ w.length ∧ allSy (w.drop i) = allSy w) (fun i => ⟨[(0, .v (.word w)), (3, .I i)], [], 1024⟩) (fun i => w.length - i) 0 (by decide) (by simp) ⟨by omega, by simp⟩ ?_
  rintro i ⟨hi, hall⟩ ih
  by_cases h : i < w.length
  · rw [drop_at h] at hall
    simp only [allSy] at hall
    simp (disch := omega) [h, wrap_i64]
    refine CallG.lent rfl rfl rfl rfl (fok95 w[i] (hw.2 _ (List.getElem_mem h))) rfl ?_
    simp (disch := omega) [wrap_i64]
    refine ⟨fun h1 => ?_, fun h1 => ?_⟩
    · rw [h1] at hall
      exact Ends.v rfl (by simp [← hall])
    · rw [h1] at hall
      exact ih (i + 1) _ ⟨by omega, by simpa using hall⟩ (by omega) (by simp)
  · rw [drop_no h] at hall
    simp [h]
    exact Ends.v rfl (by simp [← hall, allSy])

theorem allSy_bad : ∀ {w : List Bs}, longW w = false → allSy w = !badW w
  | [], _ => rfl
  | s :: w, h => by
    simp only [longW, List.any_cons, Bool.or_eq_false_iff] at h
    have h1 : decide (s.length ≤ 16) = true := by have := h.1; simp at this; simpa using this
    have := allSy_bad (w := w) h.2
    simp only [allSy, symS, h1, this, badW, List.any_cons, Bool.true_and, Bool.not_or, Bool.not_not]
theorem fok35 (w : List Bs) (hw : wordS w) : FOk Tryz.prog 35 [.v (.word w)] [] (.I (vWord w)) [] := by
  refine FOk.val k35 (by simp) (by simp) (by decide) ?_
  simp [c35]
  refine ⟨fun h1 => ?_, fun h1 => Ends.v rfl (by simp [vWord, h1])⟩
  refine CallG.lent rfl rfl rfl rfl (fok71 w hw.1) rfl ?_
  simp
  refine ⟨fun h2 => Ends.v rfl (by simp [vWord, h2]), fun h2 => ?_⟩
  refine CallG.lent rfl rfl rfl rfl (fok72 w hw) rfl ?_
  simp [allSy_bad h2]
  have h1' : ¬ 60 < w.length := by omega
  exact ⟨fun h3 => Ends.v rfl (by simp [vWord, h1', h2, h3]), fun h3 => Ends.v rfl (by simp [vWord, h1', h2, h3])⟩

theorem fok37 (w v : List Bs) (hw : w.length ≤ 200000000000000) (hv : v.length ≤ 200000000000000) : FOk Tryz.prog 37 [.v (.word w), .v (.word v)] [] (.I (cmpW w v)) [] := by
  refine FOk.val k37 (by simp) (by simp) (by decide) ?_
  simp [c37]
  refine Run.loopA (ι := Nat) [] (fun i => i ≤ w.length ∧ i ≤ v.length ∧ cmpW (w.drop i) (v.drop i) = cmpW w v) (fun i => ⟨[(0, .v (.word w)), (1, .v (.word v)), (5, .I i)], [], 1024⟩) (fun i => w.length - i) 0 (by decide) (by simp) ⟨by omega, by omega, by simp⟩ ?_
  rintro i ⟨hi, hi2, hall⟩ ih
  by_cases h : i < w.length
  · rw [drop_at h] at hall
    by_cases h2 : i < v.length
    · rw [drop_at h2] at hall
      simp only [cmpW] at hall
      by_cases h3 : ltB w[i] v[i] = true
      · have e : cmpB w[i] v[i] = -1 := by simp [cmpB, h3]
        simp (disch := omega) [h, h2, wrap_i64, h3]
        exact Ends.v rfl (by simp [← hall, e])
      · by_cases h4 : w[i] = v[i]
        · have e : cmpB w[i] v[i] = 0 := cmpB_zero.2 h4
          simp (disch := omega) [h, h2, wrap_i64, h4, ltB_irrefl]
          exact ih (i + 1) _ ⟨by omega, by omega, by simpa [e] using hall⟩ (by omega) (by simp)
        · have e : cmpB w[i] v[i] = 1 := by simp [cmpB, h3, h4]
          simp (disch := omega) [h, h2, wrap_i64, h3, h4]
          exact Ends.v rfl (by simp [← hall, e])
    · rw [drop_no h2] at hall
      have h5 : ¬ w.length < v.length := by omega
      have h6 : v.length < w.length := by omega
      simp (disch := omega) [h, h2, wrap_i64, h5, h6]
      exact Ends.v rfl (by simp [← hall, cmpW])
  · rw [drop_no h] at hall
    by_cases h2 : i < v.length
    · rw [drop_at h2] at hall
      have h5 : w.length < v.length := by omega
      simp (disch := omega) [h, h2, wrap_i64, h5]
      exact Ends.v rfl (by simp [← hall, cmpW])
    · rw [drop_no h2] at hall
      have h5 : ¬ w.length < v.length := by omega
      have h6 : ¬ v.length < w.length := by omega
      simp (disch := omega) [h, h2, wrap_i64, h5, h6]
      exact Ends.v rfl (by simp [← hall, cmpW])
theorem cmpW_dec (w v : List Bs) : decide (cmpW w v = 0) = decide (w = v) := by
  by_cases h : w = v
  · subst h; simp [cmpW_self]
  · have : cmpW w v ≠ 0 := fun e => h (cmpW_zero e)
    simp [h, this]
theorem fok12 (w v : List Bs) (hw : w.length ≤ 200000000000000) (hv : v.length ≤ 200000000000000) : FOk Tryz.prog 12 [.v (.word w), .v (.word v)] [] (.B (decide (w = v))) [] := by
  refine FOk.val k12 (by simp) (by simp) (by decide) ?_
  simp [c12]
  refine CallG.lent rfl rfl rfl rfl (fok37 w v hw hv) rfl ?_
  simp
  exact Ends.v rfl (by simp [← cmpW_dec])
theorem vWord_ok {w : List Bs} (h : vWord w = 0) : w.length ≤ 60 := by
  unfold vWord at h
  by_cases h1 : 60 < w.length
  · simp [h1] at h
  · omega

end Go.Proofs
