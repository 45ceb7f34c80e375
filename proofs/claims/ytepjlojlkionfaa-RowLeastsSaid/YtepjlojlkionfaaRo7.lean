/- The walk. -/
import Derived.Test.YtepjlojlkionfaaRo6
import Derived.Test.YtepjlojlkionfaaProg
import Derived.KernelRfl
set_option linter.all false
set_option maxHeartbeats 2000000
namespace Go.Proofs
open Go Go.AM
attribute [local irreducible] Run Ends
/-- slices.Clone[[]int,int] -/
def c46 : MC :=
  .seq (.reg false [.op .none 2 (.nilS 1)]) <|
  .seq (.seq (.reg false [.op .none 3 (.mv (.t 0)),
    .op .none 4 (.nilq false (.t 3))]) <|
  .cond (.t 4)
    (.seq (.reg false [.op .none 2 (.nilS 1)]) <|
    .ret)
    (.skip)) <|
  .seq (.reg false [.op .none 5 (.buildS false 1 0 false [(.w (.int .i64 0))] []),
    .op .none 6 (.mv (.t 0)),
    .op .none 7 (.app 1 8 (.t 5) (.t 6)),
    .op .none 2 (.mv (.t 7))]) <|
  .ret
theorem k46 : FnCode Try.prog 46 [] 8 [2] c46 := ⟨Try.f46, Try.func46, fun xs W => Try.call46 xs W, by kernel_rfl, by kernel_rfl, by kernel_rfl⟩

/-- ablaut/row.least[int] -/
def c60 : MC :=
  .seq (.reg false [.op .none 4 (.mv (.c (.w (.int .i64 0)))),
    .op .none 5 (.mv (.c (.w (.bool false))))]) <|
  .seq (.reg false [.op .none 6 (.mv (.c (.w (.int .i64 0))))]) <|
  .seq (.reg false [.op .none 7 (.mv (.c (.w (.bool false))))]) <|
  .seq (.seq (.reg false [.op .none 10 (.mv (.t 0)),
    .op .none 11 (.len false (.t 10)),
    .op .none 12 (.mv (.c (.w (.int .i64 0))))]) <|
  .block 0 <|
    .loop <|
      .seq (.reg false [.op .none 13 (.bin .lss (.t 12) (.t 11))]) <|
      .seq (.cond (.t 13)
        (.skip)
        (.exit 0)) <|
      .seq (.block 1 <|
        .seq (.reg false [.op .none 14 (.ia 1 (.t 10) (.t 12)),
          .op .none 15 (.ld false 1 (.t 14)),
          .op .none 9 (.mv (.t 15))]) <|
        .seq (.reg false [.op .none 16 (.mv (.t 7)),
          .op .none 17 (.un .not (.t 16)),
          .op .none 18 (.mv (.t 17)),
          .op (.some (18, false)) 19 (.mv (.t 1)),
          .op (.some (18, false)) 20 (.mv (.t 9)),
          .call (.some (18, false)) 21 (.t 19) [(.t 20)],
          .op (.some (18, false)) 22 (.mv (.t 1)),
          .op (.some (18, false)) 23 (.mv (.t 6)),
          .call (.some (18, false)) 24 (.t 22) [(.t 23)],
          .op (.some (18, false)) 25 (.bin .lss (.t 21) (.t 24)),
          .op .none 26 (.pick (.t 18) (.c (.w (.bool true))) (.t 25))]) <|
        .cond (.t 26)
          (.reg false [.op .none 27 (.mv (.t 9)),
            .op .none 6 (.mv (.t 27)),
            .op .none 7 (.mv (.c (.w (.bool true))))])
          (.skip)) <|
      .reg false [.op .none 28 (.bin .add (.t 12) (.c (.w (.int .i64 1)))),
        .op .none 12 (.mv (.t 28))]) <|
  .seq (.reg false [.op .none 29 (.mv (.t 6)),
    .op .none 30 (.mv (.t 7)),
    .op .none 4 (.mv (.t 29)),
    .op .none 5 (.mv (.t 30))]) <|
  .ret
theorem k60 : FnCode Try.prog 60 [] 31 [4, 5] c60 := ⟨Try.f60, Try.func60, fun xs W => Try.call60 xs W, by kernel_rfl, by kernel_rfl, by kernel_rfl⟩

/-- ablaut/row.rest$1 -/
def c84 : MC :=
  .seq (.reg false [.op .none 2 (.mv (.c (.w (.int .i64 0))))]) <|
  .seq (.reg false [.op .none 3 (.mv (.t 0)),
    .op .none 2 (.mv (.t 3))]) <|
  .ret
theorem k84 : FnCode Try.prog 84 [] 4 [2] c84 := ⟨Try.f84, Try.func84, fun xs W => Try.call84 xs W, by kernel_rfl, by kernel_rfl, by kernel_rfl⟩

theorem fokO46 (w : List Int) (hw : w.length ≤ 1000000000) : FOk Try.prog 46 [.v (intsV w)] [] (.h 0) [(0, ⟨false, 1, w.map .i⟩)] := by
  refine FOk.of k46 0 (by simp) (by decide) (by simp) (by simp) (by simp [find]) (by decide) ?_
  rcases w with _ | ⟨s, w⟩
  · simp [c46, intsV]
    exact ⟨Ends.new 17410 rfl rfl (by simp) (by simp), Ends.new 17415 rfl rfl (by simp) (by simp)⟩
  · have h2 : (w.length + 1 + 1000) * 8 ≤ 70368744177664 := by simp at hw; omega
    simp [c46, intsV, h2]
    exact Ends.new 17415 rfl rfl (by simp) (by simp)
def lstO : Option Int → List Int → Option Int
  | b, [] => b
  | none, x :: l => lstO (some x) l
  | some b, x :: l => lstO (some (if x < b then x else b)) l
def oI : Option Int → Int
  | none => 0
  | some b => b
theorem fok84 (x : Int) : FOk Try.prog 84 [.I x] [] (.I x) [] := by
  refine FOk.val k84 (by simp) (by simp) (by decide) ?_
  simp [c84]
  exact Ends.v rfl (by simp)
theorem fok60 (l : List Int) (hl : l.length ≤ 1000000000) : FOk Try.prog 60 [.v (intsV l), .fn 84 []] [] (.tup [.I (oI (lstO none l)), .B (lstO none l).isSome]) [] := by
  refine FOk.val k60 (by simp) (by simp) (by decide) ?_
  simp [c60, intsV]
  refine Run.loopA (ι := Nat × Option Int) [] (fun q => q.1 ≤ l.length ∧ lstO q.2 (l.drop q.1) = lstO none l) (fun q => ⟨[(1, .fn 84 []), (6, .I (oI q.2)), (7, .B q.2.isSome), (10, .v (.sl 1 (l.map .i))), (11, .I l.length), (12, .I q.1)], [], 1024⟩) (fun q => l.length - q.1) (0, none) (by decide) (by simp [oI]) ⟨by simp, by simp⟩ ?_
  rintro ⟨i, b⟩ ⟨hi, hall⟩ ih
  simp only at hi hall ih
  by_cases h : i < l.length
  · rw [drop_at h] at hall
    have r1 := fok84 l[i]
    generalize hx : l[i] = x at r1 hall
    cases b with
    | none =>
      simp only [lstO] at hall
      simp (disch := omega) [h, hx, wrap_i64]
      exact ih (i + 1, some x) _ ⟨by simp; omega, hall⟩ (by simp; omega) (by simp [oI])
    | some b =>
      have r2 := fok84 b
      simp only [lstO] at hall
      simp (disch := omega) [h, hx, wrap_i64, oI]
      refine CallG.lent rfl rfl rfl rfl r1 rfl ?_
      simp (disch := omega) [wrap_i64]
      refine CallG.lent rfl rfl rfl rfl r2 rfl ?_
      by_cases hlt : x < b
      · rw [if_pos hlt] at hall
        have hlt' : ¬ b ≤ x := by omega
        simp (disch := omega) [wrap_i64, hlt, hlt']
        exact ih (i + 1, some x) _ ⟨by simp; omega, hall⟩ (by simp; omega) (by simp [oI])
      · rw [if_neg hlt] at hall
        have hlt' : b ≤ x := by omega
        simp (disch := omega) [wrap_i64, hlt, hlt']
        exact ih (i + 1, some b) _ ⟨by simp; omega, hall⟩ (by simp; omega) (by simp [oI])
  · rw [drop_no h] at hall
    have hall : b = lstO none l := by rw [← hall]; cases b <;> rfl
    subst hall
    simp [h]
    exact Ends.v rfl (by simp)

end Go.Proofs
