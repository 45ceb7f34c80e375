/- The walk. -/
import Derived.Test.YtphjjlhpepmofaaR1
import Derived.Test.YtphjjlhpepmofaaProg
import Derived.KernelRfl
set_option linter.all false
set_option maxHeartbeats 2000000
namespace Go.Proofs
open Go Go.AM
attribute [local irreducible] Run Ends
/-- ablaut/ablautref01.Words -/
def c59 : MC :=
  .seq (.reg false [.op .none 2 (.mv (.c (.w (.int .i64 0))))]) <|
  .seq (.seq (.reg false [.op .none 3 (.mv (.c (.w (.int .i64 0))))]) <|
  .block 0 <|
    .loop <|
      .seq (.seq (.reg false [.op .none 5 (.mv (.t 3)),
        .op .none 6 (.mv (.t 0)),
        .op .none 7 (.len false (.t 6)),
        .op .none 8 (.bin .lss (.t 5) (.t 7))]) <|
      .cond (.t 8)
        (.skip)
        (.exit 0)) <|
      .seq (.block 1 <|
        .seq (.reg false [.op .none 11 (.mv (.t 0)),
          .op .none 12 (.mv (.t 3)),
          .op .none 13 (.ia 1 (.t 11) (.t 12)),
          .op .none 14 (.ld false 1 (.t 13)),
          .call .none 15 (.f 48) [(.t 14)],
          .op .none 4 (.mv (.t 15))]) <|
        .seq (.reg false [.op .none 16 (.mv (.t 4)),
          .op .none 17 (.bin .neq (.t 16) (.c (.w (.int .i64 0))))]) <|
        .cond (.t 17)
          (.seq (.reg false [.op .none 18 (.mv (.t 4)),
            .op .none 2 (.mv (.t 18))]) <|
          .ret)
          (.skip)) <|
      .reg false [.op .none 9 (.mv (.t 3)),
        .op .none 10 (.bin .add (.t 9) (.c (.w (.int .i64 1)))),
        .op .none 3 (.mv (.t 10))]) <|
  .seq (.reg false [.op .none 2 (.mv (.c (.w (.int .i64 0))))]) <|
  .ret
theorem k59 : FnCode Try.prog 59 [] 19 [2] c59 := ⟨Try.f59, Try.func59, fun xs W => Try.call59 xs W, by kernel_rfl, by kernel_rfl, by kernel_rfl⟩

/-- A row of words. -/
def _root_.Go.AM.PV.words (l : List (List Bs)) : PV := .sl 1 (l.map PV.word)
/-- What is wrong with the first word that is wrong. -/
def vWds : List (List Bs) → Int
  | [] => 0
  | w :: l => if vWord w = 0 then vWds l else vWord w
theorem vWds_ok : ∀ {l : List (List Bs)}, vWds l = 0 → ∀ w ∈ l, w.length ≤ 60
  | [], _, w, hw => by cases hw
  | v :: l, h, w, hw => by
    simp only [vWds] at h
    split at h
    · rename_i h1
      rcases List.mem_cons.1 hw with rfl | hw
      · exact vWord_ok h1
      · exact vWds_ok h w hw
    · rename_i h1; exact absurd h h1
def wsB (l : List (List Bs)) : Prop := l.length ≤ 1000000000 ∧ ∀ w ∈ l, wordS w
theorem fok59 (l : List (List Bs)) (hl : wsB l) : FOk Try.prog 59 [.v (.words l)] [] (.I (vWds l)) [] := by
  have hl1 := hl.1
  refine FOk.val k59 (by simp) (by simp) (by decide) ?_
  simp [c59, PV.words]
  refine Run.loopA (ι := Nat) [] (fun i => i ≤ l.length ∧ vWds (l.drop i) = vWds l) (fun i => ⟨[(0, .v (.words l)), (3, .I i)], [], 1024⟩) (fun i => l.length - i) 0 (by decide) (by simp [PV.words]) ⟨by omega, by simp⟩ ?_
  rintro i ⟨hi, hall⟩ ih
  by_cases h : i < l.length
  · rw [drop_at h] at hall
    simp only [vWds] at hall
    simp (disch := omega) [h, wrap_i64, PV.words]
    refine CallG.lent rfl rfl rfl rfl (fok48 l[i] (hl.2 _ (List.getElem_mem h))) rfl ?_
    by_cases hv : vWord l[i] = 0
    · rw [if_pos hv] at hall
      simp (disch := omega) [wrap_i64, hv]
      exact ih (i + 1) _ ⟨by omega, hall⟩ (by omega) (by simp [PV.words])
    · rw [if_neg hv] at hall
      simp (disch := omega) [wrap_i64, hv]
      exact Ends.v rfl (by simp [hall])
  · rw [drop_no h] at hall
    simp [h, PV.words]
    exact Ends.v rfl (by simp [← hall, vWds])


end Go.Proofs
