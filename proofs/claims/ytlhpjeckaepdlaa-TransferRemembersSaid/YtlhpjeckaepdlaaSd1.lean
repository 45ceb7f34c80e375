/- The walk. -/
import Derived.Test.YtlhpjeckaepdlaaSc5
import Derived.Test.YtlhpjeckaepdlaaTs8
import Derived.Test.YtlhpjeckaepdlaaTs1
import Derived.Test.YtlhpjeckaepdlaaTr12
import Derived.Test.YtlhpjeckaepdlaaProg
import Derived.KernelRfl
set_option linter.all false
set_option maxHeartbeats 2000000
namespace Go.Proofs
open Go Go.AM
attribute [local irreducible] Run Ends
/-- ablaut/transfer.unlike -/
def c80 : MC :=
  .seq (.reg false [.op .none 4 (.mv (.c (.w (.int .i64 0))))]) <|
  .seq (.reg false [.op .none 5 (.mv (.c (.w (.int .i64 (-1)))))]) <|
  .seq (.seq (.reg false [.op .none 7 (.mv (.t 0)),
    .op .none 8 (.len false (.t 7)),
    .op .none 9 (.mv (.t 1)),
    .op .none 10 (.len false (.t 9)),
    .op .none 11 (.bin .neq (.t 8) (.t 10))]) <|
  .cond (.t 11)
    (.seq (.reg false [.op .none 4 (.mv (.c (.w (.int .i64 (-1)))))]) <|
    .ret)
    (.skip)) <|
  .seq (.seq (.reg false [.op .none 12 (.mv (.t 0)),
    .op .none 13 (.len false (.t 12)),
    .op .none 14 (.mv (.c (.w (.int .i64 0))))]) <|
  .block 0 <|
    .loop <|
      .seq (.reg false [.op .none 15 (.bin .lss (.t 14) (.t 13))]) <|
      .seq (.cond (.t 15)
        (.skip)
        (.exit 0)) <|
      .seq (.block 1 <|
        .seq (.reg false [.op .none 16 (.mv (.t 14)),
          .op .none 6 (.mv (.t 16))]) <|
        .seq (.seq (.reg true [.op .none 17 (.mv (.t 0)),
          .op .none 18 (.mv (.t 6)),
          .op .none 19 (.ia 1 (.t 17) (.t 18)),
          .op .none 20 (.ld false 1 (.t 19)),
          .op .none 21 (.mv (.t 1)),
          .op .none 22 (.mv (.t 6)),
          .op .none 23 (.ia 1 (.t 21) (.t 22)),
          .op .none 24 (.ld false 1 (.t 23)),
          .op .none 25 (.bin .eql (.t 20) (.t 24))]) <|
        .cond (.t 25)
          (.exit 1)
          (.skip)) <|
        .seq (.seq (.reg false [.op .none 26 (.mv (.t 5)),
          .op .none 27 (.bin .neq (.t 26) (.c (.w (.int .i64 (-1)))))]) <|
        .cond (.t 27)
          (.seq (.reg false [.op .none 4 (.mv (.c (.w (.int .i64 (-1)))))]) <|
          .ret)
          (.skip)) <|
        .reg false [.op .none 28 (.mv (.t 6)),
          .op .none 5 (.mv (.t 28))]) <|
      .reg false [.op .none 29 (.bin .add (.t 14) (.c (.w (.int .i64 1)))),
        .op .none 14 (.mv (.t 29))]) <|
  .seq (.reg false [.op .none 30 (.mv (.t 5)),
    .op .none 4 (.mv (.t 30))]) <|
  .ret
theorem k80 : FnCode Try.prog 80 [] 31 [4] c80 := ⟨Try.f80, Try.func80, fun xs W => Try.call80 xs W, by kernel_rfl, by kernel_rfl, by kernel_rfl⟩

/-- ablaut/ablautref28.unlike -/
def c82 : MC :=
  .seq (.reg false [.op .none 4 (.nilS 1)]) <|
  .seq (.reg false [.op .none 5 (.nilS 1)]) <|
  .seq (.seq (.reg false [.op .none 6 (.mv (.c (.w (.int .i64 0))))]) <|
  .block 0 <|
    .loop <|
      .seq (.seq (.reg false [.op .none 7 (.mv (.t 6)),
        .op .none 8 (.mv (.t 0)),
        .op .none 9 (.len false (.t 8)),
        .op .none 10 (.bin .lss (.t 7) (.t 9))]) <|
      .cond (.t 10)
        (.skip)
        (.exit 0)) <|
      .seq (.block 1 <|
        .seq (.reg true [.op .none 13 (.mv (.t 0)),
          .op .none 14 (.mv (.t 6)),
          .op .none 15 (.ia 1 (.t 13) (.t 14)),
          .op .none 16 (.ld false 1 (.t 15)),
          .op .none 17 (.mv (.t 1)),
          .op .none 18 (.mv (.t 6)),
          .op .none 19 (.ia 1 (.t 17) (.t 18)),
          .op .none 20 (.ld false 1 (.t 19)),
          .op .none 21 (.bin .neq (.t 16) (.t 20))]) <|
        .cond (.t 21)
          (.reg false [.op .none 22 (.mv (.t 5)),
            .op .none 23 (.mv (.t 6)),
            .op .none 24 (.buildS false 1 1 false [(.w (.int .i64 0))] [(0, (.t 23))]),
            .op .none 25 (.app 1 8 (.t 22) (.t 24)),
            .op .none 5 (.mv (.t 25))])
          (.skip)) <|
      .reg false [.op .none 11 (.mv (.t 6)),
        .op .none 12 (.bin .add (.t 11) (.c (.w (.int .i64 1)))),
        .op .none 6 (.mv (.t 12))]) <|
  .seq (.reg false [.op .none 26 (.mv (.t 5)),
    .op .none 4 (.mv (.t 26))]) <|
  .ret
theorem k82 : FnCode Try.prog 82 [] 27 [4] c82 := ⟨Try.f82, Try.func82, fun xs W => Try.call82 xs W, by kernel_rfl, by kernel_rfl, by kernel_rfl⟩

abbrev KnownT : Type := List Bs × List Bs × Unit
def knownV : KnownT → PV := fun (a, b, _) => .st [.word a, .word b]
/-- The places where two lists are unlike. -/
def dfI : List Bs → List Bs → Nat → List Nat
  | x :: a, y :: b, i => if x = y then dfI a b (i + 1) else i :: dfI a b (i + 1)
  | _, _, _ => []
def unF (a b : List Bs) : Int := if a.length ≠ b.length then -1 else match dfI a b 0 with
  | [i] => i
  | _ => -1
theorem dfI_ge : ∀ (a b : List Bs) (i : Nat), ∀ k ∈ dfI a b i, i ≤ k ∧ k < i + a.length ∧ k < i + b.length
  | x :: a, y :: b, i, k, hk => by
    simp only [dfI] at hk
    split at hk
    · have := dfI_ge a b (i + 1) k hk
      simp; omega
    · rcases List.mem_cons.1 hk with rfl | hk
      · simp
      · have := dfI_ge a b (i + 1) k hk
        simp; omega
  | [], _, _, k, hk => by simp [dfI] at hk
  | _ :: _, [], _, k, hk => by simp [dfI] at hk
theorem fok80 (a b : List Bs) (ha : a.length ≤ 200000000000000) (hb : b.length ≤ 200000000000000) : FOk Try.prog 80 [.v (.word a), .v (.word b)] [] (.I (unF a b)) [] := by
  refine FOk.val k80 (by simp) (by simp) (by decide) ?_
  unfold unF
  generalize hres : (if a.length ≠ b.length then (-1 : Int) else match dfI a b 0 with | [i] => (i : Int) | _ => -1) = res
  simp [c80]
  by_cases hl : a.length = b.length
  case neg =>
    rw [if_pos hl] at hres
    subst hres
    have hl' : ¬ (a.length : Int) = b.length := by omega
    simp [hl']
    exact Ends.v rfl (by simp)
  rw [if_neg (by simpa using hl)] at hres
  have hl' : (a.length : Int) = b.length := by omega
  simp [hl']
  refine Run.loopA (ι := Nat × Option Nat) [] (fun q => q.1 ≤ a.length ∧ (∀ k, q.2 = some k → k < a.length) ∧ (match q.2 with | none => [] | some k => [k]) ++ dfI (a.drop q.1) (b.drop q.1) q.1 = dfI a b 0) (fun q => ⟨[(0, .v (.word a)), (1, .v (.word b)), (5, .I (match q.2 with | none => -1 | some k => (k : Int))), (13, .I b.length), (14, .I q.1)], [], 1024⟩) (fun q => a.length - q.1) (0, none) (by decide) (by simp [hl']) ⟨by simp, by simp, by simp⟩ ?_
  rintro ⟨i, o⟩ ⟨hi, ho, hall⟩ ih
  simp only at hi ho hall ih
  by_cases h : i < a.length
  · have hbi : i < b.length := by omega
    rw [drop_at h, drop_at hbi] at hall
    simp only [dfI] at hall
    by_cases q : a[i] = b[i]
    · rw [if_pos q] at hall
      cases o
      all_goals
        simp (disch := omega) [h, hbi, q, wrap_i64]
      · exact ih (i + 1, none) _ ⟨by simp; omega, by simp, hall⟩ (by simp; omega) (by simp)
      · exact ih (i + 1, some _) _ ⟨by simp; omega, by simpa using ho, hall⟩ (by simp; omega) (by simp)
    · rw [if_neg q] at hall
      cases o with
      | none =>
        simp (disch := omega) [h, hbi, q, wrap_i64]
        exact ih (i + 1, some i) _ ⟨by simp; omega, by simp; exact h, by simpa using hall⟩ (by simp; omega) (by simp)
      | some k =>
        rw [← hall] at hres
        simp only [List.cons_append, List.nil_append] at hres
        subst hres
        have hk : ¬ (k : Int) = -1 := by omega
        simp (disch := omega) [h, hbi, q, hk, wrap_i64]
        exact Ends.v rfl (by simp)
  · have hbi : ¬ i < b.length := by omega
    rw [drop_no h] at hall
    simp only [dfI, List.append_nil] at hall
    rw [← hall] at hres
    cases o with
    | none =>
      simp only at hres
      subst hres
      simp [h, hbi]
      exact Ends.v rfl (by simp)
    | some k =>
      simp only at hres
      subst hres
      simp [h, hbi]
      exact Ends.v rfl (by simp)
theorem fok82 (a b : List Bs) (hab : a.length = b.length) (ha : a.length ≤ 1000000) : FOk Try.prog 82 [.v (.word a), .v (.word b)] [] (.v (.sl 1 ((dfI a b 0).map fun k : Nat => .i k))) [] := by
  refine FOk.val k82 (by simp) (by simp) (by decide) ?_
  generalize hres : dfI a b 0 = res
  simp [c82]
  refine Run.loopA (ι := Nat × List Nat) [(1, 5)] (fun q => q.1 ≤ a.length ∧ q.2.length ≤ q.1 ∧ q.2 ++ dfI (a.drop q.1) (b.drop q.1) q.1 = res) (fun q => ⟨[(0, .v (.word a)), (1, .v (.word b)), (5, .h 1), (6, .I q.1)], [(1, ⟨false, 1, q.2.map fun k : Nat => .i k⟩)], 1024⟩) (fun q => a.length - q.1) (0, []) (by decide) (by simp) ⟨by simp, by simp, by simpa using hres⟩ ?_
  rintro ⟨i, L⟩ ⟨hi, hL, hall⟩ ih
  simp only at hi hL hall ih
  by_cases h : i < a.length
  · have hbi : i < b.length := by omega
    rw [drop_at h, drop_at hbi] at hall
    simp only [dfI] at hall
    by_cases q : a[i] = b[i]
    · rw [if_pos q] at hall
      simp (disch := omega) [h, hbi, q, wrap_i64]
      exact ih (i + 1, L) _ ⟨by simp; omega, by simp; omega, hall⟩ (by simp; omega) (by simp)
    · rw [if_neg q] at hall
      have hbl : (L.length + 1 + 1000) * 8 ≤ 70368744177664 := by omega
      simp (disch := (clear hbl; omega)) [h, hbi, q, wrap_i64, hbl]
      clear hbl
      exact ih (i + 1, L ++ [i]) _ ⟨by simp; omega, by simp; omega, by simpa using hall⟩ (by simp; omega) (by simp)
  · rw [drop_no h] at hall
    simp only [dfI, List.append_nil] at hall
    subst hall
    simp [h]
    exact Ends.v rfl (by simp)

end Go.Proofs
