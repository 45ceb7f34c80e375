/- The walk. -/
import Derived.Test.YtepjlojlkionfaaRo4
import Derived.Test.YtepjlojlkionfaaProg
import Derived.KernelRfl
set_option linter.all false
set_option maxHeartbeats 2000000
namespace Go.Proofs
open Go Go.AM
attribute [local irreducible] Run Ends
/-- slices.Index[[]string,string] -/
def c51 : MC :=
  .seq (.reg false [.op .none 4 (.mv (.c (.w (.int .i64 0))))]) <|
  .seq (.seq (.reg false [.op .none 6 (.mv (.t 0)),
    .op .none 7 (.len false (.t 6)),
    .op .none 8 (.mv (.c (.w (.int .i64 0))))]) <|
  .block 0 <|
    .loop <|
      .seq (.reg false [.op .none 9 (.bin .lss (.t 8) (.t 7))]) <|
      .seq (.cond (.t 9)
        (.skip)
        (.exit 0)) <|
      .seq (.block 1 <|
        .seq (.reg false [.op .none 10 (.mv (.t 8)),
          .op .none 5 (.mv (.t 10))]) <|
        .seq (.reg false [.op .none 11 (.mv (.t 1)),
          .op .none 12 (.mv (.t 0)),
          .op .none 13 (.mv (.t 5)),
          .op .none 14 (.ia 1 (.t 12) (.t 13)),
          .op .none 15 (.ld false 1 (.t 14)),
          .op .none 16 (.bin .eql (.t 11) (.t 15))]) <|
        .cond (.t 16)
          (.seq (.reg false [.op .none 17 (.mv (.t 5)),
            .op .none 4 (.mv (.t 17))]) <|
          .ret)
          (.skip)) <|
      .reg false [.op .none 18 (.bin .add (.t 8) (.c (.w (.int .i64 1)))),
        .op .none 8 (.mv (.t 18))]) <|
  .seq (.reg false [.op .none 4 (.mv (.c (.w (.int .i64 (-1)))))]) <|
  .ret
theorem k51 : FnCode Try.prog 51 [] 19 [4] c51 := ⟨Try.f51, Try.func51, fun xs W => Try.call51 xs W, by kernel_rfl, by kernel_rfl, by kernel_rfl⟩

/-- cmp.isNaN[string] -/
def c105 : MC :=
  .seq (.reg false [.op .none 2 (.mv (.c (.w (.bool false))))]) <|
  .seq (.reg false [.op .none 3 (.mv (.t 0)),
    .op .none 4 (.mv (.t 0)),
    .op .none 5 (.bin .neq (.t 3) (.t 4)),
    .op .none 2 (.mv (.t 5))]) <|
  .ret
theorem k105 : FnCode Try.prog 105 [] 6 [2] c105 := ⟨Try.f105, Try.func105, fun xs W => Try.call105 xs W, by kernel_rfl, by kernel_rfl, by kernel_rfl⟩

/-- cmp.Compare[string] -/
def c87 : MC :=
  .seq (.reg false [.op .none 4 (.mv (.c (.w (.int .i64 0))))]) <|
  .seq (.reg false [.op .none 7 (.mv (.t 0)),
    .call .none 8 (.f 105) [(.t 7)],
    .op .none 5 (.mv (.t 8))]) <|
  .seq (.reg false [.op .none 9 (.mv (.t 1)),
    .call .none 10 (.f 105) [(.t 9)],
    .op .none 6 (.mv (.t 10))]) <|
  .seq (.seq (.reg false [.op .none 11 (.mv (.t 5))]) <|
  .cond (.t 11)
    (.seq (.seq (.reg false [.op .none 12 (.mv (.t 6))]) <|
    .cond (.t 12)
      (.seq (.reg false [.op .none 4 (.mv (.c (.w (.int .i64 0))))]) <|
      .ret)
      (.skip)) <|
    .seq (.reg false [.op .none 4 (.mv (.c (.w (.int .i64 (-1)))))]) <|
    .ret)
    (.skip)) <|
  .seq (.seq (.reg false [.op .none 13 (.mv (.t 6))]) <|
  .cond (.t 13)
    (.seq (.reg false [.op .none 4 (.mv (.c (.w (.int .i64 1))))]) <|
    .ret)
    (.skip)) <|
  .seq (.seq (.reg false [.op .none 14 (.mv (.t 0)),
    .op .none 15 (.mv (.t 1)),
    .op .none 16 (.bin .lss (.t 14) (.t 15))]) <|
  .cond (.t 16)
    (.seq (.reg false [.op .none 4 (.mv (.c (.w (.int .i64 (-1)))))]) <|
    .ret)
    (.skip)) <|
  .seq (.seq (.reg false [.op .none 17 (.mv (.t 0)),
    .op .none 18 (.mv (.t 1)),
    .op .none 19 (.bin .gtr (.t 17) (.t 18))]) <|
  .cond (.t 19)
    (.seq (.reg false [.op .none 4 (.mv (.c (.w (.int .i64 1))))]) <|
    .ret)
    (.skip)) <|
  .seq (.reg false [.op .none 4 (.mv (.c (.w (.int .i64 0))))]) <|
  .ret
theorem k87 : FnCode Try.prog 87 [] 20 [4] c87 := ⟨Try.f87, Try.func87, fun xs W => Try.call87 xs W, by kernel_rfl, by kernel_rfl, by kernel_rfl⟩

/-- slices.BinarySearchFunc[[]ablaut/api.Worth,ablaut/api.Worth,string] -/
def c85 : MC :=
  .seq (.reg false [.op .none 6 (.mv (.c (.w (.int .i64 0)))),
    .op .none 7 (.mv (.c (.w (.bool false))))]) <|
  .seq (.reg false [.op .none 12 (.mv (.t 0)),
    .op .none 13 (.len false (.t 12)),
    .op .none 8 (.mv (.t 13))]) <|
  .seq (.reg false [.op .none 14 (.mv (.t 8)),
    .op .none 9 (.mv (.c (.w (.int .i64 0)))),
    .op .none 10 (.mv (.t 14))]) <|
  .seq (.block 0 <|
    .loop <|
      .seq (.seq (.reg false [.op .none 15 (.mv (.t 9)),
        .op .none 16 (.mv (.t 10)),
        .op .none 17 (.bin .lss (.t 15) (.t 16))]) <|
      .cond (.t 17)
        (.skip)
        (.exit 0)) <|
      .block 1 <|
        .seq (.reg false [.op .none 18 (.mv (.t 9)),
          .op .none 19 (.mv (.t 10)),
          .op .none 20 (.bin .add (.t 18) (.t 19)),
          .op .none 21 (.conv .u64 (.t 20)),
          .op .none 22 (.bin .shr (.t 21) (.c (.w (.int .u64 1)))),
          .op .none 23 (.conv .i64 (.t 22)),
          .op .none 11 (.mv (.t 23))]) <|
        .seq (.reg false [.op .none 24 (.mv (.t 2)),
          .op .none 25 (.mv (.t 0)),
          .op .none 26 (.mv (.t 11)),
          .op .none 27 (.ia 2 (.t 25) (.t 26)),
          .op .none 28 (.ld true 2 (.t 27)),
          .op .none 29 (.mv (.t 1)),
          .call .none 30 (.t 24) [(.t 28), (.t 29)],
          .op .none 31 (.bin .lss (.t 30) (.c (.w (.int .i64 0))))]) <|
        .cond (.t 31)
          (.reg false [.op .none 32 (.mv (.t 11)),
            .op .none 33 (.bin .add (.t 32) (.c (.w (.int .i64 1)))),
            .op .none 9 (.mv (.t 33))])
          (.reg false [.op .none 34 (.mv (.t 11)),
            .op .none 10 (.mv (.t 34))])) <|
  .seq (.reg false [.op .none 35 (.mv (.t 9)),
    .op .none 36 (.mv (.t 9)),
    .op .none 37 (.mv (.t 8)),
    .op .none 38 (.bin .lss (.t 36) (.t 37)),
    .op .none 39 (.mv (.t 38)),
    .op (.some (39, true)) 40 (.mv (.t 2)),
    .op (.some (39, true)) 41 (.mv (.t 0)),
    .op (.some (39, true)) 42 (.mv (.t 9)),
    .op (.some (39, true)) 43 (.ia 2 (.t 41) (.t 42)),
    .op (.some (39, true)) 44 (.ld true 2 (.t 43)),
    .op (.some (39, true)) 45 (.mv (.t 1)),
    .call (.some (39, true)) 46 (.t 40) [(.t 44), (.t 45)],
    .op (.some (39, true)) 47 (.bin .eql (.t 46) (.c (.w (.int .i64 0)))),
    .op .none 48 (.pick (.t 39) (.t 47) (.c (.w (.bool false)))),
    .op .none 6 (.mv (.t 35)),
    .op .none 7 (.mv (.t 48))]) <|
  .ret
theorem k85 : FnCode Try.prog 85 [] 49 [6, 7] c85 := ⟨Try.f85, Try.func85, fun xs W => Try.call85 xs W, by kernel_rfl, by kernel_rfl, by kernel_rfl⟩

/-- ablaut/row.costs$1 -/
def c86 : MC :=
  .seq (.reg false [.op .none 2 (.box false (.t 0)),
    .op .none 4 (.mv (.c (.w (.int .i64 0))))]) <|
  .seq (.reg false [.op .none 5 (.fa 0 (.t 2)),
    .op .none 6 (.ld false 1 (.t 5)),
    .op .none 7 (.mv (.t 1)),
    .call .none 8 (.f 87) [(.t 6), (.t 7)],
    .op .none 4 (.mv (.t 8))]) <|
  .ret
theorem k86 : FnCode Try.prog 86 [] 9 [4] c86 := ⟨Try.f86, Try.func86, fun xs W => Try.call86 xs W, by kernel_rfl, by kernel_rfl, by kernel_rfl⟩

/-- ablaut/row.costs -/
def c44 : MC :=
  .seq (.reg false [.op .none 2 (.box false (.t 0)),
    .op .none 4 (.nilS 1)]) <|
  .seq (.reg false [.op .none 8 (.fa 4 (.t 2)),
    .op .none 9 (.ld false 1 (.t 8)),
    .op .none 10 (.mv (.t 1)),
    .call .none 11 (.f 85) [(.t 9), (.t 10), (.f 86)],
    .op .none 7 (.mv (.t 11)),
    .op .none 12 (.ext (.t 7) 0),
    .op .none 13 (.ext (.t 7) 1),
    .op .none 5 (.mv (.t 12)),
    .op .none 6 (.mv (.t 13))]) <|
  .seq (.seq (.reg false [.op .none 14 (.mv (.t 6))]) <|
  .cond (.t 14)
    (.seq (.reg false [.op .none 15 (.fa 4 (.t 2)),
      .op .none 16 (.ld false 1 (.t 15)),
      .op .none 17 (.mv (.t 5)),
      .op .none 18 (.ia 2 (.t 16) (.t 17)),
      .op .none 19 (.fa 1 (.t 18)),
      .op .none 20 (.ld false 1 (.t 19)),
      .op .none 4 (.mv (.t 20))]) <|
    .ret)
    (.skip)) <|
  .seq (.reg false [.op .none 21 (.fa 5 (.t 2)),
    .op .none 22 (.ld false 1 (.t 21)),
    .op .none 4 (.mv (.t 22))]) <|
  .ret
theorem k44 : FnCode Try.prog 44 [] 23 [4] c44 := ⟨Try.f44, Try.func44, fun xs W => Try.call44 xs W, by kernel_rfl, by kernel_rfl, by kernel_rfl⟩

/-- ablaut/row.step -/
def c45 : MC :=
  .seq (.reg false [.op .none 3 (.box false (.t 0)),
    .op .none 6 (.mv (.c (.w (.int .i64 0))))]) <|
  .seq (.seq (.reg false [.op .none 7 (.mv (.t 1)),
    .op .none 8 (.bin .lss (.t 7) (.c (.w (.int .i64 0))))]) <|
  .cond (.t 8)
    (.seq (.reg false [.op .none 9 (.fa 1 (.t 3)),
      .op .none 10 (.ld false 1 (.t 9)),
      .op .none 11 (.mv (.t 2)),
      .op .none 12 (.ia 1 (.t 10) (.t 11)),
      .op .none 13 (.ld false 1 (.t 12)),
      .op .none 6 (.mv (.t 13))]) <|
    .ret)
    (.skip)) <|
  .seq (.reg false [.op .none 14 (.fa 3 (.t 3)),
    .op .none 15 (.ld false 1 (.t 14)),
    .op .none 16 (.mv (.t 1)),
    .op .none 17 (.ia 1 (.t 15) (.t 16)),
    .op .none 18 (.ld false 1 (.t 17)),
    .op .none 19 (.mv (.t 2)),
    .op .none 20 (.ia 1 (.t 18) (.t 19)),
    .op .none 21 (.ld false 1 (.t 20)),
    .op .none 6 (.mv (.t 21))]) <|
  .ret
theorem k45 : FnCode Try.prog 45 [] 22 [6] c45 := ⟨Try.f45, Try.func45, fun xs W => Try.call45 xs W, by kernel_rfl, by kernel_rfl, by kernel_rfl⟩

/-- ablaut/ablautref19.costs -/
def c53 : MC :=
  .seq (.reg false [.op .none 2 (.box false (.t 0)),
    .op .none 4 (.nilS 1)]) <|
  .seq (.seq (.reg false [.op .none 5 (.mv (.c (.w (.int .i64 0))))]) <|
  .block 0 <|
    .loop <|
      .seq (.seq (.reg false [.op .none 6 (.mv (.t 5)),
        .op .none 7 (.fa 4 (.t 2)),
        .op .none 8 (.ld false 1 (.t 7)),
        .op .none 9 (.len false (.t 8)),
        .op .none 10 (.bin .lss (.t 6) (.t 9))]) <|
      .cond (.t 10)
        (.skip)
        (.exit 0)) <|
      .seq (.block 1 <|
        .seq (.reg false [.op .none 13 (.fa 4 (.t 2)),
          .op .none 14 (.ld false 1 (.t 13)),
          .op .none 15 (.mv (.t 5)),
          .op .none 16 (.ia 2 (.t 14) (.t 15)),
          .op .none 17 (.fa 0 (.t 16)),
          .op .none 18 (.ld false 1 (.t 17)),
          .op .none 19 (.mv (.t 1)),
          .op .none 20 (.bin .eql (.t 18) (.t 19))]) <|
        .cond (.t 20)
          (.seq (.reg false [.op .none 21 (.fa 4 (.t 2)),
            .op .none 22 (.ld false 1 (.t 21)),
            .op .none 23 (.mv (.t 5)),
            .op .none 24 (.ia 2 (.t 22) (.t 23)),
            .op .none 25 (.fa 1 (.t 24)),
            .op .none 26 (.ld false 1 (.t 25)),
            .op .none 4 (.mv (.t 26))]) <|
          .ret)
          (.skip)) <|
      .reg false [.op .none 11 (.mv (.t 5)),
        .op .none 12 (.bin .add (.t 11) (.c (.w (.int .i64 1)))),
        .op .none 5 (.mv (.t 12))]) <|
  .seq (.reg false [.op .none 27 (.fa 5 (.t 2)),
    .op .none 28 (.ld false 1 (.t 27)),
    .op .none 4 (.mv (.t 28))]) <|
  .ret
theorem k53 : FnCode Try.prog 53 [] 29 [4] c53 := ⟨Try.f53, Try.func53, fun xs W => Try.call53 xs W, by kernel_rfl, by kernel_rfl, by kernel_rfl⟩

/-- ablaut/ablautref01.In -/
def c91 : MC :=
  .seq (.reg false [.op .none 4 (.mv (.c (.w (.bool false))))]) <|
  .seq (.seq (.reg false [.op .none 5 (.mv (.c (.w (.int .i64 0))))]) <|
  .block 0 <|
    .loop <|
      .seq (.seq (.reg false [.op .none 6 (.mv (.t 5)),
        .op .none 7 (.mv (.t 1)),
        .op .none 8 (.len false (.t 7)),
        .op .none 9 (.bin .lss (.t 6) (.t 8))]) <|
      .cond (.t 9)
        (.skip)
        (.exit 0)) <|
      .seq (.block 1 <|
        .seq (.reg false [.op .none 12 (.mv (.t 1)),
          .op .none 13 (.mv (.t 5)),
          .op .none 14 (.ia 1 (.t 12) (.t 13)),
          .op .none 15 (.ld false 1 (.t 14)),
          .op .none 16 (.mv (.t 0)),
          .op .none 17 (.bin .eql (.t 15) (.t 16))]) <|
        .cond (.t 17)
          (.seq (.reg false [.op .none 4 (.mv (.c (.w (.bool true))))]) <|
          .ret)
          (.skip)) <|
      .reg false [.op .none 10 (.mv (.t 5)),
        .op .none 11 (.bin .add (.t 10) (.c (.w (.int .i64 1)))),
        .op .none 5 (.mv (.t 11))]) <|
  .seq (.reg false [.op .none 4 (.mv (.c (.w (.bool false))))]) <|
  .ret
theorem k91 : FnCode Try.prog 91 [] 18 [4] c91 := ⟨Try.f91, Try.func91, fun xs W => Try.call91 xs W, by kernel_rfl, by kernel_rfl, by kernel_rfl⟩

/-- ablaut/ablautref01.Is -/
def c52 : MC :=
  .seq (.reg false [.op .none 4 (.mv (.c (.w (.bool false))))]) <|
  .seq (.seq (.reg false [.op .none 5 (.mv (.c (.w (.int .i64 0))))]) <|
  .block 0 <|
    .loop <|
      .seq (.seq (.reg false [.op .none 6 (.mv (.t 5)),
        .op .none 7 (.mv (.t 0)),
        .op .none 8 (.len false (.t 7)),
        .op .none 9 (.bin .lss (.t 6) (.t 8))]) <|
      .cond (.t 9)
        (.skip)
        (.exit 0)) <|
      .seq (.block 1 <|
        .seq (.reg false [.op .none 12 (.mv (.t 0)),
          .op .none 13 (.mv (.t 5)),
          .op .none 14 (.ia 1 (.t 12) (.t 13)),
          .op .none 15 (.ld false 1 (.t 14)),
          .op .none 16 (.mv (.t 1)),
          .call .none 17 (.f 91) [(.t 15), (.t 16)],
          .op .none 18 (.un .not (.t 17))]) <|
        .cond (.t 18)
          (.seq (.reg false [.op .none 4 (.mv (.c (.w (.bool false))))]) <|
          .ret)
          (.skip)) <|
      .reg false [.op .none 10 (.mv (.t 5)),
        .op .none 11 (.bin .add (.t 10) (.c (.w (.int .i64 1)))),
        .op .none 5 (.mv (.t 11))]) <|
  .seq (.reg false [.op .none 4 (.mv (.c (.w (.bool true))))]) <|
  .ret
theorem k52 : FnCode Try.prog 52 [] 19 [4] c52 := ⟨Try.f52, Try.func52, fun xs W => Try.call52 xs W, by kernel_rfl, by kernel_rfl, by kernel_rfl⟩

theorem fok51 (l : List Bs) (s : Bs) (hl : l.length ≤ 200000000000000) : FOk Try.prog 51 [.v (.word l), .S s] [] (.I (idxF (fun x => decide (s = x)) l 0)) [] := by
  refine FOk.val k51 (by simp) (by simp) (by decide) ?_
  simp [c51]
  refine Run.loopA (ι := Nat) [] (fun i => i ≤ l.length ∧ idxF (fun x => decide (s = x)) (l.drop i) i = idxF (fun x => decide (s = x)) l 0) (fun i => ⟨[(0, .v (.word l)), (1, .S s), (7, .I l.length), (8, .I i)], [], 1024⟩) (fun i => l.length - i) 0 (by decide) (by simp) ⟨by omega, by simp⟩ ?_
  rintro i ⟨hi, hall⟩ ih
  by_cases h : i < l.length
  · rw [drop_at h] at hall
    simp only [idxF] at hall
    by_cases hp : s = l[i]
    · simp only [hp, decide_true, if_true] at hall
      simp (disch := omega) [h, wrap_i64, ← hp]
      exact Ends.v rfl (by simp [hp, ← hall])
    · simp only [hp, decide_false] at hall
      simp (disch := omega) [h, wrap_i64, hp]
      exact ih (i + 1) _ ⟨by omega, by simpa using hall⟩ (by omega) (by simp)
  · rw [drop_no h] at hall
    simp [h]
    exact Ends.v rfl (by simp [idxF, ← hall])
theorem fok105 (s : Bs) : FOk Try.prog 105 [.S s] [] (.B false) [] := by
  refine FOk.val k105 (by simp) (by simp) (by decide) ?_
  simp [c105]
  exact Ends.v rfl (by simp)

theorem fok87 (a b : Bs) : FOk Try.prog 87 [.S a, .S b] [] (.I (cmpB a b)) [] := by
  refine FOk.val k87 (by simp) (by simp) (by decide) ?_
  simp [c87]
  refine CallG.lent rfl rfl rfl rfl (fok105 a) rfl ?_
  simp
  refine CallG.lent rfl rfl rfl rfl (fok105 b) rfl ?_
  simp
  repeat' (first | refine And.intro ?_ ?_ | intro _)
  all_goals exact Ends.v rfl (by simp_all [cmpB])

def fiC {α : Type} (c : α → Int) : List α → Nat
  | [] => 0
  | x :: l => if c x < 0 then fiC c l + 1 else 0
theorem fiC_le {α : Type} (c : α → Int) : ∀ l : List α, fiC c l ≤ l.length
  | [] => by simp [fiC]
  | x :: l => by simp only [fiC]; split <;> simp <;> exact fiC_le c l
theorem fiC_eq {α : Type} (c : α → Int) : ∀ {l : List α} {i : Nat}, i ≤ l.length → (∀ k (h : k < l.length), k < i → c l[k] < 0) → (∀ (h : i < l.length), ¬ c l[i] < 0) → fiC c l = i
  | [], i, h, _, _ => by simp at h; simp [fiC, h]
  | x :: l, i, h, h1, h2 => by
    simp only [fiC]
    cases i with
    | zero => have := h2 (by simp); rw [if_neg (by simpa using this)]
    | succ i =>
      have := h1 0 (by simp) (by omega)
      rw [if_pos (by simpa using this)]
      rw [fiC_eq c (l := l) (i := i) (by simpa using h) (fun k hk hki => by have := h1 (k + 1) (by simp; omega) (by omega); exact this) (fun hk => by have := h2 (by simp; omega); exact this)]

/-! ### A tagger that is one -/
def at0 (l : List Int) (k : Nat) : Int := l.getD k 0
theorem at0_eq {l : List Int} {k : Nat} (h : k < l.length) : at0 l k = l[k] := by simp [at0, h]
theorem csB_len {n : Nat} {m : Int} {l : List Int} (h : csB n m l = true) : l.length = n := by
  simp only [csB, Bool.and_eq_true, decide_eq_true_eq] at h; exact h.1
theorem csB_rng {n : Nat} {m : Int} {l : List Int} (h : csB n m l = true) : ∀ x ∈ l, m ≤ x ∧ x ≤ 100000000 := by
  simp only [csB, Bool.and_eq_true, Bool.not_eq_true'] at h
  intro x hx
  have := List.any_eq_false.1 h.2 x hx
  simp only [badC, Bool.or_eq_true, decide_eq_true_eq] at this
  omega
theorem csB_at {n : Nat} {m : Int} {l : List Int} (h : csB n m l = true) {k : Nat} (hk : k < n) : m ≤ at0 l k ∧ at0 l k ≤ 100000000 := by
  have hl := csB_len h
  rw [at0_eq (by omega)]
  exact csB_rng h _ (List.getElem_mem _)
theorem woA_all (n : Nat) : ∀ (W : List WorthT) (p : Option WorthT), woA n p W = true → (∀ w ∈ W, csB n (-1) w.2.1 = true) ∧ W.Pairwise (fun a b => ltB a.1 b.1 = true) ∧ ∀ a, p = some a → ∀ w ∈ W, ltB a.1 w.1 = true
  | [], p, _ => ⟨by simp, .nil, by simp⟩
  | w :: W, p, h => by
    have hw : csB n (-1) w.2.1 = true ∧ woA n (some w) W = true ∧ ∀ a, p = some a → ltB a.1 w.1 = true := by
      cases p with
      | none => simp only [woA, Bool.and_eq_true] at h; exact ⟨h.1, h.2, by simp⟩
      | some a => simp only [woA, Bool.and_eq_true] at h; exact ⟨h.1.1, h.2, fun b hb => by cases hb; exact h.1.2⟩
    obtain ⟨h1, h2, h3⟩ := hw
    obtain ⟨i1, i2, i3⟩ := woA_all n W (some w) h2
    refine ⟨fun x hx => ?_, List.pairwise_cons.2 ⟨i3 w rfl, i2⟩, fun a ha x hx => ?_⟩
    · rcases List.mem_cons.1 hx with rfl | hx
      · exact h1
      · exact i1 x hx
    · rcases List.mem_cons.1 hx with rfl | hx
      · exact h3 a ha
      · exact ltB_trans (h3 a ha) (i3 w rfl x hx)
structure OkT (t : TagT) : Prop where
  g : t.1.length ≤ 16
  ga : ascN none t.1 = true
  f : csB t.1.length 0 t.2.1 = true
  z : csB t.1.length 0 t.2.2.1 = true
  pl : t.2.2.2.1.length = t.1.length
  p : ∀ l ∈ t.2.2.2.1, csB t.1.length 0 l = true
  wl : t.2.2.2.2.1.length ≤ 300
  w : ∀ w ∈ t.2.2.2.2.1, csB t.1.length (-1) w.2.1 = true
  wa : t.2.2.2.2.1.Pairwise (fun a b => ltB a.1 b.1 = true)
  u : csB t.1.length (-1) t.2.2.2.2.2.1 = true
theorem valF_ok {t : TagT} (h : valF t = 0) : OkT t := by
  unfold valF at h
  split at h
  · cases h
  split at h
  · cases h
  split at h
  · cases h
  split at h
  · cases h
  split at h
  case isFalse => cases h
  rename_i h1 h2 h3 h4 h5
  unfold okF at h5
  rw [woOk_eq, prOk_eq] at h5
  simp only [Bool.and_eq_true, decide_eq_true_eq, List.all_eq_true] at h5
  obtain ⟨⟨⟨⟨⟨q1, q2⟩, q3⟩, q4⟩, q5⟩, q6⟩ := h5
  obtain ⟨w1, w2, _⟩ := woA_all _ _ _ q6
  exact ⟨by omega, by simpa using h4, q1, q2, q4, q5, by omega, w1, w2, q3⟩
theorem chkF_ok {t : TagT} {n : Nat} (h : chkF t n = 0) : OkT t ∧ n ≤ 200 := by
  unfold chkF at h
  split at h
  · rename_i hv
    refine ⟨valF_ok hv, ?_⟩
    split at h
    · cases h
    · omega
  · rename_i hv; exact absurd h hv
/-! ### The costs of a word -/
def costsF (t : TagT) (w : Bs) : List Int := match t.2.2.2.2.1.find? (fun x => decide (x.1 = w)) with
  | some x => x.2.1
  | none => t.2.2.2.2.2.1
theorem costsF_ok {t : TagT} (h : OkT t) (w : Bs) : csB t.1.length (-1) (costsF t w) = true := by
  unfold costsF
  split
  · rename_i x hx; exact h.w x (List.mem_of_find?_eq_some hx)
  · exact h.u
theorem cmpB_lt0 {a b : Bs} : cmpB a b < 0 ↔ ltB a b = true := by
  unfold cmpB; split
  · simp_all
  · split <;> simp_all
theorem cmpB_eq0 {a b : Bs} : cmpB a b = 0 ↔ a = b := by
  unfold cmpB; split
  · rename_i h; have := ltB_ne h; simp [this]
  · split <;> simp_all
theorem cos_find (w : Bs) : ∀ (W : List WorthT), W.Pairwise (fun a b => ltB a.1 b.1 = true) → W.find? (fun x => decide (x.1 = w)) = match W[fiC (fun x => cmpB x.1 w) W]? with | some x => if x.1 = w then some x else none | none => none
  | [], _ => rfl
  | x :: W, h => by
    obtain ⟨h1, h2⟩ := List.pairwise_cons.1 h
    simp only [fiC, List.find?_cons]
    by_cases hc : cmpB x.1 w < 0
    · have hne := ltB_ne (cmpB_lt0.1 hc)
      simp only [hc, if_true, hne, decide_false, List.getElem?_cons_succ]
      exact cos_find w W h2
    · simp only [hc, if_false, List.getElem?_cons_zero]
      by_cases e : x.1 = w
      · simp [e]
      · simp only [e, decide_false, if_false]
        rw [List.find?_eq_none]
        intro y hy
        have hxy := h1 y hy
        have : y.1 ≠ w := by
          rintro rfl
          exact hc (cmpB_lt0.2 hxy)
        simpa using this
theorem fok86 (x : WorthT) (w : Bs) : FOk Try.prog 86 [.v (worthV x), .S w] [] (.I (cmpB x.1 w)) [] := by
  obtain ⟨a, c, u⟩ := x
  have h := fok87 a w
  refine FOk.val k86 (by simp) (by simp) (by decide) ?_
  simp [c86, worthV]
  refine CallG.lent rfl rfl rfl rfl h rfl ?_
  simp
  exact Ends.v rfl (by simp)
theorem fok85 (l : List WorthT) (t : Bs) (hl : l.length ≤ 1000) (hs : l.Pairwise (fun a b => ltB a.1 b.1 = true)) :
    FOk Try.prog 85 [.v (.sl 2 (l.map worthV)), .S t, .fn 86 []] [] (.tup [.I (fiC (fun x => cmpB x.1 t) l), .B (match l[fiC (fun x => cmpB x.1 t) l]? with | some x => decide (x.1 = t) | none => false)]) [] := by
  have hs : ∀ i j (hi : i < l.length) (hj : j < l.length), i < j → cmpB l[j].1 t < 0 → cmpB l[i].1 t < 0 := fun i j hi hj hij hc =>
    cmpB_lt0.2 (ltB_trans (List.pairwise_iff_getElem.1 hs i j hi hj hij) (cmpB_lt0.1 hc))
  refine FOk.val k85 (by simp) (by simp) (by decide) ?_
  simp [c85]
  refine Run.loopA (ι := Nat × Nat) [] (fun q => q.1 ≤ q.2 ∧ q.2 ≤ l.length ∧ (∀ k (h : k < l.length), k < q.1 → cmpB l[k].1 t < 0) ∧ (∀ k (h : k < l.length), q.2 ≤ k → ¬ cmpB l[k].1 t < 0)) (fun q => ⟨[(0, .v (.sl 2 (l.map worthV))), (1, .S t), (2, .fn 86 []), (8, .I l.length), (9, .I q.1), (10, .I q.2)], [], 1024⟩) (fun q => q.2 - q.1) (0, l.length) (by decide) (by simp) ⟨by simp, by simp, by simp, by intro k h h2; simp at h2; omega⟩ ?_
  rintro ⟨i, j⟩ ⟨h1, h2, h3, h4⟩ ih
  simp only at h1 h2 h3 h4 ih ⊢
  by_cases h : i < j
  · have he := half_eq (i := i) (j := j) (by omega)
    obtain ⟨m, hm⟩ : ∃ m, m = (i + j) / 2 := ⟨_, rfl⟩
    rw [← hm] at he
    have hh : m < l.length := by omega
    have hcm := fok86 l[m] t
    have hcv : cmpB l[m].1 t = cmpB l[m].1 t := rfl
    generalize hx : l[m] = x at hcm
    obtain ⟨xa, xc, xu⟩ := x
    have hx1 : l[m].1 = xa := by rw [hx]
    simp [worthV, intsV] at hcm
    simp (disch := omega) [h, wrap_i64, wrap_u64, he, hh, hx, worthV, intsV]
    refine CallG.lent rfl rfl rfl rfl hcm rfl ?_
    simp (disch := omega) [wrap_i64]
    refine ⟨fun hc => ?_, fun hc => ?_⟩
    · refine ih (m + 1, j) _ ⟨by simp; omega, h2, ?_, h4⟩ (by simp; omega) (by simp)
      intro k hk hk2
      simp only at hk2
      rcases Nat.lt_or_ge k m with h5 | h5
      · exact hs k _ hk hh h5 (by rw [hx1]; exact hc)
      · obtain rfl : k = m := by omega
        rw [hx1]; exact hc
    · refine ih (i, m) _ ⟨by simp; omega, by simp; omega, h3, ?_⟩ (by simp; omega) (by simp)
      intro k hk hk2 hc2
      simp only at hk2
      rcases Nat.eq_or_lt_of_le hk2 with h5 | h5
      · subst h5; rw [hx1] at hc2; omega
      · have := hs _ k hh hk h5 hc2; rw [hx1] at this; omega
  · obtain rfl : i = j := by omega
    have hf : fiC (fun x => cmpB x.1 t) l = i := fiC_eq _ h2 h3 (fun hk => h4 i hk (Nat.le_refl _))
    by_cases hi : i < l.length
    · have hcm := fok86 l[i] t
      have hce : decide (l[i].1 = t) = decide (cmpB l[i].1 t = 0) := by simp [cmpB_eq0]
      have hres : (match l[i]? with | some x => decide (x.1 = t) | none => false) = decide (cmpB l[i].1 t = 0) := by simp [hi, cmpB_eq0]
      rw [hf, hres]
      generalize hx : l[i] = x at hcm
      obtain ⟨xa, xc, xu⟩ := x
      simp [worthV, intsV] at hcm
      simp (disch := omega) [h, wrap_i64, wrap_u64, hi, hx, worthV, intsV]
      refine CallG.lent rfl rfl rfl rfl hcm rfl ?_
      simp
      exact Ends.v rfl (by simp)
    · have hres : (match l[i]? with | some x => decide (x.1 = t) | none => false) = false := by simp [hi]
      rw [hf, hres]
      simp (disch := omega) [h, wrap_i64, wrap_u64, hi]
      exact Ends.v rfl (by simp)
theorem fok44 (t : TagT) (w : Bs) (ht : OkT t) : FOk Try.prog 44 [.v (tagV t), .S w] [] (.v (intsV (costsF t w))) [] := by
  have hw := ht.wl
  have h1 := fok85 t.2.2.2.2.1 w (by omega) ht.wa
  have h2 := cos_find w t.2.2.2.2.1 ht.wa
  obtain ⟨G, Fi, Z, P, W, U, uu⟩ := t
  simp only at h1 h2 hw
  simp only [costsF]
  rw [h2]
  generalize fiC (fun x => cmpB x.1 w) W = i at h1 ⊢
  refine FOk.val k44 (by simp) (by simp) (by decide) ?_
  simp [c44, tagV]
  by_cases hi : i < W.length
  · rw [List.getElem?_eq_getElem hi] at h1 ⊢
    simp only at h1 ⊢
    generalize hx : W[i] = x at h1 ⊢
    obtain ⟨xa, xc, xu⟩ := x
    simp only at h1 ⊢
    refine CallG.lent rfl rfl rfl rfl h1 rfl ?_
    by_cases e : xa = w
    · simp [e, hi, hx, worthV]
      exact Ends.v rfl (by simp)
    · simp [e]
      exact Ends.v rfl (by simp)
  · rw [List.getElem?_eq_none (by omega)] at h1 ⊢
    simp only at h1 ⊢
    refine CallG.lent rfl rfl rfl rfl h1 rfl ?_
    simp
    exact Ends.v rfl (by simp)
theorem fok53 (t : TagT) (w : Bs) (ht : OkT t) : FOk Try.prog 53 [.v (tagV t), .S w] [] (.v (intsV (costsF t w))) [] := by
  have hw := ht.wl
  obtain ⟨G, Fi, Z, P, W, U, uu⟩ := t
  simp only at hw
  refine FOk.val k53 (by simp) (by simp) (by decide) ?_
  simp only [costsF]
  generalize hr : (match W.find? (fun x => decide (x.1 = w)) with | some x => x.2.1 | none => U) = res
  simp [c53, tagV]
  refine Run.loopA (ι := Nat) [(1, 2)] (fun i => i ≤ W.length ∧ (match (W.drop i).find? (fun x => decide (x.1 = w)) with | some x => x.2.1 | none => U) = res) (fun i => ⟨[(1, .S w), (2, .ptr 1 0 0), (5, .I i)], [(1, ⟨false, 6, [tagV (G, Fi, Z, P, W, U, uu)]⟩)], 1024⟩) (fun i => W.length - i) 0 (by decide) (by simp [tagV]) ⟨by simp, by simpa using hr⟩ ?_
  rintro i ⟨hi, hall⟩ ih
  by_cases h : i < W.length
  · rw [drop_at h, List.find?_cons] at hall
    generalize hx : W[i] = x at hall
    obtain ⟨xa, xc, xu⟩ := x
    by_cases e : xa = w
    · simp only [e, decide_true] at hall
      subst hall
      simp (disch := omega) [h, wrap_i64, hx, worthV, tagV, e]
      exact Ends.v rfl (by simp)
    · simp only [e, decide_false] at hall
      simp (disch := omega) [h, wrap_i64, hx, worthV, tagV, e]
      exact ih (i + 1) _ ⟨by omega, hall⟩ (by omega) (by simp [tagV])
  · rw [drop_no h] at hall
    simp only [List.find?_nil] at hall
    subst hall
    simp [h, tagV]
    exact Ends.v rfl (by simp)
def stepF (t : TagT) (b : Option Nat) (k : Nat) : Int := match b with
  | none => at0 t.2.1 k
  | some b => at0 (t.2.2.2.1.getD b []) k
def bI9 : Option Nat → Int
  | none => -1
  | some b => b
theorem stepF_rng {t : TagT} (h : OkT t) {b : Option Nat} {k : Nat} (hk : k < t.1.length) (hb : ∀ b', b = some b' → b' < t.1.length) : 0 ≤ stepF t b k ∧ stepF t b k ≤ 100000000 := by
  cases b with
  | none => exact csB_at h.f hk
  | some b =>
    have hb' : b < t.2.2.2.1.length := by rw [h.pl]; exact hb b rfl
    simp only [stepF, List.getD_eq_getElem?_getD, List.getElem?_eq_getElem hb', Option.getD_some]
    exact csB_at (h.p _ (List.getElem_mem hb')) hk
theorem fok45 (t : TagT) (b : Option Nat) (k : Nat) (ht : OkT t) (hk : k < t.1.length) (hb : ∀ b', b = some b' → b' < t.1.length) : FOk Try.prog 45 [.v (tagV t), .I (bI9 b), .I k] [] (.I (stepF t b k)) [] := by
  have hf := csB_len ht.f
  have hpl := ht.pl
  have hp := fun l hl => csB_len (ht.p l hl)
  obtain ⟨G, Fi, Z, P, W, U, uu⟩ := t
  simp only at hf hpl hp hk hb
  refine FOk.val k45 (by simp) (by simp) (by decide) ?_
  cases b with
  | none =>
    have h : k < Fi.length := by omega
    simp only [stepF, at0_eq h]
    simp [c45, tagV, bI9, intsV, h]
    exact Ends.v rfl (by simp)
  | some b =>
    have hb' : b < P.length := by have := hb b rfl; omega
    have h : k < P[b].length := by rw [hp _ (List.getElem_mem hb')]; exact hk
    simp only [stepF, List.getD_eq_getElem?_getD, List.getElem?_eq_getElem hb', Option.getD_some, at0_eq h]
    generalize hx : P[b] = x at h ⊢
    simp [c45, tagV, bI9, intsV, h, hb', hx]
    exact Ends.v rfl (by simp)
theorem fok91 (l : List Bs) (s : Bs) (hl : l.length ≤ 200000000000000) : FOk Try.prog 91 [.S s, .v (.word l)] [] (.B (inW l s)) [] := by
  refine FOk.val k91 (by simp) (by simp) (by decide) ?_
  simp [c91]
  refine Run.loopA (ι := Nat) [] (fun i => i ≤ l.length ∧ inW (l.drop i) s = inW l s) (fun i => ⟨[(0, .S s), (1, .v (.word l)), (5, .I i)], [], 1024⟩) (fun i => l.length - i) 0 (by decide) (by simp) ⟨by omega, by simp⟩ ?_
  rintro i ⟨hi, hall⟩ ih
  by_cases h : i < l.length
  · rw [drop_at h] at hall
    simp only [inW] at hall
    by_cases hp : l[i] = s
    · simp only [hp, decide_true, Bool.true_or] at hall
      simp (disch := omega) [h, wrap_i64, hp]
      exact Ends.v rfl (by simp [← hall])
    · have hp' : ¬ s = l[i] := fun e => hp e.symm
      simp only [hp', decide_false, Bool.false_or] at hall
      simp (disch := omega) [h, wrap_i64, hp]
      exact ih (i + 1) _ ⟨by omega, hall⟩ (by omega) (by simp)
  · rw [drop_no h] at hall
    simp [h]
    exact Ends.v rfl (by simp [inW, ← hall])
theorem fok52 (l g : List Bs) (hl : l.length ≤ 200000000000000) (hg : g.length ≤ 200000000000000) : FOk Try.prog 52 [.v (.word l), .v (.word g)] [] (.B (l.all (inW g))) [] := by
  refine FOk.val k52 (by simp) (by simp) (by decide) ?_
  simp [c52]
  refine Run.loopA (ι := Nat) [] (fun i => i ≤ l.length ∧ (l.drop i).all (inW g) = l.all (inW g)) (fun i => ⟨[(0, .v (.word l)), (1, .v (.word g)), (5, .I i)], [], 1024⟩) (fun i => l.length - i) 0 (by decide) (by simp) ⟨by omega, by simp⟩ ?_
  rintro i ⟨hi, hall⟩ ih
  by_cases h : i < l.length
  · rw [drop_at h, List.all_cons] at hall
    have k1 := fok91 g l[i] hg
    simp (disch := omega) [h, wrap_i64]
    refine CallG.lent rfl rfl rfl rfl k1 rfl ?_
    cases hn : inW g l[i]
    · rw [hn, Bool.false_and] at hall
      simp (disch := omega) [wrap_i64]
      exact Ends.v rfl (by rw [← hall]; simp)
    · rw [hn, Bool.true_and] at hall
      simp (disch := omega) [wrap_i64]
      exact ih (i + 1) _ ⟨by omega, hall⟩ (by omega) (by simp)
  · rw [drop_no h] at hall
    rw [← hall]
    simp [h]
    exact Ends.v rfl (by simp)

end Go.Proofs
