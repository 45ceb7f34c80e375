/- The walk. -/
import Derived.Test.YtepjlojlkionfaaRo9
import Derived.Test.YtepjlojlkionfaaSo
import Derived.Test.YtepjlojlkionfaaProg
import Derived.KernelRfl
set_option linter.all false
set_option maxHeartbeats 2000000
namespace Go.Proofs
open Go Go.AM
attribute [local irreducible] Run Ends
/-- cmp.isNaN[int] -/
def c90 : MC :=
  .seq (.reg false [.op .none 2 (.mv (.c (.w (.bool false))))]) <|
  .seq (.reg false [.op .none 3 (.mv (.t 0)),
    .op .none 4 (.mv (.t 0)),
    .op .none 5 (.bin .neq (.t 3) (.t 4)),
    .op .none 2 (.mv (.t 5))]) <|
  .ret
theorem k90 : FnCode Try.prog 90 [] 6 [2] c90 := ⟨Try.f90, Try.func90, fun xs W => Try.call90 xs W, by kernel_rfl, by kernel_rfl, by kernel_rfl⟩

/-- cmp.Compare[int] -/
def c49 : MC :=
  .seq (.reg false [.op .none 4 (.mv (.c (.w (.int .i64 0))))]) <|
  .seq (.reg false [.op .none 7 (.mv (.t 0)),
    .call .none 8 (.f 90) [(.t 7)],
    .op .none 5 (.mv (.t 8))]) <|
  .seq (.reg false [.op .none 9 (.mv (.t 1)),
    .call .none 10 (.f 90) [(.t 9)],
    .op .none 6 (.mv (.t 10))]) <|
  .seq (.seq (.reg false [.op .none 11 (.mv (.t 5))]) <|
  .cond (.t 11)
    (.seq (.seq (.reg false [.op .none 12 (.mv (.t 6))]) <|
    .cond (.t 12)
      (.seq (.reg false [.op .none 4 (.mv (.c (.w (.int .i64 0))))]) <|
      .ret)
      (.skip)) <|
    .seq (.reg false [.op .none 4 (.mv (.c (.w (.int .i64 (-1)))))]) <|
    .ret)
    (.skip)) <|
  .seq (.seq (.reg false [.op .none 13 (.mv (.t 6))]) <|
  .cond (.t 13)
    (.seq (.reg false [.op .none 4 (.mv (.c (.w (.int .i64 1))))]) <|
    .ret)
    (.skip)) <|
  .seq (.seq (.reg false [.op .none 14 (.mv (.t 0)),
    .op .none 15 (.mv (.t 1)),
    .op .none 16 (.bin .lss (.t 14) (.t 15))]) <|
  .cond (.t 16)
    (.seq (.reg false [.op .none 4 (.mv (.c (.w (.int .i64 (-1)))))]) <|
    .ret)
    (.skip)) <|
  .seq (.seq (.reg false [.op .none 17 (.mv (.t 0)),
    .op .none 18 (.mv (.t 1)),
    .op .none 19 (.bin .gtr (.t 17) (.t 18))]) <|
  .cond (.t 19)
    (.seq (.reg false [.op .none 4 (.mv (.c (.w (.int .i64 1))))]) <|
    .ret)
    (.skip)) <|
  .seq (.reg false [.op .none 4 (.mv (.c (.w (.int .i64 0))))]) <|
  .ret
theorem k49 : FnCode Try.prog 49 [] 20 [4] c49 := ⟨Try.f49, Try.func49, fun xs W => Try.call49 xs W, by kernel_rfl, by kernel_rfl, by kernel_rfl⟩

/-- slices.Compare[[]int,int] -/
def c50 : MC :=
  .seq (.reg false [.op .none 4 (.mv (.c (.w (.int .i64 0))))]) <|
  .seq (.seq (.reg false [.op .none 9 (.mv (.t 0)),
    .op .none 10 (.len false (.t 9)),
    .op .none 11 (.mv (.c (.w (.int .i64 0))))]) <|
  .block 0 <|
    .loop <|
      .seq (.reg false [.op .none 12 (.bin .lss (.t 11) (.t 10))]) <|
      .seq (.cond (.t 12)
        (.skip)
        (.exit 0)) <|
      .seq (.block 1 <|
        .seq (.reg false [.op .none 13 (.mv (.t 11)),
          .op .none 14 (.ia 1 (.t 9) (.t 11)),
          .op .none 15 (.ld false 1 (.t 14)),
          .op .none 5 (.mv (.t 13)),
          .op .none 6 (.mv (.t 15))]) <|
        .seq (.seq (.reg false [.op .none 16 (.mv (.t 5)),
          .op .none 17 (.mv (.t 1)),
          .op .none 18 (.len false (.t 17)),
          .op .none 19 (.bin .geq (.t 16) (.t 18))]) <|
        .cond (.t 19)
          (.seq (.reg false [.op .none 4 (.mv (.c (.w (.int .i64 1))))]) <|
          .ret)
          (.skip)) <|
        .seq (.reg false [.op .none 20 (.mv (.t 1)),
          .op .none 21 (.mv (.t 5)),
          .op .none 22 (.ia 1 (.t 20) (.t 21)),
          .op .none 23 (.ld false 1 (.t 22)),
          .op .none 7 (.mv (.t 23))]) <|
        .seq (.reg false [.op .none 24 (.mv (.t 6)),
          .op .none 25 (.mv (.t 7)),
          .call .none 26 (.f 49) [(.t 24), (.t 25)],
          .op .none 8 (.mv (.t 26))]) <|
        .seq (.reg false [.op .none 27 (.mv (.t 8)),
          .op .none 28 (.bin .neq (.t 27) (.c (.w (.int .i64 0))))]) <|
        .cond (.t 28)
          (.seq (.reg false [.op .none 29 (.mv (.t 8)),
            .op .none 4 (.mv (.t 29))]) <|
          .ret)
          (.skip)) <|
      .reg false [.op .none 30 (.bin .add (.t 11) (.c (.w (.int .i64 1)))),
        .op .none 11 (.mv (.t 30))]) <|
  .seq (.seq (.reg false [.op .none 31 (.mv (.t 0)),
    .op .none 32 (.len false (.t 31)),
    .op .none 33 (.mv (.t 1)),
    .op .none 34 (.len false (.t 33)),
    .op .none 35 (.bin .lss (.t 32) (.t 34))]) <|
  .cond (.t 35)
    (.seq (.reg false [.op .none 4 (.mv (.c (.w (.int .i64 (-1)))))]) <|
    .ret)
    (.skip)) <|
  .seq (.reg false [.op .none 4 (.mv (.c (.w (.int .i64 0))))]) <|
  .ret
theorem k50 : FnCode Try.prog 50 [] 36 [4] c50 := ⟨Try.f50, Try.func50, fun xs W => Try.call50 xs W, by kernel_rfl, by kernel_rfl, by kernel_rfl⟩

/-- ablaut/row.Several$1 -/
def c48 : MC :=
  .seq (.reg false [.op .none 2 (.box false (.t 0)),
    .op .none 3 (.box false (.t 1)),
    .op .none 4 (.mv (.c (.w (.int .i64 0))))]) <|
  .seq (.seq (.reg false [.op .none 6 (.fa 1 (.t 2)),
    .op .none 7 (.ld false 1 (.t 6)),
    .op .none 8 (.fa 1 (.t 3)),
    .op .none 9 (.ld false 1 (.t 8)),
    .call .none 10 (.f 49) [(.t 7), (.t 9)],
    .op .none 5 (.mv (.t 10))]) <|
  .seq (.reg false [.op .none 11 (.mv (.t 5)),
    .op .none 12 (.bin .neq (.t 11) (.c (.w (.int .i64 0))))]) <|
  .cond (.t 12)
    (.seq (.reg false [.op .none 13 (.mv (.t 5)),
      .op .none 4 (.mv (.t 13))]) <|
    .ret)
    (.skip)) <|
  .seq (.reg false [.op .none 14 (.fa 2 (.t 2)),
    .op .none 15 (.ld false 1 (.t 14)),
    .op .none 16 (.fa 2 (.t 3)),
    .op .none 17 (.ld false 1 (.t 16)),
    .call .none 18 (.f 50) [(.t 15), (.t 17)],
    .op .none 4 (.mv (.t 18))]) <|
  .ret
theorem k48 : FnCode Try.prog 48 [] 19 [4] c48 := ⟨Try.f48, Try.func48, fun xs W => Try.call48 xs W, by kernel_rfl, by kernel_rfl, by kernel_rfl⟩

def cmpZ (a b : Int) : Int := if a < b then -1 else if b < a then 1 else 0
theorem cmpZ_lt {a b : Int} : cmpZ a b < 0 ↔ a < b := by unfold cmpZ; split <;> (try split) <;> omega
theorem cmpZ_eq {a b : Int} : cmpZ a b = 0 ↔ a = b := by unfold cmpZ; split <;> (try split) <;> omega
theorem cmpZ_gt {a b : Int} : 0 < cmpZ a b ↔ b < a := by unfold cmpZ; split <;> (try split) <;> omega
def cmpNs : List Nat → List Nat → Int
  | [], [] => 0
  | [], _ :: _ => -1
  | _ :: _, [] => 1
  | a :: x, b :: y => if cmpZ a b = 0 then cmpNs x y else cmpZ a b
theorem linNs : Lin cmpNs where
  self a := by
    induction a with
    | nil => rfl
    | cons x a ih => simp [cmpNs, cmpZ, ih]
  zero {a b} h := by
    induction a generalizing b with
    | nil => cases b <;> simp [cmpNs] at h; rfl
    | cons x a ih =>
      cases b with
      | nil => simp [cmpNs] at h
      | cons y b =>
        simp only [cmpNs] at h
        split at h
        · rename_i e; rw [cmpZ_eq] at e; rw [ih h, show x = y by omega]
        · rename_i e; exact absurd h e
  tr {a b d} h1 h2 := by
    induction a generalizing b d with
    | nil =>
      cases b with
      | nil => simp [cmpNs] at h1
      | cons y b =>
        cases d with
        | nil => simp [cmpNs] at h2
        | cons z d => simp [cmpNs]
    | cons x a ih =>
      cases b with
      | nil => simp [cmpNs] at h1
      | cons y b =>
        cases d with
        | nil => simp [cmpNs] at h2
        | cons z d =>
          simp only [cmpNs] at *
          by_cases e1 : cmpZ x y = 0
          · rw [if_pos e1] at h1
            rw [cmpZ_eq] at e1
            have : x = y := by omega
            subst this
            by_cases e2 : cmpZ x z = 0
            · rw [if_pos e2] at h2 ⊢
              exact ih h1 h2
            · rw [if_neg e2] at h2 ⊢
              exact h2
          · rw [if_neg e1, cmpZ_lt] at h1
            by_cases e2 : cmpZ y z = 0
            · rw [cmpZ_eq] at e2
              have : cmpZ x z < 0 := cmpZ_lt.2 (by omega)
              rw [if_neg (by omega)]; exact this
            · rw [if_neg e2, cmpZ_lt] at h2
              have : cmpZ x z < 0 := cmpZ_lt.2 (by omega)
              rw [if_neg (by omega)]; exact this
  pos {a b} := by
    induction a generalizing b with
    | nil => cases b <;> simp [cmpNs]
    | cons x a ih =>
      cases b with
      | nil => simp [cmpNs]
      | cons y b =>
        simp only [cmpNs]
        by_cases e : cmpZ x y = 0
        · have e' : cmpZ y x = 0 := by rw [cmpZ_eq] at e ⊢; omega
          rw [if_pos e, if_pos e']; exact ih
        · have e' : ¬ cmpZ y x = 0 := by rw [cmpZ_eq] at e ⊢; omega
          rw [if_neg e, if_neg e', cmpZ_gt, cmpZ_lt]
/-- The order of parts: by a cost, then by tags. -/
def cmpP (f : List Nat → Int) (a b : List Nat) : Int := if cmpZ (f a) (f b) = 0 then cmpNs a b else cmpZ (f a) (f b)
theorem linP (f : List Nat → Int) : Lin (cmpP f) where
  self a := by simp [cmpP, cmpZ, linNs.self]
  zero {a b} h := by
    unfold cmpP at h
    split at h
    · exact linNs.zero h
    · rename_i e; exact absurd h e
  tr {a b d} h1 h2 := by
    unfold cmpP at *
    by_cases e1 : cmpZ (f a) (f b) = 0
    · rw [if_pos e1] at h1
      rw [cmpZ_eq] at e1
      rw [e1]
      by_cases e2 : cmpZ (f b) (f d) = 0
      · rw [if_pos e2] at h2 ⊢; exact linNs.tr h1 h2
      · rw [if_neg e2] at h2 ⊢; exact h2
    · rw [if_neg e1, cmpZ_lt] at h1
      by_cases e2 : cmpZ (f b) (f d) = 0
      · rw [cmpZ_eq] at e2
        have : cmpZ (f a) (f d) < 0 := cmpZ_lt.2 (by omega)
        rw [if_neg (by omega)]; exact this
      · rw [if_neg e2, cmpZ_lt] at h2
        have : cmpZ (f a) (f d) < 0 := cmpZ_lt.2 (by omega)
        rw [if_neg (by omega)]; exact this
  pos {a b} := by
    unfold cmpP
    by_cases e : cmpZ (f a) (f b) = 0
    · have e' : cmpZ (f b) (f a) = 0 := by rw [cmpZ_eq] at e ⊢; omega
      rw [if_pos e, if_pos e']; exact linNs.pos
    · have e' : ¬ cmpZ (f b) (f a) = 0 := by rw [cmpZ_eq] at e ⊢; omega
      rw [if_neg e, if_neg e', cmpZ_gt, cmpZ_lt]
def natsV (l : List Nat) : PV := .sl 1 (l.map fun k : Nat => .i k)
def partV (g f : List Nat → Int) (a : List Nat) : PV := .st [.i (g a), .i (f a), natsV a]
def decN : PV → Nat | .w (.int _ n) => n.toNat | _ => 0
def decP : PV → List Nat | .st [_, _, .sl _ l] => l.map decN | _ => []
theorem decP_part (g f : List Nat → Int) (a : List Nat) : decP (partV g f a) = a := by
  simp only [partV, natsV, decP, List.map_map]
  conv => rhs; rw [← List.map_id a]
  apply List.map_congr_left
  intro s _
  simp [decN]
theorem fok90 (a : Int) : FOk Try.prog 90 [.I a] [] (.B false) [] := by
  refine FOk.val k90 (by simp) (by simp) (by decide) ?_
  simp [c90]
  exact Ends.v rfl (by simp)
theorem fok49 (a b : Int) : FOk Try.prog 49 [.I a, .I b] [] (.I (cmpZ a b)) [] := by
  refine FOk.val k49 (by simp) (by simp) (by decide) ?_
  simp [c49]
  refine CallG.lent rfl rfl rfl rfl (fok90 a) rfl ?_
  simp
  refine CallG.lent rfl rfl rfl rfl (fok90 b) rfl ?_
  simp
  refine ⟨fun h1 => Ends.v rfl (by simp [cmpZ, h1]), fun h1 => ⟨fun h2 => Ends.v rfl (by simp [cmpZ, h2]; omega), fun h2 => Ends.v rfl (by simp [cmpZ]; omega)⟩⟩
theorem fok50 (w v : List Nat) (hw : w.length ≤ 200000000000000) (hv : v.length ≤ 200000000000000) : FOk Try.prog 50 [.v (natsV w), .v (natsV v)] [] (.I (cmpNs w v)) [] := by
  refine FOk.val k50 (by simp) (by simp) (by decide) ?_
  simp [c50, natsV]
  refine Run.loopA (ι := Nat) [] (fun i => i ≤ w.length ∧ i ≤ v.length ∧ cmpNs (w.drop i) (v.drop i) = cmpNs w v) (fun i => ⟨[(0, .v (natsV w)), (1, .v (natsV v)), (9, .v (natsV w)), (10, .I w.length), (11, .I i)], [], 1024⟩) (fun i => w.length - i) 0 (by decide) (by simp [natsV]) ⟨by omega, by omega, by simp⟩ ?_
  rintro i ⟨hi, hi2, hall⟩ ih
  by_cases h : i < w.length
  · rw [drop_at h] at hall
    by_cases h2 : i < v.length
    · rw [drop_at h2] at hall
      have hn : ¬ v.length ≤ i := by omega
      have hc := fok49 w[i] v[i]
      generalize hx : w[i] = x at hc hall
      generalize hy : v[i] = y at hc hall
      simp (disch := omega) [h, h2, hn, hx, hy, wrap_i64, natsV]
      refine CallG.lent rfl rfl rfl rfl hc rfl ?_
      simp only [cmpNs] at hall
      by_cases e : cmpZ x y = 0
      · rw [if_pos e] at hall
        simp (disch := omega) [wrap_i64, e]
        exact ih (i + 1) _ ⟨by omega, by omega, hall⟩ (by omega) (by simp [natsV])
      · rw [if_neg e] at hall
        simp (disch := omega) [wrap_i64, e]
        exact Ends.v rfl (by simp [← hall])
    · rw [drop_no h2] at hall
      have hn : v.length ≤ i := by omega
      simp only [cmpNs] at hall
      simp (disch := omega) [h, hn, wrap_i64, natsV]
      exact Ends.v rfl (by simp [← hall])
  · rw [drop_no h] at hall
    by_cases h2 : w.length < v.length
    · rw [drop_at (by omega : i < v.length)] at hall
      simp only [cmpNs] at hall
      simp [h, h2, natsV]
      exact Ends.v rfl (by simp [← hall])
    · rw [drop_no (by omega : ¬ i < v.length)] at hall
      simp only [cmpNs] at hall
      simp [h, h2, natsV]
      exact Ends.v rfl (by simp [← hall])
theorem fok48 (g f : List Nat → Int) (a b : List Nat) (ha : a.length ≤ 1000) (hb : b.length ≤ 1000) : FOk Try.prog 48 [.v (partV g f a), .v (partV g f b)] [] (.I (cmpP f a b)) [] := by
  have h1 := fok49 (f a) (f b)
  have h2 := fok50 a b (by omega) (by omega)
  simp only [natsV] at h2
  refine FOk.val k48 (by simp) (by simp) (by decide) ?_
  simp only [cmpP]
  simp [c48, partV, natsV]
  refine CallG.lent rfl rfl rfl rfl h1 rfl ?_
  by_cases e : cmpZ (f a) (f b) = 0
  · rw [if_pos e]
    simp [e]
    refine CallG.lent rfl rfl rfl rfl h2 rfl ?_
    simp
    exact Ends.v rfl (by simp)
  · rw [if_neg e]
    simp [e]
    exact Ends.v rfl (by simp)

end Go.Proofs
