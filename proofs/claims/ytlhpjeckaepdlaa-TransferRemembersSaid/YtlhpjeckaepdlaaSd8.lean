/- The walk. -/
import Derived.Test.YtlhpjeckaepdlaaSd7
import Derived.Test.YtlhpjeckaepdlaaProg
import Derived.KernelRfl
set_option linter.all false
set_option maxHeartbeats 2000000
namespace Go.Proofs
open Go Go.AM
attribute [local irreducible] Run Ends
/-- ablaut/transfer.Repair -/
def c30 : MC :=
  .seq (.reg false [.op .none 4 (.nilS 1),
    .op .none 5 (.mv (.c (.w (.bool false)))),
    .op .none 6 (.mv (.c (.w (.int .i64 0))))]) <|
  .seq (.seq (.reg false [.op .none 13 (.mv (.t 0)),
    .op .none 14 (.mv (.t 1)),
    .call .none 15 (.f 72) [(.t 13), (.t 14)],
    .op .none 7 (.mv (.t 15))]) <|
  .seq (.reg false [.op .none 16 (.mv (.t 7)),
    .op .none 17 (.bin .neq (.t 16) (.c (.w (.int .i64 0))))]) <|
  .cond (.t 17)
    (.seq (.reg false [.op .none 18 (.mv (.t 7)),
      .op .none 4 (.nilS 1),
      .op .none 5 (.mv (.c (.w (.bool false)))),
      .op .none 6 (.mv (.t 18))]) <|
    .ret)
    (.skip)) <|
  .seq (.seq (.reg false [.op .none 19 (.mv (.t 0)),
    .op .none 20 (.len false (.t 19)),
    .op .none 21 (.mv (.c (.w (.int .i64 0))))]) <|
  .block 0 <|
    .loop <|
      .seq (.reg false [.op .none 22 (.bin .lss (.t 21) (.t 20))]) <|
      .seq (.cond (.t 22)
        (.skip)
        (.exit 0)) <|
      .seq (.block 1 <|
        .seq (.reg false [.op .none 23 (.ia 2 (.t 19) (.t 21)),
          .op .none 24 (.ld true 2 (.t 23)),
          .op .none 9 (.alloc true [(.sl 1 []), (.sl 1 [])]),
          .store .none true 2 (.t 9) (.t 24)]) <|
        .seq (.seq (.reg false [.op .none 25 (.fa 0 (.t 9)),
          .op .none 26 (.ld false 1 (.t 25)),
          .op .none 27 (.mv (.t 1)),
          .call .none 28 (.f 45) [(.t 26), (.t 27)]]) <|
        .cond (.t 28)
          (.seq (.reg false [.op .none 29 (.fa 1 (.t 9)),
            .op .none 30 (.ld false 1 (.t 29)),
            .call .none 31 (.f 74) [(.t 30)],
            .op .none 4 (.mv (.t 31)),
            .op .none 5 (.mv (.c (.w (.bool true)))),
            .op .none 6 (.mv (.c (.w (.int .i64 0))))]) <|
          .ret)
          (.skip)) <|
        .seq (.reg false [.op .none 32 (.fa 0 (.t 9)),
          .op .none 33 (.ld false 1 (.t 32)),
          .op .none 34 (.mv (.t 1)),
          .call .none 35 (.f 80) [(.t 33), (.t 34)],
          .op .none 10 (.mv (.t 35))]) <|
        .seq (.seq (.reg false [.op .none 36 (.mv (.t 10)),
          .op .none 37 (.bin .lss (.t 36) (.c (.w (.int .i64 0))))]) <|
        .cond (.t 37)
          (.exit 1)
          (.skip)) <|
        .seq (.reg true [.op .none 38 (.fa 1 (.t 9)),
          .op .none 39 (.ld false 1 (.t 38)),
          .op .none 40 (.fa 0 (.t 9)),
          .op .none 41 (.ld false 1 (.t 40)),
          .op .none 42 (.mv (.t 10)),
          .op .none 43 (.ia 1 (.t 41) (.t 42)),
          .op .none 44 (.ld false 1 (.t 43)),
          .call .none 45 (.f 81) [(.t 39), (.t 44)],
          .op .none 11 (.mv (.t 45))]) <|
        .seq (.reg true [.op .none 46 (.mv (.t 11)),
          .op .none 47 (.bin .geq (.t 46) (.c (.w (.int .i64 0)))),
          .op .none 48 (.mv (.t 47)),
          .op (.some (48, true)) 49 (.fa 1 (.t 9)),
          .op (.some (48, true)) 50 (.ld false 1 (.t 49)),
          .op (.some (48, true)) 51 (.mv (.t 11)),
          .op (.some (48, true)) 52 (.bin .add (.t 51) (.c (.w (.int .i64 1)))),
          .op (.some (48, true)) 53 (.slc false 1 (.t 50) (.some (.t 52)) .none),
          .op (.some (48, true)) 54 (.fa 0 (.t 9)),
          .op (.some (48, true)) 55 (.ld false 1 (.t 54)),
          .op (.some (48, true)) 56 (.mv (.t 10)),
          .op (.some (48, true)) 57 (.ia 1 (.t 55) (.t 56)),
          .op (.some (48, true)) 58 (.ld false 1 (.t 57)),
          .call (.some (48, true)) 59 (.f 69) [(.t 53), (.t 58)],
          .op (.some (48, true)) 60 (.un .not (.t 59)),
          .op .none 61 (.pick (.t 48) (.t 60) (.c (.w (.bool false))))]) <|
        .cond (.t 61)
          (.seq (.reg false [.op .none 62 (.fa 1 (.t 9)),
            .op .none 63 (.ld false 1 (.t 62)),
            .call .none 64 (.f 74) [(.t 63)],
            .op .none 12 (.mv (.t 64))]) <|
          .seq (.reg false [.op .none 65 (.mv (.t 12)),
            .op .none 66 (.mv (.t 11)),
            .op .none 67 (.mv (.t 1)),
            .op .none 68 (.mv (.t 10)),
            .op .none 69 (.ia 1 (.t 67) (.t 68)),
            .op .none 70 (.ld false 1 (.t 69)),
            .op .none 71 (.ia 1 (.t 65) (.t 66)),
            .store .none false 1 (.t 71) (.t 70)]) <|
          .seq (.reg false [.op .none 72 (.mv (.t 12)),
            .op .none 4 (.mv (.t 72)),
            .op .none 5 (.mv (.c (.w (.bool true)))),
            .op .none 6 (.mv (.c (.w (.int .i64 0))))]) <|
          .ret)
          (.skip)) <|
      .reg false [.op .none 73 (.bin .add (.t 21) (.c (.w (.int .i64 1)))),
        .op .none 21 (.mv (.t 73))]) <|
  .seq (.reg false [.op .none 4 (.nilS 1),
    .op .none 5 (.mv (.c (.w (.bool false)))),
    .op .none 6 (.mv (.c (.w (.int .i64 0))))]) <|
  .ret
theorem k30 : FnCode Try.prog 30 [] 74 [4, 5, 6] c30 := ⟨Try.f30, Try.func30, fun xs W => Try.call30 xs W, by kernel_rfl, by kernel_rfl, by kernel_rfl⟩

/-- ablaut/ablautref28.Repair -/
def c31 : MC :=
  .seq (.reg false [.op .none 4 (.nilS 1),
    .op .none 5 (.mv (.c (.w (.bool false)))),
    .op .none 6 (.mv (.c (.w (.int .i64 0))))]) <|
  .seq (.seq (.reg false [.op .none 14 (.mv (.t 0)),
    .op .none 15 (.mv (.t 1)),
    .call .none 16 (.f 78) [(.t 14), (.t 15)],
    .op .none 7 (.mv (.t 16))]) <|
  .seq (.reg false [.op .none 17 (.mv (.t 7)),
    .op .none 18 (.bin .neq (.t 17) (.c (.w (.int .i64 0))))]) <|
  .cond (.t 18)
    (.seq (.reg false [.op .none 19 (.mv (.t 7)),
      .op .none 4 (.nilS 1),
      .op .none 5 (.mv (.c (.w (.bool false)))),
      .op .none 6 (.mv (.t 19))]) <|
    .ret)
    (.skip)) <|
  .seq (.seq (.reg false [.op .none 8 (.mv (.c (.w (.int .i64 0))))]) <|
  .block 0 <|
    .loop <|
      .seq (.seq (.reg false [.op .none 20 (.mv (.t 8)),
        .op .none 21 (.mv (.t 0)),
        .op .none 22 (.len false (.t 21)),
        .op .none 23 (.bin .lss (.t 20) (.t 22))]) <|
      .cond (.t 23)
        (.skip)
        (.exit 0)) <|
      .seq (.block 1 <|
        .seq (.seq (.reg false [.op .none 26 (.mv (.t 0)),
          .op .none 27 (.mv (.t 8)),
          .op .none 28 (.ia 2 (.t 26) (.t 27)),
          .op .none 29 (.fa 0 (.t 28)),
          .op .none 30 (.ld false 1 (.t 29)),
          .op .none 31 (.len false (.t 30)),
          .op .none 32 (.mv (.t 1)),
          .op .none 33 (.len false (.t 32)),
          .op .none 34 (.bin .neq (.t 31) (.t 33))]) <|
        .cond (.t 34)
          (.exit 1)
          (.skip)) <|
        .seq (.reg false [.op .none 35 (.mv (.t 0)),
          .op .none 36 (.mv (.t 8)),
          .op .none 37 (.ia 2 (.t 35) (.t 36)),
          .op .none 38 (.fa 0 (.t 37)),
          .op .none 39 (.ld false 1 (.t 38)),
          .op .none 40 (.mv (.t 1)),
          .call .none 41 (.f 82) [(.t 39), (.t 40)],
          .op .none 9 (.mv (.t 41))]) <|
        .seq (.reg false [.op .none 42 (.mv (.t 0)),
          .op .none 43 (.mv (.t 8)),
          .op .none 44 (.ia 2 (.t 42) (.t 43)),
          .op .none 45 (.fa 1 (.t 44)),
          .op .none 46 (.ld false 1 (.t 45)),
          .op .none 47 (.cln 1 16 (.t 46)),
          .op .none 10 (.mv (.t 47))]) <|
        .seq (.seq (.reg false [.op .none 48 (.mv (.t 9)),
          .op .none 49 (.len false (.t 48)),
          .op .none 50 (.bin .eql (.t 49) (.c (.w (.int .i64 0))))]) <|
        .cond (.t 50)
          (.seq (.reg false [.op .none 51 (.mv (.t 10)),
            .op .none 4 (.mv (.t 51)),
            .op .none 5 (.mv (.c (.w (.bool true)))),
            .op .none 6 (.mv (.c (.w (.int .i64 0))))]) <|
          .ret)
          (.skip)) <|
        .seq (.seq (.reg false [.op .none 52 (.mv (.t 9)),
          .op .none 53 (.len false (.t 52)),
          .op .none 54 (.bin .gtr (.t 53) (.c (.w (.int .i64 1))))]) <|
        .cond (.t 54)
          (.exit 1)
          (.skip)) <|
        .seq (.reg false [.op .none 11 (.mv (.c (.w (.int .i64 0))))]) <|
        .seq (.seq (.reg false [.op .none 12 (.mv (.c (.w (.int .i64 0))))]) <|
        .block 2 <|
          .loop <|
            .seq (.seq (.reg false [.op .none 55 (.mv (.t 12)),
              .op .none 56 (.mv (.t 10)),
              .op .none 57 (.len false (.t 56)),
              .op .none 58 (.bin .lss (.t 55) (.t 57))]) <|
            .cond (.t 58)
              (.skip)
              (.exit 2)) <|
            .seq (.block 3 <|
              .seq (.reg true [.op .none 61 (.mv (.t 10)),
                .op .none 62 (.mv (.t 12)),
                .op .none 63 (.ia 1 (.t 61) (.t 62)),
                .op .none 64 (.ld false 1 (.t 63)),
                .op .none 65 (.mv (.t 0)),
                .op .none 66 (.mv (.t 8)),
                .op .none 67 (.ia 2 (.t 65) (.t 66)),
                .op .none 68 (.fa 0 (.t 67)),
                .op .none 69 (.ld false 1 (.t 68)),
                .op .none 70 (.mv (.t 9)),
                .op .none 71 (.ia 1 (.t 70) (.c (.w (.int .i64 0)))),
                .op .none 72 (.ld false 1 (.t 71)),
                .op .none 73 (.ia 1 (.t 69) (.t 72)),
                .op .none 74 (.ld false 1 (.t 73)),
                .op .none 75 (.bin .eql (.t 64) (.t 74))]) <|
              .cond (.t 75)
                (.reg false [.op .none 76 (.mv (.t 11)),
                  .op .none 77 (.bin .add (.t 76) (.c (.w (.int .i64 1)))),
                  .op .none 11 (.mv (.t 77))])
                (.skip)) <|
            .reg false [.op .none 59 (.mv (.t 12)),
              .op .none 60 (.bin .add (.t 59) (.c (.w (.int .i64 1)))),
              .op .none 12 (.mv (.t 60))]) <|
        .seq (.reg false [.op .none 13 (.mv (.c (.w (.int .i64 0))))]) <|
        .block 4 <|
          .loop <|
            .seq (.seq (.reg false [.op .none 78 (.mv (.t 13)),
              .op .none 79 (.mv (.t 10)),
              .op .none 80 (.len false (.t 79)),
              .op .none 81 (.bin .lss (.t 78) (.t 80)),
              .op .none 82 (.mv (.t 81)),
              .op (.some (82, true)) 83 (.mv (.t 11)),
              .op (.some (82, true)) 84 (.bin .eql (.t 83) (.c (.w (.int .i64 1)))),
              .op .none 85 (.pick (.t 82) (.t 84) (.c (.w (.bool false))))]) <|
            .cond (.t 85)
              (.skip)
              (.exit 4)) <|
            .seq (.block 5 <|
              .seq (.reg true [.op .none 88 (.mv (.t 10)),
                .op .none 89 (.mv (.t 13)),
                .op .none 90 (.ia 1 (.t 88) (.t 89)),
                .op .none 91 (.ld false 1 (.t 90)),
                .op .none 92 (.mv (.t 0)),
                .op .none 93 (.mv (.t 8)),
                .op .none 94 (.ia 2 (.t 92) (.t 93)),
                .op .none 95 (.fa 0 (.t 94)),
                .op .none 96 (.ld false 1 (.t 95)),
                .op .none 97 (.mv (.t 9)),
                .op .none 98 (.ia 1 (.t 97) (.c (.w (.int .i64 0)))),
                .op .none 99 (.ld false 1 (.t 98)),
                .op .none 100 (.ia 1 (.t 96) (.t 99)),
                .op .none 101 (.ld false 1 (.t 100)),
                .op .none 102 (.bin .eql (.t 91) (.t 101))]) <|
              .cond (.t 102)
                (.seq (.reg false [.op .none 103 (.mv (.t 10)),
                  .op .none 104 (.mv (.t 13)),
                  .op .none 105 (.mv (.t 1)),
                  .op .none 106 (.mv (.t 9)),
                  .op .none 107 (.ia 1 (.t 106) (.c (.w (.int .i64 0)))),
                  .op .none 108 (.ld false 1 (.t 107)),
                  .op .none 109 (.ia 1 (.t 105) (.t 108)),
                  .op .none 110 (.ld false 1 (.t 109)),
                  .op .none 111 (.ia 1 (.t 103) (.t 104)),
                  .store .none false 1 (.t 111) (.t 110)]) <|
                .seq (.reg false [.op .none 112 (.mv (.t 10)),
                  .op .none 4 (.mv (.t 112)),
                  .op .none 5 (.mv (.c (.w (.bool true)))),
                  .op .none 6 (.mv (.c (.w (.int .i64 0))))]) <|
                .ret)
                (.skip)) <|
            .reg false [.op .none 86 (.mv (.t 13)),
              .op .none 87 (.bin .add (.t 86) (.c (.w (.int .i64 1)))),
              .op .none 13 (.mv (.t 87))]) <|
      .reg false [.op .none 24 (.mv (.t 8)),
        .op .none 25 (.bin .add (.t 24) (.c (.w (.int .i64 1)))),
        .op .none 8 (.mv (.t 25))]) <|
  .seq (.reg false [.op .none 4 (.nilS 1),
    .op .none 5 (.mv (.c (.w (.bool false)))),
    .op .none 6 (.mv (.c (.w (.int .i64 0))))]) <|
  .ret
theorem k31 : FnCode Try.prog 31 [] 113 [4, 5, 6] c31 := ⟨Try.f31, Try.func31, fun xs W => Try.call31 xs W, by kernel_rfl, by kernel_rfl, by kernel_rfl⟩

/-- `x`, if it stands in just one place, becomes `y`. -/
def putF (x y : Bs) : List Bs → Option (List Bs)
  | [] => none
  | b :: B => if b = x then (if x ∈ B then none else some (y :: B)) else (putF x y B).map (b :: ·)
theorem put_idx (x y : Bs) : ∀ (B : List Bs) (i : Nat), (idxF (fun z => decide (x = z)) B i = -1 ∧ putF x y B = none) ∨ ∃ j, j < B.length ∧ idxF (fun z => decide (x = z)) B i = (i + j : Nat) ∧ putF x y B = if inW (B.drop (j + 1)) x = true then none else some (B.set j y)
  | [], i => .inl ⟨rfl, rfl⟩
  | b :: B, i => by
    by_cases h : x = b
    · right
      refine ⟨0, by simp, by simp [idxF, h], ?_⟩
      subst h
      simp only [putF, if_true, Nat.zero_add, List.drop_succ_cons, List.drop_zero, List.set_cons_zero]
      have := inW_iff B x
      by_cases hb : x ∈ B
      · rw [if_pos hb, if_pos (this.2 hb)]
      · rw [if_neg hb, if_neg fun z => hb (this.1 z)]
    · have h' : ¬ b = x := fun e => h e.symm
      simp only [idxF, putF, h, h', decide_false, Bool.false_eq_true, if_false]
      rcases put_idx x y B (i + 1) with ⟨h1, h2⟩ | ⟨j, h1, h2, h3⟩
      · left; rw [h1, h2]; exact ⟨rfl, rfl⟩
      · right
        refine ⟨j + 1, by simp; omega, by rw [h2]; omega, ?_⟩
        rw [h3]
        simp only [List.drop_succ_cons, List.set_cons_succ]
        split <;> rfl
def cntB (x : Bs) : List Bs → Nat → Nat
  | [], n => n
  | b :: B, n => cntB x B (if b = x then n + 1 else n)
theorem cntB_le (x : Bs) : ∀ (B : List Bs) (n : Nat), n ≤ cntB x B n ∧ cntB x B n ≤ n + B.length ∧ (x ∈ B → n < cntB x B n) ∧ (¬ x ∈ B → cntB x B n = n)
  | [], n => by simp [cntB]
  | b :: B, n => by
    simp only [cntB, List.mem_cons, List.length_cons]
    by_cases h : b = x
    · have := cntB_le x B (n + 1)
      simp only [h, if_true]
      exact ⟨by omega, by omega, fun _ => by omega, fun q => by simp at q⟩
    · have := cntB_le x B n
      simp only [h, if_false]
      refine ⟨by omega, by omega, fun q => ?_, fun q => ?_⟩
      · rcases q with q | q
        · exact absurd q.symm h
        · exact this.2.2.1 q
      · exact this.2.2.2 fun z => q (.inr z)
theorem cntB_add (x : Bs) : ∀ (B : List Bs) (n m : Nat), cntB x B (n + m) = cntB x B n + m
  | [], _, _ => rfl
  | b :: B, n, m => by
    simp only [cntB]
    split
    · have := cntB_add x B (n + 1) m
      have e : n + m + 1 = n + 1 + m := by omega
      rw [e, this]
    · exact cntB_add x B n m
theorem put_cnt (x y : Bs) : ∀ (B : List Bs), (cntB x B 0 ≠ 1 ∧ putF x y B = none) ∨ (cntB x B 0 = 1 ∧ ∃ j, ∃ h : j < B.length, B[j] = x ∧ (∀ (i : Nat) (hi : i < B.length), i < j → ¬ B[i] = x) ∧ putF x y B = some (B.set j y))
  | [] => .inl ⟨by simp [cntB], rfl⟩
  | b :: B => by
    by_cases h : b = x
    · have hc : cntB x (b :: B) 0 = cntB x B 0 + 1 := by simp only [cntB, h, if_true]; exact cntB_add x B 0 1
      have hl := cntB_le x B 0
      rw [hc]
      simp only [putF, h, if_true]
      by_cases hx : x ∈ B
      · have := hl.2.2.1 hx
        exact .inl ⟨by omega, by simp [hx]⟩
      · have := hl.2.2.2 hx
        exact .inr ⟨by omega, 0, by simp, rfl, by simp, by simp [hx]⟩
    · have hc : cntB x (b :: B) 0 = cntB x B 0 := by simp only [cntB, h, if_false]
      rw [hc]
      simp only [putF, h, if_false]
      rcases put_cnt x y B with ⟨h1, h2⟩ | ⟨h1, j, hj, h2, h3, h4⟩
      · exact .inl ⟨h1, by rw [h2]; rfl⟩
      · refine .inr ⟨h1, j + 1, by simp; omega, by simpa using h2, fun i hi hij => ?_, by rw [h4]; rfl⟩
        cases i with
        | zero => simpa using h
        | succ i => simpa using h3 i (by simpa using hi) (by omega)
theorem dfI_nil : ∀ (a b : List Bs) (i : Nat), a.length = b.length → (dfI a b i = [] ↔ a = b)
  | [], [], _, _ => by simp [dfI]
  | [], _ :: _, _, h => by simp at h
  | _ :: _, [], _, h => by simp at h
  | x :: a, y :: b, i, h => by
    have ih := dfI_nil a b (i + 1) (by simpa using h)
    simp only [dfI]
    by_cases hx : x = y
    · simp [hx, ih]
    · simp [hx]
def rep1 (w : List Bs) (k : KnownT) : Option (List Bs) := if k.1 = w then some k.2.1 else if k.1.length ≠ w.length then none else match dfI k.1 w 0 with
  | [t] => putF (k.1.getD t []) (w.getD t []) k.2.1
  | _ => none
def repL (w : List Bs) : List KnownT → Option (List Bs)
  | [] => none
  | k :: l => match rep1 w k with
    | some x => some x
    | none => repL w l
def repO : Option (List Bs) → List Bs × Bool × Int
  | some x => (x, true, 0)
  | none => ([], false, 0)
def repF (l : List KnownT) (w : List Bs) : List Bs × Bool × Int := if knF l w ≠ 0 then ([], false, knF l w) else repO (repL w l)
theorem fok30 (l : List KnownT) (w : List Bs) (hs : knS l w) : FOk Try.prog 30 [.v (.sl 2 (l.map knownV)), .v (.word w)] [] (.tup [.v (.word (repF l w).1), .B (repF l w).2.1, .I (repF l w).2.2]) [] := by
  have r1 := fok72 l w hs
  have hc := knF_cases l w
  refine FOk.val k30 (by simp) (by simp) (by decide) ?_
  unfold repF
  generalize hres : (if knF l w ≠ 0 then (([] : List Bs), false, knF l w) else repO (repL w l)) = res
  simp [c30]
  refine CallG.lent rfl rfl rfl rfl r1 rfl ?_
  rcases hc with hc | ⟨hc, hl, hw, hk⟩
  · rw [if_pos (by omega)] at hres
    subst hres
    simp [hc]
    exact Ends.v rfl (by simp [hc])
  rw [if_neg (by omega)] at hres
  simp [hc]
  refine Run.loopA (ι := Nat) [] (fun i => i ≤ l.length ∧ repO (repL w (l.drop i)) = res) (fun i => ⟨[(1, .v (.word w)), (19, .v (.sl 2 (l.map knownV))), (20, .I l.length), (21, .I i)], [], 1024⟩) (fun i => l.length - i) 0 (by decide) (by simp) ⟨by simp, by simpa using hres⟩ ?_
  rintro i ⟨hi, hall⟩ ih
  simp only at hi hall ih
  clear hres
  by_cases h : i < l.length
  case neg =>
    rw [drop_no h] at hall
    simp only [repL, repO] at hall
    subst hall
    simp [h]
    exact Ends.v rfl (by simp)
  rw [drop_at h] at hall
  rcases hli : l[i] with ⟨ka, kb, ku⟩
  have hm : l[i] ∈ l := List.getElem_mem h
  rw [hli] at hm hall
  have hb := hk _ hm
  simp only at hb
  simp only [repL] at hall
  have r2 := fok45 ka w (by omega) (by omega)
  have r3 := fok74 kb (by omega)
  have r3o := fokO74 kb (by omega)
  have r4 := fok80 ka w (by omega) (by omega)
  simp (disch := omega) [h, wrap_i64, hli, knownV]
  refine CallG.lent rfl rfl rfl rfl r2 rfl ?_
  by_cases h1 : ka = w
  · have e1 : rep1 w (ka, kb, ku) = some kb := by simp [rep1, h1]
    rw [e1] at hall
    simp only [repO] at hall
    subst hall
    simp [h1]
    refine CallG.plain rfl rfl rfl rfl r3 (by simp) (by simp) ?_
    simp
    exact Ends.v rfl (by simp)
  simp [h1]
  refine CallG.lent rfl rfl rfl rfl r4 rfl ?_
  by_cases h2 : ka.length = w.length
  case neg =>
    have e1 : rep1 w (ka, kb, ku) = none := by simp [rep1, h1, h2]
    have e2 : unF ka w = -1 := by simp [unF, h2]
    rw [e1] at hall
    simp (disch := omega) [e2, wrap_i64]
    exact ih (i + 1) _ ⟨by omega, hall⟩ (by omega) (by simp)
  have hge := dfI_ge ka w 0
  have hnil := dfI_nil ka w 0 h2
  rcases hd : dfI ka w 0 with _ | ⟨t, _ | ⟨t2, T⟩⟩
  · exact absurd (hnil.1 hd) h1
  case cons.cons =>
    have e1 : rep1 w (ka, kb, ku) = none := by simp [rep1, h1, h2, hd]
    have e2 : unF ka w = -1 := by simp [unF, h2, hd]
    rw [e1] at hall
    simp (disch := omega) [e2, wrap_i64]
    exact ih (i + 1) _ ⟨by omega, hall⟩ (by omega) (by simp)
  have e1 : rep1 w (ka, kb, ku) = putF (ka.getD t []) (w.getD t []) kb := by simp [rep1, h1, h2, hd]
  have e2 : unF ka w = t := by simp [unF, h2, hd]
  rw [e1] at hall
  rw [e2]
  clear e1 e2
  rw [hd] at hge
  have ht := hge t (by simp)
  simp only [Nat.zero_add] at ht
  have ht1 : t < ka.length := ht.2.1
  have ht2 : t < w.length := ht.2.2
  clear hge hnil
  have g1 : ka.getD t [] = ka[t] := by simp [ht1]
  have g2 : w.getD t [] = w[t] := by simp [ht2]
  simp only [g1, g2] at hall
  have r5 := fok81 kb ka[t] (by omega)
  have hn0 : ¬ (t : Int) < 0 := by omega
  simp (disch := omega) [wrap_i64, ht1, ht2, hn0]
  refine CallG.lent rfl rfl rfl rfl r5 rfl ?_
  rcases put_idx ka[t] w[t] kb 0 with ⟨p1, p2⟩ | ⟨j, pj, p1, p2⟩
  · rw [p2] at hall
    simp only at hall
    rw [p1]
    simp (disch := omega) [wrap_i64]
    exact ih (i + 1) _ ⟨by omega, hall⟩ (by omega) (by simp)
  rw [p2] at hall
  rw [p1]
  simp only [Nat.zero_add]
  have pj1 : (j : Int) + 1 ≤ kb.length := by omega
  have htk : (kb.map fun s => PV.w (.string (bs s))).take kb.length = kb.map fun s => PV.w (.string (bs s)) := List.take_of_length_le (by simp)
  have r6 := fok69 (kb.drop (j + 1)) ka[t] (by simp; omega)
  rw [show PV.word (kb.drop (j + 1)) = .sl 1 ((kb.map fun s => PV.w (.string (bs s))).drop (j + 1)) by simp] at r6
  simp (disch := omega) [wrap_i64, ht1, pj1, htk]
  refine CallG.lent rfl rfl rfl rfl r6 rfl ?_
  cases hin : inW (kb.drop (j + 1)) ka[t]
  case true =>
    rw [hin, if_pos rfl] at hall
    simp (disch := omega) [wrap_i64]
    exact ih (i + 1) _ ⟨by omega, hall⟩ (by omega) (by simp)
  rw [hin, if_neg (by simp)] at hall
  simp only [repO] at hall
  subst hall
  simp (disch := omega) [wrap_i64]
  refine CallG.plain rfl rfl rfl rfl r3o (by simp) (by simp) ?_
  have pj2 : j < kb.length := pj
  simp (disch := omega) [wrap_i64, ht1, ht2, pj2]
  exact Ends.v rfl (by simp)
theorem fok31 (l : List KnownT) (w : List Bs) (hs : knS l w) : FOk Try.prog 31 [.v (.sl 2 (l.map knownV)), .v (.word w)] [] (.tup [.v (.word (repF l w).1), .B (repF l w).2.1, .I (repF l w).2.2]) [] := by
  have r1 := fok78 l w hs
  have hc := knF_cases l w
  refine FOk.val k31 (by simp) (by simp) (by decide) ?_
  unfold repF
  generalize hres : (if knF l w ≠ 0 then (([] : List Bs), false, knF l w) else repO (repL w l)) = res
  simp [c31]
  refine CallG.lent rfl rfl rfl rfl r1 rfl ?_
  rcases hc with hc | ⟨hc, hl, hw, hk⟩
  · rw [if_pos (by omega)] at hres
    subst hres
    simp [hc]
    exact Ends.v rfl (by simp [hc])
  rw [if_neg (by omega)] at hres
  simp [hc]
  refine Run.loopA (ι := Nat) [] (fun i => i ≤ l.length ∧ repO (repL w (l.drop i)) = res) (fun i => ⟨[(0, .v (.sl 2 (l.map knownV))), (1, .v (.word w)), (8, .I i)], [], 1024⟩) (fun i => l.length - i) 0 (by decide) (by simp) ⟨by simp, by simpa using hres⟩ ?_
  rintro i ⟨hi, hall⟩ ih
  simp only at hi hall ih
  clear hres
  by_cases h : i < l.length
  case neg =>
    rw [drop_no h] at hall
    simp only [repL, repO] at hall
    subst hall
    simp [h]
    exact Ends.v rfl (by simp)
  rw [drop_at h] at hall
  rcases hli : l[i] with ⟨ka, kb, ku⟩
  have hm : l[i] ∈ l := List.getElem_mem h
  rw [hli] at hm hall
  have hb := hk _ hm
  simp only at hb
  simp only [repL] at hall
  simp (disch := omega) [h, wrap_i64, hli, knownV]
  by_cases h2 : ka.length = w.length
  case neg =>
    have e1 : rep1 w (ka, kb, ku) = none := by
      have : ¬ ka = w := fun e => h2 (by rw [e])
      simp [rep1, h2, this]
    rw [e1] at hall
    have h2' : ¬ (ka.length : Int) = w.length := by omega
    simp (disch := omega) [h2', wrap_i64]
    exact ih (i + 1) _ ⟨by omega, hall⟩ (by omega) (by simp)
  have h2' : (ka.length : Int) = w.length := by omega
  have r2 := fok82 ka w h2 (by omega)
  have hge := dfI_ge ka w 0
  have hnil := dfI_nil ka w 0 h2
  have hmc : (kb.length + 1000) * 16 ≤ 70368744177664 := by omega
  simp (disch := (clear hmc; omega)) [h2', wrap_i64]
  refine CallG.plain rfl rfl rfl rfl r2 (by simp) (by simp) ?_
  rcases hd : dfI ka w 0 with _ | ⟨t, _ | ⟨t2, T⟩⟩
  · have h1 := hnil.1 hd
    have e1 : rep1 w (ka, kb, ku) = some kb := by simp [rep1, h1]
    rw [e1] at hall
    simp only [repO] at hall
    subst hall
    simp (disch := (clear hmc; omega)) [h, wrap_i64, hli, knownV, hmc]
    exact Ends.v rfl (by simp)
  case cons.cons =>
    have h1 : ¬ ka = w := fun e => by have := hnil.2 e; rw [hd] at this; cases this
    have e1 : rep1 w (ka, kb, ku) = none := by simp [rep1, h1, h2, hd]
    rw [e1] at hall
    have q1 : ¬ ((T.length : Int) + 1 + 1 = 0) := by omega
    have q2 : (1 : Int) < (T.length : Int) + 1 + 1 := by omega
    simp (disch := (clear hmc; omega)) [h, wrap_i64, hli, knownV, hmc, q1, q2]
    exact ih (i + 1) _ ⟨by omega, hall⟩ (by omega) (by simp)
  have h1 : ¬ ka = w := fun e => by have := hnil.2 e; rw [hd] at this; cases this
  have e1 : rep1 w (ka, kb, ku) = putF (ka.getD t []) (w.getD t []) kb := by simp [rep1, h1, h2, hd]
  rw [e1] at hall
  rw [hd] at hge
  have ht := hge t (by simp)
  simp only [Nat.zero_add] at ht
  have ht1 : t < ka.length := ht.2.1
  have ht2 : t < w.length := ht.2.2
  clear hge hnil e1
  have g1 : ka.getD t [] = ka[t] := by simp [ht1]
  have g2 : w.getD t [] = w[t] := by simp [ht2]
  simp only [g1, g2] at hall
  simp (disch := (clear hmc; omega)) [h, wrap_i64, hli, knownV, hmc]
  clear hmc
  refine Run.loopA (ι := Nat × Nat) [(1, 10)] (fun q => q.1 ≤ kb.length ∧ q.2 ≤ q.1 ∧ cntB ka[t] (kb.drop q.1) q.2 = cntB ka[t] kb 0) (fun q => ⟨[(0, .v (.sl 2 (l.map knownV))), (1, .v (.word w)), (8, .I i), (9, .v (.sl 1 [.i t])), (10, .h 1), (11, .I q.2), (12, .I q.1)], [(1, ⟨false, 1, kb.map fun s => .w (.string (bs s))⟩)], 1024⟩) (fun q => kb.length - q.1) (0, 0) (by decide) (by simp) (by simp) ?_
  rintro ⟨k, n⟩ ⟨hk1, hk2, hk3⟩ ih2
  simp only at hk1 hk2 hk3 ih2
  by_cases h3 : k < kb.length
  · rw [drop_at h3] at hk3
    simp only [cntB] at hk3
    by_cases h4 : kb[k] = ka[t]
    · rw [if_pos h4] at hk3
      simp (disch := omega) [h, h3, wrap_i64, hli, knownV, ht1, ht2, h4]
      exact ih2 (k + 1, n + 1) _ ⟨by simp; omega, by simp; omega, hk3⟩ (by simp; omega) (by simp)
    · rw [if_neg h4] at hk3
      simp (disch := omega) [h, h3, wrap_i64, hli, knownV, ht1, ht2, h4]
      exact ih2 (k + 1, n) _ ⟨by simp; omega, by simp; omega, hk3⟩ (by simp; omega) (by simp)
  rw [drop_no h3] at hk3
  simp only [cntB] at hk3
  subst hk3
  clear ih2
  simp (disch := omega) [h3, wrap_i64]
  rcases put_cnt ka[t] w[t] kb with ⟨p1, p2⟩ | ⟨p1, j, pj, p2, p3, p4⟩
  · rw [p2] at hall
    have p1' : ¬ ((cntB ka[t] kb 0 : Nat) : Int) = 1 := by omega
    generalize cntB ka[t] kb 0 = n at p1 p1'
    refine Run.loopA (ι := Unit) [(1, 10)] (fun q => True) (fun q => ⟨[(0, .v (.sl 2 (l.map knownV))), (1, .v (.word w)), (8, .I i), (9, .v (.sl 1 [.i t])), (10, .h 1), (11, .I n), (13, .I 0)], [(1, ⟨false, 1, kb.map fun s => .w (.string (bs s))⟩)], 1024⟩) (fun q => 0) () (by decide) (by simp) (by simp) ?_
    rintro _ _ ih2
    clear ih2
    by_cases h5 : 0 < kb.length
    · simp (disch := omega) [h5, p1, p1', wrap_i64]
      exact ih (i + 1) _ ⟨by omega, hall⟩ (by omega) (by simp)
    · simp (disch := omega) [h5, p1, p1', wrap_i64]
      exact ih (i + 1) _ ⟨by omega, hall⟩ (by omega) (by simp)
  rw [p4] at hall
  simp only [repO] at hall
  rw [p1]
  clear ih
  refine Run.loopA (ι := Nat) [(1, 10)] (fun k => k ≤ j) (fun k => ⟨[(0, .v (.sl 2 (l.map knownV))), (1, .v (.word w)), (8, .I i), (9, .v (.sl 1 [.i t])), (10, .h 1), (11, .I 1), (13, .I k)], [(1, ⟨false, 1, kb.map fun s => .w (.string (bs s))⟩)], 1024⟩) (fun k => j - k) 0 (by decide) (by simp) (by simp) ?_
  rintro k2 hk4 ih2
  have h6 : k2 < kb.length := by omega
  by_cases h7 : k2 = j
  · subst h7
    subst hall
    simp (disch := omega) [h, h6, wrap_i64, hli, knownV, ht1, ht2, p2]
    exact Ends.v rfl (by simp)
  have h8 := p3 k2 h6 (by omega)
  simp (disch := omega) [h, h6, wrap_i64, hli, knownV, ht1, ht2, h8]
  exact ih2 (k2 + 1) _ (by omega) (by omega) (by simp)

end Go.Proofs
