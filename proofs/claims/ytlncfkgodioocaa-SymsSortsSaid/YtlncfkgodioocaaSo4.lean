/- The walk. -/
import Derived.Test.YtlncfkgodioocaaSo3
import Derived.Test.YtlncfkgodioocaaProg
import Derived.KernelRfl
set_option linter.all false
set_option maxHeartbeats 2000000
namespace Go.Proofs
open Go Go.AM
attribute [local irreducible] Run Ends
/-- ablaut/ablautlaw01.over -/
def c13 : MC :=
  .seq (.reg false [.op .none 2 (.mv (.c (.w (.bool false))))]) <|
  .seq (.reg false [.op .none 3 (.mv (.c (.w (.int .i64 0))))]) <|
  .seq (.seq (.reg false [.op .none 4 (.mv (.c (.w (.int .i64 0))))]) <|
  .block 0 <|
    .loop <|
      .seq (.seq (.reg false [.op .none 6 (.mv (.t 4)),
        .op .none 7 (.mv (.t 0)),
        .op .none 8 (.len false (.t 7)),
        .op .none 9 (.bin .lss (.t 6) (.t 8))]) <|
      .cond (.t 9)
        (.skip)
        (.exit 0)) <|
      .seq (.block 1 <|
        .seq (.seq (.reg false [.op .none 12 (.mv (.t 0)),
          .op .none 13 (.mv (.t 4)),
          .op .none 14 (.ia 1 (.t 12) (.t 13)),
          .op .none 15 (.ld false 1 (.t 14)),
          .op .none 16 (.len false (.t 15)),
          .op .none 17 (.bin .gtr (.t 16) (.c (.w (.int .i64 4000))))]) <|
        .cond (.t 17)
          (.seq (.reg false [.op .none 2 (.mv (.c (.w (.bool true))))]) <|
          .ret)
          (.skip)) <|
        .seq (.reg false [.op .none 5 (.mv (.c (.w (.int .i64 0))))]) <|
        .block 2 <|
          .loop <|
            .seq (.seq (.reg false [.op .none 18 (.mv (.t 5)),
              .op .none 19 (.mv (.t 0)),
              .op .none 20 (.mv (.t 4)),
              .op .none 21 (.ia 1 (.t 19) (.t 20)),
              .op .none 22 (.ld false 1 (.t 21)),
              .op .none 23 (.len false (.t 22)),
              .op .none 24 (.bin .lss (.t 18) (.t 23))]) <|
            .cond (.t 24)
              (.skip)
              (.exit 2)) <|
            .seq (.block 3 <|
              .seq (.seq (.reg false [.op .none 27 (.mv (.t 0)),
                .op .none 28 (.mv (.t 4)),
                .op .none 29 (.ia 1 (.t 27) (.t 28)),
                .op .none 30 (.ld false 1 (.t 29)),
                .op .none 31 (.mv (.t 5)),
                .op .none 32 (.ia 1 (.t 30) (.t 31)),
                .op .none 33 (.ld false 1 (.t 32)),
                .op .none 34 (.len true (.t 33)),
                .op .none 35 (.bin .gtr (.t 34) (.c (.w (.int .i64 4000))))]) <|
              .cond (.t 35)
                (.seq (.reg false [.op .none 2 (.mv (.c (.w (.bool true))))]) <|
                .ret)
                (.skip)) <|
              .reg false [.op .none 36 (.mv (.t 3)),
                .op .none 37 (.mv (.t 0)),
                .op .none 38 (.mv (.t 4)),
                .op .none 39 (.ia 1 (.t 37) (.t 38)),
                .op .none 40 (.ld false 1 (.t 39)),
                .op .none 41 (.mv (.t 5)),
                .op .none 42 (.ia 1 (.t 40) (.t 41)),
                .op .none 43 (.ld false 1 (.t 42)),
                .op .none 44 (.len true (.t 43)),
                .op .none 45 (.bin .add (.c (.w (.int .i64 1))) (.t 44)),
                .op .none 46 (.bin .add (.t 36) (.t 45)),
                .op .none 3 (.mv (.t 46))]) <|
            .reg false [.op .none 25 (.mv (.t 5)),
              .op .none 26 (.bin .add (.t 25) (.c (.w (.int .i64 1)))),
              .op .none 5 (.mv (.t 26))]) <|
      .reg false [.op .none 10 (.mv (.t 4)),
        .op .none 11 (.bin .add (.t 10) (.c (.w (.int .i64 1)))),
        .op .none 4 (.mv (.t 11))]) <|
  .seq (.reg false [.op .none 47 (.mv (.t 3)),
    .op .none 48 (.bin .gtr (.t 47) (.c (.w (.int .i64 16000)))),
    .op .none 2 (.mv (.t 48))]) <|
  .ret
theorem k13 : FnCode Try.prog 13 [] 49 [2] c13 := ⟨Try.f13, Try.func13, fun xs W => Try.call13 xs W, by kernel_rfl, by kernel_rfl, by kernel_rfl⟩

/-- ablaut/ablautlaw01.SymsSorts -/
def c10 : MC :=
  .seq (.reg false [.op .none 2 (.mv (.c (.w (.bool false))))]) <|
  .seq (.seq (.reg false [.op .none 7 (.mv (.t 0)),
    .op .none 8 (.len false (.t 7)),
    .op .none 9 (.bin .gtr (.t 8) (.c (.w (.int .i64 4000)))),
    .op .none 10 (.mv (.t 9)),
    .op (.some (10, false)) 11 (.mv (.t 0)),
    .call (.some (10, false)) 12 (.f 13) [(.t 11)],
    .op .none 13 (.pick (.t 10) (.c (.w (.bool true))) (.t 12))]) <|
  .cond (.t 13)
    (.seq (.reg false [.call .none 14 (.f 14) [],
      .op .none 2 (.mv (.t 14))]) <|
    .ret)
    (.skip)) <|
  .seq (.reg false [.op .none 16 (.mv (.t 0)),
    .call .none 17 (.f 33) [(.t 16)],
    .op .none 15 (.mv (.t 17)),
    .op .none 18 (.ext (.t 15) 0),
    .op .none 19 (.ext (.t 15) 1),
    .op .none 3 (.mv (.t 18)),
    .op .none 4 (.mv (.t 19))]) <|
  .seq (.reg false [.op .none 21 (.mv (.t 0)),
    .call .none 22 (.f 34) [(.t 21)],
    .op .none 20 (.mv (.t 22)),
    .op .none 23 (.ext (.t 20) 0),
    .op .none 24 (.ext (.t 20) 1),
    .op .none 5 (.mv (.t 23)),
    .op .none 6 (.mv (.t 24))]) <|
  .seq (.reg false [.op .none 25 (.mv (.t 3)),
    .op .none 26 (.mv (.t 5)),
    .call .none 27 (.f 35) [(.t 25), (.t 26)],
    .op .none 28 (.mv (.t 27)),
    .op (.some (28, true)) 29 (.mv (.t 4)),
    .op (.some (28, true)) 30 (.mv (.t 6)),
    .op (.some (28, true)) 31 (.bin .eql (.t 29) (.t 30)),
    .op .none 32 (.pick (.t 28) (.t 31) (.c (.w (.bool false)))),
    .op .none 33 (.mv (.t 32)),
    .call (.some (33, true)) 34 (.f 14) [],
    .op .none 35 (.pick (.t 33) (.t 34) (.c (.w (.bool false)))),
    .op .none 2 (.mv (.t 35))]) <|
  .ret
theorem k10 : FnCode Try.prog 10 [] 36 [2] c10 := ⟨Try.f10, Try.func10, fun xs W => Try.call10 xs W, by kernel_rfl, by kernel_rfl, by kernel_rfl⟩

def ovW : List Bs → Nat → Option Nat
  | [], n => some n
  | s :: w, n => if 4000 < s.length then none else ovW w (n + (1 + s.length))
def ovL : List (List Bs) → Nat → Option Nat
  | [], n => some n
  | w :: l, n => if 4000 < w.length then none else match ovW w n with
    | none => none
    | some m => ovL l m
def ovF (l : List (List Bs)) : Bool := match ovL l 0 with
  | none => true
  | some n => decide (16000 < n)
theorem ovW_le : ∀ (w : List Bs) (n m : Nat), ovW w n = some m → m ≤ n + w.length * 4001
  | [], n, m, h => by simp only [ovW, Option.some.injEq] at h; subst h; simp
  | s :: w, n, m, h => by
    simp only [ovW] at h
    split at h
    · cases h
    · have := ovW_le w _ _ h
      simp only [List.length_cons]
      omega
theorem fok13 (l : List (List Bs)) (hl : l.length ≤ 4000) : FOk Try.prog 13 [.v (.words l)] [] (.B (ovF l)) [] := by
  refine FOk.val k13 (by simp) (by simp) (by decide) ?_
  simp [c13, PV.words]
  refine Run.loopA (ι := Nat × Nat) [] (fun q => q.1 ≤ l.length ∧ q.2 ≤ q.1 * 16004000 ∧ ovL (l.drop q.1) q.2 = ovL l 0) (fun q => ⟨[(0, .v (.words l)), (3, .I q.2), (4, .I q.1)], [], 1024⟩) (fun q => l.length - q.1) (0, 0) (by decide) (by simp [PV.words]) (by simp) ?_
  rintro ⟨i, n⟩ ⟨hi, hn, hall⟩ ih
  simp only at hi hn hall
  by_cases h : i < l.length
  · rw [drop_at h] at hall
    simp only [ovL] at hall
    by_cases h1 : 4000 < l[i].length
    · rw [if_pos h1] at hall
      simp (disch := omega) [h, wrap_i64, PV.words, h1]
      exact Ends.v rfl (by simp [ovF, ← hall])
    · rw [if_neg h1] at hall
      simp (disch := omega) [h, wrap_i64, PV.words, h1]
      refine Run.loopA (ι := Nat × Nat) [] (fun q => q.1 ≤ l[i].length ∧ q.2 ≤ n + q.1 * 4001 ∧ ovW (l[i].drop q.1) q.2 = ovW l[i] n) (fun q => ⟨[(0, .v (.words l)), (3, .I q.2), (4, .I i), (5, .I q.1)], [], 1024⟩) (fun q => l[i].length - q.1) (0, n) (by decide) (by simp [PV.words]) (by simp) ?_
      rintro ⟨k, m⟩ ⟨hk, hm, hw⟩ ih2
      simp only at hk hm hw
      by_cases h2 : k < l[i].length
      · rw [drop_at h2] at hw
        simp only [ovW] at hw
        by_cases h3 : 4000 < l[i][k].length
        · rw [if_pos h3] at hw
          rw [← hw] at hall
          simp (disch := omega) [h, h2, wrap_i64, PV.words, h3]
          exact Ends.v rfl (by simp [ovF, ← hall])
        · rw [if_neg h3] at hw
          simp (disch := omega) [h, h2, wrap_i64, PV.words, h3]
          exact ih2 (k + 1, m + (1 + l[i][k].length)) _ ⟨by omega, by simp only []; omega, hw⟩ (by simp only []; omega) (by simp [PV.words])
      · rw [drop_no h2] at hw
        simp only [ovW] at hw
        rw [← hw] at hall
        have hm2 := ovW_le _ _ _ hw.symm
        simp (disch := omega) [h, h2, wrap_i64, PV.words]
        exact ih (i + 1, m) _ ⟨by omega, by simp only []; omega, hall⟩ (by simp only []; omega) (by simp [PV.words])
  · rw [drop_no h] at hall
    simp only [ovL] at hall
    simp [h, PV.words]
    exact Ends.v rfl (by simp [ovF, ← hall])

def wordsC (l : List (List Bs)) : Prop := l.length * 24 ≤ 140737488351232 ∧ ∀ w ∈ l, wordC w
theorem sortF_ok {l : List (List Bs)} : ∀ w ∈ (sortF l).1, w.length ≤ 60 := by
  intro w hw
  unfold sortF at hw
  split at hw
  · cases hw
  · split at hw
    · rename_i h
      rw [cpct_mem, srt_mem] at hw
      exact vWords_ok h w hw
    · cases hw
theorem sortF_len {l : List (List Bs)} : (sortF l).1.length ≤ 200 := by
  unfold sortF
  split
  · simp
  · split
    · have := cpct_len (srt cmpL l)
      rw [srt_len] at this
      simp only; omega
    · simp
theorem lSorts_any {d : Inhabited Prop} (hk : @FOk d Try.prog 14 [] [] (.B true) []) (l : List (List Bs)) (hl : wordsC l) : @FOk d Try.prog 10 [.v (.words l)] [] (.B true) [] := by
  refine FOk.val k10 (by simp) (by simp) (by decide) ?_
  by_cases h0 : 4000 < l.length
  · simp [c10, PV.words, h0]
    refine CallG.lent rfl rfl rfl rfl hk rfl ?_
    simp
    exact Ends.v rfl (by simp)
  have hB : wsB l := ⟨by omega, fun w hw => (hl.2 w hw).s⟩
  simp [c10, PV.words, h0]
  refine CallG.lent rfl rfl rfl rfl (fok13 l (by omega)).any rfl ?_
  cases ho : ovF l with
  | true =>
    simp
    refine CallG.lent rfl rfl rfl rfl hk rfl ?_
    simp
    exact Ends.v rfl (by simp)
  | false =>
    simp
    refine CallG.plain rfl rfl rfl rfl (fok33 l hB).any (by simp) (by simp) ?_
    simp
    refine CallG.plain rfl rfl rfl rfl (fok34 l hB).any (by simp) (by simp) ?_
    simp [PV.words]
    have h1 := fun w hw => Nat.le_trans (sortF_ok (l := l) w hw) (show 60 ≤ 1000000000 by omega)
    refine CallG.lent rfl rfl rfl rfl (fok35 (sortF l).1 (sortF l).1 (by have := sortF_len (l := l); omega) h1 h1).any rfl ?_
    simp
    refine CallG.lent rfl rfl rfl rfl hk rfl ?_
    simp
    exact Ends.v rfl (by simp)

end Go.Proofs
