/- The walk. -/
import Derived.Test.YtphjjlhpepmofaaWd
import Derived.Test.YtphjjlhpepmofaaGr
import Derived.Test.YtphjjlhpepmofaaProg
import Derived.KernelRfl
set_option linter.all false
set_option maxHeartbeats 2000000
namespace Go.Proofs
open Go Go.AM
attribute [local irreducible] Run Ends
/-- slices.Equal[[]string,string] -/
def c53 : MC :=
  .seq (.reg false [.op .none 4 (.mv (.c (.w (.bool false))))]) <|
  .seq (.seq (.reg false [.op .none 6 (.mv (.t 0)),
    .op .none 7 (.len false (.t 6)),
    .op .none 8 (.mv (.t 1)),
    .op .none 9 (.len false (.t 8)),
    .op .none 10 (.bin .neq (.t 7) (.t 9))]) <|
  .cond (.t 10)
    (.seq (.reg false [.op .none 4 (.mv (.c (.w (.bool false))))]) <|
    .ret)
    (.skip)) <|
  .seq (.seq (.reg false [.op .none 11 (.mv (.t 0)),
    .op .none 12 (.len false (.t 11)),
    .op .none 13 (.mv (.c (.w (.int .i64 0))))]) <|
  .block 0 <|
    .loop <|
      .seq (.reg false [.op .none 14 (.bin .lss (.t 13) (.t 12))]) <|
      .seq (.cond (.t 14)
        (.skip)
        (.exit 0)) <|
      .seq (.block 1 <|
        .seq (.reg false [.op .none 15 (.mv (.t 13)),
          .op .none 5 (.mv (.t 15))]) <|
        .seq (.reg true [.op .none 16 (.mv (.t 0)),
          .op .none 17 (.mv (.t 5)),
          .op .none 18 (.ia 1 (.t 16) (.t 17)),
          .op .none 19 (.ld false 1 (.t 18)),
          .op .none 20 (.mv (.t 1)),
          .op .none 21 (.mv (.t 5)),
          .op .none 22 (.ia 1 (.t 20) (.t 21)),
          .op .none 23 (.ld false 1 (.t 22)),
          .op .none 24 (.bin .neq (.t 19) (.t 23))]) <|
        .cond (.t 24)
          (.seq (.reg false [.op .none 4 (.mv (.c (.w (.bool false))))]) <|
          .ret)
          (.skip)) <|
      .reg false [.op .none 25 (.bin .add (.t 13) (.c (.w (.int .i64 1)))),
        .op .none 13 (.mv (.t 25))]) <|
  .seq (.reg false [.op .none 4 (.mv (.c (.w (.bool true))))]) <|
  .ret
theorem k53 : FnCode Try.prog 53 [] 26 [4] c53 := ⟨Try.f53, Try.func53, fun xs W => Try.call53 xs W, by kernel_rfl, by kernel_rfl, by kernel_rfl⟩

/-- slices.IndexFunc[[]ablaut/api.Seen,ablaut/api.Seen] -/
def c89 : MC :=
  .seq (.reg false [.op .none 4 (.mv (.c (.w (.int .i64 0))))]) <|
  .seq (.seq (.reg false [.op .none 6 (.mv (.t 0)),
    .op .none 7 (.len false (.t 6)),
    .op .none 8 (.mv (.c (.w (.int .i64 0))))]) <|
  .block 0 <|
    .loop <|
      .seq (.reg false [.op .none 9 (.bin .lss (.t 8) (.t 7))]) <|
      .seq (.cond (.t 9)
        (.skip)
        (.exit 0)) <|
      .seq (.block 1 <|
        .seq (.reg false [.op .none 10 (.mv (.t 8)),
          .op .none 5 (.mv (.t 10))]) <|
        .seq (.reg false [.op .none 11 (.mv (.t 1)),
          .op .none 12 (.mv (.t 0)),
          .op .none 13 (.mv (.t 5)),
          .op .none 14 (.ia 4 (.t 12) (.t 13)),
          .op .none 15 (.ld true 4 (.t 14)),
          .call .none 16 (.t 11) [(.t 15)]]) <|
        .cond (.t 16)
          (.seq (.reg false [.op .none 17 (.mv (.t 5)),
            .op .none 4 (.mv (.t 17))]) <|
          .ret)
          (.skip)) <|
      .reg false [.op .none 18 (.bin .add (.t 8) (.c (.w (.int .i64 1)))),
        .op .none 8 (.mv (.t 18))]) <|
  .seq (.reg false [.op .none 4 (.mv (.c (.w (.int .i64 (-1)))))]) <|
  .ret
theorem k89 : FnCode Try.prog 89 [] 19 [4] c89 := ⟨Try.f89, Try.func89, fun xs W => Try.call89 xs W, by kernel_rfl, by kernel_rfl, by kernel_rfl⟩

/-- slices.ContainsFunc[[]ablaut/api.Seen,ablaut/api.Seen] -/
def c79 : MC :=
  .seq (.reg false [.op .none 4 (.mv (.c (.w (.bool false))))]) <|
  .seq (.reg false [.op .none 5 (.mv (.t 0)),
    .op .none 6 (.mv (.t 1)),
    .call .none 7 (.f 89) [(.t 5), (.t 6)],
    .op .none 8 (.bin .geq (.t 7) (.c (.w (.int .i64 0)))),
    .op .none 4 (.mv (.t 8))]) <|
  .ret
theorem k79 : FnCode Try.prog 79 [] 9 [4] c79 := ⟨Try.f79, Try.func79, fun xs W => Try.call79 xs W, by kernel_rfl, by kernel_rfl, by kernel_rfl⟩

/-- ablaut/spell.mixed$1 -/
def c80 : MC :=
  .seq (.reg false [.op .none 1 (.box false (.t 0)),
    .op .none 2 (.mv (.c (.w (.bool false))))]) <|
  .seq (.reg false [.op .none 3 (.fa 3 (.t 1)),
    .op .none 4 (.ld false 1 (.t 3)),
    .op .none 5 (.bin .lss (.t 4) (.c (.w (.int .i64 1)))),
    .op .none 6 (.mv (.t 5)),
    .op (.some (6, false)) 7 (.fa 3 (.t 1)),
    .op (.some (6, false)) 8 (.ld false 1 (.t 7)),
    .op (.some (6, false)) 9 (.bin .gtr (.t 8) (.c (.w (.int .i64 1000)))),
    .op .none 10 (.pick (.t 6) (.c (.w (.bool true))) (.t 9)),
    .op .none 2 (.mv (.t 10))]) <|
  .ret
theorem k80 : FnCode Try.prog 80 [] 11 [2] c80 := ⟨Try.f80, Try.func80, fun xs W => Try.call80 xs W, by kernel_rfl, by kernel_rfl, by kernel_rfl⟩

/-- slices.IndexFunc[[][]string,[]string] -/
def c81 : MC :=
  .seq (.reg false [.op .none 4 (.mv (.c (.w (.int .i64 0))))]) <|
  .seq (.seq (.reg false [.op .none 6 (.mv (.t 0)),
    .op .none 7 (.len false (.t 6)),
    .op .none 8 (.mv (.c (.w (.int .i64 0))))]) <|
  .block 0 <|
    .loop <|
      .seq (.reg false [.op .none 9 (.bin .lss (.t 8) (.t 7))]) <|
      .seq (.cond (.t 9)
        (.skip)
        (.exit 0)) <|
      .seq (.block 1 <|
        .seq (.reg false [.op .none 10 (.mv (.t 8)),
          .op .none 5 (.mv (.t 10))]) <|
        .seq (.reg false [.op .none 11 (.mv (.t 1)),
          .op .none 12 (.mv (.t 0)),
          .op .none 13 (.mv (.t 5)),
          .op .none 14 (.ia 1 (.t 12) (.t 13)),
          .op .none 15 (.ld false 1 (.t 14)),
          .call .none 16 (.t 11) [(.t 15)]]) <|
        .cond (.t 16)
          (.seq (.reg false [.op .none 17 (.mv (.t 5)),
            .op .none 4 (.mv (.t 17))]) <|
          .ret)
          (.skip)) <|
      .reg false [.op .none 18 (.bin .add (.t 8) (.c (.w (.int .i64 1)))),
        .op .none 8 (.mv (.t 18))]) <|
  .seq (.reg false [.op .none 4 (.mv (.c (.w (.int .i64 (-1)))))]) <|
  .ret
theorem k81 : FnCode Try.prog 81 [] 19 [4] c81 := ⟨Try.f81, Try.func81, fun xs W => Try.call81 xs W, by kernel_rfl, by kernel_rfl, by kernel_rfl⟩

/-- slices.ContainsFunc[[][]string,[]string] -/
def c57 : MC :=
  .seq (.reg false [.op .none 4 (.mv (.c (.w (.bool false))))]) <|
  .seq (.reg false [.op .none 5 (.mv (.t 0)),
    .op .none 6 (.mv (.t 1)),
    .call .none 7 (.f 81) [(.t 5), (.t 6)],
    .op .none 8 (.bin .geq (.t 7) (.c (.w (.int .i64 0)))),
    .op .none 4 (.mv (.t 8))]) <|
  .ret
theorem k57 : FnCode Try.prog 57 [] 9 [4] c57 := ⟨Try.f57, Try.func57, fun xs W => Try.call57 xs W, by kernel_rfl, by kernel_rfl, by kernel_rfl⟩

/-- ablaut/spell.Real$1 -/
def c51 : MC :=
  .seq (.reg false [.op .none 3 (.nilS 1)]) <|
  .seq (.seq (.reg false [.op .none 4 (.mv (.t 0)),
    .op .none 5 (.bin .lss (.t 4) (.c (.w (.int .i64 0)))),
    .op .none 6 (.mv (.t 5)),
    .op (.some (6, false)) 7 (.mv (.t 0)),
    .op (.some (6, false)) 8 (.ld false 1 (.t 1)),
    .op (.some (6, false)) 9 (.len false (.t 8)),
    .op (.some (6, false)) 10 (.bin .geq (.t 7) (.t 9)),
    .op .none 11 (.pick (.t 6) (.c (.w (.bool true))) (.t 10))]) <|
  .cond (.t 11)
    (.seq (.reg false [.op .none 3 (.nilS 1)]) <|
    .ret)
    (.skip)) <|
  .seq (.reg false [.op .none 12 (.ld false 1 (.t 1)),
    .op .none 13 (.mv (.t 0)),
    .op .none 14 (.ia 1 (.t 12) (.t 13)),
    .op .none 15 (.ld false 1 (.t 14)),
    .op .none 3 (.mv (.t 15))]) <|
  .ret
theorem k51 : FnCode Try.prog 51 [] 16 [3] c51 := ⟨Try.f51, Try.func51, fun xs W => Try.call51 xs W, by kernel_rfl, by kernel_rfl, by kernel_rfl⟩

/-- ablaut/spell.Real$2 -/
def c52 : MC :=
  .seq (.reg false [.op .none 5 (.mv (.c (.w (.int .i64 0))))]) <|
  .seq (.reg false [.op .none 6 (.mv (.c (.w (.int .i64 0))))]) <|
  .seq (.seq (.reg false [.op .none 9 (.ld false 1 (.t 1)),
    .op .none 10 (.len false (.t 9)),
    .op .none 11 (.mv (.c (.w (.int .i64 0))))]) <|
  .block 0 <|
    .loop <|
      .seq (.reg false [.op .none 12 (.bin .lss (.t 11) (.t 10))]) <|
      .seq (.cond (.t 12)
        (.skip)
        (.exit 0)) <|
      .seq (.block 1 <|
        .seq (.reg false [.op .none 13 (.ia 4 (.t 9) (.t 11)),
          .op .none 14 (.ld true 4 (.t 13)),
          .op .none 8 (.alloc true [(.sl 1 []), (.sl 1 []), (.sl 1 []), (.w (.int .i64 0))]),
          .store .none true 4 (.t 8) (.t 14)]) <|
        .seq (.reg true [.op .none 15 (.fa 0 (.t 8)),
          .op .none 16 (.ld false 1 (.t 15)),
          .op .none 17 (.ld false 1 (.t 2)),
          .op .none 18 (.ld false 1 (.t 3)),
          .op .none 19 (.bin .sub (.t 18) (.c (.w (.int .i64 1)))),
          .call .none 20 (.t 17) [(.t 19)],
          .call .none 21 (.f 53) [(.t 16), (.t 20)],
          .op .none 22 (.mv (.t 21)),
          .op (.some (22, true)) 23 (.fa 1 (.t 8)),
          .op (.some (22, true)) 24 (.ld false 1 (.t 23)),
          .op (.some (22, true)) 25 (.mv (.t 0)),
          .call (.some (22, true)) 26 (.f 53) [(.t 24), (.t 25)],
          .op .none 27 (.pick (.t 22) (.t 26) (.c (.w (.bool false)))),
          .op .none 28 (.mv (.t 27)),
          .op (.some (28, true)) 29 (.fa 2 (.t 8)),
          .op (.some (28, true)) 30 (.ld false 1 (.t 29)),
          .op (.some (28, true)) 31 (.ld false 1 (.t 2)),
          .op (.some (28, true)) 32 (.ld false 1 (.t 3)),
          .op (.some (28, true)) 33 (.bin .add (.t 32) (.c (.w (.int .i64 1)))),
          .call (.some (28, true)) 34 (.t 31) [(.t 33)],
          .call (.some (28, true)) 35 (.f 53) [(.t 30), (.t 34)],
          .op .none 36 (.pick (.t 28) (.t 35) (.c (.w (.bool false))))]) <|
        .cond (.t 36)
          (.reg false [.op .none 37 (.mv (.t 6)),
            .op .none 38 (.fa 3 (.t 8)),
            .op .none 39 (.ld false 1 (.t 38)),
            .op .none 40 (.bin .add (.t 37) (.t 39)),
            .op .none 6 (.mv (.t 40))])
          (.skip)) <|
      .reg false [.op .none 41 (.bin .add (.t 11) (.c (.w (.int .i64 1)))),
        .op .none 11 (.mv (.t 41))]) <|
  .seq (.reg false [.op .none 42 (.mv (.t 6)),
    .op .none 5 (.mv (.t 42))]) <|
  .ret
theorem k52 : FnCode Try.prog 52 [] 43 [5] c52 := ⟨Try.f52, Try.func52, fun xs W => Try.call52 xs W, by kernel_rfl, by kernel_rfl, by kernel_rfl⟩

/-- ablaut/spell.Real$3 -/
def c54 : MC :=
  .seq (.reg false [.op .none 3 (.mv (.c (.w (.bool false))))]) <|
  .seq (.reg false [.op .none 4 (.mv (.t 0)),
    .op .none 5 (.ld false 1 (.t 1)),
    .call .none 6 (.f 53) [(.t 4), (.t 5)],
    .op .none 3 (.mv (.t 6))]) <|
  .ret
theorem k54 : FnCode Try.prog 54 [] 7 [3] c54 := ⟨Try.f54, Try.func54, fun xs W => Try.call54 xs W, by kernel_rfl, by kernel_rfl, by kernel_rfl⟩

/-- ablaut/spell.Real$4 -/
def c56 : MC :=
  .seq (.reg false [.op .none 3 (.mv (.c (.w (.bool false))))]) <|
  .seq (.reg false [.op .none 4 (.mv (.t 0)),
    .op .none 5 (.ld false 1 (.t 1)),
    .call .none 6 (.f 57) [(.t 4), (.t 5)],
    .op .none 3 (.mv (.t 6))]) <|
  .ret
theorem k56 : FnCode Try.prog 56 [] 7 [3] c56 := ⟨Try.f56, Try.func56, fun xs W => Try.call56 xs W, by kernel_rfl, by kernel_rfl, by kernel_rfl⟩

/-- ablaut/spell.Real$5 -/
def c58 : MC :=
  .seq (.reg false [.op .none 4 (.mv (.c (.w (.bool false))))]) <|
  .seq (.reg true [.op .none 5 (.ld false 1 (.t 1)),
    .op .none 6 (.mv (.t 0)),
    .call .none 7 (.t 5) [(.t 6)],
    .op .none 8 (.ld false 1 (.t 1)),
    .op .none 9 (.ld false 1 (.t 2)),
    .call .none 10 (.t 8) [(.t 9)],
    .op .none 11 (.bin .gtr (.t 7) (.t 10)),
    .op .none 4 (.mv (.t 11))]) <|
  .ret
theorem k58 : FnCode Try.prog 58 [] 12 [4] c58 := ⟨Try.f58, Try.func58, fun xs W => Try.call58 xs W, by kernel_rfl, by kernel_rfl, by kernel_rfl⟩

abbrev SeenT : Type := List Bs × List Bs × List Bs × Int × Unit
def seenV : SeenT → PV := fun (a, w, c, n, _) => .st [.word a, .word w, .word c, .i n]
abbrev smW (w : List Bs) : Prop := w.length ≤ 200000000000000

theorem fok53 (w v : List Bs) (hw : smW w) (hv : smW v) : FOk Try.prog 53 [.v (.word w), .v (.word v)] [] (.B (decide (w = v))) [] := by
  refine FOk.val k53 (by simp) (by simp) (by decide) ?_
  by_cases h0 : w.length = v.length
  · simp [c53, h0]
    refine Run.loopA (ι := Nat) [] (fun i => i ≤ w.length ∧ w.take i = v.take i) (fun i => ⟨[(0, .v (.word w)), (1, .v (.word v)), (12, .I w.length), (13, .I i)], [], 1024⟩) (fun i => w.length - i) 0 (by decide) (by simp [h0]) (by simp) ?_
    rintro i ⟨hi, he⟩ ih
    by_cases h : i < w.length
    · have h' : i < v.length := by omega
      by_cases hv : w[i] = v[i]
      · simp (disch := omega) [h, h', wrap_i64, hv]
        exact ih (i + 1) _ ⟨by omega, by rw [List.take_succ_eq_append_getElem h, List.take_succ_eq_append_getElem h', he, hv]⟩ (by omega) (by simp)
      · have hne : w ≠ v := by rintro rfl; exact hv rfl
        simp (disch := omega) [h, h', wrap_i64, hv]
        exact Ends.v rfl (by simp [hne])
    · have e : w = v := by rw [List.take_of_length_le (by omega), List.take_of_length_le (by omega)] at he; exact he
      simp [h]
      exact Ends.v rfl (by simp [e])
  · have hne : w ≠ v := by rintro rfl; exact h0 rfl
    have h0' : ¬ (w.length : Int) = (v.length : Int) := by omega
    simp [c53, h0']
    exact Ends.v rfl (by simp [hne])

/-- A number that is none. -/
def manyBad (s : SeenT) : Bool := decide (s.2.2.2.1 < 1) || decide (1000 < s.2.2.2.1)
theorem fok80 (s : SeenT) : FOk Try.prog 80 [.v (seenV s)] [] (.B (manyBad s)) [] := by
  obtain ⟨a, w, c, n, u⟩ := s
  refine FOk.val k80 (by simp) (by simp) (by decide) ?_
  simp [c80, seenV]
  exact ⟨fun h => Ends.v rfl (by simp [manyBad]; omega), fun h => Ends.v rfl (by simp [manyBad]; omega)⟩
theorem fok89 (l : List SeenT) (hl : l.length ≤ 200000000000000) : FOk Try.prog 89 [.v (.sl 4 (l.map seenV)), .fn 80 []] [] (.I (idxF manyBad l 0)) [] := by
  refine FOk.val k89 (by simp) (by simp) (by decide) ?_
  simp [c89]
  refine Run.loopA (ι := Nat) [] (fun i => i ≤ l.length ∧ idxF manyBad (l.drop i) i = idxF manyBad l 0) (fun i => ⟨[(0, .v (.sl 4 (l.map seenV))), (1, .fn 80 []), (7, .I l.length), (8, .I i)], [], 1024⟩) (fun i => l.length - i) 0 (by decide) (by simp) ⟨by omega, by simp⟩ ?_
  rintro i ⟨hi, hall⟩ ih
  by_cases h : i < l.length
  · rw [drop_at h] at hall
    simp only [idxF] at hall
    have hf := fok80 l[i]
    generalize hx : l[i] = x at hf hall
    obtain ⟨a, w, c, n, u⟩ := x
    simp (disch := omega) [h, wrap_i64, hx, seenV]
    refine CallG.lent rfl rfl rfl rfl hf rfl ?_
    simp (disch := omega) [wrap_i64]
    refine ⟨fun hp => ?_, fun hp => ?_⟩
    · simp only [hp, if_true] at hall
      exact Ends.v rfl (by simp [← hall])
    · simp only [hp] at hall
      exact ih (i + 1) _ ⟨by omega, by simpa using hall⟩ (by omega) (by simp)
  · rw [drop_no h] at hall
    simp [h]
    exact Ends.v rfl (by simp [idxF, ← hall])
theorem fok79 (l : List SeenT) (hl : l.length ≤ 200000000000000) : FOk Try.prog 79 [.v (.sl 4 (l.map seenV)), .fn 80 []] [] (.B (l.any manyBad)) [] := by
  refine FOk.val k79 (by simp) (by simp) (by decide) ?_
  simp [c79]
  refine CallG.lent rfl rfl rfl rfl (fok89 l hl) rfl ?_
  simp [idxF_ge]
  exact Ends.v rfl (by simp)

/-- What stays the same value wherever it is handed. -/
structure Fix (u : AV) (f : Nat) (caps : List AV) : Prop where
  fn : fnOf u = some (f, caps)
  conv : ∀ kp H, conv kp H u = some u
  pass : ∀ b H, passA b H [] u = some u
  passC : ∀ b H, passAs b H [] caps = some caps
  frz : ∀ H, frz [] H u = H
  men : ∀ k, ¬ u.men k
theorem passAs_cons {b : Bool} {H : Heap} {u : AV} {l m : List AV} (hu : passA b H [] u = some u) (hl : passAs b H [] l = some m) : passAs b H [] (u :: l) = some (u :: m) := by simp [passAs, hu, hl]

theorem fok81 (l : List (List Bs)) (u : AV) (f : Nat) (caps : List AV) (hu : Fix u f caps) (p : List Bs → Bool) (hf : ∀ w ∈ l, FOk Try.prog f (.v (.word w) :: caps) [] (.B (p w)) []) (hl : l.length ≤ 200000000000000) :
    FOk Try.prog 81 [.v (.words l), u] [] (.I (idxF p l 0)) [] := by
  have hm := hu.men
  have hcv := hu.conv
  have hpa := hu.pass
  have hfn := hu.fn
  refine FOk.val k81 (by simp) (by simp; intro k h; exact absurd h (hm k)) (by decide) ?_
  simp [c81, PV.words]
  refine Run.loopA (ι := Nat) [] (fun i => i ≤ l.length ∧ idxF p (l.drop i) i = idxF p l 0) (fun i => ⟨[(0, .v (.words l)), (1, u), (7, .I l.length), (8, .I i)], [], 1024⟩) (fun i => l.length - i) 0 (by decide) (by simp [PV.words, hcv]) ⟨by omega, by simp⟩ ?_
  rintro i ⟨hi, hall⟩ ih
  by_cases h : i < l.length
  · rw [drop_at h] at hall
    simp only [idxF] at hall
    simp (disch := omega) [h, wrap_i64, PV.words]
    refine CallG.lent rfl hfn rfl (passAs_cons rfl (hu.passC _ _)) (hf l[i] (List.getElem_mem h)) rfl ?_
    simp (disch := omega) [wrap_i64]
    refine ⟨fun hp => ?_, fun hp => ?_⟩
    · simp only [hp, if_true] at hall
      exact Ends.v rfl (by simp [← hall])
    · simp only [hp] at hall
      exact ih (i + 1) _ ⟨by omega, by simpa using hall⟩ (by omega) (by simp [PV.words, hcv])
  · rw [drop_no h] at hall
    simp [h, PV.words]
    exact Ends.v rfl (by simp [idxF, ← hall])
theorem fok57 (l : List (List Bs)) (u : AV) (f : Nat) (caps : List AV) (hu : Fix u f caps) (p : List Bs → Bool) (hf : ∀ w ∈ l, FOk Try.prog f (.v (.word w) :: caps) [] (.B (p w)) []) (hl : l.length ≤ 200000000000000) :
    FOk Try.prog 57 [.v (.words l), u] [] (.B (l.any p)) [] := by
  have hm := hu.men
  have hpa := hu.pass
  refine FOk.val k57 (by simp) (by simp; intro k h; exact absurd h (hm k)) (by decide) ?_
  simp [c57, PV.words]
  refine CallG.lent rfl rfl rfl (passAs_cons rfl (passAs_cons (hpa _ _) rfl)) (fok81 l u f caps hu p hf hl) rfl ?_
  simp [idxF_ge]
  exact Ends.v rfl (by simp)
/-- The word at a place; none outside. -/
def atF (l : List (List Bs)) (i : Int) : List Bs := if 0 ≤ i then (l[i.toNat]?).getD [] else []
theorem fok51 (l : List (List Bs)) (i : Int) : FOk Try.prog 51 [.I i, .rp [.words l]] [] (.v (.word (atF l i))) [] := by
  refine FOk.val k51 (by simp) (by simp) (by decide) ?_
  by_cases h : i < 0
  · simp [c51, PV.words, h]
    exact Ends.v rfl (by simp [atF, show ¬ 0 ≤ i by omega])
  obtain ⟨n, rfl⟩ : ∃ n : Nat, i = n := ⟨i.toNat, by omega⟩
  by_cases h2 : n < l.length
  · have h3 : ¬ l.length ≤ n := by omega
    simp [c51, PV.words, h2, h3]
    exact Ends.v rfl (by simp [atF, h2])
  · have h3 : l.length ≤ n := by omega
    simp [c51, PV.words, h2, h3]
    exact Ends.v rfl (by simp [atF, h3])
theorem fok54 (x w : List Bs) (hx : smW x) (hw : smW w) : FOk Try.prog 54 [.v (.word x), .rp [.word w]] [] (.B (decide (x = w))) [] := by
  refine FOk.val k54 (by simp) (by simp) (by decide) ?_
  simp [c54]
  refine CallG.lent rfl rfl rfl rfl (fok53 x w hx hw) rfl ?_
  simp
  exact Ends.v rfl (by simp)
/-- How often a word was seen between two. -/
def seenN (a w c : List Bs) : List SeenT → Int → Int
  | [], n => n
  | s :: l, n => seenN a w c l (if s.1 = a ∧ s.2.1 = w ∧ s.2.2.1 = c then n + s.2.2.2.1 else n)
def seenS (L : List SeenT) : Prop := L.length ≤ 1000 ∧ ∀ s ∈ L, smW s.1 ∧ smW s.2.1 ∧ smW s.2.2.1 ∧ manyBad s = false
theorem seenS.n {L : List SeenT} (h : seenS L) {s : SeenT} (hs : s ∈ L) : 1 ≤ s.2.2.2.1 ∧ s.2.2.2.1 ≤ 1000 := by
  have := (h.2 s hs).2.2.2
  simp [manyBad] at this
  omega
def clAt (l : List (List Bs)) : PV := .cl 51 [.pt [.words l]]
def clOften (L : List SeenT) (l : List (List Bs)) (i : Int) : PV := .cl 52 [.pt [.sl 4 (L.map seenV)], .pt [clAt l], .pt [.i i]]
theorem atF_small {l : List (List Bs)} (hl : ∀ w ∈ l, smW w) (i : Int) : smW (atF l i) := by
  unfold atF
  split
  · cases h : l[i.toNat]? with
    | none => simp [smW]
    | some w => exact hl w (List.mem_of_getElem? h)
  · simp [smW]
theorem fok52 (L : List SeenT) (l : List (List Bs)) (i : Int) (x : List Bs) (hL : seenS L) (hl : ∀ w ∈ l, smW w) (hx : smW x) (hi : 0 ≤ i) (hi2 : i ≤ 1000000) :
    FOk Try.prog 52 [.v (.word x), .rp [.sl 4 (L.map seenV)], .rp [clAt l], .rp [.i i]] [] (.I (seenN (atF l (i - 1)) x (atF l (i + 1)) L 0)) [] := by
  have hl1 := hL.1
  refine FOk.val k52 (by simp) (by simp) (by decide) ?_
  simp [c52, clAt]
  refine Run.loopA (ι := Nat × Int) [] (fun q => q.1 ≤ L.length ∧ 0 ≤ q.2 ∧ q.2 ≤ q.1 * 1000 ∧ seenN (atF l (i - 1)) x (atF l (i + 1)) (L.drop q.1) q.2 = seenN (atF l (i - 1)) x (atF l (i + 1)) L 0)
    (fun q => ⟨[(0, .v (.word x)), (2, .rp [clAt l]), (3, .rp [.i i]), (6, .I q.2), (9, .v (.sl 4 (L.map seenV))), (10, .I L.length), (11, .I q.1)], [], 1024⟩) (fun q => L.length - q.1) (0, 0) (by decide) (by simp [clAt]) (by simp) ?_
  rintro ⟨k, n⟩ ⟨hk, hn0, hn, hall⟩ ih
  simp only at hk hn0 hn hall
  by_cases h : k < L.length
  · rw [drop_at h] at hall
    simp only [seenN] at hall
    have hs := hL.2 _ (List.getElem_mem h)
    have hm := hL.n (List.getElem_mem h)
    generalize hxx : L[k] = s at hs hm hall
    obtain ⟨a, w, c, m, u⟩ := s
    simp only at hs hm hall
    have e1 := atF_small hl (i - 1)
    have e2 := atF_small hl (i + 1)
    have hA := fok51 l (i - 1)
    have hB := fok51 l (i + 1)
    have q1 := fok53 a (atF l (i - 1)) hs.1 e1
    have q2 := fok53 w x hs.2.1 hx
    have q3 := fok53 c (atF l (i + 1)) hs.2.2.1 e2
    generalize atF l (i - 1) = A at *
    generalize atF l (i + 1) = B at *
    simp (disch := omega) [h, wrap_i64, hxx, seenV, clAt]
    refine CallG.plain rfl rfl rfl rfl hA (by simp) (by simp) ?_
    simp
    refine CallG.lent rfl rfl rfl rfl q1 rfl ?_
    by_cases c1 : a = A
    case neg =>
      rw [if_neg (fun q => c1 q.1)] at hall
      simp (disch := omega) [wrap_i64, c1]
      exact ih (k + 1, n) _ ⟨by omega, by simp only []; omega, by simp only []; omega, hall⟩ (by simp only []; omega) (by simp [clAt])
    simp [c1]
    refine CallG.lent rfl rfl rfl rfl q2 rfl ?_
    by_cases c2 : w = x
    case neg =>
      rw [if_neg (fun q => c2 q.2.1)] at hall
      simp (disch := omega) [wrap_i64, c2]
      exact ih (k + 1, n) _ ⟨by omega, by simp only []; omega, by simp only []; omega, hall⟩ (by simp only []; omega) (by simp [clAt])
    simp (disch := omega) [wrap_i64, c2]
    refine CallG.plain rfl rfl rfl rfl hB (by simp) (by simp) ?_
    simp
    refine CallG.lent rfl rfl rfl rfl q3 rfl ?_
    by_cases c3 : c = B
    case neg =>
      rw [if_neg (fun q => c3 q.2.2)] at hall
      simp (disch := omega) [wrap_i64, c3]
      exact ih (k + 1, n) _ ⟨by omega, by simp only []; omega, by simp only []; omega, hall⟩ (by simp only []; omega) (by simp [clAt])
    rw [if_pos ⟨c1, c2, c3⟩] at hall
    simp (disch := omega) [wrap_i64, c3]
    exact ih (k + 1, n + m) _ ⟨by omega, by simp only []; omega, by simp only []; omega, hall⟩ (by simp only []; omega) (by simp [clAt])
  · rw [drop_no h] at hall
    simp [h, clAt]
    exact Ends.v rfl (by simp [seenN, ← hall])

theorem fixCl (f : Nat) (ps : List PV) (caps : List AV) (h : capAs ps = some caps) (hp : ∀ b H, passAs b H [] caps = some caps) : Fix (.v (.cl f ps)) f caps where
  fn := by simp [fnOf, h]
  conv kp H := by simp
  pass b H := by simp
  passC := hp
  frz H := by simp
  men k := by simp
theorem fixFn (f : Nat) (cs : List PV) (rest : List AV) (hp : ∀ b H, passAs b H [] rest = some rest) (hc : ∀ kp H, convs kp H rest = some rest) (hz : ∀ H, frzs [] H rest = H) (hm : ∀ k, ¬ AV.mens rest k) : Fix (.fn f (.rp cs :: rest)) f (.rp cs :: rest) where
  fn := by simp [fnOf]
  conv kp H := by simp [hc]
  pass b H := by simp [hp]
  passC b H := by simp [hp]
  frz H := by simp [hz]
  men k := by simp [hm]

theorem fok56 (l : List (List Bs)) (w : List Bs) (hl : l.length ≤ 200000000000000) (hs : ∀ x ∈ l, smW x) (hw : smW w) : FOk Try.prog 56 [.v (.words l), .rp [.cl 54 [.pt [.word w]]]] [] (.B (l.any fun x => decide (x = w))) [] := by
  have hh := fok57 l (.v (.cl 54 [.pt [.word w]])) 54 [.rp [.word w]] (fixCl _ _ _ rfl (fun b H => by simp)) (fun x => decide (x = w)) (fun x hx => fok54 x w (hs x hx) hw) hl
  refine FOk.val k56 (by simp) (by simp) (by decide) ?_
  simp [c56, PV.words]
  refine CallG.lent rfl rfl rfl rfl hh rfl ?_
  simp
  exact Ends.v rfl (by simp)
theorem fok58 (L : List SeenT) (l : List (List Bs)) (i : Int) (x w : List Bs) (hL : seenS L) (hl : ∀ w ∈ l, smW w) (hx : smW x) (hw : smW w) (hi : 0 ≤ i) (hi2 : i ≤ 1000000) :
    FOk Try.prog 58 [.v (.word x), .rp [clOften L l i], .rp [.word w]] [] (.B (decide (seenN (atF l (i - 1)) w (atF l (i + 1)) L 0 < seenN (atF l (i - 1)) x (atF l (i + 1)) L 0))) [] := by
  have h1 := fok52 L l i x hL hl hx hi hi2
  have h2 := fok52 L l i w hL hl hw hi hi2
  refine FOk.val k58 (by simp) (by simp) (by decide) ?_
  simp [c58, clOften]
  refine CallG.lent rfl rfl rfl rfl h1 rfl ?_
  simp
  refine CallG.lent rfl rfl rfl rfl h2 rfl ?_
  simp
  exact Ends.v rfl (by simp)

end Go.Proofs
