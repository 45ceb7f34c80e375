/- The walk. -/
import Derived.Test.YtphjjlhpepmofaaRe1
import Derived.Test.YtphjjlhpepmofaaProg
import Derived.KernelRfl
set_option linter.all false
set_option maxHeartbeats 2000000
namespace Go.Proofs
open Go Go.AM
attribute [local irreducible] Run Ends
/-- slices.IndexFunc[[][][]string,[][]string] -/
def c55 : MC :=
  .seq (.reg false [.op .none 4 (.mv (.c (.w (.int .i64 0))))]) <|
  .seq (.seq (.reg false [.op .none 6 (.mv (.t 0)),
    .op .none 7 (.len false (.t 6)),
    .op .none 8 (.mv (.c (.w (.int .i64 0))))]) <|
  .block 0 <|
    .loop <|
      .seq (.reg false [.op .none 9 (.bin .lss (.t 8) (.t 7))]) <|
      .seq (.cond (.t 9)
        (.skip)
        (.exit 0)) <|
      .seq (.block 1 <|
        .seq (.reg false [.op .none 10 (.mv (.t 8)),
          .op .none 5 (.mv (.t 10))]) <|
        .seq (.reg false [.op .none 11 (.mv (.t 1)),
          .op .none 12 (.mv (.t 0)),
          .op .none 13 (.mv (.t 5)),
          .op .none 14 (.ia 1 (.t 12) (.t 13)),
          .op .none 15 (.ld false 1 (.t 14)),
          .call .none 16 (.t 11) [(.t 15)]]) <|
        .cond (.t 16)
          (.seq (.reg false [.op .none 17 (.mv (.t 5)),
            .op .none 4 (.mv (.t 17))]) <|
          .ret)
          (.skip)) <|
      .reg false [.op .none 18 (.bin .add (.t 8) (.c (.w (.int .i64 1)))),
        .op .none 8 (.mv (.t 18))]) <|
  .seq (.reg false [.op .none 4 (.mv (.c (.w (.int .i64 (-1)))))]) <|
  .ret
theorem k55 : FnCode Try.prog 55 [] 19 [4] c55 := ⟨Try.f55, Try.func55, fun xs W => Try.call55 xs W, by kernel_rfl, by kernel_rfl, by kernel_rfl⟩

theorem idxF_find {α : Type} (p : α → Bool) : ∀ (l : List α) (j : Nat), (idxF p l j = -1 ∧ l.find? p = none) ∨ ∃ k, idxF p l j = ((j + k : Nat) : Int) ∧ ∃ h : k < l.length, l.find? p = some l[k]
  | [], j => .inl ⟨rfl, rfl⟩
  | x :: l, j => by
    by_cases hx : p x = true
    · exact .inr ⟨0, by simp [idxF, hx], by simp, by simp [hx]⟩
    · rcases idxF_find p l (j + 1) with ⟨h1, h2⟩ | ⟨k, h1, h2, h3⟩
      · exact .inl ⟨by simp [idxF, hx, h1], by simp [hx, h2]⟩
      · exact .inr ⟨k + 1, by simp only [idxF, hx]; rw [if_neg (by simp), h1]; omega, by simpa using h2, by simp [hx, h3]⟩
def isIn (w : List Bs) (s : List (List Bs)) : Bool := s.any fun x => decide (x = w)
theorem fok55 (S : List (List (List Bs))) (w : List Bs) (hS : S.length ≤ 200000000000000) (hs : ∀ s ∈ S, s.length ≤ 200000000000000 ∧ ∀ x ∈ s, smW x) (hw : smW w) :
    FOk Try.prog 55 [.v (.sl 1 (S.map PV.words)), .fn 56 [.rp [.cl 54 [.pt [.word w]]]]] [] (.I (idxF (isIn w) S 0)) [] := by
  have hf := fun i (h : i < S.length) => fok56 S[i] w (hs _ (List.getElem_mem h)).1 (hs _ (List.getElem_mem h)).2 hw
  refine FOk.val k55 (by simp) (by simp) (by decide) ?_
  simp [c55]
  refine Run.loopA (ι := Nat) [] (fun i => i ≤ S.length ∧ idxF (isIn w) (S.drop i) i = idxF (isIn w) S 0) (fun i => ⟨[(0, .v (.sl 1 (S.map PV.words))), (1, .fn 56 [.rp [.cl 54 [.pt [.word w]]]]), (7, .I S.length), (8, .I i)], [], 1024⟩) (fun i => S.length - i) 0 (by decide) (by simp) ⟨by omega, by simp⟩ ?_
  rintro i ⟨hi, hall⟩ ih
  by_cases h : i < S.length
  · rw [drop_at h] at hall
    simp only [idxF] at hall
    have hc := hf i h
    have hd : isIn w S[i] = S[i].any (fun x => decide (x = w)) := rfl
    rw [← hd] at hc
    simp (disch := omega) [h, wrap_i64, PV.words]
    refine CallG.lent rfl rfl rfl rfl hc rfl ?_
    simp (disch := omega) [wrap_i64]
    refine ⟨fun hp => ?_, fun hp => ?_⟩
    · simp only [hp, if_true] at hall
      exact Ends.v rfl (by simp [← hall])
    · simp only [hp] at hall
      exact ih (i + 1) _ ⟨by omega, by simpa using hall⟩ (by omega) (by simp)
  · rw [drop_no h] at hall
    simp [h]
    exact Ends.v rfl (by simp [idxF, ← hall])
/-- slices.Concat[[][]string,[]string] -/
def c78 : MC :=
  .seq (.reg false [.op .none 2 (.nilS 1)]) <|
  .seq (.reg false [.op .none 3 (.mv (.c (.w (.int .i64 0))))]) <|
  .seq (.seq (.reg false [.op .none 9 (.mv (.t 0)),
    .op .none 10 (.len false (.t 9)),
    .op .none 11 (.mv (.c (.w (.int .i64 0))))]) <|
  .block 0 <|
    .loop <|
      .seq (.reg false [.op .none 12 (.bin .lss (.t 11) (.t 10))]) <|
      .seq (.cond (.t 12)
        (.skip)
        (.exit 0)) <|
      .seq (.block 1 <|
        .seq (.reg false [.op .none 13 (.ia 1 (.t 9) (.t 11)),
          .op .none 14 (.ld false 1 (.t 13)),
          .op .none 5 (.mv (.t 14))]) <|
        .seq (.reg false [.op .none 15 (.mv (.t 3)),
          .op .none 16 (.mv (.t 5)),
          .op .none 17 (.len false (.t 16)),
          .op .none 18 (.bin .add (.t 15) (.t 17)),
          .op .none 3 (.mv (.t 18))]) <|
        .seq (.reg false [.op .none 19 (.mv (.t 3)),
          .op .none 20 (.bin .lss (.t 19) (.c (.w (.int .i64 0))))]) <|
        .cond (.t 20)
          (.bad)
          (.skip)) <|
      .reg false [.op .none 22 (.bin .add (.t 11) (.c (.w (.int .i64 1)))),
        .op .none 11 (.mv (.t 22))]) <|
  .seq (.reg false [.op .none 23 (.mv (.t 3)),
    .call .none 24 (.f 88) [(.c .nl), (.t 23)],
    .op .none 6 (.mv (.t 24))]) <|
  .seq (.seq (.reg false [.op .none 25 (.mv (.t 0)),
    .op .none 26 (.len false (.t 25)),
    .op .none 27 (.mv (.c (.w (.int .i64 0))))]) <|
  .block 2 <|
    .loop <|
      .seq (.reg false [.op .none 28 (.bin .lss (.t 27) (.t 26))]) <|
      .seq (.cond (.t 28)
        (.skip)
        (.exit 2)) <|
      .seq (.block 3 <|
        .seq (.reg false [.op .none 29 (.ia 1 (.t 25) (.t 27)),
          .op .none 30 (.ld false 1 (.t 29)),
          .op .none 8 (.mv (.t 30))]) <|
        .reg false [.op .none 31 (.mv (.t 6)),
          .op .none 32 (.mv (.t 8)),
          .op .none 33 (.app 1 24 (.t 31) (.t 32)),
          .op .none 6 (.mv (.t 33))]) <|
      .reg false [.op .none 34 (.bin .add (.t 27) (.c (.w (.int .i64 1)))),
        .op .none 27 (.mv (.t 34))]) <|
  .seq (.reg false [.op .none 35 (.mv (.t 6)),
    .op .none 2 (.mv (.t 35))]) <|
  .ret
theorem k78 : FnCode Try.prog 78 [300024] 36 [2] c78 := ⟨Try.f78, Try.func78, fun xs W => Try.call78 xs W, by kernel_rfl, by kernel_rfl, by kernel_rfl⟩

theorem fok78 (a b : List (List Bs)) (h : a.length + b.length ≤ 1000000) : FOk Try.prog 78 [.v (.sl 1 [.words a, .words b])] [] (.v (.words (a ++ b))) [] := by
  refine FOk.val k78 (by simp) (by simp) (by decide) ?_
  simp [c78, PV.words]
  refine Run.loopA (ι := Nat) [] (fun i => i ≤ 2) (fun i => ⟨[(0, .v (.sl 1 [.words a, .words b])), (3, .I (if i = 0 then 0 else if i = 1 then a.length else (a.length + b.length : Nat))), (9, .v (.sl 1 [.words a, .words b])), (10, .I 2), (11, .I i)], [], 1024⟩) (fun i => 2 - i) 0 (by decide) (by simp [PV.words]) (by simp) ?_
  rintro i hi ih
  rcases i with _ | _ | i
  · simp (disch := omega) [wrap_i64, PV.words]
    exact ih 1 _ (by omega) (by omega) (by simp [PV.words])
  · simp (disch := omega) [wrap_i64, PV.words]
    exact ⟨by omega, fun _ => ih 2 _ (by omega) (by omega) (by simp [PV.words])⟩
  · obtain rfl : i = 0 := by omega
    simp (disch := omega) [wrap_i64]
    have hg := fok88 (a.length + b.length) (by omega)
    rw [Int.natCast_add] at hg
    refine CallG.plain rfl rfl rfl rfl hg (by simp) (by simp) ?_
    simp
    refine Run.loopA (ι := Nat) [(1, 6)] (fun i => i ≤ 2) (fun i => ⟨[(6, .h 1), (25, .v (.sl 1 [.words a, .words b])), (26, .I 2), (27, .I i)], [(1, ⟨false, 1, if i = 0 then [] else if i = 1 then a.map PV.word else (a ++ b).map PV.word⟩)], 1024⟩) (fun i => 2 - i) 0 (by decide) (by simp [PV.words]) (by simp) ?_
    rintro i hi ih
    have b1 : (a.length + 1000) * 24 ≤ 70368744177664 := by omega
    have b2 : (a.length + b.length + 1000) * 24 ≤ 70368744177664 := by clear b1; omega
    rcases i with _ | _ | i
    · simp [wrap_i64, PV.words, b1]
      exact ih 1 _ (by omega) (by omega) (by simp [PV.words])
    · simp [wrap_i64, PV.words, b2]
      exact ih 2 _ (by omega) (by omega) (by simp [PV.words])
    · obtain rfl : i = 0 := by omega
      simp
      exact Ends.v rfl (by simp [PV.words])

end Go.Proofs
