/- The walk. -/
import Derived.Test.YtphjjlhpepmofaaGreatZs5
import Derived.Test.YtphjjlhpepmofaaGreatProg
import Derived.KernelRfl
set_option linter.all false
set_option maxHeartbeats 2000000
namespace Go.Proofs
open Go Go.AM
attribute [local irreducible] Run Ends
/-- ablaut/ablautref23.Split -/
def c11 : MC :=
  .seq (.reg false [.op .none 4 (.nilS 2),
    .op .none 5 (.mv (.c (.w (.int .i64 0))))]) <|
  .seq (.seq (.reg false [.op .none 9 (.mv (.t 1)),
    .call .none 10 (.f 35) [(.t 9)],
    .op .none 6 (.mv (.t 10))]) <|
  .seq (.reg false [.op .none 11 (.mv (.t 6)),
    .op .none 12 (.bin .neq (.t 11) (.c (.w (.int .i64 0))))]) <|
  .cond (.t 12)
    (.seq (.reg false [.op .none 13 (.mv (.t 6)),
      .op .none 4 (.nilS 2),
      .op .none 5 (.mv (.t 13))]) <|
    .ret)
    (.skip)) <|
  .seq (.reg false [.op .none 7 (.nilS 2)]) <|
  .seq (.seq (.reg false [.op .none 8 (.mv (.c (.w (.int .i64 0))))]) <|
  .block 0 <|
    .loop <|
      .seq (.seq (.reg false [.op .none 14 (.mv (.t 8)),
        .op .none 15 (.mv (.t 1)),
        .op .none 16 (.len false (.t 15)),
        .op .none 17 (.bin .leq (.t 14) (.t 16))]) <|
      .cond (.t 17)
        (.skip)
        (.exit 0)) <|
      .seq (.block 1 <|
        .seq (.reg false [.op .none 20 (.mv (.t 0)),
          .op .none 21 (.mv (.t 1)),
          .op .none 22 (.mv (.t 8)),
          .op .none 23 (.slc false 1 (.t 21) .none (.some (.t 22))),
          .call .none 24 (.f 36) [(.t 20), (.t 23)],
          .op .none 25 (.mv (.t 24)),
          .op (.some (25, true)) 26 (.mv (.t 0)),
          .op (.some (25, true)) 27 (.mv (.t 1)),
          .op (.some (25, true)) 28 (.mv (.t 8)),
          .op (.some (25, true)) 29 (.slc false 1 (.t 27) (.some (.t 28)) .none),
          .call (.some (25, true)) 30 (.f 36) [(.t 26), (.t 29)],
          .op .none 31 (.pick (.t 25) (.t 30) (.c (.w (.bool false))))]) <|
        .cond (.t 31)
          (.reg true [.op .none 32 (.mv (.t 7)),
            .op .none 33 (.mv (.t 1)),
            .op .none 34 (.mv (.t 8)),
            .op .none 35 (.slc false 1 (.t 33) .none (.some (.t 34))),
            .op .none 36 (.mv (.t 1)),
            .op .none 37 (.mv (.t 8)),
            .op .none 38 (.slc false 1 (.t 36) (.some (.t 37)) .none),
            .op .none 39 (.build true [(.sl 1 []), (.sl 1 [])] [(0, 1, (.t 35)), (1, 1, (.t 38))]),
            .op .none 40 (.buildS true 2 1 true [(.sl 1 []), (.sl 1 [])] [(0, (.t 39))]),
            .op .none 41 (.app 2 48 (.t 32) (.t 40)),
            .op .none 7 (.mv (.t 41))])
          (.skip)) <|
      .reg false [.op .none 18 (.mv (.t 8)),
        .op .none 19 (.bin .add (.t 18) (.c (.w (.int .i64 1)))),
        .op .none 8 (.mv (.t 19))]) <|
  .seq (.reg false [.op .none 42 (.mv (.t 7)),
    .op .none 4 (.mv (.t 42)),
    .op .none 5 (.mv (.c (.w (.int .i64 0))))]) <|
  .ret
theorem k11 : FnCode Tryz.prog 11 [39, 40] 43 [4, 5] c11 := ⟨Tryz.f11, Tryz.func11, fun xs W => Tryz.call11 xs W, by kernel_rfl, by kernel_rfl, by kernel_rfl⟩

theorem fokZ33 (w : List Bs) (hw : w.length ≤ 1000) : FOk Tryz.prog 33 [.v (.w (.pointer none)), .v (.word w)] [] (.tup [.I 0, .B false]) [] := by
  have h1 : FOk Tryz.prog 49 [.v (.w (.pointer none))] [] (.v (.sl 1 [])) [] := fokWordsNil
  have h2 := fok69 [] w .nil (by simp) (by simp) hw
  have hp : posW [] w = 0 := rfl
  simp only [wordsV, List.map_nil, hp, List.not_mem_nil, decide_false] at h2
  refine FOk.val k33 (by simp) (by simp) (by decide) ?_
  simp [c33]
  refine CallG.plain rfl rfl rfl rfl h1 (by simp) (by simp) ?_
  simp
  refine CallG.lent rfl rfl rfl rfl h2 rfl ?_
  simp
  exact Ends.v rfl (by simp)
set_option maxRecDepth 100000 in
theorem fokZ10 (w : List Bs) (hw : wordS w) :
    FOk Tryz.prog 10 [.v (.w (.pointer none)), .v (.word w)] [] (.tup [.v (.sl 2 (splV [] w)), .I (vWord w)]) [] := by
  have cw := fok32 w hw.1 hw.2
  refine FOk.val k10 (by simp) (by simp) (by decide) ?_
  simp [c10]
  refine CallG.lent rfl rfl rfl rfl cw rfl ?_
  by_cases h0 : vWord w = 0
  case neg =>
    have hsp : splV [] w = [] := by unfold splV; rw [if_neg h0]
    rw [hsp]
    simp [h0]
    exact Ends.v rfl (by simp)
  have h60 := vWord_ok h0
  have hsp : splV [] w = cutsV [] w (w.length + 1) := by unfold splV; rw [if_pos h0]
  rw [hsp, h0]
  simp (disch := omega) [wrap_i64]
  refine Run.loopA (ι := Nat) [(1, 7)] (fun k => k ≤ w.length + 1) (fun k => ⟨[(0, .v (.w (.pointer none))), (1, .v (.word w)), (7, .h 1), (20, .I (w.length + 1 : Nat)), (21, .I k)], [(1, ⟨false, 2, cutsV [] w k⟩)], 1024⟩) (fun k => w.length + 1 - k) 0 (by decide) (by simp [cutsV, stoE]) (by omega) ?_
  intro k hk ih
  by_cases h : k < w.length + 1
  · have hkl : k ≤ w.length := by omega
    have n1 := fokZ33 (w.take k) (by simp; omega)
    have n2 := fokZ33 (w.drop k) (by simp; omega)
    have hcs := cuts_succ [] w k
    have hcl := cuts_len [] w k
    have c1 := fok34 (w.take k) (by simp; omega)
    have c2 := fok34 (w.drop k) (by simp; omega)
    generalize cutsV [] w k = B at hcs hcl ⊢
    have hb : (B.length + 1 + 1000) * 48 ≤ 70368744177664 := by omega
    simp only [PV.word, List.map_take, List.map_drop] at n1 n2 c1 c2
    have hI : (k : Int) < (w.length : Int) + 1 := by clear hb; omega
    have hwt : (w.map fun s => PV.w (.string (bs s))).take w.length = w.map fun s => PV.w (.string (bs s)) := List.take_of_length_le (by simp)
    simp (disch := (clear hb; omega)) [h, hI, hkl, wrap_i64]
    refine CallG.lent rfl rfl rfl rfl n1 rfl ?_
    simp (disch := (clear hb; omega)) [hkl, hwt, wrap_i64]
    refine CallG.lent rfl rfl rfl rfl n2 rfl ?_
    have hok : ¬ cutOk [] w k = true := by simp [cutOk]
    rw [if_neg hok] at hcs
    simp (disch := (clear hb; omega)) [wrap_i64]
    exact ih (k + 1) _ (by clear hb; omega) (by clear hb; omega) (by rw [hcs]; simp)
  · have : k = w.length + 1 := by omega
    subst this
    simp (disch := omega) [wrap_i64]
    exact Ends.v rfl (by simp)

theorem fok36 (M : List (List Bs)) (w : List Bs) (hl : M.length ≤ 1000) (hs : ∀ v ∈ M, v.length ≤ 1000) (hw : w.length ≤ 1000) : FOk Tryz.prog 36 [.v (wordsV M), .v (.word w)] [] (.B (decide (w ∈ M))) [] := by
  refine FOk.val k36 (by simp) (by simp) (by decide) ?_
  simp [c36, wordsV]
  refine Run.loopA (ι := Nat) [] (fun i => i ≤ M.length ∧ decide (w ∈ M.drop i) = decide (w ∈ M)) (fun i => ⟨[(0, .v (.sl 1 (M.map PV.word))), (1, .v (.word w)), (5, .I i)], [], 1024⟩) (fun i => M.length - i) 0 (by decide) (by simp) ⟨by simp, by simp⟩ ?_
  rintro i ⟨hi, hall⟩ ih
  by_cases h : i < M.length
  · have hg : (M.map PV.word)[i]? = some (PV.word M[i]) := by simp [List.getElem?_eq_getElem h]
    have hsl := hs _ (List.getElem_mem h)
    have cs := fok12 M[i] w (by omega) (by omega)
    rw [drop_at h] at hall
    generalize M[i] = v at hg hsl cs hall
    simp only [PV.word] at hg cs
    simp (disch := omega) [h, hg, wrap_i64]
    refine CallG.lent rfl rfl rfl rfl cs rfl ?_
    by_cases he : v = w
    · subst he
      simp (disch := omega) [wrap_i64]
      exact Ends.v rfl (by simp [← hall])
    · have he' : ¬ w = v := fun e => he e.symm
      have hall : decide (w ∈ M.drop (i + 1)) = decide (w ∈ M) := by rw [← hall]; simp [he']
      simp (disch := omega) [he, wrap_i64]
      exact ih (i + 1) _ ⟨by omega, hall⟩ (by omega) (by simp)
  · rw [drop_no h] at hall
    simp (disch := omega) [h, wrap_i64]
    exact Ends.v rfl (by simp [← hall])
set_option maxRecDepth 100000 in
theorem fok11 (M : List (List Bs)) (w : List Bs) (hl : M.length ≤ 1000) (hs : ∀ v ∈ M, v.length ≤ 1000) (hw : wordS w) :
    FOk Tryz.prog 11 [.v (wordsV M), .v (.word w)] [] (.tup [.v (.sl 2 (splV M w)), .I (vWord w)]) [] := by
  have cw := fok35 w hw
  refine FOk.val k11 (by simp) (by simp) (by decide) ?_
  simp [c11, wordsV]
  refine CallG.lent rfl rfl rfl rfl cw rfl ?_
  by_cases h0 : vWord w = 0
  case neg =>
    have hsp : splV M w = [] := by unfold splV; rw [if_neg h0]
    rw [hsp]
    simp [h0]
    exact Ends.v rfl (by simp)
  have h60 := vWord_ok h0
  have hsp : splV M w = cutsV M w (w.length + 1) := by unfold splV; rw [if_pos h0]
  rw [hsp, h0]
  simp (disch := omega) [wrap_i64]
  refine Run.loopA (ι := Nat) [(1, 7)] (fun k => k ≤ w.length + 1) (fun k => ⟨[(0, .v (.sl 1 (M.map PV.word))), (1, .v (.word w)), (7, .h 1), (8, .I k)], [(1, ⟨false, 2, cutsV M w k⟩)], 1024⟩) (fun k => w.length + 1 - k) 0 (by decide) (by simp [cutsV]) (by omega) ?_
  intro k hk ih
  by_cases h : k ≤ w.length
  · have n1 := fok36 M (w.take k) hl hs (by simp; omega)
    have n2 := fok36 M (w.drop k) hl hs (by simp; omega)
    have hcs := cuts_succ M w k
    have hcl := cuts_len M w k
    generalize cutsV M w k = B at hcs hcl ⊢
    have hb : (B.length + 1 + 1000) * 48 ≤ 70368744177664 := by omega
    have hwt : (w.map fun s => PV.w (.string (bs s))).take w.length = w.map fun s => PV.w (.string (bs s)) := List.take_of_length_le (by simp)
    simp only [PV.word, List.map_take, List.map_drop, wordsV] at n1 n2
    simp (disch := (clear hb; omega)) [h, wrap_i64]
    refine CallG.lent rfl rfl rfl rfl n1 rfl ?_
    by_cases a1 : w.take k ∈ M
    · simp (disch := (clear hb; omega)) [a1, h, hwt, wrap_i64]
      refine CallG.lent rfl rfl rfl rfl n2 rfl ?_
      by_cases a2 : w.drop k ∈ M
      · have hok : cutOk M w k = true := by simp [cutOk, a1, a2]
        rw [if_pos hok] at hcs
        simp (disch := (clear hb; omega)) [a1, a2, h, hwt, hb, wrap_i64]
        exact ih (k + 1) _ (by clear hb; omega) (by clear hb; omega) (by rw [hcs]; simp [cutV, PV.word])
      · have hok : ¬ cutOk M w k = true := by simp [cutOk, a1, a2]
        rw [if_neg hok] at hcs
        simp (disch := (clear hb; omega)) [a1, a2, wrap_i64]
        exact ih (k + 1) _ (by clear hb; omega) (by clear hb; omega) (by rw [hcs]; simp)
    · have hok : ¬ cutOk M w k = true := by simp [cutOk, a1]
      rw [if_neg hok] at hcs
      simp (disch := (clear hb; omega)) [a1, wrap_i64]
      exact ih (k + 1) _ (by clear hb; omega) (by clear hb; omega) (by rw [hcs]; simp)
  · have : k = w.length + 1 := by omega
    subst this
    have hI : ¬ ((w.length : Int) + 1 ≤ (w.length : Int)) := by omega
    simp (disch := omega) [hI, wrap_i64]
    exact Ends.v rfl (by simp)

end Go.Proofs
