/- The walk. -/
import Derived.Test.YtphjjlhpepmofaaGreatZs4
import Derived.Test.YtphjjlhpepmofaaGreatProg
import Derived.KernelRfl
set_option linter.all false
set_option maxHeartbeats 2000000
namespace Go.Proofs
open Go Go.AM
attribute [local irreducible] Run Ends
/-- slices.BinarySearchFunc[[][]string,[]string,[]string] -/
def c69 : MC :=
  .seq (.reg false [.op .none 6 (.mv (.c (.w (.int .i64 0)))),
    .op .none 7 (.mv (.c (.w (.bool false))))]) <|
  .seq (.reg false [.op .none 12 (.mv (.t 0)),
    .op .none 13 (.len false (.t 12)),
    .op .none 8 (.mv (.t 13))]) <|
  .seq (.reg false [.op .none 14 (.mv (.t 8)),
    .op .none 9 (.mv (.c (.w (.int .i64 0)))),
    .op .none 10 (.mv (.t 14))]) <|
  .seq (.block 0 <|
    .loop <|
      .seq (.seq (.reg false [.op .none 15 (.mv (.t 9)),
        .op .none 16 (.mv (.t 10)),
        .op .none 17 (.bin .lss (.t 15) (.t 16))]) <|
      .cond (.t 17)
        (.skip)
        (.exit 0)) <|
      .block 1 <|
        .seq (.reg false [.op .none 18 (.mv (.t 9)),
          .op .none 19 (.mv (.t 10)),
          .op .none 20 (.bin .add (.t 18) (.t 19)),
          .op .none 21 (.conv .u64 (.t 20)),
          .op .none 22 (.bin .shr (.t 21) (.c (.w (.int .u64 1)))),
          .op .none 23 (.conv .i64 (.t 22)),
          .op .none 11 (.mv (.t 23))]) <|
        .seq (.reg false [.op .none 24 (.mv (.t 2)),
          .op .none 25 (.mv (.t 0)),
          .op .none 26 (.mv (.t 11)),
          .op .none 27 (.ia 1 (.t 25) (.t 26)),
          .op .none 28 (.ld false 1 (.t 27)),
          .op .none 29 (.mv (.t 1)),
          .call .none 30 (.t 24) [(.t 28), (.t 29)],
          .op .none 31 (.bin .lss (.t 30) (.c (.w (.int .i64 0))))]) <|
        .cond (.t 31)
          (.reg false [.op .none 32 (.mv (.t 11)),
            .op .none 33 (.bin .add (.t 32) (.c (.w (.int .i64 1)))),
            .op .none 9 (.mv (.t 33))])
          (.reg false [.op .none 34 (.mv (.t 11)),
            .op .none 10 (.mv (.t 34))])) <|
  .seq (.reg false [.op .none 35 (.mv (.t 9)),
    .op .none 36 (.mv (.t 9)),
    .op .none 37 (.mv (.t 8)),
    .op .none 38 (.bin .lss (.t 36) (.t 37)),
    .op .none 39 (.mv (.t 38)),
    .op (.some (39, true)) 40 (.mv (.t 2)),
    .op (.some (39, true)) 41 (.mv (.t 0)),
    .op (.some (39, true)) 42 (.mv (.t 9)),
    .op (.some (39, true)) 43 (.ia 1 (.t 41) (.t 42)),
    .op (.some (39, true)) 44 (.ld false 1 (.t 43)),
    .op (.some (39, true)) 45 (.mv (.t 1)),
    .call (.some (39, true)) 46 (.t 40) [(.t 44), (.t 45)],
    .op (.some (39, true)) 47 (.bin .eql (.t 46) (.c (.w (.int .i64 0)))),
    .op .none 48 (.pick (.t 39) (.t 47) (.c (.w (.bool false)))),
    .op .none 6 (.mv (.t 35)),
    .op .none 7 (.mv (.t 48))]) <|
  .ret
theorem k69 : FnCode Tryz.prog 69 [] 49 [6, 7] c69 := ⟨Tryz.f69, Tryz.func69, fun xs W => Tryz.call69 xs W, by kernel_rfl, by kernel_rfl, by kernel_rfl⟩

/-- (*ablaut/store.Store).Number -/
def c33 : MC :=
  .seq (.reg false [.op .none 4 (.mv (.c (.w (.int .i64 0)))),
    .op .none 5 (.mv (.c (.w (.bool false))))]) <|
  .seq (.reg false [.op .none 9 (.mv (.t 0)),
    .call .none 10 (.f 49) [(.t 9)],
    .op .none 11 (.mv (.t 1)),
    .call .none 12 (.f 69) [(.t 10), (.t 11), (.f 70)],
    .op .none 8 (.mv (.t 12)),
    .op .none 13 (.ext (.t 8) 0),
    .op .none 14 (.ext (.t 8) 1),
    .op .none 6 (.mv (.t 13)),
    .op .none 7 (.mv (.t 14))]) <|
  .seq (.seq (.reg false [.op .none 15 (.mv (.t 7)),
    .op .none 16 (.un .not (.t 15))]) <|
  .cond (.t 16)
    (.seq (.reg false [.op .none 4 (.mv (.c (.w (.int .i64 0)))),
      .op .none 5 (.mv (.c (.w (.bool false))))]) <|
    .ret)
    (.skip)) <|
  .seq (.reg false [.op .none 17 (.mv (.t 6)),
    .op .none 4 (.mv (.t 17)),
    .op .none 5 (.mv (.c (.w (.bool true))))]) <|
  .ret
theorem k33 : FnCode Tryz.prog 33 [] 18 [4, 5] c33 := ⟨Tryz.f33, Tryz.func33, fun xs W => Tryz.call33 xs W, by kernel_rfl, by kernel_rfl, by kernel_rfl⟩

/-- ablaut/ablautref23.has -/
def c36 : MC :=
  .seq (.reg false [.op .none 4 (.mv (.c (.w (.bool false))))]) <|
  .seq (.seq (.reg false [.op .none 5 (.mv (.c (.w (.int .i64 0))))]) <|
  .block 0 <|
    .loop <|
      .seq (.seq (.reg false [.op .none 6 (.mv (.t 5)),
        .op .none 7 (.mv (.t 0)),
        .op .none 8 (.len false (.t 7)),
        .op .none 9 (.bin .lss (.t 6) (.t 8))]) <|
      .cond (.t 9)
        (.skip)
        (.exit 0)) <|
      .seq (.block 1 <|
        .seq (.reg false [.op .none 12 (.mv (.t 0)),
          .op .none 13 (.mv (.t 5)),
          .op .none 14 (.ia 1 (.t 12) (.t 13)),
          .op .none 15 (.ld false 1 (.t 14)),
          .op .none 16 (.mv (.t 1)),
          .call .none 17 (.f 12) [(.t 15), (.t 16)]]) <|
        .cond (.t 17)
          (.seq (.reg false [.op .none 4 (.mv (.c (.w (.bool true))))]) <|
          .ret)
          (.skip)) <|
      .reg false [.op .none 10 (.mv (.t 5)),
        .op .none 11 (.bin .add (.t 10) (.c (.w (.int .i64 1)))),
        .op .none 5 (.mv (.t 11))]) <|
  .seq (.reg false [.op .none 4 (.mv (.c (.w (.bool false))))]) <|
  .ret
theorem k36 : FnCode Tryz.prog 36 [] 18 [4] c36 := ⟨Tryz.f36, Tryz.func36, fun xs W => Tryz.call36 xs W, by kernel_rfl, by kernel_rfl, by kernel_rfl⟩

def ascW (M : List (List Bs)) : Prop := M.Pairwise fun a b => cmpW a b < 0
theorem memb_asc (l : List (List Bs)) : ascW (memb l) := cpct_pw linW (srt_pw linW l)
theorem asc_at {M : List (List Bs)} (h : ascW M) {w : List Bs} {i : Nat} (h1 : ∀ k (hk : k < M.length), k < i → cmpW M[k] w < 0) (h2 : ∀ k (hk : k < M.length), i ≤ k → ¬ cmpW M[k] w < 0) :
    decide (w ∈ M) = (match M[i]? with | some v => decide (cmpW v w = 0) | none => false) := by
  have key : w ∈ M ↔ ∃ hi : i < M.length, M[i] = w := by
    constructor
    · intro hm
      obtain ⟨k, hk, rfl⟩ := List.getElem_of_mem hm
      have h3 : ¬ k < i := fun h3 => linW.irr _ (h1 k hk h3)
      have h4 : ¬ i < k := fun h4 => h2 i (by omega) (Nat.le_refl _) (List.pairwise_iff_getElem.1 h i k (by omega) hk h4)
      obtain rfl : k = i := by omega
      exact ⟨hk, rfl⟩
    · rintro ⟨hi, rfl⟩; exact List.getElem_mem hi
  by_cases hi : i < M.length
  · rw [List.getElem?_eq_getElem hi]
    simp only
    by_cases he : M[i] = w
    · rw [he, cmpW_self]; simp [key.2 ⟨hi, he⟩]
    · have : ¬ cmpW M[i] w = 0 := fun h => he (cmpW_zero h)
      simp only [this, decide_false, decide_eq_false_iff_not]
      rintro hm; obtain ⟨_, h5⟩ := key.1 hm; exact he h5
  · rw [List.getElem?_eq_none (by omega)]
    simp only [decide_eq_false_iff_not]
    rintro hm; obtain ⟨h5, _⟩ := key.1 hm; exact hi h5
def posW (M : List (List Bs)) (w : List Bs) : Nat := fiC (fun v => cmpW v w) M
theorem fok69 (M : List (List Bs)) (w : List Bs) (hM : ascW M) (hl : M.length ≤ 1000) (hs : ∀ v ∈ M, v.length ≤ 1000) (hw : w.length ≤ 1000) :
    FOk Tryz.prog 69 [.v (wordsV M), .v (.word w), .fn 70 []] [] (.tup [.I (posW M w), .B (decide (w ∈ M))]) [] := by
  have hcm := fun k (h : k < M.length) => fok70 M[k] w (by have := hs _ (List.getElem_mem h); omega) (by omega)
  refine FOk.val k69 (by simp) (by simp) (by decide) ?_
  simp [c69, wordsV]
  refine Run.loopA (ι := Nat × Nat) [] (fun q => q.1 ≤ q.2 ∧ q.2 ≤ M.length ∧ (∀ k (h : k < M.length), k < q.1 → cmpW M[k] w < 0) ∧ (∀ k (h : k < M.length), q.2 ≤ k → ¬ cmpW M[k] w < 0)) (fun q => ⟨[(0, .v (.sl 1 (M.map PV.word))), (1, .v (.word w)), (2, .fn 70 []), (8, .I M.length), (9, .I q.1), (10, .I q.2)], [], 1024⟩) (fun q => q.2 - q.1) (0, M.length) (by decide) (by simp) ⟨by simp, by simp, by simp, by intro k h h2; simp at h2; omega⟩ ?_
  rintro ⟨i, j⟩ ⟨h1, h2, h3, h4⟩ ih
  simp only at h1 h2 h3 h4 ih ⊢
  by_cases h : i < j
  · have he := half_eq (i := i) (j := j) (by omega)
    obtain ⟨m, hm⟩ : ∃ m, m = (i + j) / 2 := ⟨_, rfl⟩
    rw [← hm] at he
    have hh : m < M.length := by omega
    have hg : (M.map PV.word)[m]? = some (PV.word M[m]) := by simp [List.getElem?_eq_getElem hh]
    have hc := hcm m hh
    simp only [PV.word] at hg hc
    simp (disch := omega) [h, wrap_i64, wrap_u64, he, hh, hg]
    refine CallG.lent rfl rfl rfl rfl hc rfl ?_
    simp (disch := omega) [wrap_i64]
    refine ⟨fun hc => ?_, fun hc => ?_⟩
    · refine ih (m + 1, j) _ ⟨by simp; omega, h2, ?_, h4⟩ (by simp; omega) (by simp)
      intro k hk hk2
      simp only at hk2
      rcases Nat.lt_or_ge k m with h5 | h5
      · exact linW.tr (List.pairwise_iff_getElem.1 hM k m hk hh h5) hc
      · obtain rfl : k = m := by omega
        exact hc
    · refine ih (i, m) _ ⟨by simp; omega, by simp; omega, h3, ?_⟩ (by simp; omega) (by simp)
      intro k hk hk2 hc2
      simp only at hk2
      rcases Nat.eq_or_lt_of_le hk2 with h5 | h5
      · subst h5; omega
      · have := linW.tr (List.pairwise_iff_getElem.1 hM m k hh hk h5) hc2; omega
  · obtain rfl : i = j := by omega
    have hf : posW M w = i := fiC_eq _ h2 h3 (fun hk => h4 i hk (Nat.le_refl _))
    have hmm := asc_at hM h3 h4
    rw [hf, hmm]
    by_cases hi : i < M.length
    · have hg : (M.map PV.word)[i]? = some (PV.word M[i]) := by simp [List.getElem?_eq_getElem hi]
      have hc := hcm i hi
      rw [List.getElem?_eq_getElem hi]
      simp only [PV.word] at hg hc
      simp (disch := omega) [h, wrap_i64, wrap_u64, hg, hi]
      refine CallG.lent rfl rfl rfl rfl hc rfl ?_
      simp
      exact Ends.v rfl (by simp)
    · rw [List.getElem?_eq_none (by omega)]
      simp (disch := omega) [h, wrap_i64, wrap_u64, hi]
      exact Ends.v rfl (by simp)
theorem fok33 (M : List (List Bs)) (w : List Bs) (hM : ascW M) (hl : M.length ≤ 1000) (hs : ∀ v ∈ M, v.length ≤ 1000) (hw : w.length ≤ 1000) :
    FOk Tryz.prog 33 [.ptr 0 0 0, .v (.word w)] [(0, stoE M)] (.tup [.I (if w ∈ M then (posW M w : Int) else 0), .B (decide (w ∈ M))]) [(0, stoE M)] := by
  have h1 := fok49 M
  have h2 := fok69 M w hM hl hs hw
  simp only [stoE, wordsV] at h1 h2 ⊢
  refine FOk.of k33 1 (by simp) (by decide) (by simp) (by simp) (szOk_ok rfl) (by decide) ?_
  simp [c33]
  refine CallG.rows [0] rfl rfl rfl rfl (by simp) (by simp [find]) h1 (by simp) (by simp) ?_
  simp
  refine CallG.lent rfl rfl rfl rfl h2 rfl ?_
  by_cases hm : w ∈ M
  · simp [hm]
    exact Ends.one rfl rfl rfl (by simp [passH, find])
  · simp [hm]
    exact Ends.one rfl rfl rfl (by simp [passH, find])

/-! Where a word may be cut. -/
def cutOk (M : List (List Bs)) (w : List Bs) (k : Nat) : Bool := decide (w.take k ∈ M) && decide (w.drop k ∈ M)
def cutV (w : List Bs) (k : Nat) : List PV := [.st [PV.word (w.take k), PV.word (w.drop k)]]
def cutsV (M : List (List Bs)) (w : List Bs) (n : Nat) : List PV := (List.range n).flatMap fun k => if cutOk M w k = true then cutV w k else []
def splV (M : List (List Bs)) (w : List Bs) : List PV := if vWord w = 0 then cutsV M w (w.length + 1) else []
theorem cuts_succ (M : List (List Bs)) (w : List Bs) (n : Nat) : cutsV M w (n + 1) = cutsV M w n ++ if cutOk M w n = true then cutV w n else [] := by
  unfold cutsV; rw [List.range_succ, List.flatMap_append, List.flatMap_singleton]
theorem cuts_len (M : List (List Bs)) (w : List Bs) : ∀ n : Nat, (cutsV M w n).length ≤ n
  | 0 => by simp [cutsV]
  | n + 1 => by
    rw [cuts_succ, List.length_append]
    have := cuts_len M w n
    split
    · simp [cutV]; omega
    · simp; omega
/-- ablaut/spell.Split -/
def c10 : MC :=
  .seq (.reg false [.op .none 4 (.nilS 2),
    .op .none 5 (.mv (.c (.w (.int .i64 0))))]) <|
  .seq (.seq (.reg false [.op .none 13 (.mv (.t 1)),
    .call .none 14 (.f 32) [(.t 13)],
    .op .none 6 (.mv (.t 14))]) <|
  .seq (.reg false [.op .none 15 (.mv (.t 6)),
    .op .none 16 (.bin .neq (.t 15) (.c (.w (.int .i64 0))))]) <|
  .cond (.t 16)
    (.seq (.reg false [.op .none 17 (.mv (.t 6)),
      .op .none 4 (.nilS 2),
      .op .none 5 (.mv (.t 17))]) <|
    .ret)
    (.skip)) <|
  .seq (.reg false [.op .none 7 (.nilS 2)]) <|
  .seq (.seq (.reg false [.op .none 18 (.mv (.t 1)),
    .op .none 19 (.len false (.t 18)),
    .op .none 20 (.bin .add (.t 19) (.c (.w (.int .i64 1)))),
    .op .none 21 (.mv (.c (.w (.int .i64 0))))]) <|
  .block 0 <|
    .loop <|
      .seq (.reg false [.op .none 22 (.bin .lss (.t 21) (.t 20))]) <|
      .seq (.cond (.t 22)
        (.skip)
        (.exit 0)) <|
      .seq (.block 1 <|
        .seq (.reg false [.op .none 23 (.mv (.t 21)),
          .op .none 8 (.mv (.t 23))]) <|
        .seq (.reg false [.op .none 25 (.mv (.t 0)),
          .op .none 26 (.mv (.t 1)),
          .op .none 27 (.mv (.t 8)),
          .op .none 28 (.slc false 1 (.t 26) .none (.some (.t 27))),
          .call .none 29 (.f 33) [(.t 25), (.t 28)],
          .op .none 24 (.mv (.t 29)),
          .op .none 30 (.ext (.t 24) 0),
          .op .none 31 (.ext (.t 24) 1),
          .op .none 9 (.mv (.t 30)),
          .op .none 10 (.mv (.t 31))]) <|
        .seq (.reg false [.op .none 33 (.mv (.t 0)),
          .op .none 34 (.mv (.t 1)),
          .op .none 35 (.mv (.t 8)),
          .op .none 36 (.slc false 1 (.t 34) (.some (.t 35)) .none),
          .call .none 37 (.f 33) [(.t 33), (.t 36)],
          .op .none 32 (.mv (.t 37)),
          .op .none 38 (.ext (.t 32) 0),
          .op .none 39 (.ext (.t 32) 1),
          .op .none 11 (.mv (.t 38)),
          .op .none 12 (.mv (.t 39))]) <|
        .seq (.reg false [.op .none 40 (.mv (.t 10)),
          .op .none 41 (.mv (.t 40)),
          .op (.some (41, true)) 42 (.mv (.t 12)),
          .op .none 43 (.pick (.t 41) (.t 42) (.c (.w (.bool false))))]) <|
        .cond (.t 43)
          (.reg true [.op .none 44 (.mv (.t 7)),
            .op .none 45 (.mv (.t 1)),
            .op .none 46 (.mv (.t 8)),
            .op .none 47 (.slc false 1 (.t 45) .none (.some (.t 46))),
            .call .none 48 (.f 34) [(.t 47)],
            .op .none 49 (.mv (.t 1)),
            .op .none 50 (.mv (.t 8)),
            .op .none 51 (.slc false 1 (.t 49) (.some (.t 50)) .none),
            .call .none 52 (.f 34) [(.t 51)],
            .op .none 53 (.build true [(.sl 1 []), (.sl 1 [])] [(0, 1, (.t 48)), (1, 1, (.t 52))]),
            .op .none 54 (.buildS true 2 1 true [(.sl 1 []), (.sl 1 [])] [(0, (.t 53))]),
            .op .none 55 (.app 2 48 (.t 44) (.t 54)),
            .op .none 7 (.mv (.t 55))])
          (.skip)) <|
      .reg false [.op .none 56 (.bin .add (.t 21) (.c (.w (.int .i64 1)))),
        .op .none 21 (.mv (.t 56))]) <|
  .seq (.reg false [.op .none 57 (.mv (.t 7)),
    .op .none 4 (.mv (.t 57)),
    .op .none 5 (.mv (.c (.w (.int .i64 0))))]) <|
  .ret
theorem k10 : FnCode Tryz.prog 10 [53, 54] 58 [4, 5] c10 := ⟨Tryz.f10, Tryz.func10, fun xs W => Tryz.call10 xs W, by kernel_rfl, by kernel_rfl, by kernel_rfl⟩

set_option maxRecDepth 100000 in
theorem fok10 (M : List (List Bs)) (w : List Bs) (hM : ascW M) (hl : M.length ≤ 1000) (hs : ∀ v ∈ M, v.length ≤ 1000) (hw : wordS w) :
    FOk Tryz.prog 10 [.ptr 0 0 0, .v (.word w)] [(0, stoE M)] (.tup [.v (.sl 2 (splV M w)), .I (vWord w)]) [(0, stoE M)] := by
  have cw := fok32 w hw.1 hw.2
  refine FOk.of k10 1 (by simp) (by decide) (by simp [stoE]) (by simp) (szOk_ok rfl) (by decide) ?_
  simp [c10]
  refine CallG.lent rfl rfl rfl rfl cw rfl ?_
  by_cases h0 : vWord w = 0
  case neg =>
    have hsp : splV M w = [] := by unfold splV; rw [if_neg h0]
    rw [hsp]
    simp [h0]
    exact Ends.one rfl rfl rfl (by simp [passH, find]) (by simp [stoE])
  have h60 := vWord_ok h0
  have hsp : splV M w = cutsV M w (w.length + 1) := by unfold splV; rw [if_pos h0]
  rw [hsp, h0]
  simp (disch := omega) [wrap_i64]
  refine Run.loopA (ι := Nat) [(0, 0), (1, 7)] (fun k => k ≤ w.length + 1) (fun k => ⟨[(0, .ptr 0 0 0), (1, .v (.word w)), (7, .h 1), (20, .I (w.length + 1 : Nat)), (21, .I k)], [(0, stoE M), (1, ⟨false, 2, cutsV M w k⟩)], 1024⟩) (fun k => w.length + 1 - k) 0 (by decide) (by simp [cutsV, stoE]) (by omega) ?_
  intro k hk ih
  by_cases h : k < w.length + 1
  · have hkl : k ≤ w.length := by omega
    have n1 := fok33 M (w.take k) hM hl hs (by simp; omega)
    have n2 := fok33 M (w.drop k) hM hl hs (by simp; omega)
    have hcs := cuts_succ M w k
    have hcl := cuts_len M w k
    have c1 := fok34 (w.take k) (by simp; omega)
    have c2 := fok34 (w.drop k) (by simp; omega)
    generalize cutsV M w k = B at hcs hcl ⊢
    have hb : (B.length + 1 + 1000) * 48 ≤ 70368744177664 := by omega
    have hso : (stoE M).sol := by simp [stoE]
    simp only [PV.word, List.map_take, List.map_drop] at n1 n2 c1 c2
    have hI : (k : Int) < (w.length : Int) + 1 := by clear hb; omega
    have hwt : (w.map fun s => PV.w (.string (bs s))).take w.length = w.map fun s => PV.w (.string (bs s)) := List.take_of_length_le (by simp)
    simp (disch := (clear hb; omega)) [h, hI, hkl, wrap_i64]
    refine CallG.rows [0] rfl rfl rfl rfl (by simp) (by simp [find, hso]) n1 (by simp [hso]) (by simp) ?_
    simp (disch := (clear hb; omega)) [hkl, hwt, wrap_i64]
    refine CallG.rows [0] rfl rfl rfl rfl (by simp) (by simp [find, hso]) n2 (by simp [hso]) (by simp) ?_
    by_cases a1 : w.take k ∈ M
    · by_cases a2 : w.drop k ∈ M
      · have hok : cutOk M w k = true := by simp [cutOk, a1, a2]
        rw [if_pos hok] at hcs
        simp (disch := (clear hb; omega)) [a1, a2, hkl, wrap_i64]
        refine CallG.plain rfl rfl rfl rfl c1 (by simp) (by simp) ?_
        simp (disch := (clear hb; omega)) [hkl, hwt, wrap_i64]
        refine CallG.plain rfl rfl rfl rfl c2 (by simp) (by simp) ?_
        simp (disch := (clear hb; omega)) [hb, wrap_i64]
        exact ih (k + 1) _ (by clear hb; omega) (by clear hb; omega) (by rw [hcs]; simp [cutV, PV.word, stoE])
      · have hok : ¬ cutOk M w k = true := by simp [cutOk, a1, a2]
        rw [if_neg hok] at hcs
        simp (disch := (clear hb; omega)) [a1, a2, wrap_i64]
        exact ih (k + 1) _ (by clear hb; omega) (by clear hb; omega) (by rw [hcs]; simp [stoE])
    · have hok : ¬ cutOk M w k = true := by simp [cutOk, a1]
      rw [if_neg hok] at hcs
      simp (disch := (clear hb; omega)) [a1, wrap_i64]
      exact ih (k + 1) _ (by clear hb; omega) (by clear hb; omega) (by rw [hcs]; simp [stoE])
  · have : k = w.length + 1 := by omega
    subst this
    simp (disch := omega) [wrap_i64]
    exact Ends.one rfl rfl rfl (by simp [passH, find]) (by simp [stoE])

end Go.Proofs
