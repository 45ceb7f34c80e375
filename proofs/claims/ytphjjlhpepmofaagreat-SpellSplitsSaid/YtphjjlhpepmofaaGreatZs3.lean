/- The walk. -/
import Derived.Test.YtphjjlhpepmofaaGreatZs2
import Derived.Test.YtphjjlhpepmofaaGreatF7
import Derived.Test.YtphjjlhpepmofaaGreatProg
import Derived.KernelRfl
set_option linter.all false
set_option maxHeartbeats 2000000
namespace Go.Proofs
open Go Go.AM
attribute [local irreducible] Run Ends
/-- ablaut/store.made -/
def c48 : MC :=
  .seq (.reg false [.op .none 2 (.mv (.c (.w (.pointer none)))),
    .op .none 3 (.mv (.c (.w (.int .i64 0))))]) <|
  .seq (.reg false [.op .none 4 (.mv (.t 0)),
    .call .none 5 (.f 81) [(.t 4)],
    .op .none 0 (.mv (.t 5))]) <|
  .seq (.reg false [.op .none 6 (.mv (.t 0)),
    .call .none 7 (.f 56) [(.t 6), (.f 70)]]) <|
  .seq (.reg false [.op .none 8 (.mv (.t 0)),
    .call .none 9 (.f 82) [(.t 8), (.f 55)],
    .op .none 0 (.mv (.t 9))]) <|
  .seq (.seq (.reg false [.op .none 10 (.mv (.t 0)),
    .op .none 11 (.len false (.t 10)),
    .op .none 12 (.bin .gtr (.t 11) (.c (.w (.int .i64 300)))),
    .op .none 13 (.mv (.t 12)),
    .op (.some (13, false)) 14 (.mv (.t 0)),
    .call (.some (13, false)) 15 (.f 83) [(.t 14)],
    .op (.some (13, false)) 16 (.len false (.t 15)),
    .op (.some (13, false)) 17 (.bin .gtr (.t 16) (.c (.w (.int .i64 40)))),
    .op .none 18 (.pick (.t 13) (.c (.w (.bool true))) (.t 17))]) <|
  .cond (.t 18)
    (.seq (.reg false [.op .none 2 (.mv (.c (.w (.pointer none)))),
      .op .none 3 (.mv (.c (.w (.int .i64 3))))]) <|
    .ret)
    (.skip)) <|
  .seq (.reg false [.op .none 19 (.mv (.t 0)),
    .op .none 20 (.build false [(.w (.int .i32 0)), (.w (.int .u32 0)), (.sl 1 [])] [(2, 1, (.t 19))]),
    .op .none 21 (.box false (.t 20)),
    .op .none 2 (.mv (.t 21)),
    .op .none 3 (.mv (.c (.w (.int .i64 0))))]) <|
  .ret
theorem k48 : FnCode Tryz.prog 48 [] 22 [2, 3] c48 := ⟨Tryz.f48, Tryz.func48, fun xs W => Tryz.call48 xs W, by kernel_rfl, by kernel_rfl, by kernel_rfl⟩

/-- ablaut/store.New -/
def c17 : MC :=
  .seq (.reg false [.op .none 2 (.mv (.c (.w (.pointer none)))),
    .op .none 3 (.mv (.c (.w (.int .i64 0))))]) <|
  .seq (.seq (.reg false [.op .none 7 (.mv (.t 0)),
    .op .none 8 (.len false (.t 7)),
    .op .none 9 (.bin .gtr (.t 8) (.c (.w (.int .i64 300))))]) <|
  .cond (.t 9)
    (.seq (.reg false [.op .none 2 (.mv (.c (.w (.pointer none)))),
      .op .none 3 (.mv (.c (.w (.int .i64 3))))]) <|
    .ret)
    (.skip)) <|
  .seq (.seq (.reg false [.op .none 10 (.mv (.t 0)),
    .op .none 11 (.len false (.t 10)),
    .op .none 12 (.mv (.c (.w (.int .i64 0))))]) <|
  .block 0 <|
    .loop <|
      .seq (.reg false [.op .none 13 (.bin .lss (.t 12) (.t 11))]) <|
      .seq (.cond (.t 13)
        (.skip)
        (.exit 0)) <|
      .seq (.block 1 <|
        .seq (.reg false [.op .none 14 (.ia 1 (.t 10) (.t 12)),
          .op .none 15 (.ld false 1 (.t 14)),
          .op .none 5 (.mv (.t 15))]) <|
        .seq (.reg false [.op .none 16 (.mv (.t 5)),
          .call .none 17 (.f 32) [(.t 16)],
          .op .none 6 (.mv (.t 17))]) <|
        .seq (.reg false [.op .none 18 (.mv (.t 6)),
          .op .none 19 (.bin .neq (.t 18) (.c (.w (.int .i64 0))))]) <|
        .cond (.t 19)
          (.seq (.reg false [.op .none 20 (.mv (.t 6)),
            .op .none 2 (.mv (.c (.w (.pointer none)))),
            .op .none 3 (.mv (.t 20))]) <|
          .ret)
          (.skip)) <|
      .reg false [.op .none 21 (.bin .add (.t 12) (.c (.w (.int .i64 1)))),
        .op .none 12 (.mv (.t 21))]) <|
  .seq (.reg false [.op .none 22 (.mv (.t 0)),
    .call .none 23 (.f 48) [(.t 22)],
    .op .none 24 (.ext (.t 23) 0),
    .op .none 25 (.ext (.t 23) 1),
    .op .none 2 (.mv (.t 24)),
    .op .none 3 (.mv (.t 25))]) <|
  .ret
theorem k17 : FnCode Tryz.prog 17 [] 26 [2, 3] c17 := ⟨Tryz.f17, Tryz.func17, fun xs W => Tryz.call17 xs W, by kernel_rfl, by kernel_rfl, by kernel_rfl⟩

/-- A store's words as an entry. -/
def stoE (M : List (List Bs)) : Ent := ⟨false, 3, [.st [.w (.int .i32 0), .w (.int .u32 0), wordsV M]]⟩
def memb (l : List (List Bs)) : List (List Bs) := cpct (srt cmpW l)
theorem memb_mem (l : List (List Bs)) (w : List Bs) : w ∈ memb l ↔ w ∈ l := by unfold memb; rw [cpct_mem, srt_mem]
theorem memb_len (l : List (List Bs)) : (memb l).length ≤ l.length := by unfold memb; have := cpct_len (srt cmpW l); rw [srt_len] at this; exact this
theorem fokM48 (l : List (List Bs)) (hl : l.length ≤ 300) (hw : ∀ w ∈ l, w.length ≤ 60) : (40 < (sigF (memb l)).length → FOk Tryz.prog 48 [.v (wordsV l)] [] (.tup [.v (.w (.pointer none)), .I 3]) []) ∧
    (¬ 40 < (sigF (memb l)).length → FOk Tryz.prog 48 [.v (wordsV l)] [] (.tup [.ptr 0 0 0, .I 0]) [(0, stoE (memb l))]) := by
  have hwb : wsS l := ⟨by omega, fun w h => by have := hw w h; omega⟩
  have hc := fok81 l (by omega) hwb.2
  have hs := fok56 l hwb
  have hp := fok82 (srt cmpW l) hwb.srtW.1 hwb.srtW.2
  have hg := fok83 (memb l) (by have := memb_len l; omega) (fun w h => by have := hw w ((memb_mem l w).1 h); omega)
  have hml := memb_len l
  have hsl : (strsV (sigF (memb l))).length = (sigF (memb l)).length := by simp [strsV]
  rw [show cpct (srt cmpW l) = memb l from rfl] at hp
  generalize memb l = M at *
  generalize srt cmpW l = R at *
  refine ⟨fun hb => ?_, fun hb => ?_⟩
  case' refine_1 => refine FOk.val k48 (by simp) (by simp) (by decide) ?_
  case' refine_2 => refine FOk.of k48 0 (by simp) (by decide) (by simp) (by simp) (by simp [find]) (by decide) ?_
  all_goals
    simp only [wordsV] at hc hg
    simp [c48, wordsV]
    refine CallG.plain rfl rfl rfl rfl hc (by simp) (by simp) ?_
    simp
    refine CallG.rows [9221] rfl rfl rfl rfl (by simp) (by simp [find]) hs (by simp) (by simp) ?_
    simp
    refine CallG.rows [9221] rfl rfl rfl rfl (by simp) (by simp [find]) hp (by simp) (by simp) ?_
    have hM : ¬ 300 < M.length := by omega
    simp [hM]
    refine CallG.rows [] rfl rfl rfl rfl (by simp) (by simp) hg (by simp) (by simp) ?_
    simp [hsl, hb]
  · exact Ends.new 42005 rfl rfl rfl (by simp [passH, find, stoE, wordsV]) (by simp [stoE])
  · exact Ends.v rfl (by simp)

/-- What is wrong with a store's words. -/
def vSto (l : List (List Bs)) : Int := if 300 < l.length then 3 else if vWords l = 0 then (if 40 < (sigF (memb l)).length then 3 else 0) else vWords l
theorem fokN17 (l : List (List Bs)) (hl : l.length ≤ 200000000000000) (hw : ∀ w ∈ l, wordS w) : (vSto l ≠ 0 → FOk Tryz.prog 17 [.v (wordsV l)] [] (.tup [.v (.w (.pointer none)), .I (vSto l)]) []) ∧
    (vSto l = 0 → FOk Tryz.prog 17 [.v (wordsV l)] [] (.tup [.ptr 0 0 0, .I 0]) [(0, stoE (memb l))]) := by
  by_cases h3 : 300 < l.length
  · have hv : vSto l = 3 := by unfold vSto; rw [if_pos h3]
    refine ⟨fun _ => ?_, fun h => absurd (hv.symm.trans h) (by decide)⟩
    rw [hv]
    refine FOk.val k17 (by simp) (by simp) (by decide) ?_
    simp [c17, wordsV, h3]
    exact Ends.v rfl (by simp)
  by_cases hv : vWords l = 0
  · have hw60 : ∀ w ∈ l, w.length ≤ 60 := fun w h => vWord_ok (vWords_ok hv w h)
    have hm := fokM48 l (by omega) hw60
    have hvs : vSto l = if 40 < (sigF (memb l)).length then 3 else 0 := by unfold vSto; rw [if_neg h3, if_pos hv]
    by_cases h4 : 40 < (sigF (memb l)).length
    · rw [if_pos h4] at hvs
      have hm := hm.1 h4
      refine ⟨fun _ => ?_, fun h => absurd (hvs.symm.trans h) (by decide)⟩
      rw [hvs]
      refine FOk.val k17 (by simp) (by simp) (by decide) ?_
      simp [c17, wordsV, h3]
      refine Run.loopA (ι := Nat) [] (fun i => i ≤ l.length ∧ vWords (l.drop i) = vWords l) (fun i => ⟨[(0, .v (.sl 1 (l.map PV.word))), (10, .v (.sl 1 (l.map PV.word))), (11, .I l.length), (12, .I i)], [], 1024⟩) (fun i => l.length - i) 0 (by decide) (by simp) ⟨by omega, by simp⟩ ?_
      rintro i ⟨hi, hall⟩ ih
      by_cases h : i < l.length
      · rw [drop_at h] at hall
        simp only [vWords] at hall
        have hs := hw _ (List.getElem_mem h)
        have cw := fok32 l[i] hs.1 hs.2
        have hg : (l.map PV.word)[i]? = some (PV.word l[i]) := by simp [List.getElem?_eq_getElem h]
        generalize l[i] = w at hall hs cw hg
        simp only [PV.word] at hg cw
        by_cases h0 : vWord w = 0
        · rw [if_pos h0] at hall
          simp (disch := omega) [h, hg, wrap_i64]
          refine CallG.lent rfl rfl rfl rfl cw rfl ?_
          simp (disch := omega) [h0, wrap_i64]
          exact ih (i + 1) _ ⟨by omega, hall⟩ (by omega) (by simp)
        · rw [if_neg h0] at hall
          omega
      · simp only [wordsV] at hm
        simp (disch := omega) [h, wrap_i64]
        refine CallG.plain rfl rfl rfl rfl hm (by simp) (by simp) ?_
        simp
        exact Ends.v rfl (by simp)
    · rw [if_neg h4] at hvs
      have hm := hm.2 h4
      refine ⟨fun h => absurd hvs h, fun _ => ?_⟩
      refine FOk.of k17 0 (by simp) (by decide) (by simp) (by simp) (by simp [find]) (by decide) ?_
      simp [c17, wordsV, h3]
      refine Run.loopA (ι := Nat) [] (fun i => i ≤ l.length ∧ vWords (l.drop i) = vWords l) (fun i => ⟨[(0, .v (.sl 1 (l.map PV.word))), (10, .v (.sl 1 (l.map PV.word))), (11, .I l.length), (12, .I i)], [], 1024⟩) (fun i => l.length - i) 0 (by decide) (by simp) ⟨by omega, by simp⟩ ?_
      rintro i ⟨hi, hall⟩ ih
      by_cases h : i < l.length
      · rw [drop_at h] at hall
        simp only [vWords] at hall
        have hs := hw _ (List.getElem_mem h)
        have cw := fok32 l[i] hs.1 hs.2
        have hg : (l.map PV.word)[i]? = some (PV.word l[i]) := by simp [List.getElem?_eq_getElem h]
        generalize l[i] = w at hall hs cw hg
        simp only [PV.word] at hg cw
        by_cases h0 : vWord w = 0
        · rw [if_pos h0] at hall
          simp (disch := omega) [h, hg, wrap_i64]
          refine CallG.lent rfl rfl rfl rfl cw rfl ?_
          simp (disch := omega) [h0, wrap_i64]
          exact ih (i + 1) _ ⟨by omega, hall⟩ (by omega) (by simp)
        · rw [if_neg h0] at hall
          omega
      · simp only [wordsV] at hm
        simp (disch := omega) [h, wrap_i64]
        refine CallG.plain rfl rfl rfl rfl hm (by simp [stoE]) (by simp) ?_
        simp
        exact Ends.new 9239 rfl rfl rfl (by simp [passH, find]) (by simp [stoE])
  · have hvs : vSto l = vWords l := by unfold vSto; rw [if_neg h3, if_neg hv]
    refine ⟨fun _ => ?_, fun h => absurd (hvs.symm.trans h) hv⟩
    rw [hvs]
    refine FOk.val k17 (by simp) (by simp) (by decide) ?_
    simp [c17, wordsV, h3]
    refine Run.loopA (ι := Nat) [] (fun i => i ≤ l.length ∧ vWords (l.drop i) = vWords l) (fun i => ⟨[(0, .v (.sl 1 (l.map PV.word))), (10, .v (.sl 1 (l.map PV.word))), (11, .I l.length), (12, .I i)], [], 1024⟩) (fun i => l.length - i) 0 (by decide) (by simp) ⟨by omega, by simp⟩ ?_
    rintro i ⟨hi, hall⟩ ih
    by_cases h : i < l.length
    · rw [drop_at h] at hall
      simp only [vWords] at hall
      have hs := hw _ (List.getElem_mem h)
      have cw := fok32 l[i] hs.1 hs.2
      have hg : (l.map PV.word)[i]? = some (PV.word l[i]) := by simp [List.getElem?_eq_getElem h]
      generalize l[i] = w at hall hs cw hg
      simp only [PV.word] at hg cw
      by_cases h0 : vWord w = 0
      · rw [if_pos h0] at hall
        simp (disch := omega) [h, hg, wrap_i64]
        refine CallG.lent rfl rfl rfl rfl cw rfl ?_
        simp (disch := omega) [h0, wrap_i64]
        exact ih (i + 1) _ ⟨by omega, hall⟩ (by omega) (by simp)
      · rw [if_neg h0] at hall
        simp (disch := omega) [h, hg, wrap_i64]
        refine CallG.lent rfl rfl rfl rfl cw rfl ?_
        simp (disch := omega) [h0, wrap_i64]
        exact Ends.v rfl (by rw [← hall]; simp)
    · rw [drop_no h] at hall
      exact absurd hall.symm hv

end Go.Proofs
