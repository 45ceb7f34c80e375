/- The walk. -/
import Derived.Test.YtlncfkgodioocaaSo2
import Derived.Test.YtlncfkgodioocaaAM30
import Derived.Test.YtlncfkgodioocaaSC
import Derived.Test.YtlncfkgodioocaaProg
import Derived.KernelRfl
set_option linter.all false
set_option maxHeartbeats 2000000
namespace Go.Proofs
open Go Go.AM
attribute [local irreducible] Run Ends
/-- ablaut/syms.Sorted -/
def c33 : MC :=
  .seq (.reg false [.op .none 2 (.nilS 1),
    .op .none 3 (.mv (.c (.w (.int .i64 0))))]) <|
  .seq (.seq (.reg false [.op .none 9 (.mv (.t 0)),
    .op .none 10 (.len false (.t 9)),
    .op .none 11 (.bin .gtr (.t 10) (.c (.w (.int .i64 200))))]) <|
  .cond (.t 11)
    (.seq (.reg false [.op .none 2 (.nilS 1),
      .op .none 3 (.mv (.c (.w (.int .i64 3))))]) <|
    .ret)
    (.skip)) <|
  .seq (.seq (.reg false [.op .none 12 (.mv (.t 0)),
    .op .none 13 (.len false (.t 12)),
    .op .none 14 (.mv (.c (.w (.int .i64 0))))]) <|
  .block 0 <|
    .loop <|
      .seq (.reg false [.op .none 15 (.bin .lss (.t 14) (.t 13))]) <|
      .seq (.cond (.t 15)
        (.skip)
        (.exit 0)) <|
      .seq (.block 1 <|
        .seq (.reg false [.op .none 16 (.ia 1 (.t 12) (.t 14)),
          .op .none 17 (.ld false 1 (.t 16)),
          .op .none 5 (.mv (.t 17))]) <|
        .seq (.reg false [.op .none 18 (.mv (.t 5)),
          .call .none 19 (.f 17) [(.t 18)],
          .op .none 6 (.mv (.t 19))]) <|
        .seq (.reg false [.op .none 20 (.mv (.t 6)),
          .op .none 21 (.bin .neq (.t 20) (.c (.w (.int .i64 0))))]) <|
        .cond (.t 21)
          (.seq (.reg false [.op .none 22 (.mv (.t 6)),
            .op .none 2 (.nilS 1),
            .op .none 3 (.mv (.t 22))]) <|
          .ret)
          (.skip)) <|
      .reg false [.op .none 23 (.bin .add (.t 14) (.c (.w (.int .i64 1)))),
        .op .none 14 (.mv (.t 23))]) <|
  .seq (.reg false [.op .none 24 (.mv (.t 0)),
    .call .none 25 (.f 64) [(.t 24), (.f 65)],
    .op .none 7 (.mv (.t 25))]) <|
  .seq (.seq (.reg false [.op .none 26 (.mv (.t 7)),
    .op .none 27 (.len false (.t 26)),
    .op .none 28 (.mv (.c (.w (.int .i64 0))))]) <|
  .block 2 <|
    .loop <|
      .seq (.reg false [.op .none 29 (.bin .lss (.t 28) (.t 27))]) <|
      .seq (.cond (.t 29)
        (.skip)
        (.exit 2)) <|
      .seq (.block 3 <|
        .seq (.reg false [.op .none 30 (.mv (.t 28)),
          .op .none 8 (.mv (.t 30))]) <|
        .reg false [.op .none 31 (.mv (.t 7)),
          .op .none 32 (.mv (.t 8)),
          .op .none 33 (.mv (.t 7)),
          .op .none 34 (.mv (.t 8)),
          .op .none 35 (.ia 1 (.t 33) (.t 34)),
          .op .none 36 (.ld false 1 (.t 35)),
          .call .none 37 (.f 66) [(.t 36)],
          .op .none 38 (.ia 1 (.t 31) (.t 32)),
          .store .none false 1 (.t 38) (.t 37)]) <|
      .reg false [.op .none 39 (.bin .add (.t 28) (.c (.w (.int .i64 1)))),
        .op .none 28 (.mv (.t 39))]) <|
  .seq (.reg false [.op .none 40 (.mv (.t 7)),
    .call .none 41 (.f 67) [(.t 40), (.f 22)]]) <|
  .seq (.reg false [.op .none 42 (.mv (.t 7)),
    .call .none 43 (.f 68) [(.t 42), (.f 69)],
    .op .none 2 (.mv (.t 43)),
    .op .none 3 (.mv (.c (.w (.int .i64 0))))]) <|
  .ret
theorem k33 : FnCode Try.prog 33 [] 44 [2, 3] c33 := ⟨Try.f33, Try.func33, fun xs W => Try.call33 xs W, by kernel_rfl, by kernel_rfl, by kernel_rfl⟩

/-- ablaut/ablautref01.Words -/
def c70 : MC :=
  .seq (.reg false [.op .none 2 (.mv (.c (.w (.int .i64 0))))]) <|
  .seq (.seq (.reg false [.op .none 3 (.mv (.c (.w (.int .i64 0))))]) <|
  .block 0 <|
    .loop <|
      .seq (.seq (.reg false [.op .none 5 (.mv (.t 3)),
        .op .none 6 (.mv (.t 0)),
        .op .none 7 (.len false (.t 6)),
        .op .none 8 (.bin .lss (.t 5) (.t 7))]) <|
      .cond (.t 8)
        (.skip)
        (.exit 0)) <|
      .seq (.block 1 <|
        .seq (.reg false [.op .none 11 (.mv (.t 0)),
          .op .none 12 (.mv (.t 3)),
          .op .none 13 (.ia 1 (.t 11) (.t 12)),
          .op .none 14 (.ld false 1 (.t 13)),
          .call .none 15 (.f 18) [(.t 14)],
          .op .none 4 (.mv (.t 15))]) <|
        .seq (.reg false [.op .none 16 (.mv (.t 4)),
          .op .none 17 (.bin .neq (.t 16) (.c (.w (.int .i64 0))))]) <|
        .cond (.t 17)
          (.seq (.reg false [.op .none 18 (.mv (.t 4)),
            .op .none 2 (.mv (.t 18))]) <|
          .ret)
          (.skip)) <|
      .reg false [.op .none 9 (.mv (.t 3)),
        .op .none 10 (.bin .add (.t 9) (.c (.w (.int .i64 1)))),
        .op .none 3 (.mv (.t 10))]) <|
  .seq (.reg false [.op .none 2 (.mv (.c (.w (.int .i64 0))))]) <|
  .ret
theorem k70 : FnCode Try.prog 70 [] 19 [2] c70 := ⟨Try.f70, Try.func70, fun xs W => Try.call70 xs W, by kernel_rfl, by kernel_rfl, by kernel_rfl⟩

/-- ablaut/ablautref01.Into -/
def c93 : MC :=
  .seq (.reg false [.op .none 4 (.nilS 1)]) <|
  .seq (.reg false [.op .none 9 (.mv (.t 0)),
    .op .none 10 (.len false (.t 9)),
    .op .none 5 (.mv (.c (.w (.int .i64 0)))),
    .op .none 6 (.mv (.t 10))]) <|
  .seq (.block 0 <|
    .loop <|
      .seq (.seq (.reg false [.op .none 11 (.mv (.t 5)),
        .op .none 12 (.mv (.t 6)),
        .op .none 13 (.bin .lss (.t 11) (.t 12))]) <|
      .cond (.t 13)
        (.skip)
        (.exit 0)) <|
      .block 1 <|
        .seq (.reg false [.op .none 14 (.mv (.t 5)),
          .op .none 15 (.mv (.t 6)),
          .op .none 16 (.bin .add (.t 14) (.t 15)),
          .op .none 17 (.bin .quo (.t 16) (.c (.w (.int .i64 2)))),
          .op .none 7 (.mv (.t 17))]) <|
        .seq (.reg false [.op .none 18 (.mv (.t 0)),
          .op .none 19 (.mv (.t 7)),
          .op .none 20 (.ia 1 (.t 18) (.t 19)),
          .op .none 21 (.ld false 1 (.t 20)),
          .op .none 22 (.mv (.t 1)),
          .call .none 23 (.f 23) [(.t 21), (.t 22)]]) <|
        .block 2 <|
          .seq (.reg false [.op .none 26 (.bin .eql (.t 23) (.c (.w (.int .i64 0)))),
            .op .none 25 (.mv (.t 26))]) <|
          .cond (.t 25)
            (.seq (.reg false [.op .none 27 (.mv (.t 0)),
              .op .none 4 (.mv (.t 27))]) <|
            .ret)
            (.seq (.reg false [.op .none 29 (.bin .eql (.t 23) (.c (.w (.int .i64 (-1))))),
              .op .none 28 (.mv (.t 29))]) <|
            .cond (.t 28)
              (.reg false [.op .none 30 (.mv (.t 7)),
                .op .none 31 (.bin .add (.t 30) (.c (.w (.int .i64 1)))),
                .op .none 5 (.mv (.t 31))])
              (.reg false [.op .none 24 (.mv (.t 7)),
                .op .none 6 (.mv (.t 24))]))) <|
  .seq (.reg false [.op .none 32 (.buildS false 1 0 false [(.sl 1 [])] []),
    .op .none 33 (.mv (.t 0)),
    .op .none 34 (.mv (.t 5)),
    .op .none 35 (.slc false 1 (.t 33) .none (.some (.t 34))),
    .op .none 36 (.app 1 24 (.t 32) (.t 35)),
    .op .none 8 (.mv (.t 36))]) <|
  .seq (.reg false [.op .none 37 (.mv (.t 8)),
    .op .none 38 (.mv (.t 1)),
    .op .none 39 (.buildS false 1 1 false [(.sl 1 [])] [(0, (.t 38))]),
    .op .none 40 (.app 1 24 (.t 37) (.t 39)),
    .op .none 8 (.mv (.t 40))]) <|
  .seq (.reg false [.op .none 41 (.mv (.t 8)),
    .op .none 42 (.mv (.t 0)),
    .op .none 43 (.mv (.t 5)),
    .op .none 44 (.slc false 1 (.t 42) (.some (.t 43)) .none),
    .op .none 45 (.app 1 24 (.t 41) (.t 44)),
    .op .none 4 (.mv (.t 45))]) <|
  .ret
theorem k93 : FnCode Try.prog 93 [] 46 [4] c93 := ⟨Try.f93, Try.func93, fun xs W => Try.call93 xs W, by kernel_rfl, by kernel_rfl, by kernel_rfl⟩

/-- ablaut/ablautref01.Shortlex -/
def c71 : MC :=
  .seq (.reg false [.op .none 2 (.nilS 1)]) <|
  .seq (.reg false [.op .none 3 (.nilS 1)]) <|
  .seq (.seq (.reg false [.op .none 4 (.mv (.c (.w (.int .i64 0))))]) <|
  .block 0 <|
    .loop <|
      .seq (.seq (.reg false [.op .none 5 (.mv (.t 4)),
        .op .none 6 (.mv (.t 0)),
        .op .none 7 (.len false (.t 6)),
        .op .none 8 (.bin .lss (.t 5) (.t 7))]) <|
      .cond (.t 8)
        (.skip)
        (.exit 0)) <|
      .seq (.block 1 <|
        .reg false [.op .none 11 (.mv (.t 3)),
          .op .none 12 (.mv (.t 0)),
          .op .none 13 (.mv (.t 4)),
          .op .none 14 (.ia 1 (.t 12) (.t 13)),
          .op .none 15 (.ld false 1 (.t 14)),
          .call .none 16 (.f 93) [(.t 11), (.t 15)],
          .op .none 3 (.mv (.t 16))]) <|
      .reg false [.op .none 9 (.mv (.t 4)),
        .op .none 10 (.bin .add (.t 9) (.c (.w (.int .i64 1)))),
        .op .none 4 (.mv (.t 10))]) <|
  .seq (.reg false [.op .none 17 (.mv (.t 3)),
    .op .none 2 (.mv (.t 17))]) <|
  .ret
theorem k71 : FnCode Try.prog 71 [] 18 [2] c71 := ⟨Try.f71, Try.func71, fun xs W => Try.call71 xs W, by kernel_rfl, by kernel_rfl, by kernel_rfl⟩

/-- ablaut/ablautref01.Sorted -/
def c34 : MC :=
  .seq (.reg false [.op .none 2 (.nilS 1),
    .op .none 3 (.mv (.c (.w (.int .i64 0))))]) <|
  .seq (.seq (.reg false [.op .none 5 (.mv (.t 0)),
    .op .none 6 (.len false (.t 5)),
    .op .none 7 (.bin .gtr (.t 6) (.c (.w (.int .i64 200))))]) <|
  .cond (.t 7)
    (.seq (.reg false [.op .none 2 (.nilS 1),
      .op .none 3 (.mv (.c (.w (.int .i64 3))))]) <|
    .ret)
    (.skip)) <|
  .seq (.seq (.reg false [.op .none 8 (.mv (.t 0)),
    .call .none 9 (.f 70) [(.t 8)],
    .op .none 4 (.mv (.t 9))]) <|
  .seq (.reg false [.op .none 10 (.mv (.t 4)),
    .op .none 11 (.bin .neq (.t 10) (.c (.w (.int .i64 0))))]) <|
  .cond (.t 11)
    (.seq (.reg false [.op .none 12 (.mv (.t 4)),
      .op .none 2 (.nilS 1),
      .op .none 3 (.mv (.t 12))]) <|
    .ret)
    (.skip)) <|
  .seq (.reg false [.op .none 13 (.mv (.t 0)),
    .call .none 14 (.f 71) [(.t 13)],
    .op .none 2 (.mv (.t 14)),
    .op .none 3 (.mv (.c (.w (.int .i64 0))))]) <|
  .ret
theorem k34 : FnCode Try.prog 34 [] 15 [2, 3] c34 := ⟨Try.f34, Try.func34, fun xs W => Try.call34 xs W, by kernel_rfl, by kernel_rfl, by kernel_rfl⟩

/-- ablaut/ablautref01.SameWords -/
def c35 : MC :=
  .seq (.reg false [.op .none 4 (.mv (.c (.w (.bool false))))]) <|
  .seq (.seq (.reg false [.op .none 6 (.mv (.t 0)),
    .op .none 7 (.len false (.t 6)),
    .op .none 8 (.mv (.t 1)),
    .op .none 9 (.len false (.t 8)),
    .op .none 10 (.bin .neq (.t 7) (.t 9))]) <|
  .cond (.t 10)
    (.seq (.reg false [.op .none 4 (.mv (.c (.w (.bool false))))]) <|
    .ret)
    (.skip)) <|
  .seq (.seq (.reg false [.op .none 5 (.mv (.c (.w (.int .i64 0))))]) <|
  .block 0 <|
    .loop <|
      .seq (.seq (.reg false [.op .none 11 (.mv (.t 5)),
        .op .none 12 (.mv (.t 0)),
        .op .none 13 (.len false (.t 12)),
        .op .none 14 (.bin .lss (.t 11) (.t 13))]) <|
      .cond (.t 14)
        (.skip)
        (.exit 0)) <|
      .seq (.block 1 <|
        .seq (.reg true [.op .none 17 (.mv (.t 0)),
          .op .none 18 (.mv (.t 5)),
          .op .none 19 (.ia 1 (.t 17) (.t 18)),
          .op .none 20 (.ld false 1 (.t 19)),
          .op .none 21 (.mv (.t 1)),
          .op .none 22 (.mv (.t 5)),
          .op .none 23 (.ia 1 (.t 21) (.t 22)),
          .op .none 24 (.ld false 1 (.t 23)),
          .call .none 25 (.f 21) [(.t 20), (.t 24)],
          .op .none 26 (.un .not (.t 25))]) <|
        .cond (.t 26)
          (.seq (.reg false [.op .none 4 (.mv (.c (.w (.bool false))))]) <|
          .ret)
          (.skip)) <|
      .reg false [.op .none 15 (.mv (.t 5)),
        .op .none 16 (.bin .add (.t 15) (.c (.w (.int .i64 1)))),
        .op .none 5 (.mv (.t 16))]) <|
  .seq (.reg false [.op .none 4 (.mv (.c (.w (.bool true))))]) <|
  .ret
theorem k35 : FnCode Try.prog 35 [] 27 [4] c35 := ⟨Try.f35, Try.func35, fun xs W => Try.call35 xs W, by kernel_rfl, by kernel_rfl, by kernel_rfl⟩

def decB : PV → Bs | .w (.string b) => b.data.toList | _ => []
def decW : PV → List Bs | .sl _ l => l.map decB | _ => []
theorem decW_word (w : List Bs) : decW (PV.word w) = w := by
  simp only [PV.word, decW, List.map_map]
  conv => rhs; rw [← List.map_id w]
  apply List.map_congr_left
  intro s _
  simp [decB]
def wsS (l : List (List Bs)) : Prop := l.length ≤ 1000000000 ∧ ∀ w ∈ l, w.length ≤ 1000000000
theorem wsS.srt {l : List (List Bs)} (h : wsS l) : wsS (srt cmpL l) := ⟨by rw [srt_len]; exact h.1, fun w hw => h.2 w ((srt_mem l w).1 hw)⟩
theorem fok67 (l : List (List Bs)) (h : wsS l) : FOk Try.prog 67 [.h 0, .fn 22 []] [(0, ⟨false, 1, l.map PV.word⟩)] (.tup []) [(0, ⟨false, 1, (srt cmpL l).map PV.word⟩)] := by
  refine FOk.sort1 Try.laysF67 (caps := []) (fun p => ∃ w : List Bs, w.length ≤ 1000000000 ∧ p = PV.word w) (fun p q => cmpL (decW p) (decW q)) ?_ ?_ ?_ ?_ ?_ ?_ (by have := h.1; simp; omega)
  · intro p hp
    obtain ⟨w, hw, rfl⟩ := List.mem_map.1 hp
    exact ⟨⟨w, h.2 w hw, rfl⟩, rfl⟩
  · rintro _ _ ⟨w, hw, rfl⟩ ⟨v, hv, rfl⟩
    rw [decW_word, decW_word]
    exact fok22 w v (by omega) (by omega)
  · intro p _; exact linL.irr _
  · intro p q r _ _ _ h1 h2; exact linL.tr h1 h2
  · intro p q r _ _ _ h1 h2; exact linL.le_tr h2 h1
  · intro m hm hs
    exact srt_pv linL decW_word hm hs

/-- What is wrong with the first word that is wrong. -/
def vWords : List (List Bs) → Int
  | [] => 0
  | w :: l => if vWord w = 0 then vWords l else vWord w
theorem vWords_ok : ∀ {l : List (List Bs)}, vWords l = 0 → ∀ w ∈ l, w.length ≤ 60
  | [], _, w, hw => by cases hw
  | v :: l, h, w, hw => by
    simp only [vWords] at h
    split at h
    · rename_i h1
      rcases List.mem_cons.1 hw with rfl | hw
      · exact vWord_ok h1
      · exact vWords_ok h w hw
    · rename_i h1; exact absurd h h1
def sortF (l : List (List Bs)) : List (List Bs) × Int := if 200 < l.length then ([], 3) else if vWords l = 0 then (cpct (srt cmpL l), 0) else ([], vWords l)
def wsB (l : List (List Bs)) : Prop := l.length ≤ 1000000000 ∧ ∀ w ∈ l, wordS w

theorem fok70 (l : List (List Bs)) (hl : wsB l) : FOk Try.prog 70 [.v (.words l)] [] (.I (vWords l)) [] := by
  have hl1 := hl.1
  refine FOk.val k70 (by simp) (by simp) (by decide) ?_
  simp [c70, PV.words]
  refine Run.loopA (ι := Nat) [] (fun i => i ≤ l.length ∧ vWords (l.drop i) = vWords l) (fun i => ⟨[(0, .v (.words l)), (3, .I i)], [], 1024⟩) (fun i => l.length - i) 0 (by decide) (by simp [PV.words]) ⟨by omega, by simp⟩ ?_
  rintro i ⟨hi, hall⟩ ih
  by_cases h : i < l.length
  · rw [drop_at h] at hall
    simp only [vWords] at hall
    simp (disch := omega) [h, wrap_i64, PV.words]
    refine CallG.lent rfl rfl rfl rfl (fok18 l[i] (hl.2 _ (List.getElem_mem h))) rfl ?_
    by_cases hv : vWord l[i] = 0
    · rw [if_pos hv] at hall
      simp (disch := omega) [wrap_i64, hv]
      exact ih (i + 1) _ ⟨by omega, hall⟩ (by omega) (by simp [PV.words])
    · rw [if_neg hv] at hall
      simp (disch := omega) [wrap_i64, hv]
      exact Ends.v rfl (by simp [hall])
  · rw [drop_no h] at hall
    simp [h, PV.words]
    exact Ends.v rfl (by simp [← hall, vWords])

theorem fok33 (l : List (List Bs)) (hl : wsB l) : FOk Try.prog 33 [.v (.words l)] [] (.tup [.v (.words (sortF l).1), .I (sortF l).2]) [] := by
  have hl1 := hl.1
  refine FOk.val k33 (by simp) (by simp) (by decide) ?_
  by_cases h2 : 200 < l.length
  · simp [c33, PV.words, h2]
    exact Ends.v rfl (by simp [sortF, h2, PV.words])
  simp [c33, PV.words, h2]
  refine Run.loopA (ι := Nat) [] (fun i => i ≤ l.length ∧ vWords (l.drop i) = vWords l) (fun i => ⟨[(0, .v (.words l)), (12, .v (.words l)), (13, .I l.length), (14, .I i)], [], 1024⟩) (fun i => l.length - i) 0 (by decide) (by simp [PV.words]) ⟨by omega, by simp⟩ ?_
  rintro i ⟨hi, hall⟩ ih
  by_cases h : i < l.length
  · rw [drop_at h] at hall
    simp only [vWords] at hall
    have hw := hl.2 _ (List.getElem_mem h)
    simp (disch := omega) [h, wrap_i64, PV.words]
    refine CallG.lent rfl rfl rfl rfl (fok17 l[i] hw.1 hw.2) rfl ?_
    by_cases hv : vWord l[i] = 0
    · rw [if_pos hv] at hall
      simp (disch := omega) [wrap_i64, hv]
      exact ih (i + 1) _ ⟨by omega, hall⟩ (by omega) (by simp [PV.words])
    · rw [if_neg hv] at hall
      simp (disch := omega) [wrap_i64, hv]
      exact Ends.v rfl (by simp [sortF, h2, ← hall, hv, PV.words])
  rw [drop_no h] at hall
  have hv0 : vWords l = 0 := hall.symm
  clear hall ih
  have hws : wsS l := ⟨hl1, fun w hw => by have := vWords_ok hv0 w hw; omega⟩
  have hf : sortF l = (cpct (srt cmpL l), 0) := by simp [sortF, h2, hv0]
  rw [hf]
  simp [h, PV.words]
  refine CallG.plain rfl rfl rfl rfl (fok64 l (by omega)) (by simp) (by simp) ?_
  simp
  refine Run.loopA (ι := Nat) [(1, 7)] (fun i => i ≤ l.length) (fun i => ⟨[(7, .h 1), (27, .I l.length), (28, .I i)], [(1, ⟨false, 1, l.map PV.word⟩)], 1024⟩) (fun i => l.length - i) 0 (by decide) (by simp) (by simp) ?_
  rintro i hi ih
  by_cases h : i < l.length
  · simp (disch := omega) [h, wrap_i64]
    refine CallG.plain rfl rfl rfl rfl (fok66 l[i] (by have := vWords_ok hv0 _ (List.getElem_mem h); omega)) (by simp) (by simp) ?_
    simp (disch := omega) [h, wrap_i64]
    have hset : (l.map PV.word).set i (.sl 1 (l[i].map fun s => .w (.string (bs s)))) = l.map PV.word := by
      apply List.ext_getElem (by simp)
      intro j q1 q2
      rw [List.getElem_set]
      split
      · rename_i hj; subst hj; simp
      · rfl
    exact ih (i + 1) _ (by omega) (by omega) (by simp [hset])
  simp [h]
  refine CallG.rows [1] rfl rfl rfl rfl (by simp) (by simp) (fok67 l hws) (by simp) (by simp) ?_
  simp
  refine CallG.rows [1] rfl rfl rfl rfl (by simp) (by simp) (fok68 (srt cmpL l) hws.srt.1 hws.srt.2) (by simp) (by simp) ?_
  simp
  exact Ends.v rfl (by simp [PV.words])

theorem fok35 (l m : List (List Bs)) (hl : l.length ≤ 1000000000) (hw : ∀ w ∈ l, w.length ≤ 1000000000) (hm : ∀ w ∈ m, w.length ≤ 1000000000) : FOk Try.prog 35 [.v (.words l), .v (.words m)] [] (.B (decide (l = m))) [] := by
  refine FOk.val k35 (by simp) (by simp) (by decide) ?_
  by_cases h0 : l.length = m.length
  · simp [c35, PV.words, h0]
    refine Run.loopA (ι := Nat) [] (fun i => i ≤ l.length ∧ l.take i = m.take i) (fun i => ⟨[(0, .v (.words l)), (1, .v (.words m)), (5, .I i)], [], 1024⟩) (fun i => l.length - i) 0 (by decide) (by simp [PV.words]) (by simp) ?_
    rintro i ⟨hi, he⟩ ih
    by_cases h : i < l.length
    · have h' : i < m.length := by omega
      simp (disch := omega) [h, h', wrap_i64, PV.words]
      refine CallG.lent rfl rfl rfl rfl (fok21 l[i] m[i] (by have := hw _ (List.getElem_mem h); omega) (by have := hm _ (List.getElem_mem h'); omega)) rfl ?_
      by_cases hv : l[i] = m[i]
      · simp (disch := omega) [wrap_i64, hv]
        exact ih (i + 1) _ ⟨by omega, by rw [List.take_succ_eq_append_getElem h, List.take_succ_eq_append_getElem h', he, hv]⟩ (by omega) (by simp [PV.words])
      · have hne : l ≠ m := by rintro rfl; exact hv rfl
        simp (disch := omega) [wrap_i64, hv]
        exact Ends.v rfl (by simp [hne])
    · have e : l = m := by rw [List.take_of_length_le (by omega), List.take_of_length_le (by omega)] at he; exact he
      simp [h, PV.words]
      exact Ends.v rfl (by simp [e])
  · have hne : l ≠ m := by rintro rfl; exact h0 rfl
    have h0' : ¬ (l.length : Int) = (m.length : Int) := by omega
    simp [c35, PV.words, h0']
    exact Ends.v rfl (by simp [hne])

theorem fok93 (l : List (List Bs)) (w : List Bs) (hl : l.length ≤ 1000000000) (hs : ∀ v ∈ l, v.length ≤ 1000000000) (hw : w.length ≤ 1000000000) (ha : l.Pairwise (fun a b => cmpL a b < 0)) : FOk Try.prog 93 [.v (.words l), .v (.word w)] [] (.v (.words (into cmpL l w))) [] := by
  refine FOk.val k93 (by simp) (by simp) (by decide) ?_
  simp [c93, PV.words]
  refine Run.loopA (ι := Nat × Nat) [] (fun q => q.1 ≤ q.2 ∧ q.2 ≤ l.length ∧ (∀ x ∈ l.take q.1, cmpL x w < 0) ∧ (∀ x ∈ l.drop q.2, cmpL w x < 0)) (fun q => ⟨[(0, .v (.words l)), (1, .v (.word w)), (5, .I q.1), (6, .I q.2)], [], 1024⟩) (fun q => q.2 - q.1) (0, l.length) (by decide) (by simp [PV.words]) (by simp) ?_
  rintro ⟨lo, hi⟩ ⟨g1, g2, g3, g4⟩ ih
  simp only at g1 g2 g3 g4
  by_cases h : lo < hi
  · have hm : (lo + hi) / 2 < l.length := by omega
    obtain ⟨mm, hmm⟩ : ∃ mm, mm = (lo + hi) / 2 := ⟨_, rfl⟩
    rw [← hmm] at hm
    have hq0 : ((lo : Int) + (hi : Int)) / 2 = (mm : Int) := by omega
    have hq : IntKind.i64.wrap (((lo : Int) + (hi : Int)).tdiv 2) = (mm : Int) := by
      rw [Int.tdiv_eq_ediv_of_nonneg (by omega), hq0, wrap_i64] <;> omega
    simp (disch := omega) [h, wrap_i64, PV.words, hm, hq]
    refine CallG.lent rfl rfl rfl rfl (fok23 l[mm] w (by have := hs _ (List.getElem_mem hm); omega) (by omega)) rfl ?_
    have hlt : ∀ i (q : i < l.length), i < mm → cmpL l[i] l[mm] < 0 := fun i q hi => List.pairwise_iff_getElem.1 ha i mm q hm hi
    have hgt : ∀ i (q : i < l.length), mm < i → cmpL l[mm] l[i] < 0 := fun i q hi => List.pairwise_iff_getElem.1 ha mm i hm q hi
    rcases cmpL_range l[mm] w with hc | hc | hc
    · simp (disch := omega) [wrap_i64, hc]
      refine ih (mm + 1, hi) _ ⟨by omega, by omega, ?_, g4⟩ (by omega) (by simp [PV.words])
      intro x hx
      obtain ⟨i, hi1, rfl⟩ := List.mem_iff_getElem.1 hx
      simp only [List.length_take] at hi1
      rw [List.getElem_take]
      by_cases e : i = mm
      · subst e; omega
      · exact linL.tr (hlt i (by omega) (by omega)) (by omega)
    · have he := linL.zero hc
      simp (disch := omega) [wrap_i64, hc]
      exact Ends.v rfl (by simp [into_found (c := cmpL) (l := l) (w := w) (he ▸ List.getElem_mem hm)])
    · have hc' : cmpL w l[mm] < 0 := linL.pos.1 (by omega)
      simp (disch := omega) [wrap_i64, hc]
      refine ih (lo, mm) _ ⟨by omega, by omega, g3, ?_⟩ (by omega) (by simp [PV.words])
      intro x hx
      obtain ⟨i, hi1, rfl⟩ := List.mem_iff_getElem.1 hx
      simp only [List.length_drop] at hi1
      rw [List.getElem_drop]
      by_cases e : i = 0
      · subst e; exact hc'
      · exact linL.tr hc' (hgt (mm + i) (by omega) (by omega))
  · have e : lo = hi := by omega
    subst e
    have hr := into_at linL g3 g4
    rw [hr]
    have key : ∀ x : Nat, x ≤ 2000002000 → x * 24 ≤ 70368744177664 := fun x h => by clear g1 g2 g3 g4 ih hr; omega
    have b1 : (lo + 1000) * 24 ≤ 70368744177664 := key (lo + 1000) (by omega)
    have b2 : (lo + 1 + 1000) * 24 ≤ 70368744177664 := key (lo + 1 + 1000) (by clear b1; omega)
    have b3 : (lo + 1 + (l.length - lo) + 1000) * 24 ≤ 70368744177664 := key (lo + 1 + (l.length - lo) + 1000) (by clear b1 b2; omega)
    have b4 : min lo l.length = lo := by clear b1 b2 b3; omega
    simp [PV.words, g2, b1, b2, b3, b4]
    refine Ends.v rfl ?_
    simp
    rw [List.take_of_length_le (by simp)]

theorem foldl_take {α β : Type} (f : β → α → β) (b : β) (l : List α) {i : Nat} (h : i < l.length) : (l.take (i + 1)).foldl f b = f ((l.take i).foldl f b) l[i] := by
  rw [List.take_succ_eq_append_getElem h, List.foldl_append]; rfl
theorem fok71 (l : List (List Bs)) (hl : wsS l) : FOk Try.prog 71 [.v (.words l)] [] (.v (.words (l.foldl (into cmpL) []))) [] := by
  have hl1 := hl.1
  refine FOk.val k71 (by simp) (by simp) (by decide) ?_
  simp [c71, PV.words]
  refine Run.loopA (ι := Nat) [] (fun i => i ≤ l.length) (fun i => ⟨[(0, .v (.words l)), (3, .v (.words ((l.take i).foldl (into cmpL) []))), (4, .I i)], [], 1024⟩) (fun i => l.length - i) 0 (by decide) (by simp [PV.words]) (by simp) ?_
  rintro i hi ih
  by_cases h : i < l.length
  · have hlen := intos_len (c := cmpL) (l.take i) []
    simp only [List.length_nil, List.length_take] at hlen
    have hmem : ∀ v ∈ (l.take i).foldl (into cmpL) [], v.length ≤ 1000000000 := fun v hv => by
      rw [intos_mem] at hv
      rcases hv with hv | hv
      · exact hl.2 v (List.mem_of_mem_take hv)
      · cases hv
    have hpw := intos_pw (c := cmpL) linL (w := l.take i) (l := []) .nil
    have hf := foldl_take (into cmpL) [] l h
    simp (disch := omega) [h, wrap_i64, PV.words]
    refine CallG.plain rfl rfl rfl rfl (fok93 ((l.take i).foldl (into cmpL) []) l[i] (by omega) hmem (hl.2 _ (List.getElem_mem h)) hpw) (by simp) (by simp) ?_
    simp (disch := omega) [wrap_i64]
    exact ih (i + 1) _ (by omega) (by omega) (by simp [PV.words, hf])
  · have : i = l.length := by omega
    subst this
    simp [h, PV.words]
    exact Ends.v rfl (by simp [PV.words])
theorem fok34 (l : List (List Bs)) (hl : wsB l) : FOk Try.prog 34 [.v (.words l)] [] (.tup [.v (.words (sortF l).1), .I (sortF l).2]) [] := by
  have hl1 := hl.1
  refine FOk.val k34 (by simp) (by simp) (by decide) ?_
  by_cases h2 : 200 < l.length
  · simp [c34, PV.words, h2]
    exact Ends.v rfl (by simp [sortF, h2, PV.words])
  simp [c34, PV.words, h2]
  refine CallG.lent rfl rfl rfl rfl (fok70 l hl) rfl ?_
  by_cases hv : vWords l = 0
  · have hws : wsS l := ⟨hl1, fun w hw => by have := vWords_ok hv w hw; omega⟩
    have hf : sortF l = (l.foldl (into cmpL) [], 0) := by simp [sortF, h2, hv, cpct_srt linL]
    rw [hf]
    simp [hv]
    refine CallG.plain rfl rfl rfl rfl (fok71 l hws) (by simp) (by simp) ?_
    simp
    exact Ends.v rfl (by simp [PV.words])
  · simp [hv]
    exact Ends.v rfl (by simp [sortF, h2, hv, PV.words])

end Go.Proofs
