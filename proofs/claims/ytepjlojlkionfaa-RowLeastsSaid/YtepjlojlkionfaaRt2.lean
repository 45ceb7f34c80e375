/- The walk. -/
import Derived.Test.YtepjlojlkionfaaRt1
import Derived.Test.YtepjlojlkionfaaProg
import Derived.KernelRfl
set_option linter.all false
set_option maxHeartbeats 2000000
namespace Go.Proofs
open Go Go.AM
attribute [local irreducible] Run Ends
/-- ablaut/ablautref01.Order -/
def c41 : MC :=
  .seq (.reg false [.op .none 4 (.mv (.c (.w (.int .i64 0))))]) <|
  .seq (.seq (.reg false [.op .none 5 (.mv (.c (.w (.int .i64 0))))]) <|
  .block 0 <|
    .loop <|
      .seq (.seq (.reg false [.op .none 6 (.mv (.t 5)),
        .op .none 7 (.mv (.t 0)),
        .op .none 8 (.len false (.t 7)),
        .op .none 9 (.bin .lss (.t 6) (.t 8)),
        .op .none 10 (.mv (.t 9)),
        .op (.some (10, true)) 11 (.mv (.t 5)),
        .op (.some (10, true)) 12 (.mv (.t 1)),
        .op (.some (10, true)) 13 (.len false (.t 12)),
        .op (.some (10, true)) 14 (.bin .lss (.t 11) (.t 13)),
        .op .none 15 (.pick (.t 10) (.t 14) (.c (.w (.bool false))))]) <|
      .cond (.t 15)
        (.skip)
        (.exit 0)) <|
      .seq (.block 1 <|
        .seq (.seq (.reg true [.op .none 18 (.mv (.t 0)),
          .op .none 19 (.mv (.t 5)),
          .op .none 20 (.ia 1 (.t 18) (.t 19)),
          .op .none 21 (.ld false 1 (.t 20)),
          .op .none 22 (.mv (.t 1)),
          .op .none 23 (.mv (.t 5)),
          .op .none 24 (.ia 1 (.t 22) (.t 23)),
          .op .none 25 (.ld false 1 (.t 24)),
          .op .none 26 (.bin .lss (.t 21) (.t 25))]) <|
        .cond (.t 26)
          (.seq (.reg false [.op .none 4 (.mv (.c (.w (.int .i64 (-1)))))]) <|
          .ret)
          (.skip)) <|
        .seq (.reg true [.op .none 27 (.mv (.t 0)),
          .op .none 28 (.mv (.t 5)),
          .op .none 29 (.ia 1 (.t 27) (.t 28)),
          .op .none 30 (.ld false 1 (.t 29)),
          .op .none 31 (.mv (.t 1)),
          .op .none 32 (.mv (.t 5)),
          .op .none 33 (.ia 1 (.t 31) (.t 32)),
          .op .none 34 (.ld false 1 (.t 33)),
          .op .none 35 (.bin .gtr (.t 30) (.t 34))]) <|
        .cond (.t 35)
          (.seq (.reg false [.op .none 4 (.mv (.c (.w (.int .i64 1))))]) <|
          .ret)
          (.skip)) <|
      .reg false [.op .none 16 (.mv (.t 5)),
        .op .none 17 (.bin .add (.t 16) (.c (.w (.int .i64 1)))),
        .op .none 5 (.mv (.t 17))]) <|
  .seq (.block 2 <|
    .seq (.reg false [.op .none 37 (.mv (.t 0)),
      .op .none 38 (.len false (.t 37)),
      .op .none 39 (.mv (.t 1)),
      .op .none 40 (.len false (.t 39)),
      .op .none 41 (.bin .lss (.t 38) (.t 40)),
      .op .none 36 (.mv (.t 41))]) <|
    .cond (.t 36)
      (.seq (.reg false [.op .none 4 (.mv (.c (.w (.int .i64 (-1)))))]) <|
      .ret)
      (.seq (.reg false [.op .none 43 (.mv (.t 0)),
        .op .none 44 (.len false (.t 43)),
        .op .none 45 (.mv (.t 1)),
        .op .none 46 (.len false (.t 45)),
        .op .none 47 (.bin .gtr (.t 44) (.t 46)),
        .op .none 42 (.mv (.t 47))]) <|
      .cond (.t 42)
        (.seq (.reg false [.op .none 4 (.mv (.c (.w (.int .i64 1))))]) <|
        .ret)
        (.skip))) <|
  .seq (.reg false [.op .none 4 (.mv (.c (.w (.int .i64 0))))]) <|
  .ret
theorem k41 : FnCode Try.prog 41 [] 48 [4] c41 := ⟨Try.f41, Try.func41, fun xs W => Try.call41 xs W, by kernel_rfl, by kernel_rfl, by kernel_rfl⟩

/-- ablaut/ablautref01.Same -/
def c17 : MC :=
  .seq (.reg false [.op .none 4 (.mv (.c (.w (.bool false))))]) <|
  .seq (.reg false [.op .none 5 (.mv (.t 0)),
    .op .none 6 (.mv (.t 1)),
    .call .none 7 (.f 41) [(.t 5), (.t 6)],
    .op .none 8 (.bin .eql (.t 7) (.c (.w (.int .i64 0)))),
    .op .none 4 (.mv (.t 8))]) <|
  .ret
theorem k17 : FnCode Try.prog 17 [] 9 [4] c17 := ⟨Try.f17, Try.func17, fun xs W => Try.call17 xs W, by kernel_rfl, by kernel_rfl, by kernel_rfl⟩

/-- ablaut/ablautlaw19.RowBests -/
def c3 : MC :=
  .seq (.reg false [.op .none 2 (.box false (.t 0)),
    .op .none 4 (.mv (.c (.w (.bool false))))]) <|
  .seq (.seq (.reg false [.op .none 13 (.ld true 6 (.t 2)),
    .call .none 14 (.f 12) [(.t 13)],
    .op .none 15 (.mv (.t 14)),
    .op (.some (15, false)) 16 (.mv (.t 1)),
    .call (.some (15, false)) 17 (.f 13) [(.t 16)],
    .op (.some (15, false)) 18 (.bin .gtr (.t 17) (.c (.w (.int .i64 200000)))),
    .op .none 19 (.pick (.t 15) (.c (.w (.bool true))) (.t 18))]) <|
  .cond (.t 19)
    (.seq (.reg false [.call .none 20 (.f 14) [],
      .op .none 4 (.mv (.t 20))]) <|
    .ret)
    (.skip)) <|
  .seq (.reg false [.op .none 22 (.ld true 6 (.t 2)),
    .op .none 23 (.mv (.t 1)),
    .call .none 24 (.f 15) [(.t 22), (.t 23)],
    .op .none 21 (.mv (.t 24)),
    .op .none 25 (.ext (.t 21) 0),
    .op .none 26 (.ext (.t 21) 1),
    .op .none 27 (.ext (.t 21) 2),
    .op .none 28 (.ext (.t 21) 3),
    .op .none 5 (.mv (.t 25)),
    .op .none 6 (.mv (.t 26)),
    .op .none 7 (.mv (.t 27)),
    .op .none 8 (.mv (.t 28))]) <|
  .seq (.reg false [.op .none 30 (.ld true 6 (.t 2)),
    .op .none 31 (.mv (.t 1)),
    .call .none 32 (.f 16) [(.t 30), (.t 31)],
    .op .none 29 (.mv (.t 32)),
    .op .none 33 (.ext (.t 29) 0),
    .op .none 34 (.ext (.t 29) 1),
    .op .none 35 (.ext (.t 29) 2),
    .op .none 36 (.ext (.t 29) 3),
    .op .none 9 (.mv (.t 33)),
    .op .none 10 (.mv (.t 34)),
    .op .none 11 (.mv (.t 35)),
    .op .none 12 (.mv (.t 36))]) <|
  .seq (.reg false [.op .none 37 (.mv (.t 5)),
    .op .none 38 (.mv (.t 9)),
    .call .none 39 (.f 17) [(.t 37), (.t 38)],
    .op .none 40 (.mv (.t 39)),
    .op (.some (40, true)) 41 (.mv (.t 6)),
    .op (.some (40, true)) 42 (.mv (.t 10)),
    .op (.some (40, true)) 43 (.bin .eql (.t 41) (.t 42)),
    .op .none 44 (.pick (.t 40) (.t 43) (.c (.w (.bool false)))),
    .op .none 45 (.mv (.t 44)),
    .op (.some (45, true)) 46 (.mv (.t 7)),
    .op (.some (45, true)) 47 (.mv (.t 11)),
    .op (.some (45, true)) 48 (.eqb false (.t 46) (.t 47)),
    .op .none 49 (.pick (.t 45) (.t 48) (.c (.w (.bool false)))),
    .op .none 50 (.mv (.t 49)),
    .op (.some (50, true)) 51 (.mv (.t 8)),
    .op (.some (50, true)) 52 (.mv (.t 12)),
    .op (.some (50, true)) 53 (.bin .eql (.t 51) (.t 52)),
    .op .none 54 (.pick (.t 50) (.t 53) (.c (.w (.bool false)))),
    .op .none 55 (.mv (.t 54)),
    .call (.some (55, true)) 56 (.f 14) [],
    .op .none 57 (.pick (.t 55) (.t 56) (.c (.w (.bool false)))),
    .op .none 4 (.mv (.t 57))]) <|
  .ret
theorem k3 : FnCode Try.prog 3 [] 58 [4] c3 := ⟨Try.f3, Try.func3, fun xs W => Try.call3 xs W, by kernel_rfl, by kernel_rfl, by kernel_rfl⟩

/-- ablaut/ablautlaw19.RowSeverals -/
def c4 : MC :=
  .seq (.reg false [.op .none 3 (.box false (.t 0)),
    .op .none 6 (.mv (.c (.w (.bool false))))]) <|
  .seq (.seq (.reg false [.op .none 14 (.ld true 6 (.t 3)),
    .call .none 15 (.f 12) [(.t 14)],
    .op .none 16 (.mv (.t 15)),
    .op (.some (16, false)) 17 (.mv (.t 1)),
    .call (.some (16, false)) 18 (.f 13) [(.t 17)],
    .op (.some (16, false)) 19 (.bin .gtr (.t 18) (.c (.w (.int .i64 200000)))),
    .op .none 20 (.pick (.t 16) (.c (.w (.bool true))) (.t 19))]) <|
  .cond (.t 20)
    (.seq (.reg false [.call .none 21 (.f 14) [],
      .op .none 6 (.mv (.t 21))]) <|
    .ret)
    (.skip)) <|
  .seq (.reg false [.op .none 23 (.ld true 6 (.t 3)),
    .op .none 24 (.mv (.t 1)),
    .op .none 25 (.mv (.t 2)),
    .call .none 26 (.f 18) [(.t 23), (.t 24), (.t 25)],
    .op .none 22 (.mv (.t 26)),
    .op .none 27 (.ext (.t 22) 0),
    .op .none 28 (.ext (.t 22) 1),
    .op .none 29 (.ext (.t 22) 2),
    .op .none 7 (.mv (.t 27)),
    .op .none 8 (.mv (.t 28)),
    .op .none 9 (.mv (.t 29))]) <|
  .seq (.reg false [.op .none 31 (.ld true 6 (.t 3)),
    .op .none 32 (.mv (.t 1)),
    .op .none 33 (.mv (.t 2)),
    .call .none 34 (.f 19) [(.t 31), (.t 32), (.t 33)],
    .op .none 30 (.mv (.t 34)),
    .op .none 35 (.ext (.t 30) 0),
    .op .none 36 (.ext (.t 30) 1),
    .op .none 37 (.ext (.t 30) 2),
    .op .none 10 (.mv (.t 35)),
    .op .none 11 (.mv (.t 36)),
    .op .none 12 (.mv (.t 37))]) <|
  .seq (.seq (.reg false [.op .none 38 (.mv (.t 7)),
    .op .none 39 (.len false (.t 38)),
    .op .none 40 (.mv (.t 10)),
    .op .none 41 (.len false (.t 40)),
    .op .none 42 (.bin .neq (.t 39) (.t 41)),
    .op .none 43 (.mv (.t 42)),
    .op (.some (43, false)) 44 (.mv (.t 8)),
    .op (.some (43, false)) 45 (.mv (.t 11)),
    .op (.some (43, false)) 46 (.eqb true (.t 44) (.t 45)),
    .op .none 47 (.pick (.t 43) (.c (.w (.bool true))) (.t 46)),
    .op .none 48 (.mv (.t 47)),
    .op (.some (48, false)) 49 (.mv (.t 9)),
    .op (.some (48, false)) 50 (.mv (.t 12)),
    .op (.some (48, false)) 51 (.bin .neq (.t 49) (.t 50)),
    .op .none 52 (.pick (.t 48) (.c (.w (.bool true))) (.t 51))]) <|
  .cond (.t 52)
    (.seq (.reg false [.op .none 6 (.mv (.c (.w (.bool false))))]) <|
    .ret)
    (.skip)) <|
  .seq (.seq (.reg false [.op .none 13 (.mv (.c (.w (.int .i64 0))))]) <|
  .block 0 <|
    .loop <|
      .seq (.seq (.reg false [.op .none 53 (.mv (.t 13)),
        .op .none 54 (.mv (.t 7)),
        .op .none 55 (.len false (.t 54)),
        .op .none 56 (.bin .lss (.t 53) (.t 55))]) <|
      .cond (.t 56)
        (.skip)
        (.exit 0)) <|
      .seq (.block 1 <|
        .seq (.reg true [.op .none 59 (.mv (.t 7)),
          .op .none 60 (.mv (.t 13)),
          .op .none 61 (.ia 2 (.t 59) (.t 60)),
          .op .none 62 (.fa 0 (.t 61)),
          .op .none 63 (.ld false 1 (.t 62)),
          .op .none 64 (.mv (.t 10)),
          .op .none 65 (.mv (.t 13)),
          .op .none 66 (.ia 2 (.t 64) (.t 65)),
          .op .none 67 (.fa 0 (.t 66)),
          .op .none 68 (.ld false 1 (.t 67)),
          .op .none 69 (.bin .neq (.t 63) (.t 68)),
          .op .none 70 (.mv (.t 69)),
          .op (.some (70, false)) 71 (.mv (.t 7)),
          .op (.some (70, false)) 72 (.mv (.t 13)),
          .op (.some (70, false)) 73 (.ia 2 (.t 71) (.t 72)),
          .op (.some (70, false)) 74 (.fa 1 (.t 73)),
          .op (.some (70, false)) 75 (.ld false 1 (.t 74)),
          .op (.some (70, false)) 76 (.mv (.t 10)),
          .op (.some (70, false)) 77 (.mv (.t 13)),
          .op (.some (70, false)) 78 (.ia 2 (.t 76) (.t 77)),
          .op (.some (70, false)) 79 (.fa 1 (.t 78)),
          .op (.some (70, false)) 80 (.ld false 1 (.t 79)),
          .call (.some (70, false)) 81 (.f 17) [(.t 75), (.t 80)],
          .op (.some (70, false)) 82 (.un .not (.t 81)),
          .op .none 83 (.pick (.t 70) (.c (.w (.bool true))) (.t 82))]) <|
        .cond (.t 83)
          (.seq (.reg false [.op .none 6 (.mv (.c (.w (.bool false))))]) <|
          .ret)
          (.skip)) <|
      .reg false [.op .none 57 (.mv (.t 13)),
        .op .none 58 (.bin .add (.t 57) (.c (.w (.int .i64 1)))),
        .op .none 13 (.mv (.t 58))]) <|
  .seq (.reg false [.call .none 84 (.f 14) [],
    .op .none 6 (.mv (.t 84))]) <|
  .ret
theorem k4 : FnCode Try.prog 4 [] 85 [6] c4 := ⟨Try.f4, Try.func4, fun xs W => Try.call4 xs W, by kernel_rfl, by kernel_rfl, by kernel_rfl⟩

theorem best_same (t : TagT) (l : List Bs) : bestR9 t l = bestF t l := by
  unfold bestR9 bestF sevF
  by_cases h1 : chkF t l.length = 0
  · have h1' : ¬ chkF t l.length ≠ 0 := by simpa using h1
    rw [if_neg h1', if_neg h1', if_neg (by omega)]
    obtain ⟨hT, hn⟩ := chkF_ok h1
    have e1 : firstF t l 1 = ((sevP t l 1 l.length).take 1).map fun a => (allP t l a, a) := by
      rw [first_same hT l 0]
      have h2 := sevP_first hT l 0 l.length (Nat.le_refl _)
      have h3 := (sevP_first hT l 1 l.length (Nat.le_refl _)).take (N := 1) (by omega)
      rw [h2.uniq (linP _) h3]
    rw [e1]
    simp only [Int.toNat_one, ne_eq, not_true_eq_false, if_false]
    cases (sevP t l 1 l.length).take 1 with
    | nil => rfl
    | cons a r => rfl
  · rw [if_pos h1, if_pos h1]
    simp only [ne_eq, h1, not_false_eq_true, if_true]
theorem sev_same (t : TagT) (l : List Bs) (m : Int) : (sevR9 t l m).1.map (fun x => rowV9 t x.1 x.2) = (sevF t l m).1.map (fun a => rowV9 t (allP t l a) a) ∧ (sevR9 t l m).2 = (sevF t l m).2 := by
  unfold sevR9 sevF
  by_cases h1 : chkF t l.length = 0
  · have h1' : ¬ chkF t l.length ≠ 0 := by simpa using h1
    rw [if_neg h1', if_neg h1']
    by_cases h2 : m < 1 ∨ 200 < m
    · rw [if_pos h2, if_pos h2]; exact ⟨rfl, rfl⟩
    · rw [if_neg h2, if_neg h2]
      obtain ⟨hT, hn⟩ := chkF_ok h1
      rw [first_same hT]
      refine ⟨?_, by simp⟩
      simp only
      rw [← List.map_take, List.map_map]
      rfl
  · rw [if_pos h1, if_pos h1]; exact ⟨rfl, rfl⟩
theorem fok41 (x : List Bs) (hl : x.length ≤ 200000000000000) : FOk Try.prog 41 [.v (.word x), .v (.word x)] [] (.I 0) [] := by
  refine FOk.val k41 (by simp) (by simp) (by decide) ?_
  simp [c41]
  refine Run.loopA (ι := Nat) [] (fun i => i ≤ x.length) (fun i => ⟨[(0, .v (.word x)), (1, .v (.word x)), (5, .I i)], [], 1024⟩) (fun i => x.length - i) 0 (by decide) (by simp) (by simp) ?_
  rintro i hi ih
  by_cases h : i < x.length
  · have hir := ltB_irrefl x[i]
    generalize hx : x[i] = s at hir
    simp (disch := omega) [h, wrap_i64, hx, hir]
    exact ih (i + 1) _ (by omega) (by omega) (by simp)
  · simp [h]
    exact Ends.v rfl (by simp)
theorem fok17 (x : List Bs) (hl : x.length ≤ 200000000000000) : FOk Try.prog 17 [.v (.word x), .v (.word x)] [] (.B true) [] := by
  refine FOk.val k17 (by simp) (by simp) (by decide) ?_
  simp [c17]
  refine CallG.lent rfl rfl rfl rfl (fok41 x hl) rfl ?_
  simp
  exact Ends.v rfl (by simp)
theorem sevF_good (t : TagT) (l : List Bs) (m : Int) : (sevF t l m).1.length ≤ 200 ∧ ∀ a ∈ (sevF t l m).1, a.length ≤ 200 := by
  unfold sevF
  by_cases h1 : chkF t l.length = 0
  · have h1' : ¬ chkF t l.length ≠ 0 := by simpa using h1
    rw [if_neg h1']
    by_cases h2 : m < 1 ∨ 200 < m
    · rw [if_pos h2]; simp
    · rw [if_neg h2]
      obtain ⟨hT, hn⟩ := chkF_ok h1
      refine ⟨by simp; omega, fun a ha => ?_⟩
      have := (sevP_good hT m.toNat l.length (Nat.le_refl _) a (List.mem_of_mem_take ha)).len
      omega
  · rw [if_pos h1]; simp
theorem bestF_len (t : TagT) (l : List Bs) : (bestF t l).1.length ≤ 200 := by
  have h := (sevF_good t l 1).2
  unfold bestF
  generalize sevF t l 1 = s at h ⊢
  obtain ⟨rows, more, e⟩ := s
  simp only at h ⊢
  split
  · simp
  · cases rows with
    | nil => simp
    | cons a r => simpa using h a (by simp)
theorem rowBests_ok (t : TagT) (l : List Bs) (ht : tagC t) (hl : wordC l) : FOk Try.prog 3 [.v (tagV t), .v (.word l)] [] (.B true) [] := by
  have hts := ht.s
  have hls := hl.s8
  have h1 := fok12 t hts
  have h2 := fok13 l hls
  have r1 := fok15 t l hts hls.1
  have r2 := fok16 t l hts hls.1
  rw [best_same] at r2
  have r3 := fok17 (bestF t l).1 (by have := bestF_len t l; omega)
  have hk := fok14
  have htc2 : tagV t = .st [.word t.1, intsV t.2.1, intsV t.2.2.1, .sl 1 (t.2.2.2.1.map intsV), .sl 2 (t.2.2.2.2.1.map worthV), intsV t.2.2.2.2.2.1] := by
    obtain ⟨G, Fi, Z, P, W, U, uu⟩ := t; rfl
  generalize overF9 t = x1 at h1
  generalize txF l = x2 at h2
  generalize bestF t l = a at r1 r2 r3
  rw [htc2] at h1 r1 r2 ⊢
  refine FOk.val k3 (by simp) (by simp) (by decide) ?_
  simp [c3]
  refine CallG.lent rfl rfl rfl rfl h1 rfl ?_
  cases x1
  case true =>
    simp
    refine CallG.lent rfl rfl rfl rfl hk rfl ?_
    simp
    exact Ends.v rfl (by simp)
  simp
  refine CallG.lent rfl rfl rfl rfl h2 rfl ?_
  by_cases q2 : 200000 < x2
  · have q2' : ¬ x2 ≤ 200000 := by omega
    simp [q2, q2']
    refine CallG.lent rfl rfl rfl rfl hk rfl ?_
    simp
    exact Ends.v rfl (by simp)
  have q2' : x2 ≤ 200000 := by omega
  simp [q2, q2']
  refine CallG.plain rfl rfl rfl rfl r1 (by simp) (by simp) ?_
  simp
  refine CallG.plain rfl rfl rfl rfl r2 (by simp) (by simp) ?_
  simp
  refine CallG.lent rfl rfl rfl rfl r3 rfl ?_
  simp
  refine CallG.lent rfl rfl rfl rfl hk rfl ?_
  simp
  exact Ends.v rfl (by simp)
theorem rowSeverals_ok (t : TagT) (l : List Bs) (m : Int) (ht : tagC t) (hl : wordC l) (hm : intC m) : FOk Try.prog 4 [.v (tagV t), .v (.word l), .I m] [] (.B true) [] := by
  have hts := ht.s
  have hls := hl.s8
  have h1 := fok12 t hts
  have h2 := fok13 l hls
  have r1 := fok18 t l m hts hls.1
  have r2 := fok19 t l m hts hls.1
  obtain ⟨e1, e2⟩ := sev_same t l m
  rw [e1, e2] at r2
  obtain ⟨g1, g2⟩ := sevF_good t l m
  have hk := fok14
  have htc2 : tagV t = .st [.word t.1, intsV t.2.1, intsV t.2.2.1, .sl 1 (t.2.2.2.1.map intsV), .sl 2 (t.2.2.2.2.1.map worthV), intsV t.2.2.2.2.2.1] := by
    obtain ⟨G, Fi, Z, P, W, U, uu⟩ := t; rfl
  obtain ⟨rv, hrv⟩ : ∃ rv : List Nat → PV, rv = fun a => rowV9 t (allP t l a) a := ⟨_, rfl⟩
  have hrv2 : ∀ a, rv a = .st [.i (allP t l a), .word (a.map fun k => t.1.getD k [])] := by intro a; rw [hrv]; rfl
  rw [← hrv] at r1 r2
  clear hrv
  have r3 := fun (a : List Nat) (h : a.length ≤ 200) => fok17 (a.map fun k => t.1.getD k []) (by simp; omega)
  generalize overF9 t = x1 at h1
  generalize txF l = x2 at h2
  generalize sevF t l m = s at r1 r2 g1 g2
  obtain ⟨rows, more, e⟩ := s
  simp only at r1 r2 g1 g2
  rw [htc2] at h1 r1 r2 ⊢
  refine FOk.val k4 (by simp) (by simp) (by decide) ?_
  simp [c4]
  refine CallG.lent rfl rfl rfl rfl h1 rfl ?_
  cases x1
  case true =>
    simp
    refine CallG.lent rfl rfl rfl rfl hk rfl ?_
    simp
    exact Ends.v rfl (by simp)
  simp
  refine CallG.lent rfl rfl rfl rfl h2 rfl ?_
  by_cases q2 : 200000 < x2
  · have q2' : ¬ x2 ≤ 200000 := by omega
    simp [q2, q2']
    refine CallG.lent rfl rfl rfl rfl hk rfl ?_
    simp
    exact Ends.v rfl (by simp)
  have q2' : x2 ≤ 200000 := by omega
  simp [q2, q2']
  refine CallG.plain rfl rfl rfl rfl r1 (by simp) (by simp) ?_
  simp
  refine CallG.plain rfl rfl rfl rfl r2 (by simp) (by simp) ?_
  simp
  refine Run.loopA (ι := Nat) [] (fun i => i ≤ rows.length) (fun i => ⟨[(7, .v (.sl 2 (rows.map rv))), (10, .v (.sl 2 (rows.map rv))), (13, .I i)], [], 1024⟩) (fun i => rows.length - i) 0 (by decide) (by simp) (by simp) ?_
  rintro i hi ih
  by_cases h : i < rows.length
  · have ha := g2 _ (List.getElem_mem h)
    have hs := r3 _ ha
    have hv := hrv2 rows[i]
    generalize rows[i].map (fun k => t.1.getD k []) = ns at hs hv
    simp only [PV.word] at hs hv
    simp (disch := omega) [h, wrap_i64, hv]
    refine CallG.lent rfl rfl rfl rfl hs rfl ?_
    simp (disch := omega) [wrap_i64]
    exact ih (i + 1) _ (by omega) (by omega) (by simp)
  · simp [h]
    refine CallG.lent rfl rfl rfl rfl hk rfl ?_
    simp
    exact Ends.v rfl (by simp)

end Go.Proofs
