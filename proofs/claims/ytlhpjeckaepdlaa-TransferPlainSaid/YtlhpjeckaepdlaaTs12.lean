/- The walk. -/
import Derived.Test.YtlhpjeckaepdlaaTs11
import Derived.Test.YtlhpjeckaepdlaaProg
import Derived.KernelRfl
set_option linter.all false
set_option maxHeartbeats 2000000
namespace Go.Proofs
open Go Go.AM
attribute [local irreducible] Run Ends
/-- ablaut/ablautref28.Translate -/
def c16 : MC :=
  .seq (.reg false [.op .none 2 (.box false (.t 0)),
    .op .none 4 (.nilS 2),
    .op .none 5 (.mv (.c (.w (.int .i64 0))))]) <|
  .seq (.seq (.reg false [.op .none 16 (.ld true 2 (.t 2)),
    .op .none 17 (.mv (.t 1)),
    .call .none 18 (.f 62) [(.t 16), (.t 17)],
    .op .none 6 (.mv (.t 18))]) <|
  .seq (.reg false [.op .none 19 (.mv (.t 6)),
    .op .none 20 (.bin .neq (.t 19) (.c (.w (.int .i64 0))))]) <|
  .cond (.t 20)
    (.seq (.reg false [.op .none 21 (.mv (.t 6)),
      .op .none 4 (.nilS 2),
      .op .none 5 (.mv (.t 21))]) <|
    .ret)
    (.skip)) <|
  .seq (.reg false [.op .none 7 (.nilS 2),
    .op .none 8 (.nilS 2)]) <|
  .seq (.seq (.reg false [.op .none 9 (.mv (.c (.w (.int .i64 0))))]) <|
  .block 0 <|
    .loop <|
      .seq (.seq (.reg false [.op .none 22 (.mv (.t 9)),
        .op .none 23 (.mv (.t 1)),
        .op .none 24 (.len false (.t 23)),
        .op .none 25 (.bin .lss (.t 22) (.t 24))]) <|
      .cond (.t 25)
        (.skip)
        (.exit 0)) <|
      .seq (.block 1 <|
        .seq (.reg true [.op .none 28 (.mv (.t 7)),
          .op .none 29 (.ld true 2 (.t 2)),
          .op .none 30 (.mv (.t 1)),
          .op .none 31 (.mv (.t 9)),
          .op .none 32 (.ia 2 (.t 30) (.t 31)),
          .op .none 33 (.ld true 2 (.t 32)),
          .call .none 34 (.f 63) [(.t 29), (.t 33)],
          .op .none 35 (.buildS false 2 1 true [(.w (.string ⟨#[]⟩)), (.sl 1 [])] [(0, (.t 34))]),
          .op .none 36 (.app 2 40 (.t 28) (.t 35)),
          .op .none 7 (.mv (.t 36))]) <|
        .seq (.reg false [.op .none 37 (.mv (.t 7)),
          .op .none 38 (.mv (.t 9)),
          .op .none 39 (.ia 2 (.t 37) (.t 38)),
          .op .none 40 (.fa 1 (.t 39)),
          .op .none 41 (.ld false 1 (.t 40)),
          .op .none 42 (.len false (.t 41)),
          .op .none 43 (.bin .gtr (.t 42) (.c (.w (.int .i64 16))))]) <|
        .cond (.t 43)
          (.seq (.reg false [.op .none 4 (.nilS 2),
            .op .none 5 (.mv (.c (.w (.int .i64 3))))]) <|
          .ret)
          (.skip)) <|
      .reg false [.op .none 26 (.mv (.t 9)),
        .op .none 27 (.bin .add (.t 26) (.c (.w (.int .i64 1)))),
        .op .none 9 (.mv (.t 27))]) <|
  .seq (.reg false [.op .none 10 (.mv (.c (.w (.int .i64 0))))]) <|
  .seq (.seq (.reg false [.op .none 44 (.ld true 2 (.t 2)),
    .op .none 45 (.mv (.t 1)),
    .call .none 46 (.f 64) [(.t 44), (.t 45)],
    .op .none 47 (.len false (.t 46)),
    .op .none 48 (.mv (.c (.w (.int .i64 0))))]) <|
  .block 2 <|
    .loop <|
      .seq (.reg false [.op .none 49 (.bin .lss (.t 48) (.t 47))]) <|
      .seq (.cond (.t 49)
        (.skip)
        (.exit 2)) <|
      .seq (.block 3 <|
        .seq (.reg false [.op .none 50 (.ia 3 (.t 46) (.t 48)),
          .op .none 51 (.ld true 3 (.t 50)),
          .op .none 12 (.alloc true [(.w (.int .i64 0)), (.w (.int .i64 0)), (.w (.int .i64 0))]),
          .store .none true 3 (.t 12) (.t 51)]) <|
        .seq (.reg false [.op .none 52 (.mv (.t 8)),
          .op .none 53 (.mv (.t 7)),
          .op .none 54 (.mv (.t 10)),
          .op .none 55 (.iaA 3 1 (.t 12) (.c (.w (.int .i64 1)))),
          .op .none 56 (.ld false 1 (.t 55)),
          .op .none 57 (.slc false 2 (.t 53) (.some (.t 54)) (.some (.t 56))),
          .op .none 58 (.app 2 40 (.t 52) (.t 57)),
          .op .none 8 (.mv (.t 58))]) <|
        .seq (.reg false [.op .none 59 (.fa 1 (.t 2)),
          .op .none 60 (.ld false 1 (.t 59)),
          .op .none 61 (.iaA 3 1 (.t 12) (.c (.w (.int .i64 0)))),
          .op .none 62 (.ld false 1 (.t 61)),
          .op .none 63 (.ia 2 (.t 60) (.t 62)),
          .op .none 64 (.ld true 2 (.t 63)),
          .op .none 13 (.alloc true [(.sl 1 []), (.sl 5 [])]),
          .store .none true 2 (.t 13) (.t 64)]) <|
        .seq (.seq (.reg false [.op .none 14 (.mv (.c (.w (.int .i64 0))))]) <|
        .block 4 <|
          .loop <|
            .seq (.seq (.reg false [.op .none 65 (.mv (.t 14)),
              .op .none 66 (.fa 1 (.t 13)),
              .op .none 67 (.ld false 1 (.t 66)),
              .op .none 68 (.len false (.t 67)),
              .op .none 69 (.bin .lss (.t 65) (.t 68))]) <|
            .cond (.t 69)
              (.skip)
              (.exit 4)) <|
            .seq (.block 5 <|
              .reg true [.op .none 72 (.mv (.t 8)),
                .op .none 73 (.fa 1 (.t 13)),
                .op .none 74 (.ld false 1 (.t 73)),
                .op .none 75 (.mv (.t 14)),
                .op .none 76 (.ia 5 (.t 74) (.t 75)),
                .op .none 77 (.ld true 5 (.t 76)),
                .op .none 78 (.mv (.t 1)),
                .op .none 79 (.iaA 3 1 (.t 12) (.c (.w (.int .i64 1)))),
                .op .none 80 (.ld false 1 (.t 79)),
                .op .none 81 (.iaA 3 1 (.t 12) (.c (.w (.int .i64 2)))),
                .op .none 82 (.ld false 1 (.t 81)),
                .op .none 83 (.slc false 2 (.t 78) (.some (.t 80)) (.some (.t 82))),
                .op .none 84 (.mv (.t 7)),
                .op .none 85 (.iaA 3 1 (.t 12) (.c (.w (.int .i64 1)))),
                .op .none 86 (.ld false 1 (.t 85)),
                .op .none 87 (.iaA 3 1 (.t 12) (.c (.w (.int .i64 2)))),
                .op .none 88 (.ld false 1 (.t 87)),
                .op .none 89 (.slc false 2 (.t 84) (.some (.t 86)) (.some (.t 88))),
                .call .none 90 (.f 65) [(.t 77), (.t 83), (.t 89)],
                .op .none 91 (.buildS false 2 1 true [(.w (.string ⟨#[]⟩)), (.sl 1 [])] [(0, (.t 90))]),
                .op .none 92 (.app 2 40 (.t 72) (.t 91)),
                .op .none 8 (.mv (.t 92))]) <|
            .reg false [.op .none 70 (.mv (.t 14)),
              .op .none 71 (.bin .add (.t 70) (.c (.w (.int .i64 1)))),
              .op .none 14 (.mv (.t 71))]) <|
        .reg false [.op .none 93 (.iaA 3 1 (.t 12) (.c (.w (.int .i64 2)))),
          .op .none 94 (.ld false 1 (.t 93)),
          .op .none 10 (.mv (.t 94))]) <|
      .reg false [.op .none 95 (.bin .add (.t 48) (.c (.w (.int .i64 1)))),
        .op .none 48 (.mv (.t 95))]) <|
  .seq (.reg false [.op .none 96 (.mv (.t 8)),
    .op .none 97 (.mv (.t 7)),
    .op .none 98 (.mv (.t 10)),
    .op .none 99 (.slc false 2 (.t 97) (.some (.t 98)) .none),
    .op .none 100 (.app 2 40 (.t 96) (.t 99)),
    .op .none 8 (.mv (.t 100))]) <|
  .seq (.seq (.reg false [.op .none 101 (.mv (.t 8)),
    .op .none 102 (.len false (.t 101)),
    .op .none 103 (.bin .gtr (.t 102) (.c (.w (.int .i64 200))))]) <|
  .cond (.t 103)
    (.seq (.reg false [.op .none 4 (.nilS 2),
      .op .none 5 (.mv (.c (.w (.int .i64 3))))]) <|
    .ret)
    (.skip)) <|
  .seq (.seq (.reg false [.op .none 15 (.mv (.c (.w (.int .i64 0))))]) <|
  .block 6 <|
    .loop <|
      .seq (.seq (.reg false [.op .none 104 (.mv (.t 15)),
        .op .none 105 (.mv (.t 8)),
        .op .none 106 (.len false (.t 105)),
        .op .none 107 (.bin .lss (.t 104) (.t 106))]) <|
      .cond (.t 107)
        (.skip)
        (.exit 6)) <|
      .seq (.block 7 <|
        .seq (.reg false [.op .none 110 (.mv (.t 8)),
          .op .none 111 (.mv (.t 15)),
          .op .none 112 (.ia 2 (.t 110) (.t 111)),
          .op .none 113 (.fa 1 (.t 112)),
          .op .none 114 (.ld false 1 (.t 113)),
          .op .none 115 (.len false (.t 114)),
          .op .none 116 (.bin .gtr (.t 115) (.c (.w (.int .i64 16))))]) <|
        .cond (.t 116)
          (.seq (.reg false [.op .none 4 (.nilS 2),
            .op .none 5 (.mv (.c (.w (.int .i64 3))))]) <|
          .ret)
          (.skip)) <|
      .reg false [.op .none 108 (.mv (.t 15)),
        .op .none 109 (.bin .add (.t 108) (.c (.w (.int .i64 1)))),
        .op .none 15 (.mv (.t 109))]) <|
  .seq (.reg false [.op .none 117 (.mv (.t 8)),
    .op .none 4 (.mv (.t 117)),
    .op .none 5 (.mv (.c (.w (.int .i64 0))))]) <|
  .ret
theorem k16 : FnCode Try.prog 16 [] 118 [4, 5] c16 := ⟨Try.f16, Try.func16, fun xs W => Try.call16 xs W, by kernel_rfl, by kernel_rfl, by kernel_rfl⟩

/-- ablaut/ablautref28.Chunks -/
def c18 : MC :=
  .seq (.reg false [.op .none 2 (.box false (.t 0)),
    .op .none 4 (.nilS 3),
    .op .none 5 (.mv (.c (.w (.int .i64 0))))]) <|
  .seq (.seq (.reg false [.op .none 7 (.ld true 2 (.t 2)),
    .op .none 8 (.mv (.t 1)),
    .call .none 9 (.f 62) [(.t 7), (.t 8)],
    .op .none 6 (.mv (.t 9))]) <|
  .seq (.reg false [.op .none 10 (.mv (.t 6)),
    .op .none 11 (.bin .neq (.t 10) (.c (.w (.int .i64 0))))]) <|
  .cond (.t 11)
    (.seq (.reg false [.op .none 12 (.mv (.t 6)),
      .op .none 4 (.nilS 3),
      .op .none 5 (.mv (.t 12))]) <|
    .ret)
    (.skip)) <|
  .seq (.reg false [.op .none 13 (.ld true 2 (.t 2)),
    .op .none 14 (.mv (.t 1)),
    .call .none 15 (.f 64) [(.t 13), (.t 14)],
    .op .none 4 (.mv (.t 15)),
    .op .none 5 (.mv (.c (.w (.int .i64 0))))]) <|
  .ret
theorem k18 : FnCode Try.prog 18 [] 16 [4, 5] c18 := ⟨Try.f18, Try.func18, fun xs W => Try.call18 xs W, by kernel_rfl, by kernel_rfl, by kernel_rfl⟩

/-- ablaut/ablautref28.Unknown -/
def c20 : MC :=
  .seq (.reg false [.op .none 2 (.box false (.t 0)),
    .op .none 4 (.nilS 1),
    .op .none 5 (.mv (.c (.w (.int .i64 0))))]) <|
  .seq (.seq (.reg false [.op .none 9 (.ld true 2 (.t 2)),
    .op .none 10 (.mv (.t 1)),
    .call .none 11 (.f 62) [(.t 9), (.t 10)],
    .op .none 6 (.mv (.t 11))]) <|
  .seq (.reg false [.op .none 12 (.mv (.t 6)),
    .op .none 13 (.bin .neq (.t 12) (.c (.w (.int .i64 0))))]) <|
  .cond (.t 13)
    (.seq (.reg false [.op .none 14 (.mv (.t 6)),
      .op .none 4 (.nilS 1),
      .op .none 5 (.mv (.t 14))]) <|
    .ret)
    (.skip)) <|
  .seq (.reg false [.op .none 7 (.nilS 1)]) <|
  .seq (.seq (.reg false [.op .none 8 (.mv (.c (.w (.int .i64 0))))]) <|
  .block 0 <|
    .loop <|
      .seq (.seq (.reg false [.op .none 15 (.mv (.t 8)),
        .op .none 16 (.mv (.t 1)),
        .op .none 17 (.len false (.t 16)),
        .op .none 18 (.bin .lss (.t 15) (.t 17))]) <|
      .cond (.t 18)
        (.skip)
        (.exit 0)) <|
      .seq (.block 1 <|
        .seq (.reg true [.op .none 21 (.ld true 2 (.t 2)),
          .op .none 22 (.mv (.t 1)),
          .op .none 23 (.mv (.t 8)),
          .op .none 24 (.ia 2 (.t 22) (.t 23)),
          .op .none 25 (.ld true 2 (.t 24)),
          .call .none 26 (.f 67) [(.t 21), (.t 25)],
          .op .none 27 (.bin .lss (.t 26) (.c (.w (.int .i64 0))))]) <|
        .cond (.t 27)
          (.reg false [.op .none 28 (.mv (.t 7)),
            .op .none 29 (.mv (.t 8)),
            .op .none 30 (.buildS false 1 1 false [(.w (.int .i64 0))] [(0, (.t 29))]),
            .op .none 31 (.app 1 8 (.t 28) (.t 30)),
            .op .none 7 (.mv (.t 31))])
          (.skip)) <|
      .reg false [.op .none 19 (.mv (.t 8)),
        .op .none 20 (.bin .add (.t 19) (.c (.w (.int .i64 1)))),
        .op .none 8 (.mv (.t 20))]) <|
  .seq (.reg false [.op .none 32 (.mv (.t 7)),
    .op .none 4 (.mv (.t 32)),
    .op .none 5 (.mv (.c (.w (.int .i64 0))))]) <|
  .ret
theorem k20 : FnCode Try.prog 20 [] 33 [4, 5] c20 := ⟨Try.f20, Try.func20, fun xs W => Try.call20 xs W, by kernel_rfl, by kernel_rfl, by kernel_rfl⟩

theorem fok18 (b : BrT) (l : List UnitT) (hb : brS b) (hl : l.length ≤ 200000000000000) (hu : ∀ u ∈ l, unitS u) : FOk Try.prog 18 [.v (brV b), .v (.sl 2 (l.map unitV))] [] (.tup [.v (.sl 3 ((if bothF b l = 0 then chunksF b.2.1 l else []).map chV)), .I (bothF b l)]) [] := by
  have h1 := fok62 b l hb hl hu
  refine FOk.val k18 (by simp) (by simp) (by decide) ?_
  by_cases c0 : bothF b l = 0
  · have hO := both0 c0
    have hch := fok64 b l hb hO.pat (by have := hO.nl; omega) hu
    rw [if_pos c0]
    rw [c0] at h1 ⊢
    obtain ⟨R, S, u⟩ := b
    simp only [brV] at h1 hch
    generalize chunksF S l = cs at hch ⊢
    simp [c18, brV]
    refine CallG.lent rfl rfl rfl rfl h1 rfl ?_
    simp
    refine CallG.plain rfl rfl rfl rfl hch (by simp) (by simp) ?_
    simp
    exact Ends.v rfl (by simp)
  · rw [if_neg c0]
    generalize bothF b l = v at h1 c0 ⊢
    obtain ⟨R, S, u⟩ := b
    simp only [brV] at h1
    simp [c18, brV]
    refine CallG.lent rfl rfl rfl rfl h1 rfl ?_
    simp [c0]
    exact Ends.v rfl (by simp)
theorem fok20 (b : BrT) (l : List UnitT) (hb : brS b) (hl : l.length ≤ 200000000000000) (hu : ∀ u ∈ l, unitS u) : FOk Try.prog 20 [.v (brV b), .v (.sl 2 (l.map unitV))] [] (.tup [.v (.sl 1 ((if bothF b l = 0 then unkF b.1 l 0 else []).map fun i => .i (i : Nat))), .I (bothF b l)]) [] := by
  have h1 := fok62 b l hb hl hu
  refine FOk.val k20 (by simp) (by simp) (by decide) ?_
  by_cases c0 : bothF b l = 0
  · have hO := both0 c0
    have hn := hO.nl
    have hr := fun x (h : x ∈ l) => fok67 b x hb (hu x h)
    rw [if_pos c0]
    rw [c0] at h1 ⊢
    obtain ⟨R, S, u⟩ := b
    simp only [brV] at h1 hr
    simp [c20, brV]
    refine CallG.lent rfl rfl rfl rfl h1 rfl ?_
    simp
    refine Run.loopA (ι := Nat × List Nat) [(1, 2), (2, 7)] (fun q => q.1 ≤ l.length ∧ q.2.length ≤ q.1 ∧ q.2 ++ unkF R (l.drop q.1) q.1 = unkF R l 0) (fun q => ⟨[(1, .v (.sl 2 (l.map unitV))), (2, .ptr 1 0 0), (7, .h 2), (8, .I q.1)], [(2, ⟨false, 1, q.2.map fun i => .i (i : Nat)⟩), (1, ⟨false, 2, [brV (R, S, u)]⟩)], 1024⟩) (fun q => l.length - q.1) (0, []) (by decide) (by simp [brV]) ⟨by simp, by simp, by simp⟩ ?_
    rintro ⟨i, acc⟩ ⟨hi, hac, hall⟩ ih
    simp only at hi hac hall ih
    by_cases h : i < l.length
    · rw [drop_at h] at hall
      simp only [unkF] at hall
      have hc := hr l[i] (List.getElem_mem h)
      generalize rowF R l[i] = y at hc hall
      generalize hx : l[i] = x at hc
      obtain ⟨xb, xt, xu⟩ := x
      simp only [unitV] at hc
      have hbl : (acc.length + 1 + 1000) * 8 ≤ 70368744177664 := by omega
      simp (disch := (clear hbl; omega)) [h, wrap_i64, hx, unitV, brV]
      refine CallG.lent rfl rfl rfl rfl hc rfl ?_
      by_cases hy : y < 0
      · rw [if_pos hy] at hall
        simp (disch := (clear hbl; omega)) [wrap_i64, hy, hbl]
        exact ih (i + 1, acc ++ [i]) _ ⟨by clear hbl; simp; omega, by clear hbl; simp; omega, by simpa using hall⟩ (by clear hbl; simp; omega) (by simp [brV])
      · rw [if_neg hy] at hall
        simp (disch := (clear hbl; omega)) [wrap_i64, hy]
        exact ih (i + 1, acc) _ ⟨by clear hbl; simp; omega, by clear hbl; simp; omega, by simpa using hall⟩ (by clear hbl; simp; omega) (by simp [brV])
    · rw [drop_no h] at hall
      simp only [unkF, List.append_nil] at hall
      simp [h]
      exact Ends.v rfl (by simp [hall])
  · rw [if_neg c0]
    generalize bothF b l = v at h1 c0 ⊢
    obtain ⟨R, S, u⟩ := b
    simp only [brV] at h1
    simp [c20, brV]
    refine CallG.lent rfl rfl rfl rfl h1 rfl ?_
    simp [c0]
    exact Ends.v rfl (by simp)
theorem fok16 (b : BrT) (l : List UnitT) (hb : brS b) (hl : l.length ≤ 200000000000000) (hu : ∀ u ∈ l, unitS u) : FOk Try.prog 16 [.v (brV b), .v (.sl 2 (l.map unitV))] [] (.tup [.v (.sl 2 ((transF b l).1.map unitV)), .I (transF b l).2]) [] := by
  have h1 := fok62 b l hb hl hu
  refine FOk.val k16 (by simp) (by simp) (by decide) ?_
  by_cases c0 : bothF b l = 0
  case neg =>
    simp only [transF, c0]
    generalize bothF b l = v at h1 c0 ⊢
    obtain ⟨R, S, u⟩ := b
    simp [c16, brV]
    simp only [brV] at h1
    refine CallG.lent rfl rfl rfl rfl h1 rfl ?_
    simp [c0]
    exact Ends.v rfl (by simp [c0])
  have hO := both0 c0
  rw [c0] at h1
  have hch := fok64 b l hb hO.pat (by have := hO.nl; omega) hu
  have hokc := chF_ok b.2.1 l hO.pat l.length 0 (Nat.zero_le _)
  have hw := fun u (h : u ∈ l) => fok63 b u hb hO.put (hu u h) (by have := hO.tags u h; omega)
  have hwo := fun u (h : u ∈ l) => wordF_ok hb hO.put (hu u h) (hO.tags u h)
  have hnl := hO.nl
  have hOo := hO.out
  obtain ⟨R, S, u⟩ := b
  have hWm : ∀ x ∈ wordsF R l, unitS x := by
    intro x hx
    simp only [wordsF, List.mem_map] at hx
    obtain ⟨y, hy, rfl⟩ := hx
    exact (hwo y hy).1
  have hWl : (wordsF R l).length = l.length := by simp [wordsF]
  simp only [transF]
  rw [if_neg (by simpa using c0)]
  simp only at hokc hOo
  change okCh S l.length 0 (chunksF S l) at hokc
  simp only [brV] at h1 hch hw
  simp [c16, brV]
  refine CallG.lent rfl rfl rfl rfl h1 rfl ?_
  simp
  generalize hres : (if (wordsF R l).any many = true then (([], 3) : List UnitT × Int) else if 200 < (outF S l (wordsF R l) 0 (chunksF S l)).length then ([], 3) else if (outF S l (wordsF R l) 0 (chunksF S l)).any many = true then ([], 3) else (outF S l (wordsF R l) 0 (chunksF S l), 0)) = res
  refine Run.loopA (ι := Nat) [(1, 2), (2, 7), (3, 8)] (fun i => i ≤ l.length ∧ ∀ x ∈ (wordsF R l).take i, many x = false) (fun i => ⟨[(1, .v (.sl 2 (l.map unitV))), (2, .ptr 1 0 0), (7, .h 2), (8, .h 3), (9, .I i)], [(3, ⟨false, 2, []⟩), (2, ⟨false, 2, ((wordsF R l).take i).map unitV⟩), (1, ⟨false, 2, [brV (R, S, u)]⟩)], 1024⟩) (fun i => l.length - i) 0 (by decide) (by simp [brV]) (by simp) ?_
  rintro i ⟨hi, hno⟩ ih
  by_cases h : i < l.length
  · have hi2 : i < (wordsF R l).length := by omega
    have hst : (wordsF R l).take (i + 1) = (wordsF R l).take i ++ [(wordF R l[i]).1] := by
      rw [List.take_succ_eq_append_getElem hi2]; simp [wordsF]
    have hWi : (wordsF R l)[i] = (wordF R l[i]).1 := by simp [wordsF]
    have hyes := any_at many (wordsF R l) hi2
    have hnext := any_take many (wordsF R l) hi2 hno
    rw [hWi] at hyes hnext
    have hc := hw l[i] (List.getElem_mem h)
    have hbl : (i + 1 + 1000) * 40 ≤ 70368744177664 := by omega
    have hmn : min i (wordsF R l).length = i := by omega
    generalize (wordF R l[i]).1 = y at hst hc hyes hnext
    generalize hx : l[i] = x at hc
    obtain ⟨xb, xt, xu⟩ := x
    obtain ⟨yb, yt, yu⟩ := y
    simp [unitV] at hc
    simp (disch := (clear hbl; omega)) [h, wrap_i64, hx, unitV, brV]
    refine CallG.plain rfl rfl rfl rfl hc (by simp) (by simp) ?_
    have hget : ∀ z : PV, (List.take i (List.map unitV (wordsF R l)) ++ [z])[i]? = some z := by
      intro z
      have hlen : (List.take i (List.map unitV (wordsF R l))).length = i := by simp; clear hbl; omega
      rw [List.getElem?_append_right (by clear hbl; omega), hlen]
      simp
    by_cases hy : 16 < yt.length
    · rw [if_pos (hyes (by simp [many, hy]))] at hres
      subst hres
      simp (disch := (clear hbl; omega)) [wrap_i64, hbl, hmn, hy, hget]
      exact Ends.v rfl (by simp)
    · simp (disch := (clear hbl; omega)) [wrap_i64, hbl, hmn, hy, hget]
      exact ih (i + 1) _ ⟨by clear hbl; omega, hnext (by simp [many]; clear hbl; omega)⟩ (by clear hbl; omega) (by simp [hst, brV, unitV])
  have hi2 : i = l.length := by omega
  subst hi2
  have htW : (wordsF R l).take l.length = wordsF R l := List.take_of_length_le (by omega)
  rw [htW] at hno ⊢
  rw [any_end many _ hno] at hres
  clear ih h hi
  generalize hW : wordsF R l = W at *
  simp only [Bool.false_eq_true, if_false] at hres
  have hWt : ∀ x ∈ W, unitS x ∧ x.2.1.length ≤ 1000 := by
    intro x hx
    have := hno x hx
    simp only [many, decide_eq_false_iff_not] at this
    exact ⟨hWm x hx, by omega⟩
  simp [brV]
  refine CallG.plain rfl rfl rfl rfl hch (by simp) (by simp) ?_
  simp
  generalize hcs : chunksF S l = cs at *
  have hcap : ∀ (c : ChT) (hc : c.1 < S.length), S[c.1].1.length = c.2.2 - c.2.1 → c.2.1 < c.2.2 → c.2.2 ≤ l.length → ∀ s ∈ S[c.1].2.1, FOk Try.prog 65 [.v (slotV s), .v (.sl 2 (((l.take c.2.2).drop c.2.1).map unitV)), .v (.sl 2 (((W.take c.2.2).drop c.2.1).map unitV))] [] (.v (unitV (writeF s ((l.take c.2.2).drop c.2.1) ((W.take c.2.2).drop c.2.1)))) [] := by
    intro c hc e1 e2 e3 s hs
    have hr := List.getElem_mem hc
    have q1 := (hb.2.2.2 _ hr).2.2.2 s hs
    obtain ⟨q2, q3, q4⟩ := (hOo _ hr).2 s hs
    have e4 : ((l.take c.2.2).drop c.2.1).length = c.2.2 - c.2.1 := by simp; omega
    refine fok65 s _ _ ⟨q1, q2, q3⟩ (by rw [e4, ← e1]; exact q4) (by simp; omega) (fun u h => hu u (List.mem_of_mem_take (List.mem_of_mem_drop h))) (fun u h => hWt u (List.mem_of_mem_take (List.mem_of_mem_drop h))) (by omega)
  refine Run.loopA (ι := Nat × Nat × List UnitT) [(1, 2), (2, 8)] (fun q => q.1 ≤ cs.length ∧ q.1 ≤ q.2.1 ∧ q.2.1 ≤ l.length ∧ okCh S l.length q.2.1 (cs.drop q.1) ∧ q.2.2.length ≤ 25 * q.2.1 ∧ q.2.2 ++ outF S l W q.2.1 (cs.drop q.1) = outF S l W 0 cs) (fun q => ⟨[(1, .v (.sl 2 (l.map unitV))), (2, .ptr 1 0 0), (7, .v (.sl 2 (W.map unitV))), (8, .h 2), (10, .I q.2.1), (46, .v (.sl 3 (cs.map chV))), (47, .I cs.length), (48, .I q.1)], [(2, ⟨false, 2, q.2.2.map unitV⟩), (1, ⟨false, 2, [brV (R, S, u)]⟩)], 1024⟩) (fun q => cs.length - q.1) (0, 0, []) (by decide) (by simp [brV]) ⟨by simp, by simp, by simp, by simpa using hokc, by simp, by simp⟩ ?_
  rintro ⟨j, a, acc⟩ ⟨hj, hja, ha, hoc, hacc, hall⟩ ih
  simp only at hj hja ha hoc hacc hall ih
  by_cases h : j < cs.length
  · rw [drop_at h] at hoc hall
    simp only [okCh] at hoc
    simp only [outF] at hall
    have hca := hcap cs[j]
    generalize hx : cs[j] = c at hca hoc hall
    obtain ⟨k, c1, c2⟩ := c
    simp only at hca hoc hall
    obtain ⟨o1, o2, o3, ⟨hk, o4⟩, o5⟩ := hoc
    have hca := hca hk o4 o2 o3
    have hOk := hOo _ (List.getElem_mem hk)
    simp only [slotsF, List.getElem?_eq_getElem hk] at hall
    generalize hy : S[k] = r at hca hall hOk
    obtain ⟨p, o, u2⟩ := r
    simp only at hca hall hOk
    have n1 : (a : Int) ≤ c1 := by omega
    have n2 : c1 ≤ W.length := by omega
    have n3 : ¬ (c1 : Int) < a := by omega
    have hbl : (acc.length + (c1 - a) + 1000) * 40 ≤ 70368744177664 := by omega
    have hmn : min c1 W.length = c1 := by omega
    simp (disch := (clear hbl; omega)) [h, wrap_i64, hx, chV, n1, n2, hk, hy, brV, shufV, wordsV, hbl, hmn]
    clear hbl hmn
    have hl1 : (acc ++ (W.take c1).drop a).length = acc.length + (c1 - a) := by simp; omega
    rw [← List.append_assoc, ← List.append_assoc] at hall
    generalize hacc1 : acc ++ (W.take c1).drop a = acc1 at hl1 hall
    generalize hwf : (fun s => writeF s ((l.take c2).drop c1) ((W.take c2).drop c1)) = wf at hall
    have hca : ∀ s ∈ o, FOk Try.prog 65 [.v (slotV s), .v (.sl 2 (((l.take c2).drop c1).map unitV)), .v (.sl 2 (((W.take c2).drop c1).map unitV))] [] (.v (unitV (wf s))) [] := by
      intro s hs
      rw [← hwf]
      exact hca s hs
    refine Run.loopA (ι := Nat) [(1, 2), (2, 8), (3, 12), (4, 13)] (fun m => m ≤ o.length) (fun m => ⟨[(1, .v (.sl 2 (l.map unitV))), (2, .ptr 1 0 0), (7, .v (.sl 2 (W.map unitV))), (8, .h 2), (12, .ptr 3 0 0), (13, .ptr 4 0 0), (14, .I m), (46, .v (.sl 3 (cs.map chV))), (47, .I cs.length), (48, .I j)], [(4, ⟨false, 2, [shufV (p, o, u2)]⟩), (3, ⟨false, 3, [chV (k, c1, c2)]⟩), (2, ⟨false, 2, (acc1 ++ (o.take m).map wf).map unitV⟩), (1, ⟨false, 2, [brV (R, S, u)]⟩)], 1024⟩) (fun m => o.length - m) 0 (by decide) (by simp [brV, chV, shufV, wordsV, ← hacc1]) (by simp) ?_
    rintro m hm ih2
    by_cases g : m < o.length
    · have hst : (o.take (m + 1)).map wf = (o.take m).map wf ++ [wf o[m]] := by
        rw [List.take_succ_eq_append_getElem g, List.map_append]; rfl
      have hc := hca o[m] (List.getElem_mem g)
      generalize wf o[m] = y at hst hc
      generalize hz : o[m] = z at hc
      obtain ⟨zo, zb, zt, zf, zk, zu⟩ := z
      obtain ⟨yb, yt, yu⟩ := y
      simp [slotV, unitV] at hc
      have p1 : (c1 : Int) ≤ c2 := by omega
      have p2 : c1 ≤ c2 := by omega
      have p3 : c2 ≤ W.length := by omega
      have hbl : (acc1.length + m + 1 + 1000) * 40 ≤ 70368744177664 := by omega
      have hmn : min m o.length = m := by omega
      simp (disch := (clear hbl; omega)) [g, wrap_i64, hz, slotV, chV, p1, p2, p3, o3, shufV, wordsV]
      refine CallG.plain rfl rfl rfl rfl hc (by simp) (by simp) ?_
      simp (disch := (clear hbl; omega)) [wrap_i64, hbl, hmn]
      exact ih2 (m + 1) _ (by clear hbl; omega) (by clear hbl; omega) (by simp [brV, chV, hst, unitV, shufV, wordsV])
    · have hmo : m = o.length := by omega
      subst hmo
      have hto : List.take o.length o = o := List.take_length
      simp (disch := omega) [wrap_i64, chV, hto, shufV]
      exact ih (j + 1, c2, acc1 ++ o.map wf) _ ⟨by simp; omega, by simp; omega, by simp; omega, o5, by simp; omega, by simpa using hall⟩ (by simp; omega) (by simp [brV, hto])
  · rw [drop_no h] at hall hoc
    simp only [outF] at hall
    have hbl : (acc.length + (W.length - a) + 1000) * 40 ≤ 70368744177664 := by omega
    have q1 : a ≤ W.length := by omega
    have htW2 : List.take W.length (W.map unitV) = W.map unitV := List.take_of_length_le (by simp)
    generalize outF S l W 0 cs = out at hall hres
    have hol : out.length = acc.length + (W.length - a) := by rw [← hall]; simp
    have hmap : out.map unitV = acc.map unitV ++ (W.map unitV).drop a := by rw [← hall]; simp
    have e1 : (out.length : Int) = acc.length + ((W.length - a : Nat) : Int) := by rw [hol]; simp
    by_cases c2 : 200 < out.length
    · rw [if_pos c2] at hres
      subst hres
      have e2 : (200 : Int) < acc.length + ((W.length - a : Nat) : Int) := by clear hbl; omega
      simp (disch := (clear hbl; omega)) [h, wrap_i64, q1, htW2, hbl, e2]
      exact Ends.v rfl (by simp)
    rw [if_neg c2] at hres
    have e2 : ¬ (200 : Int) < acc.length + ((W.length - a : Nat) : Int) := by clear hbl; omega
    simp (disch := (clear hbl; omega)) [h, wrap_i64, q1, htW2, hbl, e2]
    clear hbl
    refine Run.loopA (ι := Nat) [(1, 8)] (fun i => i ≤ out.length ∧ ∀ x ∈ out.take i, many x = false) (fun i => ⟨[(8, .h 1), (15, .I i)], [(1, ⟨false, 2, out.map unitV⟩)], 1024⟩) (fun i => out.length - i) 0 (by decide) (by simp [hmap]) (by simp) ?_
    clear hmap
    rintro i ⟨hi, hno2⟩ ih2
    by_cases g : i < out.length
    · have hyes := any_at many out g
      have hnext := any_take many out g hno2
      generalize hz : out[i] = z at hyes hnext
      obtain ⟨zb, zt, zu⟩ := z
      by_cases hy : 16 < zt.length
      · rw [if_pos (hyes (by simp [many, hy]))] at hres
        subst hres
        simp (disch := omega) [g, hz, unitV, hy, wrap_i64]
        exact Ends.v rfl (by simp)
      · simp (disch := omega) [g, hz, unitV, hy, wrap_i64]
        exact ih2 (i + 1) _ ⟨by omega, hnext (by simp [many]; omega)⟩ (by omega) (by simp)
    · have hio : i = out.length := by omega
      subst hio
      rw [List.take_length] at hno2
      rw [any_end many _ hno2] at hres
      simp only [Bool.false_eq_true, if_false] at hres
      subst hres
      simp
      exact Ends.v rfl (by simp)

end Go.Proofs
