/- The walk. -/
import Derived.Test.YtphjjlhpepmofaaF14
import Derived.Test.YtphjjlhpepmofaaF10
import Derived.Test.YtphjjlhpepmofaaE23
import Derived.Test.YtphjjlhpepmofaaProg
import Derived.KernelRfl
set_option linter.all false
set_option maxHeartbeats 2000000
namespace Go.Proofs
open Go Go.AM
attribute [local irreducible] Run Ends
/-- ablaut/ablautref23.edits -/
def c45 : MC :=
  .seq (.reg false [.op .none 3 (.box false (.t 0)),
    .op .none 6 (.nilS 3)]) <|
  .seq (.reg false [.op .none 14 (.ld true 5 (.t 3)),
    .op .none 15 (.mv (.t 1)),
    .op .none 16 (.mv (.t 2)),
    .call .none 17 (.f 70) [(.t 14), (.t 15), (.t 16)],
    .op .none 7 (.mv (.t 17))]) <|
  .seq (.reg false [.op .none 8 (.nilS 3)]) <|
  .seq (.reg false [.op .none 9 (.mv (.c (.w (.int .i64 0)))),
    .op .none 10 (.mv (.c (.w (.int .i64 0))))]) <|
  .seq (.block 0 <|
    .loop <|
      .seq (.seq (.reg false [.op .none 18 (.mv (.t 9)),
        .op .none 19 (.mv (.t 1)),
        .op .none 20 (.len false (.t 19)),
        .op .none 21 (.bin .lss (.t 18) (.t 20)),
        .op .none 22 (.mv (.t 21)),
        .op (.some (22, false)) 23 (.mv (.t 10)),
        .op (.some (22, false)) 24 (.mv (.t 2)),
        .op (.some (22, false)) 25 (.len false (.t 24)),
        .op (.some (22, false)) 26 (.bin .lss (.t 23) (.t 25)),
        .op .none 27 (.pick (.t 22) (.c (.w (.bool true))) (.t 26))]) <|
      .cond (.t 27)
        (.skip)
        (.exit 0)) <|
      .block 1 <|
        .seq (.reg false [.op .none 28 (.ld true 5 (.t 3)),
          .op .none 29 (.mv (.t 1)),
          .op .none 30 (.mv (.t 2)),
          .op .none 31 (.mv (.t 9)),
          .op .none 32 (.mv (.t 10)),
          .call .none 33 (.f 72) [(.t 28), (.t 29), (.t 30), (.t 31), (.t 32)],
          .op .none 11 (.mv (.t 33))]) <|
        .seq (.reg false [.op .none 12 (.mv (.c (.w (.int .i64 0))))]) <|
        .seq (.block 2 <|
          .loop <|
            .seq (.seq (.reg true [.op .none 34 (.mv (.t 11)),
              .op .none 35 (.mv (.t 12)),
              .op .none 36 (.ia 4 (.t 34) (.t 35)),
              .op .none 37 (.fa 3 (.t 36)),
              .op .none 38 (.ld false 1 (.t 37)),
              .op .none 39 (.mv (.t 7)),
              .op .none 40 (.mv (.t 9)),
              .op .none 41 (.mv (.t 11)),
              .op .none 42 (.mv (.t 12)),
              .op .none 43 (.ia 4 (.t 41) (.t 42)),
              .op .none 44 (.fa 1 (.t 43)),
              .op .none 45 (.ld false 1 (.t 44)),
              .op .none 46 (.bin .add (.t 40) (.t 45)),
              .op .none 47 (.ia 1 (.t 39) (.t 46)),
              .op .none 48 (.ld false 1 (.t 47)),
              .op .none 49 (.mv (.t 10)),
              .op .none 50 (.mv (.t 11)),
              .op .none 51 (.mv (.t 12)),
              .op .none 52 (.ia 4 (.t 50) (.t 51)),
              .op .none 53 (.fa 2 (.t 52)),
              .op .none 54 (.ld false 1 (.t 53)),
              .op .none 55 (.bin .add (.t 49) (.t 54)),
              .op .none 56 (.ia 1 (.t 48) (.t 55)),
              .op .none 57 (.ld false 1 (.t 56)),
              .op .none 58 (.bin .add (.t 38) (.t 57)),
              .op .none 59 (.mv (.t 7)),
              .op .none 60 (.mv (.t 9)),
              .op .none 61 (.ia 1 (.t 59) (.t 60)),
              .op .none 62 (.ld false 1 (.t 61)),
              .op .none 63 (.mv (.t 10)),
              .op .none 64 (.ia 1 (.t 62) (.t 63)),
              .op .none 65 (.ld false 1 (.t 64)),
              .op .none 66 (.bin .neq (.t 58) (.t 65))]) <|
            .cond (.t 66)
              (.skip)
              (.exit 2)) <|
            .block 3 <|
              .reg false [.op .none 67 (.mv (.t 12)),
                .op .none 68 (.bin .add (.t 67) (.c (.w (.int .i64 1)))),
                .op .none 12 (.mv (.t 68))]) <|
        .seq (.reg false [.op .none 69 (.mv (.t 11)),
          .op .none 70 (.mv (.t 12)),
          .op .none 71 (.ia 4 (.t 69) (.t 70)),
          .op .none 72 (.fa 0 (.t 71)),
          .op .none 73 (.ld false 1 (.t 72)),
          .op .none 74 (.mv (.t 9)),
          .op .none 75 (.build false [(.w (.int .i64 0)), (.w (.int .i64 0)), (.w (.string ⟨#[]⟩))] [(0, 1, (.t 73)), (1, 1, (.t 74))]),
          .op .none 13 (.alloc true [(.w (.int .i64 0)), (.w (.int .i64 0)), (.w (.string ⟨#[]⟩))]),
          .store .none (.stt true 3 (.t 13) (.t 75))]) <|
        .seq (.seq (.reg false [.op .none 76 (.mv (.t 11)),
          .op .none 77 (.mv (.t 12)),
          .op .none 78 (.ia 4 (.t 76) (.t 77)),
          .op .none 79 (.fa 0 (.t 78)),
          .op .none 80 (.ld false 1 (.t 79)),
          .op .none 81 (.bin .eql (.t 80) (.c (.w (.int .i64 2)))),
          .op .none 82 (.mv (.t 81)),
          .op (.some (82, false)) 83 (.mv (.t 11)),
          .op (.some (82, false)) 84 (.mv (.t 12)),
          .op (.some (82, false)) 85 (.ia 4 (.t 83) (.t 84)),
          .op (.some (82, false)) 86 (.fa 0 (.t 85)),
          .op (.some (82, false)) 87 (.ld false 1 (.t 86)),
          .op (.some (82, false)) 88 (.bin .eql (.t 87) (.c (.w (.int .i64 3)))),
          .op .none 89 (.pick (.t 82) (.c (.w (.bool true))) (.t 88))]) <|
        .cond (.t 89)
          (.reg false [.op .none 90 (.mv (.t 2)),
            .op .none 91 (.mv (.t 10)),
            .op .none 92 (.ia 1 (.t 90) (.t 91)),
            .op .none 93 (.ld false 1 (.t 92)),
            .op .none 94 (.fa 2 (.t 13)),
            .store .none (.stt false 1 (.t 94) (.t 93))])
          (.skip)) <|
        .seq (.reg false [.op .none 95 (.mv (.t 8)),
          .op .none 96 (.ld true 3 (.t 13)),
          .op .none 97 (.buildS false 3 1 true [(.w (.int .i64 0)), (.w (.int .i64 0)), (.w (.string ⟨#[]⟩))] [(0, (.t 96))]),
          .op .none 98 (.app 3 32 (.t 95) (.t 97)),
          .op .none 8 (.mv (.t 98))]) <|
        .reg true [.op .none 99 (.mv (.t 9)),
          .op .none 100 (.mv (.t 11)),
          .op .none 101 (.mv (.t 12)),
          .op .none 102 (.ia 4 (.t 100) (.t 101)),
          .op .none 103 (.fa 1 (.t 102)),
          .op .none 104 (.ld false 1 (.t 103)),
          .op .none 105 (.bin .add (.t 99) (.t 104)),
          .op .none 106 (.mv (.t 10)),
          .op .none 107 (.mv (.t 11)),
          .op .none 108 (.mv (.t 12)),
          .op .none 109 (.ia 4 (.t 107) (.t 108)),
          .op .none 110 (.fa 2 (.t 109)),
          .op .none 111 (.ld false 1 (.t 110)),
          .op .none 112 (.bin .add (.t 106) (.t 111)),
          .op .none 9 (.mv (.t 105)),
          .op .none 10 (.mv (.t 112))]) <|
  .seq (.reg false [.op .none 113 (.mv (.t 8)),
    .op .none 6 (.mv (.t 113))]) <|
  .ret
theorem k45 : FnCode Try.prog 45 [] 114 [6] c45 := ⟨Try.f45, Try.func45, fun xs W => Try.call45 xs W, by kernel_rfl, by kernel_rfl, by kernel_rfl⟩

/-- ablaut/ablautref23.Edits -/
def c21 : MC :=
  .seq (.reg false [.op .none 3 (.box false (.t 0)),
    .op .none 6 (.nilS 3),
    .op .none 7 (.mv (.c (.w (.int .i64 0))))]) <|
  .seq (.seq (.reg false [.op .none 9 (.ld true 5 (.t 3)),
    .op .none 10 (.mv (.t 1)),
    .op .none 11 (.mv (.t 2)),
    .op .none 12 (.buildS false 1 2 false [(.sl 1 [])] [(0, (.t 10)), (1, (.t 11))]),
    .call .none 13 (.f 37) [(.t 9), (.t 12)],
    .op .none 8 (.mv (.t 13))]) <|
  .seq (.reg false [.op .none 14 (.mv (.t 8)),
    .op .none 15 (.bin .neq (.t 14) (.c (.w (.int .i64 0))))]) <|
  .cond (.t 15)
    (.seq (.reg false [.op .none 16 (.mv (.t 8)),
      .op .none 6 (.nilS 3),
      .op .none 7 (.mv (.t 16))]) <|
    .ret)
    (.skip)) <|
  .seq (.reg false [.op .none 17 (.ld true 5 (.t 3)),
    .op .none 18 (.mv (.t 1)),
    .op .none 19 (.mv (.t 2)),
    .call .none 20 (.f 45) [(.t 17), (.t 18), (.t 19)],
    .op .none 6 (.mv (.t 20)),
    .op .none 7 (.mv (.c (.w (.int .i64 0))))]) <|
  .ret
theorem k21 : FnCode Try.prog 21 [] 21 [6, 7] c21 := ⟨Try.f21, Try.func21, fun xs W => Try.call21 xs W, by kernel_rfl, by kernel_rfl, by kernel_rfl⟩

/-- ablaut/ablautref23.SameEdits -/
def c22 : MC :=
  .seq (.reg false [.op .none 4 (.mv (.c (.w (.bool false))))]) <|
  .seq (.seq (.reg false [.op .none 6 (.mv (.t 0)),
    .op .none 7 (.len false (.t 6)),
    .op .none 8 (.mv (.t 1)),
    .op .none 9 (.len false (.t 8)),
    .op .none 10 (.bin .neq (.t 7) (.t 9))]) <|
  .cond (.t 10)
    (.seq (.reg false [.op .none 4 (.mv (.c (.w (.bool false))))]) <|
    .ret)
    (.skip)) <|
  .seq (.seq (.reg false [.op .none 5 (.mv (.c (.w (.int .i64 0))))]) <|
  .block 0 <|
    .loop <|
      .seq (.seq (.reg false [.op .none 11 (.mv (.t 5)),
        .op .none 12 (.mv (.t 0)),
        .op .none 13 (.len false (.t 12)),
        .op .none 14 (.bin .lss (.t 11) (.t 13))]) <|
      .cond (.t 14)
        (.skip)
        (.exit 0)) <|
      .seq (.block 1 <|
        .seq (.reg true [.op .none 17 (.mv (.t 0)),
          .op .none 18 (.mv (.t 5)),
          .op .none 19 (.ia 3 (.t 17) (.t 18)),
          .op .none 20 (.ld true 3 (.t 19)),
          .op .none 21 (.mv (.t 1)),
          .op .none 22 (.mv (.t 5)),
          .op .none 23 (.ia 3 (.t 21) (.t 22)),
          .op .none 24 (.ld true 3 (.t 23)),
          .op .none 25 (.eqS true [true, true, false] (.t 20) (.t 24))]) <|
        .cond (.t 25)
          (.seq (.reg false [.op .none 4 (.mv (.c (.w (.bool false))))]) <|
          .ret)
          (.skip)) <|
      .reg false [.op .none 15 (.mv (.t 5)),
        .op .none 16 (.bin .add (.t 15) (.c (.w (.int .i64 1)))),
        .op .none 5 (.mv (.t 16))]) <|
  .seq (.reg false [.op .none 4 (.mv (.c (.w (.bool true))))]) <|
  .ret
theorem k22 : FnCode Try.prog 22 [] 26 [4] c22 := ⟨Try.f22, Try.func22, fun xs W => Try.call22 xs W, by kernel_rfl, by kernel_rfl, by kernel_rfl⟩

set_option maxRecDepth 100000 in
theorem fok45 (p : PricesT) (a b : List Bs) (hp : OkP p) (ha : a.length ≤ 60) (hb : b.length ≤ 60) : FOk Try.prog 45 [.v (pricesV p), .v (.word a), .v (.word b)] [] (.v (editsV (edF p a b))) [] := by
  have hR := fok70 p a b hp ha hb
  have hst := fun i k hi hk => fok72 p a b i k hp ha hb hi hk
  have hpr := fun i j => pr_bound hp (a.drop i) (b.drop j)
  have hpn := fun i j => pr_nonneg p (a.drop i) (b.drop j)
  simp only [List.length_drop] at hpr
  have hcell : ∀ i k, i ≤ a.length → k ≤ b.length → ∃ (h1 : i < (rowsF p a b 0).length) (h3 : k < (rowF p a b i).length), (rowsF p a b 0)[i] = .sl 1 ((rowF p a b i).map tI) ∧ (rowF p a b i)[k] = pr p (a.drop i) (b.drop k) := by
    intro i k hi hk
    obtain ⟨h1, h2⟩ := List.getElem?_eq_some_iff.1 (rowsF_at p a b (I := 0) (i := i) (by omega) hi)
    obtain ⟨h3, h4⟩ := List.getElem?_eq_some_iff.1 (rowF_at p a b (i := i) hk)
    exact ⟨h1, h3, h2, h4⟩
  obtain ⟨pd, pp, ps, pc, rows, u⟩ := p
  simp only [pricesV] at hR hst
  refine FOk.val k45 (by simp) (by simp) (by decide) ?_
  simp [c45, pricesV]
  refine CallG.plain rfl rfl rfl rfl hR (by simp) (by simp) ?_
  simp
  refine Run.loopA (ι := Nat × Nat × List EditT) [(3, 3), (1, 8)] (fun q => q.1 ≤ a.length ∧ q.2.1 ≤ b.length ∧ q.2.2.length + (a.length - q.1) + (b.length - q.2.1) ≤ a.length + b.length ∧
      ∃ n, (a.length - q.1) + (b.length - q.2.1) ≤ n ∧ q.2.2 ++ edL (pd, pp, ps, pc, rows, u) n q.1 (a.drop q.1) (b.drop q.2.1) = edF (pd, pp, ps, pc, rows, u) a b)
    (fun q => ⟨[(1, .v (.word a)), (2, .v (.word b)), (3, .ptr 3 0 0), (7, .v (.sl 1 (rowsF (pd, pp, ps, pc, rows, u) a b 0))), (8, .h 1), (9, .I q.1), (10, .I q.2.1)], [(3, ⟨false, 5, [pricesV (pd, pp, ps, pc, rows, u)]⟩), (1, ⟨false, 3, q.2.2.map editV⟩)], 1024⟩)
    (fun q => (a.length - q.1) + (b.length - q.2.1)) (0, 0, []) (by decide) (by simp [pricesV]) ⟨by simp, by simp, by simp, a.length + b.length, by simp, by simp [edF]⟩ ?_
  rintro ⟨i, k, out⟩ ⟨hi, hk, hol, n, hn, hall⟩ ih
  simp only at hi hk hol hn hall ih ⊢
  by_cases hd : i < a.length ∨ k < b.length
  · have hz : ¬ (a.drop i = [] ∧ b.drop k = []) := by simp; omega
    obtain ⟨n, rfl⟩ : ∃ m, n = m + 1 := ⟨n - 1, by omega⟩
    unfold edL at hall
    rw [if_neg hz] at hall
    have hby := kindOf_by hp (w := a.drop i) (v := b.drop k) (by
      by_cases h1 : a.drop i = []
      · exact .inr fun h2 => hz ⟨h1, h2⟩
      · exact .inl h1)
    have cap : (out.length + 1 + 1000) * 32 ≤ 70368744177664 := by omega
    have la : (a.drop i).length = a.length - i := by simp
    have lb : (b.drop k).length = b.length - k := by simp
    have hcall := hst i k hi hk
    have hll := stepsL_len (pd, pp, ps, pc, rows, u) (a.drop i) (b.drop k)
    have hinv := fun s hs => stepsL_inv (p := (pd, pp, ps, pc, rows, u)) (w := a.drop i) (v := b.drop k) (s := s) hp hs
    have hfirst := fun n h1 h2 h3 => first_step (p := (pd, pp, ps, pc, rows, u)) hp hz (n := n) h1 h2 h3
    obtain ⟨m0, hm0, hm1⟩ := some_step (p := (pd, pp, ps, pc, rows, u)) hp hz
    obtain ⟨c1, c2, c3, c4⟩ := hcell i k hi hk
    obtain ⟨L, hL⟩ : ∃ L, L = stepsL (pd, pp, ps, pc, rows, u) (a.drop i) (b.drop k) := ⟨_, rfl⟩
    simp only [← hL] at hll hinv hfirst hm0 hm1 hcall
    have hdd : i < a.length ∨ (¬ i < a.length ∧ k < b.length) := by omega
    rcases hdd with h1 | ⟨h1, h2⟩
    case' inl => simp (disch := omega) [h1, wrap_i64, pricesV]
    case' inr => simp (disch := omega) [h1, h2, wrap_i64, pricesV]
    all_goals
      refine CallG.plain rfl rfl rfl rfl hcall (by simp) (by simp) ?_
      simp [stepsV]
      clear h1
      refine Run.cutB (ι := Nat) [(3, 3), (1, 8)] (fun n => ∃ h : n < L.length, ∃ c, L[n] = kStep (kindOf (pd, pp, ps, pc, rows, u) (a.drop i) (b.drop k)) c)
        (fun n => ⟨[(1, .v (.word a)), (2, .v (.word b)), (3, .ptr 3 0 0), (7, .v (.sl 1 (rowsF (pd, pp, ps, pc, rows, u) a b 0))), (8, .h 1), (9, .I i), (10, .I k), (11, .v (.sl 4 (L.map stepV))), (12, .I n)], [(3, ⟨false, 5, [pricesV (pd, pp, ps, pc, rows, u)]⟩), (1, ⟨false, 3, out.map editV⟩)], 1024⟩) (by decide) ?_ ?_
      · rintro m ⟨hm, c, hmc⟩
        generalize hkk : kindOf (pd, pp, ps, pc, rows, u) (a.drop i) (b.drop k) = K at hby hall hmc
        have hK4 : K ≤ 4 := by rw [← hkk]; exact kindOf_le _ _ _
        have hin := byG_inv hby
        simp only [List.drop_drop] at hall
        have cc : K = 0 ∨ K = 1 ∨ K = 2 ∨ K = 3 ∨ K = 4 := by omega
        clear hkk
        rcases cc with rfl | rfl | rfl | rfl | rfl
        · simp only [kA, kB, kS] at hall hmc
          have hi1 : i < a.length := by
            rcases hin with ⟨_, x, w, v, e1, e2, _⟩ | hin
            · rw [e1] at la; simp at la; omega
            · simp at hin
          have hj1 : k < b.length := by
            rcases hin with ⟨_, x, w, v, e1, e2, _⟩ | hin
            · rw [e2] at lb; simp at lb; omega
            · simp at hin
          simp (disch := omega) [wrap_i64, hm, hmc, stepV, kA, kB, cap]
          exact ih (i + 1, k + 1, out ++ [(0, (i : Int), [], ())]) _ ⟨by simp; omega, by simp; omega, by simp; omega, n, by simp; omega, by simpa using hall⟩ (by simp; omega) (by simp [editV, pricesV])
        · simp only [kA, kB, kS] at hall hmc
          have hi1 : i < a.length := by
            rcases hin with hin | ⟨_, x, w, e1, _⟩ | hin
            · simp at hin
            · rw [e1] at la; simp at la; omega
            · simp at hin
          simp (disch := omega) [wrap_i64, hm, hmc, stepV, kA, kB, cap]
          exact ih (i + 1, k, out ++ [(1, (i : Int), [], ())]) _ ⟨by simp; omega, by simp; omega, by simp; omega, n, by simp; omega, by simpa using hall⟩ (by simp; omega) (by simp [editV, pricesV])
        · simp only [kA, kB, kS] at hall hmc
          have hj1 : k < b.length := by
            rcases hin with hin | hin | ⟨_, x, w, e1, _⟩ | hin
            · simp at hin
            · simp at hin
            · rw [e1] at lb; simp at lb; omega
            · simp at hin
          have bh : (b.drop k).headD [] = b[k] := by rw [drop_at hj1]; rfl
          rw [bh] at hall
          simp (disch := omega) [wrap_i64, hm, hmc, stepV, kA, kB, cap, hj1]
          exact ih (i, k + 1, out ++ [(2, (i : Int), b[k], ())]) _ ⟨by simp; omega, by simp; omega, by simp; omega, n, by simp; omega, by simpa using hall⟩ (by simp; omega) (by simp [editV, pricesV])
        · simp only [kA, kB, kS] at hall hmc
          have hi1 : i < a.length := by
            rcases hin with hin | hin | hin | ⟨_, x, w, y, v, e1, e2, _⟩ | hin
            · simp at hin
            · simp at hin
            · simp at hin
            · rw [e1] at la; simp at la; omega
            · simp at hin
          have hj1 : k < b.length := by
            rcases hin with hin | hin | hin | ⟨_, x, w, y, v, e1, e2, _⟩ | hin
            · simp at hin
            · simp at hin
            · simp at hin
            · rw [e2] at lb; simp at lb; omega
            · simp at hin
          have bh : (b.drop k).headD [] = b[k] := by rw [drop_at hj1]; rfl
          rw [bh] at hall
          simp (disch := omega) [wrap_i64, hm, hmc, stepV, kA, kB, cap, hj1]
          exact ih (i + 1, k + 1, out ++ [(3, (i : Int), b[k], ())]) _ ⟨by simp; omega, by simp; omega, by simp; omega, n, by simp; omega, by simpa using hall⟩ (by simp; omega) (by simp [editV, pricesV])
        · simp only [kA, kB, kS] at hall hmc
          have hi1 : i + 1 < a.length ∧ k + 1 < b.length := by
            rcases hin with hin | hin | hin | hin | ⟨_, x, y, w, v, e1, e2, _⟩
            · simp at hin
            · simp at hin
            · simp at hin
            · simp at hin
            · rw [e1] at la; rw [e2] at lb; simp at la lb; omega
          simp (disch := omega) [wrap_i64, hm, hmc, stepV, kA, kB, cap]
          exact ih (i + 2, k + 2, out ++ [(4, (i : Int), [], ())]) _ ⟨by simp; omega, by simp; omega, by simp; omega, n, by simp; omega, by simpa using hall⟩ (by simp; omega) (by simp [editV, pricesV])
      · intro hK
        refine Run.loopA (ι := Nat) [(3, 3), (1, 8)] (fun n => n ≤ m0 ∧ ∀ m (hm : m < L.length), m < n → hit (pd, pp, ps, pc, rows, u) (a.drop i) (b.drop k) L[m] = false)
          (fun n => ⟨[(1, .v (.word a)), (2, .v (.word b)), (3, .ptr 3 0 0), (7, .v (.sl 1 (rowsF (pd, pp, ps, pc, rows, u) a b 0))), (8, .h 1), (9, .I i), (10, .I k), (11, .v (.sl 4 (L.map stepV))), (12, .I n)], [(3, ⟨false, 5, [pricesV (pd, pp, ps, pc, rows, u)]⟩), (1, ⟨false, 3, out.map editV⟩)], 1024⟩) (fun n => m0 - n) 0 (by decide) (by simp [pricesV]) ⟨by simp, by simp⟩ ?_
        rintro n ⟨hnm, hno⟩ ihn
        have hnl : n < L.length := by omega
        have hx := hinv L[n] (List.getElem_mem hnl)
        have hnhit : hit (pd, pp, ps, pc, rows, u) (a.drop i) (b.drop k) L[n] = true → ∃ c, L[n] = kStep (kindOf (pd, pp, ps, pc, rows, u) (a.drop i) (b.drop k)) c := fun h => hfirst n hnl hno h
        generalize hxx : L[n] = x at hx hnhit
        obtain ⟨kk, x, y, c, rfl, g1, g2, g3, g4, g5, g6, g7, g8⟩ := hx
        rw [la] at g2
        rw [lb] at g3
        have hq1 := hpr (i + x) (k + y)
        have hq2 := hpn (i + x) (k + y)
        have hval : stC (pd, pp, ps, pc, rows, u) (a.drop i) (b.drop k) ((kk : Int), (x : Int), (y : Int), c, ()) = c + pr (pd, pp, ps, pc, rows, u) (a.drop (i + x)) (b.drop (k + y)) := by
          simp [stC, List.drop_drop]
        obtain ⟨d1, d2, d3, d4⟩ := hcell (i + x) (k + y) (by omega) (by omega)
        by_cases hh : c + pr (pd, pp, ps, pc, rows, u) (a.drop (i + x)) (b.drop (k + y)) = pr (pd, pp, ps, pc, rows, u) (a.drop i) (b.drop k)
        · obtain ⟨c', e⟩ := hnhit (by simp [hit, hval, hh])
          simp (disch := omega) [hnl, hxx, stepV, wrap_i64, c1, c2, c3, c4, d1, d2, d3, d4, toNatA, nnA, hh]
          exact hK n _ ⟨hnl, c', by rw [hxx]; exact e⟩ (by simp [pricesV])
        · have hnh : hit (pd, pp, ps, pc, rows, u) (a.drop i) (b.drop k) L[n] = false := by rw [hxx]; simp [hit, hval, hh]
          have hne : n ≠ m0 := by rintro rfl; rw [hnh] at hm1; cases hm1
          simp (disch := omega) [hnl, hxx, stepV, wrap_i64, c1, c2, c3, c4, d1, d2, d3, d4, toNatA, nnA, hh]
          refine ihn (n + 1) _ ⟨by omega, fun m hm hmn => ?_⟩ (by omega) (by simp [pricesV])
          rcases Nat.lt_or_ge m n with h' | h'
          · exact hno m hm h'
          · obtain rfl : m = n := by omega
            exact hnh
  · have h1 : ¬ i < a.length := by omega
    have h2 : ¬ k < b.length := by omega
    have h3 : edL (pd, pp, ps, pc, rows, u) n i (a.drop i) (b.drop k) = [] := by
      rw [drop_no h1, drop_no h2]; cases n <;> simp [edL]
    rw [h3, List.append_nil] at hall
    simp (disch := omega) [h1, h2, wrap_i64]
    exact Ends.v rfl (by simp [editsV, ← hall])

theorem fok21 (p : PricesT) (a b : List Bs) (hp : prS p) (ha : wordS a) (hb : wordS b) :
    FOk Try.prog 21 [.v (pricesV p), .v (PV.word a), .v (PV.word b)] [] (.tup [.v (editsV (editsF p a b).1), .I (editsF p a b).2]) [] := by
  have hc := fok37 p [a, b] hp (by simp [ha, hb]) (by simp)
  refine FOk.val k21 (by simp) (by simp) (by decide) ?_
  simp [c21, pricesV]
  refine CallG.lent rfl rfl rfl rfl hc rfl ?_
  simp
  refine ⟨fun h => Ends.v rfl (by simp [editsF, h, editsV]), fun h => ?_⟩
  obtain ⟨h1, h2⟩ := vChecked_ok h
  refine CallG.plain rfl rfl rfl rfl (fok45 p a b h1 (h2 a (by simp)) (h2 b (by simp))) (by simp) (by simp) ?_
  simp
  exact Ends.v rfl (by simp [editsF, h])
theorem fok22 (l : List EditT) (hl : l.length ≤ 200000000000000) : FOk Try.prog 22 [.v (editsV l), .v (editsV l)] [] (.B true) [] := by
  refine FOk.val k22 (by simp) (by simp) (by decide) ?_
  simp [c22, editsV]
  refine Run.loopA (ι := Nat) [] (fun i => i ≤ l.length) (fun i => ⟨[(0, .v (.sl 3 (l.map editV))), (1, .v (.sl 3 (l.map editV))), (5, .I i)], [], 1024⟩) (fun i => l.length - i) 0 (by decide) (by simp) (by simp) ?_
  rintro i hi ih
  by_cases h : i < l.length
  · simp (disch := omega) [h, wrap_i64, editV]
    exact ih (i + 1) _ (by omega) (by omega) (by simp)
  · simp (disch := omega) [h, wrap_i64]
    exact Ends.v rfl (by simp)

end Go.Proofs
