/- The walk. -/
import Derived.Test.YtphjjlhpepmofaaF8
import Derived.Test.YtphjjlhpepmofaaF7
import Derived.Test.YtphjjlhpepmofaaProg
import Derived.KernelRfl
set_option linter.all false
set_option maxHeartbeats 2000000
namespace Go.Proofs
open Go Go.AM
attribute [local irreducible] Run Ends
/-- (*ablaut/spell.table).edits -/
def c44 : MC :=
  .seq (.reg false [.op .none 2 (.nilS 3)]) <|
  .seq (.reg false [.op .none 3 (.nilS 3)]) <|
  .seq (.reg false [.op .none 4 (.mv (.c (.w (.int .i64 0)))),
    .op .none 5 (.mv (.c (.w (.int .i64 0))))]) <|
  .seq (.block 0 <|
    .loop <|
      .seq (.seq (.reg false [.op .none 10 (.mv (.t 4)),
        .op .none 11 (.mv (.t 0)),
        .op .none 12 (.chk (.t 11)),
        .op .none 13 (.fa 5 (.t 12)),
        .op .none 14 (.ld false 1 (.t 13)),
        .op .none 15 (.len false (.t 14)),
        .op .none 16 (.bin .lss (.t 10) (.t 15)),
        .op .none 17 (.mv (.t 16)),
        .op (.some (17, false)) 18 (.mv (.t 5)),
        .op (.some (17, false)) 19 (.mv (.t 0)),
        .op (.some (17, false)) 20 (.chk (.t 19)),
        .op (.some (17, false)) 21 (.fa 6 (.t 20)),
        .op (.some (17, false)) 22 (.ld false 1 (.t 21)),
        .op (.some (17, false)) 23 (.len false (.t 22)),
        .op (.some (17, false)) 24 (.bin .lss (.t 18) (.t 23)),
        .op .none 25 (.pick (.t 17) (.c (.w (.bool true))) (.t 24))]) <|
      .cond (.t 25)
        (.skip)
        (.exit 0)) <|
      .block 1 <|
        .seq (.reg false [.op .none 6 (.mv (.c (.w (.int .i64 0))))]) <|
        .seq (.block 2 <|
          .loop <|
            .seq (.seq (.reg false [.op .none 26 (.mv (.t 6)),
              .op .none 27 (.bin .lss (.t 26) (.c (.w (.int .i64 4))))]) <|
            .cond (.t 27)
              (.skip)
              (.exit 2)) <|
            .seq (.block 3 <|
              .seq (.reg false [.op .none 31 (.mv (.t 0)),
                .op .none 32 (.mv (.t 6)),
                .op .none 33 (.mv (.t 4)),
                .op .none 34 (.mv (.t 5)),
                .call .none 35 (.f 69) [(.t 31), (.t 32), (.t 33), (.t 34)],
                .op .none 30 (.mv (.t 35)),
                .op .none 36 (.ext (.t 30) 0),
                .op .none 37 (.ext (.t 30) 1),
                .op .none 7 (.mv (.t 36)),
                .op .none 8 (.mv (.t 37))]) <|
              .seq (.reg false [.op .none 38 (.mv (.t 8)),
                .op .none 39 (.mv (.t 38)),
                .op (.some (39, true)) 40 (.mv (.t 7)),
                .op (.some (39, true)) 41 (.mv (.t 0)),
                .op (.some (39, true)) 42 (.mv (.t 4)),
                .op (.some (39, true)) 43 (.mv (.t 5)),
                .op (.some (39, true)) 44 (.chk (.t 41)),
                .op (.some (39, true)) 45 (.fa 7 (.t 44)),
                .op (.some (39, true)) 46 (.iaA 61 61 (.t 45) (.t 42)),
                .op (.some (39, true)) 47 (.iaA 61 1 (.t 46) (.t 43)),
                .op (.some (39, true)) 48 (.ld false 1 (.t 47)),
                .op (.some (39, true)) 49 (.bin .eql (.t 40) (.t 48)),
                .op .none 50 (.pick (.t 39) (.t 49) (.c (.w (.bool false))))]) <|
              .cond (.t 50)
                (.exit 2)
                (.skip)) <|
            .reg false [.op .none 28 (.mv (.t 6)),
              .op .none 29 (.bin .add (.t 28) (.c (.w (.int .i64 1)))),
              .op .none 6 (.mv (.t 29))]) <|
        .seq (.reg false [.op .none 51 (.mv (.t 6)),
          .op .none 52 (.mv (.t 4)),
          .op .none 53 (.build false [(.w (.int .i64 0)), (.w (.int .i64 0)), (.w (.string ⟨#[]⟩))] [(0, 1, (.t 51)), (1, 1, (.t 52))]),
          .op .none 9 (.alloc true [(.w (.int .i64 0)), (.w (.int .i64 0)), (.w (.string ⟨#[]⟩))]),
          .store .none (.stt true 3 (.t 9) (.t 53))]) <|
        .seq (.seq (.reg false [.op .none 54 (.mv (.t 6))]) <|
        .block 4 <|
          .seq (.reg false [.op .none 56 (.bin .eql (.t 54) (.c (.w (.int .i64 0)))),
            .op .none 55 (.mv (.t 56))]) <|
          .cond (.t 55)
            (.reg false [.op .none 57 (.mv (.t 4)),
              .op .none 58 (.bin .add (.t 57) (.c (.w (.int .i64 1)))),
              .op .none 59 (.mv (.t 5)),
              .op .none 60 (.bin .add (.t 59) (.c (.w (.int .i64 1)))),
              .op .none 4 (.mv (.t 58)),
              .op .none 5 (.mv (.t 60))])
            (.seq (.reg false [.op .none 62 (.bin .eql (.t 54) (.c (.w (.int .i64 1)))),
              .op .none 61 (.mv (.t 62))]) <|
            .cond (.t 61)
              (.reg false [.op .none 63 (.mv (.t 4)),
                .op .none 64 (.bin .add (.t 63) (.c (.w (.int .i64 1)))),
                .op .none 4 (.mv (.t 64))])
              (.seq (.reg false [.op .none 66 (.bin .eql (.t 54) (.c (.w (.int .i64 2)))),
                .op .none 65 (.mv (.t 66))]) <|
              .cond (.t 65)
                (.seq (.reg false [.op .none 67 (.mv (.t 0)),
                  .op .none 68 (.chk (.t 67)),
                  .op .none 69 (.fa 6 (.t 68)),
                  .op .none 70 (.ld false 1 (.t 69)),
                  .op .none 71 (.mv (.t 5)),
                  .op .none 72 (.ia 1 (.t 70) (.t 71)),
                  .op .none 73 (.ld false 1 (.t 72)),
                  .op .none 74 (.fa 2 (.t 9)),
                  .store .none (.stt false 1 (.t 74) (.t 73))]) <|
                .reg false [.op .none 75 (.mv (.t 5)),
                  .op .none 76 (.bin .add (.t 75) (.c (.w (.int .i64 1)))),
                  .op .none 5 (.mv (.t 76))])
                (.seq (.reg false [.op .none 78 (.bin .eql (.t 54) (.c (.w (.int .i64 3)))),
                  .op .none 77 (.mv (.t 78))]) <|
                .cond (.t 77)
                  (.seq (.reg false [.op .none 79 (.mv (.t 0)),
                    .op .none 80 (.chk (.t 79)),
                    .op .none 81 (.fa 6 (.t 80)),
                    .op .none 82 (.ld false 1 (.t 81)),
                    .op .none 83 (.mv (.t 5)),
                    .op .none 84 (.ia 1 (.t 82) (.t 83)),
                    .op .none 85 (.ld false 1 (.t 84)),
                    .op .none 86 (.fa 2 (.t 9)),
                    .store .none (.stt false 1 (.t 86) (.t 85))]) <|
                  .reg false [.op .none 87 (.mv (.t 4)),
                    .op .none 88 (.bin .add (.t 87) (.c (.w (.int .i64 1)))),
                    .op .none 89 (.mv (.t 5)),
                    .op .none 90 (.bin .add (.t 89) (.c (.w (.int .i64 1)))),
                    .op .none 4 (.mv (.t 88)),
                    .op .none 5 (.mv (.t 90))])
                  (.seq (.reg false [.op .none 92 (.bin .eql (.t 54) (.c (.w (.int .i64 4)))),
                    .op .none 91 (.mv (.t 92))]) <|
                  .cond (.t 91)
                    (.reg false [.op .none 93 (.mv (.t 4)),
                      .op .none 94 (.bin .add (.t 93) (.c (.w (.int .i64 2)))),
                      .op .none 95 (.mv (.t 5)),
                      .op .none 96 (.bin .add (.t 95) (.c (.w (.int .i64 2)))),
                      .op .none 4 (.mv (.t 94)),
                      .op .none 5 (.mv (.t 96))])
                    (.skip)))))) <|
        .reg false [.op .none 97 (.mv (.t 3)),
          .op .none 98 (.ld true 3 (.t 9)),
          .op .none 99 (.buildS false 3 1 true [(.w (.int .i64 0)), (.w (.int .i64 0)), (.w (.string ⟨#[]⟩))] [(0, (.t 98))]),
          .op .none 100 (.app 3 32 (.t 97) (.t 99)),
          .op .none 3 (.mv (.t 100))]) <|
  .seq (.reg false [.op .none 101 (.mv (.t 3)),
    .op .none 2 (.mv (.t 101))]) <|
  .ret
theorem k44 : FnCode Try.prog 44 [] 102 [2] c44 := ⟨Try.f44, Try.func44, fun xs W => Try.call44 xs W, by kernel_rfl, by kernel_rfl, by kernel_rfl⟩

/-- ablaut/spell.Edits -/
def c20 : MC :=
  .seq (.reg false [.op .none 3 (.box false (.t 0)),
    .op .none 6 (.nilS 3),
    .op .none 7 (.mv (.c (.w (.int .i64 0))))]) <|
  .seq (.seq (.reg false [.op .none 9 (.ld true 5 (.t 3)),
    .op .none 10 (.mv (.t 1)),
    .op .none 11 (.mv (.t 2)),
    .op .none 12 (.buildS false 1 2 false [(.sl 1 [])] [(0, (.t 10)), (1, (.t 11))]),
    .call .none 13 (.f 35) [(.t 9), (.t 12)],
    .op .none 8 (.mv (.t 13))]) <|
  .seq (.reg false [.op .none 14 (.mv (.t 8)),
    .op .none 15 (.bin .neq (.t 14) (.c (.w (.int .i64 0))))]) <|
  .cond (.t 15)
    (.seq (.reg false [.op .none 16 (.mv (.t 8)),
      .op .none 6 (.nilS 3),
      .op .none 7 (.mv (.t 16))]) <|
    .ret)
    (.skip)) <|
  .seq (.reg false [.op .none 17 (.ld true 5 (.t 3)),
    .op .none 18 (.mv (.t 1)),
    .op .none 19 (.mv (.t 2)),
    .call .none 20 (.f 36) [(.t 17), (.t 18), (.t 19)],
    .call .none 21 (.f 44) [(.t 20)],
    .op .none 6 (.mv (.t 21)),
    .op .none 7 (.mv (.c (.w (.int .i64 0))))]) <|
  .ret
theorem k20 : FnCode Try.prog 20 [] 22 [6, 7] c20 := ⟨Try.f20, Try.func20, fun xs W => Try.call20 xs W, by kernel_rfl, by kernel_rfl, by kernel_rfl⟩

/-- ablaut/ablautlaw23.change -/
def c26 : MC :=
  .seq (.reg false [.op .none 3 (.box false (.t 0)),
    .op .none 6 (.mv (.c (.w (.int .i64 0))))]) <|
  .seq (.seq (.reg false [.op .none 7 (.mv (.c (.w (.int .i64 0))))]) <|
  .block 0 <|
    .loop <|
      .seq (.seq (.reg false [.op .none 9 (.mv (.t 7)),
        .op .none 10 (.fa 4 (.t 3)),
        .op .none 11 (.ld false 1 (.t 10)),
        .op .none 12 (.len false (.t 11)),
        .op .none 13 (.bin .lss (.t 9) (.t 12))]) <|
      .cond (.t 13)
        (.skip)
        (.exit 0)) <|
      .seq (.block 1 <|
        .seq (.reg false [.op .none 16 (.fa 4 (.t 3)),
          .op .none 17 (.ld false 1 (.t 16)),
          .op .none 18 (.mv (.t 7)),
          .op .none 19 (.ia 3 (.t 17) (.t 18)),
          .op .none 20 (.ld true 3 (.t 19)),
          .op .none 8 (.alloc true [(.w (.string ⟨#[]⟩)), (.w (.string ⟨#[]⟩)), (.w (.int .i64 0))]),
          .store .none (.stt true 3 (.t 8) (.t 20))]) <|
        .seq (.reg false [.op .none 21 (.fa 0 (.t 8)),
          .op .none 22 (.ld false 1 (.t 21)),
          .op .none 23 (.mv (.t 1)),
          .op .none 24 (.bin .eql (.t 22) (.t 23)),
          .op .none 25 (.mv (.t 24)),
          .op (.some (25, true)) 26 (.fa 1 (.t 8)),
          .op (.some (25, true)) 27 (.ld false 1 (.t 26)),
          .op (.some (25, true)) 28 (.mv (.t 2)),
          .op (.some (25, true)) 29 (.bin .eql (.t 27) (.t 28)),
          .op .none 30 (.pick (.t 25) (.t 29) (.c (.w (.bool false)))),
          .op .none 31 (.mv (.t 30)),
          .op (.some (31, false)) 32 (.fa 0 (.t 8)),
          .op (.some (31, false)) 33 (.ld false 1 (.t 32)),
          .op (.some (31, false)) 34 (.mv (.t 2)),
          .op (.some (31, false)) 35 (.bin .eql (.t 33) (.t 34)),
          .op (.some (31, false)) 36 (.mv (.t 35)),
          .op (.some (36, true)) 37 (.fa 1 (.t 8)),
          .op (.some (36, true)) 38 (.ld false 1 (.t 37)),
          .op (.some (36, true)) 39 (.mv (.t 1)),
          .op (.some (36, true)) 40 (.bin .eql (.t 38) (.t 39)),
          .op (.some (31, false)) 41 (.pick (.t 36) (.t 40) (.c (.w (.bool false)))),
          .op .none 42 (.pick (.t 31) (.c (.w (.bool true))) (.t 41))]) <|
        .cond (.t 42)
          (.seq (.reg false [.op .none 43 (.fa 2 (.t 8)),
            .op .none 44 (.ld false 1 (.t 43)),
            .op .none 6 (.mv (.t 44))]) <|
          .ret)
          (.skip)) <|
      .reg false [.op .none 14 (.mv (.t 7)),
        .op .none 15 (.bin .add (.t 14) (.c (.w (.int .i64 1)))),
        .op .none 7 (.mv (.t 15))]) <|
  .seq (.reg false [.op .none 45 (.fa 3 (.t 3)),
    .op .none 46 (.ld false 1 (.t 45)),
    .op .none 6 (.mv (.t 46))]) <|
  .ret
theorem k26 : FnCode Try.prog 26 [] 47 [6] c26 := ⟨Try.f26, Try.func26, fun xs W => Try.call26 xs W, by kernel_rfl, by kernel_rfl, by kernel_rfl⟩

theorem edL_len (p : PricesT) : ∀ (n i : Nat) (w v : List Bs), (edL p n i w v).length ≤ n
  | 0, _, _, _ => by simp [edL]
  | n + 1, i, w, v => by
    unfold edL
    split
    · simp
    · simp; exact edL_len p n _ _ _
/-- The first kinds do not cost the price. -/
theorem kindOf_ge {p : PricesT} {w v : List Bs} {k : Nat} (h : ∀ m, m < k → byG p (pr p) m w v ≠ some (pr p w v)) (hk : k ≤ 4) : k ≤ kindOf p w v := by
  unfold kindOf
  by_cases h0 : 0 < k
  · rw [if_neg (h 0 h0)]
    by_cases h1 : 1 < k
    · rw [if_neg (h 1 h1)]
      by_cases h2 : 2 < k
      · rw [if_neg (h 2 h2)]
        by_cases h3 : 3 < k
        · rw [if_neg (h 3 h3)]; omega
        · split <;> omega
      · (repeat' split) <;> omega
    · (repeat' split) <;> omega
  · omega
theorem kindOf_is {p : PricesT} {w v : List Bs} {k : Nat} (h : ∀ m, m < k → byG p (pr p) m w v ≠ some (pr p w v)) (hk : k < 4) (e : byG p (pr p) k w v = some (pr p w v)) : kindOf p w v = k := by
  unfold kindOf
  by_cases h0 : 0 < k
  · rw [if_neg (h 0 h0)]
    by_cases h1 : 1 < k
    · rw [if_neg (h 1 h1)]
      by_cases h2 : 2 < k
      · rw [if_neg (h 2 h2)]
        obtain rfl : k = 3 := by omega
        rw [if_pos e]
      · obtain rfl : k = 2 := by omega
        rw [if_pos e]
    · obtain rfl : k = 1 := by omega
      rw [if_pos e]
  · obtain rfl : k = 0 := by omega
    rw [if_pos e]
set_option maxRecDepth 100000 in
theorem fok44 (p : PricesT) (a b : List Bs) (hp : OkP p) (ha : a.length ≤ 60) (hb : b.length ≤ 60) :
    FOk Try.prog 44 [.ptr 0 0 0] [(0, ⟨false, 3728, [.st (tabC p a b (tabF p a b))]⟩)] (.v (editsV (edF p a b))) [] := by
  have hT : ∀ i' j', i' ≤ a.length → j' ≤ b.length → (tabF p a b)[i' * 61 + j']? = some (pr p (a.drop i') (b.drop j')) :=
    fun i' j' h1 h2 => tabD_get p a b (by omega) h1 h2 ha hb
  have hTl : (tabF p a b).length = 3721 := tabD_len _ _ _ _ _
  refine FOk.of k44 1 (by simp) (by decide) (by simp) (by simp) (by intro k e e' g1 g2; simp [find] at g2) (by decide) ?_
  simp [c44]
  refine Run.loopA (ι := Nat × Nat × List EditT) [(0, 0), (1, 3)] (fun q => q.1 ≤ a.length ∧ q.2.1 ≤ b.length ∧ q.2.2.length + (a.length - q.1) + (b.length - q.2.1) ≤ a.length + b.length ∧
      ∃ n, (a.length - q.1) + (b.length - q.2.1) ≤ n ∧ q.2.2 ++ edL p n q.1 (a.drop q.1) (b.drop q.2.1) = edF p a b)
    (fun q => ⟨[(0, .ptr 0 0 0), (3, .h 1), (4, .I q.1), (5, .I q.2.1)], [(0, ⟨false, 3728, [.st (tabC p a b (tabF p a b))]⟩), (1, ⟨false, 3, q.2.2.map editV⟩)], 1024⟩)
    (fun q => (a.length - q.1) + (b.length - q.2.1)) (0, 0, []) (by decide) (by simp) ⟨by simp, by simp, by simp, a.length + b.length, by simp, by simp [edF]⟩ ?_
  rintro ⟨i, j, out⟩ ⟨hi, hj, hol, n, hn, hall⟩ ih
  simp only at hi hj hol hn hall ih ⊢
  by_cases hd : i < a.length ∨ j < b.length
  · have hz : ¬ (a.drop i = [] ∧ b.drop j = []) := by simp; omega
    obtain ⟨n, rfl⟩ : ∃ m, n = m + 1 := ⟨n - 1, by omega⟩
    unfold edL at hall
    rw [if_neg hz] at hall
    have hby := kindOf_by hp (w := a.drop i) (v := b.drop j) (by
      by_cases h1 : a.drop i = []
      · exact .inr fun h2 => hz ⟨h1, h2⟩
      · exact .inl h1)
    have hdd : i < a.length ∨ (¬ i < a.length ∧ j < b.length) := by omega
    have hcell := hT i j hi hj
    obtain ⟨hck, hc⟩ := List.getElem?_eq_some_iff.1 hcell
    have cap : (out.length + 1 + 1000) * 32 ≤ 70368744177664 := by omega
    have la : (a.drop i).length = a.length - i := by simp
    have lb : (b.drop j).length = b.length - j := by simp
    rcases hdd with h1 | ⟨h1, h2⟩
    all_goals
      simp (disch := omega) [*, wrap_i64]
      refine Run.cutB (ι := Nat) [(0, 0), (1, 3)] (fun k => k ≤ 4 ∧ kindOf p (a.drop i) (b.drop j) = k) (fun k => ⟨[(0, .ptr 0 0 0), (3, .h 1), (4, .I i), (5, .I j), (6, .I k)], [(0, ⟨false, 3728, [.st (tabC p a b (tabF p a b))]⟩), (1, ⟨false, 3, out.map editV⟩)], 1024⟩) (by decide) ?_ ?_
      · rintro k ⟨hk4, hkk⟩
        clear h1
        rw [hkk] at hby hall
        have hin := byG_inv hby
        simp only [List.drop_drop] at hall
        have cc : k = 0 ∨ k = 1 ∨ k = 2 ∨ k = 3 ∨ k = 4 := by omega
        rcases cc with rfl | rfl | rfl | rfl | rfl
        · simp only [kA, kB, kS] at hall
          have hi1 : i < a.length := by
            rcases hin with ⟨_, x, w, v, e1, e2, _⟩ | hin
            · rw [e1] at la; simp at la; omega
            · simp at hin
          have hj1 : j < b.length := by
            rcases hin with ⟨_, x, w, v, e1, e2, _⟩ | hin
            · rw [e2] at lb; simp at lb; omega
            · simp at hin
          simp (disch := omega) [wrap_i64, cap]
          exact ih (i + 1, j + 1, out ++ [(0, (i : Int), [], ())]) _ ⟨by simp; omega, by simp; omega, by simp; omega, n, by simp; omega, by simpa using hall⟩ (by simp; omega) (by simp [editV])
        · simp only [kA, kB, kS] at hall
          have hi1 : i < a.length := by
            rcases hin with hin | ⟨_, x, w, e1, _⟩ | hin
            · simp at hin
            · rw [e1] at la; simp at la; omega
            · simp at hin
          simp (disch := omega) [wrap_i64, cap]
          exact ih (i + 1, j, out ++ [(1, (i : Int), [], ())]) _ ⟨by simp; omega, by simp; omega, by simp; omega, n, by simp; omega, by simpa using hall⟩ (by simp; omega) (by simp [editV])
        · simp only [kA, kB, kS] at hall
          have hj1 : j < b.length := by
            rcases hin with hin | hin | ⟨_, x, w, e1, _⟩ | hin
            · simp at hin
            · simp at hin
            · rw [e1] at lb; simp at lb; omega
            · simp at hin
          have bh : (b.drop j).headD [] = b[j] := by rw [drop_at hj1]; rfl
          rw [bh] at hall
          simp (disch := omega) [wrap_i64, cap, hj1]
          exact ih (i, j + 1, out ++ [(2, (i : Int), b[j], ())]) _ ⟨by simp; omega, by simp; omega, by simp; omega, n, by simp; omega, by simpa using hall⟩ (by simp; omega) (by simp [editV])
        · simp only [kA, kB, kS] at hall
          have hi1 : i < a.length := by
            rcases hin with hin | hin | hin | ⟨_, x, w, y, v, e1, e2, _⟩ | hin
            · simp at hin
            · simp at hin
            · simp at hin
            · rw [e1] at la; simp at la; omega
            · simp at hin
          have hj1 : j < b.length := by
            rcases hin with hin | hin | hin | ⟨_, x, w, y, v, e1, e2, _⟩ | hin
            · simp at hin
            · simp at hin
            · simp at hin
            · rw [e2] at lb; simp at lb; omega
            · simp at hin
          have bh : (b.drop j).headD [] = b[j] := by rw [drop_at hj1]; rfl
          rw [bh] at hall
          simp (disch := omega) [wrap_i64, cap, hj1]
          exact ih (i + 1, j + 1, out ++ [(3, (i : Int), b[j], ())]) _ ⟨by simp; omega, by simp; omega, by simp; omega, n, by simp; omega, by simpa using hall⟩ (by simp; omega) (by simp [editV])
        · simp only [kA, kB, kS] at hall
          have hi1 : i + 1 < a.length ∧ j + 1 < b.length := by
            rcases hin with hin | hin | hin | hin | ⟨_, x, y, w, v, e1, e2, _⟩
            · simp at hin
            · simp at hin
            · simp at hin
            · simp at hin
            · rw [e1] at la; rw [e2] at lb; simp at la lb; omega
          simp (disch := omega) [wrap_i64, cap]
          exact ih (i + 2, j + 2, out ++ [(4, (i : Int), [], ())]) _ ⟨by simp; omega, by simp; omega, by simp; omega, n, by simp; omega, by simpa using hall⟩ (by simp; omega) (by simp [editV])
      · intro hK
        refine Run.loopA (ι := Nat) [(0, 0), (1, 3)] (fun k => k ≤ 4 ∧ ∀ m, m < k → byG p (pr p) m (a.drop i) (b.drop j) ≠ some (pr p (a.drop i) (b.drop j))) (fun k => ⟨[(0, .ptr 0 0 0), (3, .h 1), (4, .I i), (5, .I j), (6, .I k)], [(0, ⟨false, 3728, [.st (tabC p a b (tabF p a b))]⟩), (1, ⟨false, 3, out.map editV⟩)], 1024⟩) (fun k => 4 - k) 0 (by decide) (by simp) ⟨by simp, by simp⟩ ?_
        rintro k ⟨hk4, hkm⟩ ihk
        by_cases hk : k < 4
        · have hB := fok69 p a b (tabF p a b) k i j hp ha hb hTl (by omega) hi hj (fun i' j' _ _ _ h4 h5 => hT i' j' h4 h5)
          simp (disch := omega) [hk, wrap_i64]
          cases hbk : byG p (pr p) k (a.drop i) (b.drop j) with
          | none =>
            rw [hbk] at hB
            refine CallG.same [0] rfl rfl rfl rfl (by simp) (by simp) hB (by simp [resO]) (by simp [Named']) ?_
            simp (disch := omega) [resO, wrap_i64]
            refine ihk (k + 1) _ ⟨by omega, ?_⟩ (by omega) (by simp)
            intro m hm
            rcases Nat.lt_or_ge m k with hm2 | hm2
            · exact hkm m hm2
            · obtain rfl : m = k := by omega
              rw [hbk]; simp
          | some c =>
            rw [hbk] at hB
            refine CallG.same [0] rfl rfl rfl rfl (by simp) (by simp) hB (by simp [resO]) (by simp [Named']) ?_
            have l1 : i < 61 := by omega
            have l2 : j < 61 := by omega
            have l3 : 7 + i * 61 + j < 3728 := by omega
            by_cases hcp : c = pr p (a.drop i) (b.drop j)
            · subst hcp
              simp (disch := omega) [resO, wrap_i64, l1, l2, l3, hc]
              exact hK k _ ⟨hk4, kindOf_is hkm hk hbk⟩ (by simp)
            · simp (disch := omega) [resO, wrap_i64, l1, l2, l3, hc, hcp]
              refine ihk (k + 1) _ ⟨by omega, ?_⟩ (by omega) (by simp)
              intro m hm
              rcases Nat.lt_or_ge m k with hm2 | hm2
              · exact hkm m hm2
              · obtain rfl : m = k := by omega
                rw [hbk]; simpa using hcp
        · obtain rfl : k = 4 := by omega
          simp (disch := omega) [wrap_i64]
          exact hK 4 _ ⟨by omega, by have := kindOf_ge hkm (by omega); have := kindOf_le p (a.drop i) (b.drop j); omega⟩ (by simp)
  · have h1 : ¬ i < a.length := by omega
    have h2 : ¬ j < b.length := by omega
    have h3 : edL p n i (a.drop i) (b.drop j) = [] := by
      rw [drop_no h1, drop_no h2]; cases n <;> simp [edL]
    rw [h3, List.append_nil] at hall
    simp (disch := omega) [h1, h2, wrap_i64]
    exact Ends.v rfl (by simp [editsV, ← hall])

/-- The edits of one word to another one. -/
def editsF (p : PricesT) (a b : List Bs) : List EditT × Int := if vChecked p [a, b] = 0 then (edF p a b, 0) else ([], vChecked p [a, b])
theorem fok20 (p : PricesT) (a b : List Bs) (hp : prS p) (ha : wordS a) (hb : wordS b) :
    FOk Try.prog 20 [.v (pricesV p), .v (PV.word a), .v (PV.word b)] [] (.tup [.v (editsV (editsF p a b).1), .I (editsF p a b).2]) [] := by
  have hc := fok35 p [a, b] hp (by simp [ha, hb]) (by simp)
  refine FOk.val k20 (by simp) (by simp) (by decide) ?_
  simp [c20, pricesV]
  refine CallG.lent rfl rfl rfl rfl hc rfl ?_
  simp
  refine ⟨fun h => Ends.v rfl (by simp [editsF, h, editsV]), fun h => ?_⟩
  obtain ⟨h1, h2⟩ := vChecked_ok h
  have ha := h2 a (by simp)
  have hb := h2 b (by simp)
  refine CallG.plain rfl rfl rfl rfl (fok36 p a b h1 ha hb) (by simp) (by simp) ?_
  simp
  refine CallG.rows [25620] rfl rfl rfl rfl (by simp) (by simp) (fok44 p a b h1 ha hb) (by simp) (by simp) ?_
  simp

  exact Ends.v rfl (by simp [editsF, h])
theorem fok26 (p : PricesT) (x y : Bs) (hl : p.2.2.2.2.1.length ≤ 1000000) : FOk Try.prog 26 [.v (pricesV p), .S x, .S y] [] (.I (chg p x y)) [] := by
  obtain ⟨pd, pp, ps, pc, l, u⟩ := p
  simp only at hl
  refine FOk.val k26 (by simp) (by simp) (by decide) ?_
  simp [c26, pricesV]
  refine Run.loopA (ι := Nat) [(1, 3)] (fun i => i ≤ l.length ∧ chgL x y pc (l.drop i) = chgL x y pc l) (fun i => ⟨[(1, .S x), (2, .S y), (3, .ptr 1 0 0), (7, .I i)], [(1, ⟨false, 5, [pricesV (pd, pp, ps, pc, l, u)]⟩)], 1024⟩) (fun i => l.length - i) 0 (by decide) (by simp [pricesV]) ⟨by simp, by simp⟩ ?_
  rintro i ⟨hi, hall⟩ ih
  by_cases h : i < l.length
  · rw [drop_at h] at hall
    simp only [chgL] at hall
    have go : ∀ (E : List (Nat × AV)) (H : AM.Heap) (nx : Nat), True := fun _ _ _ => trivial
    clear go
    by_cases A : l[i].1 = x
    · by_cases B : l[i].2.1 = y
      · rw [if_pos (.inl ⟨A, B⟩)] at hall
        simp (disch := omega) [h, wrap_i64, pricesV, nearV, A, B]
        exact Ends.v rfl (by simp [chg, ← hall])
      · by_cases C : l[i].1 = y ∧ l[i].2.1 = x
        · obtain ⟨C, D⟩ := C
          rw [if_pos (.inr ⟨C, D⟩)] at hall
          have hyx : y = x := by rw [← A, ← C]
          subst hyx
          exact absurd D B
        · rw [if_neg (fun q => q.elim (fun q => B q.2) C)] at hall
          have hn : l[i].2.1 = x → ¬ x = y := fun q1 q2 => B (q1.trans q2)
          simp (disch := omega) [h, wrap_i64, pricesV, nearV, A, B]
          refine ⟨fun q1 => ⟨fun q2 => absurd ⟨A.trans q1, q2⟩ C, fun q2 => ?_⟩, fun q1 => ?_⟩
          all_goals exact ih (i + 1) _ ⟨by omega, hall⟩ (by omega) (by simp [pricesV])
    · by_cases C : l[i].1 = y
      · by_cases D : l[i].2.1 = x
        · rw [if_pos (.inr ⟨C, D⟩)] at hall
          have A' : ¬ y = x := fun q => A (C.trans q)
          simp (disch := omega) [h, wrap_i64, pricesV, nearV, A', C, D]
          exact Ends.v rfl (by simp [chg, ← hall])
        · rw [if_neg (fun q => q.elim (fun q => A q.1) (fun q => D q.2))] at hall
          have A' : ¬ y = x := fun q => A (C.trans q)
          simp (disch := omega) [h, wrap_i64, pricesV, nearV, A', C, D]
          exact ih (i + 1) _ ⟨by omega, hall⟩ (by omega) (by simp [pricesV])
      · rw [if_neg (fun q => q.elim (fun q => A q.1) (fun q => C q.1))] at hall
        simp (disch := omega) [h, wrap_i64, pricesV, nearV, A, C]
        exact ih (i + 1) _ ⟨by omega, hall⟩ (by omega) (by simp [pricesV])
  · rw [drop_no h] at hall
    simp only [chgL] at hall
    simp (disch := omega) [h, wrap_i64, pricesV, nearV]
    exact Ends.v rfl (by simp [chg, ← hall])

end Go.Proofs
