/- The walk. -/
import Derived.Test.YtphjjlhpepmofaaF3
import Derived.Test.YtphjjlhpepmofaaSt23
import Derived.Test.YtphjjlhpepmofaaProg
import Derived.KernelRfl
set_option linter.all false
set_option maxHeartbeats 2000000
namespace Go.Proofs
open Go Go.AM
attribute [local irreducible] Run Ends
/-- ablaut/ablautref23.change -/
def c87 : MC :=
  .seq (.reg false [.op .none 3 (.box false (.t 0)),
    .op .none 6 (.mv (.c (.w (.int .i64 0))))]) <|
  .seq (.seq (.reg false [.op .none 7 (.mv (.c (.w (.int .i64 0))))]) <|
  .block 0 <|
    .loop <|
      .seq (.seq (.reg false [.op .none 9 (.mv (.t 7)),
        .op .none 10 (.fa 4 (.t 3)),
        .op .none 11 (.ld false 1 (.t 10)),
        .op .none 12 (.len false (.t 11)),
        .op .none 13 (.bin .lss (.t 9) (.t 12))]) <|
      .cond (.t 13)
        (.skip)
        (.exit 0)) <|
      .seq (.block 1 <|
        .seq (.reg false [.op .none 16 (.fa 4 (.t 3)),
          .op .none 17 (.ld false 1 (.t 16)),
          .op .none 18 (.mv (.t 7)),
          .op .none 19 (.ia 3 (.t 17) (.t 18)),
          .op .none 20 (.ld true 3 (.t 19)),
          .op .none 8 (.alloc true [(.w (.string ⟨#[]⟩)), (.w (.string ⟨#[]⟩)), (.w (.int .i64 0))]),
          .store .none (.stt true 3 (.t 8) (.t 20))]) <|
        .seq (.reg false [.op .none 21 (.fa 0 (.t 8)),
          .op .none 22 (.ld false 1 (.t 21)),
          .op .none 23 (.mv (.t 1)),
          .op .none 24 (.bin .eql (.t 22) (.t 23)),
          .op .none 25 (.mv (.t 24)),
          .op (.some (25, true)) 26 (.fa 1 (.t 8)),
          .op (.some (25, true)) 27 (.ld false 1 (.t 26)),
          .op (.some (25, true)) 28 (.mv (.t 2)),
          .op (.some (25, true)) 29 (.bin .eql (.t 27) (.t 28)),
          .op .none 30 (.pick (.t 25) (.t 29) (.c (.w (.bool false)))),
          .op .none 31 (.mv (.t 30)),
          .op (.some (31, false)) 32 (.fa 0 (.t 8)),
          .op (.some (31, false)) 33 (.ld false 1 (.t 32)),
          .op (.some (31, false)) 34 (.mv (.t 2)),
          .op (.some (31, false)) 35 (.bin .eql (.t 33) (.t 34)),
          .op (.some (31, false)) 36 (.mv (.t 35)),
          .op (.some (36, true)) 37 (.fa 1 (.t 8)),
          .op (.some (36, true)) 38 (.ld false 1 (.t 37)),
          .op (.some (36, true)) 39 (.mv (.t 1)),
          .op (.some (36, true)) 40 (.bin .eql (.t 38) (.t 39)),
          .op (.some (31, false)) 41 (.pick (.t 36) (.t 40) (.c (.w (.bool false)))),
          .op .none 42 (.pick (.t 31) (.c (.w (.bool true))) (.t 41))]) <|
        .cond (.t 42)
          (.seq (.reg false [.op .none 43 (.fa 2 (.t 8)),
            .op .none 44 (.ld false 1 (.t 43)),
            .op .none 6 (.mv (.t 44))]) <|
          .ret)
          (.skip)) <|
      .reg false [.op .none 14 (.mv (.t 7)),
        .op .none 15 (.bin .add (.t 14) (.c (.w (.int .i64 1)))),
        .op .none 7 (.mv (.t 15))]) <|
  .seq (.reg false [.op .none 45 (.fa 3 (.t 3)),
    .op .none 46 (.ld false 1 (.t 45)),
    .op .none 6 (.mv (.t 46))]) <|
  .ret
theorem k87 : FnCode Try.prog 87 [] 47 [6] c87 := ⟨Try.f87, Try.func87, fun xs W => Try.call87 xs W, by kernel_rfl, by kernel_rfl, by kernel_rfl⟩

/-- ablaut/ablautref23.steps -/
def c72 : MC :=
  .seq (.reg false [.op .none 5 (.box false (.t 0)),
    .op .none 10 (.nilS 4)]) <|
  .seq (.reg false [.op .none 11 (.nilS 4)]) <|
  .seq (.seq (.reg true [.op .none 12 (.mv (.t 3)),
    .op .none 13 (.mv (.t 1)),
    .op .none 14 (.len false (.t 13)),
    .op .none 15 (.bin .lss (.t 12) (.t 14)),
    .op .none 16 (.mv (.t 15)),
    .op (.some (16, true)) 17 (.mv (.t 4)),
    .op (.some (16, true)) 18 (.mv (.t 2)),
    .op (.some (16, true)) 19 (.len false (.t 18)),
    .op (.some (16, true)) 20 (.bin .lss (.t 17) (.t 19)),
    .op .none 21 (.pick (.t 16) (.t 20) (.c (.w (.bool false)))),
    .op .none 22 (.mv (.t 21)),
    .op (.some (22, true)) 23 (.mv (.t 1)),
    .op (.some (22, true)) 24 (.mv (.t 3)),
    .op (.some (22, true)) 25 (.ia 1 (.t 23) (.t 24)),
    .op (.some (22, true)) 26 (.ld false 1 (.t 25)),
    .op (.some (22, true)) 27 (.mv (.t 2)),
    .op (.some (22, true)) 28 (.mv (.t 4)),
    .op (.some (22, true)) 29 (.ia 1 (.t 27) (.t 28)),
    .op (.some (22, true)) 30 (.ld false 1 (.t 29)),
    .op (.some (22, true)) 31 (.bin .eql (.t 26) (.t 30)),
    .op .none 32 (.pick (.t 22) (.t 31) (.c (.w (.bool false))))]) <|
  .cond (.t 32)
    (.reg false [.op .none 33 (.mv (.t 11)),
      .op .none 34 (.build false [(.w (.int .i64 0)), (.w (.int .i64 0)), (.w (.int .i64 0)), (.w (.int .i64 0))] [(0, 1, (.c (.w (.int .i64 0)))), (1, 1, (.c (.w (.int .i64 1)))), (2, 1, (.c (.w (.int .i64 1)))), (3, 1, (.c (.w (.int .i64 0))))]),
      .op .none 35 (.buildS false 4 1 true [(.w (.int .i64 0)), (.w (.int .i64 0)), (.w (.int .i64 0)), (.w (.int .i64 0))] [(0, (.t 34))]),
      .op .none 36 (.app 4 32 (.t 33) (.t 35)),
      .op .none 11 (.mv (.t 36))])
    (.skip)) <|
  .seq (.seq (.reg false [.op .none 37 (.mv (.t 3)),
    .op .none 38 (.mv (.t 1)),
    .op .none 39 (.len false (.t 38)),
    .op .none 40 (.bin .lss (.t 37) (.t 39))]) <|
  .cond (.t 40)
    (.reg false [.op .none 41 (.mv (.t 11)),
      .op .none 42 (.fa 0 (.t 5)),
      .op .none 43 (.ld false 1 (.t 42)),
      .op .none 44 (.build false [(.w (.int .i64 0)), (.w (.int .i64 0)), (.w (.int .i64 0)), (.w (.int .i64 0))] [(0, 1, (.c (.w (.int .i64 1)))), (1, 1, (.c (.w (.int .i64 1)))), (2, 1, (.c (.w (.int .i64 0)))), (3, 1, (.t 43))]),
      .op .none 45 (.buildS false 4 1 true [(.w (.int .i64 0)), (.w (.int .i64 0)), (.w (.int .i64 0)), (.w (.int .i64 0))] [(0, (.t 44))]),
      .op .none 46 (.app 4 32 (.t 41) (.t 45)),
      .op .none 11 (.mv (.t 46))])
    (.skip)) <|
  .seq (.seq (.reg false [.op .none 47 (.mv (.t 4)),
    .op .none 48 (.mv (.t 2)),
    .op .none 49 (.len false (.t 48)),
    .op .none 50 (.bin .lss (.t 47) (.t 49))]) <|
  .cond (.t 50)
    (.reg false [.op .none 51 (.mv (.t 11)),
      .op .none 52 (.fa 1 (.t 5)),
      .op .none 53 (.ld false 1 (.t 52)),
      .op .none 54 (.build false [(.w (.int .i64 0)), (.w (.int .i64 0)), (.w (.int .i64 0)), (.w (.int .i64 0))] [(0, 1, (.c (.w (.int .i64 2)))), (1, 1, (.c (.w (.int .i64 0)))), (2, 1, (.c (.w (.int .i64 1)))), (3, 1, (.t 53))]),
      .op .none 55 (.buildS false 4 1 true [(.w (.int .i64 0)), (.w (.int .i64 0)), (.w (.int .i64 0)), (.w (.int .i64 0))] [(0, (.t 54))]),
      .op .none 56 (.app 4 32 (.t 51) (.t 55)),
      .op .none 11 (.mv (.t 56))])
    (.skip)) <|
  .seq (.seq (.reg true [.op .none 57 (.mv (.t 3)),
    .op .none 58 (.mv (.t 1)),
    .op .none 59 (.len false (.t 58)),
    .op .none 60 (.bin .lss (.t 57) (.t 59)),
    .op .none 61 (.mv (.t 60)),
    .op (.some (61, true)) 62 (.mv (.t 4)),
    .op (.some (61, true)) 63 (.mv (.t 2)),
    .op (.some (61, true)) 64 (.len false (.t 63)),
    .op (.some (61, true)) 65 (.bin .lss (.t 62) (.t 64)),
    .op .none 66 (.pick (.t 61) (.t 65) (.c (.w (.bool false)))),
    .op .none 67 (.mv (.t 66)),
    .op (.some (67, true)) 68 (.mv (.t 1)),
    .op (.some (67, true)) 69 (.mv (.t 3)),
    .op (.some (67, true)) 70 (.ia 1 (.t 68) (.t 69)),
    .op (.some (67, true)) 71 (.ld false 1 (.t 70)),
    .op (.some (67, true)) 72 (.mv (.t 2)),
    .op (.some (67, true)) 73 (.mv (.t 4)),
    .op (.some (67, true)) 74 (.ia 1 (.t 72) (.t 73)),
    .op (.some (67, true)) 75 (.ld false 1 (.t 74)),
    .op (.some (67, true)) 76 (.bin .neq (.t 71) (.t 75)),
    .op .none 77 (.pick (.t 67) (.t 76) (.c (.w (.bool false))))]) <|
  .cond (.t 77)
    (.reg true [.op .none 78 (.mv (.t 11)),
      .op .none 79 (.ld true 5 (.t 5)),
      .op .none 80 (.mv (.t 1)),
      .op .none 81 (.mv (.t 3)),
      .op .none 82 (.ia 1 (.t 80) (.t 81)),
      .op .none 83 (.ld false 1 (.t 82)),
      .op .none 84 (.mv (.t 2)),
      .op .none 85 (.mv (.t 4)),
      .op .none 86 (.ia 1 (.t 84) (.t 85)),
      .op .none 87 (.ld false 1 (.t 86)),
      .call .none 88 (.f 87) [(.t 79), (.t 83), (.t 87)],
      .op .none 89 (.build true [(.w (.int .i64 0)), (.w (.int .i64 0)), (.w (.int .i64 0)), (.w (.int .i64 0))] [(0, 1, (.c (.w (.int .i64 3)))), (1, 1, (.c (.w (.int .i64 1)))), (2, 1, (.c (.w (.int .i64 1)))), (3, 1, (.t 88))]),
      .op .none 90 (.buildS true 4 1 true [(.w (.int .i64 0)), (.w (.int .i64 0)), (.w (.int .i64 0)), (.w (.int .i64 0))] [(0, (.t 89))]),
      .op .none 91 (.app 4 32 (.t 78) (.t 90)),
      .op .none 11 (.mv (.t 91))])
    (.skip)) <|
  .seq (.seq (.reg true [.op .none 92 (.fa 2 (.t 5)),
    .op .none 93 (.ld false 1 (.t 92)),
    .op .none 94 (.bin .gtr (.t 93) (.c (.w (.int .i64 0)))),
    .op .none 95 (.mv (.t 94)),
    .op (.some (95, true)) 96 (.mv (.t 3)),
    .op (.some (95, true)) 97 (.bin .add (.t 96) (.c (.w (.int .i64 1)))),
    .op (.some (95, true)) 98 (.mv (.t 1)),
    .op (.some (95, true)) 99 (.len false (.t 98)),
    .op (.some (95, true)) 100 (.bin .lss (.t 97) (.t 99)),
    .op .none 101 (.pick (.t 95) (.t 100) (.c (.w (.bool false)))),
    .op .none 102 (.mv (.t 101)),
    .op (.some (102, true)) 103 (.mv (.t 4)),
    .op (.some (102, true)) 104 (.bin .add (.t 103) (.c (.w (.int .i64 1)))),
    .op (.some (102, true)) 105 (.mv (.t 2)),
    .op (.some (102, true)) 106 (.len false (.t 105)),
    .op (.some (102, true)) 107 (.bin .lss (.t 104) (.t 106)),
    .op .none 108 (.pick (.t 102) (.t 107) (.c (.w (.bool false)))),
    .op .none 109 (.mv (.t 108)),
    .op (.some (109, true)) 110 (.mv (.t 1)),
    .op (.some (109, true)) 111 (.mv (.t 3)),
    .op (.some (109, true)) 112 (.ia 1 (.t 110) (.t 111)),
    .op (.some (109, true)) 113 (.ld false 1 (.t 112)),
    .op (.some (109, true)) 114 (.mv (.t 1)),
    .op (.some (109, true)) 115 (.mv (.t 3)),
    .op (.some (109, true)) 116 (.bin .add (.t 115) (.c (.w (.int .i64 1)))),
    .op (.some (109, true)) 117 (.ia 1 (.t 114) (.t 116)),
    .op (.some (109, true)) 118 (.ld false 1 (.t 117)),
    .op (.some (109, true)) 119 (.bin .neq (.t 113) (.t 118)),
    .op .none 120 (.pick (.t 109) (.t 119) (.c (.w (.bool false)))),
    .op .none 121 (.mv (.t 120)),
    .op (.some (121, true)) 122 (.mv (.t 1)),
    .op (.some (121, true)) 123 (.mv (.t 3)),
    .op (.some (121, true)) 124 (.ia 1 (.t 122) (.t 123)),
    .op (.some (121, true)) 125 (.ld false 1 (.t 124)),
    .op (.some (121, true)) 126 (.mv (.t 2)),
    .op (.some (121, true)) 127 (.mv (.t 4)),
    .op (.some (121, true)) 128 (.bin .add (.t 127) (.c (.w (.int .i64 1)))),
    .op (.some (121, true)) 129 (.ia 1 (.t 126) (.t 128)),
    .op (.some (121, true)) 130 (.ld false 1 (.t 129)),
    .op (.some (121, true)) 131 (.bin .eql (.t 125) (.t 130)),
    .op .none 132 (.pick (.t 121) (.t 131) (.c (.w (.bool false)))),
    .op .none 133 (.mv (.t 132)),
    .op (.some (133, true)) 134 (.mv (.t 1)),
    .op (.some (133, true)) 135 (.mv (.t 3)),
    .op (.some (133, true)) 136 (.bin .add (.t 135) (.c (.w (.int .i64 1)))),
    .op (.some (133, true)) 137 (.ia 1 (.t 134) (.t 136)),
    .op (.some (133, true)) 138 (.ld false 1 (.t 137)),
    .op (.some (133, true)) 139 (.mv (.t 2)),
    .op (.some (133, true)) 140 (.mv (.t 4)),
    .op (.some (133, true)) 141 (.ia 1 (.t 139) (.t 140)),
    .op (.some (133, true)) 142 (.ld false 1 (.t 141)),
    .op (.some (133, true)) 143 (.bin .eql (.t 138) (.t 142)),
    .op .none 144 (.pick (.t 133) (.t 143) (.c (.w (.bool false))))]) <|
  .cond (.t 144)
    (.reg false [.op .none 145 (.mv (.t 11)),
      .op .none 146 (.fa 2 (.t 5)),
      .op .none 147 (.ld false 1 (.t 146)),
      .op .none 148 (.build false [(.w (.int .i64 0)), (.w (.int .i64 0)), (.w (.int .i64 0)), (.w (.int .i64 0))] [(0, 1, (.c (.w (.int .i64 4)))), (1, 1, (.c (.w (.int .i64 2)))), (2, 1, (.c (.w (.int .i64 2)))), (3, 1, (.t 147))]),
      .op .none 149 (.buildS false 4 1 true [(.w (.int .i64 0)), (.w (.int .i64 0)), (.w (.int .i64 0)), (.w (.int .i64 0))] [(0, (.t 148))]),
      .op .none 150 (.app 4 32 (.t 145) (.t 149)),
      .op .none 11 (.mv (.t 150))])
    (.skip)) <|
  .seq (.reg false [.op .none 151 (.mv (.t 11)),
    .op .none 10 (.mv (.t 151))]) <|
  .ret
theorem k72 : FnCode Try.prog 72 [89, 90] 152 [10] c72 := ⟨Try.f72, Try.func72, fun xs W => Try.call72 xs W, by kernel_rfl, by kernel_rfl, by kernel_rfl⟩

theorem fok87 (p : PricesT) (x y : Bs) (hl : p.2.2.2.2.1.length ≤ 1000000) : FOk Try.prog 87 [.v (pricesV p), .S x, .S y] [] (.I (chg p x y)) [] := by
  obtain ⟨pd, pp, ps, pc, l, u⟩ := p
  simp only at hl
  refine FOk.val k87 (by simp) (by simp) (by decide) ?_
  simp [c87, pricesV]
  refine Run.loopA (ι := Nat) [(1, 3)] (fun i => i ≤ l.length ∧ chgL x y pc (l.drop i) = chgL x y pc l) (fun i => ⟨[(1, .S x), (2, .S y), (3, .ptr 1 0 0), (7, .I i)], [(1, ⟨false, 5, [pricesV (pd, pp, ps, pc, l, u)]⟩)], 1024⟩) (fun i => l.length - i) 0 (by decide) (by simp [pricesV]) ⟨by simp, by simp⟩ ?_
  rintro i ⟨hi, hall⟩ ih
  by_cases h : i < l.length
  · rw [drop_at h] at hall
    simp only [chgL] at hall
    by_cases A : l[i].1 = x
    · by_cases B : l[i].2.1 = y
      · rw [if_pos (.inl ⟨A, B⟩)] at hall
        simp (disch := omega) [h, wrap_i64, pricesV, nearV, A, B]
        exact Ends.v rfl (by simp [chg, ← hall])
      · by_cases C : l[i].1 = y ∧ l[i].2.1 = x
        · obtain ⟨C, D⟩ := C
          rw [if_pos (.inr ⟨C, D⟩)] at hall
          have hyx : y = x := by rw [← A, ← C]
          subst hyx
          exact absurd D B
        · rw [if_neg (fun q => q.elim (fun q => B q.2) C)] at hall
          simp (disch := omega) [h, wrap_i64, pricesV, nearV, A, B]
          refine ⟨fun q1 => ⟨fun q2 => absurd ⟨A.trans q1, q2⟩ C, fun q2 => ?_⟩, fun q1 => ?_⟩
          all_goals exact ih (i + 1) _ ⟨by omega, hall⟩ (by omega) (by simp [pricesV])
    · by_cases C : l[i].1 = y
      · by_cases D : l[i].2.1 = x
        · rw [if_pos (.inr ⟨C, D⟩)] at hall
          have A' : ¬ y = x := fun q => A (C.trans q)
          simp (disch := omega) [h, wrap_i64, pricesV, nearV, A', C, D]
          exact Ends.v rfl (by simp [chg, ← hall])
        · rw [if_neg (fun q => q.elim (fun q => A q.1) (fun q => D q.2))] at hall
          have A' : ¬ y = x := fun q => A (C.trans q)
          simp (disch := omega) [h, wrap_i64, pricesV, nearV, A', C, D]
          exact ih (i + 1) _ ⟨by omega, hall⟩ (by omega) (by simp [pricesV])
      · rw [if_neg (fun q => q.elim (fun q => A q.1) (fun q => C q.1))] at hall
        simp (disch := omega) [h, wrap_i64, pricesV, nearV, A, C]
        exact ih (i + 1) _ ⟨by omega, hall⟩ (by omega) (by simp [pricesV])
  · rw [drop_no h] at hall
    simp only [chgL] at hall
    simp (disch := omega) [h, wrap_i64, pricesV, nearV]
    exact Ends.v rfl (by simp [chg, ← hall])

def swapOk (p : PricesT) (a b : List Bs) (i k : Nat) : Prop := 0 < p.2.2.1 ∧ i + 1 < a.length ∧ k + 1 < b.length ∧ a[i]? ≠ a[i + 1]? ∧ a[i]? = b[k + 1]? ∧ a[i + 1]? = b[k]?
theorem stL4_yes {p : PricesT} {a b : List Bs} {i k : Nat} (h : swapOk p a b i k) : stL p 4 (a.drop i) (b.drop k) = [(4, 2, 2, p.2.2.1, ())] := by
  obtain ⟨h1, h2, h3, h4, h5, h6⟩ := h
  have hi : i < a.length := by omega
  have hk : k < b.length := by omega
  simp only [List.getElem?_eq_getElem, h2, h3, hi, hk, Option.some.injEq, ne_eq] at h4 h5 h6
  rw [drop_at hi, drop_at h2, drop_at hk, drop_at h3]
  simp only [stL, stG]
  rw [if_pos ⟨h1, h4, h5, h6⟩]; rfl
theorem stL4_no {p : PricesT} {a b : List Bs} {i k : Nat} (h : ¬ swapOk p a b i k) : stL p 4 (a.drop i) (b.drop k) = [] := by
  by_cases h2 : i + 1 < a.length
  · by_cases h3 : k + 1 < b.length
    · have hi : i < a.length := by omega
      have hk : k < b.length := by omega
      rw [drop_at hi, drop_at h2, drop_at hk, drop_at h3]
      simp only [stL, stG]
      rw [if_neg]
      rintro ⟨h1, h4, h5, h6⟩
      exact h ⟨h1, h2, h3, by simpa [hi, h2] using h4, by simpa [hi, h3] using h5, by simpa [h2, hk] using h6⟩
    · have hl : (b.drop k).length ≤ 1 := by simp; omega
      unfold stL
      match b.drop k, hl with
      | [], _ => rcases a.drop i with _ | ⟨x, _ | ⟨x2, w⟩⟩ <;> rfl
      | [y], _ => rcases a.drop i with _ | ⟨x, _ | ⟨x2, w⟩⟩ <;> rfl
  · have hl : (a.drop i).length ≤ 1 := by simp; omega
    unfold stL
    match a.drop i, hl with
    | [], _ => rfl
    | [y], _ => rfl
/-- Steps as a value. -/
def stepsV (l : List StepT) : PV := .sl 4 (l.map stepV)
set_option maxRecDepth 100000 in
theorem fok72 (p : PricesT) (a b : List Bs) (i k : Nat) (hp : OkP p) (ha : a.length ≤ 60) (hb : b.length ≤ 60) (hi : i ≤ a.length) (hk : k ≤ b.length) :
    FOk Try.prog 72 [.v (pricesV p), .v (.word a), .v (.word b), .I i, .I k] [] (.v (stepsV (stepsL p (a.drop i) (b.drop k)))) [] := by
  have hch := fun x y => fok87 p x y (by have := hp.len; omega)
  refine FOk.val k72 (by simp) (by simp) (by decide) ?_
  obtain ⟨pd, pp, ps, pc, l, u⟩ := p
  simp only [pricesV] at hch
  by_cases h1 : i < a.length
  · by_cases h2 : k < b.length
    · by_cases h3 : a[i] = b[k]
      · have E : stepsL (pd, pp, ps, pc, l, u) (a.drop i) (b.drop k) = [(0, 1, 1, 0, ()), (1, 1, 0, pd, ()), (2, 0, 1, pp, ())] ++ stL (pd, pp, ps, pc, l, u) 4 (a.drop i) (b.drop k) := by
          have e0 : stL (pd, pp, ps, pc, l, u) 0 (a.drop i) (b.drop k) = [(0, 1, 1, 0, ())] := by rw [drop_at h1, drop_at h2]; simp only [stL, stG]; rw [if_pos h3]; rfl
          have e1 : stL (pd, pp, ps, pc, l, u) 1 (a.drop i) (b.drop k) = [(1, 1, 0, pd, ())] := by rw [drop_at h1]; rfl
          have e2 : stL (pd, pp, ps, pc, l, u) 2 (a.drop i) (b.drop k) = [(2, 0, 1, pp, ())] := by rw [drop_at h2]; cases a.drop i <;> rfl
          have e3 : stL (pd, pp, ps, pc, l, u) 3 (a.drop i) (b.drop k) = [] := by rw [drop_at h1, drop_at h2]; simp only [stL, stG]; rw [if_pos h3]
          unfold stepsL; rw [e0, e1, e2, e3]; rfl
        by_cases h4 : i + 1 < a.length
        · by_cases h5 : k + 1 < b.length
          · simp (disch := omega) [c72, pricesV, wrap_i64, h1, h2, h3, h4, h5]
            repeat' (first | refine And.intro ?_ ?_ | intro _)
            all_goals
              rcases Classical.em (swapOk (pd, pp, ps, pc, l, u) a b i k) with hs | hs
              · first
                | (refine Ends.v rfl ?_; simp [stepsV, E, stL4_yes hs, stepV]; done)
                | (exfalso; obtain ⟨q1, q2, q3, q4, q5, q6⟩ := hs; simp only at q1; omega)
                | (exfalso; obtain ⟨q1, q2, q3, q4, q5, q6⟩ := hs; simp_all; done)
              · first
                | (refine Ends.v rfl ?_; simp [stepsV, E, stL4_no hs, stepV]; done)
                | (exfalso; refine hs ⟨?_, ?_, ?_, ?_, ?_, ?_⟩ <;> simp_all; done)
          · simp (disch := omega) [c72, pricesV, wrap_i64, h1, h2, h3, h4, h5]
            repeat' (first | refine And.intro ?_ ?_ | intro _)
            all_goals
              rcases Classical.em (swapOk (pd, pp, ps, pc, l, u) a b i k) with hs | hs
              · first
                | (refine Ends.v rfl ?_; simp [stepsV, E, stL4_yes hs, stepV]; done)
                | (exfalso; obtain ⟨q1, q2, q3, q4, q5, q6⟩ := hs; simp only at q1; omega)
                | (exfalso; obtain ⟨q1, q2, q3, q4, q5, q6⟩ := hs; simp_all; done)
              · first
                | (refine Ends.v rfl ?_; simp [stepsV, E, stL4_no hs, stepV]; done)
                | (exfalso; refine hs ⟨?_, ?_, ?_, ?_, ?_, ?_⟩ <;> simp_all; done)
        · simp (disch := omega) [c72, pricesV, wrap_i64, h1, h2, h3, h4]
          repeat' (first | refine And.intro ?_ ?_ | intro _)
          all_goals
            rcases Classical.em (swapOk (pd, pp, ps, pc, l, u) a b i k) with hs | hs
            · first
              | (refine Ends.v rfl ?_; simp [stepsV, E, stL4_yes hs, stepV]; done)
              | (exfalso; obtain ⟨q1, q2, q3, q4, q5, q6⟩ := hs; simp only at q1; omega)
              | (exfalso; obtain ⟨q1, q2, q3, q4, q5, q6⟩ := hs; simp_all; done)
            · first
              | (refine Ends.v rfl ?_; simp [stepsV, E, stL4_no hs, stepV]; done)
              | (exfalso; refine hs ⟨?_, ?_, ?_, ?_, ?_, ?_⟩ <;> simp_all; done)
      · have E : stepsL (pd, pp, ps, pc, l, u) (a.drop i) (b.drop k) = [(1, 1, 0, pd, ()), (2, 0, 1, pp, ()), (3, 1, 1, chg (pd, pp, ps, pc, l, u) a[i] b[k], ())] ++ stL (pd, pp, ps, pc, l, u) 4 (a.drop i) (b.drop k) := by
          have e0 : stL (pd, pp, ps, pc, l, u) 0 (a.drop i) (b.drop k) = [] := by rw [drop_at h1, drop_at h2]; simp only [stL, stG]; rw [if_neg h3]
          have e1 : stL (pd, pp, ps, pc, l, u) 1 (a.drop i) (b.drop k) = [(1, 1, 0, pd, ())] := by rw [drop_at h1]; rfl
          have e2 : stL (pd, pp, ps, pc, l, u) 2 (a.drop i) (b.drop k) = [(2, 0, 1, pp, ())] := by rw [drop_at h2]; cases a.drop i <;> rfl
          have e3 : stL (pd, pp, ps, pc, l, u) 3 (a.drop i) (b.drop k) = [(3, 1, 1, chg (pd, pp, ps, pc, l, u) a[i] b[k], ())] := by rw [drop_at h1, drop_at h2]; simp only [stL, stG]; rw [if_neg h3]; rfl
          unfold stepsL; rw [e0, e1, e2, e3]; rfl
        by_cases h4 : i + 1 < a.length
        · by_cases h5 : k + 1 < b.length
          · simp (disch := omega) [c72, pricesV, wrap_i64, h1, h2, h3, h4, h5]
            refine CallG.lent rfl rfl rfl rfl (hch a[i] b[k]) rfl ?_
            simp (disch := omega) [wrap_i64, h1, h2, h3, h4, h5]
            repeat' (first | refine And.intro ?_ ?_ | intro _)
            all_goals
              rcases Classical.em (swapOk (pd, pp, ps, pc, l, u) a b i k) with hs | hs
              · first
                | (refine Ends.v rfl ?_; simp [stepsV, E, stL4_yes hs, stepV]; done)
                | (exfalso; obtain ⟨q1, q2, q3, q4, q5, q6⟩ := hs; simp only at q1; omega)
                | (exfalso; obtain ⟨q1, q2, q3, q4, q5, q6⟩ := hs; simp_all; done)
              · first
                | (refine Ends.v rfl ?_; simp [stepsV, E, stL4_no hs, stepV]; done)
                | (exfalso; refine hs ⟨?_, ?_, ?_, ?_, ?_, ?_⟩ <;> simp_all; done)
          · simp (disch := omega) [c72, pricesV, wrap_i64, h1, h2, h3, h4, h5]
            refine CallG.lent rfl rfl rfl rfl (hch a[i] b[k]) rfl ?_
            simp (disch := omega) [wrap_i64, h1, h2, h3, h4, h5]
            repeat' (first | refine And.intro ?_ ?_ | intro _)
            all_goals
              rcases Classical.em (swapOk (pd, pp, ps, pc, l, u) a b i k) with hs | hs
              · first
                | (refine Ends.v rfl ?_; simp [stepsV, E, stL4_yes hs, stepV]; done)
                | (exfalso; obtain ⟨q1, q2, q3, q4, q5, q6⟩ := hs; simp only at q1; omega)
                | (exfalso; obtain ⟨q1, q2, q3, q4, q5, q6⟩ := hs; simp_all; done)
              · first
                | (refine Ends.v rfl ?_; simp [stepsV, E, stL4_no hs, stepV]; done)
                | (exfalso; refine hs ⟨?_, ?_, ?_, ?_, ?_, ?_⟩ <;> simp_all; done)
        · simp (disch := omega) [c72, pricesV, wrap_i64, h1, h2, h3, h4]
          refine CallG.lent rfl rfl rfl rfl (hch a[i] b[k]) rfl ?_
          simp (disch := omega) [wrap_i64, h1, h2, h3, h4]
          repeat' (first | refine And.intro ?_ ?_ | intro _)
          all_goals
            rcases Classical.em (swapOk (pd, pp, ps, pc, l, u) a b i k) with hs | hs
            · first
              | (refine Ends.v rfl ?_; simp [stepsV, E, stL4_yes hs, stepV]; done)
              | (exfalso; obtain ⟨q1, q2, q3, q4, q5, q6⟩ := hs; simp only at q1; omega)
              | (exfalso; obtain ⟨q1, q2, q3, q4, q5, q6⟩ := hs; simp_all; done)
            · first
              | (refine Ends.v rfl ?_; simp [stepsV, E, stL4_no hs, stepV]; done)
              | (exfalso; refine hs ⟨?_, ?_, ?_, ?_, ?_, ?_⟩ <;> simp_all; done)
    · have h5 : ¬ k + 1 < b.length := by omega
      have E : stepsL (pd, pp, ps, pc, l, u) (a.drop i) (b.drop k) = [(1, 1, 0, pd, ())] ++ stL (pd, pp, ps, pc, l, u) 4 (a.drop i) (b.drop k) := by
        unfold stepsL; rw [drop_at h1, drop_no h2]; rfl
      by_cases h4 : i + 1 < a.length
      · simp (disch := omega) [c72, pricesV, wrap_i64, h1, h2, h4, h5]
        repeat' (first | refine And.intro ?_ ?_ | intro _)
        all_goals
          rcases Classical.em (swapOk (pd, pp, ps, pc, l, u) a b i k) with hs | hs
          · first
            | (refine Ends.v rfl ?_; simp [stepsV, E, stL4_yes hs, stepV]; done)
            | (exfalso; obtain ⟨q1, q2, q3, q4, q5, q6⟩ := hs; simp only at q1; omega)
            | (exfalso; obtain ⟨q1, q2, q3, q4, q5, q6⟩ := hs; simp_all; done)
          · first
            | (refine Ends.v rfl ?_; simp [stepsV, E, stL4_no hs, stepV]; done)
            | (exfalso; refine hs ⟨?_, ?_, ?_, ?_, ?_, ?_⟩ <;> simp_all; done)
      · simp (disch := omega) [c72, pricesV, wrap_i64, h1, h2, h4]
        repeat' (first | refine And.intro ?_ ?_ | intro _)
        all_goals
          rcases Classical.em (swapOk (pd, pp, ps, pc, l, u) a b i k) with hs | hs
          · first
            | (refine Ends.v rfl ?_; simp [stepsV, E, stL4_yes hs, stepV]; done)
            | (exfalso; obtain ⟨q1, q2, q3, q4, q5, q6⟩ := hs; simp only at q1; omega)
            | (exfalso; obtain ⟨q1, q2, q3, q4, q5, q6⟩ := hs; simp_all; done)
          · first
            | (refine Ends.v rfl ?_; simp [stepsV, E, stL4_no hs, stepV]; done)
            | (exfalso; refine hs ⟨?_, ?_, ?_, ?_, ?_, ?_⟩ <;> simp_all; done)
  · have h4 : ¬ i + 1 < a.length := by omega
    by_cases h2 : k < b.length
    · have E : stepsL (pd, pp, ps, pc, l, u) (a.drop i) (b.drop k) = [(2, 0, 1, pp, ())] ++ stL (pd, pp, ps, pc, l, u) 4 (a.drop i) (b.drop k) := by
        unfold stepsL; rw [drop_no h1, drop_at h2]; rfl
      simp (disch := omega) [c72, pricesV, wrap_i64, h1, h2, h4]
      repeat' (first | refine And.intro ?_ ?_ | intro _)
      all_goals
        rcases Classical.em (swapOk (pd, pp, ps, pc, l, u) a b i k) with hs | hs
        · first
          | (refine Ends.v rfl ?_; simp [stepsV, E, stL4_yes hs, stepV]; done)
          | (exfalso; obtain ⟨q1, q2, q3, q4, q5, q6⟩ := hs; simp only at q1; omega)
          | (exfalso; obtain ⟨q1, q2, q3, q4, q5, q6⟩ := hs; simp_all; done)
        · first
          | (refine Ends.v rfl ?_; simp [stepsV, E, stL4_no hs, stepV]; done)
          | (exfalso; refine hs ⟨?_, ?_, ?_, ?_, ?_, ?_⟩ <;> simp_all; done)
    · have E : stepsL (pd, pp, ps, pc, l, u) (a.drop i) (b.drop k) = [] ++ stL (pd, pp, ps, pc, l, u) 4 (a.drop i) (b.drop k) := by
        unfold stepsL; rw [drop_no h1, drop_no h2]; rfl
      simp (disch := omega) [c72, pricesV, wrap_i64, h1, h2, h4]
      repeat' (first | refine And.intro ?_ ?_ | intro _)
      all_goals
        rcases Classical.em (swapOk (pd, pp, ps, pc, l, u) a b i k) with hs | hs
        · first
          | (refine Ends.v rfl ?_; simp [stepsV, E, stL4_yes hs, stepV]; done)
          | (exfalso; obtain ⟨q1, q2, q3, q4, q5, q6⟩ := hs; simp only at q1; omega)
          | (exfalso; obtain ⟨q1, q2, q3, q4, q5, q6⟩ := hs; simp_all; done)
        · first
          | (refine Ends.v rfl ?_; simp [stepsV, E, stL4_no hs, stepV]; done)
          | (exfalso; refine hs ⟨?_, ?_, ?_, ?_, ?_, ?_⟩ <;> simp_all; done)

end Go.Proofs
