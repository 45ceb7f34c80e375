/- The walk. -/
import Derived.Test.YtlhpjeckaepdlaaSc1
import Derived.Test.YtlhpjeckaepdlaaProg
import Derived.KernelRfl
set_option linter.all false
set_option maxHeartbeats 2000000
namespace Go.Proofs
open Go Go.AM
attribute [local irreducible] Run Ends
/-- cmp.isNaN[int] -/
def c110 : MC :=
  .seq (.reg false [.op .none 2 (.mv (.c (.w (.bool false))))]) <|
  .seq (.reg false [.op .none 3 (.mv (.t 0)),
    .op .none 4 (.mv (.t 0)),
    .op .none 5 (.bin .neq (.t 3) (.t 4)),
    .op .none 2 (.mv (.t 5))]) <|
  .ret
theorem k110 : FnCode Try.prog 110 [] 6 [2] c110 := ⟨Try.f110, Try.func110, fun xs W => Try.call110 xs W, by kernel_rfl, by kernel_rfl, by kernel_rfl⟩

/-- cmp.Compare[int] -/
def c77 : MC :=
  .seq (.reg false [.op .none 4 (.mv (.c (.w (.int .i64 0))))]) <|
  .seq (.reg false [.op .none 7 (.mv (.t 0)),
    .call .none 8 (.f 110) [(.t 7)],
    .op .none 5 (.mv (.t 8))]) <|
  .seq (.reg false [.op .none 9 (.mv (.t 1)),
    .call .none 10 (.f 110) [(.t 9)],
    .op .none 6 (.mv (.t 10))]) <|
  .seq (.seq (.reg false [.op .none 11 (.mv (.t 5))]) <|
  .cond (.t 11)
    (.seq (.seq (.reg false [.op .none 12 (.mv (.t 6))]) <|
    .cond (.t 12)
      (.seq (.reg false [.op .none 4 (.mv (.c (.w (.int .i64 0))))]) <|
      .ret)
      (.skip)) <|
    .seq (.reg false [.op .none 4 (.mv (.c (.w (.int .i64 (-1)))))]) <|
    .ret)
    (.skip)) <|
  .seq (.seq (.reg false [.op .none 13 (.mv (.t 6))]) <|
  .cond (.t 13)
    (.seq (.reg false [.op .none 4 (.mv (.c (.w (.int .i64 1))))]) <|
    .ret)
    (.skip)) <|
  .seq (.seq (.reg false [.op .none 14 (.mv (.t 0)),
    .op .none 15 (.mv (.t 1)),
    .op .none 16 (.bin .lss (.t 14) (.t 15))]) <|
  .cond (.t 16)
    (.seq (.reg false [.op .none 4 (.mv (.c (.w (.int .i64 (-1)))))]) <|
    .ret)
    (.skip)) <|
  .seq (.seq (.reg false [.op .none 17 (.mv (.t 0)),
    .op .none 18 (.mv (.t 1)),
    .op .none 19 (.bin .gtr (.t 17) (.t 18))]) <|
  .cond (.t 19)
    (.seq (.reg false [.op .none 4 (.mv (.c (.w (.int .i64 1))))]) <|
    .ret)
    (.skip)) <|
  .seq (.reg false [.op .none 4 (.mv (.c (.w (.int .i64 0))))]) <|
  .ret
theorem k77 : FnCode Try.prog 77 [] 20 [4] c77 := ⟨Try.f77, Try.func77, fun xs W => Try.call77 xs W, by kernel_rfl, by kernel_rfl, by kernel_rfl⟩

/-- ablaut/transfer.Memory$1 -/
def c76 : MC :=
  .seq (.reg false [.op .none 2 (.box false (.t 0)),
    .op .none 3 (.box false (.t 1)),
    .op .none 4 (.mv (.c (.w (.int .i64 0))))]) <|
  .seq (.reg false [.op .none 5 (.fa 0 (.t 2)),
    .op .none 6 (.ld false 1 (.t 5)),
    .op .none 7 (.fa 0 (.t 3)),
    .op .none 8 (.ld false 1 (.t 7)),
    .call .none 9 (.f 77) [(.t 6), (.t 8)],
    .op .none 4 (.mv (.t 9))]) <|
  .ret
theorem k76 : FnCode Try.prog 76 [] 10 [4] c76 := ⟨Try.f76, Try.func76, fun xs W => Try.call76 xs W, by kernel_rfl, by kernel_rfl, by kernel_rfl⟩

/-- slices.insertionSortCmpFunc[ablaut/api.Paid] -/
def c115 : MC :=
  .seq (.reg false [.op .none 10 (.mv (.t 1)),
    .op .none 11 (.bin .add (.t 10) (.c (.w (.int .i64 1)))),
    .op .none 8 (.mv (.t 11))]) <|
  .block 0 <|
    .loop <|
      .seq (.seq (.reg false [.op .none 12 (.mv (.t 8)),
        .op .none 13 (.mv (.t 2)),
        .op .none 14 (.bin .lss (.t 12) (.t 13))]) <|
      .cond (.t 14)
        (.skip)
        (.exit 0)) <|
      .seq (.block 1 <|
        .seq (.reg false [.op .none 17 (.mv (.t 8)),
          .op .none 9 (.mv (.t 17))]) <|
        .block 2 <|
          .loop <|
            .seq (.seq (.reg true [.op .none 18 (.mv (.t 9)),
              .op .none 19 (.mv (.t 1)),
              .op .none 20 (.bin .gtr (.t 18) (.t 19)),
              .op .none 21 (.mv (.t 20)),
              .op (.some (21, true)) 22 (.mv (.t 3)),
              .op (.some (21, true)) 23 (.mv (.t 0)),
              .op (.some (21, true)) 24 (.mv (.t 9)),
              .op (.some (21, true)) 25 (.ia 2 (.t 23) (.t 24)),
              .op (.some (21, true)) 26 (.ld true 2 (.t 25)),
              .op (.some (21, true)) 27 (.mv (.t 0)),
              .op (.some (21, true)) 28 (.mv (.t 9)),
              .op (.some (21, true)) 29 (.bin .sub (.t 28) (.c (.w (.int .i64 1)))),
              .op (.some (21, true)) 30 (.ia 2 (.t 27) (.t 29)),
              .op (.some (21, true)) 31 (.ld true 2 (.t 30)),
              .call (.some (21, true)) 32 (.t 22) [(.t 26), (.t 31)],
              .op (.some (21, true)) 33 (.bin .lss (.t 32) (.c (.w (.int .i64 0)))),
              .op .none 34 (.pick (.t 21) (.t 33) (.c (.w (.bool false))))]) <|
            .cond (.t 34)
              (.skip)
              (.exit 2)) <|
            .seq (.block 3 <|
              .reg true [.op .none 37 (.mv (.t 0)),
                .op .none 38 (.mv (.t 9)),
                .op .none 39 (.mv (.t 0)),
                .op .none 40 (.mv (.t 9)),
                .op .none 41 (.bin .sub (.t 40) (.c (.w (.int .i64 1)))),
                .op .none 42 (.mv (.t 0)),
                .op .none 43 (.mv (.t 9)),
                .op .none 44 (.bin .sub (.t 43) (.c (.w (.int .i64 1)))),
                .op .none 45 (.ia 2 (.t 42) (.t 44)),
                .op .none 46 (.ld true 2 (.t 45)),
                .op .none 47 (.mv (.t 0)),
                .op .none 48 (.mv (.t 9)),
                .op .none 49 (.ia 2 (.t 47) (.t 48)),
                .op .none 50 (.ld true 2 (.t 49)),
                .op .none 51 (.ia 2 (.t 37) (.t 38)),
                .store .none true 2 (.t 51) (.t 46),
                .op .none 52 (.ia 2 (.t 39) (.t 41)),
                .store .none true 2 (.t 52) (.t 50)]) <|
            .reg false [.op .none 35 (.mv (.t 9)),
              .op .none 36 (.bin .sub (.t 35) (.c (.w (.int .i64 1)))),
              .op .none 9 (.mv (.t 36))]) <|
      .reg false [.op .none 15 (.mv (.t 8)),
        .op .none 16 (.bin .add (.t 15) (.c (.w (.int .i64 1)))),
        .op .none 8 (.mv (.t 16))]
theorem k115 : FnCode Try.prog 115 [] 53 [] c115 := ⟨Try.f115, Try.func115, fun xs W => Try.call115 xs W, by kernel_rfl, by kernel_rfl, by kernel_rfl⟩

def cmpZ (a b : Int) : Int := if a < b then -1 else if b < a then 1 else 0
theorem cmpZ_lt {a b : Int} : cmpZ a b < 0 ↔ a < b := by unfold cmpZ; split <;> (try split) <;> omega
def cPd (x y : PaidT) : Int := cmpZ x.1 y.1
theorem preP : Pre cPd where
  le h1 h2 := by unfold cPd at *; rw [cmpZ_lt] at *; omega
  asy h := by unfold cPd at *; rw [cmpZ_lt] at *; omega
theorem fok110 (a : Int) : FOk Try.prog 110 [.I a] [] (.B false) [] := by
  refine FOk.val k110 (by simp) (by simp) (by decide) ?_
  simp [c110]
  exact Ends.v rfl (by simp)
theorem fok77 (a b : Int) : FOk Try.prog 77 [.I a, .I b] [] (.I (cmpZ a b)) [] := by
  have h1 := fok110
  refine FOk.val k77 (by simp) (by simp) (by decide) ?_
  unfold cmpZ
  simp [c77]
  refine CallG.lent rfl rfl rfl rfl (h1 a) rfl ?_
  simp
  refine CallG.lent rfl rfl rfl rfl (h1 b) rfl ?_
  by_cases e1 : a < b
  · simp [e1]
    exact Ends.v rfl (by simp [e1])
  · by_cases e2 : b < a
    · simp [e1, e2]
      exact Ends.v rfl (by simp [e1, e2])
    · simp [e1, e2]
      exact Ends.v rfl (by simp [e1, e2])
theorem fok76 (x y : PaidT) : FOk Try.prog 76 [.v (paidV x), .v (paidV y)] [] (.I (cPd x y)) [] := by
  have h1 := fok77 x.1 y.1
  obtain ⟨xc, xw, xu⟩ := x
  obtain ⟨yc, yw, yu⟩ := y
  unfold cPd
  simp only at h1 ⊢
  refine FOk.val k76 (by simp) (by simp) (by decide) ?_
  simp [c76, paidV]
  refine CallG.lent rfl rfl rfl rfl h1 rfl ?_
  simp
  exact Ends.v rfl (by simp)
theorem fok115 (D : List PaidT) (a b : Nat) (ha0 : a ≤ b) (ha : b ≤ D.length) (hD : D.length ≤ 1000000) : FOk Try.prog 115 [.h 0, .I a, .I b, .fn 76 []] [(0, ⟨false, 2, D.map paidV⟩)] (.tup []) [(0, ⟨false, 2, (insI cPd D a (b - (a + 1))).map paidV⟩)] := by
  have hcmp := fok76
  refine FOk.of k115 1 (by simp) (by decide) (by simp) (by simp) (by simp [find]; rintro _ _ _ rfl rfl _ rfl; rfl) (by decide) ?_
  simp (disch := omega) [c115, wrap_i64]
  refine Run.loopA (ι := Nat) [(0, 0)] (fun n => n ≤ b - (a + 1)) (fun n => ⟨[(0, .h 0), (1, .I a), (2, .I b), (3, .fn 76 []), (8, .I (a + 1 + n : Nat))], [(0, ⟨false, 2, (insI cPd D a n).map paidV⟩)], 1024⟩) (fun n => b - (a + 1) - n) 0 (by decide) (by simp [insI]) (by simp) ?_
  rintro n hn ih
  have hlen := insI_len (c := cPd) D a n
  by_cases h : n < b - (a + 1)
  case neg =>
    have hin : n = b - (a + 1) := by omega
    have hc1 : ¬ ((a : Int) + 1 + n < b) := by omega
    have hc2 : b ≤ a + 1 + n := by omega
    rw [← hin]
    simp [hc1, hc2]
    exact Ends.one rfl rfl rfl rfl
  have hc1 : (a : Int) + 1 + n < b := by omega
  have hnext : insI cPd D a (n + 1) = bub cPd (insI cPd D a n) a (a + 1 + n) := rfl
  generalize insI cPd D a n = D1 at hlen hnext
  simp (disch := omega) [hc1, wrap_i64]
  generalize hT : insI cPd D a (n + 1) = T at hnext
  refine Run.loopA (ι := List PaidT × Nat) [(0, 0)] (fun q => q.1.length = D.length ∧ q.2 ≤ a + 1 + n ∧ bub cPd q.1 a q.2 = T) (fun q => ⟨[(0, .h 0), (1, .I a), (2, .I b), (3, .fn 76 []), (8, .I (a + 1 + n : Nat)), (9, .I q.2)], [(0, ⟨false, 2, q.1.map paidV⟩)], 1024⟩) (fun q => q.2) (D1, a + 1 + n) (by decide) (by simp) ⟨hlen, by simp, hnext.symm⟩ ?_
  rintro ⟨D2, j⟩ ⟨hl2, hj, hall⟩ ihj
  simp only at hl2 hj hall ihj
  by_cases hja : a < j
  case neg =>
    have hb : bub cPd D2 a j = D2 := by
      cases j with
      | zero => rfl
      | succ j => simp only [bub]; rw [if_neg (fun h => hja h.1)]
    rw [hb] at hall
    subst hall
    simp (disch := omega) [hja, wrap_i64]
    refine ih (n + 1) _ (by omega) (by omega) ?_
    simp [hT]
    omega
  obtain ⟨k, rfl⟩ : ∃ k, j = k + 1 := ⟨j - 1, by omega⟩
  simp only [bub] at hall
  have g1 := gd_some (D := D2) (i := k + 1) (by omega)
  have g2 := gd_some (D := D2) (i := k) (by omega)
  obtain ⟨g1a, g1b⟩ := List.getElem?_eq_some_iff.1 g1
  obtain ⟨g2a, g2b⟩ := List.getElem?_eq_some_iff.1 g2
  have hset := map_set2 D2 (k + 1) k
  have hcc := hcmp (gd D2 (k + 1)) (gd D2 k)
  generalize gd D2 (k + 1) = x at g1 g1b hset hcc hall
  generalize gd D2 k = y at g2 g2b hset hcc hall
  have hxv : paidV x = .st [.i x.1, .word x.2.1] := by obtain ⟨xc, xw, xu⟩ := x; rfl
  have hyv : paidV y = .st [.i y.1, .word y.2.1] := by obtain ⟨yc, yw, yu⟩ := y; rfl
  rw [hxv, hyv] at hcc hset
  have e1 : (((k : Int) + 1) - 1) = k := by omega
  have hka : (a : Int) < (k : Int) + 1 := by omega
  simp (disch := omega) [hja, hka, wrap_i64, e1, g1, g2, g1a, g2a, g1b, g2b, hxv, hyv]
  refine CallG.lent rfl rfl rfl rfl hcc rfl ?_
  by_cases q : cPd x y < 0
  · rw [if_pos ⟨hja, q⟩] at hall
    have hsl := sw_len D2 (k + 1) k
    obtain ⟨z, hz⟩ : ∃ z : PaidT, (D2.set (k + 1) y)[k]? = some z := ⟨_, List.getElem?_eq_getElem (by simp; omega)⟩
    have hz2 : ((D2.map paidV).set (k + 1) (.st [.i y.1, .word y.2.1]))[k]? = some (.st [.i z.1, .word z.2.1]) := by
      rw [← hyv, ← List.map_set, List.getElem?_map, hz]; obtain ⟨zc, zw, zu⟩ := z; rfl
    simp only [PV.i, PV.word, PV.s] at hz2 hset
    simp (disch := omega) [hja, hka, wrap_i64, e1, g1, g2, g1a, g2a, g1b, g2b, hxv, hyv, q, hz2]
    refine ihj (sw D2 (k + 1) k, k) _ ⟨by simp [hsl, hl2], by simp; omega, hall⟩ (by simp) ?_
    simp [← hset]
  · rw [if_neg (fun h => q h.2)] at hall
    subst hall
    have q' : ¬ cPd x y < 0 := q
    simp (disch := omega) [wrap_i64, q']
    refine ih (n + 1) _ (by omega) (by omega) ?_
    simp [hT]
    omega

end Go.Proofs
