/- The walk. -/
import Derived.Test.YtphjjlhpepmofaaGreatF3
import Derived.Test.YtphjjlhpepmofaaGreatProg
import Derived.KernelRfl
set_option linter.all false
set_option maxHeartbeats 2000000
namespace Go.Proofs
open Go Go.AM
attribute [local irreducible] Run Ends
/-- slices.BinarySearchFunc[[]ablaut/api.Near,ablaut/api.Near,ablaut/api.Near] -/
def c127 : MC :=
  .seq (.reg false [.op .none 4 (.box false (.t 1)),
    .op .none 6 (.mv (.c (.w (.int .i64 0)))),
    .op .none 7 (.mv (.c (.w (.bool false))))]) <|
  .seq (.reg false [.op .none 12 (.mv (.t 0)),
    .op .none 13 (.len false (.t 12)),
    .op .none 8 (.mv (.t 13))]) <|
  .seq (.reg false [.op .none 14 (.mv (.t 8)),
    .op .none 9 (.mv (.c (.w (.int .i64 0)))),
    .op .none 10 (.mv (.t 14))]) <|
  .seq (.block 0 <|
    .loop <|
      .seq (.seq (.reg false [.op .none 15 (.mv (.t 9)),
        .op .none 16 (.mv (.t 10)),
        .op .none 17 (.bin .lss (.t 15) (.t 16))]) <|
      .cond (.t 17)
        (.skip)
        (.exit 0)) <|
      .block 1 <|
        .seq (.reg false [.op .none 18 (.mv (.t 9)),
          .op .none 19 (.mv (.t 10)),
          .op .none 20 (.bin .add (.t 18) (.t 19)),
          .op .none 21 (.conv .u64 (.t 20)),
          .op .none 22 (.bin .shr (.t 21) (.c (.w (.int .u64 1)))),
          .op .none 23 (.conv .i64 (.t 22)),
          .op .none 11 (.mv (.t 23))]) <|
        .seq (.reg true [.op .none 24 (.mv (.t 2)),
          .op .none 25 (.mv (.t 0)),
          .op .none 26 (.mv (.t 11)),
          .op .none 27 (.ia 3 (.t 25) (.t 26)),
          .op .none 28 (.ld true 3 (.t 27)),
          .op .none 29 (.ld true 3 (.t 4)),
          .call .none 30 (.t 24) [(.t 28), (.t 29)],
          .op .none 31 (.bin .lss (.t 30) (.c (.w (.int .i64 0))))]) <|
        .cond (.t 31)
          (.reg false [.op .none 32 (.mv (.t 11)),
            .op .none 33 (.bin .add (.t 32) (.c (.w (.int .i64 1)))),
            .op .none 9 (.mv (.t 33))])
          (.reg false [.op .none 34 (.mv (.t 11)),
            .op .none 10 (.mv (.t 34))])) <|
  .seq (.reg true [.op .none 35 (.mv (.t 9)),
    .op .none 36 (.mv (.t 9)),
    .op .none 37 (.mv (.t 8)),
    .op .none 38 (.bin .lss (.t 36) (.t 37)),
    .op .none 39 (.mv (.t 38)),
    .op (.some (39, true)) 40 (.mv (.t 2)),
    .op (.some (39, true)) 41 (.mv (.t 0)),
    .op (.some (39, true)) 42 (.mv (.t 9)),
    .op (.some (39, true)) 43 (.ia 3 (.t 41) (.t 42)),
    .op (.some (39, true)) 44 (.ld true 3 (.t 43)),
    .op (.some (39, true)) 45 (.ld true 3 (.t 4)),
    .call (.some (39, true)) 46 (.t 40) [(.t 44), (.t 45)],
    .op (.some (39, true)) 47 (.bin .eql (.t 46) (.c (.w (.int .i64 0)))),
    .op .none 48 (.pick (.t 39) (.t 47) (.c (.w (.bool false)))),
    .op .none 6 (.mv (.t 35)),
    .op .none 7 (.mv (.t 48))]) <|
  .ret
theorem k127 : FnCode Tryz.prog 127 [] 49 [6, 7] c127 := ⟨Tryz.f127, Tryz.func127, fun xs W => Tryz.call127 xs W, by kernel_rfl, by kernel_rfl, by kernel_rfl⟩

/-- ablaut/spell.near -/
def c99 : MC :=
  .seq (.reg false [.op .none 3 (.box false (.t 0)),
    .op .none 6 (.mv (.c (.w (.int .i64 0))))]) <|
  .seq (.reg false [.op .none 10 (.fa 4 (.t 3)),
    .op .none 11 (.ld false 1 (.t 10)),
    .op .none 12 (.mv (.t 1)),
    .op .none 13 (.mv (.t 2)),
    .op .none 14 (.mm false (.t 12) (.t 13)),
    .op .none 15 (.mv (.t 1)),
    .op .none 16 (.mv (.t 2)),
    .op .none 17 (.mm true (.t 15) (.t 16)),
    .op .none 18 (.build false [(.w (.string ⟨#[]⟩)), (.w (.string ⟨#[]⟩)), (.w (.int .i64 0))] [(0, 1, (.t 14)), (1, 1, (.t 17))]),
    .call .none 19 (.f 127) [(.t 11), (.t 18), (.f 98)],
    .op .none 9 (.mv (.t 19)),
    .op .none 20 (.ext (.t 9) 0),
    .op .none 21 (.ext (.t 9) 1),
    .op .none 7 (.mv (.t 20)),
    .op .none 8 (.mv (.t 21))]) <|
  .seq (.seq (.reg false [.op .none 22 (.mv (.t 8))]) <|
  .cond (.t 22)
    (.seq (.reg false [.op .none 23 (.fa 4 (.t 3)),
      .op .none 24 (.ld false 1 (.t 23)),
      .op .none 25 (.mv (.t 7)),
      .op .none 26 (.ia 3 (.t 24) (.t 25)),
      .op .none 27 (.fa 2 (.t 26)),
      .op .none 28 (.ld false 1 (.t 27)),
      .op .none 6 (.mv (.t 28))]) <|
    .ret)
    (.skip)) <|
  .seq (.reg false [.op .none 29 (.fa 3 (.t 3)),
    .op .none 30 (.ld false 1 (.t 29)),
    .op .none 6 (.mv (.t 30))]) <|
  .ret
theorem k99 : FnCode Tryz.prog 99 [] 31 [6] c99 := ⟨Tryz.f99, Tryz.func99, fun xs W => Tryz.call99 xs W, by kernel_rfl, by kernel_rfl, by kernel_rfl⟩

theorem fok127 (l : List NearT) (t : NearT) (hl : l.length ≤ 1000) (hs : ∀ i j (hi : i < l.length) (hj : j < l.length), i < j → cmpN l[j] t < 0 → cmpN l[i] t < 0) :
    FOk Tryz.prog 127 [.v (.sl 3 (l.map nearV)), .v (nearV t), .fn 98 []] [] (.tup [.I (fiC (fun n => cmpN n t) l), .B (match l[fiC (fun n => cmpN n t) l]? with | some n => decide (cmpN n t = 0) | none => false)]) [] := by
  refine FOk.val k127 (by simp) (by simp) (by decide) ?_
  simp [c127, nearV]
  refine Run.loopI (ι := Nat × Nat) (fun q => q.1 ≤ q.2 ∧ q.2 ≤ l.length ∧ (∀ k (h : k < l.length), k < q.1 → cmpN l[k] t < 0) ∧ (∀ k (h : k < l.length), q.2 ≤ k → ¬ cmpN l[k] t < 0)) (fun q => ⟨[(0, .v (.sl 3 (l.map nearV))), (2, .fn 98 []), (4, .ptr 1 0 0), (8, .I l.length), (9, .I q.1), (10, .I q.2)], [(1, ⟨false, 3, [nearV t]⟩)], 1024⟩) (fun q => q.2 - q.1) (0, l.length) [(1, 1028)] (by decide) (by simp [nearV]) ⟨by simp, by simp, by simp, by intro k h h2; simp at h2; omega⟩ ?_
  rintro ⟨i, j⟩ ⟨h1, h2, h3, h4⟩ ih
  simp only at h1 h2 h3 h4 ih ⊢
  by_cases h : i < j
  · have he := half_eq (i := i) (j := j) (by omega)
    obtain ⟨m, hm⟩ : ∃ m, m = (i + j) / 2 := ⟨_, rfl⟩
    rw [← hm] at he
    have hh : m < l.length := by omega
    simp (disch := omega) [h, wrap_i64, wrap_u64, he, hh, nearV]
    refine CallG.lent rfl rfl rfl rfl (fok98 l[m] t) rfl ?_
    simp (disch := omega) [wrap_i64]
    refine ⟨fun hc => ?_, fun hc => ?_⟩
    · refine ih (m + 1, j) [(1, 1)] _ ⟨by simp; omega, h2, ?_, h4⟩ (by simp; omega) (by simp [nearV])
      intro k hk hk2
      simp only at hk2
      rcases Nat.lt_or_ge k m with h5 | h5
      · exact hs k _ hk hh h5 hc
      · obtain rfl : k = m := by omega
        exact hc
    · refine ih (i, m) [(1, 1)] _ ⟨by simp; omega, by simp; omega, h3, ?_⟩ (by simp; omega) (by simp [nearV])
      intro k hk hk2 hc2
      simp only at hk2
      rcases Nat.eq_or_lt_of_le hk2 with h5 | h5
      · subst h5; omega
      · have := hs _ k hh hk h5 hc2; omega
  · obtain rfl : i = j := by omega
    have hf : fiC (fun n => cmpN n t) l = i := fiC_eq _ h2 h3 (fun hk => h4 i hk (Nat.le_refl _))
    by_cases hi : i < l.length
    · simp (disch := omega) [h, wrap_i64, wrap_u64, nearV, hi]
      refine CallG.lent rfl rfl rfl rfl (fok98 l[i] t) rfl ?_
      simp
      exact Ends.v rfl (by simp [hf, hi])
    · simp (disch := omega) [h, wrap_i64, wrap_u64, nearV, hi]
      exact Ends.v rfl (by simp [hf, hi])

/-- Another price is the price of one symbol for another one. -/
theorem fok99 (p : PricesT) (x y : Bs) (hp : OkP p) : FOk Tryz.prog 99 [.v (pricesV p), .S x, .S y] [] (.I (nearF p x y)) [] := by
  obtain ⟨pd, pp, ps, pc, l, u⟩ := p
  have hs : ∀ (t : NearT) (i j : Nat) (hi : i < l.length) (hj : j < l.length), i < j → cmpN l[j] t < 0 → cmpN l[i] t < 0 :=
    fun t i j hi hj hij hc => cmpN_trans (List.pairwise_iff_getElem.1 hp.asc i j hi hj hij) hc
  have hb := fok127 l (tgt x y) (by have := hp.len; simp only at this; omega) (hs _)
  refine FOk.val k99 (by simp) (by simp) (by decide) ?_
  simp [c99, pricesV, bs_ite]
  cases hg : l[fiC (fun n => cmpN n (tgt x y)) l]? with
  | none =>
    rw [hg] at hb
    refine CallG.lent rfl rfl rfl rfl hb rfl ?_
    simp
    exact Ends.v rfl (by simp [nearF, hg])
  | some n =>
    rw [hg] at hb
    refine CallG.lent rfl rfl rfl rfl hb rfl ?_
    by_cases h0 : cmpN n (tgt x y) = 0
    · simp [h0, hg, nearV]
      exact Ends.v rfl (by simp [nearF, hg, h0])
    · simp [h0]
      exact Ends.v rfl (by simp [nearF, hg, h0])

end Go.Proofs
