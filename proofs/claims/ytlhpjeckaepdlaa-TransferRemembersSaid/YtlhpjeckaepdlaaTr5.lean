/- The walk. -/
import Derived.Test.YtlhpjeckaepdlaaTr4
import Derived.Test.YtlhpjeckaepdlaaProg
import Derived.KernelRfl
set_option linter.all false
set_option maxHeartbeats 2000000
namespace Go.Proofs
open Go Go.AM
attribute [local irreducible] Run Ends
/-- ablaut/transfer.of -/
def c88 : MC :=
  .seq (.reg false [.op .none 1 (.box false (.t 0)),
    .op .none 2 (.mv (.c (.w .nilIface))),
    .op .none 3 (.mv (.c (.w (.bool false))))]) <|
  .seq (.block 0 <|
    .seq (.reg false [.op .none 5 (.fa 0 (.t 1)),
      .op .none 6 (.ld false 1 (.t 5)),
      .op .none 7 (.bin .eql (.t 6) (.c (.w (.int .i64 (-1))))),
      .op .none 4 (.mv (.t 7))]) <|
    .cond (.t 4)
      (.seq (.reg false [.op .none 8 (.fa 1 (.t 1)),
        .op .none 9 (.ld false 1 (.t 8)),
        .op .none 10 (.fa 2 (.t 1)),
        .op .none 11 (.ld false 1 (.t 10)),
        .op .none 12 (.build false [(.w (.string ⟨#[]⟩)), (.sl 1 [])] [(0, 1, (.t 9)), (1, 1, (.t 11))]),
        .op .none 13 (.mki 120 (.t 12)),
        .op .none 2 (.mv (.t 13)),
        .op .none 3 (.mv (.c (.w (.bool true))))]) <|
      .ret)
      (.seq (.reg false [.op .none 15 (.fa 0 (.t 1)),
        .op .none 16 (.ld false 1 (.t 15)),
        .op .none 17 (.bin .lss (.t 16) (.c (.w (.int .i64 (-1))))),
        .op .none 18 (.mv (.t 17)),
        .op (.some (18, false)) 19 (.fa 1 (.t 1)),
        .op (.some (18, false)) 20 (.ld false 1 (.t 19)),
        .op (.some (18, false)) 21 (.bin .neq (.t 20) (.c (.w (.string ⟨#[]⟩)))),
        .op .none 22 (.pick (.t 18) (.c (.w (.bool true))) (.t 21)),
        .op .none 23 (.mv (.t 22)),
        .op (.some (23, false)) 24 (.fa 2 (.t 1)),
        .op (.some (23, false)) 25 (.ld false 1 (.t 24)),
        .op (.some (23, false)) 26 (.len false (.t 25)),
        .op (.some (23, false)) 27 (.bin .gtr (.t 26) (.c (.w (.int .i64 0)))),
        .op .none 28 (.pick (.t 23) (.c (.w (.bool true))) (.t 27)),
        .op .none 14 (.mv (.t 28))]) <|
      .cond (.t 14)
        (.seq (.reg false [.op .none 2 (.mv (.c (.w .nilIface))),
          .op .none 3 (.mv (.c (.w (.bool false))))]) <|
        .ret)
        (.skip))) <|
  .seq (.reg false [.op .none 29 (.fa 0 (.t 1)),
    .op .none 30 (.ld false 1 (.t 29)),
    .op .none 31 (.mki 118 (.t 30)),
    .op .none 2 (.mv (.t 31)),
    .op .none 3 (.mv (.c (.w (.bool true))))]) <|
  .ret
theorem k88 : FnCode Try.prog 88 [] 32 [2, 3] c88 := ⟨Try.f88, Try.func88, fun xs W => Try.call88 xs W, by kernel_rfl, by kernel_rfl, by kernel_rfl⟩

/-- (ablaut/transfer.old).ok -/
def c135 : MC :=
  .seq (.reg false [.op .none 4 (.mv (.c (.w (.bool false))))]) <|
  .seq (.reg false [.op .none 5 (.mv (.t 0)),
    .op .none 6 (.mv (.t 1)),
    .op .none 7 (.bin .lss (.t 5) (.t 6)),
    .op .none 4 (.mv (.t 7))]) <|
  .ret
theorem k135 : FnCode Try.prog 135 [] 8 [4] c135 := ⟨Try.f135, Try.func135, fun xs W => Try.call135 xs W, by kernel_rfl, by kernel_rfl, by kernel_rfl⟩

/-- (ablaut/transfer.fresh).ok -/
def c136 : MC :=
  .seq (.reg false [.op .none 2 (.box false (.t 0)),
    .op .none 4 (.mv (.c (.w (.bool false))))]) <|
  .seq (.reg false [.op .none 5 (.fa 0 (.t 2)),
    .op .none 6 (.ld false 1 (.t 5)),
    .op .none 7 (.bin .neq (.t 6) (.c (.w (.string ⟨#[]⟩)))),
    .op .none 8 (.mv (.t 7)),
    .op (.some (8, true)) 9 (.fa 0 (.t 2)),
    .op (.some (8, true)) 10 (.ld false 1 (.t 9)),
    .call (.some (8, true)) 11 (.f 37) [(.t 10)],
    .op .none 12 (.pick (.t 8) (.t 11) (.c (.w (.bool false)))),
    .op .none 13 (.mv (.t 12)),
    .op (.some (13, true)) 14 (.fa 1 (.t 2)),
    .op (.some (13, true)) 15 (.ld false 1 (.t 14)),
    .call (.some (13, true)) 16 (.f 36) [(.t 15)],
    .op .none 17 (.pick (.t 13) (.t 16) (.c (.w (.bool false)))),
    .op .none 4 (.mv (.t 17))]) <|
  .ret
theorem k136 : FnCode Try.prog 136 [] 18 [4] c136 := ⟨Try.f136, Try.func136, fun xs W => Try.call136 xs W, by kernel_rfl, by kernel_rfl, by kernel_rfl⟩

/-- ablaut/transfer.isSlot -/
def c42 : MC :=
  .seq (.reg false [.op .none 2 (.box false (.t 0)),
    .op .none 4 (.mv (.c (.w (.bool false))))]) <|
  .seq (.reg false [.op .none 8 (.ld true 5 (.t 2)),
    .call .none 9 (.f 88) [(.t 8)],
    .op .none 7 (.mv (.t 9)),
    .op .none 10 (.ext (.t 7) 0),
    .op .none 11 (.ext (.t 7) 1),
    .op .none 5 (.mv (.t 10)),
    .op .none 6 (.mv (.t 11))]) <|
  .seq (.seq (.reg false [.op .none 12 (.mv (.t 6)),
    .op .none 13 (.un .not (.t 12)),
    .op .none 14 (.mv (.t 13)),
    .op (.some (14, false)) 15 (.mv (.t 5)),
    .op (.some (14, false)) 16 (.mv (.t 1)),
    .call (.some (14, false)) 17 (.im 15 [(118, 135), (120, 136)]) [(.pl 15), (.t 16)],
    .op (.some (14, false)) 18 (.un .not (.t 17)),
    .op .none 19 (.pick (.t 14) (.c (.w (.bool true))) (.t 18)),
    .op .none 20 (.mv (.t 19)),
    .op (.some (20, false)) 21 (.fa 3 (.t 2)),
    .op (.some (20, false)) 22 (.ld false 1 (.t 21)),
    .op (.some (20, false)) 23 (.bin .lss (.t 22) (.c (.w (.int .i64 (-1))))),
    .op .none 24 (.pick (.t 20) (.c (.w (.bool true))) (.t 23)),
    .op .none 25 (.mv (.t 24)),
    .op (.some (25, false)) 26 (.fa 3 (.t 2)),
    .op (.some (25, false)) 27 (.ld false 1 (.t 26)),
    .op (.some (25, false)) 28 (.mv (.t 1)),
    .op (.some (25, false)) 29 (.bin .geq (.t 27) (.t 28)),
    .op .none 30 (.pick (.t 25) (.c (.w (.bool true))) (.t 29)),
    .op .none 31 (.mv (.t 30)),
    .op (.some (31, false)) 32 (.fa 4 (.t 2)),
    .op (.some (31, false)) 33 (.ld false 1 (.t 32)),
    .call (.some (31, false)) 34 (.f 36) [(.t 33)],
    .op (.some (31, false)) 35 (.un .not (.t 34)),
    .op .none 36 (.pick (.t 31) (.c (.w (.bool true))) (.t 35))]) <|
  .cond (.t 36)
    (.seq (.reg false [.op .none 4 (.mv (.c (.w (.bool false))))]) <|
    .ret)
    (.skip)) <|
  .seq (.reg false [.op .none 37 (.fa 3 (.t 2)),
    .op .none 38 (.ld false 1 (.t 37)),
    .op .none 39 (.bin .neq (.t 38) (.c (.w (.int .i64 (-1))))),
    .op .none 40 (.mv (.t 39)),
    .op (.some (40, false)) 41 (.fa 4 (.t 2)),
    .op (.some (40, false)) 42 (.ld false 1 (.t 41)),
    .op (.some (40, false)) 43 (.len false (.t 42)),
    .op (.some (40, false)) 44 (.bin .eql (.t 43) (.c (.w (.int .i64 0)))),
    .op .none 45 (.pick (.t 40) (.c (.w (.bool true))) (.t 44)),
    .op .none 4 (.mv (.t 45))]) <|
  .ret
theorem k42 : FnCode Try.prog 42 [] 46 [4] c42 := ⟨Try.f42, Try.func42, fun xs W => Try.call42 xs W, by kernel_rfl, by kernel_rfl, by kernel_rfl⟩

/-- ablaut/transfer.Validate$1 -/
def c39 : MC :=
  .seq (.reg false [.op .none 2 (.mv (.c (.w (.bool false))))]) <|
  .seq (.reg false [.op .none 3 (.mv (.t 0)),
    .call .none 4 (.f 35) [(.t 3)],
    .op .none 5 (.un .not (.t 4)),
    .op .none 2 (.mv (.t 5))]) <|
  .ret
theorem k39 : FnCode Try.prog 39 [] 6 [2] c39 := ⟨Try.f39, Try.func39, fun xs W => Try.call39 xs W, by kernel_rfl, by kernel_rfl, by kernel_rfl⟩

/-- ablaut/transfer.Validate$2 -/
def c41 : MC :=
  .seq (.reg false [.op .none 2 (.box false (.t 0)),
    .op .none 3 (.mv (.c (.w (.bool false))))]) <|
  .seq (.reg false [.op .none 4 (.ld true 5 (.t 2)),
    .op .none 5 (.ld false 1 (.t 1)),
    .call .none 6 (.f 42) [(.t 4), (.t 5)],
    .op .none 7 (.un .not (.t 6)),
    .op .none 3 (.mv (.t 7))]) <|
  .ret
theorem k41 : FnCode Try.prog 41 [] 8 [3] c41 := ⟨Try.f41, Try.func41, fun xs W => Try.call41 xs W, by kernel_rfl, by kernel_rfl, by kernel_rfl⟩

/-- ablaut/transfer.Validate$3 -/
def c44 : MC :=
  .seq (.reg false [.op .none 2 (.box false (.t 0)),
    .op .none 3 (.mv (.c (.w (.bool false))))]) <|
  .seq (.reg false [.op .none 4 (.fa 0 (.t 2)),
    .op .none 5 (.ld false 1 (.t 4)),
    .op .none 6 (.fa 0 (.t 1)),
    .op .none 7 (.ld false 1 (.t 6)),
    .op .none 8 (.bin .eql (.t 5) (.t 7)),
    .op .none 9 (.mv (.t 8)),
    .op (.some (9, true)) 10 (.fa 1 (.t 2)),
    .op (.some (9, true)) 11 (.ld false 1 (.t 10)),
    .op (.some (9, true)) 12 (.fa 1 (.t 1)),
    .op (.some (9, true)) 13 (.ld false 1 (.t 12)),
    .call (.some (9, true)) 14 (.f 45) [(.t 11), (.t 13)],
    .op .none 15 (.pick (.t 9) (.t 14) (.c (.w (.bool false)))),
    .op .none 3 (.mv (.t 15))]) <|
  .ret
theorem k44 : FnCode Try.prog 44 [] 16 [3] c44 := ⟨Try.f44, Try.func44, fun xs W => Try.call44 xs W, by kernel_rfl, by kernel_rfl, by kernel_rfl⟩

/-- What a slot writes. -/
def ofP (s : SlotT) : PV × Bool := if s.1 = -1 then (.ifc 120 (unitV (s.2.1, s.2.2.1, ())), true) else if s.1 < -1 ∨ s.2.1 ≠ [] ∨ s.2.2.1 ≠ [] then (.w .nilIface, false) else (.ifc 118 (.i s.1), true)
theorem fok88 (s : SlotT) : FOk Try.prog 88 [.v (slotV s)] [] (.tup [.v (ofP s).1, .B (ofP s).2]) [] := by
  obtain ⟨o, b, t, f, k, u⟩ := s
  refine FOk.val k88 (by simp) (by simp) (by decide) ?_
  by_cases h1 : o = -1
  · subst h1
    simp [c88, slotV]
    exact Ends.v rfl (by simp [ofP, unitV])
  by_cases h2 : o < -1
  · simp [c88, slotV, h1, h2]
    exact Ends.v rfl (by simp [ofP, h1, h2])
  rcases b with _ | ⟨b1, b⟩
  · rcases t with _ | ⟨t1, t⟩
    · simp [c88, slotV, h1, h2]
      exact Ends.v rfl (by simp [ofP, h1, h2])
    · simp [c88, slotV, h1, h2]
      exact Ends.v rfl (by simp [ofP, h1, h2])
  · simp [c88, slotV, h1, h2]
    exact Ends.v rfl (by simp [ofP, h1, h2])
theorem fok135 (a n : Int) : FOk Try.prog 135 [.I a, .I n] [] (.B (decide (a < n))) [] := by
  refine FOk.val k135 (by simp) (by simp) (by decide) ?_
  simp [c135]
  exact Ends.v rfl (by simp)
def frOk (b : Bs) (t : List Bs) : Bool := decide (b ≠ []) && (isPl b && isNms [] t)
theorem fok136 (b : Bs) (t : List Bs) (n : Int) (hb : smB b) (ht : wordS t) : FOk Try.prog 136 [.v (unitV (b, t, ())), .I n] [] (.B (frOk b t)) [] := by
  refine FOk.val k136 (by simp) (by simp) (by decide) ?_
  simp [c136, unitV]
  refine ⟨fun h => ?_, fun h => Ends.v rfl (by simp [frOk, h])⟩
  refine CallG.lent rfl rfl rfl rfl (fok37 b hb) rfl ?_
  cases hp : isPl b
  · simp
    exact Ends.v rfl (by simp [frOk, hp])
  · simp
    refine CallG.lent rfl rfl rfl rfl (fok36 t ht) rfl ?_
    simp
    exact Ends.v rfl (by simp [frOk, hp, h])
def slotOk (s : SlotT) (n : Int) : Bool :=
  (if s.1 = -1 then frOk s.2.1 s.2.2.1 else decide (-1 ≤ s.1) && (decide (s.2.1 = []) && (decide (s.2.2.1 = []) && decide (s.1 < n)))) &&
  (decide (-1 ≤ s.2.2.2.1) && (decide (s.2.2.2.1 < n) && (isNms [] s.2.2.2.2.1 && (decide (s.2.2.2.1 ≠ -1) || decide (s.2.2.2.2.1 = [])))))
theorem fok42 (s : SlotT) (n : Int) (hs : slotS s) : FOk Try.prog 42 [.v (slotV s), .I n] [] (.B (slotOk s n)) [] := by
  have h1 := fok88 s
  obtain ⟨o, b, t, f, k, u⟩ := s
  obtain ⟨s1, s2, s3⟩ := hs
  simp only at s1 s2 s3
  have hk := fok36 k s2
  have hF := fok136 b t n s3 s1
  have hO := fok135 o n
  refine FOk.val k42 (by simp) (by simp) (by decide) ?_
  simp [c42, slotV]
  refine CallG.plain rfl rfl rfl rfl h1 (by simp) (by simp) ?_
  have hbad : ∀ x : PV × Bool, x = ofP (o, b, t, f, k, u) → x.2 = false → slotOk (o, b, t, f, k, u) n = false := by
    intro x hx h2
    subst hx
    unfold ofP at h2
    split at h2
    · cases h2
    · rename_i q1
      split at h2
      · rename_i q2
        simp only [slotOk]
        simp only at q1 q2
        rw [if_neg q1]
        rcases q2 with q2 | q2 | q2
        · simp [show ¬ -1 ≤ o by omega]
        · simp [q2]
        · simp [q2]
      · cases h2
  have hcase : (∃ b1 : Bool, slotOk (o, b, t, f, k, u) n = (b1 && (decide (-1 ≤ f) && (decide (f < n) && (isNms [] k && (decide (f ≠ -1) || decide (k = [])))))) ∧
      ((o = -1 ∧ b1 = frOk b t) ∨ (o ≠ -1 ∧ ¬ o < -1 ∧ b = [] ∧ t = [] ∧ b1 = decide (o < n)))) ∨ (ofP (o, b, t, f, k, u) = (.w .nilIface, false)) := by
    by_cases c1 : o = -1
    · exact .inl ⟨frOk b t, by simp [slotOk, c1], .inl ⟨c1, rfl⟩⟩
    · by_cases c2 : o < -1 ∨ b ≠ [] ∨ t ≠ []
      · exact .inr (by simp only [ofP]; rw [if_neg c1, if_pos c2])
      · have q1 : ¬ o < -1 := fun q => c2 (.inl q)
        have q2 : b = [] := Decidable.byContradiction fun q => c2 (.inr (.inl q))
        have q3 : t = [] := Decidable.byContradiction fun q => c2 (.inr (.inr q))
        refine .inl ⟨decide (o < n), ?_, .inr ⟨c1, q1, q2, q3, rfl⟩⟩
        simp [slotOk, c1, q2, q3, show -1 ≤ o by omega]
  rcases hcase with ⟨b1, hb1, hc⟩ | hc
  case inr =>
    rw [hbad _ rfl (by rw [hc])]
    rw [hc]
    simp
    exact Ends.v rfl (by simp)
  rw [hb1]
  clear hbad hb1 h1
  rcases hc with ⟨c1, rfl⟩ | ⟨c1, c2, rfl, rfl, rfl⟩
  case' inl =>
    subst c1
    simp [ofP, unitV]
    refine CallG.lent rfl rfl rfl rfl hF rfl ?_
    generalize frOk b t = b1
  case' inr =>
    simp [ofP, c1, c2]
    refine CallG.lent rfl rfl rfl rfl hO rfl ?_
    generalize decide (o < n) = b1
  all_goals
    clear hF hO
    cases b1
    case false =>
      simp
      exact Ends.v rfl (by simp)
    by_cases d1 : f < -1
    · simp [d1]
      exact Ends.v rfl (by simp [show ¬ -1 ≤ f by omega])
    by_cases d2 : n ≤ f
    · simp [d1, d2]
      exact Ends.v rfl (by simp [show ¬ f < n by omega])
    simp [d1, d2]
    refine CallG.lent rfl rfl rfl rfl hk rfl ?_
    have d1' : -1 ≤ f := by omega
    have d2' : f < n := by omega
    cases isNms [] k
    · simp
      exact Ends.v rfl (by simp)
    · simp [d1', d2']
      by_cases d3 : f = -1
      · rcases k with _ | ⟨k1, k⟩
        · simp [d3]
          exact Ends.v rfl (by simp)
        · simp [d3]
          exact Ends.v rfl (by simp)
      · simp [d3]
        exact Ends.v rfl (by simp)

end Go.Proofs
