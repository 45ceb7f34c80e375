/- The walk. -/
import Derived.Test.YtlhpjeckaepdlaaSc4
import Derived.Test.YtlhpjeckaepdlaaProg
import Derived.KernelRfl
set_option linter.all false
set_option maxHeartbeats 2000000
namespace Go.Proofs
open Go Go.AM
attribute [local irreducible] Run Ends
/-- slices.stableCmpFunc[ablaut/api.Paid] -/
def c109 : MC :=
  .seq (.reg false [.op .none 6 (.mv (.c (.w (.int .i64 20))))]) <|
  .seq (.reg false [.op .none 10 (.mv (.t 6)),
    .op .none 7 (.mv (.c (.w (.int .i64 0)))),
    .op .none 8 (.mv (.t 10))]) <|
  .seq (.block 0 <|
    .loop <|
      .seq (.seq (.reg false [.op .none 11 (.mv (.t 8)),
        .op .none 12 (.mv (.t 1)),
        .op .none 13 (.bin .leq (.t 11) (.t 12))]) <|
      .cond (.t 13)
        (.skip)
        (.exit 0)) <|
      .block 1 <|
        .seq (.reg false [.op .none 14 (.mv (.t 0)),
          .op .none 15 (.mv (.t 7)),
          .op .none 16 (.mv (.t 8)),
          .op .none 17 (.mv (.t 2)),
          .call .none 18 (.f 115) [(.t 14), (.t 15), (.t 16), (.t 17)]]) <|
        .seq (.reg false [.op .none 19 (.mv (.t 8)),
          .op .none 7 (.mv (.t 19))]) <|
        .reg false [.op .none 20 (.mv (.t 8)),
          .op .none 21 (.mv (.t 6)),
          .op .none 22 (.bin .add (.t 20) (.t 21)),
          .op .none 8 (.mv (.t 22))]) <|
  .seq (.reg false [.op .none 23 (.mv (.t 0)),
    .op .none 24 (.mv (.t 7)),
    .op .none 25 (.mv (.t 1)),
    .op .none 26 (.mv (.t 2)),
    .call .none 27 (.f 115) [(.t 23), (.t 24), (.t 25), (.t 26)]]) <|
  .block 2 <|
    .loop <|
      .seq (.seq (.reg false [.op .none 28 (.mv (.t 6)),
        .op .none 29 (.mv (.t 1)),
        .op .none 30 (.bin .lss (.t 28) (.t 29))]) <|
      .cond (.t 30)
        (.skip)
        (.exit 2)) <|
      .block 3 <|
        .seq (.reg false [.op .none 31 (.mv (.t 6)),
          .op .none 32 (.bin .mul (.c (.w (.int .i64 2))) (.t 31)),
          .op .none 7 (.mv (.c (.w (.int .i64 0)))),
          .op .none 8 (.mv (.t 32))]) <|
        .seq (.block 4 <|
          .loop <|
            .seq (.seq (.reg false [.op .none 33 (.mv (.t 8)),
              .op .none 34 (.mv (.t 1)),
              .op .none 35 (.bin .leq (.t 33) (.t 34))]) <|
            .cond (.t 35)
              (.skip)
              (.exit 4)) <|
            .block 5 <|
              .seq (.reg false [.op .none 36 (.mv (.t 0)),
                .op .none 37 (.mv (.t 7)),
                .op .none 38 (.mv (.t 7)),
                .op .none 39 (.mv (.t 6)),
                .op .none 40 (.bin .add (.t 38) (.t 39)),
                .op .none 41 (.mv (.t 8)),
                .op .none 42 (.mv (.t 2)),
                .call .none 43 (.f 116) [(.t 36), (.t 37), (.t 40), (.t 41), (.t 42)]]) <|
              .seq (.reg false [.op .none 44 (.mv (.t 8)),
                .op .none 7 (.mv (.t 44))]) <|
              .reg false [.op .none 45 (.mv (.t 8)),
                .op .none 46 (.mv (.t 6)),
                .op .none 47 (.bin .mul (.c (.w (.int .i64 2))) (.t 46)),
                .op .none 48 (.bin .add (.t 45) (.t 47)),
                .op .none 8 (.mv (.t 48))]) <|
        .seq (.seq (.reg false [.op .none 49 (.mv (.t 7)),
          .op .none 50 (.mv (.t 6)),
          .op .none 51 (.bin .add (.t 49) (.t 50)),
          .op .none 9 (.mv (.t 51))]) <|
        .seq (.reg false [.op .none 52 (.mv (.t 9)),
          .op .none 53 (.mv (.t 1)),
          .op .none 54 (.bin .lss (.t 52) (.t 53))]) <|
        .cond (.t 54)
          (.reg false [.op .none 55 (.mv (.t 0)),
            .op .none 56 (.mv (.t 7)),
            .op .none 57 (.mv (.t 9)),
            .op .none 58 (.mv (.t 1)),
            .op .none 59 (.mv (.t 2)),
            .call .none 60 (.f 116) [(.t 55), (.t 56), (.t 57), (.t 58), (.t 59)]])
          (.skip)) <|
        .reg false [.op .none 61 (.mv (.t 6)),
          .op .none 62 (.bin .mul (.t 61) (.c (.w (.int .i64 2)))),
          .op .none 6 (.mv (.t 62))]
theorem k109 : FnCode Try.prog 109 [] 63 [] c109 := ⟨Try.f109, Try.func109, fun xs W => Try.call109 xs W, by kernel_rfl, by kernel_rfl, by kernel_rfl⟩

/-- slices.SortStableFunc[[]ablaut/api.Paid,ablaut/api.Paid] -/
def c75 : MC :=
  .reg false [.op .none 4 (.mv (.t 0)),
    .op .none 5 (.mv (.t 0)),
    .op .none 6 (.len false (.t 5)),
    .op .none 7 (.mv (.t 1)),
    .call .none 8 (.f 109) [(.t 4), (.t 6), (.t 7)]]
theorem k75 : FnCode Try.prog 75 [] 9 [] c75 := ⟨Try.f75, Try.func75, fun xs W => Try.call75 xs W, by kernel_rfl, by kernel_rfl, by kernel_rfl⟩

theorem insP_blk (P X S : List PaidT) (a b : Nat) (hD : (P ++ X ++ S).length ≤ 1000000) (ha : a = P.length) (hb : b = a + X.length) : FOk Try.prog 115 [.h 0, .I a, .I b, .fn 76 []] [(0, ⟨false, 2, (P ++ X ++ S).map paidV⟩)] (.tup []) [(0, ⟨false, 2, (P ++ isrt cPd X ++ S).map paidV⟩)] := by
  have h := fok115 (P ++ X ++ S) a b (by omega) (by simp; omega) hD
  have e : insI cPd (P ++ X ++ S) a (b - (a + 1)) = P ++ isrt cPd X ++ S := by
    cases X with
    | nil =>
      have : b - (a + 1) = 0 := by simp at hb; omega
      rw [this]; simp [insI, isrt]
    | cons x0 X =>
      have h0 : b - (a + 1) = X.length := by simp at hb; omega
      rw [h0, ha, insI_eq preP X _ (Nat.le_refl _)]
      simp
  rw [e] at h
  exact h
theorem fok109 (X : List PaidT) (hX : X.length ≤ 100000) : FOk Try.prog 109 [.h 0, .I X.length, .fn 76 []] [(0, ⟨false, 2, X.map paidV⟩)] (.tup []) [(0, ⟨false, 2, (isrt cPd X).map paidV⟩)] := by
  have hins := insP_blk
  have hsym := fun P A B S a m b => fok116 (A.length + B.length) P A B S a m b (Nat.le_refl _)
  refine FOk.of k109 1 (by simp) (by decide) (by simp) (by simp) (by simp [find]; rintro _ _ _ rfl rfl _ rfl; rfl) (by decide) ?_
  simp [c109]
  refine Run.loopA (ι := List PaidT × List PaidT) [(0, 0)] (fun q => q.1.length + q.2.length = X.length ∧ ∀ Dr, Bl cPd 20 q.2 Dr → Bl cPd 20 X (q.1 ++ Dr)) (fun q => ⟨[(0, .h 0), (1, .I X.length), (2, .fn 76 []), (6, .I 20), (7, .I q.1.length), (8, .I (q.1.length + 20 : Nat))], [(0, ⟨false, 2, (q.1 ++ q.2).map paidV⟩)], 1024⟩) (fun q => q.2.length) ([], X) (by decide) (by simp) ⟨by simp, fun Dr h => h⟩ ?_
  rintro ⟨P, X2⟩ ⟨hl, hc⟩ ih
  simp only at hl hc ih
  by_cases h : 20 ≤ X2.length
  · have hi := hins P (X2.take 20) (X2.drop 20) P.length (P.length + 20) (by simp; omega) rfl (by simp; omega)
    have e1 : P ++ X2.take 20 ++ X2.drop 20 = P ++ X2 := by rw [List.append_assoc, List.take_append_drop]
    rw [e1] at hi
    have hcond : (P.length : Int) + 20 ≤ X.length := by omega
    have hlt : (isrt cPd (X2.take 20)).length = 20 := by rw [isrt_len]; simp; omega
    simp (disch := omega) [hcond, wrap_i64]
    simp only [List.map_append] at hi
    push_cast at hi
    refine CallG.rows [0] rfl rfl rfl rfl (by simp) (by simp) hi (by simp) (by simp) ?_
    simp (disch := omega) [wrap_i64]
    refine ih (P ++ isrt cPd (X2.take 20), X2.drop 20) _ ⟨by simp [hlt]; omega, fun Dr hDr => ?_⟩ (by simp; omega) ?_
    · have hp := Bl.push (c := cPd) (s := 20) (by decide) (A := X2.take 20) (by simp; omega) hDr
      simp only [List.take_append_drop] at hp
      have := hc _ hp
      simpa using this
    · simp [hlt]
  · have hcond : ¬ (P.length : Int) + 20 ≤ X.length := by omega
    have hcond2 : (X.length : Int) < (P.length : Int) + 20 := by omega
    have hi := hins P X2 [] P.length X.length (by simp; omega) rfl (by omega)
    simp only [List.append_nil] at hi
    have hb := hc _ (Bl.part (c := cPd) (s := 20) (A := X2) (by omega))
    generalize hD0 : P ++ isrt cPd X2 = D0 at hi hb
    simp (disch := omega) [hcond, hcond2, wrap_i64]
    simp only [List.map_append] at hi
    refine CallG.rows [0] rfl rfl rfl rfl (by simp) (by simp) hi (by simp) (by simp) ?_
    simp
    clear ih hc hi
    refine Run.loopA (ι := Nat × List PaidT) [(0, 0)] (fun q => 20 ≤ q.1 ∧ q.1 ≤ 400000 ∧ Bl cPd q.1 X q.2) (fun q => ⟨[(0, .h 0), (1, .I X.length), (2, .fn 76 []), (6, .I q.1)], [(0, ⟨false, 2, q.2.map paidV⟩)], 1024⟩) (fun q => 400001 - q.1) (20, D0) (by decide) (by simp) ⟨by simp, by simp, hb⟩ ?_
    rintro ⟨s, D1⟩ ⟨hs1, hs2, hbl⟩ ih2
    simp only at hs1 hs2 hbl ih2
    by_cases g : s < X.length
    case neg =>
      have hfin := hbl.small (by omega) (by omega)
      subst hfin
      simp [g]
      exact Ends.one rfl rfl rfl rfl
    simp (disch := omega) [g, wrap_i64]
    refine Run.loopA (ι := List PaidT × List PaidT × List PaidT) [(0, 0)] (fun q => q.1.length + q.2.1.length = X.length ∧ Bl cPd s q.2.1 q.2.2 ∧ ∀ Dr, Bl cPd (2 * s) q.2.1 Dr → Bl cPd (2 * s) X (q.1 ++ Dr)) (fun q => ⟨[(0, .h 0), (1, .I X.length), (2, .fn 76 []), (6, .I s), (7, .I q.1.length), (8, .I ((q.1.length : Int) + 2 * s))], [(0, ⟨false, 2, (q.1 ++ q.2.2).map paidV⟩)], 1024⟩) (fun q => q.2.1.length) ([], X, D1) (by decide) (by simp) ⟨by simp, hbl, fun Dr h => h⟩ ?_
    rintro ⟨P, X3, D3⟩ ⟨hl3, hb3, hc3⟩ ih3
    simp only at hl3 hb3 hc3 ih3
    have hdl := hb3.len
    by_cases g2 : 2 * s ≤ X3.length
    · obtain ⟨A, B, X4, D4, hA, hB, rfl, rfl, hb4⟩ := hb3.two (by omega) g2
      have hsy := hsym P (isrt cPd A) (isrt cPd B) D4 P.length (P.length + s) (P.length + s + s) (by rw [isrt_len]; omega) (by rw [isrt_len]; omega) (isrt_pw preP _) (isrt_pw preP _) (by simp at hdl hl3 ⊢; omega) rfl (by rw [isrt_len, hA]) (by rw [isrt_len, hB])
      rw [mg_isrt preP] at hsy
      have hlt : (isrt cPd (A ++ B)).length = 2 * s := by rw [isrt_len]; simp; omega
      simp only [List.length_append] at hl3 g2
      have hcond : (P.length : Int) + 2 * s ≤ X.length := by omega
      have e2 : ((P.length + s + s : Nat) : Int) = (P.length : Int) + 2 * s := by omega
      rw [e2] at hsy
      push_cast at hsy
      simp only [List.map_append, List.append_assoc] at hsy
      simp (disch := omega) [hcond, wrap_i64]
      refine CallG.rows [0] rfl rfl rfl rfl (by simp) (by simp) hsy (by simp) (by simp) ?_
      simp (disch := omega) [wrap_i64]
      refine ih3 (P ++ isrt cPd (A ++ B), X4, D4) _ ⟨by simp [hlt]; omega, hb4, fun Dr hDr => ?_⟩ (by simp; omega) ?_
      · have hp := Bl.push (c := cPd) (s := 2 * s) (by omega) (A := A ++ B) (by simp; omega) hDr
        have := hc3 _ hp
        simpa using this
      · simp [hlt]
    · have hcond : ¬ (P.length : Int) + 2 * s ≤ X.length := by omega
      have hcond2 : (X.length : Int) < (P.length : Int) + 2 * s := by omega
      by_cases g3 : s < X3.length
      · obtain ⟨A, B, hA, hB0, rfl, rfl⟩ := hb3.rest (by omega) g3 (by omega)
        simp only [List.length_append] at hl3 g2 g3
        have hBl := List.length_pos_iff.2 hB0
        have hsy := hsym P (isrt cPd A) (isrt cPd B) [] P.length (P.length + s) X.length (by rw [isrt_len]; omega) (by rw [isrt_len]; omega) (isrt_pw preP _) (isrt_pw preP _) (by simp [isrt_len]; omega) rfl (by rw [isrt_len, hA]) (by rw [isrt_len]; omega)
        rw [mg_isrt preP] at hsy
        simp only [List.append_nil] at hsy
        have hnew := hc3 _ (Bl.part (c := cPd) (s := 2 * s) (A := A ++ B) (by simp; omega))
        generalize hD5 : P ++ isrt cPd (A ++ B) = D5 at hsy hnew
        push_cast at hsy
        simp only [List.map_append, List.append_assoc] at hsy
        have hcond3 : (P.length : Int) + s < X.length := by omega
        simp (disch := omega) [hcond, hcond2, hcond3, wrap_i64]
        refine CallG.rows [0] rfl rfl rfl rfl (by simp) (by simp) hsy (by simp) (by simp) ?_
        simp (disch := omega) [wrap_i64]
        refine ih2 (2 * s, D5) _ ⟨by simp; omega, by simp; omega, hnew⟩ (by simp; omega) ?_
        simp
        omega
      · have hsm := hb3.small (by omega) (by omega)
        subst hsm
        have hnew := hc3 _ (Bl.part (c := cPd) (s := 2 * s) (A := X3) (by omega))
        have hcond3 : ¬ (P.length : Int) + s < X.length := by omega
        simp (disch := omega) [hcond, hcond2, hcond3, wrap_i64]
        refine ih2 (2 * s, P ++ isrt cPd X3) _ ⟨by simp; omega, by simp; omega, hnew⟩ (by simp; omega) ?_
        simp
        omega
theorem fok75 (X : List PaidT) (hX : X.length ≤ 100000) : FOk Try.prog 75 [.h 0, .fn 76 []] [(0, ⟨false, 2, X.map paidV⟩)] (.tup []) [(0, ⟨false, 2, (isrt cPd X).map paidV⟩)] := by
  have h := fok109 X hX
  refine FOk.of k75 1 (by simp) (by decide) (by simp) (by simp) (by simp [find]; rintro _ _ _ rfl rfl _ rfl; rfl) (by decide) ?_
  simp [c75]
  refine CallG.rows [0] rfl rfl rfl rfl (by simp) (by simp) h (by simp) (by simp) ?_
  simp
  exact Ends.one rfl rfl rfl rfl

end Go.Proofs
