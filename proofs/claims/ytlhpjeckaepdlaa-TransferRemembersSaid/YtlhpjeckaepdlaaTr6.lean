/- The walk. -/
import Derived.Test.YtlhpjeckaepdlaaTr5
import Derived.Test.YtlhpjeckaepdlaaProg
import Derived.KernelRfl
set_option linter.all false
set_option maxHeartbeats 2000000
namespace Go.Proofs
open Go Go.AM
attribute [local irreducible] Run Ends
/-- ablaut/transfer.Validate -/
def c11 : MC :=
  .seq (.reg false [.op .none 1 (.box false (.t 0)),
    .op .none 2 (.mv (.c (.w (.int .i64 0))))]) <|
  .seq (.seq (.reg false [.op .none 10 (.ld true 2 (.t 1)),
    .call .none 11 (.f 34) [(.t 10)]]) <|
  .cond (.t 11)
    (.seq (.reg false [.op .none 2 (.mv (.c (.w (.int .i64 3))))]) <|
    .ret)
    (.skip)) <|
  .seq (.seq (.reg false [.op .none 12 (.fa 0 (.t 1)),
    .op .none 13 (.ld false 1 (.t 12)),
    .op .none 14 (.len false (.t 13)),
    .op .none 15 (.mv (.c (.w (.int .i64 0))))]) <|
  .block 0 <|
    .loop <|
      .seq (.reg false [.op .none 16 (.bin .lss (.t 15) (.t 14))]) <|
      .seq (.cond (.t 16)
        (.skip)
        (.exit 0)) <|
      .seq (.block 1 <|
        .seq (.reg false [.op .none 17 (.ia 4 (.t 13) (.t 15)),
          .op .none 18 (.ld true 4 (.t 17)),
          .op .none 4 (.alloc true [(.w (.string ⟨#[]⟩)), (.sl 1 []), (.w (.string ⟨#[]⟩)), (.sl 1 [])]),
          .store .none true 4 (.t 4) (.t 18)]) <|
        .seq (.reg false [.op .none 19 (.fa 1 (.t 4)),
          .op .none 20 (.ld false 1 (.t 19)),
          .call .none 21 (.f 35) [(.t 20)],
          .op .none 22 (.un .not (.t 21)),
          .op .none 23 (.mv (.t 22)),
          .op (.some (23, false)) 24 (.fa 3 (.t 4)),
          .op (.some (23, false)) 25 (.ld false 1 (.t 24)),
          .call (.some (23, false)) 26 (.f 36) [(.t 25)],
          .op (.some (23, false)) 27 (.un .not (.t 26)),
          .op .none 28 (.pick (.t 23) (.c (.w (.bool true))) (.t 27)),
          .op .none 29 (.mv (.t 28)),
          .op (.some (29, false)) 30 (.fa 0 (.t 4)),
          .op (.some (29, false)) 31 (.ld false 1 (.t 30)),
          .op (.some (29, false)) 32 (.bin .eql (.t 31) (.c (.w (.string ⟨#[]⟩)))),
          .op .none 33 (.pick (.t 29) (.c (.w (.bool true))) (.t 32)),
          .op .none 34 (.mv (.t 33)),
          .op (.some (34, false)) 35 (.fa 2 (.t 4)),
          .op (.some (34, false)) 36 (.ld false 1 (.t 35)),
          .op (.some (34, false)) 37 (.bin .eql (.t 36) (.c (.w (.string ⟨#[]⟩)))),
          .op .none 38 (.pick (.t 34) (.c (.w (.bool true))) (.t 37)),
          .op .none 39 (.mv (.t 38)),
          .op (.some (39, false)) 40 (.fa 0 (.t 4)),
          .op (.some (39, false)) 41 (.ld false 1 (.t 40)),
          .call (.some (39, false)) 42 (.f 37) [(.t 41)],
          .op (.some (39, false)) 43 (.un .not (.t 42)),
          .op .none 44 (.pick (.t 39) (.c (.w (.bool true))) (.t 43)),
          .op .none 45 (.mv (.t 44)),
          .op (.some (45, false)) 46 (.fa 2 (.t 4)),
          .op (.some (45, false)) 47 (.ld false 1 (.t 46)),
          .call (.some (45, false)) 48 (.f 37) [(.t 47)],
          .op (.some (45, false)) 49 (.un .not (.t 48)),
          .op .none 50 (.pick (.t 45) (.c (.w (.bool true))) (.t 49))]) <|
        .cond (.t 50)
          (.seq (.reg false [.op .none 2 (.mv (.c (.w (.int .i64 1))))]) <|
          .ret)
          (.skip)) <|
      .reg false [.op .none 51 (.bin .add (.t 15) (.c (.w (.int .i64 1)))),
        .op .none 15 (.mv (.t 51))]) <|
  .seq (.seq (.reg false [.op .none 52 (.fa 1 (.t 1)),
    .op .none 53 (.ld false 1 (.t 52)),
    .op .none 54 (.len false (.t 53)),
    .op .none 55 (.mv (.c (.w (.int .i64 0))))]) <|
  .block 2 <|
    .loop <|
      .seq (.reg false [.op .none 56 (.bin .lss (.t 55) (.t 54))]) <|
      .seq (.cond (.t 56)
        (.skip)
        (.exit 2)) <|
      .seq (.block 3 <|
        .seq (.reg false [.op .none 57 (.ia 2 (.t 53) (.t 55)),
          .op .none 58 (.ld true 2 (.t 57)),
          .op .none 6 (.alloc true [(.sl 1 []), (.sl 5 [])]),
          .store .none true 2 (.t 6) (.t 58)]) <|
        .seq (.reg false [.op .none 59 (.fa 0 (.t 6)),
          .op .none 60 (.ld false 1 (.t 59)),
          .op .none 61 (.len false (.t 60)),
          .op .none 7 (.alloc false [(.w (.int .i64 0))]),
          .store .none false 1 (.t 7) (.t 61)]) <|
        .seq (.reg false [.op .none 62 (.ld false 1 (.t 7)),
          .op .none 63 (.bin .eql (.t 62) (.c (.w (.int .i64 0)))),
          .op .none 64 (.mv (.t 63)),
          .op (.some (64, false)) 65 (.fa 0 (.t 6)),
          .op (.some (64, false)) 66 (.ld false 1 (.t 65)),
          .call (.some (64, false)) 67 (.f 38) [(.t 66), (.f 39)],
          .op .none 68 (.pick (.t 64) (.c (.w (.bool true))) (.t 67)),
          .op .none 69 (.mv (.t 68)),
          .op (.some (69, false)) 70 (.fa 1 (.t 6)),
          .op (.some (69, false)) 71 (.ld false 1 (.t 70)),
          .op (.some (69, false)) 72 (.mkf 41 [(.t 7)]),
          .call (.some (69, false)) 73 (.f 40) [(.t 71), (.t 72)],
          .op .none 74 (.pick (.t 69) (.c (.w (.bool true))) (.t 73))]) <|
        .cond (.t 74)
          (.seq (.reg false [.op .none 2 (.mv (.c (.w (.int .i64 1))))]) <|
          .ret)
          (.skip)) <|
      .reg false [.op .none 75 (.bin .add (.t 55) (.c (.w (.int .i64 1)))),
        .op .none 55 (.mv (.t 75))]) <|
  .seq (.seq (.reg false [.op .none 76 (.fa 0 (.t 1)),
    .op .none 77 (.ld false 1 (.t 76)),
    .op .none 78 (.len false (.t 77)),
    .op .none 79 (.mv (.c (.w (.int .i64 0))))]) <|
  .block 4 <|
    .loop <|
      .seq (.reg false [.op .none 80 (.bin .lss (.t 79) (.t 78))]) <|
      .seq (.cond (.t 80)
        (.skip)
        (.exit 4)) <|
      .seq (.block 5 <|
        .seq (.reg false [.op .none 81 (.mv (.t 79)),
          .op .none 82 (.ia 4 (.t 77) (.t 79)),
          .op .none 83 (.ld true 4 (.t 82)),
          .op .none 9 (.alloc true [(.w (.string ⟨#[]⟩)), (.sl 1 []), (.w (.string ⟨#[]⟩)), (.sl 1 [])]),
          .op .none 8 (.mv (.t 81)),
          .store .none true 4 (.t 9) (.t 83)]) <|
        .seq (.reg false [.op .none 84 (.fa 0 (.t 1)),
          .op .none 85 (.ld false 1 (.t 84)),
          .op .none 86 (.mv (.t 8)),
          .op .none 87 (.slc false 4 (.t 85) .none (.some (.t 86))),
          .op .none 88 (.mkf 44 [(.t 9)]),
          .call .none 89 (.f 43) [(.t 87), (.t 88)]]) <|
        .cond (.t 89)
          (.seq (.reg false [.op .none 2 (.mv (.c (.w (.int .i64 5))))]) <|
          .ret)
          (.skip)) <|
      .reg false [.op .none 90 (.bin .add (.t 79) (.c (.w (.int .i64 1)))),
        .op .none 79 (.mv (.t 90))]) <|
  .seq (.reg false [.op .none 2 (.mv (.c (.w (.int .i64 0))))]) <|
  .ret
theorem k11 : FnCode Try.prog 11 [] 91 [2] c11 := ⟨Try.f11, Try.func11, fun xs W => Try.call11 xs W, by kernel_rfl, by kernel_rfl, by kernel_rfl⟩

theorem fok39 (l : List Bs) (hl : wordS l) : FOk Try.prog 39 [.v (.word l)] [] (.B (!ascN none l)) [] := by
  refine FOk.val k39 (by simp) (by simp) (by decide) ?_
  simp [c39]
  refine CallG.lent rfl rfl rfl rfl (fok35 l hl) rfl ?_
  simp
  exact Ends.v rfl (by simp)
theorem fok41 (s : SlotT) (n : Int) (hs : slotS s) : FOk Try.prog 41 [.v (slotV s), .rp [.i n]] [] (.B (!slotOk s n)) [] := by
  have h1 := fok42 s n hs
  obtain ⟨o, b, t, f, k, u⟩ := s
  refine FOk.val k41 (by simp) (by simp) (by decide) ?_
  simp [c41, slotV]
  refine CallG.lent rfl rfl rfl rfl h1 rfl ?_
  simp
  exact Ends.v rfl (by simp)
def sameTu (x r : TurnT) : Bool := decide (x.1 = r.1) && decide (x.2.1 = r.2.1)
theorem fok44 (x r : TurnT) (hx : turnS x) (hr : turnS r) : FOk Try.prog 44 [.v (turnV x), .rp (turnV r).cells] [] (.B (sameTu x r)) [] := by
  obtain ⟨f, i, t, p, u⟩ := x
  obtain ⟨f2, i2, t2, p2, u2⟩ := r
  have h1 := fok45 i i2 hx.1.1 hr.1.1
  refine FOk.val k44 (by simp) (by simp [turnV]) (by decide) ?_
  by_cases c1 : f = f2
  · simp [c44, turnV, c1]
    refine CallG.lent rfl rfl rfl rfl h1 rfl ?_
    simp
    exact Ends.v rfl (by simp [sameTu, c1])
  · simp [c44, turnV, c1]
    exact Ends.v rfl (by simp [sameTu, c1])
def turnBad (r : TurnT) : Bool := !(ascN none r.2.1 && (isNms [] r.2.2.2.1 && (decide (r.1 ≠ []) && (decide (r.2.2.1 ≠ []) && (isPl r.1 && isPl r.2.2.1)))))
def ruleBad (r : ShufT) : Bool := decide (r.1.length = 0) || (r.1.any (fun l => !ascN none l) || r.2.1.any (fun s => !slotOk s r.1.length))
def dupT : List TurnT → List TurnT → Bool
  | _, [] => false
  | pre, r :: l => pre.any (fun x => sameTu x r) || dupT (pre ++ [r]) l
def validF (b : BrT) : Int := if brLng b = true then 3 else if b.1.any turnBad = true then 1 else if b.2.1.any ruleBad = true then 1 else if dupT [] b.1 = true then 5 else 0
theorem fok11 (b : BrT) (hb : brS b) : FOk Try.prog 11 [.v (brV b)] [] (.I (validF b)) [] := by
  have h1 := fok34 b hb
  obtain ⟨R, S, u⟩ := b
  obtain ⟨b1, b2, b3, b4⟩ := hb
  simp only at b1 b2 b3 b4
  refine FOk.val k11 (by simp) (by simp) (by decide) ?_
  simp [c11, brV]
  refine CallG.lent rfl rfl rfl rfl h1 rfl ?_
  simp only [validF]
  cases hL : brLng (R, S, u)
  case true =>
    simp
    exact Ends.v rfl (by simp)
  simp
  clear h1 hL
  refine Run.loopA (ι := Nat) [(1, 1)] (fun i => i ≤ R.length ∧ ∀ s ∈ R.take i, turnBad s = false) (fun i => ⟨[(1, .ptr 1 0 0), (13, .v (.sl 4 (R.map turnV))), (14, .I R.length), (15, .I i)], [(1, ⟨false, 2, [brV (R, S, u)]⟩)], 1024⟩) (fun i => R.length - i) 0 (by decide) (by simp [brV]) (by simp) ?_
  rintro i ⟨hi, hno⟩ ih
  by_cases h : i < R.length
  · have hs := b2 _ (List.getElem_mem h)
    have hyes := any_at turnBad R h
    have hnext := any_take turnBad R h hno
    generalize hx : R[i] = r at hs hyes hnext
    obtain ⟨f, ii, t, p, u2⟩ := r
    have c1 := fok35 ii hs.1
    have c2 := fok36 p hs.2.1
    have c3 := fok37 f hs.2.2.1
    have c4 := fok37 t hs.2.2.2
    simp only [turnBad] at hyes hnext
    generalize ascN none ii = x1 at c1 hyes hnext
    generalize isNms [] p = x2 at c2 hyes hnext
    generalize isPl f = x3 at c3 hyes hnext
    generalize isPl t = x4 at c4 hyes hnext
    have hE : ∀ {x : Int}, R.any turnBad = true → (if R.any turnBad = true then (1 : Int) else x) = 1 := fun q => if_pos q
    simp (disch := omega) [h, wrap_i64, brV, hx, turnV]
    refine CallG.lent rfl rfl rfl rfl c1 rfl ?_
    cases x1
    case false =>
      rw [hE (hyes rfl)]
      simp (disch := omega) [wrap_i64]
      exact Ends.v rfl (by simp)
    simp (disch := omega) [wrap_i64]
    refine CallG.lent rfl rfl rfl rfl c2 rfl ?_
    cases x2
    case false =>
      rw [hE (hyes rfl)]
      simp (disch := omega) [wrap_i64]
      exact Ends.v rfl (by simp)
    by_cases d1 : f = []
    · rw [hE (hyes (by simp [d1]))]
      simp (disch := omega) [wrap_i64, d1]
      exact Ends.v rfl (by simp)
    by_cases d2 : t = []
    · rw [hE (hyes (by simp [d2]))]
      simp (disch := omega) [wrap_i64, d1, d2]
      exact Ends.v rfl (by simp)
    simp (disch := omega) [wrap_i64, d1, d2]
    refine CallG.lent rfl rfl rfl rfl c3 rfl ?_
    cases x3
    case false =>
      rw [hE (hyes (by simp))]
      simp (disch := omega) [wrap_i64]
      exact Ends.v rfl (by simp)
    simp (disch := omega) [wrap_i64]
    refine CallG.lent rfl rfl rfl rfl c4 rfl ?_
    cases x4
    case false =>
      rw [hE (hyes (by simp))]
      simp (disch := omega) [wrap_i64]
      exact Ends.v rfl (by simp)
    simp (disch := omega) [wrap_i64]
    exact ih (i + 1) _ ⟨by omega, hnext (by simp [d1, d2])⟩ (by omega) (by simp [brV])
  have hiR : i = R.length := by omega
  subst hiR
  rw [List.take_length] at hno
  rw [any_end turnBad R hno] at ih ⊢
  clear ih h hno
  simp [brV]
  refine Run.loopA (ι := Nat) [(1, 1)] (fun i => i ≤ S.length ∧ ∀ s ∈ S.take i, ruleBad s = false) (fun i => ⟨[(1, .ptr 1 0 0), (53, .v (.sl 2 (S.map shufV))), (54, .I S.length), (55, .I i)], [(1, ⟨false, 2, [brV (R, S, u)]⟩)], 1024⟩) (fun i => S.length - i) 0 (by decide) (by simp [brV]) (by simp) ?_
  rintro i ⟨hi, hno⟩ ih
  by_cases h : i < S.length
  · have hs := b4 _ (List.getElem_mem h)
    have hyes := any_at ruleBad S h
    have hnext := any_take ruleBad S h hno
    generalize hx : S[i] = r at hs hyes hnext
    obtain ⟨p, o, u2⟩ := r
    obtain ⟨p1, p2, p3, p4⟩ := hs
    simp only at p1 p2 p3 p4
    simp only [ruleBad] at hyes hnext
    have hE : ∀ {x : Int}, S.any ruleBad = true → (if S.any ruleBad = true then (1 : Int) else x) = 1 := fun q => if_pos q
    by_cases d1 : p.length = 0
    · rw [hE (hyes (by simp [d1]))]
      simp (disch := omega) [h, wrap_i64, brV, hx, shufV, wordsV, d1]
      exact Ends.v rfl (by simp)
    have d1' : ¬ (p.length : Int) = 0 := by omega
    have c1 := fok38 p _ _ _ (fixF0 39) (fun l => !ascN none l) (fun w hw => fok39 w (p2 w hw)) p1
    have c2 := fok40 o _ _ _ (fixFn 41 [.i p.length] [] (by simp) (by simp) (by simp) (by simp)) (fun s => !slotOk s p.length) (fun s hs => fok41 s p.length (p4 s hs)) p3
    generalize (p.any fun l => !ascN none l) = x1 at c1 hyes hnext
    generalize (o.any fun s => !slotOk s p.length) = x2 at c2 hyes hnext
    simp (disch := omega) [h, wrap_i64, brV, hx, shufV, wordsV, d1, d1']
    refine CallG.lent rfl rfl rfl rfl c1 rfl ?_
    cases x1
    case true =>
      rw [hE (hyes (by simp))]
      simp (disch := omega) [wrap_i64]
      exact Ends.v rfl (by simp)
    simp (disch := omega) [wrap_i64, hx, shufV, wordsV]
    refine CallG.lent rfl rfl rfl rfl c2 rfl ?_
    cases x2
    case true =>
      rw [hE (hyes (by simp))]
      simp (disch := omega) [wrap_i64]
      exact Ends.v rfl (by simp)
    simp (disch := omega) [wrap_i64]
    exact ih (i + 1) _ ⟨by omega, hnext (by simp [d1])⟩ (by omega) (by simp [brV])
  have hiR : i = S.length := by omega
  subst hiR
  rw [List.take_length] at hno
  rw [any_end ruleBad S hno] at ih ⊢
  clear ih h hno
  simp [brV]
  refine Run.loopA (ι := Nat) [(1, 1)] (fun i => i ≤ R.length ∧ dupT (R.take i) (R.drop i) = dupT [] R) (fun i => ⟨[(1, .ptr 1 0 0), (77, .v (.sl 4 (R.map turnV))), (78, .I R.length), (79, .I i)], [(1, ⟨false, 2, [brV (R, S, u)]⟩)], 1024⟩) (fun i => R.length - i) 0 (by decide) (by simp [brV]) (by simp) ?_
  rintro i ⟨hi, hd⟩ ih
  by_cases h : i < R.length
  · rw [drop_at h] at hd
    simp only [dupT] at hd
    rw [← List.take_succ_eq_append_getElem h] at hd
    have hs := b2 _ (List.getElem_mem h)
    have hc := fok43 (R.take i) _ _ _ (fixFn 44 (turnV R[i]).cells [] (by simp) (by simp) (by simp) (by simp)) (fun x => sameTu x R[i]) (fun x hx => fok44 x R[i] (b2 x (List.mem_of_mem_take hx)) hs) (by simp; omega)
    generalize ((R.take i).any fun x => sameTu x R[i]) = x1 at hc hd
    generalize hx : R[i] = r at hc
    obtain ⟨f, ii, t, p, u2⟩ := r
    simp [turnV] at hc
    simp (disch := omega) [h, wrap_i64, brV, hx, turnV, hi]
    refine CallG.lent rfl rfl rfl rfl hc rfl ?_
    cases x1
    case true =>
      simp only [Bool.true_or] at hd
      rw [← hd]
      simp (disch := omega) [wrap_i64]
      exact Ends.v rfl (by simp)
    simp only [Bool.false_or] at hd
    simp (disch := omega) [wrap_i64]
    exact ih (i + 1) _ ⟨by omega, hd⟩ (by omega) (by simp [brV])
  · rw [drop_no h] at hd
    simp only [dupT] at hd
    rw [← hd]
    simp [h]
    exact Ends.v rfl (by simp)

end Go.Proofs
