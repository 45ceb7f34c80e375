/- The walk. -/
import Derived.Test.YtlhpjeckaepdlaaSd8
import Derived.Test.YtlhpjeckaepdlaaProg
import Derived.KernelRfl
set_option linter.all false
set_option maxHeartbeats 2000000
namespace Go.Proofs
open Go Go.AM
attribute [local irreducible] Run Ends
/-- ablaut/ablautlaw28.overKnown -/
def c27 : MC :=
  .seq (.reg false [.op .none 4 (.mv (.c (.w (.bool false))))]) <|
  .seq (.reg false [.op .none 7 (.mv (.t 0)),
    .op .none 8 (.len false (.t 7)),
    .op .none 5 (.mv (.t 8))]) <|
  .seq (.seq (.reg false [.op .none 6 (.mv (.c (.w (.int .i64 0))))]) <|
  .block 0 <|
    .loop <|
      .seq (.seq (.reg false [.op .none 9 (.mv (.t 6)),
        .op .none 10 (.mv (.t 0)),
        .op .none 11 (.len false (.t 10)),
        .op .none 12 (.bin .lss (.t 9) (.t 11)),
        .op .none 13 (.mv (.t 12)),
        .op (.some (13, true)) 14 (.mv (.t 5)),
        .op (.some (13, true)) 15 (.bin .lss (.t 14) (.c (.w (.int .i64 8192)))),
        .op .none 16 (.pick (.t 13) (.t 15) (.c (.w (.bool false))))]) <|
      .cond (.t 16)
        (.skip)
        (.exit 0)) <|
      .seq (.block 1 <|
        .seq (.reg true [.op .none 19 (.mv (.t 5)),
          .op .none 20 (.mv (.t 0)),
          .op .none 21 (.mv (.t 6)),
          .op .none 22 (.ia 2 (.t 20) (.t 21)),
          .op .none 23 (.fa 0 (.t 22)),
          .op .none 24 (.ld false 1 (.t 23)),
          .op .none 25 (.len false (.t 24)),
          .op .none 26 (.mv (.t 0)),
          .op .none 27 (.mv (.t 6)),
          .op .none 28 (.ia 2 (.t 26) (.t 27)),
          .op .none 29 (.fa 1 (.t 28)),
          .op .none 30 (.ld false 1 (.t 29)),
          .op .none 31 (.len false (.t 30)),
          .op .none 32 (.bin .add (.t 25) (.t 31)),
          .op .none 33 (.bin .add (.t 19) (.t 32)),
          .op .none 5 (.mv (.t 33))]) <|
        .seq (.reg true [.op .none 34 (.mv (.t 0)),
          .op .none 35 (.mv (.t 6)),
          .op .none 36 (.ia 2 (.t 34) (.t 35)),
          .op .none 37 (.fa 0 (.t 36)),
          .op .none 38 (.ld false 1 (.t 37)),
          .op .none 39 (.mv (.t 0)),
          .op .none 40 (.mv (.t 6)),
          .op .none 41 (.ia 2 (.t 39) (.t 40)),
          .op .none 42 (.fa 1 (.t 41)),
          .op .none 43 (.ld false 1 (.t 42)),
          .op .none 44 (.buildS true 1 2 false [(.sl 1 [])] [(0, (.t 38)), (1, (.t 43))]),
          .call .none 45 (.f 23) [(.t 44)]]) <|
        .cond (.t 45)
          (.seq (.reg false [.op .none 4 (.mv (.c (.w (.bool true))))]) <|
          .ret)
          (.skip)) <|
      .reg false [.op .none 17 (.mv (.t 6)),
        .op .none 18 (.bin .add (.t 17) (.c (.w (.int .i64 1)))),
        .op .none 6 (.mv (.t 18))]) <|
  .seq (.reg false [.op .none 46 (.mv (.t 5)),
    .op .none 47 (.bin .geq (.t 46) (.c (.w (.int .i64 8192)))),
    .op .none 48 (.mv (.t 47)),
    .op (.some (48, false)) 49 (.mv (.t 1)),
    .op (.some (48, false)) 50 (.buildS false 1 1 false [(.sl 1 [])] [(0, (.t 49))]),
    .call (.some (48, false)) 51 (.f 23) [(.t 50)],
    .op .none 52 (.pick (.t 48) (.c (.w (.bool true))) (.t 51)),
    .op .none 4 (.mv (.t 52))]) <|
  .ret
theorem k27 : FnCode Try.prog 27 [44] 53 [4] c27 := ⟨Try.f27, Try.func27, fun xs W => Try.call27 xs W, by kernel_rfl, by kernel_rfl, by kernel_rfl⟩

/-- ablaut/ablautlaw28.TransferRemembers -/
def c7 : MC :=
  .seq (.reg false [.op .none 6 (.mv (.c (.w (.bool false))))]) <|
  .seq (.seq (.reg false [.op .none 18 (.mv (.t 0)),
    .op .none 19 (.mv (.t 1)),
    .call .none 20 (.f 27) [(.t 18), (.t 19)]]) <|
  .cond (.t 20)
    (.seq (.reg false [.call .none 21 (.f 10) [],
      .op .none 6 (.mv (.t 21))]) <|
    .ret)
    (.skip)) <|
  .seq (.reg false [.op .none 23 (.mv (.t 0)),
    .op .none 24 (.mv (.t 1)),
    .op .none 25 (.mv (.t 2)),
    .call .none 26 (.f 28) [(.t 23), (.t 24), (.t 25)],
    .op .none 22 (.mv (.t 26)),
    .op .none 27 (.ext (.t 22) 0),
    .op .none 28 (.ext (.t 22) 1),
    .op .none 7 (.mv (.t 27)),
    .op .none 8 (.mv (.t 28))]) <|
  .seq (.reg false [.op .none 30 (.mv (.t 0)),
    .op .none 31 (.mv (.t 1)),
    .op .none 32 (.mv (.t 2)),
    .call .none 33 (.f 29) [(.t 30), (.t 31), (.t 32)],
    .op .none 29 (.mv (.t 33)),
    .op .none 34 (.ext (.t 29) 0),
    .op .none 35 (.ext (.t 29) 1),
    .op .none 9 (.mv (.t 34)),
    .op .none 10 (.mv (.t 35))]) <|
  .seq (.reg false [.op .none 37 (.mv (.t 0)),
    .op .none 38 (.mv (.t 1)),
    .call .none 39 (.f 30) [(.t 37), (.t 38)],
    .op .none 36 (.mv (.t 39)),
    .op .none 40 (.ext (.t 36) 0),
    .op .none 41 (.ext (.t 36) 1),
    .op .none 42 (.ext (.t 36) 2),
    .op .none 11 (.mv (.t 40)),
    .op .none 12 (.mv (.t 41)),
    .op .none 13 (.mv (.t 42))]) <|
  .seq (.reg false [.op .none 44 (.mv (.t 0)),
    .op .none 45 (.mv (.t 1)),
    .call .none 46 (.f 31) [(.t 44), (.t 45)],
    .op .none 43 (.mv (.t 46)),
    .op .none 47 (.ext (.t 43) 0),
    .op .none 48 (.ext (.t 43) 1),
    .op .none 49 (.ext (.t 43) 2),
    .op .none 14 (.mv (.t 47)),
    .op .none 15 (.mv (.t 48)),
    .op .none 16 (.mv (.t 49))]) <|
  .seq (.seq (.reg false [.op .none 50 (.mv (.t 7)),
    .op .none 51 (.len false (.t 50)),
    .op .none 52 (.mv (.t 9)),
    .op .none 53 (.len false (.t 52)),
    .op .none 54 (.bin .neq (.t 51) (.t 53)),
    .op .none 55 (.mv (.t 54)),
    .op (.some (55, false)) 56 (.mv (.t 8)),
    .op (.some (55, false)) 57 (.mv (.t 10)),
    .op (.some (55, false)) 58 (.bin .neq (.t 56) (.t 57)),
    .op .none 59 (.pick (.t 55) (.c (.w (.bool true))) (.t 58)),
    .op .none 60 (.mv (.t 59)),
    .op (.some (60, false)) 61 (.mv (.t 11)),
    .op (.some (60, false)) 62 (.mv (.t 14)),
    .call (.some (60, false)) 63 (.f 32) [(.t 61), (.t 62)],
    .op (.some (60, false)) 64 (.un .not (.t 63)),
    .op .none 65 (.pick (.t 60) (.c (.w (.bool true))) (.t 64)),
    .op .none 66 (.mv (.t 65)),
    .op (.some (66, false)) 67 (.mv (.t 12)),
    .op (.some (66, false)) 68 (.mv (.t 15)),
    .op (.some (66, false)) 69 (.eqb true (.t 67) (.t 68)),
    .op .none 70 (.pick (.t 66) (.c (.w (.bool true))) (.t 69)),
    .op .none 71 (.mv (.t 70)),
    .op (.some (71, false)) 72 (.mv (.t 13)),
    .op (.some (71, false)) 73 (.mv (.t 16)),
    .op (.some (71, false)) 74 (.bin .neq (.t 72) (.t 73)),
    .op .none 75 (.pick (.t 71) (.c (.w (.bool true))) (.t 74))]) <|
  .cond (.t 75)
    (.seq (.reg false [.op .none 6 (.mv (.c (.w (.bool false))))]) <|
    .ret)
    (.skip)) <|
  .seq (.seq (.reg false [.op .none 17 (.mv (.c (.w (.int .i64 0))))]) <|
  .block 0 <|
    .loop <|
      .seq (.seq (.reg false [.op .none 76 (.mv (.t 17)),
        .op .none 77 (.mv (.t 7)),
        .op .none 78 (.len false (.t 77)),
        .op .none 79 (.bin .lss (.t 76) (.t 78))]) <|
      .cond (.t 79)
        (.skip)
        (.exit 0)) <|
      .seq (.block 1 <|
        .seq (.reg true [.op .none 82 (.mv (.t 7)),
          .op .none 83 (.mv (.t 17)),
          .op .none 84 (.ia 2 (.t 82) (.t 83)),
          .op .none 85 (.fa 0 (.t 84)),
          .op .none 86 (.ld false 1 (.t 85)),
          .op .none 87 (.mv (.t 9)),
          .op .none 88 (.mv (.t 17)),
          .op .none 89 (.ia 2 (.t 87) (.t 88)),
          .op .none 90 (.fa 0 (.t 89)),
          .op .none 91 (.ld false 1 (.t 90)),
          .op .none 92 (.bin .neq (.t 86) (.t 91)),
          .op .none 93 (.mv (.t 92)),
          .op (.some (93, false)) 94 (.mv (.t 7)),
          .op (.some (93, false)) 95 (.mv (.t 17)),
          .op (.some (93, false)) 96 (.ia 2 (.t 94) (.t 95)),
          .op (.some (93, false)) 97 (.fa 1 (.t 96)),
          .op (.some (93, false)) 98 (.ld false 1 (.t 97)),
          .op (.some (93, false)) 99 (.mv (.t 9)),
          .op (.some (93, false)) 100 (.mv (.t 17)),
          .op (.some (93, false)) 101 (.ia 2 (.t 99) (.t 100)),
          .op (.some (93, false)) 102 (.fa 1 (.t 101)),
          .op (.some (93, false)) 103 (.ld false 1 (.t 102)),
          .call (.some (93, false)) 104 (.f 32) [(.t 98), (.t 103)],
          .op (.some (93, false)) 105 (.un .not (.t 104)),
          .op .none 106 (.pick (.t 93) (.c (.w (.bool true))) (.t 105))]) <|
        .cond (.t 106)
          (.seq (.reg false [.op .none 6 (.mv (.c (.w (.bool false))))]) <|
          .ret)
          (.skip)) <|
      .reg false [.op .none 80 (.mv (.t 17)),
        .op .none 81 (.bin .add (.t 80) (.c (.w (.int .i64 1)))),
        .op .none 17 (.mv (.t 81))]) <|
  .seq (.reg false [.call .none 107 (.f 10) [],
    .op .none 6 (.mv (.t 107))]) <|
  .ret
theorem k7 : FnCode Try.prog 7 [] 108 [6] c7 := ⟨Try.f7, Try.func7, fun xs W => Try.call7 xs W, by kernel_rfl, by kernel_rfl, by kernel_rfl⟩

def ovK : List KnownT → Nat → Option Nat
  | [], n => some n
  | k :: l, n => if n < 8192 then (if 16384 < lgL [k.1, k.2.1] 0 then none else ovK l (n + (k.1.length + k.2.1.length))) else some n
def ovKF (l : List KnownT) (w : List Bs) : Bool := match ovK l l.length with
  | none => true
  | some n => decide (8192 ≤ n) || decide (16384 < lgL [w] 0)
theorem fok27 (l : List KnownT) (w : List Bs) (hs : knS l w) : FOk Try.prog 27 [.v (.sl 2 (l.map knownV)), .v (.word w)] [] (.B (ovKF l w)) [] := by
  obtain ⟨hl, hw, hk⟩ := hs
  have cw := fok23 [w] (by simp) (by simp; exact hw)
  simp only [wordsV, List.map_cons, List.map_nil] at cw
  refine FOk.val k27 (by simp) (by simp) (by decide) ?_
  unfold ovKF
  generalize hres : (match ovK l l.length with | none => true | some n => decide (8192 ≤ n) || decide (16384 < lgL [w] 0)) = res
  simp [c27]
  refine Run.loopA (ι := Nat × Nat) [] (fun p => p.1 ≤ l.length ∧ p.2 ≤ 1000000000000000 ∧ (match ovK (l.drop p.1) p.2 with | none => true | some n => decide (8192 ≤ n) || decide (16384 < lgL [w] 0)) = res) (fun p => ⟨[(0, .v (.sl 2 (l.map knownV))), (1, .v (.word w)), (5, .I p.2), (6, .I p.1)], [], 1024⟩) (fun p => l.length - p.1) (0, l.length) (by decide) (by simp) ⟨by simp, by simp; omega, by simpa using hres⟩ ?_
  rintro ⟨i, n⟩ ⟨hi, hn, hall⟩ ih
  simp only at hi hn hall ih
  clear hres
  have fin : (decide (8192 ≤ n) || decide (16384 < lgL [w] 0)) = res → ∀ e, e = true → True := fun _ _ _ => trivial
  clear fin
  by_cases h : i < l.length
  · rw [drop_at h] at hall
    simp only [ovK] at hall
    by_cases hc : n < 8192
    · rw [if_pos hc] at hall
      have hu := hk _ (List.getElem_mem h)
      rcases hx : l[i] with ⟨ka, kb, ku⟩
      rw [hx] at hu hall
      simp only at hu hall
      have u1 := hu.1.1
      have u2 := hu.2.1
      have c3 := fok23 [ka, kb] (by simp) (by simp; exact hu)
      simp only [wordsV, List.map_cons, List.map_nil] at c3
      simp (disch := omega) [h, wrap_i64, hc, hx, knownV]
      refine CallG.lent rfl rfl rfl rfl c3 rfl ?_
      by_cases c4 : 16384 < lgL [ka, kb] 0
      · rw [if_pos c4] at hall
        simp only at hall
        subst hall
        simp (disch := omega) [wrap_i64, c4]
        exact Ends.v rfl (by simp)
      · rw [if_neg c4] at hall
        simp (disch := omega) [wrap_i64, c4]
        exact ih (i + 1, n + (ka.length + kb.length)) _ ⟨by simp; omega, by simp; omega, hall⟩ (by simp; omega) (by simp)
    · rw [if_neg hc] at hall
      have hc2 : 8192 ≤ n := by omega
      simp only at hall
      subst hall
      simp (disch := omega) [h, wrap_i64, hc, hc2]
      exact Ends.v rfl (by simp [hc2])
  · rw [drop_no h] at hall
    simp only [ovK] at hall
    by_cases hc : n < 8192
    · have hc2 : ¬ 8192 ≤ n := by omega
      simp (disch := omega) [h, wrap_i64, hc, hc2]
      refine CallG.lent rfl rfl rfl rfl cw rfl ?_
      simp
      exact Ends.v rfl (by rw [← hall]; simp [hc2])
    · have hc2 : 8192 ≤ n := by omega
      subst hall
      simp (disch := omega) [h, wrap_i64, hc, hc2]
      exact Ends.v rfl (by simp [hc2])
theorem memF_mem {l : List KnownT} {w : List Bs} {most : Int} {x : PaidT} (h : x ∈ (memF l w most).1) : ∃ k ∈ l, x.2.1 = k.2.1 := by
  unfold memF at h
  split at h
  · cases h
  · split at h
    · cases h
    · have h1 := (isrt_perm (c := cPd) (memL l w)).mem_iff.1 (List.mem_of_mem_take h)
      obtain ⟨k, hk, rfl⟩ := List.mem_map.1 h1
      exact ⟨k, hk, rfl⟩
theorem put_len (x y : Bs) : ∀ (B C : List Bs), putF x y B = some C → C.length = B.length
  | [], C, h => by cases h
  | b :: B, C, h => by
    simp only [putF] at h
    split at h
    · split at h
      · cases h
      · cases h; simp
    · cases hp : putF x y B with
      | none => rw [hp] at h; cases h
      | some D => rw [hp] at h; cases h; simp [put_len x y B D hp]
theorem repL_len (w : List Bs) (M : Nat) : ∀ (l : List KnownT) (C : List Bs), (∀ k ∈ l, k.2.1.length ≤ M) → repL w l = some C → C.length ≤ M
  | [], C, _, h => by cases h
  | k :: l, C, hk, h => by
    simp only [repL] at h
    split at h
    · rename_i x hx
      cases h
      have h0 := hk k (by simp)
      unfold rep1 at hx
      split at hx
      · cases hx; exact h0
      · split at hx
        · cases hx
        · split at hx
          · have := put_len _ _ _ _ hx; omega
          · cases hx
    · exact repL_len w M l C (fun k hk' => hk k (by simp [hk'])) h
theorem wordC.s9 {w : List Bs} (h : wordC w) : wordS w := ⟨by have := h.1; omega, fun s hs => by have := h.2 s hs; show s.length ≤ 200000000000000; omega⟩
theorem transferRemembers_ok (l : List KnownT) (w : List Bs) (most : Int) (hl : l.length * 48 ≤ 140737488351232 ∧ ∀ k ∈ l, wordC k.1 ∧ wordC k.2.1 ∧ True) (hw : wordC w) (hm : intC most) :
    FOk Try.prog 7 [.v (.sl 2 (l.map knownV)), .v (.word w), .v (.i most)] [] (.B true) [] := by
  have hs : knS l w := ⟨by have := hl.1; omega, wordC.s9 hw, fun k hk => ⟨wordC.s9 (hl.2 k hk).1, wordC.s9 (hl.2 k hk).2.1⟩⟩
  have c1 := fok27 l w hs
  have c2 := fok28 l w most hs
  have c3 := fok29 l w most hs
  have c4 := fok30 l w hs
  have c5 := fok31 l w hs
  have hkn := fok10
  have hA : ∀ x ∈ (memF l w most).1, x.2.1.length ≤ 200000000000000 := by
    intro x hx
    obtain ⟨k, hk, e⟩ := memF_mem hx
    rw [e]
    exact (hs.k k hk).2.1
  have hAl : (memF l w most).1.length ≤ 200000000000000 := by
    have := hs.n
    have hi := isrt_len (c := cPd) (memL l w)
    have hml : (memL l w).length = l.length := by simp [memL]
    unfold memF
    split
    · simp
    · split
      · simp
      · simp; omega
  have hR : (repF l w).1.length ≤ 200000000000000 := by
    unfold repF
    split
    · simp
    · cases hr : repL w l with
      | none => simp [repO]
      | some C => exact repL_len w _ l C (fun k hk => (hs.k k hk).2.1) hr
  generalize ovKF l w = o at c1
  generalize memF l w most = m at c2 c3 hA hAl
  generalize repF l w = r at c4 c5 hR
  obtain ⟨A, me⟩ := m
  obtain ⟨R, rb, re⟩ := r
  simp only at c2 c3 c4 c5 hA hAl hR
  have c6 := fok32 R R hR hR
  refine FOk.val k7 (by simp) (by simp) (by decide) ?_
  simp [c7]
  refine CallG.lent rfl rfl rfl rfl c1 rfl ?_
  cases o
  case true =>
    simp
    refine CallG.lent rfl rfl rfl rfl hkn rfl ?_
    simp
    exact Ends.v rfl (by simp)
  simp
  refine CallG.plain rfl rfl rfl rfl c2 (by simp) (by simp) ?_
  simp
  refine CallG.plain rfl rfl rfl rfl c3 (by simp) (by simp) ?_
  simp
  refine CallG.plain rfl rfl rfl rfl c4 (by simp) (by simp) ?_
  simp
  refine CallG.plain rfl rfl rfl rfl c5 (by simp) (by simp) ?_
  simp
  refine CallG.lent rfl rfl rfl rfl c6 rfl ?_
  simp
  refine Run.loopA (ι := Nat) [] (fun i => i ≤ A.length) (fun i => ⟨[(7, .v (.sl 2 (A.map paidV))), (9, .v (.sl 2 (A.map paidV))), (17, .I i)], [], 1024⟩) (fun i => A.length - i) 0 (by decide) (by simp) (by simp) ?_
  rintro i hi ih
  by_cases h : i < A.length
  · have hx := hA _ (List.getElem_mem h)
    rcases hxe : A[i] with ⟨xc, xw, xu⟩
    rw [hxe] at hx
    simp only at hx
    have c7 := fok32 xw xw hx hx
    simp (disch := omega) [h, wrap_i64, hxe, paidV]
    refine CallG.lent rfl rfl rfl rfl c7 rfl ?_
    simp (disch := omega) [wrap_i64]
    exact ih (i + 1) _ (by omega) (by omega) (by simp [paidV])
  · simp [h]
    refine CallG.lent rfl rfl rfl rfl hkn rfl ?_
    simp
    exact Ends.v rfl (by simp)

end Go.Proofs
