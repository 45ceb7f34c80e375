/- The walk. -/
import Derived.Test.YtphjjlhpepmofaaF11
import Derived.Test.YtphjjlhpepmofaaF7
import Derived.Test.YtphjjlhpepmofaaProg
import Derived.KernelRfl
set_option linter.all false
set_option maxHeartbeats 2000000
namespace Go.Proofs
open Go Go.AM
attribute [local irreducible] Run Ends
/-- ablaut/ablautref23.rest -/
def c70 : MC :=
  .seq (.reg false [.op .none 3 (.box false (.t 0)),
    .op .none 6 (.nilS 1)]) <|
  .seq (.reg false [.op .none 13 (.mv (.t 1)),
    .op .none 14 (.len false (.t 13)),
    .op .none 15 (.bin .add (.t 14) (.c (.w (.int .i64 1)))),
    .op .none 16 (.mkS 1 24 false [(.sl 1 [])] (.t 15) (.t 15)),
    .op .none 7 (.mv (.t 16))]) <|
  .seq (.seq (.reg false [.op .none 17 (.mv (.t 1)),
    .op .none 18 (.len false (.t 17)),
    .op .none 8 (.mv (.t 18))]) <|
  .block 0 <|
    .loop <|
      .seq (.seq (.reg false [.op .none 19 (.mv (.t 8)),
        .op .none 20 (.bin .geq (.t 19) (.c (.w (.int .i64 0))))]) <|
      .cond (.t 20)
        (.skip)
        (.exit 0)) <|
      .seq (.block 1 <|
        .seq (.reg false [.op .none 23 (.mv (.t 7)),
          .op .none 24 (.mv (.t 8)),
          .op .none 25 (.mv (.t 2)),
          .op .none 26 (.len false (.t 25)),
          .op .none 27 (.bin .add (.t 26) (.c (.w (.int .i64 1)))),
          .op .none 28 (.mkS 1 8 false [(.w (.int .i64 0))] (.t 27) (.t 27)),
          .op .none 29 (.ia 1 (.t 23) (.t 24)),
          .store .none (.stt false 0 (.t 29) (.t 28))]) <|
        .seq (.reg false [.op .none 30 (.mv (.t 2)),
          .op .none 31 (.len false (.t 30)),
          .op .none 9 (.mv (.t 31))]) <|
        .block 2 <|
          .loop <|
            .seq (.seq (.reg false [.op .none 32 (.mv (.t 9)),
              .op .none 33 (.bin .geq (.t 32) (.c (.w (.int .i64 0))))]) <|
            .cond (.t 33)
              (.skip)
              (.exit 2)) <|
            .seq (.block 3 <|
              .seq (.seq (.reg false [.op .none 36 (.mv (.t 8)),
                .op .none 37 (.mv (.t 1)),
                .op .none 38 (.len false (.t 37)),
                .op .none 39 (.bin .eql (.t 36) (.t 38)),
                .op .none 40 (.mv (.t 39)),
                .op (.some (40, true)) 41 (.mv (.t 9)),
                .op (.some (40, true)) 42 (.mv (.t 2)),
                .op (.some (40, true)) 43 (.len false (.t 42)),
                .op (.some (40, true)) 44 (.bin .eql (.t 41) (.t 43)),
                .op .none 45 (.pick (.t 40) (.t 44) (.c (.w (.bool false))))]) <|
              .cond (.t 45)
                (.exit 3)
                (.skip)) <|
              .seq (.reg false [.op .none 46 (.ld true 5 (.t 3)),
                .op .none 47 (.mv (.t 1)),
                .op .none 48 (.mv (.t 2)),
                .op .none 49 (.mv (.t 8)),
                .op .none 50 (.mv (.t 9)),
                .call .none 51 (.f 72) [(.t 46), (.t 47), (.t 48), (.t 49), (.t 50)],
                .op .none 10 (.mv (.t 51))]) <|
              .seq (.reg false [.op .none 11 (.mv (.c (.w (.int .i64 0))))]) <|
              .block 4 <|
                .loop <|
                  .seq (.seq (.reg false [.op .none 52 (.mv (.t 11)),
                    .op .none 53 (.mv (.t 10)),
                    .op .none 54 (.len false (.t 53)),
                    .op .none 55 (.bin .lss (.t 52) (.t 54))]) <|
                  .cond (.t 55)
                    (.skip)
                    (.exit 4)) <|
                  .seq (.block 5 <|
                    .seq (.reg true [.op .none 58 (.mv (.t 10)),
                      .op .none 59 (.mv (.t 11)),
                      .op .none 60 (.ia 4 (.t 58) (.t 59)),
                      .op .none 61 (.fa 3 (.t 60)),
                      .op .none 62 (.ld false 1 (.t 61)),
                      .op .none 63 (.mv (.t 7)),
                      .op .none 64 (.mv (.t 8)),
                      .op .none 65 (.mv (.t 10)),
                      .op .none 66 (.mv (.t 11)),
                      .op .none 67 (.ia 4 (.t 65) (.t 66)),
                      .op .none 68 (.fa 1 (.t 67)),
                      .op .none 69 (.ld false 1 (.t 68)),
                      .op .none 70 (.bin .add (.t 64) (.t 69)),
                      .op .none 71 (.ia 1 (.t 63) (.t 70)),
                      .op .none 72 (.ld false 1 (.t 71)),
                      .op .none 73 (.mv (.t 9)),
                      .op .none 74 (.mv (.t 10)),
                      .op .none 75 (.mv (.t 11)),
                      .op .none 76 (.ia 4 (.t 74) (.t 75)),
                      .op .none 77 (.fa 2 (.t 76)),
                      .op .none 78 (.ld false 1 (.t 77)),
                      .op .none 79 (.bin .add (.t 73) (.t 78)),
                      .op .none 80 (.ia 1 (.t 72) (.t 79)),
                      .op .none 81 (.ld false 1 (.t 80)),
                      .op .none 82 (.bin .add (.t 62) (.t 81)),
                      .op .none 12 (.mv (.t 82))]) <|
                    .seq (.reg false [.op .none 83 (.mv (.t 11)),
                      .op .none 84 (.bin .eql (.t 83) (.c (.w (.int .i64 0)))),
                      .op .none 85 (.mv (.t 84)),
                      .op (.some (85, false)) 86 (.mv (.t 12)),
                      .op (.some (85, false)) 87 (.mv (.t 7)),
                      .op (.some (85, false)) 88 (.mv (.t 8)),
                      .op (.some (85, false)) 89 (.ia 1 (.t 87) (.t 88)),
                      .op (.some (85, false)) 90 (.ld false 1 (.t 89)),
                      .op (.some (85, false)) 91 (.mv (.t 9)),
                      .op (.some (85, false)) 92 (.ia 1 (.t 90) (.t 91)),
                      .op (.some (85, false)) 93 (.ld false 1 (.t 92)),
                      .op (.some (85, false)) 94 (.bin .lss (.t 86) (.t 93)),
                      .op .none 95 (.pick (.t 85) (.c (.w (.bool true))) (.t 94))]) <|
                    .cond (.t 95)
                      (.reg false [.op .none 96 (.mv (.t 7)),
                        .op .none 97 (.mv (.t 8)),
                        .op .none 98 (.ia 1 (.t 96) (.t 97)),
                        .op .none 99 (.ld false 1 (.t 98)),
                        .op .none 100 (.mv (.t 9)),
                        .op .none 101 (.mv (.t 12)),
                        .op .none 102 (.ia 1 (.t 99) (.t 100)),
                        .store .none (.stt false 1 (.t 102) (.t 101))])
                      (.skip)) <|
                  .reg false [.op .none 56 (.mv (.t 11)),
                    .op .none 57 (.bin .add (.t 56) (.c (.w (.int .i64 1)))),
                    .op .none 11 (.mv (.t 57))]) <|
            .reg false [.op .none 34 (.mv (.t 9)),
              .op .none 35 (.bin .sub (.t 34) (.c (.w (.int .i64 1)))),
              .op .none 9 (.mv (.t 35))]) <|
      .reg false [.op .none 21 (.mv (.t 8)),
        .op .none 22 (.bin .sub (.t 21) (.c (.w (.int .i64 1)))),
        .op .none 8 (.mv (.t 22))]) <|
  .seq (.reg false [.op .none 103 (.mv (.t 7)),
    .op .none 6 (.mv (.t 103))]) <|
  .ret
theorem k70 : FnCode Try.prog 70 [100029] 104 [6] c70 := ⟨Try.f70, Try.func70, fun xs W => Try.call70 xs W, by kernel_rfl, by kernel_rfl, by kernel_rfl⟩

/-- ablaut/ablautref23.price -/
def c38 : MC :=
  .seq (.reg false [.op .none 3 (.box false (.t 0)),
    .op .none 6 (.mv (.c (.w (.int .i64 0))))]) <|
  .seq (.reg false [.op .none 7 (.ld true 5 (.t 3)),
    .op .none 8 (.mv (.t 1)),
    .op .none 9 (.mv (.t 2)),
    .call .none 10 (.f 70) [(.t 7), (.t 8), (.t 9)],
    .op .none 11 (.ia 1 (.t 10) (.c (.w (.int .i64 0)))),
    .op .none 12 (.ld false 1 (.t 11)),
    .op .none 13 (.ia 1 (.t 12) (.c (.w (.int .i64 0)))),
    .op .none 14 (.ld false 1 (.t 13)),
    .op .none 6 (.mv (.t 14))]) <|
  .ret
theorem k38 : FnCode Try.prog 38 [] 15 [6] c38 := ⟨Try.f38, Try.func38, fun xs W => Try.call38 xs W, by kernel_rfl, by kernel_rfl, by kernel_rfl⟩

/-- ablaut/ablautref23.isPrice -/
def c42 : MC :=
  .seq (.reg false [.op .none 2 (.mv (.c (.w (.bool false))))]) <|
  .seq (.reg false [.op .none 3 (.mv (.t 0)),
    .op .none 4 (.bin .geq (.t 3) (.c (.w (.int .i64 1)))),
    .op .none 5 (.mv (.t 4)),
    .op (.some (5, true)) 6 (.mv (.t 0)),
    .op (.some (5, true)) 7 (.bin .leq (.t 6) (.c (.w (.int .i64 1000)))),
    .op .none 8 (.pick (.t 5) (.t 7) (.c (.w (.bool false)))),
    .op .none 2 (.mv (.t 8))]) <|
  .ret
theorem k42 : FnCode Try.prog 42 [] 9 [2] c42 := ⟨Try.f42, Try.func42, fun xs W => Try.call42 xs W, by kernel_rfl, by kernel_rfl, by kernel_rfl⟩

/-- ablaut/ablautref01.Words -/
def c59 : MC :=
  .seq (.reg false [.op .none 2 (.mv (.c (.w (.int .i64 0))))]) <|
  .seq (.seq (.reg false [.op .none 3 (.mv (.c (.w (.int .i64 0))))]) <|
  .block 0 <|
    .loop <|
      .seq (.seq (.reg false [.op .none 5 (.mv (.t 3)),
        .op .none 6 (.mv (.t 0)),
        .op .none 7 (.len false (.t 6)),
        .op .none 8 (.bin .lss (.t 5) (.t 7))]) <|
      .cond (.t 8)
        (.skip)
        (.exit 0)) <|
      .seq (.block 1 <|
        .seq (.reg false [.op .none 11 (.mv (.t 0)),
          .op .none 12 (.mv (.t 3)),
          .op .none 13 (.ia 1 (.t 11) (.t 12)),
          .op .none 14 (.ld false 1 (.t 13)),
          .call .none 15 (.f 48) [(.t 14)],
          .op .none 4 (.mv (.t 15))]) <|
        .seq (.reg false [.op .none 16 (.mv (.t 4)),
          .op .none 17 (.bin .neq (.t 16) (.c (.w (.int .i64 0))))]) <|
        .cond (.t 17)
          (.seq (.reg false [.op .none 18 (.mv (.t 4)),
            .op .none 2 (.mv (.t 18))]) <|
          .ret)
          (.skip)) <|
      .reg false [.op .none 9 (.mv (.t 3)),
        .op .none 10 (.bin .add (.t 9) (.c (.w (.int .i64 1)))),
        .op .none 3 (.mv (.t 10))]) <|
  .seq (.reg false [.op .none 2 (.mv (.c (.w (.int .i64 0))))]) <|
  .ret
theorem k59 : FnCode Try.prog 59 [] 19 [2] c59 := ⟨Try.f59, Try.func59, fun xs W => Try.call59 xs W, by kernel_rfl, by kernel_rfl, by kernel_rfl⟩

theorem toNatA (i d : Nat) : ((i : Int) + (d : Int)).toNat = i + d := by omega
theorem nnA (i d : Nat) : (0 : Int) ≤ (i : Int) + (d : Int) := by omega
set_option maxRecDepth 100000 in
theorem fok70 (p : PricesT) (a b : List Bs) (hp : OkP p) (ha : a.length ≤ 60) (hb : b.length ≤ 60) : FOk Try.prog 70 [.v (pricesV p), .v (.word a), .v (.word b)] [] (.v (.sl 1 (rowsF p a b 0))) [] := by
  have hst := fun i k hi hk => fok72 p a b i k hp ha hb hi hk
  have hpr := fun i j => pr_bound hp (a.drop i) (b.drop j)
  have hpn := fun i j => pr_nonneg p (a.drop i) (b.drop j)
  simp only [List.length_drop] at hpr
  obtain ⟨pd, pp, ps, pc, l, u⟩ := p
  refine FOk.val k70 (by simp) (by simp) (by decide) ?_
  have hn1 : ((a.length : Int) + 1).toNat = a.length + 1 := by omega
  have hm1 : ((b.length : Int) + 1).toNat = b.length + 1 := by omega
  have c1 : ((a.length : Int) + 1) * 24 ≤ 70368744177664 := by omega
  have c2 : ((a.length : Int) + 1) ≤ 1000000000000 := by omega
  have d1 : ((b.length : Int) + 1) * 8 ≤ 70368744177664 := by omega
  have d2 : ((b.length : Int) + 1) ≤ 1000000000000 := by omega
  have hs0 := rowsF_start (pd, pp, ps, pc, l, u) a b
  have hr0 : List.replicate (b.length + 1) (PV.w (.int .i64 0)) = (List.replicate (b.length + 1) (0 : Int)).map tI := by rw [List.map_replicate]; rfl
  simp (disch := omega) [c70, pricesV, wrap_i64, hn1, c1, c2]
  refine Run.cutB (ι := Unit) [(1, 7)] (fun _ => True) (fun _ => ⟨[(7, .h 1)], [(1, ⟨false, 1, rowsF (pd, pp, ps, pc, l, u) a b 0⟩)], 1024⟩) (by decide) ?_ ?_
  · intro _ _
    simp
    exact Ends.v rfl (by simp)
  intro hK
  refine Run.loopA (ι := Nat) [(1, 7), (3, 3)] (fun I => I ≤ a.length + 1) (fun I => ⟨[(1, .v (.word a)), (2, .v (.word b)), (3, .ptr 3 0 0), (7, .h 1), (8, .I ((I : Int) - 1))], [(3, ⟨false, 5, [pricesV (pd, pp, ps, pc, l, u)]⟩), (1, ⟨false, 0, .st [] :: rowsF (pd, pp, ps, pc, l, u) a b I⟩)], 1024⟩)
    (fun I => I) (a.length + 1) (by decide) (by simp [pricesV, hs0]) (by simp) ?_
  rintro I hI ih
  rcases I with _ | i
  · simp
    exact hK () _ trivial (by simp)
  have hi : i ≤ a.length := by omega
  have hi' : i < a.length + 1 := by omega
  simp (disch := omega) [wrap_i64, hm1, d1, d2, rowsF_len, hi']
  refine Run.cutB (ι := Unit) [(1, 7), (3, 3)] (fun _ => True) (fun _ => ⟨[(1, .v (.word a)), (2, .v (.word b)), (3, .ptr 3 0 0), (7, .h 1), (8, .I i)], [(3, ⟨false, 5, [pricesV (pd, pp, ps, pc, l, u)]⟩), (1, ⟨false, 0, .st [] :: rowsF (pd, pp, ps, pc, l, u) a b i⟩)], 1024⟩) (by decide) ?_ ?_
  · intro _ _
    simp (disch := omega) [wrap_i64]
    exact ih i _ (by omega) (by omega) (by simp [pricesV])
  intro hK2
  have hc0 := curF_start (pd, pp, ps, pc, l, u) a b i
  refine Run.loopA (ι := Nat) [(1, 7), (3, 3), (2, 28)] (fun J => J ≤ b.length + 1) (fun J => ⟨[(1, .v (.word a)), (2, .v (.word b)), (3, .ptr 3 0 0), (7, .h 1), (8, .I i), (9, .I ((J : Int) - 1)), (28, .h 2)], [(3, ⟨false, 5, [pricesV (pd, pp, ps, pc, l, u)]⟩), (1, ⟨false, 0, encR i 2 :: rowsF (pd, pp, ps, pc, l, u) a b (i + 1)⟩), (2, ⟨false, 1, (curF (pd, pp, ps, pc, l, u) a b i J).map tI⟩)], 1024⟩)
    (fun J => J) (b.length + 1) (by decide) (by simp [pricesV, hc0]) (by simp) ?_
  rintro J hJ ihJ
  rcases J with _ | k
  · simp
    have hset := rowsF_set (pd, pp, ps, pc, l, u) a b hi
    exact hK2 () _ trivial (by simp [pricesV, hset])
  have hk : k ≤ b.length := by omega
  have hkl : k < b.length + 1 := by omega
  by_cases hlast : i = a.length ∧ k = b.length
  · obtain ⟨rfl, rfl⟩ := hlast
    simp (disch := omega) [wrap_i64]
    refine ihJ b.length _ (by omega) (by omega) ?_
    have e : curF (pd, pp, ps, pc, l, u) a b a.length (b.length + 1) = curF (pd, pp, ps, pc, l, u) a b a.length b.length := by
      have h1 := curF_set (pd, pp, ps, pc, l, u) a b a.length (Nat.le_refl b.length)
      have h2 : pr (pd, pp, ps, pc, l, u) (a.drop a.length) (b.drop b.length) = 0 := by rw [List.drop_length, List.drop_length]; exact pr_nil hp
      rw [h2] at h1
      rw [← h1]
      apply List.ext_getElem (by simp)
      intro j q1 q2
      rw [List.getElem_set]
      split
      · rename_i hj; subst hj; simp [curF]; intro h; omega
      · rfl
    simp [pricesV, e]
  have hz : ¬ (a.drop i = [] ∧ b.drop k = []) := by simp; omega
  have hlp : 0 < (stepsL (pd, pp, ps, pc, l, u) (a.drop i) (b.drop k)).length := List.length_pos_iff.2 (stepsL_ne hz)
  have hll := stepsL_len (pd, pp, ps, pc, l, u) (a.drop i) (b.drop k)
  have hinv := fun s hs => stepsL_inv (p := (pd, pp, ps, pc, l, u)) (w := a.drop i) (v := b.drop k) (s := s) hp hs
  have hsucc := fun n h => minN_succ (pd, pp, ps, pc, l, u) (a.drop i) (b.drop k) (n := n) h
  have hnn := fun n h1 h2 => minN_nonneg (p := (pd, pp, ps, pc, l, u)) (w := a.drop i) (v := b.drop k) (n := n) hp h1 h2
  have hall := minN_all (p := (pd, pp, ps, pc, l, u)) hp hz
  have hcall := hst i k hi hk
  simp only [pricesV] at hcall
  have hcs : ((curF (pd, pp, ps, pc, l, u) a b i (k + 1)).set k (pr (pd, pp, ps, pc, l, u) (a.drop i) (b.drop k))) = curF (pd, pp, ps, pc, l, u) a b i k := curF_set _ _ _ _ hk
  have hce : (curF (pd, pp, ps, pc, l, u) a b i (k + 1)).set k 0 = curF (pd, pp, ps, pc, l, u) a b i (k + 1) := by
    apply List.ext_getElem (by simp)
    intro j q1 q2
    rw [List.getElem_set]
    split
    · rename_i hj; subst hj; simp [curF]; intro h; omega
    · rfl
  have hri : (rowsF (pd, pp, ps, pc, l, u) a b (i + 1))[i]? = some (.sl 1 []) := by
    unfold rowsF; rw [List.getElem?_map, List.getElem?_range (by omega)]; simp; intro h; omega
  have hcl := curF_len (pd, pp, ps, pc, l, u) a b i (k + 1)
  have hdd : i < a.length ∨ i = a.length ∧ k < b.length := by omega
  have hne : ¬ ((i : Int) = (a.length : Int) ∧ (k : Int) = (b.length : Int)) := by omega
  obtain ⟨L, hL⟩ : ∃ L, L = stepsL (pd, pp, ps, pc, l, u) (a.drop i) (b.drop k) := ⟨_, rfl⟩
  rw [← hL] at hlp hll hinv hsucc hnn hall hcall
  have main : ∀ (x y z : Nat) (s : AM.St), True := fun _ _ _ _ => trivial
  have hcs' : ((curF (pd, pp, ps, pc, l, u) a b i (k + 1)).map tI).set k (.w (.int .i64 (pr (pd, pp, ps, pc, l, u) (a.drop i) (b.drop k)))) = (curF (pd, pp, ps, pc, l, u) a b i k).map tI := by
    rw [← hcs, List.map_set]; rfl
  have hLne : L ≠ [] := List.length_pos_iff.1 hlp
  rcases hdd with hd | ⟨hd1, hd2⟩
  case' inl =>
    have hd' : ¬ ((i : Int) = (a.length : Int)) := by omega
    simp (disch := omega) [wrap_i64, hd', pricesV]
  case' inr =>
    have hd' := eq_true (show ((i : Int) = (a.length : Int)) by omega)
    have hd2' : ¬ ((k : Int) = (b.length : Int)) := by omega
    simp (disch := omega) [wrap_i64, hd', hd2', pricesV]
  all_goals
    refine CallG.plain rfl rfl rfl rfl hcall (by simp) (by simp) ?_
    simp [stepsV]
    refine Run.cutB (ι := Unit) [(1, 7), (3, 3), (2, 28)] (fun _ => True) (fun _ => ⟨[(1, .v (.word a)), (2, .v (.word b)), (3, .ptr 3 0 0), (7, .h 1), (8, .I i), (9, .I k), (28, .h 2)], [(3, ⟨false, 5, [pricesV (pd, pp, ps, pc, l, u)]⟩), (1, ⟨false, 0, encR i 2 :: rowsF (pd, pp, ps, pc, l, u) a b (i + 1)⟩), (2, ⟨false, 1, (curF (pd, pp, ps, pc, l, u) a b i k).map tI⟩)], 1024⟩) (by decide) ?_ ?_
    · intro _ _
      simp (disch := omega) [wrap_i64]
      exact ihJ k _ (by omega) (by omega) (by simp [pricesV])
    intro hK3
    refine Run.loopA (ι := Nat) [(1, 7), (3, 3), (2, 28)] (fun n => n ≤ L.length) (fun n => ⟨[(1, .v (.word a)), (2, .v (.word b)), (3, .ptr 3 0 0), (7, .h 1), (8, .I i), (9, .I k), (10, .v (.sl 4 (L.map stepV))), (11, .I n), (28, .h 2)], [(3, ⟨false, 5, [pricesV (pd, pp, ps, pc, l, u)]⟩), (1, ⟨false, 0, encR i 2 :: rowsF (pd, pp, ps, pc, l, u) a b (i + 1)⟩), (2, ⟨false, 1, ((curF (pd, pp, ps, pc, l, u) a b i (k + 1)).set k (if n = 0 then 0 else minN (pd, pp, ps, pc, l, u) (a.drop i) (b.drop k) n)).map tI⟩)], 1024⟩)
      (fun n => L.length - n) 0 (by decide) (by simp [pricesV, hce]) (by simp) ?_
    rintro n hn ihn
    by_cases h : n < L.length
    · have hx := hinv L[n] (List.getElem_mem h)
      have hs1 := hsucc n h
      have hnn' := hnn n
      generalize hxx : L[n] = x at hx hs1
      obtain ⟨kk, x, y, c, rfl, g1, g2, g3, g4, g5, g6, g7, g8⟩ := hx
      have la : (a.drop i).length = a.length - i := by simp
      have lb : (b.drop k).length = b.length - k := by simp
      rw [la] at g2
      rw [lb] at g3
      have hq1 := hpr (i + x) (k + y)
      have hq2 := hpn (i + x) (k + y)
      have hval : stC (pd, pp, ps, pc, l, u) (a.drop i) (b.drop k) ((kk : Int), (x : Int), (y : Int), c, ()) = c + pr (pd, pp, ps, pc, l, u) (a.drop (i + x)) (b.drop (k + y)) := by
        simp [stC, List.drop_drop]
      rw [hval] at hs1
      have hcell : ∀ v, ((curF (pd, pp, ps, pc, l, u) a b i (k + 1)).set k v)[k]? = some v := by
        intro v; rw [List.getElem?_set_self (by omega)]
      generalize hV : (curF (pd, pp, ps, pc, l, u) a b i (k + 1)).set k (if n = 0 then 0 else minN (pd, pp, ps, pc, l, u) (a.drop i) (b.drop k) n) = V
      have hVk : V[k]? = some (if n = 0 then 0 else minN (pd, pp, ps, pc, l, u) (a.drop i) (b.drop k) n) := by rw [← hV]; exact hcell _
      have hVl : V.length = b.length + 1 := by rw [← hV, List.length_set, hcl]
      have hVs : ∀ v, V.set k v = (curF (pd, pp, ps, pc, l, u) a b i (k + 1)).set k v := by intro v; rw [← hV, List.set_set]
      have hcur : x = 0 → V[k + y]? = some (pr (pd, pp, ps, pc, l, u) (a.drop (i + x)) (b.drop (k + y))) := by
        rintro rfl
        rw [← hV, List.getElem?_set_ne (by omega)]
        exact curF_at _ _ _ (by omega) (by omega)
      have hrow : x ≠ 0 → (rowsF (pd, pp, ps, pc, l, u) a b (i + 1))[i + x]? = some (.sl 1 ((rowF (pd, pp, ps, pc, l, u) a b (i + x)).map tI)) := fun hx0 => rowsF_at _ _ _ (by omega) (by omega)
      have hrw : (rowF (pd, pp, ps, pc, l, u) a b (i + x))[k + y]? = some (pr (pd, pp, ps, pc, l, u) (a.drop (i + x)) (b.drop (k + y))) := rowF_at _ _ _ (by omega)
      have b1 : i + x < a.length + 1 := by omega
      have b2 : i < a.length + 1 := by omega
      obtain ⟨hVk0, hVk⟩ := List.getElem?_eq_some_iff.1 hVk
      have hSet : ∀ v, minN (pd, pp, ps, pc, l, u) (a.drop i) (b.drop k) (n + 1) = v → (V.map tI).set k (PV.w (.int .i64 v)) = ((curF (pd, pp, ps, pc, l, u) a b i (k + 1)).set k (minN (pd, pp, ps, pc, l, u) (a.drop i) (b.drop k) (n + 1))).map tI := by
        intro v hv
        rw [hv, ← hVs, List.map_set]; rfl
      by_cases hx0 : x = 0
      · obtain ⟨hcu, hcv⟩ := List.getElem?_eq_some_iff.1 (hcur hx0)
        clear hcur hrow
        subst hx0
        simp only [Nat.add_zero] at hcv hq1 hq2 hs1
        by_cases hn0 : n = 0
        · have hm : minN (pd, pp, ps, pc, l, u) (a.drop i) (b.drop k) (n + 1) = c + pr (pd, pp, ps, pc, l, u) (a.drop i) (b.drop (k + y)) := by
            rw [hs1, hn0]; simp [minN, bstI, bst]
          have hset := hSet (c + pr (pd, pp, ps, pc, l, u) (a.drop i) (b.drop (k + y))) hm
          simp (disch := omega) [h, hxx, stepV, wrap_i64, b1, b2, rowsF_len, hri, hVk, hVl, hcv, toNatA, nnA, eq_true hn0]
          refine ihn (n + 1) _ (by omega) (by omega) ?_
          simp [-List.map_set, pricesV, hset]
        · have hnn' := hnn' (by omega) (by omega)
          rw [if_neg hn0] at hVk
          by_cases hlt : c + pr (pd, pp, ps, pc, l, u) (a.drop i) (b.drop (k + y)) < minN (pd, pp, ps, pc, l, u) (a.drop i) (b.drop k) n
          · have hm : minN (pd, pp, ps, pc, l, u) (a.drop i) (b.drop k) (n + 1) = c + pr (pd, pp, ps, pc, l, u) (a.drop i) (b.drop (k + y)) := by
              rw [hs1]; simp [bstI, bst, hlt]
            have hset := hSet (c + pr (pd, pp, ps, pc, l, u) (a.drop i) (b.drop (k + y))) hm
            simp (disch := omega) [h, hxx, stepV, wrap_i64, b1, b2, rowsF_len, hri, hVk, hVl, hcv, toNatA, nnA, hn0, hlt]
            refine ihn (n + 1) _ (by omega) (by omega) ?_
            simp [-List.map_set, pricesV, hset]
          · have hm : minN (pd, pp, ps, pc, l, u) (a.drop i) (b.drop k) (n + 1) = minN (pd, pp, ps, pc, l, u) (a.drop i) (b.drop k) n := by
              rw [hs1]; simp only [bstI, bst]; rw [if_neg (by omega)]
            have hset : V = (curF (pd, pp, ps, pc, l, u) a b i (k + 1)).set k (minN (pd, pp, ps, pc, l, u) (a.drop i) (b.drop k) (n + 1)) := by rw [hm, ← hV, if_neg hn0]
            simp (disch := omega) [h, hxx, stepV, wrap_i64, b1, b2, rowsF_len, hri, hVk, hVl, hcv, toNatA, nnA, hn0, hlt]
            refine ihn (n + 1) _ (by omega) (by omega) ?_
            simp [-List.map_set, pricesV, ← hset]
      · obtain ⟨hrow1, hrow2⟩ := List.getElem?_eq_some_iff.1 (hrow hx0)
        clear hrow hcur
        obtain ⟨hrw0, hrw⟩ := List.getElem?_eq_some_iff.1 hrw
        by_cases hn0 : n = 0
        · have hm : minN (pd, pp, ps, pc, l, u) (a.drop i) (b.drop k) (n + 1) = c + pr (pd, pp, ps, pc, l, u) (a.drop (i + x)) (b.drop (k + y)) := by
            rw [hs1, hn0]; simp [minN, bstI, bst]
          have hset := hSet (c + pr (pd, pp, ps, pc, l, u) (a.drop (i + x)) (b.drop (k + y))) hm
          simp (disch := omega) [h, hxx, stepV, wrap_i64, b1, b2, rowsF_len, hri, hVk, hVl, hrow2, hrw, hx0, toNatA, nnA, eq_true hn0]
          refine ihn (n + 1) _ (by omega) (by omega) ?_
          simp [-List.map_set, pricesV, hset]
        · have hnn' := hnn' (by omega) (by omega)
          rw [if_neg hn0] at hVk
          by_cases hlt : c + pr (pd, pp, ps, pc, l, u) (a.drop (i + x)) (b.drop (k + y)) < minN (pd, pp, ps, pc, l, u) (a.drop i) (b.drop k) n
          · have hm : minN (pd, pp, ps, pc, l, u) (a.drop i) (b.drop k) (n + 1) = c + pr (pd, pp, ps, pc, l, u) (a.drop (i + x)) (b.drop (k + y)) := by
              rw [hs1]; simp [bstI, bst, hlt]
            have hset := hSet (c + pr (pd, pp, ps, pc, l, u) (a.drop (i + x)) (b.drop (k + y))) hm
            simp (disch := omega) [h, hxx, stepV, wrap_i64, b1, b2, rowsF_len, hri, hVk, hVl, hrow2, hrw, hx0, toNatA, nnA, hn0, hlt]
            refine ihn (n + 1) _ (by omega) (by omega) ?_
            simp [-List.map_set, pricesV, hset]
          · have hm : minN (pd, pp, ps, pc, l, u) (a.drop i) (b.drop k) (n + 1) = minN (pd, pp, ps, pc, l, u) (a.drop i) (b.drop k) n := by
              rw [hs1]; simp only [bstI, bst]; rw [if_neg (by omega)]
            have hset : V = (curF (pd, pp, ps, pc, l, u) a b i (k + 1)).set k (minN (pd, pp, ps, pc, l, u) (a.drop i) (b.drop k) (n + 1)) := by rw [hm, ← hV, if_neg hn0]
            simp (disch := omega) [h, hxx, stepV, wrap_i64, b1, b2, rowsF_len, hri, hVk, hVl, hrow2, hrw, hx0, toNatA, nnA, hn0, hlt]
            refine ihn (n + 1) _ (by omega) (by omega) ?_
            simp [-List.map_set, pricesV, ← hset]
    · have hn' : n = L.length := by omega
      have hn0 : ¬ n = 0 := by omega
      simp (disch := omega) [h, wrap_i64]
      exact hK3 () _ trivial (by simp [pricesV, hn', hall, hcs', hLne])

end Go.Proofs
