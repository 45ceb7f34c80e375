/- The walk. -/
import Derived.Test.YtlhpjeckaepdlaaSb3
import Derived.Test.YtlhpjeckaepdlaaFx
import Derived.Test.YtlhpjeckaepdlaaProg
import Derived.KernelRfl
set_option linter.all false
set_option maxHeartbeats 2000000
namespace Go.Proofs
open Go Go.AM
attribute [local irreducible] Run Ends
/-- slices.swapRangeCmpFunc[ablaut/api.Paid] -/
def c119 : MC :=
  .seq (.reg false [.op .none 10 (.mv (.c (.w (.int .i64 0))))]) <|
  .block 0 <|
    .loop <|
      .seq (.seq (.reg false [.op .none 11 (.mv (.t 10)),
        .op .none 12 (.mv (.t 3)),
        .op .none 13 (.bin .lss (.t 11) (.t 12))]) <|
      .cond (.t 13)
        (.skip)
        (.exit 0)) <|
      .seq (.block 1 <|
        .reg true [.op .none 16 (.mv (.t 0)),
          .op .none 17 (.mv (.t 1)),
          .op .none 18 (.mv (.t 10)),
          .op .none 19 (.bin .add (.t 17) (.t 18)),
          .op .none 20 (.mv (.t 0)),
          .op .none 21 (.mv (.t 2)),
          .op .none 22 (.mv (.t 10)),
          .op .none 23 (.bin .add (.t 21) (.t 22)),
          .op .none 24 (.mv (.t 0)),
          .op .none 25 (.mv (.t 2)),
          .op .none 26 (.mv (.t 10)),
          .op .none 27 (.bin .add (.t 25) (.t 26)),
          .op .none 28 (.ia 2 (.t 24) (.t 27)),
          .op .none 29 (.ld true 2 (.t 28)),
          .op .none 30 (.mv (.t 0)),
          .op .none 31 (.mv (.t 1)),
          .op .none 32 (.mv (.t 10)),
          .op .none 33 (.bin .add (.t 31) (.t 32)),
          .op .none 34 (.ia 2 (.t 30) (.t 33)),
          .op .none 35 (.ld true 2 (.t 34)),
          .op .none 36 (.ia 2 (.t 16) (.t 19)),
          .store .none true 2 (.t 36) (.t 29),
          .op .none 37 (.ia 2 (.t 20) (.t 23)),
          .store .none true 2 (.t 37) (.t 35)]) <|
      .reg false [.op .none 14 (.mv (.t 10)),
        .op .none 15 (.bin .add (.t 14) (.c (.w (.int .i64 1)))),
        .op .none 10 (.mv (.t 15))]
theorem k119 : FnCode Try.prog 119 [] 38 [] c119 := ⟨Try.f119, Try.func119, fun xs W => Try.call119 xs W, by kernel_rfl, by kernel_rfl, by kernel_rfl⟩

/-- slices.rotateCmpFunc[ablaut/api.Paid] -/
def c118 : MC :=
  .seq (.reg false [.op .none 12 (.mv (.t 2)),
    .op .none 13 (.mv (.t 1)),
    .op .none 14 (.bin .sub (.t 12) (.t 13)),
    .op .none 10 (.mv (.t 14))]) <|
  .seq (.reg false [.op .none 15 (.mv (.t 3)),
    .op .none 16 (.mv (.t 2)),
    .op .none 17 (.bin .sub (.t 15) (.t 16)),
    .op .none 11 (.mv (.t 17))]) <|
  .seq (.block 0 <|
    .loop <|
      .seq (.seq (.reg false [.op .none 18 (.mv (.t 10)),
        .op .none 19 (.mv (.t 11)),
        .op .none 20 (.bin .neq (.t 18) (.t 19))]) <|
      .cond (.t 20)
        (.skip)
        (.exit 0)) <|
      .block 1 <|
        .seq (.reg false [.op .none 21 (.mv (.t 10)),
          .op .none 22 (.mv (.t 11)),
          .op .none 23 (.bin .gtr (.t 21) (.t 22))]) <|
        .cond (.t 23)
          (.seq (.reg false [.op .none 24 (.mv (.t 0)),
            .op .none 25 (.mv (.t 2)),
            .op .none 26 (.mv (.t 10)),
            .op .none 27 (.bin .sub (.t 25) (.t 26)),
            .op .none 28 (.mv (.t 2)),
            .op .none 29 (.mv (.t 11)),
            .op .none 30 (.mv (.t 4)),
            .call .none 31 (.f 119) [(.t 24), (.t 27), (.t 28), (.t 29), (.t 30)]]) <|
          .reg false [.op .none 32 (.mv (.t 10)),
            .op .none 33 (.mv (.t 11)),
            .op .none 34 (.bin .sub (.t 32) (.t 33)),
            .op .none 10 (.mv (.t 34))])
          (.seq (.reg false [.op .none 35 (.mv (.t 0)),
            .op .none 36 (.mv (.t 2)),
            .op .none 37 (.mv (.t 10)),
            .op .none 38 (.bin .sub (.t 36) (.t 37)),
            .op .none 39 (.mv (.t 2)),
            .op .none 40 (.mv (.t 11)),
            .op .none 41 (.bin .add (.t 39) (.t 40)),
            .op .none 42 (.mv (.t 10)),
            .op .none 43 (.bin .sub (.t 41) (.t 42)),
            .op .none 44 (.mv (.t 10)),
            .op .none 45 (.mv (.t 4)),
            .call .none 46 (.f 119) [(.t 35), (.t 38), (.t 43), (.t 44), (.t 45)]]) <|
          .reg false [.op .none 47 (.mv (.t 11)),
            .op .none 48 (.mv (.t 10)),
            .op .none 49 (.bin .sub (.t 47) (.t 48)),
            .op .none 11 (.mv (.t 49))])) <|
  .reg false [.op .none 50 (.mv (.t 0)),
    .op .none 51 (.mv (.t 2)),
    .op .none 52 (.mv (.t 10)),
    .op .none 53 (.bin .sub (.t 51) (.t 52)),
    .op .none 54 (.mv (.t 2)),
    .op .none 55 (.mv (.t 10)),
    .op .none 56 (.mv (.t 4)),
    .call .none 57 (.f 119) [(.t 50), (.t 53), (.t 54), (.t 55), (.t 56)]]
theorem k118 : FnCode Try.prog 118 [] 58 [] c118 := ⟨Try.f118, Try.func118, fun xs W => Try.call118 xs W, by kernel_rfl, by kernel_rfl, by kernel_rfl⟩

abbrev PaidT : Type := Int × List Bs × Unit
def paidV : PaidT → PV := fun (c, w, _) => .st [.i c, .word w]
theorem map_set2 (D : List PaidT) (i j : Nat) : ((D.map paidV).set i (paidV (gd D j))).set j (paidV (gd D i)) = (sw D i j).map paidV := by
  simp [sw, List.map_set]
theorem fok119 (D : List PaidT) (a b n : Nat) (g : Nat) (ha : a + n ≤ D.length) (hb : b + n ≤ D.length) (hD : D.length ≤ 1000000) : FOk Try.prog 119 [.h 0, .I a, .I b, .I n, .fn g []] [(0, ⟨false, 2, D.map paidV⟩)] (.tup []) [(0, ⟨false, 2, (swR D a b n).map paidV⟩)] := by
  refine FOk.of k119 1 (by simp) (by decide) (by simp) (by simp) (by simp [find]; rintro _ _ _ rfl rfl _ rfl; rfl) (by decide) ?_
  simp [c119]
  refine Run.loopA (ι := Nat) [(0, 0)] (fun i => i ≤ n) (fun i => ⟨[(0, .h 0), (1, .I a), (2, .I b), (3, .I n), (10, .I i)], [(0, ⟨false, 2, (swR D a b i).map paidV⟩)], 1024⟩) (fun i => n - i) 0 (by decide) (by simp [swR]) (by simp) ?_
  rintro i hi ih
  have hlen := swR_len D a b i
  by_cases h : i < n
  · have hsw : swR D a b (i + 1) = sw (swR D a b i) (a + i) (b + i) := rfl
    have hset := map_set2 (swR D a b i) (a + i) (b + i)
    generalize swR D a b i = D' at hlen hsw hset
    have g1 := gd_some (D := D') (i := a + i) (by omega)
    have g2 := gd_some (D := D') (i := b + i) (by omega)
    obtain ⟨g1a, g1b⟩ := List.getElem?_eq_some_iff.1 g1
    obtain ⟨g2a, g2b⟩ := List.getElem?_eq_some_iff.1 g2
    generalize gd D' (a + i) = x at g1 g1b hset
    generalize gd D' (b + i) = y at g2 g2b hset
    obtain ⟨xc, xw, xu⟩ := x
    obtain ⟨yc, yw, yu⟩ := y
    have e1 : ((a : Int) + i).toNat = a + i := by omega
    have e2 : ((b : Int) + i).toNat = b + i := by omega
    have e3 : (0 : Int) ≤ (a : Int) + i := by omega
    have e4 : (0 : Int) ≤ (b : Int) + i := by omega

    simp only [paidV] at hset
    obtain ⟨⟨qc, qw, qu⟩, hq⟩ : ∃ q, (D'.set (a + i) (yc, yw, yu))[b + i]? = some q := ⟨_, List.getElem?_eq_getElem (by simp; omega)⟩
    have hz : ((D'.map paidV).set (a + i) (paidV (yc, yw, yu)))[b + i]? = some (paidV (qc, qw, qu)) := by rw [← List.map_set, List.getElem?_map, hq]; rfl
    simp only [paidV, PV.i, PV.word, PV.s] at hz
    simp (disch := omega) [h, wrap_i64, e1, e2, e3, e4, g1, g2, g1a, g2a, g1b, g2b, paidV, hz]
    refine ih (i + 1) _ (by omega) (by omega) ?_
    simp [hsw, ← hset]
  · have hin : i = n := by omega
    subst hin
    simp
    exact Ends.one rfl rfl rfl rfl
theorem fok118 (P X Y S : List PaidT) (g : Nat) (hX : 0 < X.length) (hY : 0 < Y.length) (hD : (P ++ X ++ Y ++ S).length ≤ 1000000) : FOk Try.prog 118 [.h 0, .I P.length, .I (P.length + X.length : Nat), .I (P.length + X.length + Y.length : Nat), .fn g []] [(0, ⟨false, 2, (P ++ X ++ Y ++ S).map paidV⟩)] (.tup []) [(0, ⟨false, 2, (P ++ Y ++ X ++ S).map paidV⟩)] := by
  have hrot := rotL_eq (X.length + Y.length) P X Y S (P.length + X.length) X.length Y.length rfl rfl hX hY rfl (by omega)
  rw [← hrot]
  generalize hDD : P ++ X ++ Y ++ S = D at hrot hD ⊢
  have hDl : D.length = P.length + X.length + Y.length + S.length := by rw [← hDD]; simp; omega
  clear hrot hDD
  generalize hm : P.length + X.length = m at *
  have hswp := fun D a b n h1 h2 h3 => fok119 D a b n g h1 h2 h3
  refine FOk.of k118 1 (by simp) (by decide) (by simp) (by simp) (by simp [find]; rintro _ _ _ rfl rfl _ rfl; rfl) (by decide) ?_
  have c1 : (m : Int) - P.length = X.length := by omega
  have c2 : ((m : Int) + Y.length) - m = Y.length := by omega
  simp (disch := omega) [c118, wrap_i64, c1, c2]
  generalize hres : rotL D m (X.length + Y.length + 1) X.length Y.length = res
  refine Run.loopA (ι := Nat × Nat × Nat × List PaidT) [(0, 0)] (fun q => 0 < q.2.1 ∧ 0 < q.2.2.1 ∧ q.2.1 + q.2.2.1 ≤ q.1 ∧ q.2.1 ≤ m ∧ m + q.2.2.1 ≤ D.length ∧ q.2.2.2.length = D.length ∧ rotL q.2.2.2 m (q.1 + 1) q.2.1 q.2.2.1 = res) (fun q => ⟨[(0, .h 0), (2, .I m), (4, .fn g []), (10, .I q.2.1), (11, .I q.2.2.1)], [(0, ⟨false, 2, q.2.2.2.map paidV⟩)], 1024⟩) (fun q => q.2.1 + q.2.2.1) (X.length + Y.length, X.length, Y.length, D) (by decide) (by simp) ⟨hX, hY, Nat.le_refl _, by simp; omega, by simp; omega, rfl, hres⟩ ?_
  rintro ⟨f, i, j, D'⟩ ⟨h1, h2, h3, h4, h5, h6, hall⟩ ih
  simp only at h1 h2 h3 h4 h5 h6 hall ih
  simp only [rotL] at hall
  have e1 : (m : Int) - i = (m - i : Nat) := by omega
  by_cases e : i = j
  · rw [if_pos e] at hall
    subst e hall
    have hs := hswp D' (m - i) m i (by omega) (by omega) (by omega)
    simp (disch := omega) [wrap_i64, e1]
    refine CallG.rows [0] rfl rfl rfl rfl (by simp) (by simp) hs (by simp) (by simp) ?_
    simp
    exact Ends.one rfl rfl rfl rfl
  · rw [if_neg e] at hall
    have e' : ¬ (i : Int) = j := by omega
    obtain ⟨f, rfl⟩ : ∃ f', f = f' + 1 := ⟨f - 1, by omega⟩
    by_cases g2 : j < i
    · rw [if_pos g2] at hall
      have hs := hswp D' (m - i) m j (by omega) (by omega) (by omega)
      have hsl := swR_len D' (m - i) m j
      generalize swR D' (m - i) m j = D2 at hs hsl hall
      have e3 : (i : Int) - j = (i - j : Nat) := by omega
      have g3 : (j : Int) < i := by omega
      simp (disch := omega) [wrap_i64, e1, e', g2, e]
      refine CallG.rows [0] rfl rfl rfl rfl (by simp) (by simp) hs (by simp) (by simp) ?_
      simp (disch := omega) [wrap_i64, e3]
      exact ih (f, i - j, j, D2) _ ⟨by simp; omega, h2, by simp; omega, by simp; omega, h5, by simp; omega, hall⟩ (by simp; omega) (by simp)
    · rw [if_neg g2] at hall
      have hs := hswp D' (m - i) (m + j - i) i (by omega) (by omega) (by omega)
      have hsl := swR_len D' (m - i) (m + j - i) i
      generalize swR D' (m - i) (m + j - i) i = D2 at hs hsl hall
      have e3 : (j : Int) - i = (j - i : Nat) := by omega
      have e4 : (m : Int) + j - i = (m + j - i : Nat) := by omega
      simp (disch := omega) [wrap_i64, e1, e', g2, e, e4]
      refine CallG.rows [0] rfl rfl rfl rfl (by simp) (by simp) hs (by simp) (by simp) ?_
      simp (disch := omega) [wrap_i64, e3]
      exact ih (f, i, j - i, D2) _ ⟨h1, by simp; omega, by simp; omega, h4, by simp; omega, by simp; omega, hall⟩ (by simp; omega) (by simp)

end Go.Proofs
