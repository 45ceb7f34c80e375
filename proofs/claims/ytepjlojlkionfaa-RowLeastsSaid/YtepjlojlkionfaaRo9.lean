/- The walk. -/
import Derived.Test.YtepjlojlkionfaaRo8
import Derived.Test.YtepjlojlkionfaaProg
import Derived.KernelRfl
set_option linter.all false
set_option maxHeartbeats 2000000
namespace Go.Proofs
open Go Go.AM
attribute [local irreducible] Run Ends
/-- ablaut/row.rest -/
def c43 : MC :=
  .seq (.reg false [.op .none 2 (.box false (.t 0)),
    .op .none 4 (.nilS 1)]) <|
  .seq (.reg false [.op .none 14 (.mv (.t 1)),
    .op .none 15 (.len false (.t 14)),
    .op .none 16 (.mkS 1 24 false [(.sl 1 [])] (.t 15) (.t 15)),
    .op .none 5 (.mv (.t 16))]) <|
  .seq (.seq (.reg false [.op .none 17 (.mv (.t 1)),
    .op .none 18 (.len false (.t 17)),
    .op .none 19 (.bin .sub (.t 18) (.c (.w (.int .i64 1)))),
    .op .none 6 (.mv (.t 19))]) <|
  .block 0 <|
    .loop <|
      .seq (.seq (.reg false [.op .none 20 (.mv (.t 6)),
        .op .none 21 (.bin .geq (.t 20) (.c (.w (.int .i64 0))))]) <|
      .cond (.t 21)
        (.skip)
        (.exit 0)) <|
      .seq (.block 1 <|
        .seq (.reg false [.op .none 24 (.mv (.t 5)),
          .op .none 25 (.mv (.t 6)),
          .op .none 26 (.fa 2 (.t 2)),
          .op .none 27 (.ld false 1 (.t 26)),
          .call .none 28 (.f 46) [(.t 27)],
          .op .none 29 (.ia 1 (.t 24) (.t 25)),
          .store .none false 0 (.t 29) (.t 28)]) <|
        .seq (.seq (.reg false [.op .none 30 (.mv (.t 6)),
          .op .none 31 (.mv (.t 1)),
          .op .none 32 (.len false (.t 31)),
          .op .none 33 (.bin .sub (.t 32) (.c (.w (.int .i64 1)))),
          .op .none 34 (.bin .eql (.t 30) (.t 33))]) <|
        .cond (.t 34)
          (.exit 1)
          (.skip)) <|
        .seq (.reg true [.op .none 35 (.ld true 6 (.t 2)),
          .op .none 36 (.mv (.t 1)),
          .op .none 37 (.mv (.t 6)),
          .op .none 38 (.bin .add (.t 37) (.c (.w (.int .i64 1)))),
          .op .none 39 (.ia 1 (.t 36) (.t 38)),
          .op .none 40 (.ld false 1 (.t 39)),
          .call .none 41 (.f 44) [(.t 35), (.t 40)],
          .op .none 7 (.mv (.t 41))]) <|
        .seq (.reg false [.op .none 42 (.fa 0 (.t 2)),
          .op .none 43 (.ld false 1 (.t 42)),
          .op .none 44 (.len false (.t 43)),
          .op .none 45 (.mv (.c (.w (.int .i64 0))))]) <|
        .block 2 <|
          .loop <|
            .seq (.reg false [.op .none 46 (.bin .lss (.t 45) (.t 44))]) <|
            .seq (.cond (.t 46)
              (.skip)
              (.exit 2)) <|
            .seq (.block 3 <|
              .seq (.reg false [.op .none 47 (.mv (.t 45)),
                .op .none 8 (.mv (.t 47))]) <|
              .seq (.reg false [.op .none 9 (.nilS 1)]) <|
              .seq (.seq (.reg false [.op .none 48 (.mv (.t 7)),
                .op .none 49 (.len false (.t 48)),
                .op .none 50 (.mv (.c (.w (.int .i64 0))))]) <|
              .block 4 <|
                .loop <|
                  .seq (.reg false [.op .none 51 (.bin .lss (.t 50) (.t 49))]) <|
                  .seq (.cond (.t 51)
                    (.skip)
                    (.exit 4)) <|
                  .seq (.block 5 <|
                    .seq (.reg false [.op .none 52 (.mv (.t 50)),
                      .op .none 53 (.ia 1 (.t 48) (.t 50)),
                      .op .none 54 (.ld false 1 (.t 53)),
                      .op .none 10 (.mv (.t 52)),
                      .op .none 11 (.mv (.t 54))]) <|
                    .seq (.reg false [.op .none 55 (.mv (.t 11)),
                      .op .none 56 (.bin .geq (.t 55) (.c (.w (.int .i64 0)))),
                      .op .none 57 (.mv (.t 56)),
                      .op (.some (57, true)) 58 (.mv (.t 5)),
                      .op (.some (57, true)) 59 (.mv (.t 6)),
                      .op (.some (57, true)) 60 (.bin .add (.t 59) (.c (.w (.int .i64 1)))),
                      .op (.some (57, true)) 61 (.ia 1 (.t 58) (.t 60)),
                      .op (.some (57, true)) 62 (.ld false 1 (.t 61)),
                      .op (.some (57, true)) 63 (.mv (.t 10)),
                      .op (.some (57, true)) 64 (.ia 1 (.t 62) (.t 63)),
                      .op (.some (57, true)) 65 (.ld false 1 (.t 64)),
                      .op (.some (57, true)) 66 (.bin .geq (.t 65) (.c (.w (.int .i64 0)))),
                      .op .none 67 (.pick (.t 57) (.t 66) (.c (.w (.bool false))))]) <|
                    .cond (.t 67)
                      (.reg true [.op .none 68 (.mv (.t 9)),
                        .op .none 69 (.fa 3 (.t 2)),
                        .op .none 70 (.ld false 1 (.t 69)),
                        .op .none 71 (.mv (.t 8)),
                        .op .none 72 (.ia 1 (.t 70) (.t 71)),
                        .op .none 73 (.ld false 1 (.t 72)),
                        .op .none 74 (.mv (.t 10)),
                        .op .none 75 (.ia 1 (.t 73) (.t 74)),
                        .op .none 76 (.ld false 1 (.t 75)),
                        .op .none 77 (.mv (.t 11)),
                        .op .none 78 (.bin .add (.t 76) (.t 77)),
                        .op .none 79 (.mv (.t 5)),
                        .op .none 80 (.mv (.t 6)),
                        .op .none 81 (.bin .add (.t 80) (.c (.w (.int .i64 1)))),
                        .op .none 82 (.ia 1 (.t 79) (.t 81)),
                        .op .none 83 (.ld false 1 (.t 82)),
                        .op .none 84 (.mv (.t 10)),
                        .op .none 85 (.ia 1 (.t 83) (.t 84)),
                        .op .none 86 (.ld false 1 (.t 85)),
                        .op .none 87 (.bin .add (.t 78) (.t 86)),
                        .op .none 88 (.buildS true 1 1 false [(.w (.int .i64 0))] [(0, (.t 87))]),
                        .op .none 89 (.app 1 8 (.t 68) (.t 88)),
                        .op .none 9 (.mv (.t 89))])
                      (.skip)) <|
                  .reg false [.op .none 90 (.bin .add (.t 50) (.c (.w (.int .i64 1)))),
                    .op .none 50 (.mv (.t 90))]) <|
              .seq (.reg false [.op .none 92 (.mv (.t 9)),
                .call .none 93 (.f 60) [(.t 92), (.f 84)],
                .op .none 91 (.mv (.t 93)),
                .op .none 94 (.ext (.t 91) 0),
                .op .none 95 (.ext (.t 91) 1),
                .op .none 12 (.mv (.t 94)),
                .op .none 13 (.mv (.t 95))]) <|
              .seq (.seq (.reg false [.op .none 96 (.mv (.t 13)),
                .op .none 97 (.un .not (.t 96))]) <|
              .cond (.t 97)
                (.reg false [.op .none 12 (.mv (.c (.w (.int .i64 (-1)))))])
                (.skip)) <|
              .reg false [.op .none 98 (.mv (.t 5)),
                .op .none 99 (.mv (.t 6)),
                .op .none 100 (.ia 1 (.t 98) (.t 99)),
                .op .none 101 (.ld false 1 (.t 100)),
                .op .none 102 (.mv (.t 8)),
                .op .none 103 (.mv (.t 12)),
                .op .none 104 (.ia 1 (.t 101) (.t 102)),
                .store .none false 1 (.t 104) (.t 103)]) <|
            .reg false [.op .none 105 (.bin .add (.t 45) (.c (.w (.int .i64 1)))),
              .op .none 45 (.mv (.t 105))]) <|
      .reg false [.op .none 22 (.mv (.t 6)),
        .op .none 23 (.bin .sub (.t 22) (.c (.w (.int .i64 1)))),
        .op .none 6 (.mv (.t 23))]) <|
  .seq (.reg false [.op .none 106 (.mv (.t 5)),
    .op .none 4 (.mv (.t 106))]) <|
  .ret
theorem k43 : FnCode Try.prog 43 [100029, 88] 107 [4] c43 := ⟨Try.f43, Try.func43, fun xs W => Try.call43 xs W, by kernel_rfl, by kernel_rfl, by kernel_rfl⟩

def curR (t : TagT) (c r : List Int) (k : Nat) : List Int := (nextR t c r).take k ++ t.2.2.1.drop k
theorem fok43 (t : TagT) (l : List Bs) (ht : OkT t) (hl : l.length ≤ 200) : FOk Try.prog 43 [.v (tagV t), .v (.word l)] [] (.v (.sl 1 (rowsR t l 0))) [] := by
  have hz := csB_len ht.z
  have hpl := ht.pl
  have hp := fun l hl => csB_len (ht.p l hl)
  have hpr := fun l hl => csB_rng (ht.p l hl)
  have hc := fun w => fok44 t w ht
  have hcl := fun w => csB_len (costsF_ok ht w)
  have hcr := fun w => csB_rng (costsF_ok ht w)
  have hrr := restF_rng ht
  have hg := ht.g
  have hcn := fokO46 t.2.2.1 (by omega)
  have hRl := fun I h => rowsR_len t l (I := I) h
  have hRs := fun i h => rowsR_set t l (i := i) h
  have hRa := fun I o h h2 => rowsR_at t l (I := I) (o := o) h h2
  have hR0 : rowsR t l l.length = List.replicate l.length (.sl 1 []) := by simp [rowsR, restF]
  refine FOk.val k43 (by simp) (by simp) (by decide) ?_
  have c1 : (l.length : Int) * 24 ≤ 70368744177664 := by omega
  have c2 : (l.length : Int) ≤ 1000000000000 := by omega
  obtain ⟨tc, htc⟩ : ∃ tc, tc = tagV t := ⟨_, rfl⟩
  have htc2 : tagV t = .st [.word t.1, intsV t.2.1, intsV t.2.2.1, .sl 1 (t.2.2.2.1.map intsV), .sl 2 (t.2.2.2.2.1.map worthV), intsV t.2.2.2.2.2.1] := by
    obtain ⟨G, Fi, Z, P, W, U, uu⟩ := t; rfl
  rw [htc2] at hc ⊢
  simp (disch := omega) [c43, wrap_i64, c1, c2]
  refine Run.cutB (ι := Unit) [(1, 5)] (fun _ => True) (fun _ => ⟨[(5, .h 1)], [(1, ⟨false, 1, rowsR t l 0⟩)], 1024⟩) (by decide) ?_ ?_
  · intro _ _
    simp
    exact Ends.v rfl (by simp)
  intro hK
  refine Run.loopA (ι := Nat) [(1, 2), (2, 5)] (fun I => I ≤ l.length) (fun I => ⟨[(1, .v (.word l)), (2, .ptr 1 0 0), (5, .h 2), (6, .I ((I : Int) - 1))], [(2, ⟨false, 0, .st [] :: rowsR t l I⟩), (1, ⟨false, 6, [tagV t]⟩)], 1024⟩) (fun I => I) l.length (by decide) (by simp [htc2, hR0]) (by simp) ?_
  rintro I hI ih
  rcases I with _ | i
  · simp
    exact hK () _ trivial (by simp)
  have hi : i < l.length := by omega
  simp (disch := omega) [wrap_i64, htc2, hRl]
  simp only [intsV] at hcn
  refine CallG.plain rfl rfl rfl rfl hcn (by simp) (by simp) ?_
  have hset := hRs i hi
  by_cases hlast : i + 1 = l.length
  · have hd' := eq_true (show ((i : Int) = (l.length : Int) - 1) by omega)
    have hr0 : restF t (l.drop i) = [t.2.2.1] := by
      rw [drop_at hi, drop_no (by omega)]; rfl
    rw [hr0] at hset
    simp (disch := omega) [wrap_i64, htc2, hRl, hi, hd']
    exact ih i _ (by omega) (by omega) (by simp [htc2, intsV] at *; exact hset)
  have hi1 : i + 1 < l.length := by omega
  have hd' : ¬ ((i : Int) = (l.length : Int) - 1) := by omega
  have hcw := hc l[i + 1]
  have hcwl := hcl l[i + 1]
  have hcwr := hcr l[i + 1]
  have hr1 : restF t (l.drop i) = nextR t (costsF t l[i + 1]) ((restF t (l.drop (i + 1))).headD []) :: restF t (l.drop (i + 1)) := by
    rw [drop_at hi, drop_at hi1]; rfl
  rw [hr1] at hset
  have hra := hRa (i + 1) (i + 1) (Nat.le_refl _) hi1
  have hri : (rowsR t l (i + 1))[i]? = some (.sl 1 []) := by
    unfold rowsR; rw [List.getElem?_append_left (by simp)]; simp
  have hrm : ((restF t (l.drop (i + 1))).headD []).length = t.1.length ∧ ∀ x ∈ (restF t (l.drop (i + 1))).headD [], -1 ≤ x ∧ x ≤ 100000000 + 200 * 200000000 := by
    have h1 := restF_len t (l.drop (i + 1))
    have hm : (restF t (l.drop (i + 1))).headD [] ∈ restF t (l.drop (i + 1)) := by
      cases hrr : restF t (l.drop (i + 1)) with
      | nil => rw [hrr] at h1; simp at h1; omega
      | cons a b => simp
    have h2 := hrr _ _ hm
    refine ⟨h2.1, fun x hx => ?_⟩
    have := h2.2 x hx
    simp at this
    omega
  simp only [List.headD_cons] at hset
  generalize (restF t (l.drop (i + 1))).headD [] = r at hset hra hrm hr1
  generalize costsF t l[i + 1] = c at hset hcw hcwl hcwr hr1
  simp (disch := omega) [wrap_i64, htc2, hRl, hi, hi1, hd']
  refine CallG.plain rfl rfl rfl rfl hcw (by simp) (by simp) ?_
  simp (disch := omega) [wrap_i64, htc2]
  have hnl : (nextR t c r).length = t.1.length := by simp [nextR]
  have hcu0 : curR t c r 0 = t.2.2.1 := by simp [curR]
  have hcun : curR t c r t.1.length = nextR t c r := by
    unfold curR
    rw [List.take_of_length_le (by omega), List.drop_of_length_le (by omega), List.append_nil]
  have hcul : ∀ k, k ≤ t.1.length → (curR t c r k).length = t.1.length := fun k hk => by simp [curR, hnl, hz]; omega
  have hcus : ∀ k (hk : k < t.1.length) (hk2 : k < t.2.2.2.1.length), (curR t c r k).set k (lstB (waysF t.2.2.2.1[k] c r)) = curR t c r (k + 1) := by
    intro k hk hk2
    unfold curR
    have hk3 : k < (nextR t c r).length := by omega
    rw [List.set_append_right _ _ (by simp; omega), List.drop_eq_getElem_cons (show k < t.2.2.1.length by omega)]
    rw [List.take_succ_eq_append_getElem hk3, List.append_assoc]
    have e0 : k - (List.take k (nextR t c r)).length = 0 := by simp; omega
    rw [e0]
    simp only [List.set_cons_zero, List.singleton_append]
    congr 2
    simp [nextR, List.getElem?_eq_getElem hk2]
  refine Run.loopA (ι := Nat) [(1, 2), (2, 5), (3, 28)] (fun k => k ≤ t.1.length) (fun k => ⟨[(1, .v (.word l)), (2, .ptr 1 0 0), (5, .h 2), (6, .I i), (7, .v (intsV c)), (28, .h 3), (44, .I t.1.length), (45, .I k)], [(2, ⟨false, 0, encR i 3 :: rowsR t l (i + 1)⟩), (3, ⟨false, 1, (curR t c r k).map .i⟩), (1, ⟨false, 6, [tagV t]⟩)], 1024⟩) (fun k => t.1.length - k) 0 (by decide) (by simp [htc2, hcu0]) (by simp) ?_
  rintro k hk ihk
  by_cases hkn : k < t.1.length
  case neg =>
    have hkk : k = t.1.length := by omega
    subst hkk
    simp (disch := omega) [wrap_i64]
    refine ih i _ (by omega) (by omega) ?_
    simp [htc2, hcun]
    simp only [intsV] at hset
    exact hset
  have hkp : k < t.2.2.2.1.length := by omega
  have hpk := hp _ (List.getElem_mem hkp)
  have hpkr := hpr _ (List.getElem_mem hkp)
  have hst := hcus k hkn hkp
  have hcuk := hcul k hk
  generalize hP : t.2.2.2.1[k] = p at hpk hpkr hst
  simp (disch := omega) [hkn, wrap_i64, intsV]
  have hwl := waysF_len p c r
  refine Run.loopA (ι := Nat × List Int) [(1, 2), (2, 5), (3, 28), (4, 9)] (fun q => q.1 ≤ c.length ∧ q.2.length ≤ q.1 ∧ q.2 ++ waysF (p.drop q.1) (c.drop q.1) (r.drop q.1) = waysF p c r) (fun q => ⟨[(1, .v (.word l)), (2, .ptr 1 0 0), (5, .h 2), (6, .I i), (7, .v (intsV c)), (8, .I k), (9, .h 4), (28, .h 3), (44, .I t.1.length), (45, .I k), (48, .v (intsV c)), (49, .I c.length), (50, .I q.1)], [(4, ⟨false, 1, q.2.map .i⟩), (2, ⟨false, 0, encR i 3 :: rowsR t l (i + 1)⟩), (3, ⟨false, 1, (curR t c r k).map .i⟩), (1, ⟨false, 6, [tagV t]⟩)], 1024⟩) (fun q => c.length - q.1) (0, []) (by decide) (by simp [htc2, intsV]) ⟨by simp, by simp, by simp⟩ ?_
  rintro ⟨j, acc⟩ ⟨hj, hac, hall⟩ ihj
  simp only at hj hac hall ihj
  obtain ⟨hrl, hrv⟩ := hrm
  by_cases h : j < c.length
  · have hjp : j < p.length := by omega
    have hjr : j < r.length := by omega
    rw [drop_at h, drop_at hjp, drop_at hjr] at hall
    simp only [waysF] at hall
    have b1 := hcwr _ (List.getElem_mem h)
    have b2 := hpkr _ (List.getElem_mem hjp)
    have b3 := hrv _ (List.getElem_mem hjr)
    obtain ⟨hra1, hra2⟩ := List.getElem?_eq_some_iff.1 hra
    generalize hxc : c[j] = xc at b1 hall
    generalize hxp : p[j] = xp at b2 hall
    generalize hxr : r[j] = xr at b3 hall
    by_cases q1 : 0 ≤ xc
    case neg =>
      rw [if_neg (by omega)] at hall
      simp (disch := omega) [h, hxc, q1, wrap_i64, intsV]
      exact ihj (j + 1, acc) _ ⟨by simp; omega, by simp; omega, hall⟩ (by simp; omega) (by simp [htc2, intsV])
    by_cases q2 : 0 ≤ xr
    case neg =>
      rw [if_neg (by omega)] at hall
      simp (disch := omega) [h, hxc, q1, wrap_i64, intsV, hra2, hra1, hRl, hi1, hjr, hxr, q2, toNat1, nn1]
      exact ihj (j + 1, acc) _ ⟨by simp; omega, by simp; omega, hall⟩ (by simp; omega) (by simp [htc2, intsV])
    rw [if_pos ⟨q1, q2⟩] at hall
    have hbl : (acc.length + 1 + 1000) * 8 ≤ 70368744177664 := by omega
    simp (disch := (clear hbl; omega)) [h, hxc, q1, wrap_i64, intsV, hra2, hra1, hRl, hi1, hjr, hxr, q2, toNat1, nn1, htc2, hkp, hP, hjp, hxp, hbl]
    clear hbl
    exact ihj (j + 1, acc ++ [xp + xc + xr]) _ ⟨by simp; omega, by simp; omega, by simpa using hall⟩ (by simp; omega) (by simp [htc2, intsV])
  · rw [drop_no h] at hall
    have hall : acc = waysF p c r := by
      rw [← hall]
      have : ∀ a b, waysF a [] b = [] := fun a b => by cases a <;> rfl
      rw [this]; simp
    subst hall
    have hle := fok60 (waysF p c r) (by omega)
    simp only [intsV] at hle
    simp [h]
    refine CallG.rows [] rfl rfl rfl rfl (by simp) (by simp) hle (by simp) (by simp) ?_
    have hkc : k < (curR t c r k).length := by omega
    have hset2 : ∀ v, lstB (waysF p c r) = v → ((curR t c r k).map PV.i).set k (PV.w (.int .i64 v)) = (curR t c r (k + 1)).map .i := by
      rintro v rfl
      rw [← hst, List.map_set]; rfl
    cases hb : (lstO none (waysF p c r)).isSome
    · have hv := hset2 (-1) (by simp [lstB, hb])
      simp (disch := omega) [hb, hRl, hi, hi1, hri, hkc, wrap_i64, intsV]
      exact ihk (k + 1) _ (by omega) (by omega) (by simp [-List.map_set, htc2, hv, intsV])
    · have hv := hset2 (oI (lstO none (waysF p c r))) (by simp [lstB, hb])
      simp (disch := omega) [hb, hRl, hi, hi1, hri, hkc, wrap_i64, intsV]
      exact ihk (k + 1) _ (by omega) (by omega) (by simp [-List.map_set, htc2, hv, intsV])

end Go.Proofs
