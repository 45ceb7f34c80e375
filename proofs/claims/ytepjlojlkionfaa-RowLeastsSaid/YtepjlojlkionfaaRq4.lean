/- The walk. -/
import Derived.Test.YtepjlojlkionfaaRq3
import Derived.Test.YtepjlojlkionfaaProg
import Derived.KernelRfl
set_option linter.all false
set_option maxHeartbeats 2000000
namespace Go.Proofs
open Go Go.AM
attribute [local irreducible] Run Ends
/-- ablaut/ablautref19.tails -/
def c63 : MC :=
  .seq (.reg false [.op .none 3 (.box false (.t 0)),
    .op .none 6 (.nilS 1)]) <|
  .seq (.reg false [.op .none 10 (.mv (.t 1)),
    .op .none 11 (.len false (.t 10)),
    .op .none 12 (.mkS 1 24 false [(.sl 1 [])] (.t 11) (.t 11)),
    .op .none 7 (.mv (.t 12))]) <|
  .seq (.seq (.reg false [.op .none 13 (.mv (.t 1)),
    .op .none 14 (.len false (.t 13)),
    .op .none 15 (.bin .sub (.t 14) (.c (.w (.int .i64 1)))),
    .op .none 8 (.mv (.t 15))]) <|
  .block 0 <|
    .loop <|
      .seq (.seq (.reg false [.op .none 16 (.mv (.t 8)),
        .op .none 17 (.bin .geq (.t 16) (.c (.w (.int .i64 0))))]) <|
      .cond (.t 17)
        (.skip)
        (.exit 0)) <|
      .seq (.block 1 <|
        .seq (.reg false [.op .none 20 (.mv (.t 7)),
          .op .none 21 (.mv (.t 8)),
          .op .none 22 (.fa 0 (.t 3)),
          .op .none 23 (.ld false 1 (.t 22)),
          .op .none 24 (.len false (.t 23)),
          .op .none 25 (.mkS 1 24 false [(.sl 2 [])] (.t 24) (.t 24)),
          .op .none 26 (.ia 1 (.t 20) (.t 21)),
          .store .none false 0 (.t 26) (.t 25)]) <|
        .seq (.reg false [.op .none 9 (.mv (.c (.w (.int .i64 0))))]) <|
        .block 2 <|
          .loop <|
            .seq (.seq (.reg false [.op .none 27 (.mv (.t 9)),
              .op .none 28 (.fa 0 (.t 3)),
              .op .none 29 (.ld false 1 (.t 28)),
              .op .none 30 (.len false (.t 29)),
              .op .none 31 (.bin .lss (.t 27) (.t 30))]) <|
            .cond (.t 31)
              (.skip)
              (.exit 2)) <|
            .seq (.block 3 <|
              .seq (.seq (.reg false [.op .none 34 (.mv (.t 1)),
                .op .none 35 (.mv (.t 8)),
                .op .none 36 (.ia 1 (.t 34) (.t 35)),
                .op .none 37 (.ld false 1 (.t 36)),
                .op .none 38 (.mv (.t 9)),
                .op .none 39 (.ia 1 (.t 37) (.t 38)),
                .op .none 40 (.ld false 1 (.t 39)),
                .op .none 41 (.bin .lss (.t 40) (.c (.w (.int .i64 0))))]) <|
              .cond (.t 41)
                (.exit 3)
                (.skip)) <|
              .seq (.seq (.reg false [.op .none 42 (.mv (.t 8)),
                .op .none 43 (.mv (.t 1)),
                .op .none 44 (.len false (.t 43)),
                .op .none 45 (.bin .sub (.t 44) (.c (.w (.int .i64 1)))),
                .op .none 46 (.bin .eql (.t 42) (.t 45))]) <|
              .cond (.t 46)
                (.seq (.reg true [.op .none 47 (.mv (.t 7)),
                  .op .none 48 (.mv (.t 8)),
                  .op .none 49 (.ia 1 (.t 47) (.t 48)),
                  .op .none 50 (.ld false 1 (.t 49)),
                  .op .none 51 (.mv (.t 9)),
                  .op .none 52 (.mv (.t 1)),
                  .op .none 53 (.mv (.t 8)),
                  .op .none 54 (.ia 1 (.t 52) (.t 53)),
                  .op .none 55 (.ld false 1 (.t 54)),
                  .op .none 56 (.mv (.t 9)),
                  .op .none 57 (.ia 1 (.t 55) (.t 56)),
                  .op .none 58 (.ld false 1 (.t 57)),
                  .op .none 59 (.fa 2 (.t 3)),
                  .op .none 60 (.ld false 1 (.t 59)),
                  .op .none 61 (.mv (.t 9)),
                  .op .none 62 (.ia 1 (.t 60) (.t 61)),
                  .op .none 63 (.ld false 1 (.t 62)),
                  .op .none 64 (.bin .add (.t 58) (.t 63)),
                  .op .none 65 (.mv (.t 9)),
                  .op .none 66 (.buildV 1 1 false [(.w (.int .i64 0))] [(0, (.t 65))]),
                  .op .none 67 (.build false [(.w (.int .i64 0)), (.sl 1 [])] [(0, 1, (.t 64)), (1, 1, (.t 66))]),
                  .op .none 68 (.buildS false 2 1 true [(.w (.int .i64 0)), (.sl 1 [])] [(0, (.t 67))]),
                  .op .none 69 (.ia 1 (.t 50) (.t 51)),
                  .store .none false 1 (.t 69) (.t 68)]) <|
                .exit 3)
                (.skip)) <|
              .reg true [.op .none 70 (.mv (.t 7)),
                .op .none 71 (.mv (.t 8)),
                .op .none 72 (.ia 1 (.t 70) (.t 71)),
                .op .none 73 (.ld false 1 (.t 72)),
                .op .none 74 (.mv (.t 9)),
                .op .none 75 (.mv (.t 7)),
                .op .none 76 (.mv (.t 8)),
                .op .none 77 (.bin .add (.t 76) (.c (.w (.int .i64 1)))),
                .op .none 78 (.ia 1 (.t 75) (.t 77)),
                .op .none 79 (.ld false 1 (.t 78)),
                .op .none 80 (.fa 3 (.t 3)),
                .op .none 81 (.ld false 1 (.t 80)),
                .op .none 82 (.mv (.t 9)),
                .op .none 83 (.ia 1 (.t 81) (.t 82)),
                .op .none 84 (.ld false 1 (.t 83)),
                .op .none 85 (.mv (.t 1)),
                .op .none 86 (.mv (.t 8)),
                .op .none 87 (.ia 1 (.t 85) (.t 86)),
                .op .none 88 (.ld false 1 (.t 87)),
                .op .none 89 (.mv (.t 9)),
                .op .none 90 (.ia 1 (.t 88) (.t 89)),
                .op .none 91 (.ld false 1 (.t 90)),
                .op .none 92 (.mv (.t 9)),
                .op .none 93 (.mv (.t 2)),
                .call .none 94 (.f 83) [(.t 79), (.t 84), (.t 91), (.t 92), (.t 93)],
                .op .none 95 (.ia 1 (.t 73) (.t 74)),
                .store .none false 1 (.t 95) (.t 94)]) <|
            .reg false [.op .none 32 (.mv (.t 9)),
              .op .none 33 (.bin .add (.t 32) (.c (.w (.int .i64 1)))),
              .op .none 9 (.mv (.t 33))]) <|
      .reg false [.op .none 18 (.mv (.t 8)),
        .op .none 19 (.bin .sub (.t 18) (.c (.w (.int .i64 1)))),
        .op .none 8 (.mv (.t 19))]) <|
  .seq (.reg false [.op .none 96 (.mv (.t 7)),
    .op .none 6 (.mv (.t 96))]) <|
  .ret
theorem k63 : FnCode Try.prog 63 [100026, 900066] 97 [6] c63 := ⟨Try.f63, Try.func63, fun xs W => Try.call63 xs W, by kernel_rfl, by kernel_rfl, by kernel_rfl⟩

theorem fok63 (t : TagT) (W : List (List Int)) (m : Nat) (ht : OkT t) (hW : ∀ w ∈ W, csB t.1.length (-1) w = true) (hl : W.length ≤ 200) (hm : 1 ≤ m) (hm2 : m ≤ 1000) : FOk Try.prog 63 [.v (tagV t), .v (.sl 1 (W.map intsV)), .I m] [] (.v (.sl 1 (rowsT t m W 0))) [] := by
  have hz := csB_len ht.z
  have hpl := ht.pl
  have hp := fun l hl => csB_len (ht.p l hl)
  have hpr := fun l hl => csB_rng (ht.p l hl)
  have hg := ht.g
  have hRl := fun I h => rowsT_len t m W (I := I) h
  have hRs := fun i h => rowsT_set t m W (i := i) h
  have hRa := fun I o h h2 => rowsT_at t m W (I := I) (o := o) h h2
  have hR0 : rowsT t m W W.length = List.replicate W.length (.sl 1 []) := by simp [rowsT, tlsF]
  have htc2 : tagV t = .st [.word t.1, intsV t.2.1, intsV t.2.2.1, .sl 1 (t.2.2.2.1.map intsV), .sl 2 (t.2.2.2.2.1.map worthV), intsV t.2.2.2.2.2.1] := by
    obtain ⟨G, Fi, Z, P, W, U, uu⟩ := t; rfl
  refine FOk.val k63 (by simp) (by simp) (by decide) ?_
  have c1 : (W.length : Int) * 24 ≤ 70368744177664 := by omega
  have c2 : (W.length : Int) ≤ 1000000000000 := by omega
  have d1 : (t.1.length : Int) * 24 ≤ 70368744177664 := by omega
  have d2 : (t.1.length : Int) ≤ 1000000000000 := by omega
  rw [htc2]
  simp (disch := omega) [c63, wrap_i64, c1, c2]
  refine Run.cutB (ι := Unit) [(1, 7)] (fun _ => True) (fun _ => ⟨[(7, .h 1)], [(1, ⟨false, 1, rowsT t m W 0⟩)], 1024⟩) (by decide) ?_ ?_
  · intro _ _
    simp
    exact Ends.v rfl (by simp)
  intro hK
  refine Run.loopA (ι := Nat) [(1, 3), (2, 7)] (fun I => I ≤ W.length) (fun I => ⟨[(1, .v (.sl 1 (W.map intsV))), (2, .I m), (3, .ptr 1 0 0), (7, .h 2), (8, .I ((I : Int) - 1))], [(2, ⟨false, 0, .st [] :: rowsT t m W I⟩), (1, ⟨false, 6, [tagV t]⟩)], 1024⟩) (fun I => I) W.length (by decide) (by simp [htc2, hR0]) (by simp) ?_
  rintro I hI ih
  rcases I with _ | i
  · simp
    exact hK () _ trivial (by simp)
  have hi : i < W.length := by omega
  have hset := hRs i hi
  have hwi := hW _ (List.getElem_mem hi)
  have hwl := csB_len hwi
  have hwr := csB_rng hwi
  simp (disch := omega) [wrap_i64, htc2, hRl, hi, d1, d2]
  -- the row of this word, as far as it is made
  have key : ∀ (F : Nat → List TlT), (∀ k, k < t.1.length → (tlsF t m (W.drop i)).headD [] = (List.range t.1.length).map F) → True := fun _ _ => trivial
  obtain ⟨F, hF⟩ : ∃ F : Nat → List TlT, (tlsF t m (W.drop i)).headD [] = (List.range t.1.length).map F ∧ ∀ k, F k = if at0 W[i] k < 0 then [] else if i + 1 = W.length then [(at0 W[i] k + at0 t.2.2.1 k, [k])] else mrg (t.2.2.2.1.getD k []) (at0 W[i] k) (some k) m ((tlsF t m (W.drop (i + 1))).headD []) := by
    refine ⟨_, ?_, fun k => rfl⟩
    rw [drop_at hi]
    by_cases e : i + 1 = W.length
    · rw [drop_no (show ¬ i + 1 < W.length by omega)]
      simp [tlsF, lastT, e]
    · rw [drop_at (show i + 1 < W.length by omega)]
      simp [tlsF, nextT, e]
  obtain ⟨hF1, hF2⟩ := hF
  rw [hF1] at hset
  clear key
  generalize hw : W[i] = w at hwl hwr hF2
  have hri : (rowsT t m W (i + 1))[i]? = some (.sl 1 []) := by
    unfold rowsT; rw [List.getElem?_append_left (by simp)]; simp
  refine Run.loopA (ι := Nat) [(1, 3), (2, 7), (3, 25)] (fun k => k ≤ t.1.length) (fun k => ⟨[(1, .v (.sl 1 (W.map intsV))), (2, .I m), (3, .ptr 1 0 0), (7, .h 2), (8, .I i), (9, .I k), (25, .h 3)], [(2, ⟨false, 0, encR i 3 :: rowsT t m W (i + 1)⟩), (3, ⟨false, 1, (List.range k).map (fun k => tailsV (F k)) ++ List.replicate (t.1.length - k) (PV.sl 2 [])⟩), (1, ⟨false, 6, [tagV t]⟩)], 1024⟩) (fun k => t.1.length - k) 0 (by decide) (by simp [htc2]) (by simp) ?_
  rintro k hk ihk
  by_cases hkn : k < t.1.length
  case neg =>
    have hkk : k = t.1.length := by omega
    subst hkk
    simp (disch := omega) [wrap_i64, htc2]
    refine ih i _ (by omega) (by omega) ?_
    simp [htc2]
    simp only [rowT, List.map_map] at hset
    exact hset
  have hst : ∀ v : PV, v = tailsV (F k) → ((List.range k).map (fun k => tailsV (F k)) ++ List.replicate (t.1.length - k) (PV.sl 2 [])).set k v = (List.range (k + 1)).map (fun k => tailsV (F k)) ++ List.replicate (t.1.length - (k + 1)) (PV.sl 2 []) := by
    rintro v rfl
    rw [List.set_append_right _ _ (by simp), List.range_succ, List.map_append, List.append_assoc]
    have e : t.1.length - k = (t.1.length - (k + 1)) + 1 := by omega
    simp [e, List.replicate_succ]
  have hnil : tailsV [] = .sl 2 [] := rfl
  have hskip : F k = [] → (List.range (k + 1)).map (fun k => tailsV (F k)) ++ List.replicate (t.1.length - (k + 1)) (PV.sl 2 []) = (List.range k).map (fun k => tailsV (F k)) ++ List.replicate (t.1.length - k) (PV.sl 2 []) := by
    intro e0
    have e : t.1.length - k = (t.1.length - (k + 1)) + 1 := by omega
    rw [List.range_succ, List.map_append, List.append_assoc, e, List.replicate_succ]
    simp [e0, hnil]
  have hcl : k < ((List.range k).map (fun k => tailsV (F k)) ++ List.replicate (t.1.length - k) (PV.sl 2 [])).length := by simp; omega
  have hck : ((List.range k).map (fun k => tailsV (F k)) ++ List.replicate (t.1.length - k) (PV.sl 2 []))[k]'hcl = PV.sl 2 [] := by
    rw [List.getElem_append_right (by simp)]; simp
  have hFk := hF2 k
  have hkw : k < w.length := by omega
  rw [at0_eq hkw] at hFk
  have hwk := hwr _ (List.getElem_mem hkw)
  generalize hwv : w[k] = wv at hFk hwk
  have hih := ihk (k + 1)
  simp only at hih
  generalize (List.range (k + 1)).map (fun k => tailsV (F k)) ++ List.replicate (t.1.length - (k + 1)) (PV.sl 2 []) = cur' at hst hskip hih
  generalize (List.range k).map (fun k => tailsV (F k)) ++ List.replicate (t.1.length - k) (PV.sl 2 []) = cur at hst hskip hcl hck ⊢
  clear ihk
  by_cases q1 : wv < 0
  · rw [if_pos q1] at hFk
    have hs := hskip hFk
    simp (disch := omega) [hkn, wrap_i64, htc2, hi, hw, intsV, hkw, hwv, q1]
    exact hih _ (by omega) (by omega) (by simp [htc2, hs, intsV])
  rw [if_neg q1] at hFk
  by_cases hlast : i + 1 = W.length
  · rw [if_pos hlast] at hFk
    have hkz : k < t.2.2.1.length := by omega
    have hzv := csB_at ht.z hkn
    rw [at0_eq hkz] at hFk hzv
    generalize hzk : t.2.2.1[k] = zk at hFk hzv
    have hs := hst _ (by rw [hFk])
    have hd' := eq_true (show ((i : Int) = (W.length : Int) - 1) by omega)
    simp only [tailsV, tailV, natsV, List.map_cons, List.map_nil, PV.i] at hs
    simp (disch := omega) [hkn, wrap_i64, htc2, hi, hw, intsV, hkw, hwv, q1, hd', hkz, hzk, hRl, hri, hcl, hck]
    exact hih _ (by omega) (by omega) (by simp [htc2, hs, intsV])
  · rw [if_neg hlast] at hFk
    have hi1 : i + 1 < W.length := by omega
    have hd' : ¬ ((i : Int) = (W.length : Int) - 1) := by omega
    have hkp : k < t.2.2.2.1.length := by omega
    rw [List.getD_eq_getElem?_getD, List.getElem?_eq_getElem hkp, Option.getD_some] at hFk
    have hra := hRa (i + 1) (i + 1) (Nat.le_refl _) hi1
    have hgood : GoodT t m (W.drop (i + 1)).length ((tlsF t m (W.drop (i + 1))).headD []) := by
      refine tlsF_good ht hm (W.drop (i + 1)) (fun w hw => hW w (List.mem_of_mem_drop hw)) _ ?_
      have := tlsF_cons t m W hi1
      rw [this]; simp
    generalize (tlsF t m (W.drop (i + 1))).headD [] = r at hra hgood hFk
    have hpk := hp _ (List.getElem_mem hkp)
    have hpkr := hpr _ (List.getElem_mem hkp)
    generalize hpp : t.2.2.2.1[k] = p at hFk hpk hpkr
    have hdl : (W.drop (i + 1)).length ≤ 200 := by simp; omega
    have hmg := fok83 r p wv (some k) m (by rw [hgood.len]; exact hg) (by rw [hgood.len]; exact hpk) (fun q hq => ⟨by have := (hgood.q q hq).1; omega, fun x hx => by have := (hgood.q q hq).2 x hx; omega⟩) (fun x hx => hpkr x hx) (by omega) hm2
    rw [← hFk] at hmg
    have hs := hst _ rfl
    obtain ⟨hra1, hra2⟩ := List.getElem?_eq_some_iff.1 hra
    simp only [rowT] at hra2
    simp only [bI9, intsV] at hmg
    simp (disch := omega) [hkn, wrap_i64, htc2, hi, hw, intsV, hkw, hwv, q1, hd', hRl, hri, hcl, hra1, hra2, toNat1, nn1, hi1, hkp, hpp]
    refine CallG.plain rfl rfl rfl rfl hmg (by simp) (by simp) ?_
    simp only [tailsV] at hs ⊢
    simp (disch := omega) [wrap_i64, hRl, hri, hcl, hck, hi]
    exact hih _ (by omega) (by omega) (by simp [htc2, hs, intsV])

end Go.Proofs
