/- The walk. -/
import Derived.Test.YtepjlojlkionfaaRq5
import Derived.Test.YtepjlojlkionfaaProg
import Derived.KernelRfl
set_option linter.all false
set_option maxHeartbeats 2000000
namespace Go.Proofs
open Go Go.AM
attribute [local irreducible] Run Ends
/-- ablaut/row.At$1 -/
def c61 : MC :=
  .seq (.reg false [.op .none 2 (.mv (.c (.w (.int .i64 0))))]) <|
  .seq (.reg false [.op .none 3 (.mv (.t 0)),
    .op .none 2 (.mv (.t 3))]) <|
  .ret
theorem k61 : FnCode Try.prog 61 [] 4 [2] c61 := ⟨Try.f61, Try.func61, fun xs W => Try.call61 xs W, by kernel_rfl, by kernel_rfl, by kernel_rfl⟩

/-- ablaut/row.At -/
def c24 : MC :=
  .seq (.reg false [.op .none 3 (.box false (.t 0)),
    .op .none 6 (.nilS 1),
    .op .none 7 (.mv (.c (.w (.int .i64 0))))]) <|
  .seq (.seq (.reg false [.op .none 21 (.ld true 6 (.t 3)),
    .op .none 22 (.mv (.t 1)),
    .call .none 23 (.f 42) [(.t 21), (.t 22)],
    .op .none 8 (.mv (.t 23))]) <|
  .seq (.reg false [.op .none 24 (.mv (.t 8)),
    .op .none 25 (.bin .neq (.t 24) (.c (.w (.int .i64 0))))]) <|
  .cond (.t 25)
    (.seq (.reg false [.op .none 26 (.mv (.t 8)),
      .op .none 6 (.nilS 1),
      .op .none 7 (.mv (.t 26))]) <|
    .ret)
    (.skip)) <|
  .seq (.seq (.reg false [.op .none 27 (.mv (.t 2)),
    .op .none 28 (.bin .lss (.t 27) (.c (.w (.int .i64 0)))),
    .op .none 29 (.mv (.t 28)),
    .op (.some (29, false)) 30 (.mv (.t 2)),
    .op (.some (29, false)) 31 (.mv (.t 1)),
    .op (.some (29, false)) 32 (.len false (.t 31)),
    .op (.some (29, false)) 33 (.bin .geq (.t 30) (.t 32)),
    .op .none 34 (.pick (.t 29) (.c (.w (.bool true))) (.t 33))]) <|
  .cond (.t 34)
    (.seq (.reg false [.op .none 6 (.nilS 1),
      .op .none 7 (.mv (.c (.w (.int .i64 4))))]) <|
    .ret)
    (.skip)) <|
  .seq (.reg false [.op .none 35 (.ld true 6 (.t 3)),
    .op .none 36 (.mv (.t 1)),
    .call .none 37 (.f 43) [(.t 35), (.t 36)],
    .op .none 9 (.mv (.t 37))]) <|
  .seq (.reg false [.op .none 10 (.nilS 1)]) <|
  .seq (.seq (.reg false [.op .none 38 (.mv (.t 2)),
    .op .none 39 (.bin .add (.t 38) (.c (.w (.int .i64 1)))),
    .op .none 40 (.mv (.c (.w (.int .i64 0))))]) <|
  .block 0 <|
    .loop <|
      .seq (.reg false [.op .none 41 (.bin .lss (.t 40) (.t 39))]) <|
      .seq (.cond (.t 41)
        (.skip)
        (.exit 0)) <|
      .seq (.block 1 <|
        .seq (.reg false [.op .none 42 (.mv (.t 40)),
          .op .none 11 (.mv (.t 42))]) <|
        .seq (.reg true [.op .none 43 (.ld true 6 (.t 3)),
          .op .none 44 (.mv (.t 1)),
          .op .none 45 (.mv (.t 11)),
          .op .none 46 (.ia 1 (.t 44) (.t 45)),
          .op .none 47 (.ld false 1 (.t 46)),
          .call .none 48 (.f 44) [(.t 43), (.t 47)],
          .call .none 49 (.f 46) [(.t 48)],
          .op .none 12 (.mv (.t 49))]) <|
        .seq (.seq (.reg false [.op .none 50 (.mv (.t 12)),
          .op .none 51 (.len false (.t 50)),
          .op .none 52 (.mv (.c (.w (.int .i64 0))))]) <|
        .block 2 <|
          .loop <|
            .seq (.reg false [.op .none 53 (.bin .lss (.t 52) (.t 51))]) <|
            .seq (.cond (.t 53)
              (.skip)
              (.exit 2)) <|
            .seq (.block 3 <|
              .seq (.reg false [.op .none 54 (.mv (.t 52)),
                .op .none 55 (.ia 1 (.t 50) (.t 52)),
                .op .none 56 (.ld false 1 (.t 55)),
                .op .none 13 (.mv (.t 54)),
                .op .none 14 (.mv (.t 56))]) <|
              .seq (.seq (.reg false [.op .none 57 (.mv (.t 14)),
                .op .none 58 (.bin .lss (.t 57) (.c (.w (.int .i64 0))))]) <|
              .cond (.t 58)
                (.exit 3)
                (.skip)) <|
              .seq (.seq (.reg false [.op .none 59 (.mv (.t 11)),
                .op .none 60 (.bin .eql (.t 59) (.c (.w (.int .i64 0))))]) <|
              .cond (.t 60)
                (.seq (.reg true [.op .none 61 (.mv (.t 12)),
                  .op .none 62 (.mv (.t 13)),
                  .op .none 63 (.ia 1 (.t 61) (.t 62)),
                  .op .none 64 (.ld false 1 (.t 63)),
                  .op .none 65 (.fa 1 (.t 3)),
                  .op .none 66 (.ld false 1 (.t 65)),
                  .op .none 67 (.mv (.t 13)),
                  .op .none 68 (.ia 1 (.t 66) (.t 67)),
                  .op .none 69 (.ld false 1 (.t 68)),
                  .op .none 70 (.bin .add (.t 64) (.t 69)),
                  .op .none 71 (.ia 1 (.t 61) (.t 62)),
                  .store .none false 1 (.t 71) (.t 70)]) <|
                .exit 3)
                (.skip)) <|
              .seq (.reg false [.op .none 15 (.nilS 1)]) <|
              .seq (.seq (.reg false [.op .none 72 (.mv (.t 10)),
                .op .none 73 (.len false (.t 72)),
                .op .none 74 (.mv (.c (.w (.int .i64 0))))]) <|
              .block 4 <|
                .loop <|
                  .seq (.reg false [.op .none 75 (.bin .lss (.t 74) (.t 73))]) <|
                  .seq (.cond (.t 75)
                    (.skip)
                    (.exit 4)) <|
                  .seq (.block 5 <|
                    .seq (.reg false [.op .none 76 (.mv (.t 74)),
                      .op .none 77 (.ia 1 (.t 72) (.t 74)),
                      .op .none 78 (.ld false 1 (.t 77)),
                      .op .none 16 (.mv (.t 76)),
                      .op .none 17 (.mv (.t 78))]) <|
                    .seq (.reg false [.op .none 79 (.mv (.t 17)),
                      .op .none 80 (.bin .geq (.t 79) (.c (.w (.int .i64 0))))]) <|
                    .cond (.t 80)
                      (.reg false [.op .none 81 (.mv (.t 15)),
                        .op .none 82 (.mv (.t 17)),
                        .op .none 83 (.fa 3 (.t 3)),
                        .op .none 84 (.ld false 1 (.t 83)),
                        .op .none 85 (.mv (.t 16)),
                        .op .none 86 (.ia 1 (.t 84) (.t 85)),
                        .op .none 87 (.ld false 1 (.t 86)),
                        .op .none 88 (.mv (.t 13)),
                        .op .none 89 (.ia 1 (.t 87) (.t 88)),
                        .op .none 90 (.ld false 1 (.t 89)),
                        .op .none 91 (.bin .add (.t 82) (.t 90)),
                        .op .none 92 (.buildS false 1 1 false [(.w (.int .i64 0))] [(0, (.t 91))]),
                        .op .none 93 (.app 1 8 (.t 81) (.t 92)),
                        .op .none 15 (.mv (.t 93))])
                      (.skip)) <|
                  .reg false [.op .none 94 (.bin .add (.t 74) (.c (.w (.int .i64 1)))),
                    .op .none 74 (.mv (.t 94))]) <|
              .seq (.reg false [.op .none 96 (.mv (.t 15)),
                .call .none 97 (.f 60) [(.t 96), (.f 61)],
                .op .none 95 (.mv (.t 97)),
                .op .none 98 (.ext (.t 95) 0),
                .op .none 99 (.ext (.t 95) 1),
                .op .none 18 (.mv (.t 98)),
                .op .none 19 (.mv (.t 99))]) <|
              .seq (.reg false [.op .none 100 (.mv (.t 19))]) <|
              .cond (.t 100)
                (.reg false [.op .none 101 (.mv (.t 12)),
                  .op .none 102 (.mv (.t 13)),
                  .op .none 103 (.ia 1 (.t 101) (.t 102)),
                  .op .none 104 (.ld false 1 (.t 103)),
                  .op .none 105 (.mv (.t 18)),
                  .op .none 106 (.bin .add (.t 104) (.t 105)),
                  .op .none 107 (.ia 1 (.t 101) (.t 102)),
                  .store .none false 1 (.t 107) (.t 106)])
                (.reg false [.op .none 108 (.mv (.t 12)),
                  .op .none 109 (.mv (.t 13)),
                  .op .none 110 (.ia 1 (.t 108) (.t 109)),
                  .store .none false 1 (.t 110) (.c (.w (.int .i64 (-1))))])) <|
            .reg false [.op .none 111 (.bin .add (.t 52) (.c (.w (.int .i64 1)))),
              .op .none 52 (.mv (.t 111))]) <|
        .reg false [.op .none 112 (.mv (.t 12)),
          .op .none 10 (.mv (.t 112))]) <|
      .reg false [.op .none 113 (.bin .add (.t 40) (.c (.w (.int .i64 1)))),
        .op .none 40 (.mv (.t 113))]) <|
  .seq (.seq (.reg false [.op .none 114 (.mv (.t 10)),
    .op .none 115 (.len false (.t 114)),
    .op .none 116 (.mv (.c (.w (.int .i64 0))))]) <|
  .block 6 <|
    .loop <|
      .seq (.reg false [.op .none 117 (.bin .lss (.t 116) (.t 115))]) <|
      .seq (.cond (.t 117)
        (.skip)
        (.exit 6)) <|
      .seq (.block 7 <|
        .seq (.reg false [.op .none 118 (.mv (.t 116)),
          .op .none 20 (.mv (.t 118))]) <|
        .seq (.seq (.reg false [.op .none 119 (.mv (.t 10)),
          .op .none 120 (.mv (.t 20)),
          .op .none 121 (.ia 1 (.t 119) (.t 120)),
          .op .none 122 (.ld false 1 (.t 121)),
          .op .none 123 (.bin .lss (.t 122) (.c (.w (.int .i64 0)))),
          .op .none 124 (.mv (.t 123)),
          .op (.some (124, false)) 125 (.mv (.t 9)),
          .op (.some (124, false)) 126 (.mv (.t 2)),
          .op (.some (124, false)) 127 (.ia 1 (.t 125) (.t 126)),
          .op (.some (124, false)) 128 (.ld false 1 (.t 127)),
          .op (.some (124, false)) 129 (.mv (.t 20)),
          .op (.some (124, false)) 130 (.ia 1 (.t 128) (.t 129)),
          .op (.some (124, false)) 131 (.ld false 1 (.t 130)),
          .op (.some (124, false)) 132 (.bin .lss (.t 131) (.c (.w (.int .i64 0)))),
          .op .none 133 (.pick (.t 124) (.c (.w (.bool true))) (.t 132))]) <|
        .cond (.t 133)
          (.seq (.reg false [.op .none 134 (.mv (.t 10)),
            .op .none 135 (.mv (.t 20)),
            .op .none 136 (.ia 1 (.t 134) (.t 135)),
            .store .none false 1 (.t 136) (.c (.w (.int .i64 (-1))))]) <|
          .exit 7)
          (.skip)) <|
        .reg true [.op .none 137 (.mv (.t 10)),
          .op .none 138 (.mv (.t 20)),
          .op .none 139 (.ia 1 (.t 137) (.t 138)),
          .op .none 140 (.ld false 1 (.t 139)),
          .op .none 141 (.mv (.t 9)),
          .op .none 142 (.mv (.t 2)),
          .op .none 143 (.ia 1 (.t 141) (.t 142)),
          .op .none 144 (.ld false 1 (.t 143)),
          .op .none 145 (.mv (.t 20)),
          .op .none 146 (.ia 1 (.t 144) (.t 145)),
          .op .none 147 (.ld false 1 (.t 146)),
          .op .none 148 (.bin .add (.t 140) (.t 147)),
          .op .none 149 (.ia 1 (.t 137) (.t 138)),
          .store .none false 1 (.t 149) (.t 148)]) <|
      .reg false [.op .none 150 (.bin .add (.t 116) (.c (.w (.int .i64 1)))),
        .op .none 116 (.mv (.t 150))]) <|
  .seq (.reg false [.op .none 151 (.mv (.t 10)),
    .op .none 6 (.mv (.t 151)),
    .op .none 7 (.mv (.c (.w (.int .i64 0))))]) <|
  .ret
theorem k24 : FnCode Try.prog 24 [] 152 [6, 7] c24 := ⟨Try.f24, Try.func24, fun xs W => Try.call24 xs W, by kernel_rfl, by kernel_rfl, by kernel_rfl⟩

theorem fokLst (fn : Nat) (hfn : ∀ x : Int, FOk Try.prog fn [.I x] [] (.I x) []) (l : List Int) (hl : l.length ≤ 1000000000) : FOk Try.prog 60 [.v (intsV l), .fn fn []] [] (.tup [.I (oI (lstO none l)), .B (lstO none l).isSome]) [] := by
  refine FOk.val k60 (by simp) (by simp) (by decide) ?_
  simp [c60, intsV]
  refine Run.loopA (ι := Nat × Option Int) [] (fun q => q.1 ≤ l.length ∧ lstO q.2 (l.drop q.1) = lstO none l) (fun q => ⟨[(1, .fn fn []), (6, .I (oI q.2)), (7, .B q.2.isSome), (10, .v (.sl 1 (l.map .i))), (11, .I l.length), (12, .I q.1)], [], 1024⟩) (fun q => l.length - q.1) (0, none) (by decide) (by simp [oI]) ⟨by simp, by simp⟩ ?_
  rintro ⟨i, b⟩ ⟨hi, hall⟩ ih
  simp only at hi hall ih
  by_cases h : i < l.length
  · rw [drop_at h] at hall
    have r1 := hfn l[i]
    generalize hx : l[i] = x at r1 hall
    cases b with
    | none =>
      simp only [lstO] at hall
      simp (disch := omega) [h, hx, wrap_i64]
      exact ih (i + 1, some x) _ ⟨by simp; omega, hall⟩ (by simp; omega) (by simp [oI])
    | some b =>
      have r2 := hfn b
      simp only [lstO] at hall
      simp (disch := omega) [h, hx, wrap_i64, oI]
      refine CallG.lent rfl rfl rfl rfl r1 rfl ?_
      simp (disch := omega) [wrap_i64]
      refine CallG.lent rfl rfl rfl rfl r2 rfl ?_
      by_cases hlt : x < b
      · rw [if_pos hlt] at hall
        have hlt' : ¬ b ≤ x := by omega
        simp (disch := omega) [wrap_i64, hlt, hlt']
        exact ih (i + 1, some x) _ ⟨by simp; omega, hall⟩ (by simp; omega) (by simp [oI])
      · rw [if_neg hlt] at hall
        have hlt' : b ≤ x := by omega
        simp (disch := omega) [wrap_i64, hlt, hlt']
        exact ih (i + 1, some b) _ ⟨by simp; omega, hall⟩ (by simp; omega) (by simp [oI])
  · rw [drop_no h] at hall
    have hall : b = lstO none l := by rw [← hall]; cases b <;> rfl
    subst hall
    simp [h]
    exact Ends.v rfl (by simp)
theorem fok61 (x : Int) : FOk Try.prog 61 [.I x] [] (.I x) [] := by
  refine FOk.val k61 (by simp) (by simp) (by decide) ?_
  simp [c61]
  exact Ends.v rfl (by simp)
theorem fok24 (t : TagT) (l : List Bs) (i : Int) (ht : tagS t) (hl : l.length ≤ 200000000000000) : FOk Try.prog 24 [.v (tagV t), .v (.word l), .I i] [] (.tup [.v (intsV (atF t l i).1), .I (atF t l i).2]) [] := by
  have h1 := fok42 t l ht hl
  have hO := chkF_ok (t := t) (n := l.length)
  have htc2 : tagV t = .st [.word t.1, intsV t.2.1, intsV t.2.2.1, .sl 1 (t.2.2.2.1.map intsV), .sl 2 (t.2.2.2.2.1.map worthV), intsV t.2.2.2.2.2.1] := by
    obtain ⟨G, Fi, Z, P, W, U, uu⟩ := t; rfl
  unfold atF
  generalize chkF t l.length = v at h1 hO ⊢
  generalize hres : (if v ≠ 0 then (([], v) : List Int × Int) else if i < 0 ∨ l.length ≤ i then ([], 4) else (atP t l i.toNat, 0)) = res
  refine FOk.val k24 (by simp) (by simp) (by decide) ?_
  rw [htc2] at h1 ⊢
  simp [c24]
  refine CallG.lent rfl rfl rfl rfl h1 rfl ?_
  by_cases hv : v = 0
  case neg =>
    rw [if_pos hv] at hres
    subst hres
    simp [hv]
    exact Ends.v rfl (by simp [intsV])
  subst hv
  rw [if_neg (by simp)] at hres
  by_cases c1 : i < 0
  · rw [if_pos (.inl c1)] at hres
    subst hres
    simp [c1]
    exact Ends.v rfl (by simp [intsV])
  by_cases c2 : (l.length : Int) ≤ i
  · rw [if_pos (.inr c2)] at hres
    subst hres
    simp [c1, c2]
    exact Ends.v rfl (by simp [intsV])
  rw [if_neg (by omega)] at hres
  obtain ⟨hT, hn⟩ := hO rfl
  obtain ⟨ii, rfl⟩ := Int.eq_ofNat_of_zero_le (show 0 ≤ i by omega)
  simp only [Int.ofNat_eq_natCast, Int.toNat_natCast] at hres
  have hii : ii < l.length := by omega
  have hrest := fok43 t l hT hn
  have hcos := fun w => fok44 t w hT
  have hcr := fun w => costsF_ok hT w
  have hrg := aheadP_rng hT l
  have hg := hT.g
  have hrow := rowsR_at t l (Nat.zero_le ii) hii
  have hrgood := restF_rng hT (l.drop ii) (restAt t l ii) (by
    have := restF_cons t l hii
    unfold restAt
    rw [this]; simp)
  change (rowsR t l 0)[ii]? = some (intsV (restAt t l ii)) at hrow
  rw [htc2] at hrest hcos
  simp [c1, c2]
  refine CallG.plain rfl rfl rfl rfl hrest (by simp) (by simp) ?_
  simp (disch := omega) [wrap_i64]
  refine Run.loopA (ι := Nat) [(1, 3), (2, 10)] (fun p => p ≤ ii + 1) (fun p => ⟨[(1, .v (.word l)), (2, .I ii), (3, .ptr 1 0 0), (9, .v (.sl 1 (rowsR t l 0))), (10, .h 2), (39, .I (ii + 1 : Nat)), (40, .I p)], [(2, ⟨false, 1, (aheadP t l p).map .i⟩), (1, ⟨false, 6, [tagV t]⟩)], 1024⟩) (fun p => ii + 1 - p) 0 (by decide) (by simp [htc2, aheadP]) (by simp) ?_
  rintro p hp ih
  by_cases h : p < ii + 1
  · have hpl : p < l.length := by omega
    have hgd : l.getD p [] = l[p] := by simp [hpl]
    have hnext : aheadP t l (p + 1) = nextP t p (costsF t l[p]) (aheadP t l p) := by rw [← hgd]; rfl
    have hc := hcos l[p]
    have hcl := csB_len (hcr l[p])
    have hcb := csB_rng (hcr l[p])
    have hprev := hrg p
    have hpv : (aheadP t l p).length ≤ t.1.length := by
      cases p with
      | zero => simp [aheadP]
      | succ p => rw [aheadP_len]; exact Nat.le_refl _
    have hpe : p = 0 → (aheadP t l p).length = 0 := by rintro rfl; rfl
    generalize aheadP t l p = prev at hnext hprev hpv hpe
    generalize costsF t l[p] = c at hnext hc hcl hcb
    have hcln := fokO46 c (by omega)
    simp only [intsV] at hcln hc
    have hh : (p : Int) < (ii : Int) + 1 := by omega
    simp (disch := omega) [h, hh, hpl, wrap_i64, htc2]
    refine CallG.plain rfl rfl rfl rfl hc (by simp) (by simp) ?_
    simp (disch := omega) [wrap_i64]
    refine CallG.plain rfl rfl rfl rfl hcln (by simp) (by simp) ?_
    simp
    obtain ⟨f, hf⟩ : ∃ f : Nat → Int, ∀ k, f k = cellP t p c prev k := ⟨_, fun _ => rfl⟩
    have hnf : nextP t p c prev = (List.range t.1.length).map f := by
      unfold nextP; apply List.map_congr_left; intro k _; exact (hf k).symm
    have hm0 := mixL_zero f c
    refine Run.loopA (ι := Nat) [(1, 3), (2, 10), (3, 12)] (fun k => k ≤ t.1.length) (fun k => ⟨[(1, .v (.word l)), (2, .I ii), (3, .ptr 1 0 0), (9, .v (.sl 1 (rowsR t l 0))), (10, .h 2), (11, .I p), (12, .h 3), (39, .I (ii + 1 : Nat)), (40, .I p), (50, .h 3), (51, .I t.1.length), (52, .I k)], [(2, ⟨false, 1, prev.map .i⟩), (3, ⟨false, 1, (mixL f c k).map .i⟩), (1, ⟨false, 6, [tagV t]⟩)], 1024⟩) (fun k => t.1.length - k) 0 (by decide) (by simp [htc2, hm0, hcl]) (by simp) ?_
    rintro k hk ihk
    by_cases hkn : k < t.1.length
    case neg =>
      have hkk : k = t.1.length := by omega
      subst hkk
      simp (disch := omega) [wrap_i64, htc2]
      exact ih (p + 1) _ (by omega) (by omega) (by simp [htc2, hnext, hnf, mixL_end f c hcl])
    have hkc : k < c.length := by omega
    obtain ⟨hm1, hm2⟩ := List.getElem?_eq_some_iff.1 (mixL_at f c hkc)
    have hset := mixL_set f c hkc
    have hsame := mixL_same f c hkc
    have hih := ihk (k + 1)
    simp only at hih
    clear ihk
    generalize mixL f c k = cur at hm1 hm2 hset hsame ⊢
    generalize mixL f c (k + 1) = cur' at hset hsame hih
    have hfk := hf k
    unfold cellP at hfk
    rw [at0_eq hkc] at hfk
    have hckb := hcb _ (List.getElem_mem hkc)
    generalize hck : c[k] = ck at hm2 hsame hfk hckb
    have hset2 : ∀ v, v = f k → (cur.map PV.i).set k (.w (.int .i64 v)) = cur'.map .i := by
      rintro v rfl; rw [← hset, List.map_set]; rfl
    by_cases q1 : ck < 0
    · rw [if_pos q1] at hfk
      have hs := hsame hfk
      simp (disch := omega) [hkn, hm1, hm2, q1, wrap_i64]
      exact hih _ (by omega) (by omega) (by simp [htc2, hs])
    rw [if_neg q1] at hfk
    have q1' : 0 ≤ ck := by omega
    by_cases q2 : p = 0
    · rw [if_pos q2] at hfk
      have hkf : k < t.2.1.length := by have := csB_len hT.f; omega
      have hfb := csB_at hT.f hkn
      rw [at0_eq hkf] at hfk hfb
      generalize hxf : t.2.1[k] = xf at hfk hfb
      have hs := hset2 _ hfk.symm
      simp (disch := omega) [hkn, q1, q1', q2, wrap_i64, htc2, intsV, hkf, hxf, hm1, hm2]
      exact hih _ (by omega) (by omega) (by simp [-List.map_set, htc2, hs, q2, intsV])
    rw [if_neg q2] at hfk
    simp (disch := omega) [hkn, hm1, hm2, q1, q1', q2, wrap_i64]
    refine Run.loopA (ι := Nat) [(1, 3), (2, 10), (3, 12), (4, 15)] (fun b => b ≤ prev.length) (fun b => ⟨[(1, .v (.word l)), (2, .I ii), (3, .ptr 1 0 0), (9, .v (.sl 1 (rowsR t l 0))), (10, .h 2), (11, .I p), (12, .h 3), (13, .I k), (15, .h 4), (39, .I (ii + 1 : Nat)), (40, .I p), (50, .h 3), (51, .I t.1.length), (52, .I k), (72, .h 2), (73, .I prev.length), (74, .I b)], [(4, ⟨false, 1, (waysI t k prev b).map .i⟩), (2, ⟨false, 1, prev.map .i⟩), (3, ⟨false, 1, cur.map .i⟩), (1, ⟨false, 6, [tagV t]⟩)], 1024⟩) (fun b => prev.length - b) 0 (by decide) (by simp [htc2, waysI]) (by simp) ?_
    rintro b hb ihb
    have hwlen := waysI_len t k prev b
    by_cases hbl : b < prev.length
    · have hbx := hprev _ (List.getElem_mem hbl)
      have hbp : b < t.2.2.2.1.length := by rw [hT.pl]; omega
      have hpk := csB_len (hT.p _ (List.getElem_mem hbp))
      have hpr := csB_at (hT.p _ (List.getElem_mem hbp)) hkn
      have hws : waysI t k prev (b + 1) = waysI t k prev b ++ (if 0 ≤ at0 prev b then [at0 prev b + at0 t.2.2.2.1[b] k] else []) := by
        simp only [waysI, pAt2]
        rw [List.getD_eq_getElem?_getD, List.getElem?_eq_getElem hbp, Option.getD_some]
      have hihb := ihb (b + 1)
      simp only at hihb
      clear ihb
      generalize waysI t k prev (b + 1) = ws' at hws hihb
      generalize waysI t k prev b = ws at hws hwlen ⊢
      generalize hpp : t.2.2.2.1[b] = pp at hpk hpr hws
      have hkpp : k < pp.length := by omega
      rw [at0_eq hbl, at0_eq hkpp] at hws
      rw [at0_eq hkpp] at hpr
      generalize hxb : prev[b] = xb at hbx hws
      generalize hxp : pp[k] = xp at hpr hws
      by_cases q3 : 0 ≤ xb
      · rw [if_pos q3] at hws
        have hbb : (ws.length + 1 + 1000) * 8 ≤ 70368744177664 := by omega
        simp (disch := (clear hbb; omega)) [hbl, hxb, q3, wrap_i64, htc2, hbp, hpp, intsV, hkpp, hxp, hbb]
        exact hihb _ (by clear hbb; omega) (by clear hbb; omega) (by simp [htc2, hws, intsV])
      · rw [if_neg q3, List.append_nil] at hws
        simp (disch := omega) [hbl, hxb, q3, wrap_i64, htc2]
        exact hihb _ (by omega) (by omega) (by simp [htc2, hws, intsV])
    · have hbe : b = prev.length := by omega
      subst hbe
      have hwm := waysI_mem hT hkn (B := p * 200000000) (by omega) (fun x hx => (hprev x hx).2) prev.length hpv
      generalize waysI t k prev prev.length = ws at hfk hwlen hwm ⊢
      have hle := fokLst 61 fok61 ws (by omega)
      simp only [intsV] at hle
      simp
      refine CallG.rows [] rfl rfl rfl rfl (by simp) (by simp) hle (by simp) (by simp) ?_
      cases hb2 : (lstO none ws).isSome
      · rw [hb2] at hfk
        simp only [Bool.false_eq_true, if_false] at hfk
        have hs := hset2 _ hfk.symm
        simp (disch := omega) [hb2, wrap_i64, hm1, hm2]
        exact hih _ (by omega) (by omega) (by simp [-List.map_set, htc2, hs])
      · rw [hb2] at hfk
        simp only [if_true] at hfk
        obtain ⟨y, hy⟩ := Option.isSome_iff_exists.1 hb2
        have hyb : 0 ≤ y ∧ y ≤ p * 200000000 + 100000000 := by
          rcases lstO_mem _ _ _ hy with e | e
          · cases e
          · exact hwm y e
        rw [hy] at hfk ⊢
        simp only [oI] at hfk ⊢
        have hs := hset2 _ hfk.symm
        simp (disch := omega) [wrap_i64, hm1, hm2]
        exact hih _ (by omega) (by omega) (by simp [-List.map_set, htc2, hs])
  · have hpi : p = ii + 1 := by omega
    subst hpi
    have hAl := aheadP_len t l ii
    have hAr := hrg (ii + 1)
    have hat : atP t l ii = (List.range t.1.length).map fun k => if at0 (aheadP t l (ii + 1)) k < 0 ∨ at0 (restAt t l ii) k < 0 then -1 else at0 (aheadP t l (ii + 1)) k + at0 (restAt t l ii) k := rfl
    rw [hat] at hres
    generalize aheadP t l (ii + 1) = A at hAl hAr hres ⊢
    generalize restAt t l ii = r at hrow hrgood hres
    obtain ⟨hrl, hrv⟩ := hrgood
    obtain ⟨hro1, hro2⟩ := List.getElem?_eq_some_iff.1 hrow
    have hdl : (l.drop ii).length ≤ 200 := by simp; omega
    obtain ⟨f, hf⟩ : ∃ f : Nat → Int, ∀ k, f k = if at0 A k < 0 ∨ at0 r k < 0 then -1 else at0 A k + at0 r k := ⟨_, fun _ => rfl⟩
    have hrf : (List.range t.1.length).map (fun k => if at0 A k < 0 ∨ at0 r k < 0 then -1 else at0 A k + at0 r k) = (List.range t.1.length).map f := by
      apply List.map_congr_left; intro k _; exact (hf k).symm
    rw [hrf] at hres
    have hm0 := mixL_zero f A
    have hme := mixL_end f A hAl
    simp [hAl]
    refine Run.loopA (ι := Nat) [(1, 10)] (fun k => k ≤ t.1.length) (fun k => ⟨[(2, .I ii), (9, .v (.sl 1 (rowsR t l 0))), (10, .h 1), (115, .I t.1.length), (116, .I k)], [(1, ⟨false, 1, (mixL f A k).map .i⟩)], 1024⟩) (fun k => t.1.length - k) 0 (by decide) (by simp [hm0]) (by simp) ?_
    rintro k hk ihk
    by_cases hkn : k < t.1.length
    case neg =>
      have hkk : k = t.1.length := by omega
      subst hkk
      rw [hme]
      subst hres
      simp
      exact Ends.v rfl (by simp [intsV])
    have hkA : k < A.length := by omega
    have hkr : k < r.length := by omega
    obtain ⟨hm1, hm2⟩ := List.getElem?_eq_some_iff.1 (mixL_at f A hkA)
    have hset := mixL_set f A hkA
    have hih := ihk (k + 1)
    simp only at hih
    clear ihk
    generalize mixL f A k = cur at hm1 hm2 hset ⊢
    generalize mixL f A (k + 1) = cur' at hset hih
    have hfk := hf k
    rw [at0_eq hkA, at0_eq hkr] at hfk
    have hxb := hAr _ (List.getElem_mem hkA)
    have hrb := hrv _ (List.getElem_mem hkr)
    generalize hxa : A[k] = xa at hm2 hfk hxb
    generalize hxr : r[k] = xr at hfk hrb
    have hset2 : ∀ v, v = f k → (cur.map PV.i).set k (.w (.int .i64 v)) = cur'.map .i := by
      rintro v rfl; rw [← hset, List.map_set]; rfl
    by_cases q1 : xa < 0
    · rw [if_pos (.inl q1)] at hfk
      have hs := hset2 _ hfk.symm
      simp (disch := omega) [hkn, hm1, hm2, q1, wrap_i64]
      exact hih _ (by omega) (by omega) (by simp [-List.map_set, hs])
    by_cases q2 : xr < 0
    · rw [if_pos (.inr q2)] at hfk
      have hs := hset2 _ hfk.symm
      simp (disch := omega) [hkn, hm1, hm2, q1, wrap_i64, hro1, hro2, intsV, hkr, hxr, q2]
      exact hih _ (by omega) (by omega) (by simp [-List.map_set, hs])
    rw [if_neg (by omega)] at hfk
    have hs := hset2 _ hfk.symm
    simp (disch := omega) [hkn, hm1, hm2, q1, wrap_i64, hro1, hro2, intsV, hkr, hxr, q2]
    exact hih _ (by omega) (by omega) (by simp [-List.map_set, hs])

end Go.Proofs
