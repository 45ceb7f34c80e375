/- The walk. -/
import Derived.Test.YtlhpjeckaepdlaaSc2
import Derived.Test.YtlhpjeckaepdlaaSb4
import Derived.Test.YtlhpjeckaepdlaaProg
import Derived.KernelRfl
set_option linter.all false
set_option maxHeartbeats 2000000
namespace Go.Proofs
open Go Go.AM
attribute [local irreducible] Run Ends
/-- slices.symMergeCmpFunc[ablaut/api.Paid] -/
def c116 : MC :=
  .seq (.seq (.reg false [.op .none 25 (.mv (.t 2)),
    .op .none 26 (.mv (.t 1)),
    .op .none 27 (.bin .sub (.t 25) (.t 26)),
    .op .none 28 (.bin .eql (.t 27) (.c (.w (.int .i64 1))))]) <|
  .cond (.t 28)
    (.seq (.reg false [.op .none 29 (.mv (.t 2)),
      .op .none 10 (.mv (.t 29))]) <|
    .seq (.reg false [.op .none 30 (.mv (.t 3)),
      .op .none 11 (.mv (.t 30))]) <|
    .seq (.block 0 <|
      .loop <|
        .seq (.seq (.reg false [.op .none 31 (.mv (.t 10)),
          .op .none 32 (.mv (.t 11)),
          .op .none 33 (.bin .lss (.t 31) (.t 32))]) <|
        .cond (.t 33)
          (.skip)
          (.exit 0)) <|
        .block 1 <|
          .seq (.reg false [.op .none 34 (.mv (.t 10)),
            .op .none 35 (.mv (.t 11)),
            .op .none 36 (.bin .add (.t 34) (.t 35)),
            .op .none 37 (.conv .u64 (.t 36)),
            .op .none 38 (.bin .shr (.t 37) (.c (.w (.int .u64 1)))),
            .op .none 39 (.conv .i64 (.t 38)),
            .op .none 12 (.mv (.t 39))]) <|
          .seq (.reg true [.op .none 40 (.mv (.t 4)),
            .op .none 41 (.mv (.t 0)),
            .op .none 42 (.mv (.t 12)),
            .op .none 43 (.ia 2 (.t 41) (.t 42)),
            .op .none 44 (.ld true 2 (.t 43)),
            .op .none 45 (.mv (.t 0)),
            .op .none 46 (.mv (.t 1)),
            .op .none 47 (.ia 2 (.t 45) (.t 46)),
            .op .none 48 (.ld true 2 (.t 47)),
            .call .none 49 (.t 40) [(.t 44), (.t 48)],
            .op .none 50 (.bin .lss (.t 49) (.c (.w (.int .i64 0))))]) <|
          .cond (.t 50)
            (.reg false [.op .none 51 (.mv (.t 12)),
              .op .none 52 (.bin .add (.t 51) (.c (.w (.int .i64 1)))),
              .op .none 10 (.mv (.t 52))])
            (.reg false [.op .none 53 (.mv (.t 12)),
              .op .none 11 (.mv (.t 53))])) <|
    .seq (.seq (.reg false [.op .none 54 (.mv (.t 1)),
      .op .none 13 (.mv (.t 54))]) <|
    .block 2 <|
      .loop <|
        .seq (.seq (.reg false [.op .none 55 (.mv (.t 13)),
          .op .none 56 (.mv (.t 10)),
          .op .none 57 (.bin .sub (.t 56) (.c (.w (.int .i64 1)))),
          .op .none 58 (.bin .lss (.t 55) (.t 57))]) <|
        .cond (.t 58)
          (.skip)
          (.exit 2)) <|
        .seq (.block 3 <|
          .reg true [.op .none 61 (.mv (.t 0)),
            .op .none 62 (.mv (.t 13)),
            .op .none 63 (.mv (.t 0)),
            .op .none 64 (.mv (.t 13)),
            .op .none 65 (.bin .add (.t 64) (.c (.w (.int .i64 1)))),
            .op .none 66 (.mv (.t 0)),
            .op .none 67 (.mv (.t 13)),
            .op .none 68 (.bin .add (.t 67) (.c (.w (.int .i64 1)))),
            .op .none 69 (.ia 2 (.t 66) (.t 68)),
            .op .none 70 (.ld true 2 (.t 69)),
            .op .none 71 (.mv (.t 0)),
            .op .none 72 (.mv (.t 13)),
            .op .none 73 (.ia 2 (.t 71) (.t 72)),
            .op .none 74 (.ld true 2 (.t 73)),
            .op .none 75 (.ia 2 (.t 61) (.t 62)),
            .store .none true 2 (.t 75) (.t 70),
            .op .none 76 (.ia 2 (.t 63) (.t 65)),
            .store .none true 2 (.t 76) (.t 74)]) <|
        .reg false [.op .none 59 (.mv (.t 13)),
          .op .none 60 (.bin .add (.t 59) (.c (.w (.int .i64 1)))),
          .op .none 13 (.mv (.t 60))]) <|
    .ret)
    (.skip)) <|
  .seq (.seq (.reg false [.op .none 77 (.mv (.t 3)),
    .op .none 78 (.mv (.t 2)),
    .op .none 79 (.bin .sub (.t 77) (.t 78)),
    .op .none 80 (.bin .eql (.t 79) (.c (.w (.int .i64 1))))]) <|
  .cond (.t 80)
    (.seq (.reg false [.op .none 81 (.mv (.t 1)),
      .op .none 14 (.mv (.t 81))]) <|
    .seq (.reg false [.op .none 82 (.mv (.t 2)),
      .op .none 15 (.mv (.t 82))]) <|
    .seq (.block 4 <|
      .loop <|
        .seq (.seq (.reg false [.op .none 83 (.mv (.t 14)),
          .op .none 84 (.mv (.t 15)),
          .op .none 85 (.bin .lss (.t 83) (.t 84))]) <|
        .cond (.t 85)
          (.skip)
          (.exit 4)) <|
        .block 5 <|
          .seq (.reg false [.op .none 86 (.mv (.t 14)),
            .op .none 87 (.mv (.t 15)),
            .op .none 88 (.bin .add (.t 86) (.t 87)),
            .op .none 89 (.conv .u64 (.t 88)),
            .op .none 90 (.bin .shr (.t 89) (.c (.w (.int .u64 1)))),
            .op .none 91 (.conv .i64 (.t 90)),
            .op .none 16 (.mv (.t 91))]) <|
          .seq (.reg true [.op .none 92 (.mv (.t 4)),
            .op .none 93 (.mv (.t 0)),
            .op .none 94 (.mv (.t 2)),
            .op .none 95 (.ia 2 (.t 93) (.t 94)),
            .op .none 96 (.ld true 2 (.t 95)),
            .op .none 97 (.mv (.t 0)),
            .op .none 98 (.mv (.t 16)),
            .op .none 99 (.ia 2 (.t 97) (.t 98)),
            .op .none 100 (.ld true 2 (.t 99)),
            .call .none 101 (.t 92) [(.t 96), (.t 100)],
            .op .none 102 (.bin .lss (.t 101) (.c (.w (.int .i64 0)))),
            .op .none 103 (.un .not (.t 102))]) <|
          .cond (.t 103)
            (.reg false [.op .none 104 (.mv (.t 16)),
              .op .none 105 (.bin .add (.t 104) (.c (.w (.int .i64 1)))),
              .op .none 14 (.mv (.t 105))])
            (.reg false [.op .none 106 (.mv (.t 16)),
              .op .none 15 (.mv (.t 106))])) <|
    .seq (.seq (.reg false [.op .none 107 (.mv (.t 2)),
      .op .none 17 (.mv (.t 107))]) <|
    .block 6 <|
      .loop <|
        .seq (.seq (.reg false [.op .none 108 (.mv (.t 17)),
          .op .none 109 (.mv (.t 14)),
          .op .none 110 (.bin .gtr (.t 108) (.t 109))]) <|
        .cond (.t 110)
          (.skip)
          (.exit 6)) <|
        .seq (.block 7 <|
          .reg true [.op .none 113 (.mv (.t 0)),
            .op .none 114 (.mv (.t 17)),
            .op .none 115 (.mv (.t 0)),
            .op .none 116 (.mv (.t 17)),
            .op .none 117 (.bin .sub (.t 116) (.c (.w (.int .i64 1)))),
            .op .none 118 (.mv (.t 0)),
            .op .none 119 (.mv (.t 17)),
            .op .none 120 (.bin .sub (.t 119) (.c (.w (.int .i64 1)))),
            .op .none 121 (.ia 2 (.t 118) (.t 120)),
            .op .none 122 (.ld true 2 (.t 121)),
            .op .none 123 (.mv (.t 0)),
            .op .none 124 (.mv (.t 17)),
            .op .none 125 (.ia 2 (.t 123) (.t 124)),
            .op .none 126 (.ld true 2 (.t 125)),
            .op .none 127 (.ia 2 (.t 113) (.t 114)),
            .store .none true 2 (.t 127) (.t 122),
            .op .none 128 (.ia 2 (.t 115) (.t 117)),
            .store .none true 2 (.t 128) (.t 126)]) <|
        .reg false [.op .none 111 (.mv (.t 17)),
          .op .none 112 (.bin .sub (.t 111) (.c (.w (.int .i64 1)))),
          .op .none 17 (.mv (.t 112))]) <|
    .ret)
    (.skip)) <|
  .seq (.reg false [.op .none 129 (.mv (.t 1)),
    .op .none 130 (.mv (.t 3)),
    .op .none 131 (.bin .add (.t 129) (.t 130)),
    .op .none 132 (.conv .u64 (.t 131)),
    .op .none 133 (.bin .shr (.t 132) (.c (.w (.int .u64 1)))),
    .op .none 134 (.conv .i64 (.t 133)),
    .op .none 18 (.mv (.t 134))]) <|
  .seq (.reg false [.op .none 135 (.mv (.t 18)),
    .op .none 136 (.mv (.t 2)),
    .op .none 137 (.bin .add (.t 135) (.t 136)),
    .op .none 19 (.mv (.t 137))]) <|
  .seq (.reg false [.op .none 20 (.mv (.c (.w (.int .i64 0)))),
    .op .none 21 (.mv (.c (.w (.int .i64 0))))]) <|
  .seq (.seq (.reg false [.op .none 138 (.mv (.t 2)),
    .op .none 139 (.mv (.t 18)),
    .op .none 140 (.bin .gtr (.t 138) (.t 139))]) <|
  .cond (.t 140)
    (.seq (.reg false [.op .none 141 (.mv (.t 19)),
      .op .none 142 (.mv (.t 3)),
      .op .none 143 (.bin .sub (.t 141) (.t 142)),
      .op .none 20 (.mv (.t 143))]) <|
    .reg false [.op .none 144 (.mv (.t 18)),
      .op .none 21 (.mv (.t 144))])
    (.seq (.reg false [.op .none 145 (.mv (.t 1)),
      .op .none 20 (.mv (.t 145))]) <|
    .reg false [.op .none 146 (.mv (.t 2)),
      .op .none 21 (.mv (.t 146))])) <|
  .seq (.reg false [.op .none 147 (.mv (.t 19)),
    .op .none 148 (.bin .sub (.t 147) (.c (.w (.int .i64 1)))),
    .op .none 22 (.mv (.t 148))]) <|
  .seq (.block 8 <|
    .loop <|
      .seq (.seq (.reg false [.op .none 149 (.mv (.t 20)),
        .op .none 150 (.mv (.t 21)),
        .op .none 151 (.bin .lss (.t 149) (.t 150))]) <|
      .cond (.t 151)
        (.skip)
        (.exit 8)) <|
      .block 9 <|
        .seq (.reg false [.op .none 152 (.mv (.t 20)),
          .op .none 153 (.mv (.t 21)),
          .op .none 154 (.bin .add (.t 152) (.t 153)),
          .op .none 155 (.conv .u64 (.t 154)),
          .op .none 156 (.bin .shr (.t 155) (.c (.w (.int .u64 1)))),
          .op .none 157 (.conv .i64 (.t 156)),
          .op .none 23 (.mv (.t 157))]) <|
        .seq (.reg true [.op .none 158 (.mv (.t 4)),
          .op .none 159 (.mv (.t 0)),
          .op .none 160 (.mv (.t 22)),
          .op .none 161 (.mv (.t 23)),
          .op .none 162 (.bin .sub (.t 160) (.t 161)),
          .op .none 163 (.ia 2 (.t 159) (.t 162)),
          .op .none 164 (.ld true 2 (.t 163)),
          .op .none 165 (.mv (.t 0)),
          .op .none 166 (.mv (.t 23)),
          .op .none 167 (.ia 2 (.t 165) (.t 166)),
          .op .none 168 (.ld true 2 (.t 167)),
          .call .none 169 (.t 158) [(.t 164), (.t 168)],
          .op .none 170 (.bin .lss (.t 169) (.c (.w (.int .i64 0)))),
          .op .none 171 (.un .not (.t 170))]) <|
        .cond (.t 171)
          (.reg false [.op .none 172 (.mv (.t 23)),
            .op .none 173 (.bin .add (.t 172) (.c (.w (.int .i64 1)))),
            .op .none 20 (.mv (.t 173))])
          (.reg false [.op .none 174 (.mv (.t 23)),
            .op .none 21 (.mv (.t 174))])) <|
  .seq (.reg false [.op .none 175 (.mv (.t 19)),
    .op .none 176 (.mv (.t 20)),
    .op .none 177 (.bin .sub (.t 175) (.t 176)),
    .op .none 24 (.mv (.t 177))]) <|
  .seq (.seq (.reg false [.op .none 178 (.mv (.t 20)),
    .op .none 179 (.mv (.t 2)),
    .op .none 180 (.bin .lss (.t 178) (.t 179)),
    .op .none 181 (.mv (.t 180)),
    .op (.some (181, true)) 182 (.mv (.t 2)),
    .op (.some (181, true)) 183 (.mv (.t 24)),
    .op (.some (181, true)) 184 (.bin .lss (.t 182) (.t 183)),
    .op .none 185 (.pick (.t 181) (.t 184) (.c (.w (.bool false))))]) <|
  .cond (.t 185)
    (.reg false [.op .none 186 (.mv (.t 0)),
      .op .none 187 (.mv (.t 20)),
      .op .none 188 (.mv (.t 2)),
      .op .none 189 (.mv (.t 24)),
      .op .none 190 (.mv (.t 4)),
      .call .none 191 (.f 118) [(.t 186), (.t 187), (.t 188), (.t 189), (.t 190)]])
    (.skip)) <|
  .seq (.seq (.reg false [.op .none 192 (.mv (.t 1)),
    .op .none 193 (.mv (.t 20)),
    .op .none 194 (.bin .lss (.t 192) (.t 193)),
    .op .none 195 (.mv (.t 194)),
    .op (.some (195, true)) 196 (.mv (.t 20)),
    .op (.some (195, true)) 197 (.mv (.t 18)),
    .op (.some (195, true)) 198 (.bin .lss (.t 196) (.t 197)),
    .op .none 199 (.pick (.t 195) (.t 198) (.c (.w (.bool false))))]) <|
  .cond (.t 199)
    (.reg false [.op .none 200 (.mv (.t 0)),
      .op .none 201 (.mv (.t 1)),
      .op .none 202 (.mv (.t 20)),
      .op .none 203 (.mv (.t 18)),
      .op .none 204 (.mv (.t 4)),
      .call .none 205 (.f 116) [(.t 200), (.t 201), (.t 202), (.t 203), (.t 204)]])
    (.skip)) <|
  .seq (.reg false [.op .none 206 (.mv (.t 18)),
    .op .none 207 (.mv (.t 24)),
    .op .none 208 (.bin .lss (.t 206) (.t 207)),
    .op .none 209 (.mv (.t 208)),
    .op (.some (209, true)) 210 (.mv (.t 24)),
    .op (.some (209, true)) 211 (.mv (.t 3)),
    .op (.some (209, true)) 212 (.bin .lss (.t 210) (.t 211)),
    .op .none 213 (.pick (.t 209) (.t 212) (.c (.w (.bool false))))]) <|
  .cond (.t 213)
    (.reg false [.op .none 214 (.mv (.t 0)),
      .op .none 215 (.mv (.t 18)),
      .op .none 216 (.mv (.t 24)),
      .op .none 217 (.mv (.t 3)),
      .op .none 218 (.mv (.t 4)),
      .call .none 219 (.f 116) [(.t 214), (.t 215), (.t 216), (.t 217), (.t 218)]])
    (.skip)
theorem k116 : FnCode Try.prog 116 [] 220 [] c116 := ⟨Try.f116, Try.func116, fun xs W => Try.call116 xs W, by kernel_rfl, by kernel_rfl, by kernel_rfl⟩

theorem swp_fact (D : List PaidT) {i j : Nat} (hi : i < D.length) (hj : j < D.length) : ∃ x y z : PaidT, (D.map paidV)[i]? = some (.st [.i x.1, .word x.2.1]) ∧ (D.map paidV)[j]? = some (.st [.i y.1, .word y.2.1]) ∧
    ((D.map paidV).set i (.st [.i y.1, .word y.2.1]))[j]? = some (.st [.i z.1, .word z.2.1]) ∧ ((D.map paidV).set i (.st [.i y.1, .word y.2.1])).set j (.st [.i x.1, .word x.2.1]) = (sw D i j).map paidV := by
  have hv : ∀ x : PaidT, paidV x = .st [.i x.1, .word x.2.1] := fun x => by obtain ⟨a, b, c⟩ := x; rfl
  have g1 := gd_some hi
  have g2 := gd_some hj
  have hset := map_set2 D i j
  obtain ⟨z, hz⟩ : ∃ z, (D.set i (gd D j))[j]? = some z := ⟨_, List.getElem?_eq_getElem (by simpa using hj)⟩
  refine ⟨gd D i, gd D j, z, ?_, ?_, ?_, ?_⟩
  · rw [List.getElem?_map, g1, ← hv]; rfl
  · rw [List.getElem?_map, g2, ← hv]; rfl
  · rw [← hv, ← List.map_set, List.getElem?_map, hz, ← hv]; rfl
  · rw [← hv, ← hv]; exact hset
theorem rd_fact (D : List PaidT) {i : Nat} (hi : i < D.length) : (D.map paidV)[i]? = some (.st [.i (gd D i).1, .word (gd D i).2.1]) := by
  have hv : ∀ x : PaidT, paidV x = .st [.i x.1, .word x.2.1] := fun x => by obtain ⟨a, b, c⟩ := x; rfl
  rw [List.getElem?_map, gd_some hi, ← hv]; rfl
theorem symP_one (P B S : List PaidT) (x : PaidT) (hB : B.Pairwise (fun a b => ¬ cPd b a < 0)) (hD : (P ++ x :: (B ++ S)).length ≤ 1000000) (hB0 : 0 < B.length) :
    FOk Try.prog 116 [.h 0, .I P.length, .I (P.length + 1 : Nat), .I (P.length + 1 + B.length : Nat), .fn 76 []] [(0, ⟨false, 2, (P ++ x :: (B ++ S)).map paidV⟩)] (.tup []) [(0, ⟨false, 2, (P ++ mg cPd [x] B ++ S).map paidV⟩)] := by
  have hcmp := fok76
  have hgx : gd (P ++ x :: (B ++ S)) P.length = x := gd_mid rfl
  have hup := upw_eq (P := P) (S := S) (x := x) B
  have hmg := fun k h1 h2 => mg_up preP (x := x) hB k h1 h2
  have hgl : ∀ k y, (B.take k).getLast? = some y → k ≤ B.length → gd (P ++ x :: (B ++ S)) (P.length + k) = y := fun k y hy hk => by
    have e : P ++ x :: (B ++ S) = (P ++ [x]) ++ B.take k ++ (B.drop k ++ S) := by
      simp only [List.append_assoc, List.cons_append, List.nil_append]
      rw [← List.append_assoc (B.take k), List.take_append_drop]
    rw [e]
    have h0 : 0 < k := by cases k with | zero => simp at hy | succ k => omega
    exact gd_last (i := k - 1) (by simp; omega) hy (by simp; omega)
  have hgh : ∀ k y, (B.drop k).head? = some y → k ≤ B.length → gd (P ++ x :: (B ++ S)) (P.length + 1 + k) = y := fun k y hy hk => by
    have e : P ++ x :: (B ++ S) = (P ++ [x] ++ B.take k) ++ B.drop k ++ S := by
      simp only [List.append_assoc, List.cons_append, List.nil_append]
      rw [← List.append_assoc (B.take k), List.take_append_drop]
    rw [e]
    exact gd_head hy (by simp; omega)
  generalize hDD : P ++ x :: (B ++ S) = D at hD hgx hup hgl hgh ⊢
  have hDl : D.length = P.length + 1 + B.length + S.length := by rw [← hDD]; simp; omega
  clear hDD
  have c1 : ((P.length : Int) + 1) - P.length = 1 := by omega
  refine FOk.of k116 1 (by simp) (by decide) (by simp) (by simp) (by simp [find]; rintro _ _ _ rfl rfl _ rfl; rfl) (by decide) ?_
  simp (disch := omega) [c116, wrap_i64, c1]
  refine Run.loopA (ι := Nat × Nat) [(0, 0)] (fun q => q.1 ≤ q.2 ∧ q.2 ≤ B.length ∧ (q.1 = 0 ∨ cPd (gd D (P.length + q.1)) x < 0) ∧ (q.2 = B.length ∨ ¬ cPd (gd D (P.length + 1 + q.2)) x < 0)) (fun q => ⟨[(0, .h 0), (1, .I P.length), (4, .fn 76 []), (10, .I (P.length + 1 + q.1 : Nat)), (11, .I (P.length + 1 + q.2 : Nat))], [(0, ⟨false, 2, D.map paidV⟩)], 1024⟩) (fun q => q.2 - q.1) (0, B.length) (by decide) (by simp) ⟨by simp, by simp, .inl rfl, .inl rfl⟩ ?_
  rintro ⟨i, j⟩ ⟨hij, hj, hi1, hj1⟩ ih
  simp only at hij hj hi1 hj1 ih
  by_cases h : i < j
  · have he := half_eq (i := P.length + 1 + i) (j := P.length + 1 + j) (by omega)
    have hh : (P.length + 1 + i + (P.length + 1 + j)) / 2 = P.length + 1 + (i + j) / 2 := by omega
    rw [hh] at he
    have hlt : (P.length : Int) + 1 + i < (P.length : Int) + 1 + j := by omega
    generalize hk : (i + j) / 2 = k at he
    have g1 := gd_some (D := D) (i := P.length + 1 + k) (by omega)
    have g2 := gd_some (D := D) (i := P.length) (by omega)
    rw [hgx] at g2
    have hcc := hcmp (gd D (P.length + 1 + k)) x
    have hxv : ∀ x : PaidT, paidV x = .st [.i x.1, .word x.2.1] := fun x => by obtain ⟨a, b, c⟩ := x; rfl
    have hb1 : P.length + 1 + k < D.length := by omega
    have hb2 : P.length < D.length := by omega
    have hgk2 : gd D (P.length + (k + 1)) = gd D (P.length + 1 + k) := by rw [show P.length + (k + 1) = P.length + 1 + k by omega]
    generalize hy : gd D (P.length + 1 + k) = y at g1 hcc hgk2
    obtain ⟨g1a, g1b⟩ := List.getElem?_eq_some_iff.1 g1
    obtain ⟨g2a, g2b⟩ := List.getElem?_eq_some_iff.1 g2
    rw [hxv, hxv] at hcc
    push_cast at he
    have e1 : ((P.length : Int) + 1 + k).toNat = P.length + 1 + k := by omega
    have e2 : (0 : Int) ≤ (P.length : Int) + 1 + k := by omega
    simp (disch := omega) [hlt, h, wrap_i64, wrap_u64, he, e1, e2, g1, g2, g1b, g2b, hxv, hb1, hb2]
    refine CallG.lent rfl rfl rfl rfl hcc rfl ?_
    by_cases q : cPd y x < 0
    · simp (disch := omega) [q, wrap_i64]
      refine ih (k + 1, j) _ ⟨by simp; omega, hj, .inr (by rw [hgk2]; exact q), hj1⟩ (by simp; omega) ?_
      simp
      omega
    · simp (disch := omega) [q, wrap_i64]
      exact ih (i, k) _ ⟨by simp; omega, by simp; omega, hi1, .inr (by rw [hy]; exact q)⟩ (by simp; omega) (by simp)
  have hijj : i = j := by omega
  subst hijj
  have hB1 : mg cPd [x] B = B.take i ++ x :: B.drop i := by
    refine hmg i (fun y hy => ?_) (fun y hy => ?_)
    · have := hgl i y hy hj
      rcases hi1 with h0 | h0
      · subst h0; simp at hy
      · rw [this] at h0; exact h0
    · have := hgh i y hy hj
      rcases hj1 with h0 | h0
      · subst h0; simp at hy
      · rw [this] at h0; exact h0
  have hup1 := hup i hj
  have hfin : P ++ mg cPd [x] B ++ S = upw D P.length i := by rw [hup1, hB1]; simp
  rw [← List.map_append, ← List.map_append, ← List.append_assoc, hfin]
  clear hup hmg hgl hgh
  simp (disch := omega) [wrap_i64]
  refine Run.loopA (ι := Nat) [(0, 0)] (fun n => n ≤ i) (fun n => ⟨[(0, .h 0), (10, .I (P.length + 1 + i : Nat)), (13, .I (P.length + n : Nat))], [(0, ⟨false, 2, (upw D P.length n).map paidV⟩)], 1024⟩) (fun n => i - n) 0 (by decide) (by simp [upw]) (by simp) ?_
  intro n hn ihn
  have hlen := upw_len D P.length n
  have e0 : ((P.length : Int) + 1 + i) - 1 = P.length + i := by omega
  by_cases hni : n < i
  · have hs : upw D P.length (n + 1) = sw (upw D P.length n) (P.length + n) (P.length + n + 1) := rfl
    obtain ⟨x1, y1, z1, g1, g2, g3, g4⟩ := swp_fact (upw D P.length n) (i := P.length + n) (j := P.length + n + 1) (by omega) (by omega)
    rw [← hs] at g4
    generalize upw D P.length n = D1 at hlen g1 g2 g3 g4
    obtain ⟨g1a, g1b⟩ := List.getElem?_eq_some_iff.1 g1
    obtain ⟨g2a, g2b⟩ := List.getElem?_eq_some_iff.1 g2
    simp only [PV.i, PV.word, PV.s, List.getElem?_map, List.length_map] at g1 g2 g3 g4 g1a g2a g1b g2b
    have e1 : ((P.length : Int) + n).toNat = P.length + n := by omega
    have e2 : ((P.length : Int) + n + 1).toNat = P.length + n + 1 := by omega
    have e3 : (0 : Int) ≤ (P.length : Int) + n := by omega
    have e4 : (0 : Int) ≤ (P.length : Int) + n + 1 := by omega
    have hlt : (P.length : Int) + n < P.length + i := by omega
    simp (disch := omega) [e0, hni, hlt, wrap_i64, e1, e2, e3, e4, g1, g2, g3, g1a, g2a, g1b, g2b]
    refine ihn (n + 1) _ (by omega) (by omega) ?_
    simp [← g4]
    omega
  · have hnn : n = i := by omega
    subst hnn
    simp (disch := omega) [e0, wrap_i64]
    exact Ends.one rfl rfl rfl rfl
theorem symP_last (P A S : List PaidT) (x : PaidT) (hA : A.Pairwise (fun a b => ¬ cPd b a < 0)) (hD : (P ++ A ++ x :: S).length ≤ 1000000) (hA0 : 1 < A.length) :
    FOk Try.prog 116 [.h 0, .I P.length, .I (P.length + A.length : Nat), .I (P.length + A.length + 1 : Nat), .fn 76 []] [(0, ⟨false, 2, (P ++ A ++ x :: S).map paidV⟩)] (.tup []) [(0, ⟨false, 2, (P ++ mg cPd A [x] ++ S).map paidV⟩)] := by
  have hcmp := fok76
  have hgx : gd (P ++ A ++ x :: S) (P.length + A.length) = x := gd_mid (by simp)
  have hdn := dnw_eq (P := P) (S := S) (x := x) A
  have hmg := fun k h1 h2 => mg_dn preP (x := x) hA k h1 h2
  have hgl : ∀ k y, (A.take (k + 1)).getLast? = some y → k + 1 ≤ A.length → gd (P ++ A ++ x :: S) (P.length + k) = y := fun k y hy hk => by
    have e : P ++ A ++ x :: S = P ++ A.take (k + 1) ++ (A.drop (k + 1) ++ x :: S) := by
      simp only [List.append_assoc]
      rw [← List.append_assoc (A.take (k + 1)), List.take_append_drop]
    rw [e]
    exact gd_last (i := k) (by simp; omega) hy rfl
  have hgh : ∀ k y, (A.drop k).head? = some y → k ≤ A.length → gd (P ++ A ++ x :: S) (P.length + k) = y := fun k y hy hk => by
    have e : P ++ A ++ x :: S = (P ++ A.take k) ++ A.drop k ++ x :: S := by
      simp only [List.append_assoc]
      rw [← List.append_assoc (A.take k), List.take_append_drop]
    rw [e]
    exact gd_head hy (by simp; omega)
  generalize hDD : P ++ A ++ x :: S = D at hD hgx hdn hgl hgh ⊢
  have hDl : D.length = P.length + A.length + 1 + S.length := by rw [← hDD]; simp; omega
  clear hDD
  have c1 : ¬ ((P.length : Int) + A.length) - P.length = 1 := by omega
  have c2 : ((P.length : Int) + A.length + 1) - (P.length + A.length) = 1 := by omega
  refine FOk.of k116 1 (by simp) (by decide) (by simp) (by simp) (by simp [find]; rintro _ _ _ rfl rfl _ rfl; rfl) (by decide) ?_
  simp (disch := omega) [c116, wrap_i64, c1, c2]
  refine Run.loopA (ι := Nat × Nat) [(0, 0)] (fun q => q.1 ≤ q.2 ∧ q.2 ≤ A.length ∧ (q.1 = 0 ∨ ∃ k, q.1 = k + 1 ∧ ¬ cPd x (gd D (P.length + k)) < 0) ∧ (q.2 = A.length ∨ cPd x (gd D (P.length + q.2)) < 0)) (fun q => ⟨[(0, .h 0), (2, .I (P.length + A.length : Nat)), (4, .fn 76 []), (14, .I (P.length + q.1 : Nat)), (15, .I (P.length + q.2 : Nat))], [(0, ⟨false, 2, D.map paidV⟩)], 1024⟩) (fun q => q.2 - q.1) (0, A.length) (by decide) (by simp) ⟨by simp, by simp, .inl rfl, .inl rfl⟩ ?_
  rintro ⟨i, j⟩ ⟨hij, hj, hi1, hj1⟩ ih
  simp only at hij hj hi1 hj1 ih
  by_cases h : i < j
  · have he := half_eq (i := P.length + i) (j := P.length + j) (by omega)
    have hh : (P.length + i + (P.length + j)) / 2 = P.length + (i + j) / 2 := by omega
    rw [hh] at he
    have hlt : (P.length : Int) + i < (P.length : Int) + j := by omega
    generalize hk : (i + j) / 2 = k at he
    have g1 := gd_some (D := D) (i := P.length + k) (by omega)
    have g2 := gd_some (D := D) (i := P.length + A.length) (by omega)
    rw [hgx] at g2
    have hcc := hcmp x (gd D (P.length + k))
    have hxv : ∀ x : PaidT, paidV x = .st [.i x.1, .word x.2.1] := fun x => by obtain ⟨a, b, c⟩ := x; rfl
    have hb1 : P.length + k < D.length := by omega
    have hb2 : P.length + A.length < D.length := by omega
    generalize hy : gd D (P.length + k) = y at g1 hcc
    obtain ⟨g1a, g1b⟩ := List.getElem?_eq_some_iff.1 g1
    obtain ⟨g2a, g2b⟩ := List.getElem?_eq_some_iff.1 g2
    rw [hxv, hxv] at hcc
    push_cast at he
    have e1 : ((P.length : Int) + k).toNat = P.length + k := by omega
    have e2 : (0 : Int) ≤ (P.length : Int) + k := by omega
    have e3 : ((P.length : Int) + A.length).toNat = P.length + A.length := by omega
    have e4 : (0 : Int) ≤ (P.length : Int) + A.length := by omega
    simp (disch := omega) [hlt, h, wrap_i64, wrap_u64, he, e1, e2, e3, e4, g1, g2, g1b, g2b, hxv, hb1, hb2]
    refine CallG.lent rfl rfl rfl rfl hcc rfl ?_
    by_cases q : cPd x y < 0
    · have q' : ¬ 0 ≤ cPd x y := by omega
      simp (disch := omega) [q, q', wrap_i64]
      exact ih (i, k) _ ⟨by simp; omega, by simp; omega, hi1, .inr (by rw [hy]; exact q)⟩ (by simp; omega) (by simp)
    · have q' : 0 ≤ cPd x y := by omega
      simp (disch := omega) [q, q', wrap_i64]
      refine ih (k + 1, j) _ ⟨by simp; omega, hj, .inr ⟨k, rfl, by rw [hy]; exact q⟩, hj1⟩ (by simp; omega) ?_
      simp
      omega
  have hijj : i = j := by omega
  subst hijj
  have hB1 : mg cPd A [x] = A.take i ++ x :: A.drop i := by
    refine hmg i (fun y hy => ?_) (fun y hy => ?_)
    · have := hgh i y hy hj
      rcases hj1 with h0 | h0
      · subst h0; simp at hy
      · rw [this] at h0; exact h0
    · rcases hi1 with h0 | ⟨k, rfl, h0⟩
      · subst h0; simp at hy
      · have := hgl k y hy hj
        rw [this] at h0; exact h0
  obtain ⟨d, hd⟩ : ∃ d, d = A.length - i := ⟨_, rfl⟩
  have hdn1 := hdn d (by omega)
  have hdi : A.length - d = i := by omega
  rw [hdi] at hdn1
  have hfin : P ++ mg cPd A [x] ++ S = dnw D (P.length + A.length) d := by rw [hdn1, hB1]; simp
  rw [← List.map_append, ← List.map_append, ← List.append_assoc, hfin]
  clear hdn hmg hgl hgh
  simp (disch := omega) [wrap_i64]
  refine Run.loopA (ι := Nat) [(0, 0)] (fun n => n ≤ d) (fun n => ⟨[(0, .h 0), (14, .I (P.length + i : Nat)), (17, .I ((P.length + A.length : Nat) - (n : Int)))], [(0, ⟨false, 2, (dnw D (P.length + A.length) n).map paidV⟩)], 1024⟩) (fun n => d - n) 0 (by decide) (by simp [dnw]) (by simp) ?_
  intro n hn ihn
  have hlen := dnw_len D (P.length + A.length) n
  by_cases hni : n < d
  · have hs : dnw D (P.length + A.length) (n + 1) = sw (dnw D (P.length + A.length) n) (P.length + A.length - n) (P.length + A.length - n - 1) := rfl
    obtain ⟨x1, y1, z1, g1, g2, g3, g4⟩ := swp_fact (dnw D (P.length + A.length) n) (i := P.length + A.length - n) (j := P.length + A.length - n - 1) (by omega) (by omega)
    rw [← hs] at g4
    generalize dnw D (P.length + A.length) n = D1 at hlen g1 g2 g3 g4
    obtain ⟨g1a, g1b⟩ := List.getElem?_eq_some_iff.1 g1
    obtain ⟨g2a, g2b⟩ := List.getElem?_eq_some_iff.1 g2
    simp only [PV.i, PV.word, PV.s, List.getElem?_map, List.length_map] at g1 g2 g3 g4 g1a g2a g1b g2b
    have e1 : ((P.length : Int) + A.length - n).toNat = P.length + A.length - n := by omega
    have e2 : ((P.length : Int) + A.length - n - 1).toNat = P.length + A.length - n - 1 := by omega
    have e3 : (0 : Int) ≤ (P.length : Int) + A.length - n := by omega
    have e4 : (0 : Int) ≤ (P.length : Int) + A.length - n - 1 := by omega
    have hlt : (P.length : Int) + i < (P.length : Int) + A.length - n := by omega
    have e5 : (n : Int) ≤ (P.length : Int) + A.length := by omega
    have e6 : (1 : Int) ≤ (P.length : Int) + A.length - n := by omega
    simp (disch := omega) [hlt, wrap_i64, e1, e2, e3, e4, e5, e6, g1, g2, g3, g1a, g2a, g1b, g2b]
    refine ihn (n + 1) _ (by omega) (by omega) ?_
    simp [← g4]
    omega
  · have hnn : n = d := by omega
    subst hnn
    have hlt : ¬ (P.length : Int) + i < (P.length : Int) + A.length - n := by omega
    have hlt2 : (P.length : Int) + A.length - n ≤ (P.length : Int) + i := by omega
    simp (disch := omega) [hlt, hlt2, wrap_i64]
    exact Ends.one rfl rfl rfl rfl

end Go.Proofs
