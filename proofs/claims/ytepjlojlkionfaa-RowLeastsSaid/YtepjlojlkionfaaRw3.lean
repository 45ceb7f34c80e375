/- The walk. -/
import Derived.Test.YtepjlojlkionfaaRw2
import Derived.Test.YtepjlojlkionfaaRv3
import Derived.Test.YtepjlojlkionfaaProg
import Derived.KernelRfl
set_option linter.all false
set_option maxHeartbeats 2000000
namespace Go.Proofs
open Go Go.AM
attribute [local irreducible] Run Ends
/-- ablaut/ablautlaw19.RowLeasts -/
def c9 : MC :=
  .seq (.reg false [.op .none 3 (.box false (.t 0)),
    .op .none 6 (.mv (.c (.w (.bool false))))]) <|
  .seq (.seq (.reg false [.op .none 29 (.ld true 6 (.t 3)),
    .call .none 30 (.f 12) [(.t 29)],
    .op .none 31 (.mv (.t 30)),
    .op (.some (31, false)) 32 (.mv (.t 1)),
    .call (.some (31, false)) 33 (.f 13) [(.t 32)],
    .op (.some (31, false)) 34 (.bin .gtr (.t 33) (.c (.w (.int .i64 200000)))),
    .op .none 35 (.pick (.t 31) (.c (.w (.bool true))) (.t 34)),
    .op .none 36 (.mv (.t 35)),
    .op (.some (36, false)) 37 (.mv (.t 2)),
    .call (.some (36, false)) 38 (.f 13) [(.t 37)],
    .op (.some (36, false)) 39 (.bin .gtr (.t 38) (.c (.w (.int .i64 200000)))),
    .op .none 40 (.pick (.t 36) (.c (.w (.bool true))) (.t 39))]) <|
  .cond (.t 40)
    (.seq (.reg false [.call .none 41 (.f 14) [],
      .op .none 6 (.mv (.t 41))]) <|
    .ret)
    (.skip)) <|
  .seq (.reg false [.op .none 43 (.ld true 6 (.t 3)),
    .op .none 44 (.mv (.t 1)),
    .call .none 45 (.f 15) [(.t 43), (.t 44)],
    .op .none 42 (.mv (.t 45)),
    .op .none 46 (.ext (.t 42) 0),
    .op .none 47 (.ext (.t 42) 1),
    .op .none 48 (.ext (.t 42) 2),
    .op .none 49 (.ext (.t 42) 3),
    .op .none 7 (.mv (.t 46)),
    .op .none 8 (.mv (.t 47)),
    .op .none 9 (.mv (.t 48)),
    .op .none 10 (.mv (.t 49))]) <|
  .seq (.seq (.reg false [.op .none 50 (.mv (.t 10)),
    .op .none 51 (.bin .neq (.t 50) (.c (.w (.int .i64 0))))]) <|
  .cond (.t 51)
    (.seq (.reg false [.call .none 52 (.f 14) [],
      .op .none 6 (.mv (.t 52))]) <|
    .ret)
    (.skip)) <|
  .seq (.reg false [.op .none 54 (.ld true 6 (.t 3)),
    .op .none 55 (.mv (.t 1)),
    .op .none 56 (.mv (.t 2)),
    .call .none 57 (.f 20) [(.t 54), (.t 55), (.t 56)],
    .op .none 53 (.mv (.t 57)),
    .op .none 58 (.ext (.t 53) 0),
    .op .none 59 (.ext (.t 53) 1),
    .op .none 60 (.ext (.t 53) 2),
    .op .none 11 (.mv (.t 58)),
    .op .none 12 (.mv (.t 59)),
    .op .none 13 (.mv (.t 60))]) <|
  .seq (.seq (.reg false [.op .none 61 (.mv (.t 13)),
    .op .none 62 (.bin .eql (.t 61) (.c (.w (.int .i64 0)))),
    .op .none 63 (.mv (.t 62)),
    .op (.some (63, true)) 64 (.mv (.t 12)),
    .op .none 65 (.pick (.t 63) (.t 64) (.c (.w (.bool false)))),
    .op .none 66 (.mv (.t 65)),
    .op (.some (66, true)) 67 (.mv (.t 9)),
    .op (.some (66, true)) 68 (.un .not (.t 67)),
    .op (.some (66, true)) 69 (.mv (.t 68)),
    .op (.some (69, false)) 70 (.mv (.t 11)),
    .op (.some (69, false)) 71 (.mv (.t 8)),
    .op (.some (69, false)) 72 (.bin .lss (.t 70) (.t 71)),
    .op (.some (66, true)) 73 (.pick (.t 69) (.c (.w (.bool true))) (.t 72)),
    .op .none 74 (.pick (.t 66) (.t 73) (.c (.w (.bool false))))]) <|
  .cond (.t 74)
    (.seq (.reg false [.op .none 6 (.mv (.c (.w (.bool false))))]) <|
    .ret)
    (.skip)) <|
  .seq (.seq (.reg false [.op .none 75 (.mv (.t 9))]) <|
  .cond (.t 75)
    (.seq (.reg false [.op .none 77 (.ld true 6 (.t 3)),
      .op .none 78 (.mv (.t 1)),
      .op .none 79 (.mv (.t 7)),
      .call .none 80 (.f 20) [(.t 77), (.t 78), (.t 79)],
      .op .none 76 (.mv (.t 80)),
      .op .none 81 (.ext (.t 76) 0),
      .op .none 82 (.ext (.t 76) 1),
      .op .none 83 (.ext (.t 76) 2),
      .op .none 14 (.mv (.t 81)),
      .op .none 15 (.mv (.t 82)),
      .op .none 16 (.mv (.t 83))]) <|
    .seq (.reg false [.op .none 84 (.mv (.t 16)),
      .op .none 85 (.bin .neq (.t 84) (.c (.w (.int .i64 0)))),
      .op .none 86 (.mv (.t 85)),
      .op (.some (86, false)) 87 (.mv (.t 15)),
      .op (.some (86, false)) 88 (.un .not (.t 87)),
      .op .none 89 (.pick (.t 86) (.c (.w (.bool true))) (.t 88)),
      .op .none 90 (.mv (.t 89)),
      .op (.some (90, false)) 91 (.mv (.t 14)),
      .op (.some (90, false)) 92 (.mv (.t 8)),
      .op (.some (90, false)) 93 (.bin .neq (.t 91) (.t 92)),
      .op .none 94 (.pick (.t 90) (.c (.w (.bool true))) (.t 93))]) <|
    .cond (.t 94)
      (.seq (.reg false [.op .none 6 (.mv (.c (.w (.bool false))))]) <|
      .ret)
      (.skip))
    (.skip)) <|
  .seq (.reg false [.op .none 96 (.ld true 6 (.t 3)),
    .op .none 97 (.mv (.t 1)),
    .call .none 98 (.f 18) [(.t 96), (.t 97), (.c (.w (.int .i64 3)))],
    .op .none 95 (.mv (.t 98)),
    .op .none 99 (.ext (.t 95) 0),
    .op .none 100 (.ext (.t 95) 1),
    .op .none 101 (.ext (.t 95) 2),
    .op .none 17 (.mv (.t 99)),
    .op .none 18 (.mv (.t 100)),
    .op .none 19 (.mv (.t 101))]) <|
  .seq (.seq (.reg false [.op .none 102 (.mv (.t 19)),
    .op .none 103 (.bin .neq (.t 102) (.c (.w (.int .i64 0)))),
    .op .none 104 (.mv (.t 103)),
    .op (.some (104, false)) 105 (.mv (.t 9)),
    .op (.some (104, false)) 106 (.mv (.t 17)),
    .op (.some (104, false)) 107 (.len false (.t 106)),
    .op (.some (104, false)) 108 (.bin .gtr (.t 107) (.c (.w (.int .i64 0)))),
    .op (.some (104, false)) 109 (.eqb true (.t 105) (.t 108)),
    .op .none 110 (.pick (.t 104) (.c (.w (.bool true))) (.t 109)),
    .op .none 111 (.mv (.t 110)),
    .op (.some (111, false)) 112 (.mv (.t 9)),
    .op (.some (111, false)) 113 (.mv (.t 112)),
    .op (.some (113, true)) 114 (.mv (.t 17)),
    .op (.some (113, true)) 115 (.ia 2 (.t 114) (.c (.w (.int .i64 0)))),
    .op (.some (113, true)) 116 (.fa 0 (.t 115)),
    .op (.some (113, true)) 117 (.ld false 1 (.t 116)),
    .op (.some (113, true)) 118 (.mv (.t 8)),
    .op (.some (113, true)) 119 (.bin .neq (.t 117) (.t 118)),
    .op (.some (113, true)) 120 (.mv (.t 119)),
    .op (.some (120, false)) 121 (.mv (.t 17)),
    .op (.some (120, false)) 122 (.ia 2 (.t 121) (.c (.w (.int .i64 0)))),
    .op (.some (120, false)) 123 (.fa 1 (.t 122)),
    .op (.some (120, false)) 124 (.ld false 1 (.t 123)),
    .op (.some (120, false)) 125 (.mv (.t 7)),
    .call (.some (120, false)) 126 (.f 17) [(.t 124), (.t 125)],
    .op (.some (120, false)) 127 (.un .not (.t 126)),
    .op (.some (113, true)) 128 (.pick (.t 120) (.c (.w (.bool true))) (.t 127)),
    .op (.some (111, false)) 129 (.pick (.t 113) (.t 128) (.c (.w (.bool false)))),
    .op .none 130 (.pick (.t 111) (.c (.w (.bool true))) (.t 129))]) <|
  .cond (.t 130)
    (.seq (.reg false [.op .none 6 (.mv (.c (.w (.bool false))))]) <|
    .ret)
    (.skip)) <|
  .seq (.seq (.reg false [.op .none 20 (.mv (.c (.w (.int .i64 1))))]) <|
  .block 0 <|
    .loop <|
      .seq (.seq (.reg false [.op .none 131 (.mv (.t 20)),
        .op .none 132 (.bin .leq (.t 131) (.c (.w (.int .i64 16))))]) <|
      .cond (.t 132)
        (.skip)
        (.exit 0)) <|
      .seq (.block 1 <|
        .seq (.reg false [.op .none 136 (.ld true 6 (.t 3)),
          .op .none 137 (.mv (.t 1)),
          .op .none 138 (.mv (.t 20)),
          .call .none 139 (.f 27) [(.t 136), (.t 137), (.t 138)],
          .op .none 135 (.mv (.t 139)),
          .op .none 140 (.ext (.t 135) 0),
          .op .none 141 (.ext (.t 135) 1),
          .op .none 142 (.ext (.t 135) 2),
          .op .none 143 (.ext (.t 135) 3),
          .op .none 21 (.mv (.t 140)),
          .op .none 22 (.mv (.t 141)),
          .op .none 23 (.mv (.t 142)),
          .op .none 24 (.mv (.t 143))]) <|
        .seq (.reg false [.op .none 144 (.mv (.t 24)),
          .op .none 145 (.bin .neq (.t 144) (.c (.w (.int .i64 0)))),
          .op .none 146 (.mv (.t 145)),
          .op (.some (146, false)) 147 (.mv (.t 23)),
          .op (.some (146, false)) 148 (.mv (.t 147)),
          .op (.some (148, true)) 149 (.mv (.t 9)),
          .op (.some (148, true)) 150 (.un .not (.t 149)),
          .op (.some (148, true)) 151 (.mv (.t 150)),
          .op (.some (151, false)) 152 (.mv (.t 22)),
          .op (.some (151, false)) 153 (.mv (.t 8)),
          .op (.some (151, false)) 154 (.bin .lss (.t 152) (.t 153)),
          .op (.some (148, true)) 155 (.pick (.t 151) (.c (.w (.bool true))) (.t 154)),
          .op (.some (146, false)) 156 (.pick (.t 148) (.t 155) (.c (.w (.bool false)))),
          .op .none 157 (.pick (.t 146) (.c (.w (.bool true))) (.t 156)),
          .op .none 158 (.mv (.t 157)),
          .op (.some (158, false)) 159 (.mv (.t 20)),
          .op (.some (158, false)) 160 (.bin .eql (.t 159) (.c (.w (.int .i64 16)))),
          .op (.some (158, false)) 161 (.mv (.t 160)),
          .op (.some (161, true)) 162 (.mv (.t 23)),
          .op (.some (161, true)) 163 (.mv (.t 9)),
          .op (.some (161, true)) 164 (.eqb true (.t 162) (.t 163)),
          .op (.some (161, true)) 165 (.mv (.t 164)),
          .op (.some (165, false)) 166 (.mv (.t 22)),
          .op (.some (165, false)) 167 (.mv (.t 8)),
          .op (.some (165, false)) 168 (.bin .neq (.t 166) (.t 167)),
          .op (.some (161, true)) 169 (.pick (.t 165) (.c (.w (.bool true))) (.t 168)),
          .op (.some (158, false)) 170 (.pick (.t 161) (.t 169) (.c (.w (.bool false)))),
          .op .none 171 (.pick (.t 158) (.c (.w (.bool true))) (.t 170))]) <|
        .cond (.t 171)
          (.seq (.reg false [.op .none 6 (.mv (.c (.w (.bool false))))]) <|
          .ret)
          (.skip)) <|
      .reg false [.op .none 133 (.mv (.t 20)),
        .op .none 134 (.bin .add (.t 133) (.c (.w (.int .i64 15)))),
        .op .none 20 (.mv (.t 134))]) <|
  .seq (.seq (.reg false [.op .none 172 (.mv (.t 1)),
    .op .none 173 (.len false (.t 172)),
    .op .none 174 (.bin .gtr (.t 173) (.c (.w (.int .i64 0))))]) <|
  .cond (.t 174)
    (.seq (.reg false [.op .none 176 (.ld true 6 (.t 3)),
      .op .none 177 (.mv (.t 1)),
      .op .none 178 (.mv (.t 1)),
      .op .none 179 (.len false (.t 178)),
      .op .none 180 (.bin .quo (.t 179) (.c (.w (.int .i64 2)))),
      .call .none 181 (.f 24) [(.t 176), (.t 177), (.t 180)],
      .op .none 175 (.mv (.t 181)),
      .op .none 182 (.ext (.t 175) 0),
      .op .none 183 (.ext (.t 175) 1),
      .op .none 25 (.mv (.t 182)),
      .op .none 26 (.mv (.t 183))]) <|
    .seq (.reg false [.op .none 27 (.mv (.c (.w (.int .i64 (-1)))))]) <|
    .seq (.seq (.reg false [.op .none 28 (.mv (.c (.w (.int .i64 0))))]) <|
    .block 2 <|
      .loop <|
        .seq (.seq (.reg false [.op .none 184 (.mv (.t 28)),
          .op .none 185 (.mv (.t 25)),
          .op .none 186 (.len false (.t 185)),
          .op .none 187 (.bin .lss (.t 184) (.t 186))]) <|
        .cond (.t 187)
          (.skip)
          (.exit 2)) <|
        .seq (.block 3 <|
          .seq (.reg false [.op .none 190 (.mv (.t 25)),
            .op .none 191 (.mv (.t 28)),
            .op .none 192 (.ia 1 (.t 190) (.t 191)),
            .op .none 193 (.ld false 1 (.t 192)),
            .op .none 194 (.bin .geq (.t 193) (.c (.w (.int .i64 0)))),
            .op .none 195 (.mv (.t 194)),
            .op (.some (195, true)) 196 (.mv (.t 27)),
            .op (.some (195, true)) 197 (.bin .lss (.t 196) (.c (.w (.int .i64 0)))),
            .op (.some (195, true)) 198 (.mv (.t 197)),
            .op (.some (198, false)) 199 (.mv (.t 25)),
            .op (.some (198, false)) 200 (.mv (.t 28)),
            .op (.some (198, false)) 201 (.ia 1 (.t 199) (.t 200)),
            .op (.some (198, false)) 202 (.ld false 1 (.t 201)),
            .op (.some (198, false)) 203 (.mv (.t 27)),
            .op (.some (198, false)) 204 (.bin .lss (.t 202) (.t 203)),
            .op (.some (195, true)) 205 (.pick (.t 198) (.c (.w (.bool true))) (.t 204)),
            .op .none 206 (.pick (.t 195) (.t 205) (.c (.w (.bool false))))]) <|
          .cond (.t 206)
            (.reg false [.op .none 207 (.mv (.t 25)),
              .op .none 208 (.mv (.t 28)),
              .op .none 209 (.ia 1 (.t 207) (.t 208)),
              .op .none 210 (.ld false 1 (.t 209)),
              .op .none 27 (.mv (.t 210))])
            (.skip)) <|
        .reg false [.op .none 188 (.mv (.t 28)),
          .op .none 189 (.bin .add (.t 188) (.c (.w (.int .i64 1)))),
          .op .none 28 (.mv (.t 189))]) <|
    .seq (.reg false [.op .none 211 (.mv (.t 26)),
      .op .none 212 (.bin .neq (.t 211) (.c (.w (.int .i64 0)))),
      .op .none 213 (.mv (.t 212)),
      .op (.some (213, false)) 214 (.mv (.t 9)),
      .op (.some (213, false)) 215 (.mv (.t 27)),
      .op (.some (213, false)) 216 (.bin .geq (.t 215) (.c (.w (.int .i64 0)))),
      .op (.some (213, false)) 217 (.eqb true (.t 214) (.t 216)),
      .op .none 218 (.pick (.t 213) (.c (.w (.bool true))) (.t 217)),
      .op .none 219 (.mv (.t 218)),
      .op (.some (219, false)) 220 (.mv (.t 9)),
      .op (.some (219, false)) 221 (.mv (.t 220)),
      .op (.some (221, true)) 222 (.mv (.t 27)),
      .op (.some (221, true)) 223 (.mv (.t 8)),
      .op (.some (221, true)) 224 (.bin .neq (.t 222) (.t 223)),
      .op (.some (219, false)) 225 (.pick (.t 221) (.t 224) (.c (.w (.bool false)))),
      .op .none 226 (.pick (.t 219) (.c (.w (.bool true))) (.t 225))]) <|
    .cond (.t 226)
      (.seq (.reg false [.op .none 6 (.mv (.c (.w (.bool false))))]) <|
      .ret)
      (.skip))
    (.skip)) <|
  .seq (.reg false [.call .none 227 (.f 14) [],
    .op .none 6 (.mv (.t 227))]) <|
  .ret
theorem k9 : FnCode Try.prog 9 [] 228 [6] c9 := ⟨Try.f9, Try.func9, fun xs W => Try.call9 xs W, by kernel_rfl, by kernel_rfl, by kernel_rfl⟩

theorem best_err {t : TagT} {l : List Bs} (h : (bestF t l).2.2.2 = 0) : chkF t l.length = 0 := by
  apply Classical.byContradiction
  intro hc
  unfold bestF sevF at h
  rw [if_pos hc] at h
  simp only at h
  rw [if_pos hc] at h
  exact hc h
theorem leasts_walk (t : TagT) (l tags x : List Bs) (n c f : Int) (is can more : Bool) (R : List PV) (bw : Int → List Bs) (b : Int → Int) (ok : Int → Bool) (A : List Int) (y1 : Bool) (y2 y3 : Int)
    (hl : l.length ≤ 200) (hA : A.length ≤ 200) (hR : R.length ≤ 200)
    (h1 : FOk Try.prog 12 [.v (tagV t)] [] (.B y1) []) (h2 : FOk Try.prog 13 [.v (.word l)] [] (.I y2) []) (h3 : FOk Try.prog 13 [.v (.word tags)] [] (.I y3) []) (hk : FOk Try.prog 14 [] [] (.B true) [])
    (r1 : FOk Try.prog 15 [.v (tagV t), .v (.word l)] [] (.tup [.v (.word x), .I n, .B is, .I 0]) [])
    (r2 : FOk Try.prog 20 [.v (tagV t), .v (.word l), .v (.word tags)] [] (.tup [.I c, .B can, .I f]) [])
    (r3 : is = true → FOk Try.prog 20 [.v (tagV t), .v (.word l), .v (.word x)] [] (.tup [.I n, .B true, .I 0]) [])
    (r4 : FOk Try.prog 18 [.v (tagV t), .v (.word l), .I 3] [] (.tup [.v (.sl 2 R), .B more, .I 0]) [])
    (r5 : FOk Try.prog 17 [.v (.word x), .v (.word x)] [] (.B true) [])
    (r6 : ∀ w, 1 ≤ w → w ≤ 16 → FOk Try.prog 27 [.v (tagV t), .v (.word l), .I w] [] (.tup [.v (.word (bw w)), .I (b w), .B (ok w), .I 0]) [])
    (r7 : 0 < l.length → FOk Try.prog 24 [.v (tagV t), .v (.word l), .I ((l.length : Int) / 2)] [] (.tup [.v (intsV A), .I 0]) [])
    (f1 : f = 0 → can = true → is = true ∧ n ≤ c)
    (f3 : (is = true → ∃ R', R = .st [.i n, .word x] :: R') ∧ (is = false → R = []))
    (f4 : ∀ w, 1 ≤ w → w ≤ 16 → ok w = true → is = true ∧ n ≤ b w) (f5 : ok 16 = is ∧ b 16 = n)
    (f6 : 0 < l.length → (is = true → lstI A (-1) = n ∧ 0 ≤ n) ∧ (is = false → lstI A (-1) = -1)) :
    FOk Try.prog 9 [.v (tagV t), .v (.word l), .v (.word tags)] [] (.B true) [] := by
  have htc2 : tagV t = .st [.word t.1, intsV t.2.1, intsV t.2.2.1, .sl 1 (t.2.2.2.1.map intsV), .sl 2 (t.2.2.2.2.1.map worthV), intsV t.2.2.2.2.2.1] := by
    obtain ⟨G, Fi, Z, P, W, U, uu⟩ := t; rfl
  rw [htc2] at h1 r1 r2 r3 r4 r6 r7 ⊢
  refine FOk.val k9 (by simp) (by simp) (by decide) ?_
  simp [c9]
  refine CallG.lent rfl rfl rfl rfl h1 rfl ?_
  cases y1
  case true =>
    simp
    refine CallG.lent rfl rfl rfl rfl hk rfl ?_
    simp
    exact Ends.v rfl (by simp)
  simp
  refine CallG.lent rfl rfl rfl rfl h2 rfl ?_
  by_cases q2 : 200000 < y2
  · have q2' : ¬ y2 ≤ 200000 := by omega
    simp [q2, q2']
    refine CallG.lent rfl rfl rfl rfl hk rfl ?_
    simp
    exact Ends.v rfl (by simp)
  have q2' : y2 ≤ 200000 := by omega
  simp [q2, q2']
  refine CallG.lent rfl rfl rfl rfl h3 rfl ?_
  by_cases q3 : 200000 < y3
  · have q3' : ¬ y3 ≤ 200000 := by omega
    simp [q3, q3']
    refine CallG.lent rfl rfl rfl rfl hk rfl ?_
    simp
    exact Ends.v rfl (by simp)
  have q3' : y3 ≤ 200000 := by omega
  simp [q3, q3']
  refine CallG.plain rfl rfl rfl rfl r1 (by simp) (by simp) ?_
  simp
  refine CallG.lent rfl rfl rfl rfl r2 rfl ?_
  cases is
  case false =>
    have hR0 := f3.2 rfl
    subst hR0
    have hfc : ¬ f = 0 ∨ can = false := by
      by_cases hf : f = 0
      · cases can
        · exact .inr rfl
        · exact absurd (f1 hf rfl).1 (by decide)
      · exact .inl hf
    have hgo : (P : Prop) → (¬ f = 0 → P) → (f = 0 → can = false → P) → P := fun P g1 g2 => by
      by_cases hf : f = 0
      · exact g2 hf (hfc.resolve_left (by simpa using hf))
      · exact g1 hf
    refine hgo _ (fun hf => ?_) (fun hf hcan => ?_)
    case' refine_1 => simp [hf]
    case' refine_2 =>
      subst hf hcan
      simp
    all_goals
      refine CallG.plain rfl rfl rfl rfl r4 (by simp) (by simp) ?_
      simp
      refine Run.loopA (ι := Nat) [(1, 3)] (fun w => w = 1 ∨ w = 16 ∨ w = 31) (fun w => ⟨[(1, .v (.word l)), (3, .ptr 1 0 0), (8, .I n), (9, .B false), (20, .I w)], [(1, ⟨false, 6, [tagV t]⟩)], 1024⟩) (fun w => 40 - w) 1 (by decide) (by simp [htc2]) (by simp) ?_
      rintro w hw ihw
      rcases hw with rfl | rfl | rfl
      · have hb := r6 1 (by decide) (by decide)
        have hf4 := f4 1 (by decide) (by decide)
        simp [htc2]
        generalize bw 1 = wx at hb
        generalize ok 1 = okx at hb hf4
        generalize b 1 = bx at hb hf4
        refine CallG.plain rfl rfl rfl rfl hb (by simp) (by simp) ?_
        cases okx
        · simp (disch := omega) [wrap_i64]
          exact ihw 16 _ (by simp) (by omega) (by simp [htc2])
        · exact absurd (hf4 rfl).1 (by decide)
      · have hb := r6 16 (by decide) (by decide)
        obtain ⟨f5a, f5b⟩ := f5
        rw [f5a, f5b] at hb
        generalize bw 16 = wx at hb
        simp [htc2]
        refine CallG.plain rfl rfl rfl rfl hb (by simp) (by simp) ?_
        simp (disch := omega) [wrap_i64]
        exact ihw 31 _ (by simp) (by omega) (by simp [htc2])
      · skip
        have f6' := f6
        clear ihw
        by_cases hl0 : 0 < l.length
        case neg =>
          have hle : l = [] := List.length_eq_zero_iff.1 (by omega)
          subst hle
          simp [htc2]
          refine CallG.lent rfl rfl rfl rfl hk rfl ?_
          simp
          exact Ends.v rfl (by simp)
        have r7' := r7 hl0
        have hl1 : ¬ l = [] := by intro h; rw [h] at hl0; simp at hl0
        simp (disch := omega) [htc2, hl0, hl1, wrap_i64]
        refine CallG.plain rfl rfl rfl rfl r7' (by simp) (by simp) ?_
        simp
        obtain ⟨f6a, f6b⟩ := f6' hl0
        generalize hlv : lstI A (-1) = lv at f6a f6b
        refine Run.loopA (ι := Nat × Int) [] (fun q => q.1 ≤ A.length ∧ lstI (A.drop q.1) q.2 = lv) (fun q => ⟨[(8, .I n), (9, .B false), (25, .v (intsV A)), (26, .I 0), (27, .I q.2), (28, .I q.1)], [], 1024⟩) (fun q => A.length - q.1) (0, -1) (by decide) (by simp) ⟨by simp, by simpa using hlv⟩ ?_
        rintro ⟨j, m⟩ ⟨hj, hall⟩ ihj
        simp only at hj hall ihj
        by_cases hjA : j < A.length
        · rw [drop_at hjA] at hall
          simp only [lstI] at hall
          generalize hv : A[j] = v at hall
          by_cases q1 : 0 ≤ v
          · by_cases q2 : m < 0
            · rw [if_pos ⟨q1, .inl q2⟩] at hall
              simp (disch := omega) [hjA, hv, q1, q2, wrap_i64, intsV]
              exact ihj (j + 1, v) _ ⟨by simp; omega, hall⟩ (by simp; omega) (by simp [intsV])
            · by_cases q3 : v < m
              · rw [if_pos ⟨q1, .inr q3⟩] at hall
                simp (disch := omega) [hjA, hv, q1, q2, q3, wrap_i64, intsV]
                exact ihj (j + 1, v) _ ⟨by simp; omega, hall⟩ (by simp; omega) (by simp [intsV])
              · rw [if_neg (by omega)] at hall
                simp (disch := omega) [hjA, hv, q1, q2, q3, wrap_i64, intsV]
                exact ihj (j + 1, m) _ ⟨by simp; omega, hall⟩ (by simp; omega) (by simp [intsV])
          · rw [if_neg (by omega)] at hall
            simp (disch := omega) [hjA, hv, q1, wrap_i64, intsV]
            exact ihj (j + 1, m) _ ⟨by simp; omega, hall⟩ (by simp; omega) (by simp [intsV])
        · rw [drop_no hjA] at hall
          simp only [lstI] at hall
          subst hall
          have hm := f6b rfl
          subst hm
          simp [hjA, intsV]
          refine CallG.lent rfl rfl rfl rfl hk rfl ?_
          simp
          exact Ends.v rfl (by simp)
  case true =>
    obtain ⟨R', rfl⟩ := f3.1 rfl
    have r3' := r3 rfl
    have hgo : (P : Prop) → (¬ f = 0 → P) → (f = 0 → can = false → P) → (f = 0 → can = true → n ≤ c → P) → P := fun P g1 g2 g3 => by
      by_cases hf : f = 0
      · cases hcan : can
        · exact g2 hf hcan
        · exact g3 hf hcan (f1 hf hcan).2
      · exact g1 hf
    refine hgo _ (fun hf => ?_) (fun hf hcan => ?_) (fun hf hcan hnc => ?_)
    case' refine_1 => simp [hf]
    case' refine_2 =>
      subst hf hcan
      simp
    case' refine_3 =>
      subst hf hcan
      have hnc' : ¬ c < n := by omega
      simp [hnc, hnc']
    all_goals
      refine CallG.lent rfl rfl rfl rfl r3' rfl ?_
      simp
      refine CallG.plain rfl rfl rfl rfl r4 (by simp) (by simp) ?_
      have hpos : (0 : Int) < (R'.length : Int) + 1 := by omega
      simp [hpos]
      refine CallG.lent rfl rfl rfl rfl r5 rfl ?_
      simp
      refine Run.loopA (ι := Nat) [(1, 3)] (fun w => w = 1 ∨ w = 16 ∨ w = 31) (fun w => ⟨[(1, .v (.word l)), (3, .ptr 1 0 0), (8, .I n), (9, .B true), (20, .I w)], [(1, ⟨false, 6, [tagV t]⟩)], 1024⟩) (fun w => 40 - w) 1 (by decide) (by simp [htc2]) (by simp) ?_
      rintro w hw ihw
      rcases hw with rfl | rfl | rfl
      · have hb := r6 1 (by decide) (by decide)
        have hf4 := f4 1 (by decide) (by decide)
        simp [htc2]
        generalize bw 1 = wx at hb
        generalize ok 1 = okx at hb hf4
        generalize b 1 = bx at hb hf4
        refine CallG.plain rfl rfl rfl rfl hb (by simp) (by simp) ?_
        cases okx
        · simp (disch := omega) [wrap_i64]
          exact ihw 16 _ (by simp) (by omega) (by simp [htc2])
        · have hnb := (hf4 rfl).2
          have hnb' : ¬ bx < n := by omega
          simp (disch := omega) [hnb, hnb', wrap_i64]
          exact ihw 16 _ (by simp) (by omega) (by simp [htc2])
      · have hb := r6 16 (by decide) (by decide)
        obtain ⟨f5a, f5b⟩ := f5
        rw [f5a, f5b] at hb
        generalize bw 16 = wx at hb
        simp [htc2]
        refine CallG.plain rfl rfl rfl rfl hb (by simp) (by simp) ?_
        simp (disch := omega) [wrap_i64]
        exact ihw 31 _ (by simp) (by omega) (by simp [htc2])
      · skip
        have f6' := f6
        clear ihw
        by_cases hl0 : 0 < l.length
        case neg =>
          have hle : l = [] := List.length_eq_zero_iff.1 (by omega)
          subst hle
          simp [htc2]
          refine CallG.lent rfl rfl rfl rfl hk rfl ?_
          simp
          exact Ends.v rfl (by simp)
        have r7' := r7 hl0
        have hl1 : ¬ l = [] := by intro h; rw [h] at hl0; simp at hl0
        simp (disch := omega) [htc2, hl0, hl1, wrap_i64]
        refine CallG.plain rfl rfl rfl rfl r7' (by simp) (by simp) ?_
        simp
        obtain ⟨f6a, f6b⟩ := f6' hl0
        generalize hlv : lstI A (-1) = lv at f6a f6b
        refine Run.loopA (ι := Nat × Int) [] (fun q => q.1 ≤ A.length ∧ lstI (A.drop q.1) q.2 = lv) (fun q => ⟨[(8, .I n), (9, .B true), (25, .v (intsV A)), (26, .I 0), (27, .I q.2), (28, .I q.1)], [], 1024⟩) (fun q => A.length - q.1) (0, -1) (by decide) (by simp) ⟨by simp, by simpa using hlv⟩ ?_
        rintro ⟨j, m⟩ ⟨hj, hall⟩ ihj
        simp only at hj hall ihj
        by_cases hjA : j < A.length
        · rw [drop_at hjA] at hall
          simp only [lstI] at hall
          generalize hv : A[j] = v at hall
          by_cases q1 : 0 ≤ v
          · by_cases q2 : m < 0
            · rw [if_pos ⟨q1, .inl q2⟩] at hall
              simp (disch := omega) [hjA, hv, q1, q2, wrap_i64, intsV]
              exact ihj (j + 1, v) _ ⟨by simp; omega, hall⟩ (by simp; omega) (by simp [intsV])
            · by_cases q3 : v < m
              · rw [if_pos ⟨q1, .inr q3⟩] at hall
                simp (disch := omega) [hjA, hv, q1, q2, q3, wrap_i64, intsV]
                exact ihj (j + 1, v) _ ⟨by simp; omega, hall⟩ (by simp; omega) (by simp [intsV])
              · rw [if_neg (by omega)] at hall
                simp (disch := omega) [hjA, hv, q1, q2, q3, wrap_i64, intsV]
                exact ihj (j + 1, m) _ ⟨by simp; omega, hall⟩ (by simp; omega) (by simp [intsV])
          · rw [if_neg (by omega)] at hall
            simp (disch := omega) [hjA, hv, q1, wrap_i64, intsV]
            exact ihj (j + 1, m) _ ⟨by simp; omega, hall⟩ (by simp; omega) (by simp [intsV])
        · rw [drop_no hjA] at hall
          simp only [lstI] at hall
          subst hall
          obtain ⟨hm, hm0⟩ := f6a rfl
          subst hm
          simp [hjA, intsV, hm0]
          refine CallG.lent rfl rfl rfl rfl hk rfl ?_
          simp
          exact Ends.v rfl (by simp)

end Go.Proofs
