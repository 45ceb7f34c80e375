/- The walk. -/
import Derived.Test.YtphjjlhpepmofaaGreatF4
import Derived.Test.YtphjjlhpepmofaaGreatProg
import Derived.KernelRfl
set_option linter.all false
set_option maxHeartbeats 2000000
namespace Go.Proofs
open Go Go.AM
attribute [local irreducible] Run Ends
/-- (*ablaut/spell.table).by -/
def c74 : MC :=
  .seq (.reg false [.op .none 8 (.mv (.c (.w (.int .i64 0)))),
    .op .none 9 (.mv (.c (.w (.bool false))))]) <|
  .seq (.reg true [.op .none 12 (.mv (.t 2)),
    .op .none 13 (.mv (.t 0)),
    .op .none 14 (.chk (.t 13)),
    .op .none 15 (.fa 5 (.t 14)),
    .op .none 16 (.ld false 1 (.t 15)),
    .op .none 17 (.len false (.t 16)),
    .op .none 18 (.bin .lss (.t 12) (.t 17)),
    .op .none 19 (.mv (.t 3)),
    .op .none 20 (.mv (.t 0)),
    .op .none 21 (.chk (.t 20)),
    .op .none 22 (.fa 6 (.t 21)),
    .op .none 23 (.ld false 1 (.t 22)),
    .op .none 24 (.len false (.t 23)),
    .op .none 25 (.bin .lss (.t 19) (.t 24)),
    .op .none 10 (.mv (.t 18)),
    .op .none 11 (.mv (.t 25))]) <|
  .seq (.block 0 <|
    .seq (.reg true [.op .none 27 (.mv (.t 1)),
      .op .none 28 (.bin .eql (.t 27) (.c (.w (.int .i64 0)))),
      .op .none 29 (.mv (.t 28)),
      .op (.some (29, true)) 30 (.mv (.t 10)),
      .op .none 31 (.pick (.t 29) (.t 30) (.c (.w (.bool false)))),
      .op .none 32 (.mv (.t 31)),
      .op (.some (32, true)) 33 (.mv (.t 11)),
      .op .none 34 (.pick (.t 32) (.t 33) (.c (.w (.bool false)))),
      .op .none 35 (.mv (.t 34)),
      .op (.some (35, true)) 36 (.mv (.t 0)),
      .op (.some (35, true)) 37 (.chk (.t 36)),
      .op (.some (35, true)) 38 (.fa 5 (.t 37)),
      .op (.some (35, true)) 39 (.ld false 1 (.t 38)),
      .op (.some (35, true)) 40 (.mv (.t 2)),
      .op (.some (35, true)) 41 (.ia 1 (.t 39) (.t 40)),
      .op (.some (35, true)) 42 (.ld false 1 (.t 41)),
      .op (.some (35, true)) 43 (.mv (.t 0)),
      .op (.some (35, true)) 44 (.chk (.t 43)),
      .op (.some (35, true)) 45 (.fa 6 (.t 44)),
      .op (.some (35, true)) 46 (.ld false 1 (.t 45)),
      .op (.some (35, true)) 47 (.mv (.t 3)),
      .op (.some (35, true)) 48 (.ia 1 (.t 46) (.t 47)),
      .op (.some (35, true)) 49 (.ld false 1 (.t 48)),
      .op (.some (35, true)) 50 (.bin .eql (.t 42) (.t 49)),
      .op .none 51 (.pick (.t 35) (.t 50) (.c (.w (.bool false)))),
      .op .none 26 (.mv (.t 51))]) <|
    .cond (.t 26)
      (.seq (.reg false [.op .none 52 (.mv (.t 0)),
        .op .none 53 (.mv (.t 2)),
        .op .none 54 (.bin .add (.t 53) (.c (.w (.int .i64 1)))),
        .op .none 55 (.mv (.t 3)),
        .op .none 56 (.bin .add (.t 55) (.c (.w (.int .i64 1)))),
        .op .none 57 (.chk (.t 52)),
        .op .none 58 (.fa 7 (.t 57)),
        .op .none 59 (.iaA 61 61 (.t 58) (.t 54)),
        .op .none 60 (.iaA 61 1 (.t 59) (.t 56)),
        .op .none 61 (.ld false 1 (.t 60)),
        .op .none 8 (.mv (.t 61)),
        .op .none 9 (.mv (.c (.w (.bool true))))]) <|
      .ret)
      (.seq (.reg false [.op .none 63 (.mv (.t 1)),
        .op .none 64 (.bin .eql (.t 63) (.c (.w (.int .i64 1)))),
        .op .none 65 (.mv (.t 64)),
        .op (.some (65, true)) 66 (.mv (.t 10)),
        .op .none 67 (.pick (.t 65) (.t 66) (.c (.w (.bool false)))),
        .op .none 62 (.mv (.t 67))]) <|
      .cond (.t 62)
        (.seq (.reg true [.op .none 68 (.mv (.t 0)),
          .op .none 69 (.chk (.t 68)),
          .op .none 70 (.fa 0 (.t 69)),
          .op .none 71 (.fa 0 (.t 70)),
          .op .none 72 (.ld false 1 (.t 71)),
          .op .none 73 (.mv (.t 0)),
          .op .none 74 (.mv (.t 2)),
          .op .none 75 (.bin .add (.t 74) (.c (.w (.int .i64 1)))),
          .op .none 76 (.mv (.t 3)),
          .op .none 77 (.chk (.t 73)),
          .op .none 78 (.fa 7 (.t 77)),
          .op .none 79 (.iaA 61 61 (.t 78) (.t 75)),
          .op .none 80 (.iaA 61 1 (.t 79) (.t 76)),
          .op .none 81 (.ld false 1 (.t 80)),
          .op .none 82 (.bin .add (.t 72) (.t 81)),
          .op .none 8 (.mv (.t 82)),
          .op .none 9 (.mv (.c (.w (.bool true))))]) <|
        .ret)
        (.seq (.reg false [.op .none 84 (.mv (.t 1)),
          .op .none 85 (.bin .eql (.t 84) (.c (.w (.int .i64 2)))),
          .op .none 86 (.mv (.t 85)),
          .op (.some (86, true)) 87 (.mv (.t 11)),
          .op .none 88 (.pick (.t 86) (.t 87) (.c (.w (.bool false)))),
          .op .none 83 (.mv (.t 88))]) <|
        .cond (.t 83)
          (.seq (.reg true [.op .none 89 (.mv (.t 0)),
            .op .none 90 (.chk (.t 89)),
            .op .none 91 (.fa 0 (.t 90)),
            .op .none 92 (.fa 1 (.t 91)),
            .op .none 93 (.ld false 1 (.t 92)),
            .op .none 94 (.mv (.t 0)),
            .op .none 95 (.mv (.t 2)),
            .op .none 96 (.mv (.t 3)),
            .op .none 97 (.bin .add (.t 96) (.c (.w (.int .i64 1)))),
            .op .none 98 (.chk (.t 94)),
            .op .none 99 (.fa 7 (.t 98)),
            .op .none 100 (.iaA 61 61 (.t 99) (.t 95)),
            .op .none 101 (.iaA 61 1 (.t 100) (.t 97)),
            .op .none 102 (.ld false 1 (.t 101)),
            .op .none 103 (.bin .add (.t 93) (.t 102)),
            .op .none 8 (.mv (.t 103)),
            .op .none 9 (.mv (.c (.w (.bool true))))]) <|
          .ret)
          (.seq (.reg true [.op .none 105 (.mv (.t 1)),
            .op .none 106 (.bin .eql (.t 105) (.c (.w (.int .i64 3)))),
            .op .none 107 (.mv (.t 106)),
            .op (.some (107, true)) 108 (.mv (.t 10)),
            .op .none 109 (.pick (.t 107) (.t 108) (.c (.w (.bool false)))),
            .op .none 110 (.mv (.t 109)),
            .op (.some (110, true)) 111 (.mv (.t 11)),
            .op .none 112 (.pick (.t 110) (.t 111) (.c (.w (.bool false)))),
            .op .none 113 (.mv (.t 112)),
            .op (.some (113, true)) 114 (.mv (.t 0)),
            .op (.some (113, true)) 115 (.chk (.t 114)),
            .op (.some (113, true)) 116 (.fa 5 (.t 115)),
            .op (.some (113, true)) 117 (.ld false 1 (.t 116)),
            .op (.some (113, true)) 118 (.mv (.t 2)),
            .op (.some (113, true)) 119 (.ia 1 (.t 117) (.t 118)),
            .op (.some (113, true)) 120 (.ld false 1 (.t 119)),
            .op (.some (113, true)) 121 (.mv (.t 0)),
            .op (.some (113, true)) 122 (.chk (.t 121)),
            .op (.some (113, true)) 123 (.fa 6 (.t 122)),
            .op (.some (113, true)) 124 (.ld false 1 (.t 123)),
            .op (.some (113, true)) 125 (.mv (.t 3)),
            .op (.some (113, true)) 126 (.ia 1 (.t 124) (.t 125)),
            .op (.some (113, true)) 127 (.ld false 1 (.t 126)),
            .op (.some (113, true)) 128 (.bin .neq (.t 120) (.t 127)),
            .op .none 129 (.pick (.t 113) (.t 128) (.c (.w (.bool false)))),
            .op .none 104 (.mv (.t 129))]) <|
          .cond (.t 104)
            (.seq (.reg true [.op .none 130 (.mv (.t 0)),
              .op .none 131 (.chk (.t 130)),
              .op .none 132 (.fa 0 (.t 131)),
              .op .none 133 (.ld true 5 (.t 132)),
              .op .none 134 (.mv (.t 0)),
              .op .none 135 (.chk (.t 134)),
              .op .none 136 (.fa 5 (.t 135)),
              .op .none 137 (.ld false 1 (.t 136)),
              .op .none 138 (.mv (.t 2)),
              .op .none 139 (.ia 1 (.t 137) (.t 138)),
              .op .none 140 (.ld false 1 (.t 139)),
              .op .none 141 (.mv (.t 0)),
              .op .none 142 (.chk (.t 141)),
              .op .none 143 (.fa 6 (.t 142)),
              .op .none 144 (.ld false 1 (.t 143)),
              .op .none 145 (.mv (.t 3)),
              .op .none 146 (.ia 1 (.t 144) (.t 145)),
              .op .none 147 (.ld false 1 (.t 146)),
              .call .none 148 (.f 99) [(.t 133), (.t 140), (.t 147)],
              .op .none 149 (.mv (.t 0)),
              .op .none 150 (.mv (.t 2)),
              .op .none 151 (.bin .add (.t 150) (.c (.w (.int .i64 1)))),
              .op .none 152 (.mv (.t 3)),
              .op .none 153 (.bin .add (.t 152) (.c (.w (.int .i64 1)))),
              .op .none 154 (.chk (.t 149)),
              .op .none 155 (.fa 7 (.t 154)),
              .op .none 156 (.iaA 61 61 (.t 155) (.t 151)),
              .op .none 157 (.iaA 61 1 (.t 156) (.t 153)),
              .op .none 158 (.ld false 1 (.t 157)),
              .op .none 159 (.bin .add (.t 148) (.t 158)),
              .op .none 8 (.mv (.t 159)),
              .op .none 9 (.mv (.c (.w (.bool true))))]) <|
            .ret)
            (.seq (.reg true [.op .none 161 (.mv (.t 1)),
              .op .none 162 (.bin .eql (.t 161) (.c (.w (.int .i64 4)))),
              .op .none 163 (.mv (.t 162)),
              .op (.some (163, true)) 164 (.mv (.t 0)),
              .op (.some (163, true)) 165 (.chk (.t 164)),
              .op (.some (163, true)) 166 (.fa 0 (.t 165)),
              .op (.some (163, true)) 167 (.fa 2 (.t 166)),
              .op (.some (163, true)) 168 (.ld false 1 (.t 167)),
              .op (.some (163, true)) 169 (.bin .gtr (.t 168) (.c (.w (.int .i64 0)))),
              .op .none 170 (.pick (.t 163) (.t 169) (.c (.w (.bool false)))),
              .op .none 171 (.mv (.t 170)),
              .op (.some (171, true)) 172 (.mv (.t 2)),
              .op (.some (171, true)) 173 (.bin .add (.t 172) (.c (.w (.int .i64 1)))),
              .op (.some (171, true)) 174 (.mv (.t 0)),
              .op (.some (171, true)) 175 (.chk (.t 174)),
              .op (.some (171, true)) 176 (.fa 5 (.t 175)),
              .op (.some (171, true)) 177 (.ld false 1 (.t 176)),
              .op (.some (171, true)) 178 (.len false (.t 177)),
              .op (.some (171, true)) 179 (.bin .lss (.t 173) (.t 178)),
              .op .none 180 (.pick (.t 171) (.t 179) (.c (.w (.bool false)))),
              .op .none 181 (.mv (.t 180)),
              .op (.some (181, true)) 182 (.mv (.t 3)),
              .op (.some (181, true)) 183 (.bin .add (.t 182) (.c (.w (.int .i64 1)))),
              .op (.some (181, true)) 184 (.mv (.t 0)),
              .op (.some (181, true)) 185 (.chk (.t 184)),
              .op (.some (181, true)) 186 (.fa 6 (.t 185)),
              .op (.some (181, true)) 187 (.ld false 1 (.t 186)),
              .op (.some (181, true)) 188 (.len false (.t 187)),
              .op (.some (181, true)) 189 (.bin .lss (.t 183) (.t 188)),
              .op .none 190 (.pick (.t 181) (.t 189) (.c (.w (.bool false)))),
              .op .none 191 (.mv (.t 190)),
              .op (.some (191, true)) 192 (.mv (.t 0)),
              .op (.some (191, true)) 193 (.chk (.t 192)),
              .op (.some (191, true)) 194 (.fa 5 (.t 193)),
              .op (.some (191, true)) 195 (.ld false 1 (.t 194)),
              .op (.some (191, true)) 196 (.mv (.t 2)),
              .op (.some (191, true)) 197 (.ia 1 (.t 195) (.t 196)),
              .op (.some (191, true)) 198 (.ld false 1 (.t 197)),
              .op (.some (191, true)) 199 (.mv (.t 0)),
              .op (.some (191, true)) 200 (.chk (.t 199)),
              .op (.some (191, true)) 201 (.fa 5 (.t 200)),
              .op (.some (191, true)) 202 (.ld false 1 (.t 201)),
              .op (.some (191, true)) 203 (.mv (.t 2)),
              .op (.some (191, true)) 204 (.bin .add (.t 203) (.c (.w (.int .i64 1)))),
              .op (.some (191, true)) 205 (.ia 1 (.t 202) (.t 204)),
              .op (.some (191, true)) 206 (.ld false 1 (.t 205)),
              .op (.some (191, true)) 207 (.bin .neq (.t 198) (.t 206)),
              .op .none 208 (.pick (.t 191) (.t 207) (.c (.w (.bool false)))),
              .op .none 209 (.mv (.t 208)),
              .op (.some (209, true)) 210 (.mv (.t 0)),
              .op (.some (209, true)) 211 (.chk (.t 210)),
              .op (.some (209, true)) 212 (.fa 5 (.t 211)),
              .op (.some (209, true)) 213 (.ld false 1 (.t 212)),
              .op (.some (209, true)) 214 (.mv (.t 2)),
              .op (.some (209, true)) 215 (.ia 1 (.t 213) (.t 214)),
              .op (.some (209, true)) 216 (.ld false 1 (.t 215)),
              .op (.some (209, true)) 217 (.mv (.t 0)),
              .op (.some (209, true)) 218 (.chk (.t 217)),
              .op (.some (209, true)) 219 (.fa 6 (.t 218)),
              .op (.some (209, true)) 220 (.ld false 1 (.t 219)),
              .op (.some (209, true)) 221 (.mv (.t 3)),
              .op (.some (209, true)) 222 (.bin .add (.t 221) (.c (.w (.int .i64 1)))),
              .op (.some (209, true)) 223 (.ia 1 (.t 220) (.t 222)),
              .op (.some (209, true)) 224 (.ld false 1 (.t 223)),
              .op (.some (209, true)) 225 (.bin .eql (.t 216) (.t 224)),
              .op .none 226 (.pick (.t 209) (.t 225) (.c (.w (.bool false)))),
              .op .none 227 (.mv (.t 226)),
              .op (.some (227, true)) 228 (.mv (.t 0)),
              .op (.some (227, true)) 229 (.chk (.t 228)),
              .op (.some (227, true)) 230 (.fa 5 (.t 229)),
              .op (.some (227, true)) 231 (.ld false 1 (.t 230)),
              .op (.some (227, true)) 232 (.mv (.t 2)),
              .op (.some (227, true)) 233 (.bin .add (.t 232) (.c (.w (.int .i64 1)))),
              .op (.some (227, true)) 234 (.ia 1 (.t 231) (.t 233)),
              .op (.some (227, true)) 235 (.ld false 1 (.t 234)),
              .op (.some (227, true)) 236 (.mv (.t 0)),
              .op (.some (227, true)) 237 (.chk (.t 236)),
              .op (.some (227, true)) 238 (.fa 6 (.t 237)),
              .op (.some (227, true)) 239 (.ld false 1 (.t 238)),
              .op (.some (227, true)) 240 (.mv (.t 3)),
              .op (.some (227, true)) 241 (.ia 1 (.t 239) (.t 240)),
              .op (.some (227, true)) 242 (.ld false 1 (.t 241)),
              .op (.some (227, true)) 243 (.bin .eql (.t 235) (.t 242)),
              .op .none 244 (.pick (.t 227) (.t 243) (.c (.w (.bool false)))),
              .op .none 160 (.mv (.t 244))]) <|
            .cond (.t 160)
              (.seq (.reg true [.op .none 245 (.mv (.t 0)),
                .op .none 246 (.chk (.t 245)),
                .op .none 247 (.fa 0 (.t 246)),
                .op .none 248 (.fa 2 (.t 247)),
                .op .none 249 (.ld false 1 (.t 248)),
                .op .none 250 (.mv (.t 0)),
                .op .none 251 (.mv (.t 2)),
                .op .none 252 (.bin .add (.t 251) (.c (.w (.int .i64 2)))),
                .op .none 253 (.mv (.t 3)),
                .op .none 254 (.bin .add (.t 253) (.c (.w (.int .i64 2)))),
                .op .none 255 (.chk (.t 250)),
                .op .none 256 (.fa 7 (.t 255)),
                .op .none 257 (.iaA 61 61 (.t 256) (.t 252)),
                .op .none 258 (.iaA 61 1 (.t 257) (.t 254)),
                .op .none 259 (.ld false 1 (.t 258)),
                .op .none 260 (.bin .add (.t 249) (.t 259)),
                .op .none 8 (.mv (.t 260)),
                .op .none 9 (.mv (.c (.w (.bool true))))]) <|
              .ret)
              (.skip)))))) <|
  .seq (.reg false [.op .none 8 (.mv (.c (.w (.int .i64 0)))),
    .op .none 9 (.mv (.c (.w (.bool false))))]) <|
  .ret
theorem k74 : FnCode Tryz.prog 74 [] 261 [8, 9] c74 := ⟨Tryz.f74, Tryz.func74, fun xs W => Tryz.call74 xs W, by kernel_rfl, by kernel_rfl, by kernel_rfl⟩

/-! The table. -/
def tabC (p : PricesT) (a b : List Bs) (T : List Int) : List PV :=
  .w (.int .i64 p.1) :: .w (.int .i64 p.2.1) :: .w (.int .i64 p.2.2.1) :: .w (.int .i64 p.2.2.2.1) :: .sl 3 (p.2.2.2.2.1.map nearV) :: PV.word a :: PV.word b :: T.map tI
theorem tab_len (p : PricesT) (a b : List Bs) (T : List Int) : (tabC p a b T).length = T.length + 7 := by simp [tabC]
theorem tab_p (p : PricesT) (a b : List Bs) (T : List Int) : (tabC p a b T).take 5 = [.w (.int .i64 p.1), .w (.int .i64 p.2.1), .w (.int .i64 p.2.2.1), .w (.int .i64 p.2.2.2.1), .sl 3 (p.2.2.2.2.1.map nearV)] := rfl
theorem tab_0 (p : PricesT) (a b : List Bs) (T : List Int) : (tabC p a b T)[0]? = some (.w (.int .i64 p.1)) := rfl
theorem tab_1 (p : PricesT) (a b : List Bs) (T : List Int) : (tabC p a b T)[1]? = some (.w (.int .i64 p.2.1)) := rfl
theorem tab_2 (p : PricesT) (a b : List Bs) (T : List Int) : (tabC p a b T)[2]? = some (.w (.int .i64 p.2.2.1)) := rfl
theorem tab_5 (p : PricesT) (a b : List Bs) (T : List Int) : (tabC p a b T)[5]? = some (PV.word a) := rfl
theorem tab_6 (p : PricesT) (a b : List Bs) (T : List Int) : (tabC p a b T)[6]? = some (PV.word b) := rfl
theorem tab_at (p : PricesT) (a b : List Bs) (T : List Int) (i j : Nat) : (tabC p a b T)[7 + i * 61 + j]? = (T[i * 61 + j]?).map tI := by
  have : (tabC p a b T)[7 + i * 61 + j]? = (T.map tI)[i * 61 + j]? := by
    rw [show 7 + i * 61 + j = i * 61 + j + 7 by omega]; rfl
  simp [this]
attribute [simp] tab_p tab_0 tab_1 tab_2 tab_5 tab_6 tab_at tab_len tI
def resO : Option Int → AV
  | none => .tup [.I 0, .B false]
  | some c => .tup [.I c, .B true]
set_option maxRecDepth 100000 in
theorem fok74 (p : PricesT) (a b : List Bs) (T : List Int) (kind i j : Nat) (hp : OkP p) (ha : a.length ≤ 60) (hb : b.length ≤ 60) (hT : T.length = 3721) (hk : kind ≤ 4) (hi : i ≤ a.length) (hj : j ≤ b.length)
    (h : ∀ i' j', i ≤ i' → j ≤ j' → (i ≠ i' ∨ j ≠ j') → i' ≤ a.length → j' ≤ b.length → T[i' * 61 + j']? = some (pr p (a.drop i') (b.drop j'))) :
    FOk Tryz.prog 74 [.ptr 0 0 0, .I kind, .I i, .I j] [(0, ⟨false, 3728, [.st (tabC p a b T)]⟩)] (resO (byG p (pr p) kind (a.drop i) (b.drop j))) [(0, ⟨false, 3728, [.st (tabC p a b T)]⟩)] := by
  have h1 := hp.drop; have h2 := hp.put; have h3 := hp.swap
  refine FOk.of k74 1 (by simp) (by decide) (by simp) (by simp) (by intro k e e' g1 g2; rw [g1] at g2; cases g2; rfl) (by decide) ?_
  have hpr := fun i j => pr_bound hp (a.drop i) (b.drop j)
  have hpn := fun i j => pr_nonneg p (a.drop i) (b.drop j)
  simp only [List.length_drop] at hpr
  obtain rfl | rfl | rfl | rfl | rfl : kind = 0 ∨ kind = 1 ∨ kind = 2 ∨ kind = 3 ∨ kind = 4 := by omega
  · by_cases hi' : i < a.length
    · by_cases hj' : j < b.length
      · obtain ⟨hck, hc⟩ := List.getElem?_eq_some_iff.1 (h (i + 1) (j + 1) (by omega) (by omega) (by omega) (by omega) (by omega))
        have hlt : 7 + (i + 1) * 61 + (j + 1) < 3728 := by omega
        have l1 : i + 1 < 61 := by omega
        have l2 : j + 1 < 61 := by omega
        by_cases hab : a[i] = b[j]
        · have e : byG p (pr p) 0 (a.drop i) (b.drop j) = some (pr p (a.drop (i + 1)) (b.drop (j + 1))) := by rw [drop_at hi', drop_at hj']; simp only [byG]; rw [if_pos hab]
          rw [e]
          simp (disch := omega) [c74, wrap_i64, resO, hi', hj', hab, l1, l2, hlt, hc]
          exact Ends.one rfl rfl rfl rfl
        · have e : byG p (pr p) 0 (a.drop i) (b.drop j) = none := by rw [drop_at hi', drop_at hj']; simp only [byG]; rw [if_neg hab]
          rw [e]
          simp (disch := omega) [c74, wrap_i64, resO, hi', hj', hab]
          exact Ends.one rfl rfl rfl rfl
      · have e : byG p (pr p) 0 (a.drop i) (b.drop j) = none := by rw [drop_at hi', drop_no hj']; simp [byG]
        rw [e]
        simp (disch := omega) [c74, wrap_i64, resO, hi', hj']
        exact Ends.one rfl rfl rfl rfl
    · have e : byG p (pr p) 0 (a.drop i) (b.drop j) = none := by rw [drop_no hi']; simp [byG]
      rw [e]
      simp (disch := omega) [c74, wrap_i64, resO, hi']
      exact Ends.one rfl rfl rfl rfl
  · by_cases hi' : i < a.length
    · obtain ⟨hck, hc⟩ := List.getElem?_eq_some_iff.1 (h (i + 1) j (by omega) (by omega) (by omega) (by omega) (by omega))
      have hlt : 7 + (i + 1) * 61 + j < 3728 := by omega
      have l1 : i + 1 < 61 := by omega
      have l2 : j < 61 := by omega
      have e : byG p (pr p) 1 (a.drop i) (b.drop j) = some (p.1 + pr p (a.drop (i + 1)) (b.drop j)) := by rw [drop_at hi']; simp only [byG]
      rw [e]
      have q1 := hpr (i + 1) j
      have q2 := hpn (i + 1) j
      simp (disch := omega) [c74, wrap_i64, resO, hi', l1, l2, hlt, hc]
      exact Ends.one rfl rfl rfl rfl
    · have e : byG p (pr p) 1 (a.drop i) (b.drop j) = none := by rw [drop_no hi']; simp [byG]
      rw [e]
      simp (disch := omega) [c74, wrap_i64, resO, hi']
      exact Ends.one rfl rfl rfl rfl
  · by_cases hj' : j < b.length
    · obtain ⟨hck, hc⟩ := List.getElem?_eq_some_iff.1 (h i (j + 1) (by omega) (by omega) (by omega) (by omega) (by omega))
      have hlt : 7 + i * 61 + (j + 1) < 3728 := by omega
      have l1 : i < 61 := by omega
      have l2 : j + 1 < 61 := by omega
      have e : byG p (pr p) 2 (a.drop i) (b.drop j) = some (p.2.1 + pr p (a.drop i) (b.drop (j + 1))) := by rw [drop_at hj']; simp only [byG]
      rw [e]
      have q1 := hpr i (j + 1)
      have q2 := hpn i (j + 1)
      simp (disch := omega) [c74, wrap_i64, resO, hj', l1, l2, hlt, hc]
      exact Ends.one rfl rfl rfl rfl
    · have e : byG p (pr p) 2 (a.drop i) (b.drop j) = none := by rw [drop_no hj']; simp [byG]
      rw [e]
      simp (disch := omega) [c74, wrap_i64, resO, hj']
      exact Ends.one rfl rfl rfl rfl
  · by_cases hi' : i < a.length
    · by_cases hj' : j < b.length
      · obtain ⟨hck, hc⟩ := List.getElem?_eq_some_iff.1 (h (i + 1) (j + 1) (by omega) (by omega) (by omega) (by omega) (by omega))
        have hlt : 7 + (i + 1) * 61 + (j + 1) < 3728 := by omega
        have l1 : i + 1 < 61 := by omega
        have l2 : j + 1 < 61 := by omega
        by_cases hab : a[i] = b[j]
        · have e : byG p (pr p) 3 (a.drop i) (b.drop j) = none := by rw [drop_at hi', drop_at hj']; simp only [byG]; rw [if_pos hab]
          rw [e]
          simp (disch := omega) [c74, wrap_i64, resO, hi', hj', hab]
          exact Ends.one rfl rfl rfl rfl
        · have e : byG p (pr p) 3 (a.drop i) (b.drop j) = some (chg p a[i] b[j] + pr p (a.drop (i + 1)) (b.drop (j + 1))) := by rw [drop_at hi', drop_at hj']; simp only [byG]; rw [if_neg hab]
          rw [e]
          have q1 := hpr (i + 1) (j + 1)
          have q2 := hpn (i + 1) (j + 1)
          have q3 := hp.chg a[i] b[j]
          have hn := fok99 p a[i] b[j] hp
          rw [hp.near hab] at hn
          simp (disch := omega) [c74, wrap_i64, resO, hi', hj', hab, l1, l2, hlt, hc]
          refine CallG.lent rfl rfl rfl rfl hn rfl ?_
          simp (disch := omega) [c74, wrap_i64, resO, hi', hj', hab, l1, l2, hlt, hc]
          exact Ends.one rfl rfl rfl rfl
      · have e : byG p (pr p) 3 (a.drop i) (b.drop j) = none := by rw [drop_at hi', drop_no hj']; simp [byG]
        rw [e]
        simp (disch := omega) [c74, wrap_i64, resO, hi', hj']
        exact Ends.one rfl rfl rfl rfl
    · have e : byG p (pr p) 3 (a.drop i) (b.drop j) = none := by rw [drop_no hi']; simp [byG]
      rw [e]
      simp (disch := omega) [c74, wrap_i64, resO, hi']
      exact Ends.one rfl rfl rfl rfl
  · by_cases h0 : 0 < p.2.2.1
    · by_cases hi' : i + 1 < a.length
      · by_cases hj' : j + 1 < b.length
        · have hi0 : i < a.length := by omega
          have hj0 : j < b.length := by omega
          have ea : a.drop i = a[i] :: a[i + 1] :: a.drop (i + 2) := by rw [drop_at hi0, drop_at hi']
          have eb : b.drop j = b[j] :: b[j + 1] :: b.drop (j + 2) := by rw [drop_at hj0, drop_at hj']
          obtain ⟨hck, hc⟩ := List.getElem?_eq_some_iff.1 (h (i + 2) (j + 2) (by omega) (by omega) (by omega) (by omega) (by omega))
          have hlt : 7 + (i + 2) * 61 + (j + 2) < 3728 := by omega
          have l1 : i + 2 < 61 := by omega
          have l2 : j + 2 < 61 := by omega
          have q1 := hpr (i + 2) (j + 2)
          have q2 := hpn (i + 2) (j + 2)
          by_cases c1 : a[i] = a[i + 1]
          · have e : byG p (pr p) 4 (a.drop i) (b.drop j) = none := by rw [ea, eb]; simp only [byG]; rw [if_neg (fun q => q.2.1 c1)]
            rw [e]
            simp (disch := omega) [c74, wrap_i64, resO, h0, hi', hj', hi0, hj0, c1]
            exact Ends.one rfl rfl rfl rfl
          · by_cases c2 : a[i] = b[j + 1]
            · by_cases c3 : a[i + 1] = b[j]
              · have e : byG p (pr p) 4 (a.drop i) (b.drop j) = some (p.2.2.1 + pr p (a.drop (i + 2)) (b.drop (j + 2))) := by
                  rw [ea, eb]; simp only [byG]; rw [if_pos ⟨h0, c1, c2, c3⟩]
                rw [e]
                rw [c2, c3] at c1
                simp (disch := omega) [c74, wrap_i64, resO, h0, hi', hj', hi0, hj0, c1, c2, c3, l1, l2, hlt, hc]
                exact Ends.one rfl rfl rfl rfl
              · have e : byG p (pr p) 4 (a.drop i) (b.drop j) = none := by rw [ea, eb]; simp only [byG]; rw [if_neg (fun q => c3 q.2.2.2)]
                rw [e]
                rw [c2] at c1
                simp (disch := omega) [c74, wrap_i64, resO, h0, hi', hj', hi0, hj0, c1, c2, c3]
                exact Ends.one rfl rfl rfl rfl
            · have e : byG p (pr p) 4 (a.drop i) (b.drop j) = none := by rw [ea, eb]; simp only [byG]; rw [if_neg (fun q => c2 q.2.2.1)]
              rw [e]
              simp (disch := omega) [c74, wrap_i64, resO, h0, hi', hj', hi0, hj0, c1, c2]
              exact Ends.one rfl rfl rfl rfl
        · have e : byG p (pr p) 4 (a.drop i) (b.drop j) = none := by
            have hl : (b.drop j).length ≤ 1 := by simp; omega
            match b.drop j, hl with
            | [], _ => cases a.drop i <;> simp [byG]
            | [y], _ => rcases a.drop i with _ | ⟨x, _ | ⟨x2, w⟩⟩ <;> simp [byG]
          rw [e]
          simp (disch := omega) [c74, wrap_i64, resO, h0, hi', hj']
          exact Ends.one rfl rfl rfl rfl
      · have e : byG p (pr p) 4 (a.drop i) (b.drop j) = none := by
          have hl : (a.drop i).length ≤ 1 := by simp; omega
          match a.drop i, hl with
          | [], _ => simp [byG]
          | [y], _ => simp [byG]
        rw [e]
        simp (disch := omega) [c74, wrap_i64, resO, h0, hi']
        exact Ends.one rfl rfl rfl rfl
    · have e : byG p (pr p) 4 (a.drop i) (b.drop j) = none := by
        rcases a.drop i with _ | ⟨x, _ | ⟨x2, w⟩⟩ <;> rcases b.drop j with _ | ⟨y, _ | ⟨y2, v⟩⟩ <;> simp [byG, h0]
      rw [e]
      simp (disch := omega) [c74, wrap_i64, resO, h0]
      exact Ends.one rfl rfl rfl rfl

end Go.Proofs
