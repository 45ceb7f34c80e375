/- The walk. -/
import Derived.Test.YtepjlojlkionfaaRq6
import Derived.Test.YtepjlojlkionfaaProg
import Derived.KernelRfl
set_option linter.all false
set_option maxHeartbeats 2000000
namespace Go.Proofs
open Go Go.AM
attribute [local irreducible] Run Ends
/-- ablaut/ablautref19.At -/
def c25 : MC :=
  .seq (.reg false [.op .none 3 (.box false (.t 0)),
    .op .none 6 (.nilS 1),
    .op .none 7 (.mv (.c (.w (.int .i64 0))))]) <|
  .seq (.seq (.reg false [.op .none 19 (.ld true 6 (.t 3)),
    .op .none 20 (.mv (.t 1)),
    .call .none 21 (.f 38) [(.t 19), (.t 20)],
    .op .none 8 (.mv (.t 21))]) <|
  .seq (.reg false [.op .none 22 (.mv (.t 8)),
    .op .none 23 (.bin .neq (.t 22) (.c (.w (.int .i64 0))))]) <|
  .cond (.t 23)
    (.seq (.reg false [.op .none 24 (.mv (.t 8)),
      .op .none 6 (.nilS 1),
      .op .none 7 (.mv (.t 24))]) <|
    .ret)
    (.skip)) <|
  .seq (.seq (.reg false [.op .none 25 (.mv (.t 2)),
    .op .none 26 (.bin .lss (.t 25) (.c (.w (.int .i64 0)))),
    .op .none 27 (.mv (.t 26)),
    .op (.some (27, false)) 28 (.mv (.t 2)),
    .op (.some (27, false)) 29 (.mv (.t 1)),
    .op (.some (27, false)) 30 (.len false (.t 29)),
    .op (.some (27, false)) 31 (.bin .geq (.t 28) (.t 30)),
    .op .none 32 (.pick (.t 27) (.c (.w (.bool true))) (.t 31))]) <|
  .cond (.t 32)
    (.seq (.reg false [.op .none 6 (.nilS 1),
      .op .none 7 (.mv (.c (.w (.int .i64 4))))]) <|
    .ret)
    (.skip)) <|
  .seq (.reg false [.op .none 33 (.ld true 6 (.t 3)),
    .op .none 34 (.mv (.t 1)),
    .call .none 35 (.f 62) [(.t 33), (.t 34)],
    .op .none 9 (.mv (.t 35))]) <|
  .seq (.reg false [.op .none 36 (.ld true 6 (.t 3)),
    .op .none 37 (.mv (.t 9)),
    .call .none 38 (.f 63) [(.t 36), (.t 37), (.c (.w (.int .i64 1)))],
    .op .none 10 (.mv (.t 38))]) <|
  .seq (.reg false [.op .none 39 (.fa 0 (.t 3)),
    .op .none 40 (.ld false 1 (.t 39)),
    .op .none 41 (.len false (.t 40)),
    .op .none 42 (.mkS 1 8 false [(.w (.int .i64 0))] (.t 41) (.t 41)),
    .op .none 11 (.mv (.t 42))]) <|
  .seq (.seq (.reg false [.op .none 12 (.mv (.c (.w (.int .i64 0))))]) <|
  .block 0 <|
    .loop <|
      .seq (.seq (.reg false [.op .none 43 (.mv (.t 12)),
        .op .none 44 (.mv (.t 2)),
        .op .none 45 (.bin .leq (.t 43) (.t 44))]) <|
      .cond (.t 45)
        (.skip)
        (.exit 0)) <|
      .seq (.block 1 <|
        .seq (.reg false [.op .none 48 (.fa 0 (.t 3)),
          .op .none 49 (.ld false 1 (.t 48)),
          .op .none 50 (.len false (.t 49)),
          .op .none 51 (.mkS 1 8 false [(.w (.int .i64 0))] (.t 50) (.t 50)),
          .op .none 13 (.mv (.t 51))]) <|
        .seq (.seq (.reg false [.op .none 14 (.mv (.c (.w (.int .i64 0))))]) <|
        .block 2 <|
          .loop <|
            .seq (.seq (.reg false [.op .none 52 (.mv (.t 14)),
              .op .none 53 (.fa 0 (.t 3)),
              .op .none 54 (.ld false 1 (.t 53)),
              .op .none 55 (.len false (.t 54)),
              .op .none 56 (.bin .lss (.t 52) (.t 55))]) <|
            .cond (.t 56)
              (.skip)
              (.exit 2)) <|
            .seq (.block 3 <|
              .seq (.reg false [.op .none 59 (.mv (.t 13)),
                .op .none 60 (.mv (.t 14)),
                .op .none 61 (.ia 1 (.t 59) (.t 60)),
                .store .none false 1 (.t 61) (.c (.w (.int .i64 (-1))))]) <|
              .seq (.seq (.reg false [.op .none 62 (.mv (.t 9)),
                .op .none 63 (.mv (.t 12)),
                .op .none 64 (.ia 1 (.t 62) (.t 63)),
                .op .none 65 (.ld false 1 (.t 64)),
                .op .none 66 (.mv (.t 14)),
                .op .none 67 (.ia 1 (.t 65) (.t 66)),
                .op .none 68 (.ld false 1 (.t 67)),
                .op .none 69 (.bin .lss (.t 68) (.c (.w (.int .i64 0))))]) <|
              .cond (.t 69)
                (.exit 3)
                (.skip)) <|
              .seq (.seq (.reg false [.op .none 70 (.mv (.t 12)),
                .op .none 71 (.bin .eql (.t 70) (.c (.w (.int .i64 0))))]) <|
              .cond (.t 71)
                (.seq (.reg false [.op .none 72 (.mv (.t 13)),
                  .op .none 73 (.mv (.t 14)),
                  .op .none 74 (.fa 1 (.t 3)),
                  .op .none 75 (.ld false 1 (.t 74)),
                  .op .none 76 (.mv (.t 14)),
                  .op .none 77 (.ia 1 (.t 75) (.t 76)),
                  .op .none 78 (.ld false 1 (.t 77)),
                  .op .none 79 (.ia 1 (.t 72) (.t 73)),
                  .store .none false 1 (.t 79) (.t 78)]) <|
                .exit 3)
                (.skip)) <|
              .seq (.reg false [.op .none 15 (.mv (.c (.w (.int .i64 0))))]) <|
              .block 4 <|
                .loop <|
                  .seq (.seq (.reg false [.op .none 80 (.mv (.t 15)),
                    .op .none 81 (.fa 0 (.t 3)),
                    .op .none 82 (.ld false 1 (.t 81)),
                    .op .none 83 (.len false (.t 82)),
                    .op .none 84 (.bin .lss (.t 80) (.t 83))]) <|
                  .cond (.t 84)
                    (.skip)
                    (.exit 4)) <|
                  .seq (.block 5 <|
                    .seq (.seq (.reg false [.op .none 87 (.mv (.t 9)),
                      .op .none 88 (.mv (.t 12)),
                      .op .none 89 (.bin .sub (.t 88) (.c (.w (.int .i64 1)))),
                      .op .none 90 (.ia 1 (.t 87) (.t 89)),
                      .op .none 91 (.ld false 1 (.t 90)),
                      .op .none 92 (.mv (.t 15)),
                      .op .none 93 (.ia 1 (.t 91) (.t 92)),
                      .op .none 94 (.ld false 1 (.t 93)),
                      .op .none 95 (.bin .lss (.t 94) (.c (.w (.int .i64 0)))),
                      .op .none 96 (.mv (.t 95)),
                      .op (.some (96, false)) 97 (.mv (.t 11)),
                      .op (.some (96, false)) 98 (.mv (.t 15)),
                      .op (.some (96, false)) 99 (.ia 1 (.t 97) (.t 98)),
                      .op (.some (96, false)) 100 (.ld false 1 (.t 99)),
                      .op (.some (96, false)) 101 (.bin .lss (.t 100) (.c (.w (.int .i64 0)))),
                      .op .none 102 (.pick (.t 96) (.c (.w (.bool true))) (.t 101))]) <|
                    .cond (.t 102)
                      (.exit 5)
                      (.skip)) <|
                    .seq (.reg true [.op .none 103 (.mv (.t 11)),
                      .op .none 104 (.mv (.t 15)),
                      .op .none 105 (.ia 1 (.t 103) (.t 104)),
                      .op .none 106 (.ld false 1 (.t 105)),
                      .op .none 107 (.mv (.t 9)),
                      .op .none 108 (.mv (.t 12)),
                      .op .none 109 (.bin .sub (.t 108) (.c (.w (.int .i64 1)))),
                      .op .none 110 (.ia 1 (.t 107) (.t 109)),
                      .op .none 111 (.ld false 1 (.t 110)),
                      .op .none 112 (.mv (.t 15)),
                      .op .none 113 (.ia 1 (.t 111) (.t 112)),
                      .op .none 114 (.ld false 1 (.t 113)),
                      .op .none 115 (.bin .add (.t 106) (.t 114)),
                      .op .none 116 (.fa 3 (.t 3)),
                      .op .none 117 (.ld false 1 (.t 116)),
                      .op .none 118 (.mv (.t 15)),
                      .op .none 119 (.ia 1 (.t 117) (.t 118)),
                      .op .none 120 (.ld false 1 (.t 119)),
                      .op .none 121 (.mv (.t 14)),
                      .op .none 122 (.ia 1 (.t 120) (.t 121)),
                      .op .none 123 (.ld false 1 (.t 122)),
                      .op .none 124 (.bin .add (.t 115) (.t 123)),
                      .op .none 16 (.mv (.t 124))]) <|
                    .seq (.reg false [.op .none 125 (.mv (.t 13)),
                      .op .none 126 (.mv (.t 14)),
                      .op .none 127 (.ia 1 (.t 125) (.t 126)),
                      .op .none 128 (.ld false 1 (.t 127)),
                      .op .none 129 (.bin .lss (.t 128) (.c (.w (.int .i64 0)))),
                      .op .none 130 (.mv (.t 129)),
                      .op (.some (130, false)) 131 (.mv (.t 16)),
                      .op (.some (130, false)) 132 (.mv (.t 13)),
                      .op (.some (130, false)) 133 (.mv (.t 14)),
                      .op (.some (130, false)) 134 (.ia 1 (.t 132) (.t 133)),
                      .op (.some (130, false)) 135 (.ld false 1 (.t 134)),
                      .op (.some (130, false)) 136 (.bin .lss (.t 131) (.t 135)),
                      .op .none 137 (.pick (.t 130) (.c (.w (.bool true))) (.t 136))]) <|
                    .cond (.t 137)
                      (.reg false [.op .none 138 (.mv (.t 13)),
                        .op .none 139 (.mv (.t 14)),
                        .op .none 140 (.mv (.t 16)),
                        .op .none 141 (.ia 1 (.t 138) (.t 139)),
                        .store .none false 1 (.t 141) (.t 140)])
                      (.skip)) <|
                  .reg false [.op .none 85 (.mv (.t 15)),
                    .op .none 86 (.bin .add (.t 85) (.c (.w (.int .i64 1)))),
                    .op .none 15 (.mv (.t 86))]) <|
            .reg false [.op .none 57 (.mv (.t 14)),
              .op .none 58 (.bin .add (.t 57) (.c (.w (.int .i64 1)))),
              .op .none 14 (.mv (.t 58))]) <|
        .reg false [.op .none 142 (.mv (.t 13)),
          .op .none 11 (.mv (.t 142))]) <|
      .reg false [.op .none 46 (.mv (.t 12)),
        .op .none 47 (.bin .add (.t 46) (.c (.w (.int .i64 1)))),
        .op .none 12 (.mv (.t 47))]) <|
  .seq (.reg false [.op .none 143 (.fa 0 (.t 3)),
    .op .none 144 (.ld false 1 (.t 143)),
    .op .none 145 (.len false (.t 144)),
    .op .none 146 (.mkS 1 8 false [(.w (.int .i64 0))] (.t 145) (.t 145)),
    .op .none 17 (.mv (.t 146))]) <|
  .seq (.seq (.reg false [.op .none 18 (.mv (.c (.w (.int .i64 0))))]) <|
  .block 6 <|
    .loop <|
      .seq (.seq (.reg false [.op .none 147 (.mv (.t 18)),
        .op .none 148 (.fa 0 (.t 3)),
        .op .none 149 (.ld false 1 (.t 148)),
        .op .none 150 (.len false (.t 149)),
        .op .none 151 (.bin .lss (.t 147) (.t 150))]) <|
      .cond (.t 151)
        (.skip)
        (.exit 6)) <|
      .seq (.block 7 <|
        .seq (.reg false [.op .none 154 (.mv (.t 17)),
          .op .none 155 (.mv (.t 18)),
          .op .none 156 (.ia 1 (.t 154) (.t 155)),
          .store .none false 1 (.t 156) (.c (.w (.int .i64 (-1))))]) <|
        .seq (.reg false [.op .none 157 (.mv (.t 11)),
          .op .none 158 (.mv (.t 18)),
          .op .none 159 (.ia 1 (.t 157) (.t 158)),
          .op .none 160 (.ld false 1 (.t 159)),
          .op .none 161 (.bin .geq (.t 160) (.c (.w (.int .i64 0)))),
          .op .none 162 (.mv (.t 161)),
          .op (.some (162, true)) 163 (.mv (.t 10)),
          .op (.some (162, true)) 164 (.mv (.t 2)),
          .op (.some (162, true)) 165 (.ia 1 (.t 163) (.t 164)),
          .op (.some (162, true)) 166 (.ld false 1 (.t 165)),
          .op (.some (162, true)) 167 (.mv (.t 18)),
          .op (.some (162, true)) 168 (.ia 1 (.t 166) (.t 167)),
          .op (.some (162, true)) 169 (.ld false 1 (.t 168)),
          .op (.some (162, true)) 170 (.len false (.t 169)),
          .op (.some (162, true)) 171 (.bin .gtr (.t 170) (.c (.w (.int .i64 0)))),
          .op .none 172 (.pick (.t 162) (.t 171) (.c (.w (.bool false))))]) <|
        .cond (.t 172)
          (.reg true [.op .none 173 (.mv (.t 17)),
            .op .none 174 (.mv (.t 18)),
            .op .none 175 (.mv (.t 11)),
            .op .none 176 (.mv (.t 18)),
            .op .none 177 (.ia 1 (.t 175) (.t 176)),
            .op .none 178 (.ld false 1 (.t 177)),
            .op .none 179 (.mv (.t 10)),
            .op .none 180 (.mv (.t 2)),
            .op .none 181 (.ia 1 (.t 179) (.t 180)),
            .op .none 182 (.ld false 1 (.t 181)),
            .op .none 183 (.mv (.t 18)),
            .op .none 184 (.ia 1 (.t 182) (.t 183)),
            .op .none 185 (.ld false 1 (.t 184)),
            .op .none 186 (.ia 2 (.t 185) (.c (.w (.int .i64 0)))),
            .op .none 187 (.fa 0 (.t 186)),
            .op .none 188 (.ld false 1 (.t 187)),
            .op .none 189 (.bin .add (.t 178) (.t 188)),
            .op .none 190 (.ia 1 (.t 173) (.t 174)),
            .store .none false 1 (.t 190) (.t 189)])
          (.skip)) <|
      .reg false [.op .none 152 (.mv (.t 18)),
        .op .none 153 (.bin .add (.t 152) (.c (.w (.int .i64 1)))),
        .op .none 18 (.mv (.t 153))]) <|
  .seq (.reg false [.op .none 191 (.mv (.t 17)),
    .op .none 6 (.mv (.t 191)),
    .op .none 7 (.mv (.c (.w (.int .i64 0))))]) <|
  .ret
theorem k25 : FnCode Try.prog 25 [] 192 [6, 7] c25 := ⟨Try.f25, Try.func25, fun xs W => Try.call25 xs W, by kernel_rfl, by kernel_rfl, by kernel_rfl⟩

def mnI (t : TagT) (k : Nat) (w prev : List Int) : Nat → Int
  | 0 => -1
  | m + 1 => if at0 w m < 0 ∨ at0 prev m < 0 then mnI t k w prev m else
    if mnI t k w prev m < 0 ∨ at0 prev m + at0 w m + pAt2 t m k < mnI t k w prev m then at0 prev m + at0 w m + pAt2 t m k else mnI t k w prev m
def cellR (t : TagT) (p : Nat) (w wp prev : List Int) (k : Nat) : Int := if at0 w k < 0 then -1 else if p = 0 then at0 t.2.1 k else mnI t k wp prev t.1.length
def aheadR (t : TagT) (l : List Bs) : Nat → List Int
  | 0 => List.replicate t.1.length 0
  | p + 1 => (List.range t.1.length).map (cellR t p (costsF t (l.getD p [])) (costsF t (l.getD (p - 1) [])) (aheadR t l p))
def behR (t : TagT) (l : List Bs) (i : Nat) : List (List TlT) := (tlsF t 1 ((l.map (costsF t)).drop i)).headD []
def outR (A : List Int) (B : List (List TlT)) (k : Nat) : Int := if at0 A k < 0 then -1 else match B.getD k [] with
  | [] => -1
  | x :: _ => at0 A k + x.1
def atR (t : TagT) (l : List Bs) (i : Nat) : List Int := (List.range t.1.length).map (outR (aheadR t l (i + 1)) (behR t l i))
def atFR (t : TagT) (l : List Bs) (i : Int) : List Int × Int :=
  if chkF t l.length ≠ 0 then ([], chkF t l.length) else if i < 0 ∨ l.length ≤ i then ([], 4) else (atR t l i.toNat, 0)
theorem aheadR_len (t : TagT) (l : List Bs) (p : Nat) : (aheadR t l p).length = t.1.length := by cases p <;> simp [aheadR]
theorem mnI_rng {t : TagT} (ht : OkT t) {k : Nat} (hk : k < t.1.length) {w prev : List Int} (hw : csB t.1.length (-1) w = true) {B : Int} (hB : 0 ≤ B) (hp : ∀ m, m < t.1.length → at0 prev m ≤ B) : ∀ m, m ≤ t.1.length → -1 ≤ mnI t k w prev m ∧ mnI t k w prev m ≤ B + 200000000
  | 0, _ => by simp only [mnI]; omega
  | m + 1, hm => by
    have ih := mnI_rng ht hk hw hB hp m (by omega)
    have hmp : m < t.2.2.2.1.length := by rw [ht.pl]; omega
    have h1 : 0 ≤ pAt2 t m k ∧ pAt2 t m k ≤ 100000000 := by
      unfold pAt2
      rw [List.getD_eq_getElem?_getD, List.getElem?_eq_getElem hmp, Option.getD_some]
      exact csB_at (ht.p _ (List.getElem_mem hmp)) hk
    have h2 := csB_at hw (show m < t.1.length by omega)
    have h3 := hp m (by omega)
    simp only [mnI]
    split
    · exact ih
    · split
      · omega
      · exact ih
theorem aheadR_rng {t : TagT} (ht : OkT t) (l : List Bs) : ∀ p, ∀ k, k < t.1.length → -1 ≤ at0 (aheadR t l p) k ∧ at0 (aheadR t l p) k ≤ p * 200000000
  | 0, k, hk => by simp [aheadR, at0, hk]
  | p + 1, k, hk => by
    have ih := aheadR_rng ht l p
    have hc : ((p + 1 : Nat) : Int) = p + 1 := by omega
    rw [hc]
    have e : at0 (aheadR t l (p + 1)) k = cellR t p (costsF t (l.getD p [])) (costsF t (l.getD (p - 1) [])) (aheadR t l p) k := by
      simp [aheadR, at0, hk]
    rw [e]
    unfold cellR
    have hf := csB_at ht.f hk
    split
    · omega
    · split
      · omega
      · have := mnI_rng ht hk (costsF_ok ht (l.getD (p - 1) [])) (B := p * 200000000) (by omega) (fun m hm => (ih m hm).2) t.1.length (Nat.le_refl _)
        omega
theorem fok25 (t : TagT) (l : List Bs) (i : Int) (ht : tagS t) (hl : l.length ≤ 200000000000000) : FOk Try.prog 25 [.v (tagV t), .v (.word l), .I i] [] (.tup [.v (intsV (atFR t l i).1), .I (atFR t l i).2]) [] := by
  have h1 := fok38 t l ht hl
  have hO := chkF_ok (t := t) (n := l.length)
  have htc2 : tagV t = .st [.word t.1, intsV t.2.1, intsV t.2.2.1, .sl 1 (t.2.2.2.1.map intsV), .sl 2 (t.2.2.2.2.1.map worthV), intsV t.2.2.2.2.2.1] := by
    obtain ⟨G, Fi, Z, P, W, U, uu⟩ := t; rfl
  unfold atFR
  generalize chkF t l.length = v at h1 hO ⊢
  generalize hres : (if v ≠ 0 then (([], v) : List Int × Int) else if i < 0 ∨ l.length ≤ i then ([], 4) else (atR t l i.toNat, 0)) = res
  refine FOk.val k25 (by simp) (by simp) (by decide) ?_
  rw [htc2] at h1 ⊢
  simp [c25]
  refine CallG.lent rfl rfl rfl rfl h1 rfl ?_
  by_cases hv : v = 0
  case neg =>
    rw [if_pos hv] at hres
    subst hres
    simp [hv]
    exact Ends.v rfl (by simp [intsV])
  subst hv
  rw [if_neg (by simp)] at hres
  by_cases c1 : i < 0
  · rw [if_pos (.inl c1)] at hres
    subst hres
    simp [c1]
    exact Ends.v rfl (by simp [intsV])
  by_cases c2 : (l.length : Int) ≤ i
  · rw [if_pos (.inr c2)] at hres
    subst hres
    simp [c1, c2]
    exact Ends.v rfl (by simp [intsV])
  rw [if_neg (by omega)] at hres
  obtain ⟨hT, hn⟩ := hO rfl
  obtain ⟨ii, rfl⟩ := Int.eq_ofNat_of_zero_le (show 0 ≤ i by omega)
  simp only [Int.ofNat_eq_natCast, Int.toNat_natCast] at hres
  have hii : ii < l.length := by omega
  have htab := fok62 t l hT hn
  have hWc : ∀ w ∈ l.map (costsF t), csB t.1.length (-1) w = true := by
    intro w hw
    obtain ⟨x, _, rfl⟩ := List.mem_map.1 hw
    exact costsF_ok hT x
  have htls := fok63 t (l.map (costsF t)) 1 hT hWc (by simpa using hn) (Nat.le_refl _) (by omega)
  have hrow := rowsT_at t 1 (l.map (costsF t)) (Nat.zero_le ii) (show ii < (l.map (costsF t)).length by simpa using hii)
  have hgood : GoodT t 1 ((l.map (costsF t)).drop ii).length (behR t l ii) := by
    refine tlsF_good hT (Nat.le_refl _) _ (fun w hw => hWc w (List.mem_of_mem_drop hw)) _ ?_
    have := tlsF_cons t 1 (l.map (costsF t)) (show ii < (l.map (costsF t)).length by simpa using hii)
    unfold behR
    rw [this]; simp
  change (rowsT t 1 (l.map (costsF t)) 0)[ii]? = some (rowT (behR t l ii)) at hrow
  have hrg := aheadR_rng hT l
  have hWi : ∀ p (hp : p < l.length), ((l.map (costsF t)).map intsV)[p]? = some (intsV (costsF t l[p])) := fun p hp => by simp [hp]
  have hcr := fun w => costsF_ok hT w
  have hg := hT.g
  rw [htc2] at htab htls
  generalize hTW : (l.map (costsF t)).map intsV = TW at hWi htab htls
  have hTWl : TW.length = l.length := by rw [← hTW]; simp
  have d1 : (t.1.length : Int) * 8 ≤ 70368744177664 := by omega
  have d2 : (t.1.length : Int) ≤ 1000000000000 := by omega
  have hz0 : (List.replicate t.1.length (PV.w (.int .i64 0))) = (List.replicate t.1.length (0 : Int)).map .i := by rw [List.map_replicate]; rfl
  simp [c1, c2]
  refine CallG.plain rfl rfl rfl rfl htab (by simp) (by simp) ?_
  simp
  refine CallG.plain rfl rfl rfl rfl htls (by simp) (by simp) ?_
  simp (disch := omega) [wrap_i64, d1, d2]
  generalize rowsT t 1 (l.map (costsF t)) 0 = TB at hrow
  refine Run.loopA (ι := Nat) [(1, 3), (2, 11)] (fun p => p ≤ ii + 1) (fun p => ⟨[(2, .I ii), (3, .ptr 1 0 0), (9, .v (.sl 1 TW)), (10, .v (.sl 1 TB)), (11, .h 2), (12, .I p)], [(2, ⟨false, 1, (aheadR t l p).map .i⟩), (1, ⟨false, 6, [tagV t]⟩)], 1024⟩) (fun p => ii + 1 - p) 0 (by decide) (by simp [htc2, aheadR]) (by simp) ?_
  rintro p hp ih
  by_cases h : p ≤ ii
  · have hpl : p < l.length := by omega
    have hh : (p : Int) ≤ (ii : Int) := by omega
    obtain ⟨hw1, hw2⟩ := List.getElem?_eq_some_iff.1 (hWi p hpl)
    have hcl := csB_len (hcr l[p])
    have hcb := csB_rng (hcr l[p])
    have hgd : l.getD p [] = l[p] := by simp [hpl]
    have hal := aheadR_len t l p
    have har := hrg p
    have hnext : aheadR t l (p + 1) = (List.range t.1.length).map (cellR t p (costsF t (l.getD p [])) (costsF t (l.getD (p - 1) [])) (aheadR t l p)) := rfl
    rw [hgd] at hnext
    have hwp : p ≠ 0 → TW[p - 1]? = some (intsV (costsF t (l.getD (p - 1) []))) := fun h0 => by
      have := hWi (p - 1) (by omega)
      rw [this]; simp [show p - 1 < l.length by omega]
    have hpc := hcr (l.getD (p - 1) [])
    generalize costsF t (l.getD (p - 1) []) = wp at hnext hwp hpc
    generalize costsF t l[p] = c at hw2 hcl hcb hnext
    generalize aheadR t l p = prev at hal har hnext ⊢
    simp (disch := omega) [hh, wrap_i64, htc2, d1, d2]
    obtain ⟨f, hf⟩ : ∃ f : Nat → Int, ∀ k, f k = cellR t p c wp prev k := ⟨_, fun _ => rfl⟩
    have hnf : (List.range t.1.length).map (cellR t p c wp prev) = (List.range t.1.length).map f := by
      apply List.map_congr_left; intro k _; exact (hf k).symm
    rw [hnf] at hnext
    obtain ⟨zs, hzs⟩ : ∃ zs : List Int, zs = List.replicate t.1.length 0 := ⟨_, rfl⟩
    have hzl : zs.length = t.1.length := by rw [hzs]; simp
    have hm0 := mixL_zero f zs
    have hz1 : List.replicate t.1.length (PV.w (.int .i64 0)) = zs.map .i := by rw [hzs, List.map_replicate]; rfl
    rw [hz1]
    refine Run.loopA (ι := Nat) [(1, 3), (2, 11), (3, 13)] (fun k => k ≤ t.1.length) (fun k => ⟨[(2, .I ii), (3, .ptr 1 0 0), (9, .v (.sl 1 TW)), (10, .v (.sl 1 TB)), (11, .h 2), (12, .I p), (13, .h 3), (14, .I k)], [(2, ⟨false, 1, prev.map .i⟩), (3, ⟨false, 1, (mixL f zs k).map .i⟩), (1, ⟨false, 6, [tagV t]⟩)], 1024⟩) (fun k => t.1.length - k) 0 (by decide) (by simp [htc2, hm0]) (by simp) ?_
    rintro k hk ihk
    by_cases hkn : k < t.1.length
    case neg =>
      have hkk : k = t.1.length := by omega
      subst hkk
      simp (disch := omega) [wrap_i64, htc2]
      exact ih (p + 1) _ (by omega) (by omega) (by simp [htc2, hnext, mixL_end f zs hzl])
    have hkz : k < zs.length := by omega
    have hkc : k < c.length := by omega
    obtain ⟨hm1, hm2⟩ := List.getElem?_eq_some_iff.1 (mixL_at f zs hkz)
    have hset := mixL_set f zs hkz
    have hih := ihk (k + 1)
    simp only at hih
    clear ihk
    generalize mixL f zs k = cur at hm1 hm2 hset ⊢
    generalize mixL f zs (k + 1) = cur' at hset hih
    have hfk := hf k
    unfold cellR at hfk
    rw [at0_eq hkc] at hfk
    generalize hck : c[k] = ck at hfk
    have hset2 : ∀ v, v = f k → (cur.map PV.i).set k (.w (.int .i64 v)) = cur'.map .i := by
      rintro v rfl; rw [← hset, List.map_set]; rfl
    have hV : ∀ x : PV, ((cur.map PV.i).set k x)[k]? = some x := fun x => by rw [List.getElem?_set_self (by simpa using hm1)]
    by_cases q1 : ck < 0
    · rw [if_pos q1] at hfk
      have hs := hset2 _ hfk.symm
      simp (disch := omega) [hkn, hm1, q1, wrap_i64, htc2, hw1, hw2, intsV, hkc, hck]
      exact hih _ (by omega) (by omega) (by simp [-List.map_set, htc2, hs, intsV])
    rw [if_neg q1] at hfk
    by_cases q2 : p = 0
    · rw [if_pos q2] at hfk
      have hkf : k < t.2.1.length := by have := csB_len hT.f; omega
      rw [at0_eq hkf] at hfk
      generalize hxf : t.2.1[k] = xf at hfk
      have hs := hset2 _ hfk.symm
      have q3 := eq_true (show (p : Int) = 0 by omega)
      have q4 := eq_true q2
      simp (disch := omega) [hkn, hm1, q1, q3, q4, wrap_i64, htc2, hw1, hw2, intsV, hkc, hck, hkf, hxf, hV]
      exact hih _ (by omega) (by omega) (by simp [-List.map_set, htc2, hs, intsV])
    rw [if_neg q2] at hfk
    have q2' : ¬ ((p : Int) = 0) := by omega
    obtain ⟨hv1, hv2⟩ := List.getElem?_eq_some_iff.1 (hwp q2)
    have e2 : ((p : Int) - 1).toNat = p - 1 := by omega
    have e3 : (0 : Int) ≤ (p : Int) - 1 := by omega
    have e4 : 1 ≤ p := by omega
    have hpcl := csB_len hpc
    have hpcb := csB_rng hpc
    have hmr := mnI_rng hT hkn hpc (prev := prev) (B := p * 200000000) (by omega) (fun m hm => (har m hm).2)
    simp (disch := omega) [hkn, hm1, q1, q2, wrap_i64, htc2, hw1, hw2, intsV, hkc, hck, hV]
    refine Run.loopA (ι := Nat) [(1, 3), (2, 11), (3, 13)] (fun m => m ≤ t.1.length) (fun m => ⟨[(2, .I ii), (3, .ptr 1 0 0), (9, .v (.sl 1 TW)), (10, .v (.sl 1 TB)), (11, .h 2), (12, .I p), (13, .h 3), (14, .I k), (15, .I m)], [(2, ⟨false, 1, prev.map .i⟩), (3, ⟨false, 1, (cur.map PV.i).set k (.w (.int .i64 (mnI t k wp prev m)))⟩), (1, ⟨false, 6, [tagV t]⟩)], 1024⟩) (fun m => t.1.length - m) 0 (by decide) (by simp [htc2, mnI, intsV]) (by simp) ?_
    rintro m hm ihm
    by_cases hmn : m < t.1.length
    case neg =>
      have hmm : m = t.1.length := by omega
      subst hmm
      have hs := hset2 _ hfk.symm
      simp (disch := omega) [wrap_i64, htc2]
      exact hih _ (by omega) (by omega) (by simp [-List.map_set, htc2, hs, intsV])
    have hmw : m < wp.length := by omega
    have hmp : m < prev.length := by omega
    have hmP : m < t.2.2.2.1.length := by rw [hT.pl]; exact hmn
    have hpk := csB_len (hT.p _ (List.getElem_mem hmP))
    have hpr := csB_at (hT.p _ (List.getElem_mem hmP)) hkn
    have hsucc : mnI t k wp prev (m + 1) = if at0 wp m < 0 ∨ at0 prev m < 0 then mnI t k wp prev m else if mnI t k wp prev m < 0 ∨ at0 prev m + at0 wp m + at0 t.2.2.2.1[m] k < mnI t k wp prev m then at0 prev m + at0 wp m + at0 t.2.2.2.1[m] k else mnI t k wp prev m := by
      have e : pAt2 t m k = at0 t.2.2.2.1[m] k := by
        unfold pAt2
        rw [List.getD_eq_getElem?_getD, List.getElem?_eq_getElem hmP, Option.getD_some]
      simp only [mnI, e]
    have hwb := hpcb _ (List.getElem_mem hmw)
    have hpb := har m hmn
    have hmb := hmr m hm
    have hihm := ihm (m + 1)
    simp only at hihm
    clear ihm
    generalize mnI t k wp prev (m + 1) = v1 at hsucc hihm
    generalize mnI t k wp prev m = v0 at hsucc hmb ⊢
    generalize hpp : t.2.2.2.1[m] = pp at hpk hpr hsucc
    have hkpp : k < pp.length := by omega
    rw [at0_eq hkpp] at hpr hsucc
    rw [at0_eq hmw, at0_eq hmp] at hsucc
    rw [at0_eq hmp] at hpb
    generalize hxw : wp[m] = xw at hwb hsucc
    generalize hxp : prev[m] = xp at hpb hsucc
    generalize hxk : pp[k] = xk at hpr hsucc
    by_cases r1 : xw < 0
    · rw [if_pos (.inl r1)] at hsucc
      simp (disch := omega) [hmn, wrap_i64, htc2, hv1, hv2, e2, e3, e4, intsV, hmw, hxw, r1]
      exact hihm _ (by omega) (by omega) (by simp [htc2, hsucc, intsV])
    by_cases r2 : xp < 0
    · rw [if_pos (.inr r2)] at hsucc
      simp (disch := omega) [hmn, wrap_i64, htc2, hv1, hv2, e2, e3, e4, intsV, hmw, hxw, r1, hmp, hxp, r2]
      exact hihm _ (by omega) (by omega) (by simp [htc2, hsucc, intsV])
    rw [if_neg (by omega)] at hsucc
    by_cases r3 : v0 < 0
    · rw [if_pos (.inl r3)] at hsucc
      simp (disch := omega) [hmn, wrap_i64, htc2, hv1, hv2, e2, e3, e4, intsV, hmw, hxw, r1, hmp, hxp, r2, hmP, hpp, hkpp, hxk, hV, r3, hm1]
      exact hihm _ (by omega) (by omega) (by simp [htc2, hsucc, intsV])
    by_cases r4 : xp + xw + xk < v0
    · rw [if_pos (.inr r4)] at hsucc
      simp (disch := omega) [hmn, wrap_i64, htc2, hv1, hv2, e2, e3, e4, intsV, hmw, hxw, r1, hmp, hxp, r2, hmP, hpp, hkpp, hxk, hV, r3, r4, hm1]
      exact hihm _ (by omega) (by omega) (by simp [htc2, hsucc, intsV])
    rw [if_neg (by omega)] at hsucc
    simp (disch := omega) [hmn, wrap_i64, htc2, hv1, hv2, e2, e3, e4, intsV, hmw, hxw, r1, hmp, hxp, r2, hmP, hpp, hkpp, hxk, hV, r3, r4, hm1]
    exact hihm _ (by omega) (by omega) (by simp [htc2, hsucc, intsV])
  · have hpi : p = ii + 1 := by omega
    subst hpi
    have hAl := aheadR_len t l (ii + 1)
    have hAr := hrg (ii + 1)
    have hat : atR t l ii = (List.range t.1.length).map (outR (aheadR t l (ii + 1)) (behR t l ii)) := rfl
    rw [hat] at hres
    generalize aheadR t l (ii + 1) = A at hAl hAr hres ⊢
    generalize behR t l ii = B at hrow hgood hres
    obtain ⟨hro1, hro2⟩ := List.getElem?_eq_some_iff.1 hrow
    have hdl : (List.drop ii (l.map (costsF t))).length ≤ 200 := by simp; omega
    obtain ⟨f, hf⟩ : ∃ f : Nat → Int, ∀ k, f k = outR A B k := ⟨_, fun _ => rfl⟩
    have hrf : (List.range t.1.length).map (outR A B) = (List.range t.1.length).map f := by
      apply List.map_congr_left; intro k _; exact (hf k).symm
    rw [hrf] at hres
    obtain ⟨zs, hzs⟩ : ∃ zs : List Int, zs = List.replicate t.1.length 0 := ⟨_, rfl⟩
    have hzl : zs.length = t.1.length := by rw [hzs]; simp
    have hm0 := mixL_zero f zs
    have hme := mixL_end f zs hzl
    have hz1 : List.replicate t.1.length (PV.w (.int .i64 0)) = zs.map .i := by rw [hzs, List.map_replicate]; rfl
    have hh : ¬ (ii : Int) + 1 ≤ (ii : Int) := by omega
    simp (disch := omega) [hh, wrap_i64, htc2, d1, d2]
    rw [hz1]
    refine Run.loopA (ι := Nat) [(1, 3), (2, 11), (3, 17)] (fun k => k ≤ t.1.length) (fun k => ⟨[(2, .I ii), (3, .ptr 1 0 0), (10, .v (.sl 1 TB)), (11, .h 2), (17, .h 3), (18, .I k)], [(2, ⟨false, 1, A.map .i⟩), (3, ⟨false, 1, (mixL f zs k).map .i⟩), (1, ⟨false, 6, [tagV t]⟩)], 1024⟩) (fun k => t.1.length - k) 0 (by decide) (by simp [htc2, hm0]) (by simp) ?_
    rintro k hk ihk
    by_cases hkn : k < t.1.length
    case neg =>
      have hkk : k = t.1.length := by omega
      subst hkk
      rw [hme]
      subst hres
      simp [htc2]
      exact Ends.v rfl (by simp [intsV])
    have hkz : k < zs.length := by omega
    have hkA : k < A.length := by omega
    have hkB : k < B.length := by rw [hgood.len]; exact hkn
    obtain ⟨hm1, hm2⟩ := List.getElem?_eq_some_iff.1 (mixL_at f zs hkz)
    have hset := mixL_set f zs hkz
    have hih := ihk (k + 1)
    simp only at hih
    clear ihk
    generalize mixL f zs k = cur at hm1 hm2 hset ⊢
    generalize mixL f zs (k + 1) = cur' at hset hih
    have hfk := hf k
    unfold outR at hfk
    have hAb := hAr k hkn
    rw [at0_eq hkA] at hfk hAb
    rw [List.getD_eq_getElem?_getD, List.getElem?_eq_getElem hkB, Option.getD_some] at hfk
    have hbk := hgood.q _ (List.getElem_mem hkB)
    generalize hxA : A[k] = xa at hfk hAb
    generalize hxB : B[k] = xb at hfk hbk
    have hset2 : ∀ v, v = f k → (cur.map PV.i).set k (.w (.int .i64 v)) = cur'.map .i := by
      rintro v rfl; rw [← hset, List.map_set]; rfl
    have hV : ∀ x : PV, ((cur.map PV.i).set k x)[k]? = some x := fun x => by rw [List.getElem?_set_self (by simpa using hm1)]
    simp only [rowT] at hro2
    by_cases q1 : xa < 0
    · rw [if_pos q1] at hfk
      have hs := hset2 _ hfk.symm
      have q1' : ¬ 0 ≤ xa := by omega
      simp (disch := omega) [hkn, hm1, q1, q1', wrap_i64, htc2, hkA, hxA]
      exact hih _ (by omega) (by omega) (by simp [-List.map_set, htc2, hs, intsV])
    rw [if_neg q1] at hfk
    have q1' : 0 ≤ xa := by omega
    rcases xb with _ | ⟨x, xb⟩
    · simp only at hfk
      have hs := hset2 _ hfk.symm
      simp (disch := omega) [hkn, hm1, q1, q1', wrap_i64, htc2, hkA, hxA, hro1, hro2, hkB, hxB, tailsV]
      exact hih _ (by omega) (by omega) (by simp [-List.map_set, htc2, hs, intsV])
    · obtain ⟨xc, xt⟩ := x
      simp only at hfk
      have hxr := hbk.2 (xc, xt) (by simp)
      simp only at hxr
      have hs := hset2 _ hfk.symm
      have hp1 : (0 : Int) < (xb.length : Int) + 1 := by omega
      simp (disch := omega) [hkn, hm1, q1, q1', wrap_i64, htc2, hkA, hxA, hro1, hro2, hkB, hxB, tailsV, tailV, hV, hp1]
      exact hih _ (by omega) (by omega) (by simp [-List.map_set, htc2, hs, intsV])

end Go.Proofs
