/- The walk. -/
import Derived.Test.YtepjlojlkionfaaRq1
import Derived.Test.YtepjlojlkionfaaProg
import Derived.KernelRfl
set_option linter.all false
set_option maxHeartbeats 2000000
namespace Go.Proofs
open Go Go.AM
attribute [local irreducible] Run Ends
/-- ablaut/ablautref19.merged -/
def c83 : MC :=
  .seq (.reg false [.op .none 10 (.nilS 2)]) <|
  .seq (.reg false [.op .none 17 (.mv (.t 0)),
    .op .none 18 (.len false (.t 17)),
    .op .none 19 (.mkS 1 8 false [(.w (.int .i64 0))] (.t 18) (.t 18)),
    .op .none 11 (.mv (.t 19))]) <|
  .seq (.reg false [.op .none 12 (.nilS 2)]) <|
  .seq (.block 0 <|
    .loop <|
      .seq (.seq (.reg false [.op .none 20 (.mv (.t 12)),
        .op .none 21 (.len false (.t 20)),
        .op .none 22 (.mv (.t 4)),
        .op .none 23 (.bin .lss (.t 21) (.t 22))]) <|
      .cond (.t 23)
        (.skip)
        (.exit 0)) <|
      .block 1 <|
        .seq (.reg false [.op .none 13 (.mv (.c (.w (.int .i64 (-1)))))]) <|
        .seq (.seq (.reg false [.op .none 14 (.mv (.c (.w (.int .i64 0))))]) <|
        .block 2 <|
          .loop <|
            .seq (.seq (.reg false [.op .none 24 (.mv (.t 14)),
              .op .none 25 (.mv (.t 0)),
              .op .none 26 (.len false (.t 25)),
              .op .none 27 (.bin .lss (.t 24) (.t 26))]) <|
            .cond (.t 27)
              (.skip)
              (.exit 2)) <|
            .seq (.block 3 <|
              .seq (.reg true [.op .none 30 (.mv (.t 11)),
                .op .none 31 (.mv (.t 14)),
                .op .none 32 (.ia 1 (.t 30) (.t 31)),
                .op .none 33 (.ld false 1 (.t 32)),
                .op .none 34 (.mv (.t 0)),
                .op .none 35 (.mv (.t 14)),
                .op .none 36 (.ia 1 (.t 34) (.t 35)),
                .op .none 37 (.ld false 1 (.t 36)),
                .op .none 38 (.len false (.t 37)),
                .op .none 39 (.bin .lss (.t 33) (.t 38)),
                .op .none 40 (.mv (.t 39)),
                .op (.some (40, true)) 41 (.mv (.t 13)),
                .op (.some (40, true)) 42 (.bin .lss (.t 41) (.c (.w (.int .i64 0)))),
                .op (.some (40, true)) 43 (.mv (.t 42)),
                .op (.some (43, false)) 44 (.mv (.t 0)),
                .op (.some (43, false)) 45 (.mv (.t 14)),
                .op (.some (43, false)) 46 (.ia 1 (.t 44) (.t 45)),
                .op (.some (43, false)) 47 (.ld false 1 (.t 46)),
                .op (.some (43, false)) 48 (.mv (.t 11)),
                .op (.some (43, false)) 49 (.mv (.t 14)),
                .op (.some (43, false)) 50 (.ia 1 (.t 48) (.t 49)),
                .op (.some (43, false)) 51 (.ld false 1 (.t 50)),
                .op (.some (43, false)) 52 (.ia 2 (.t 47) (.t 51)),
                .op (.some (43, false)) 53 (.fa 0 (.t 52)),
                .op (.some (43, false)) 54 (.ld false 1 (.t 53)),
                .op (.some (43, false)) 55 (.mv (.t 1)),
                .op (.some (43, false)) 56 (.mv (.t 14)),
                .op (.some (43, false)) 57 (.ia 1 (.t 55) (.t 56)),
                .op (.some (43, false)) 58 (.ld false 1 (.t 57)),
                .op (.some (43, false)) 59 (.bin .add (.t 54) (.t 58)),
                .op (.some (43, false)) 60 (.mv (.t 0)),
                .op (.some (43, false)) 61 (.mv (.t 13)),
                .op (.some (43, false)) 62 (.ia 1 (.t 60) (.t 61)),
                .op (.some (43, false)) 63 (.ld false 1 (.t 62)),
                .op (.some (43, false)) 64 (.mv (.t 11)),
                .op (.some (43, false)) 65 (.mv (.t 13)),
                .op (.some (43, false)) 66 (.ia 1 (.t 64) (.t 65)),
                .op (.some (43, false)) 67 (.ld false 1 (.t 66)),
                .op (.some (43, false)) 68 (.ia 2 (.t 63) (.t 67)),
                .op (.some (43, false)) 69 (.fa 0 (.t 68)),
                .op (.some (43, false)) 70 (.ld false 1 (.t 69)),
                .op (.some (43, false)) 71 (.mv (.t 1)),
                .op (.some (43, false)) 72 (.mv (.t 13)),
                .op (.some (43, false)) 73 (.ia 1 (.t 71) (.t 72)),
                .op (.some (43, false)) 74 (.ld false 1 (.t 73)),
                .op (.some (43, false)) 75 (.bin .add (.t 70) (.t 74)),
                .op (.some (43, false)) 76 (.bin .lss (.t 59) (.t 75)),
                .op (.some (40, true)) 77 (.pick (.t 43) (.c (.w (.bool true))) (.t 76)),
                .op .none 78 (.pick (.t 40) (.t 77) (.c (.w (.bool false))))]) <|
              .cond (.t 78)
                (.reg false [.op .none 79 (.mv (.t 14)),
                  .op .none 13 (.mv (.t 79))])
                (.skip)) <|
            .reg false [.op .none 28 (.mv (.t 14)),
              .op .none 29 (.bin .add (.t 28) (.c (.w (.int .i64 1)))),
              .op .none 14 (.mv (.t 29))]) <|
        .seq (.seq (.reg false [.op .none 80 (.mv (.t 13)),
          .op .none 81 (.bin .lss (.t 80) (.c (.w (.int .i64 0))))]) <|
        .cond (.t 81)
          (.exit 0)
          (.skip)) <|
        .seq (.reg true [.op .none 82 (.mv (.t 0)),
          .op .none 83 (.mv (.t 13)),
          .op .none 84 (.ia 1 (.t 82) (.t 83)),
          .op .none 85 (.ld false 1 (.t 84)),
          .op .none 86 (.mv (.t 11)),
          .op .none 87 (.mv (.t 13)),
          .op .none 88 (.ia 1 (.t 86) (.t 87)),
          .op .none 89 (.ld false 1 (.t 88)),
          .op .none 90 (.ia 2 (.t 85) (.t 89)),
          .op .none 91 (.ld true 2 (.t 90)),
          .op .none 15 (.alloc true [(.w (.int .i64 0)), (.sl 1 [])]),
          .store .none true 2 (.t 15) (.t 91)]) <|
        .seq (.reg false [.op .none 92 (.mv (.t 11)),
          .op .none 93 (.mv (.t 13)),
          .op .none 94 (.ia 1 (.t 92) (.t 93)),
          .op .none 95 (.ld false 1 (.t 94)),
          .op .none 96 (.bin .add (.t 95) (.c (.w (.int .i64 1)))),
          .op .none 97 (.ia 1 (.t 92) (.t 93)),
          .store .none false 1 (.t 97) (.t 96)]) <|
        .seq (.reg false [.op .none 98 (.fa 1 (.t 15)),
          .op .none 99 (.ld false 1 (.t 98)),
          .op .none 16 (.mv (.t 99))]) <|
        .seq (.seq (.reg false [.op .none 100 (.mv (.t 3)),
          .op .none 101 (.bin .geq (.t 100) (.c (.w (.int .i64 0))))]) <|
        .cond (.t 101)
          (.reg false [.op .none 102 (.mv (.t 3)),
            .op .none 103 (.buildS false 1 1 false [(.w (.int .i64 0))] [(0, (.t 102))]),
            .op .none 104 (.fa 1 (.t 15)),
            .op .none 105 (.ld false 1 (.t 104)),
            .op .none 106 (.app 1 8 (.t 103) (.t 105)),
            .op .none 16 (.mv (.t 106))])
          (.skip)) <|
        .reg true [.op .none 107 (.mv (.t 12)),
          .op .none 108 (.mv (.t 2)),
          .op .none 109 (.mv (.t 1)),
          .op .none 110 (.mv (.t 13)),
          .op .none 111 (.ia 1 (.t 109) (.t 110)),
          .op .none 112 (.ld false 1 (.t 111)),
          .op .none 113 (.bin .add (.t 108) (.t 112)),
          .op .none 114 (.fa 0 (.t 15)),
          .op .none 115 (.ld false 1 (.t 114)),
          .op .none 116 (.bin .add (.t 113) (.t 115)),
          .op .none 117 (.mv (.t 16)),
          .op .none 118 (.build true [(.w (.int .i64 0)), (.sl 1 [])] [(0, 1, (.t 116)), (1, 1, (.t 117))]),
          .op .none 119 (.buildS true 2 1 true [(.w (.int .i64 0)), (.sl 1 [])] [(0, (.t 118))]),
          .op .none 120 (.app 2 32 (.t 107) (.t 119)),
          .op .none 12 (.mv (.t 120))]) <|
  .seq (.reg false [.op .none 121 (.mv (.t 12)),
    .op .none 10 (.mv (.t 121))]) <|
  .ret
theorem k83 : FnCode Try.prog 83 [118, 119] 122 [10] c83 := ⟨Try.f83, Try.func83, fun xs W => Try.call83 xs W, by kernel_rfl, by kernel_rfl, by kernel_rfl⟩

def RA : List (List TlT) → List Nat → List (List TlT)
  | r :: L, a :: A => r.drop a :: RA L A
  | _, _ => []
theorem RA_len : ∀ (L : List (List TlT)) (A : List Nat), A.length = L.length → (RA L A).length = L.length
  | [], A, _ => by simp [RA]
  | r :: L, [], h => by simp at h
  | r :: L, a :: A, h => by simp [RA, RA_len L A (by simpa using h)]
theorem RA_get : ∀ (L : List (List TlT)) (A : List Nat) (k : Nat) (h1 : k < L.length) (h2 : k < A.length), (RA L A)[k]? = some (L[k].drop A[k])
  | [], A, k, h1, _ => by simp at h1
  | r :: L, [], k, _, h2 => by simp at h2
  | r :: L, a :: A, 0, _, _ => by simp [RA]
  | r :: L, a :: A, k + 1, h1, h2 => by
    have := RA_get L A k (by simpa using h1) (by simpa using h2)
    simpa [RA] using this
theorem RA_set : ∀ (L : List (List TlT)) (A : List Nat) (j a : Nat) (h1 : j < L.length), RA L (A.set j a) = (RA L A).set j (L[j].drop a)
  | [], A, j, a, h1 => by simp at h1
  | r :: L, [], j, a, _ => by simp [RA]
  | r :: L, b :: A, 0, a, _ => by simp [RA]
  | r :: L, b :: A, j + 1, a, h1 => by
    have := RA_set L A j a (by simpa using h1)
    simpa [RA] using this
theorem RA_zero : ∀ (L : List (List TlT)), RA L (List.replicate L.length 0) = L
  | [] => rfl
  | r :: L => by simp [RA, List.replicate_succ, RA_zero L]
def bI2 : Option (Nat × Int) → Int
  | none => -1
  | some (j, _) => j
theorem fok83 (L : List (List TlT)) (ps : List Int) (cost : Int) (tag : Option Nat) (most : Nat) (hL : L.length ≤ 16) (hp : ps.length = L.length) (hr : ∀ r ∈ L, r.length ≤ 1000 ∧ ∀ x ∈ r, 0 ≤ x.1 ∧ x.1 ≤ 100000000000 ∧ x.2.length ≤ 1000)
    (hps : ∀ p ∈ ps, 0 ≤ p ∧ p ≤ 100000000) (hc : 0 ≤ cost ∧ cost ≤ 100000000) (hm : most ≤ 1000) : FOk Try.prog 83 [.v (.sl 1 (L.map tailsV)), .v (intsV ps), .I cost, .I (bI9 tag), .I most] [] (.v (tailsV (mrg ps cost tag most L))) [] := by
  refine FOk.val k83 (by simp) (by simp) (by decide) ?_
  have c1 : (L.length : Int) * 8 ≤ 70368744177664 := by omega
  have c2 : (L.length : Int) ≤ 1000000000000 := by omega
  have hz : RA L (List.replicate L.length 0) = L := RA_zero L
  simp (disch := omega) [c83, c1, c2]
  generalize hres : mrg ps cost tag most L = res
  have hrep : List.replicate L.length (PV.w (.int .i64 0)) = (List.replicate L.length 0).map fun a : Nat => .i a := by rw [List.map_replicate]; rfl
  refine Run.loopA (ι := List Nat × List TlT) [(1, 11), (2, 12)] (fun q => q.1.length = L.length ∧ (∀ k (h1 : k < q.1.length) (h2 : k < L.length), q.1[k] ≤ L[k].length) ∧ q.2.length ≤ most ∧ q.2 ++ mrg ps cost tag (most - q.2.length) (RA L q.1) = res) (fun q => ⟨[(0, .v (.sl 1 (L.map tailsV))), (1, .v (intsV ps)), (2, .I cost), (3, .I (bI9 tag)), (4, .I most), (11, .h 1), (12, .h 2)], [(1, ⟨false, 1, q.1.map fun a : Nat => .i a⟩), (2, ⟨false, 2, q.2.map tailV⟩)], 1024⟩) (fun q => most - q.2.length) (List.replicate L.length 0, []) (by decide) (by simp) ⟨by simp, by simp, by simp, by simpa [hz] using hres⟩ ?_
  rintro ⟨A, out⟩ ⟨hA, hAl, ho, hall⟩ ih
  simp only at hA hAl ho hall ih
  by_cases hlt : out.length < most
  case neg =>
    have e : most - out.length = 0 := by omega
    rw [e] at hall
    simp only [mrg, List.append_nil] at hall
    subst hall
    have hlt' : ¬ (out.length : Int) < (most : Int) := by omega
    simp [hlt, hlt']
    exact Ends.v rfl (by simp [tailsV])
  have hlt' : (out.length : Int) < (most : Int) := by omega
  simp [hlt, hlt']
  obtain ⟨nn, hnn⟩ : ∃ nn, most - out.length = nn + 1 := ⟨most - out.length - 1, by omega⟩
  rw [hnn] at hall
  simp only [mrg] at hall
  have hRl := RA_len L A hA
  refine Run.loopA (ι := Nat × Option (Nat × Int)) [(1, 11), (2, 12)] (fun q => q.1 ≤ L.length ∧ (∀ j c, q.2 = some (j, c) → ∃ (h1 : j < L.length) (h2 : j < A.length) (h3 : A[j] < L[j].length) (h4 : j < ps.length), c = L[j][A[j]].1 + ps[j]) ∧ bstR ((RA L A).drop q.1) (ps.drop q.1) q.1 q.2 = bstR (RA L A) ps 0 none) (fun q => ⟨[(0, .v (.sl 1 (L.map tailsV))), (1, .v (intsV ps)), (2, .I cost), (3, .I (bI9 tag)), (4, .I most), (11, .h 1), (12, .h 2), (13, .I (bI2 q.2)), (14, .I q.1)], [(1, ⟨false, 1, A.map fun a : Nat => .i a⟩), (2, ⟨false, 2, out.map tailV⟩)], 1024⟩) (fun q => L.length - q.1) (0, none) (by decide) (by simp [bI2]) ⟨by simp, by simp, by simp⟩ ?_
  rintro ⟨k, b⟩ ⟨hk, hb, hbr⟩ ihk
  simp only at hk hb hbr ihk
  by_cases h : k < L.length
  · have hkA : k < A.length := by omega
    have hkp : k < ps.length := by omega
    have hg := RA_get L A k h hkA
    obtain ⟨hg1, hg2⟩ := List.getElem?_eq_some_iff.1 hg
    rw [drop_at hg1, drop_at hkp, hg2] at hbr
    simp only [bstR] at hbr
    have hrk := hr _ (List.getElem_mem h)
    have hpk := hps _ (List.getElem_mem hkp)
    generalize hak : A[k] = a at hbr
    generalize hlk : L[k] = r at hbr hrk
    generalize hpp : ps[k] = p at hbr hpk
    by_cases hal : a < r.length
    case neg =>
      rw [drop_no hal] at hbr
      simp only at hbr
      have hal' : ¬ (a : Int) < (r.length : Int) := by omega
      simp (disch := omega) [h, hkA, hak, hlk, hal, hal', wrap_i64, tailsV]
      exact ihk (k + 1, b) _ ⟨by simp; omega, hb, hbr⟩ (by simp; omega) (by simp [bI2])
    have hal' : (a : Int) < (r.length : Int) := by omega
    rw [drop_at hal] at hbr
    have hx := hrk.2 _ (List.getElem_mem hal)
    cases b with
    | none =>
      simp only at hbr
      simp (disch := omega) [h, hkA, hak, hlk, hal, hal', wrap_i64, tailsV, bI2]
      refine ihk (k + 1, some (k, r[a].1 + p)) _ ⟨by simp; omega, ?_, hbr⟩ (by simp; omega) (by simp [bI2])
      intro j c e
      cases e
      exact ⟨h, hkA, by rw [hak, hlk]; exact hal, hkp, by simp [hak, hlk, hpp]⟩
    | some jc =>
      obtain ⟨j, c⟩ := jc
      obtain ⟨j1, j2, j3, j4, hcv⟩ := hb j c rfl
      have hrj := (hr _ (List.getElem_mem j1)).2 _ (List.getElem_mem j3)
      have hpj := hps _ (List.getElem_mem j4)
      simp only at hbr
      generalize haj : A[j] = aj at j3 hcv hrj
      generalize hlj : L[j] = rj at j3 hcv hrj
      generalize hxv : r[a] = x at hx hbr
      generalize hyv : rj[aj] = y at hcv hrj
      obtain ⟨xc, xt⟩ := x
      obtain ⟨yc, yt⟩ := y
      generalize hpv : ps[j] = pj at hcv hpj
      simp only at hx hrj hcv hbr
      have hjn : ¬ (j : Int) < 0 := by omega
      by_cases hlt2 : xc + p < c
      · rw [if_pos hlt2] at hbr
        have hlt3 : xc + p < yc + pj := by omega
        simp (disch := omega) [h, hkA, hak, hlk, hal, hal', wrap_i64, tailsV, bI2, intsV, hxv, tailV, hkp, hpp, j1, j2, haj, hlj, j3, hyv, j4, hpv, hjn, hlt3]
        refine ihk (k + 1, some (k, xc + p)) _ ⟨by simp; omega, ?_, hbr⟩ (by simp; omega) (by simp [bI2, tailsV, intsV])
        intro j' c' e
        cases e
        refine ⟨h, hkA, by rw [hak, hlk]; exact hal, hkp, ?_⟩
        simp [hak, hlk, hpp, hxv]
      · rw [if_neg hlt2] at hbr
        have hlt3 : ¬ xc + p < yc + pj := by omega
        simp (disch := omega) [h, hkA, hak, hlk, hal, hal', wrap_i64, tailsV, bI2, intsV, hxv, tailV, hkp, hpp, j1, j2, haj, hlj, j3, hyv, j4, hpv, hjn, hlt3]
        exact ihk (k + 1, some (j, c)) _ ⟨by simp; omega, hb, hbr⟩ (by simp; omega) (by simp [bI2, tailsV, intsV])
  · have hkk : k = L.length := by omega
    subst hkk
    rw [drop_no (show ¬ L.length < (RA L A).length by omega), drop_no (show ¬ L.length < ps.length by omega)] at hbr
    have hbr : b = bstR (RA L A) ps 0 none := hbr
    rw [← hbr] at hall
    clear ihk hbr h
    cases b with
    | none =>
      simp only [List.append_nil] at hall
      subst hall
      simp [bI2]
      exact Ends.v rfl (by simp [tailsV])
    | some jc =>
      obtain ⟨j, c⟩ := jc
      obtain ⟨j1, j2, j3, j4, hcv⟩ := hb j c rfl
      have hrj := (hr _ (List.getElem_mem j1)).2 _ (List.getElem_mem j3)
      have hpj := hps _ (List.getElem_mem j4)
      have hgd : (RA L A).getD j [] = L[j][A[j]] :: L[j].drop (A[j] + 1) := by
        rw [List.getD_eq_getElem?_getD, RA_get L A j j1 j2, Option.getD_some, drop_at j3]
      have hset := RA_set L A j (A[j] + 1) j1
      have hpd : ps.getD j 0 = ps[j] := by simp [j4]
      simp only [hgd, hpd] at hall
      rw [← hset] at hall
      have hsetn : ((A.map fun a : Nat => PV.i a).set j (.i ((A[j] + 1 : Nat) : Int))) = (A.set j (A[j] + 1)).map fun a : Nat => PV.i a := by rw [List.map_set]
      have hAl2 : ∀ k (h1 : k < (A.set j (A[j] + 1)).length) (h2 : k < L.length), (A.set j (A[j] + 1))[k] ≤ L[k].length := by
        intro k h1 h2
        rw [List.getElem_set]
        split
        · rename_i e; subst e; exact j3
        · exact hAl k (by simpa using h1) h2
      have hA2 : (A.set j (A[j] + 1)).length = L.length := by simp [hA]
      have hjn : ¬ (j : Int) < 0 := by omega
      have hwr : A[j] ≤ 1000 := by have := (hr _ (List.getElem_mem j1)).1; omega
      generalize A.set j (A[j] + 1) = A2 at hsetn hAl2 hA2 hall
      generalize haj : A[j] = aj at j3 hall hrj hsetn hwr
      generalize hlj : L[j] = rj at j3 hall hrj
      generalize hyv : rj[aj] = y at hall hrj
      obtain ⟨yc, yt⟩ := y
      generalize hpv : ps[j] = pj at hall hpj
      simp only at hrj hall
      have hbl : (out.length + 1 + 1000) * 32 ≤ 70368744177664 := by omega
      have hbl2 : (1 + yt.length + 1000) * 8 ≤ 70368744177664 := by clear hbl; omega
      simp only [PV.i] at hsetn
      push_cast at hsetn
      cases tag with
      | none =>
        simp (disch := (clear hbl hbl2; omega)) [bI2, hjn, j1, j2, haj, hlj, j3, hyv, j4, hpv, wrap_i64, tailsV, tailV, intsV, natsV, bI9, hbl]
        have hnn2 : most - (out ++ [(cost + pj + yc, yt)]).length = nn := by clear hbl hbl2; simp; omega
        refine ih (A2, out ++ [(cost + pj + yc, yt)]) _ ⟨hA2, hAl2, by clear hbl hbl2; simp; omega, by rw [hnn2]; simpa [tgd] using hall⟩ (by clear hbl hbl2; simp; omega) ?_
        simp [hsetn, tailsV, intsV, tailV, natsV, bI9]
      | some tg =>
        have htn : ¬ (tg : Int) < 0 := by clear hbl hbl2; omega
        simp (disch := (clear hbl hbl2; omega)) [bI2, hjn, j1, j2, haj, hlj, j3, hyv, j4, hpv, wrap_i64, tailsV, tailV, intsV, natsV, bI9, hbl, hbl2, htn]
        have hnn2 : most - (out ++ [(cost + pj + yc, tg :: yt)]).length = nn := by clear hbl hbl2; simp; omega
        refine ih (A2, out ++ [(cost + pj + yc, tg :: yt)]) _ ⟨hA2, hAl2, by clear hbl hbl2; simp; omega, by rw [hnn2]; simpa [tgd] using hall⟩ (by clear hbl hbl2; simp; omega) ?_
        simp [hsetn, tailsV, intsV, tailV, natsV, bI9]

end Go.Proofs
