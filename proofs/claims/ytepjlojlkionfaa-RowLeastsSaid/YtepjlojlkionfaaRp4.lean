/- The walk. -/
import Derived.Test.YtepjlojlkionfaaRp3
import Derived.Test.YtepjlojlkionfaaProg
import Derived.KernelRfl
set_option linter.all false
set_option maxHeartbeats 2000000
namespace Go.Proofs
open Go Go.AM
attribute [local irreducible] Run Ends
/-- ablaut/row.Several -/
def c18 : MC :=
  .seq (.reg false [.op .none 3 (.box false (.t 0)),
    .op .none 6 (.nilS 2),
    .op .none 7 (.mv (.c (.w (.bool false)))),
    .op .none 8 (.mv (.c (.w (.int .i64 0))))]) <|
  .seq (.seq (.reg false [.op .none 27 (.ld true 6 (.t 3)),
    .op .none 28 (.mv (.t 1)),
    .call .none 29 (.f 42) [(.t 27), (.t 28)],
    .op .none 9 (.mv (.t 29))]) <|
  .seq (.reg false [.op .none 30 (.mv (.t 9)),
    .op .none 31 (.bin .neq (.t 30) (.c (.w (.int .i64 0))))]) <|
  .cond (.t 31)
    (.seq (.reg false [.op .none 32 (.mv (.t 9)),
      .op .none 6 (.nilS 2),
      .op .none 7 (.mv (.c (.w (.bool false)))),
      .op .none 8 (.mv (.t 32))]) <|
    .ret)
    (.skip)) <|
  .seq (.seq (.reg false [.op .none 33 (.mv (.t 2)),
    .op .none 34 (.bin .lss (.t 33) (.c (.w (.int .i64 1)))),
    .op .none 35 (.mv (.t 34)),
    .op (.some (35, false)) 36 (.mv (.t 2)),
    .op (.some (35, false)) 37 (.bin .gtr (.t 36) (.c (.w (.int .i64 200)))),
    .op .none 38 (.pick (.t 35) (.c (.w (.bool true))) (.t 37))]) <|
  .cond (.t 38)
    (.seq (.reg false [.op .none 6 (.nilS 2),
      .op .none 7 (.mv (.c (.w (.bool false)))),
      .op .none 8 (.mv (.c (.w (.int .i64 1))))]) <|
    .ret)
    (.skip)) <|
  .seq (.reg false [.op .none 39 (.ld true 6 (.t 3)),
    .op .none 40 (.mv (.t 1)),
    .call .none 41 (.f 43) [(.t 39), (.t 40)],
    .op .none 10 (.mv (.t 41))]) <|
  .seq (.reg false [.op .none 42 (.build false [(.w (.int .i64 0)), (.w (.int .i64 0)), (.sl 1 [])] []),
    .op .none 43 (.buildS false 3 1 true [(.w (.int .i64 0)), (.w (.int .i64 0)), (.sl 1 [])] [(0, (.t 42))]),
    .op .none 11 (.mv (.t 43))]) <|
  .seq (.seq (.reg false [.op .none 44 (.mv (.t 1)),
    .op .none 45 (.len false (.t 44)),
    .op .none 46 (.mv (.c (.w (.int .i64 0))))]) <|
  .block 0 <|
    .loop <|
      .seq (.reg false [.op .none 47 (.bin .lss (.t 46) (.t 45))]) <|
      .seq (.cond (.t 47)
        (.skip)
        (.exit 0)) <|
      .seq (.block 1 <|
        .seq (.reg false [.op .none 48 (.mv (.t 46)),
          .op .none 49 (.ia 1 (.t 44) (.t 46)),
          .op .none 50 (.ld false 1 (.t 49)),
          .op .none 12 (.mv (.t 48)),
          .op .none 13 (.mv (.t 50))]) <|
        .seq (.reg false [.op .none 14 (.nilS 3)]) <|
        .seq (.seq (.reg false [.op .none 51 (.mv (.t 11)),
          .op .none 52 (.len false (.t 51)),
          .op .none 53 (.mv (.c (.w (.int .i64 0))))]) <|
        .block 2 <|
          .loop <|
            .seq (.reg false [.op .none 54 (.bin .lss (.t 53) (.t 52))]) <|
            .seq (.cond (.t 54)
              (.skip)
              (.exit 2)) <|
            .seq (.block 3 <|
              .seq (.reg false [.op .none 55 (.ia 3 (.t 51) (.t 53)),
                .op .none 56 (.ld true 3 (.t 55)),
                .op .none 16 (.alloc true [(.w (.int .i64 0)), (.w (.int .i64 0)), (.sl 1 [])]),
                .store .none true 3 (.t 16) (.t 56)]) <|
              .seq (.reg false [.op .none 17 (.mv (.c (.w (.int .i64 (-1)))))]) <|
              .seq (.seq (.reg false [.op .none 57 (.mv (.t 12)),
                .op .none 58 (.bin .gtr (.t 57) (.c (.w (.int .i64 0))))]) <|
              .cond (.t 58)
                (.reg false [.op .none 59 (.fa 2 (.t 16)),
                  .op .none 60 (.ld false 1 (.t 59)),
                  .op .none 61 (.mv (.t 12)),
                  .op .none 62 (.bin .sub (.t 61) (.c (.w (.int .i64 1)))),
                  .op .none 63 (.ia 1 (.t 60) (.t 62)),
                  .op .none 64 (.ld false 1 (.t 63)),
                  .op .none 17 (.mv (.t 64))])
                (.skip)) <|
              .seq (.reg false [.op .none 65 (.ld true 6 (.t 3)),
                .op .none 66 (.mv (.t 13)),
                .call .none 67 (.f 44) [(.t 65), (.t 66)],
                .op .none 68 (.len false (.t 67)),
                .op .none 69 (.mv (.c (.w (.int .i64 0))))]) <|
              .block 4 <|
                .loop <|
                  .seq (.reg false [.op .none 70 (.bin .lss (.t 69) (.t 68))]) <|
                  .seq (.cond (.t 70)
                    (.skip)
                    (.exit 4)) <|
                  .seq (.block 5 <|
                    .seq (.reg false [.op .none 71 (.mv (.t 69)),
                      .op .none 72 (.ia 1 (.t 67) (.t 69)),
                      .op .none 73 (.ld false 1 (.t 72)),
                      .op .none 18 (.mv (.t 71)),
                      .op .none 19 (.mv (.t 73))]) <|
                    .seq (.seq (.reg false [.op .none 74 (.mv (.t 19)),
                      .op .none 75 (.bin .lss (.t 74) (.c (.w (.int .i64 0)))),
                      .op .none 76 (.mv (.t 75)),
                      .op (.some (76, false)) 77 (.mv (.t 10)),
                      .op (.some (76, false)) 78 (.mv (.t 12)),
                      .op (.some (76, false)) 79 (.ia 1 (.t 77) (.t 78)),
                      .op (.some (76, false)) 80 (.ld false 1 (.t 79)),
                      .op (.some (76, false)) 81 (.mv (.t 18)),
                      .op (.some (76, false)) 82 (.ia 1 (.t 80) (.t 81)),
                      .op (.some (76, false)) 83 (.ld false 1 (.t 82)),
                      .op (.some (76, false)) 84 (.bin .lss (.t 83) (.c (.w (.int .i64 0)))),
                      .op .none 85 (.pick (.t 76) (.c (.w (.bool true))) (.t 84))]) <|
                    .cond (.t 85)
                      (.exit 5)
                      (.skip)) <|
                    .seq (.reg true [.op .none 86 (.fa 0 (.t 16)),
                      .op .none 87 (.ld false 1 (.t 86)),
                      .op .none 88 (.mv (.t 19)),
                      .op .none 89 (.bin .add (.t 87) (.t 88)),
                      .op .none 90 (.ld true 6 (.t 3)),
                      .op .none 91 (.mv (.t 17)),
                      .op .none 92 (.mv (.t 18)),
                      .call .none 93 (.f 45) [(.t 90), (.t 91), (.t 92)],
                      .op .none 94 (.bin .add (.t 89) (.t 93)),
                      .op .none 20 (.mv (.t 94))]) <|
                    .reg true [.op .none 95 (.mv (.t 14)),
                      .op .none 96 (.mv (.t 20)),
                      .op .none 97 (.mv (.t 20)),
                      .op .none 98 (.mv (.t 10)),
                      .op .none 99 (.mv (.t 12)),
                      .op .none 100 (.ia 1 (.t 98) (.t 99)),
                      .op .none 101 (.ld false 1 (.t 100)),
                      .op .none 102 (.mv (.t 18)),
                      .op .none 103 (.ia 1 (.t 101) (.t 102)),
                      .op .none 104 (.ld false 1 (.t 103)),
                      .op .none 105 (.bin .add (.t 97) (.t 104)),
                      .op .none 106 (.fa 2 (.t 16)),
                      .op .none 107 (.ld false 1 (.t 106)),
                      .call .none 108 (.f 46) [(.t 107)],
                      .op .none 109 (.mv (.t 18)),
                      .op .none 110 (.buildS false 1 1 false [(.w (.int .i64 0))] [(0, (.t 109))]),
                      .op .none 111 (.appX false 108 111 1 8 (.t 108) (.t 110)),
                      .op .none 112 (.build true [(.w (.int .i64 0)), (.w (.int .i64 0)), (.sl 1 [])] [(0, 1, (.t 96)), (1, 1, (.t 105)), (2, 1, (.t 111))]),
                      .op .none 113 (.buildS true 3 1 true [(.w (.int .i64 0)), (.w (.int .i64 0)), (.sl 1 [])] [(0, (.t 112))]),
                      .op .none 114 (.app 3 40 (.t 95) (.t 113)),
                      .op .none 14 (.mv (.t 114))]) <|
                  .reg false [.op .none 115 (.bin .add (.t 69) (.c (.w (.int .i64 1)))),
                    .op .none 69 (.mv (.t 115))]) <|
            .reg false [.op .none 116 (.bin .add (.t 53) (.c (.w (.int .i64 1)))),
              .op .none 53 (.mv (.t 116))]) <|
        .seq (.reg false [.op .none 117 (.mv (.t 14)),
          .call .none 118 (.f 47) [(.t 117), (.f 48)]]) <|
        .reg false [.op .none 119 (.mv (.t 14)),
          .op .none 120 (.mv (.t 14)),
          .op .none 121 (.len false (.t 120)),
          .op .none 122 (.mv (.t 2)),
          .op .none 123 (.bin .add (.t 122) (.c (.w (.int .i64 1)))),
          .op .none 124 (.mm false (.t 121) (.t 123)),
          .op .none 125 (.slc false 3 (.t 119) .none (.some (.t 124))),
          .op .none 11 (.mv (.t 125))]) <|
      .reg false [.op .none 126 (.bin .add (.t 46) (.c (.w (.int .i64 1)))),
        .op .none 46 (.mv (.t 126))]) <|
  .seq (.reg false [.op .none 21 (.nilS 2)]) <|
  .seq (.seq (.reg false [.op .none 127 (.mv (.t 11)),
    .op .none 128 (.len false (.t 127)),
    .op .none 129 (.mv (.c (.w (.int .i64 0))))]) <|
  .block 6 <|
    .loop <|
      .seq (.reg false [.op .none 130 (.bin .lss (.t 129) (.t 128))]) <|
      .seq (.cond (.t 130)
        (.skip)
        (.exit 6)) <|
      .seq (.block 7 <|
        .seq (.reg false [.op .none 131 (.ia 3 (.t 127) (.t 129)),
          .op .none 132 (.ld true 3 (.t 131)),
          .op .none 23 (.alloc true [(.w (.int .i64 0)), (.w (.int .i64 0)), (.sl 1 [])]),
          .store .none true 3 (.t 23) (.t 132)]) <|
        .seq (.reg false [.op .none 133 (.fa 1 (.t 23)),
          .op .none 134 (.ld false 1 (.t 133)),
          .op .none 135 (.build false [(.w (.int .i64 0)), .nl] [(0, 1, (.t 134))]),
          .op .none 24 (.alcN [(.w (.int .i64 0)), (.sl 1 [])]),
          .store .none true 2 (.t 24) (.t 135)]) <|
        .seq (.seq (.reg false [.op .none 136 (.fa 2 (.t 23)),
          .op .none 137 (.ld false 1 (.t 136)),
          .op .none 138 (.len false (.t 137)),
          .op .none 139 (.mv (.c (.w (.int .i64 0))))]) <|
        .block 8 <|
          .loop <|
            .seq (.reg false [.op .none 140 (.bin .lss (.t 139) (.t 138))]) <|
            .seq (.cond (.t 140)
              (.skip)
              (.exit 8)) <|
            .seq (.block 9 <|
              .seq (.reg false [.op .none 141 (.ia 1 (.t 137) (.t 139)),
                .op .none 142 (.ld false 1 (.t 141)),
                .op .none 26 (.mv (.t 142))]) <|
              .reg true [.op .none 143 (.fa 1 (.t 24)),
                .op .none 144 (.ld false 1 (.t 143)),
                .op .none 145 (.fa 0 (.t 3)),
                .op .none 146 (.ld false 1 (.t 145)),
                .op .none 147 (.mv (.t 26)),
                .op .none 148 (.ia 1 (.t 146) (.t 147)),
                .op .none 149 (.ld false 1 (.t 148)),
                .op .none 150 (.buildS false 1 1 false [(.w (.string ⟨#[]⟩))] [(0, (.t 149))]),
                .op .none 151 (.app 1 16 (.t 144) (.t 150)),
                .op .none 152 (.fa 1 (.t 24)),
                .store .none false 0 (.t 152) (.t 151)]) <|
            .reg false [.op .none 153 (.bin .add (.t 139) (.c (.w (.int .i64 1)))),
              .op .none 139 (.mv (.t 153))]) <|
        .reg false [.op .none 154 (.mv (.t 21)),
          .op .none 155 (.ld true 2 (.t 24)),
          .op .none 156 (.buildS false 2 1 true [(.w (.int .i64 0)), (.sl 1 [])] [(0, (.t 155))]),
          .op .none 157 (.app 2 32 (.t 154) (.t 156)),
          .op .none 21 (.mv (.t 157))]) <|
      .reg false [.op .none 158 (.bin .add (.t 129) (.c (.w (.int .i64 1)))),
        .op .none 129 (.mv (.t 158))]) <|
  .seq (.reg false [.op .none 159 (.mv (.t 21)),
    .op .none 160 (.mv (.t 21)),
    .op .none 161 (.len false (.t 160)),
    .op .none 162 (.mv (.t 2)),
    .op .none 163 (.mm false (.t 161) (.t 162)),
    .op .none 164 (.slc false 2 (.t 159) .none (.some (.t 163))),
    .op .none 165 (.mv (.t 21)),
    .op .none 166 (.len false (.t 165)),
    .op .none 167 (.mv (.t 2)),
    .op .none 168 (.bin .gtr (.t 166) (.t 167)),
    .op .none 6 (.mv (.t 164)),
    .op .none 7 (.mv (.t 168)),
    .op .none 8 (.mv (.c (.w (.int .i64 0))))]) <|
  .ret
theorem k18 : FnCode Try.prog 18 [400024, 100152, 800135, 700111, 112, 113] 169 [6, 7, 8] c18 := ⟨Try.f18, Try.func18, fun xs W => Try.call18 xs W, by kernel_rfl, by kernel_rfl, by kernel_rfl⟩

theorem flatMap_len {α β : Type} (f : α → List β) (c : Nat) : ∀ (l : List α), (∀ x ∈ l, (f x).length ≤ c) → (l.flatMap f).length ≤ c * l.length
  | [], _ => by simp
  | x :: l, h => by
    have h1 := h x (by simp)
    have h2 := flatMap_len f c l fun y hy => h y (by simp [hy])
    rw [List.flatMap_cons, List.length_append, List.length_cons, Nat.mul_add, Nat.mul_one]
    omega
theorem extP_len (t : TagT) (l : List Bs) (i : Nat) (p : List Nat) : (extP t l i p).length ≤ t.1.length := by
  have := flatMap_len (ext1 t l i p) 1 (List.range t.1.length) fun k _ => ext1_len t l i p k
  simpa [extP] using this
theorem fokON (w : List Nat) (hw : w.length ≤ 1000000000) : FOk Try.prog 46 [.v (natsV w)] [] (.h 0) [(0, ⟨false, 1, w.map fun k : Nat => .i k⟩)] := by
  have h := fokO46 (w.map fun k : Nat => (k : Int)) (by simpa using hw)
  simp only [intsV, List.map_map] at h
  exact h
theorem fok18 (t : TagT) (l : List Bs) (m : Int) (ht : tagS t) (hl : l.length ≤ 200000000000000) : FOk Try.prog 18 [.v (tagV t), .v (.word l), .I m] [] (.tup [.v (.sl 2 ((sevF t l m).1.map fun a => rowV9 t (allP t l a) a)), .B (sevF t l m).2.1, .I (sevF t l m).2.2]) [] := by
  have h1 := fok42 t l ht hl
  have hO := chkF_ok (t := t) (n := l.length)
  have htc2 : tagV t = .st [.word t.1, intsV t.2.1, intsV t.2.2.1, .sl 1 (t.2.2.2.1.map intsV), .sl 2 (t.2.2.2.2.1.map worthV), intsV t.2.2.2.2.2.1] := by
    obtain ⟨G, Fi, Z, P, W, U, uu⟩ := t; rfl
  unfold sevF
  generalize chkF t l.length = v at h1 hO ⊢
  generalize hres : (if v ≠ 0 then (([], false, v) : List (List Nat) × Bool × Int) else if m < 1 ∨ 200 < m then ([], false, 1) else ((sevP t l m.toNat l.length).take m.toNat, decide (m.toNat < (sevP t l m.toNat l.length).length), 0)) = res
  refine FOk.val k18 (by simp) (by simp) (by decide) ?_
  rw [htc2] at h1 ⊢
  simp [c18]
  refine CallG.lent rfl rfl rfl rfl h1 rfl ?_
  by_cases hv : v = 0
  case neg =>
    rw [if_pos hv] at hres
    subst hres
    simp [hv]
    exact Ends.v rfl (by simp)
  subst hv
  rw [if_neg (by simp)] at hres
  by_cases c1 : m < 1
  · rw [if_pos (.inl c1)] at hres
    subst hres
    simp [c1]
    exact Ends.v rfl (by simp)
  by_cases c2 : 200 < m
  · rw [if_pos (.inr c2)] at hres
    subst hres
    have c2' : ¬ m ≤ 200 := by omega
    simp [c1, c2, c2']
    exact Ends.v rfl (by simp)
  have c2' : m ≤ 200 := by omega
  rw [if_neg (by omega)] at hres
  obtain ⟨hT, hn⟩ := hO rfl
  obtain ⟨mm, rfl⟩ := Int.eq_ofNat_of_zero_le (show 0 ≤ m by omega)
  simp only [Int.ofNat_eq_natCast, Int.toNat_natCast] at hres
  have hrest := fok43 t l hT hn
  have hcos := fun w => fok44 t w hT
  have hstp := fun b k => fok45 t b k hT
  have hcr := fun w => costsF_ok hT w
  have hrr := restF_rng hT
  rw [htc2] at hrest hcos hstp
  simp [c1, c2, c2']
  refine CallG.plain rfl rfl rfl rfl hrest (by simp) (by simp) ?_
  have hp0 : partV (costP t l) (allP t l) [] = .st [.i 0, .i 0, .sl 1 []] := by
    cases l <;> simp [partV, costP, cstG, allP, natsV]
  simp
  refine Run.loopA (ι := Nat) [(1, 3)] (fun i => i ≤ l.length) (fun i => ⟨[(2, .I mm), (3, .ptr 1 0 0), (10, .v (.sl 1 (rowsR t l 0))), (11, .v (.sl 3 ((sevP t l mm i).map (partV (costP t l) (allP t l))))), (44, .v (.word l)), (45, .I l.length), (46, .I i)], [(1, ⟨false, 6, [tagV t]⟩)], 1024⟩) (fun i => l.length - i) 0 (by decide) (by simp [htc2, sevP, hp0]) (by simp) ?_
  rintro i hi ih
  by_cases h : i < l.length
  · have hgood := sevP_good hT mm i hi
    have hplen := sevP_len t l mm i
    have hrow := rowsR_at t l (Nat.zero_le i) h
    have hc := hcos l[i]
    have hcl := csB_len (hcr l[i])
    have hcb := csB_rng (hcr l[i])
    have hnext : sevP t l mm (i + 1) = (srt (cmpP (allP t l)) ((sevP t l mm i).flatMap (extP t l i))).take (mm + 1) := rfl
    simp (disch := omega) [h, wrap_i64]
    generalize sevP t l mm i = ps at hgood hplen hnext
    have hg16 := hT.g
    have hgd : l.getD i [] = l[i] := by simp [h]
    have hpart : ∀ p k, GoodP t l i p → k < t.1.length → partV (costP t l) (allP t l) (p ++ [k]) = .st [.i (costP t l p + at0 (costsF t l[i]) k + stepF t p.getLast? k), .i (costP t l p + at0 (costsF t l[i]) k + stepF t p.getLast? k + at0 (restAt t l i) k), .sl 1 ((p.map fun k : Nat => .i k) ++ [.i (k : Nat)])] := by
      intro p k hp hk
      have h1 := costP_snoc t l p k (by rw [hp.len]; exact h)
      rw [hp.len, hgd] at h1
      simp only [partV, allP_snoc, h1, hp.len, natsV, List.map_append, List.map_cons, List.map_nil]
    have hexl := fun p => extP_len t l i p
    have hst2 := fun p (hp : GoodP t l i p) k hk => hstp p.getLast? k hk (fun b' hb => hp.lt b' (List.mem_of_getLast? hb))
    have hstr := fun p (hp : GoodP t l i p) k hk => stepF_rng hT (b := p.getLast?) (k := k) hk (fun b' hb => hp.lt b' (List.mem_of_getLast? hb))
    have he1 : ∀ p k, ext1 t l i p k = if at0 (costsF t l[i]) k < 0 then [] else if at0 (restAt t l i) k < 0 then [] else [p ++ [k]] := fun p k => by rw [← hgd]; rfl
    have hm := hrr (l.drop i) (restAt t l i) (by
      have := restF_cons t l h
      unfold restAt
      rw [this]; simp)
    change (rowsR t l 0)[i]? = some (intsV (restAt t l i)) at hrow
    generalize restAt t l i = r at hpart he1 hm hrow
    generalize hcc : costsF t l[i] = c at hpart he1 hc hcl hcb
    obtain ⟨hrl, hrv⟩ := hm
    have hdl : (l.drop i).length ≤ 200 := by simp; omega
    obtain ⟨hro1, hro2⟩ := List.getElem?_eq_some_iff.1 hrow
    refine Run.loopA (ι := Nat) [(1, 3), (2, 14)] (fun j => j ≤ ps.length) (fun j => ⟨[(2, .I mm), (3, .ptr 1 0 0), (10, .v (.sl 1 (rowsR t l 0))), (12, .I i), (13, .S l[i]), (14, .h 2), (44, .v (.word l)), (45, .I l.length), (46, .I i), (51, .v (.sl 3 (ps.map (partV (costP t l) (allP t l))))), (52, .I ps.length), (53, .I j)], [(2, ⟨false, 3, ((ps.take j).flatMap (extP t l i)).map (partV (costP t l) (allP t l))⟩), (1, ⟨false, 6, [tagV t]⟩)], 1024⟩) (fun j => ps.length - j) 0 (by decide) (by simp [htc2]) (by simp) ?_
    rintro j hj ihj
    by_cases hjl : j < ps.length
    · have hp := hgood _ (List.getElem_mem hjl)
      have htk : ps.take (j + 1) = ps.take j ++ [ps[j]] := List.take_succ_eq_append_getElem hjl
      have hbase := flatMap_len (extP t l i) t.1.length (ps.take j) fun x _ => hexl x
      have hbase2 : ((ps.take j).flatMap (extP t l i)).length ≤ 4000 := by
        refine Nat.le_trans hbase (Nat.le_trans (Nat.mul_le_mul hg16 (show (ps.take j).length ≤ 201 by simp; omega)) (by decide))
      have hfm : (ps.take (j + 1)).flatMap (extP t l i) = (ps.take j).flatMap (extP t l i) ++ extP t l i ps[j] := by
        rw [htk, List.flatMap_append]; simp
      generalize hpp : ps[j] = p at hp hfm
      generalize (ps.take j).flatMap (extP t l i) = base at hfm hbase2
      have hst3 := hst2 p hp
      have hstr3 := hstr p hp
      have hpart3 := fun k hk => hpart p k hp hk
      have hcln := fokON p (by have := hp.len; omega)
      have hpl := hp.len
      have hp200 : p.length ≤ 200 := by rw [hpl]; exact Nat.le_trans hi hn
      have hbl1 : (p.length + 1 + 1000) * 8 ≤ 70368744177664 := by clear ihj ih hstr3 hstr; omega
      by_cases hi0 : i = 0
      case' pos =>
        have hlast : p.getLast? = none := by rw [List.getLast?_eq_none_iff]; exact List.length_eq_zero_iff.1 (by omega)
        have hi1 : ¬ 0 < i := by omega
        simp (disch := omega) [hjl, hpp, wrap_i64, htc2, partV, natsV, hi1]
      case' neg =>
        have hlt : i - 1 < p.length := by omega
        have hlast : p.getLast? = some p[i - 1] := by rw [List.getLast?_eq_getElem?, hpl, List.getElem?_eq_getElem hlt]
        have hi1 : 0 < i := by omega
        have e2 : ((i : Int) - 1).toNat = i - 1 := by omega
        have e3 : (0 : Int) ≤ (i : Int) - 1 := by omega
        have e4 : 1 ≤ i := by omega
        simp (disch := omega) [hjl, hpp, wrap_i64, htc2, partV, natsV, hi1, e2, e3, e4, hlt]
      all_goals
        refine CallG.plain rfl rfl rfl rfl hc (by simp) (by simp) ?_
        simp [intsV]
        refine Run.loopA (ι := Nat) [(1, 3), (2, 14), (3, 16)] (fun k => k ≤ t.1.length) (fun k => ⟨[(2, .I mm), (3, .ptr 1 0 0), (10, .v (.sl 1 (rowsR t l 0))), (12, .I i), (13, .S l[i]), (14, .h 2), (16, .ptr 3 0 0), (17, .I (bI9 p.getLast?)), (44, .v (.word l)), (45, .I l.length), (46, .I i), (51, .v (.sl 3 (ps.map (partV (costP t l) (allP t l))))), (52, .I ps.length), (53, .I j), (67, .v (intsV c)), (68, .I t.1.length), (69, .I k)], [(2, ⟨false, 3, (base ++ (List.range k).flatMap (ext1 t l i p)).map (partV (costP t l) (allP t l))⟩), (3, ⟨false, 3, [partV (costP t l) (allP t l) p]⟩), (1, ⟨false, 6, [tagV t]⟩)], 1024⟩) (fun k => t.1.length - k) 0 (by decide) (by simp [htc2, intsV, hlast, bI9, partV, natsV, hcl]) (by simp) ?_
        rintro k hk ihk
        by_cases hkn : k < t.1.length
        · have hkc : k < c.length := by omega
          have hkr : k < r.length := by omega
          have hfk : (List.range (k + 1)).flatMap (ext1 t l i p) = (List.range k).flatMap (ext1 t l i p) ++ ext1 t l i p k := by
            rw [List.range_succ, List.flatMap_append]; simp
          have hfl := flatMap_len (ext1 t l i p) 1 (List.range k) fun x _ => ext1_len t l i p x
          rw [List.length_range] at hfl
          have hek := he1 p k
          have hcv := hcb _ (List.getElem_mem hkc)
          have hrv2 := hrv _ (List.getElem_mem hkr)
          have hst4 := hst3 k hkn
          have hstr4 := hstr3 k hkn
          have hpart4 := fun h => hpart3 k h
          rw [at0_eq hkc, at0_eq hkr] at hek hpart4
          generalize (List.range k).flatMap (ext1 t l i p) = acc at hfk hfl
          generalize hck : c[k] = ck at hcv hek hpart4
          generalize hrk : r[k] = rk at hrv2 hek hpart4
          by_cases q1 : ck < 0
          · rw [if_pos q1] at hek
            have hk1 : acc = (List.range (k + 1)).flatMap (ext1 t l i p) := by rw [hfk, hek, List.append_nil]
            simp (disch := omega) [hkn, hck, hkc, q1, wrap_i64, intsV]
            exact ihk (k + 1) _ (by omega) (by omega) (by simp [htc2, intsV, partV, natsV, ← hk1])
          rw [if_neg q1] at hek
          by_cases q2 : rk < 0
          · rw [if_pos q2] at hek
            have hk1 : acc = (List.range (k + 1)).flatMap (ext1 t l i p) := by rw [hfk, hek, List.append_nil]
            simp (disch := omega) [hkn, hck, hkc, q1, wrap_i64, intsV, hro1, hro2, hkr, hrk, q2]
            exact ihk (k + 1) _ (by omega) (by omega) (by simp [htc2, intsV, partV, natsV, ← hk1])
          rw [if_neg q2] at hek
          have hk1 : acc ++ [p ++ [k]] = (List.range (k + 1)).flatMap (ext1 t l i p) := by rw [hfk, hek]
          have hgp := hp.c0
          have hgp1 := hp.c1
          generalize stepF t p.getLast? k = sv at hst4 hstr4 hpart4
          have hcst : costP t l p ≤ 40000000000 := by omega
          simp only [natsV] at hcln
          have hbl2 : (base.length + acc.length + 1 + 1000) * 40 ≤ 70368744177664 := by clear hbl1; omega
          simp (disch := (clear hbl1 hbl2; omega)) [hkn, hck, hkc, q1, wrap_i64, intsV, hro1, hro2, hkr, hrk, q2, htc2, partV, natsV]
          simp only [intsV] at hst4
          refine CallG.lent rfl rfl rfl rfl hst4 rfl ?_
          simp (disch := (clear hbl1 hbl2; omega)) [wrap_i64, partV, natsV, intsV, hro1, hro2, hkr, hrk, h]
          refine CallG.plain rfl rfl rfl rfl hcln (by simp) (by simp) ?_
          simp (disch := (clear hbl1 hbl2; omega)) [wrap_i64, hbl1, hbl2]
          clear hbl2
          refine ihk (k + 1) _ (by clear hbl1; omega) (by clear hbl1; omega) ?_
          have hpv := hpart4 hkn
          simp [htc2, intsV, ← hk1, hpv]
          simp [partV, natsV]
        · have hkk : k = t.1.length := by clear hbl1; omega
          subst hkk
          simp (disch := (clear hbl1; omega)) [wrap_i64]
          exact ihj (j + 1) _ (by clear hbl1; omega) (by clear hbl1; omega) (by simp [htc2, hfm, extP])
    · have hjj : j = ps.length := by omega
      subst hjj
      rw [List.take_length]
      have hnl := flatMap_len (extP t l i) t.1.length ps fun x _ => hexl x
      have hnl2 : (ps.flatMap (extP t l i)).length ≤ 4000 := Nat.le_trans hnl (Nat.le_trans (Nat.mul_le_mul hg16 (show ps.length ≤ 201 by omega)) (by simp))
      have hng : ∀ a ∈ ps.flatMap (extP t l i), a.length ≤ 1000 := by
        intro a ha
        rw [List.mem_flatMap] at ha
        obtain ⟨p, hp, ha⟩ := ha
        simp only [extP, List.mem_flatMap, List.mem_range] at ha
        obtain ⟨k, hk, ha⟩ := ha
        have := (ext1_good hT h (hgood p hp) hk a ha).len
        omega
      have hsort := fok47 (costP t l) (allP t l) (ps.flatMap (extP t l i)) (by omega) hng
      have hsl := srt_len (c := cmpP (allP t l)) (ps.flatMap (extP t l i))
      generalize ps.flatMap (extP t l i) = nx at hnext hnl2 hsort hsl ⊢
      generalize srt (cmpP (allP t l)) nx = so at hnext hsort hsl
      simp
      refine CallG.rows [2] rfl rfl rfl rfl (by simp) (by simp) hsort (by simp) (by simp) ?_
      by_cases hmin : mm + 1 < so.length
      · have m1 : (mm : Int) + 1 < so.length := by omega
        have m2 : mm + 1 ≤ so.length := by omega
        have m3 : (mm : Int) + 1 ≤ so.length := by omega
        simp (disch := omega) [wrap_i64, m1, m2, m3]
        exact ih (i + 1) _ (by omega) (by omega) (by simp [htc2, hnext, toNat1])
      · have m1 : ¬ (mm : Int) + 1 < so.length := by omega
        have m2 : so.take (mm + 1) = so := List.take_of_length_le (by omega)
        have m3 : (so.map (partV (costP t l) (allP t l))).take so.length = so.map (partV (costP t l) (allP t l)) := List.take_of_length_le (by simp)
        simp (disch := omega) [wrap_i64, m1]
        exact ih (i + 1) _ (by omega) (by omega) (by simp [htc2, hnext, m2, m3])
  · have hil : i = l.length := by omega
    subst hil
    have hgood := sevP_good hT mm l.length (Nat.le_refl _)
    have hplen := sevP_len t l mm l.length
    obtain ⟨ps, hps⟩ : ∃ ps, ps = sevP t l mm l.length := ⟨_, rfl⟩
    have hres : res = (ps.take mm, decide (mm < ps.length), 0) := by rw [← hres, hps]
    rw [← hps] at hgood hplen ⊢
    clear hps
    obtain ⟨nv, hnv⟩ : ∃ nv : Nat → PV, ∀ x, nv x = .w (.string (bs (t.1.getD x []))) := ⟨_, fun _ => rfl⟩
    obtain ⟨rv, hrv⟩ : ∃ rv : List Nat → PV, rv = fun a => rowV9 t (allP t l a) a := ⟨_, rfl⟩
    have hrv2 : ∀ a, rv a = .st [.i (allP t l a), .sl 1 (a.map nv)] := by
      intro a
      rw [hrv]
      simp only [rowV9, PV.word, List.map_map]
      have e : ((fun s => PV.w (Value.string (bs s))) ∘ fun k => t.1.getD k []) = nv := by funext x; simp [hnv]
      rw [e]
    rw [← hrv]
    clear hrv
    simp [htc2]
    refine Run.loopA (ι := Nat) [(1, 3), (2, 21)] (fun j => j ≤ ps.length) (fun j => ⟨[(2, .I mm), (3, .ptr 1 0 0), (21, .h 2), (127, .v (.sl 3 (ps.map (partV (costP t l) (allP t l))))), (128, .I ps.length), (129, .I j)], [(2, ⟨false, 2, (ps.map rv).take j⟩), (1, ⟨false, 6, [tagV t]⟩)], 1024⟩) (fun j => ps.length - j) 0 (by decide) (by simp [htc2]) (by simp) ?_
    rintro j hj ihj
    by_cases hjl : j < ps.length
    · have hp := hgood _ (List.getElem_mem hjl)
      have htk : (ps.map rv).take j ++ [rv ps[j]] = (ps.map rv).take (j + 1) := by
        rw [List.take_succ_eq_append_getElem (show j < (ps.map rv).length by simpa using hjl)]; simp
      generalize hpp : ps[j] = p at hp htk
      rw [hrv2 p] at htk
      simp only [PV.i] at htk
      simp (disch := omega) [hjl, hpp, wrap_i64, htc2, partV, natsV]
      have hw : ∀ k (hk : k < p.length), (p.map nv).take k ++ [nv p[k]] = (p.map nv).take (k + 1) := by
        intro k hk
        rw [List.take_succ_eq_append_getElem (show k < (p.map nv).length by simpa using hk)]; simp
      have hlt := hp.lt
      have hpl := hp.len
      generalize allP t l p = cc at htk ⊢
      refine Run.loopA (ι := Nat) [(1, 3), (2, 21), (3, 24), (4, 151)] (fun k => k ≤ p.length) (fun k => match k with
        | 0 => ⟨[(2, .I mm), (3, .ptr 1 0 0), (21, .h 2), (24, .ptr 3 0 0), (127, .v (.sl 3 (ps.map (partV (costP t l) (allP t l))))), (128, .I ps.length), (129, .I j), (137, .v (natsV p)), (138, .I p.length), (139, .I 0)], [(3, ⟨false, 0, [.st [], .i cc, .nl]⟩), (2, ⟨false, 2, (ps.map rv).take j⟩), (1, ⟨false, 6, [tagV t]⟩)], 1024⟩
        | k + 1 => ⟨[(2, .I mm), (3, .ptr 1 0 0), (21, .h 2), (24, .ptr 3 0 0), (127, .v (.sl 3 (ps.map (partV (costP t l) (allP t l))))), (128, .I ps.length), (129, .I j), (137, .v (natsV p)), (138, .I p.length), (139, .I (k + 1 : Nat)), (151, .h 4)], [(3, ⟨false, 0, [encR 1 4, .i cc, .nl]⟩), (4, ⟨false, 1, (p.map nv).take (k + 1)⟩), (2, ⟨false, 2, (ps.map rv).take j⟩), (1, ⟨false, 6, [tagV t]⟩)], 1024⟩) (fun k => p.length - k) 0 (by decide) (by simp [htc2, natsV]) (by simp) ?_
      rintro k hk ihk
      by_cases hkl : k < p.length
      · have hg := hlt _ (List.getElem_mem hkl)
        have hwk := hw k hkl
        have hgd : t.1.getD p[k] [] = t.1[p[k]] := by simp [hg]
        rw [hnv, hgd] at hwk
        generalize hpk : p[k] = x at hg hwk
        rcases k with _ | k
        · simp (disch := omega) [hkl, hpk, hg, wrap_i64, htc2, natsV]
          refine ihk 1 _ (by omega) (by omega) ?_
          simp only [List.take_zero, List.nil_append] at hwk
          simp [htc2, natsV, hwk]
        · have hbl : (k + 1 + 1 + 1000) * 16 ≤ 70368744177664 := by omega
          have hmn : min (k + 1) p.length = k + 1 := by omega
          simp (disch := (clear hbl; omega)) [hkl, hpk, hg, wrap_i64, htc2, natsV, hbl, hmn]
          refine ihk (k + 1 + 1) _ (by clear hbl; omega) (by clear hbl; omega) ?_
          simp [htc2, natsV, hwk]
      · have hkk : k = p.length := by omega
        have hbl : (j + 1 + 1000) * 32 ≤ 70368744177664 := by omega
        have hmn : min j ps.length = j := by omega
        subst hkk
        rcases hpe : p.length with _ | k
        · have hpn : p = [] := List.length_eq_zero_iff.1 hpe
          subst hpn
          simp (disch := (clear hbl; omega)) [wrap_i64, hbl, hmn]
          simp only [List.map_nil] at htk
          exact ihj (j + 1) _ (by clear hbl; omega) (by clear hbl; omega) (by simp [htc2, htk])
        · have hpt : (p.map nv).take (k + 1) = p.map nv := List.take_of_length_le (by simp; omega)
          simp (disch := (clear hbl; omega)) [wrap_i64, hbl, hmn, hpe]
          exact ihj (j + 1) _ (by clear hbl; omega) (by clear hbl; omega) (by simp [htc2, htk, hpt])
    · have hjj : j = ps.length := by omega
      subst hjj
      subst hres
      have hRl : (ps.map rv).length = ps.length := by simp
      simp only [List.map_take]
      generalize ps.map rv = R at hRl ⊢
      rw [← hRl, List.take_length]
      rw [← hRl] at hplen
      by_cases hmin : mm < R.length
      · have m1 : (mm : Int) < R.length := by omega
        have m2 : mm ≤ R.length := by omega
        simp (disch := omega) [wrap_i64, hmin, m1, m2]
        exact Ends.v rfl (by simp)
      · have m1 : ¬ (mm : Int) < R.length := by omega
        have m2 : R.take mm = R := List.take_of_length_le (by omega)
        simp (disch := omega) [wrap_i64, hmin, m1]
        exact Ends.v rfl (by simp [m2])

end Go.Proofs
