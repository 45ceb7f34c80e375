/- The walk. -/
import Derived.Test.YtepjlojlkionfaaRv2
import Derived.Test.YtepjlojlkionfaaProg
import Derived.KernelRfl
set_option linter.all false
set_option maxHeartbeats 2000000
namespace Go.Proofs
open Go Go.AM
attribute [local irreducible] Run Ends
/-- ablaut/row.Beam -/
def c27 : MC :=
  .seq (.reg false [.op .none 3 (.box false (.t 0)),
    .op .none 6 (.nilS 1),
    .op .none 7 (.mv (.c (.w (.int .i64 0)))),
    .op .none 8 (.mv (.c (.w (.bool false)))),
    .op .none 9 (.mv (.c (.w (.int .i64 0))))]) <|
  .seq (.seq (.reg false [.op .none 28 (.ld true 6 (.t 3)),
    .op .none 29 (.mv (.t 1)),
    .call .none 30 (.f 42) [(.t 28), (.t 29)],
    .op .none 10 (.mv (.t 30))]) <|
  .seq (.reg false [.op .none 31 (.mv (.t 10)),
    .op .none 32 (.bin .neq (.t 31) (.c (.w (.int .i64 0))))]) <|
  .cond (.t 32)
    (.seq (.reg false [.op .none 33 (.mv (.t 10)),
      .op .none 6 (.nilS 1),
      .op .none 7 (.mv (.c (.w (.int .i64 0)))),
      .op .none 8 (.mv (.c (.w (.bool false)))),
      .op .none 9 (.mv (.t 33))]) <|
    .ret)
    (.skip)) <|
  .seq (.seq (.reg false [.op .none 34 (.mv (.t 2)),
    .op .none 35 (.bin .lss (.t 34) (.c (.w (.int .i64 1)))),
    .op .none 36 (.mv (.t 35)),
    .op (.some (36, false)) 37 (.mv (.t 2)),
    .op (.some (36, false)) 38 (.bin .gtr (.t 37) (.c (.w (.int .i64 16)))),
    .op .none 39 (.pick (.t 36) (.c (.w (.bool true))) (.t 38))]) <|
  .cond (.t 39)
    (.seq (.reg false [.op .none 6 (.nilS 1),
      .op .none 7 (.mv (.c (.w (.int .i64 0)))),
      .op .none 8 (.mv (.c (.w (.bool false)))),
      .op .none 9 (.mv (.c (.w (.int .i64 1))))]) <|
    .ret)
    (.skip)) <|
  .seq (.reg false [.op .none 40 (.build false [(.w (.int .i64 0)), (.w (.int .i64 0)), (.sl 1 [])] []),
    .op .none 41 (.buildS false 3 1 true [(.w (.int .i64 0)), (.w (.int .i64 0)), (.sl 1 [])] [(0, (.t 40))]),
    .op .none 11 (.mv (.t 41))]) <|
  .seq (.seq (.reg false [.op .none 42 (.mv (.t 1)),
    .op .none 43 (.len false (.t 42)),
    .op .none 44 (.mv (.c (.w (.int .i64 0))))]) <|
  .block 0 <|
    .loop <|
      .seq (.reg false [.op .none 45 (.bin .lss (.t 44) (.t 43))]) <|
      .seq (.cond (.t 45)
        (.skip)
        (.exit 0)) <|
      .seq (.block 1 <|
        .seq (.reg false [.op .none 46 (.mv (.t 44)),
          .op .none 47 (.ia 1 (.t 42) (.t 44)),
          .op .none 48 (.ld false 1 (.t 47)),
          .op .none 12 (.mv (.t 46)),
          .op .none 13 (.mv (.t 48))]) <|
        .seq (.reg false [.op .none 14 (.alcN (List.replicate 16 .nl))]) <|
        .seq (.seq (.reg false [.op .none 49 (.mv (.t 11)),
          .op .none 50 (.len false (.t 49)),
          .op .none 51 (.mv (.c (.w (.int .i64 0))))]) <|
        .block 2 <|
          .loop <|
            .seq (.reg false [.op .none 52 (.bin .lss (.t 51) (.t 50))]) <|
            .seq (.cond (.t 52)
              (.skip)
              (.exit 2)) <|
            .seq (.block 3 <|
              .seq (.reg false [.op .none 53 (.ia 3 (.t 49) (.t 51)),
                .op .none 54 (.ld true 3 (.t 53)),
                .op .none 16 (.alloc true [(.w (.int .i64 0)), (.w (.int .i64 0)), (.sl 1 [])]),
                .store .none true 3 (.t 16) (.t 54)]) <|
              .seq (.reg false [.op .none 17 (.mv (.c (.w (.int .i64 (-1)))))]) <|
              .seq (.seq (.reg false [.op .none 55 (.mv (.t 12)),
                .op .none 56 (.bin .gtr (.t 55) (.c (.w (.int .i64 0))))]) <|
              .cond (.t 56)
                (.reg false [.op .none 57 (.fa 2 (.t 16)),
                  .op .none 58 (.ld false 1 (.t 57)),
                  .op .none 59 (.mv (.t 12)),
                  .op .none 60 (.bin .sub (.t 59) (.c (.w (.int .i64 1)))),
                  .op .none 61 (.ia 1 (.t 58) (.t 60)),
                  .op .none 62 (.ld false 1 (.t 61)),
                  .op .none 17 (.mv (.t 62))])
                (.skip)) <|
              .seq (.reg false [.op .none 63 (.ld true 6 (.t 3)),
                .op .none 64 (.mv (.t 13)),
                .call .none 65 (.f 44) [(.t 63), (.t 64)],
                .op .none 66 (.len false (.t 65)),
                .op .none 67 (.mv (.c (.w (.int .i64 0))))]) <|
              .block 4 <|
                .loop <|
                  .seq (.reg false [.op .none 68 (.bin .lss (.t 67) (.t 66))]) <|
                  .seq (.cond (.t 68)
                    (.skip)
                    (.exit 4)) <|
                  .seq (.block 5 <|
                    .seq (.reg false [.op .none 69 (.mv (.t 67)),
                      .op .none 70 (.ia 1 (.t 65) (.t 67)),
                      .op .none 71 (.ld false 1 (.t 70)),
                      .op .none 18 (.mv (.t 69)),
                      .op .none 19 (.mv (.t 71))]) <|
                    .seq (.reg false [.op .none 72 (.mv (.t 19)),
                      .op .none 73 (.bin .geq (.t 72) (.c (.w (.int .i64 0))))]) <|
                    .cond (.t 73)
                      (.reg true [.op .none 74 (.mv (.t 18)),
                        .op .none 75 (.mv (.t 18)),
                        .op .none 76 (.iaA 16 1 (.t 14) (.t 75)),
                        .op .none 77 (.ld false 1 (.t 76)),
                        .op .none 78 (.fa 0 (.t 16)),
                        .op .none 79 (.ld false 1 (.t 78)),
                        .op .none 80 (.mv (.t 19)),
                        .op .none 81 (.bin .add (.t 79) (.t 80)),
                        .op .none 82 (.ld true 6 (.t 3)),
                        .op .none 83 (.mv (.t 17)),
                        .op .none 84 (.mv (.t 18)),
                        .call .none 85 (.f 45) [(.t 82), (.t 83), (.t 84)],
                        .op .none 86 (.bin .add (.t 81) (.t 85)),
                        .op .none 87 (.fa 2 (.t 16)),
                        .op .none 88 (.ld false 1 (.t 87)),
                        .call .none 89 (.f 46) [(.t 88)],
                        .op .none 90 (.mv (.t 18)),
                        .op .none 91 (.buildS false 1 1 false [(.w (.int .i64 0))] [(0, (.t 90))]),
                        .op .none 92 (.appX true 89 92 1 8 (.t 89) (.t 91)),
                        .op .none 93 (.build false [(.w (.int .i64 0)), (.w (.int .i64 0)), (.sl 1 [])] [(0, 1, (.t 86)), (2, 1, (.t 92))]),
                        .op .none 94 (.buildS false 3 1 true [(.w (.int .i64 0)), (.w (.int .i64 0)), (.sl 1 [])] [(0, (.t 93))]),
                        .op .none 95 (.app 3 40 (.t 77) (.t 94)),
                        .op .none 96 (.iaA 16 1 (.t 14) (.t 74)),
                        .store .none false 0 (.t 96) (.t 95)])
                      (.skip)) <|
                  .reg false [.op .none 97 (.bin .add (.t 67) (.c (.w (.int .i64 1)))),
                    .op .none 67 (.mv (.t 97))]) <|
            .reg false [.op .none 98 (.bin .add (.t 51) (.c (.w (.int .i64 1)))),
              .op .none 51 (.mv (.t 98))]) <|
        .seq (.reg false [.op .none 11 (.nilS 3)]) <|
        .seq (.seq (.reg false [.op .none 99 (.ld true 16 (.t 14)),
          .op .none 100 (.mv (.c (.w (.int .i64 0))))]) <|
        .block 6 <|
          .loop <|
            .seq (.reg false [.op .none 101 (.bin .lss (.t 100) (.c (.w (.int .i64 16))))]) <|
            .seq (.cond (.t 101)
              (.skip)
              (.exit 6)) <|
            .seq (.block 7 <|
              .seq (.reg false [.op .none 102 (.aix false 16 1 (.t 99) (.t 100)),
                .op .none 21 (.mv (.t 102))]) <|
              .seq (.reg false [.op .none 103 (.mv (.t 21)),
                .op .none 104 (.len false (.t 103)),
                .op .none 105 (.bin .gtr (.t 104) (.c (.w (.int .i64 0))))]) <|
              .cond (.t 105)
                (.reg false [.op .none 106 (.mv (.t 11)),
                  .op .none 107 (.mv (.t 21)),
                  .call .none 108 (.f 64) [(.t 107), (.f 65)],
                  .op .none 109 (.buildS false 3 1 true [(.w (.int .i64 0)), (.w (.int .i64 0)), (.sl 1 [])] [(0, (.t 108))]),
                  .op .none 110 (.app 3 40 (.t 106) (.t 109)),
                  .op .none 11 (.mv (.t 110))])
                (.skip)) <|
            .reg false [.op .none 111 (.bin .add (.t 100) (.c (.w (.int .i64 1)))),
              .op .none 100 (.mv (.t 111))]) <|
        .seq (.reg false [.op .none 112 (.mv (.t 11)),
          .call .none 113 (.f 47) [(.t 112), (.f 65)]]) <|
        .reg false [.op .none 114 (.mv (.t 11)),
          .op .none 115 (.mv (.t 11)),
          .op .none 116 (.len false (.t 115)),
          .op .none 117 (.mv (.t 2)),
          .op .none 118 (.mm false (.t 116) (.t 117)),
          .op .none 119 (.slc true 3 (.t 114) .none (.some (.t 118))),
          .op .none 11 (.mv (.t 119))]) <|
      .reg false [.op .none 120 (.bin .add (.t 44) (.c (.w (.int .i64 1)))),
        .op .none 44 (.mv (.t 120))]) <|
  .seq (.seq (.reg false [.op .none 121 (.mv (.t 11)),
    .op .none 122 (.len false (.t 121)),
    .op .none 123 (.mv (.c (.w (.int .i64 0))))]) <|
  .block 8 <|
    .loop <|
      .seq (.reg false [.op .none 124 (.bin .lss (.t 123) (.t 122))]) <|
      .seq (.cond (.t 124)
        (.skip)
        (.exit 8)) <|
      .seq (.block 9 <|
        .seq (.reg false [.op .none 125 (.mv (.t 123)),
          .op .none 126 (.ia 3 (.t 121) (.t 123)),
          .op .none 127 (.ld true 3 (.t 126)),
          .op .none 23 (.alloc true [(.w (.int .i64 0)), (.w (.int .i64 0)), (.sl 1 [])]),
          .op .none 22 (.mv (.t 125)),
          .store .none true 3 (.t 23) (.t 127)]) <|
        .seq (.reg false [.op .none 128 (.mv (.t 1)),
          .op .none 129 (.len false (.t 128)),
          .op .none 130 (.bin .gtr (.t 129) (.c (.w (.int .i64 0))))]) <|
        .cond (.t 130)
          (.reg true [.op .none 131 (.mv (.t 11)),
            .op .none 132 (.mv (.t 22)),
            .op .none 133 (.ia 3 (.t 131) (.t 132)),
            .op .none 134 (.fa 0 (.t 133)),
            .op .none 135 (.ld false 1 (.t 134)),
            .op .none 136 (.fa 2 (.t 3)),
            .op .none 137 (.ld false 1 (.t 136)),
            .op .none 138 (.fa 2 (.t 23)),
            .op .none 139 (.ld false 1 (.t 138)),
            .op .none 140 (.mv (.t 1)),
            .op .none 141 (.len false (.t 140)),
            .op .none 142 (.bin .sub (.t 141) (.c (.w (.int .i64 1)))),
            .op .none 143 (.ia 1 (.t 139) (.t 142)),
            .op .none 144 (.ld false 1 (.t 143)),
            .op .none 145 (.ia 1 (.t 137) (.t 144)),
            .op .none 146 (.ld false 1 (.t 145)),
            .op .none 147 (.bin .add (.t 135) (.t 146)),
            .op .none 148 (.ia 3 (.t 131) (.t 132)),
            .op .none 149 (.fa 0 (.t 148)),
            .store .none false 1 (.t 149) (.t 147)])
          (.skip)) <|
      .reg false [.op .none 150 (.bin .add (.t 123) (.c (.w (.int .i64 1)))),
        .op .none 123 (.mv (.t 150))]) <|
  .seq (.seq (.reg false [.op .none 151 (.mv (.t 11)),
    .op .none 152 (.len false (.t 151)),
    .op .none 153 (.bin .eql (.t 152) (.c (.w (.int .i64 0))))]) <|
  .cond (.t 153)
    (.seq (.reg false [.op .none 6 (.nilS 1),
      .op .none 7 (.mv (.c (.w (.int .i64 0)))),
      .op .none 8 (.mv (.c (.w (.bool false)))),
      .op .none 9 (.mv (.c (.w (.int .i64 0))))]) <|
    .ret)
    (.skip)) <|
  .seq (.reg false [.op .none 154 (.mv (.t 11)),
    .call .none 155 (.f 64) [(.t 154), (.f 65)],
    .op .none 24 (.alloc true [(.w (.int .i64 0)), (.w (.int .i64 0)), (.sl 1 [])]),
    .store .none true 3 (.t 24) (.t 155)]) <|
  .seq (.reg false [.op .none 25 (.nilS 1)]) <|
  .seq (.seq (.reg false [.op .none 156 (.fa 2 (.t 24)),
    .op .none 157 (.ld false 1 (.t 156)),
    .op .none 158 (.len false (.t 157)),
    .op .none 159 (.mv (.c (.w (.int .i64 0))))]) <|
  .block 10 <|
    .loop <|
      .seq (.reg false [.op .none 160 (.bin .lss (.t 159) (.t 158))]) <|
      .seq (.cond (.t 160)
        (.skip)
        (.exit 10)) <|
      .seq (.block 11 <|
        .seq (.reg false [.op .none 161 (.ia 1 (.t 157) (.t 159)),
          .op .none 162 (.ld false 1 (.t 161)),
          .op .none 27 (.mv (.t 162))]) <|
        .reg false [.op .none 163 (.mv (.t 25)),
          .op .none 164 (.fa 0 (.t 3)),
          .op .none 165 (.ld false 1 (.t 164)),
          .op .none 166 (.mv (.t 27)),
          .op .none 167 (.ia 1 (.t 165) (.t 166)),
          .op .none 168 (.ld false 1 (.t 167)),
          .op .none 169 (.buildS false 1 1 false [(.w (.string ⟨#[]⟩))] [(0, (.t 168))]),
          .op .none 170 (.app 1 16 (.t 163) (.t 169)),
          .op .none 25 (.mv (.t 170))]) <|
      .reg false [.op .none 171 (.bin .add (.t 159) (.c (.w (.int .i64 1)))),
        .op .none 159 (.mv (.t 171))]) <|
  .seq (.reg true [.op .none 172 (.mv (.t 25)),
    .op .none 173 (.fa 0 (.t 24)),
    .op .none 174 (.ld false 1 (.t 173)),
    .op .none 6 (.mv (.t 172)),
    .op .none 7 (.mv (.t 174)),
    .op .none 8 (.mv (.c (.w (.bool true)))),
    .op .none 9 (.mv (.c (.w (.int .i64 0))))]) <|
  .ret
theorem k27 : FnCode Try.prog 27 [400014, 800014, 100096, 119, 500092, 700092] 175 [6, 7, 8, 9] c27 := ⟨Try.f27, Try.func27, fun xs W => Try.call27 xs W, by kernel_rfl, by kernel_rfl, by kernel_rfl⟩

theorem tail_set {kp : List (Nat × Nat)} {H : Heap} {L : List (Option (List PV))} {c0 sz n i c : Nat} {l : List PV} (hn : L.length ≤ n) (h3 : n ≤ 3000) (hkp : ∀ j, j < n → find kp (c0 + j) = some (dAt c0 (some (i, c)) j)) (hH : ∀ j, j < 3000 → find H (c0 + j) = find (matO c0 sz (L.set i none)) (c0 + j)) (hc : find H c = some ⟨false, sz, l⟩) (hz : sz ≠ 0) : HeapLe kp H (matO c0 sz (L.set i (some l))) := by
  have := tail_some (L := L.set i none) (by rw [List.length_set]; exact hn) h3 hkp hH hc hz
  rwa [List.set_set] at this
theorem fok27 (t : TagT) (l : List Bs) (w : Int) (ht : tagS t) (hl : l.length ≤ 200000000000000) : FOk Try.prog 27 [.v (tagV t), .v (.word l), .I w] [] (.tup [.v (.word (beamF t l w).1), .I (beamF t l w).2.1, .B (beamF t l w).2.2.1, .I (beamF t l w).2.2.2]) [] := by
  have h1 := fok42 t l ht hl
  have hO := chkF_ok (t := t) (n := l.length)
  have htc2 : tagV t = .st [.word t.1, intsV t.2.1, intsV t.2.2.1, .sl 1 (t.2.2.2.1.map intsV), .sl 2 (t.2.2.2.2.1.map worthV), intsV t.2.2.2.2.2.1] := by
    obtain ⟨G, Fi, Z, P, W, U, uu⟩ := t; rfl
  obtain ⟨res, hres⟩ : ∃ res, beamF t l w = res := ⟨_, rfl⟩
  rw [hres]
  unfold beamF at hres
  generalize chkF t l.length = v at h1 hO hres
  refine FOk.val k27 (by simp) (by simp) (by decide) ?_
  rw [htc2] at h1 ⊢
  simp [c27]
  refine CallG.lent rfl rfl rfl rfl h1 rfl ?_
  by_cases hv : v = 0
  case neg =>
    rw [if_pos hv] at hres
    subst hres
    simp [hv]
    exact Ends.v rfl (by simp)
  subst hv
  rw [if_neg (by simp)] at hres
  by_cases c1 : w < 1
  · rw [if_pos (.inl c1)] at hres
    subst hres
    simp [c1]
    exact Ends.v rfl (by simp)
  by_cases c2 : 16 < w
  · rw [if_pos (.inr c2)] at hres
    subst hres
    have c2' : ¬ w ≤ 16 := by omega
    simp [c1, c2, c2']
    exact Ends.v rfl (by simp)
  have c2' : w ≤ 16 := by omega
  rw [if_neg (by omega)] at hres
  obtain ⟨hT, hn⟩ := hO rfl
  obtain ⟨mm, rfl⟩ := Int.eq_ofNat_of_zero_le (show 0 ≤ w by omega)
  simp only [Int.ofNat_eq_natCast, Int.toNat_natCast] at hres
  have hcos := fun w => fok44 t w hT
  have hstp := fun b k => fok45 t b k hT
  have hcr := fun w => costsF_ok hT w
  have hg16 := hT.g
  rw [htc2] at hcos hstp
  obtain ⟨pt, hpt⟩ : ∃ pt : List Nat → PV, pt = partV (costP t l) fun _ => 0 := ⟨_, rfl⟩
  have hptv : ∀ a, pt a = .st [.i (costP t l a), .i 0, natsV a] := by intro a; rw [hpt]; rfl
  have hp0 : pt [] = .st [.i 0, .i 0, .sl 1 []] := by
    rw [hptv]; cases l <;> simp [costP, cstG, natsV]
  simp [c1, c2, c2']
  refine Run.loopA (ι := Nat) [(1, 3), (2, 11)] (fun i => i ≤ l.length) (fun i => ⟨[(1, .v (.word l)), (2, .I mm), (3, .ptr 1 0 0), (11, .h 2), (42, .v (.word l)), (43, .I l.length), (44, .I i)], [(2, ⟨false, 3, (beamP t l mm i).map pt⟩), (1, ⟨false, 6, [tagV t]⟩)], 1024⟩) (fun i => l.length - i) 0 (by decide) (by simp [htc2, beamP, hp0]) (by simp) ?_
  rintro i hi ih
  by_cases h : i < l.length
  · have hgood := beamP_good hT mm i hi
    have hplen := beamP_len t l mm i
    have hc := hcos l[i]
    have hcl := csB_len (hcr l[i])
    have hcb := csB_rng (hcr l[i])
    have hnext : beamP t l mm (i + 1) = (srt (cmpP (costP t l)) (nxtP t l i (beamP t l mm i) 16)).take mm := rfl
    have hgd : l.getD i [] = l[i] := by simp [h]
    simp (disch := omega) [h, wrap_i64]
    generalize beamP t l mm i = ps at hgood hplen hnext
    obtain ⟨NL, hNL⟩ : ∃ NL : List PV, NL = List.replicate 16 .nl := ⟨_, rfl⟩
    have hNLl : NL.length = 16 := by rw [hNL]; simp
    have hNLm : ∀ p ∈ NL, p = .nl := by rw [hNL]; exact fun p hp => List.eq_of_mem_replicate hp
    obtain ⟨BX, hBX⟩ : ∃ BX : List PV, BX = (List.range 16).map fun k => .sl 3 ((celP t l i k ps).map pt) := ⟨_, rfl⟩
    have hBXl : BX.length = 16 := by rw [hBX]; simp
    have hBXa : ∀ k, k < 16 → BX[k]? = some (.sl 3 ((celP t l i k ps).map pt)) := by
      intro k hk
      rw [hBX, List.getElem?_map, List.getElem?_range hk]; rfl
    have hBXd : BX.map denl = BX := by
      rw [hBX, List.map_map]; rfl
    have hBXn : noSt BX = true := by rw [hBX]; rfl
    refine Run.cutB (ι := Unit) [(1, 3), (2, 14)] (fun _ => True) (fun _ => ⟨[(1, .v (.word l)), (2, .I mm), (3, .ptr 1 0 0), (14, .ptr 2 0 0), (42, .v (.word l)), (43, .I l.length), (44, .I i)], [(2, ⟨false, 0, .st [] :: BX⟩), (1, ⟨false, 6, [tagV t]⟩)], 1024⟩) (by decide) ?_ ?_
    · intro _ _
      have hBXt : BX.take 16 = BX := List.take_of_length_le (by omega)
      simp [hBXl, hBXn, hBXd, hBXt]
      have hnx := nxtP_succ t l i ps
      have hnl := nxtP_len t l i ps
      have hng := fun n a ha => (nxtP_good hT h hgood (n := n) a ha).len
      have hn0 : nxtP t l i ps 0 = [] := by simp [nxtP]
      have hcg : ∀ m, ∀ a ∈ celP t l i m ps, a.length ≤ 1000 := fun m a ha => by
        have := (celP_good hT h hgood a ha).len; omega
      have hclen : ∀ m, (celP t l i m ps).length ≤ 16 := fun m => by
        unfold celP
        split
        · rw [List.length_map]; exact hplen
        · simp
      have hmin := fun x r h1 h2 => fok64 (costP t l) (fun _ => 0) x r h1 h2
      rw [← hpt] at hmin
      refine Run.loopA (ι := Nat) [(1, 3), (2, 11)] (fun m => m ≤ 16) (fun m => ⟨[(1, .v (.word l)), (2, .I mm), (3, .ptr 1 0 0), (11, .h 2), (42, .v (.word l)), (43, .I l.length), (44, .I i), (99, .v (.st BX)), (100, .I m)], [(2, ⟨false, 3, (nxtP t l i ps m).map pt⟩), (1, ⟨false, 6, [tagV t]⟩)], 1024⟩) (fun m => 16 - m) 0 (by decide) (by simp [htc2, hn0]) (by simp) ?_
      rintro m hm ihm
      by_cases hm16 : m < 16
      · have hba := hBXa m hm16
        have hcg4 := hcg m
        have hcl4 := hclen m
        have hnx4 := hnx m
        have hnl4 := hnl m
        obtain ⟨hb1, hb2⟩ := List.getElem?_eq_some_iff.1 hba
        generalize celP t l i m ps = C at hba hb2 hcg4 hcl4 hnx4
        cases C with
        | nil =>
          simp only [bstP, List.append_nil] at hnx4
          simp (disch := omega) [hm16, wrap_i64, hBXl, hba, hb2]
          exact ihm (m + 1) _ (by omega) (by omega) (by simp [htc2, hnx4])
        | cons x r =>
          simp only [bstP] at hnx4
          have hmm := hmin x r (by simp at hcl4; omega) hcg4
          have hpos : (0 : Int) < (r.length : Int) + 1 := by omega
          simp only [List.map_cons, hptv, PV.i] at hmm
          simp (disch := omega) [hm16, wrap_i64, hBXl, hba, hb2, hpos, hptv]
          refine CallG.plain rfl rfl rfl rfl hmm (by simp) (by simp) ?_
          generalize nxtP t l i ps m = NX at hnx4 hnl4
          generalize minL (cmpP (costP t l)) x r = y at hnx4
          have hbl : (NX.length + 1 + 1000) * 40 ≤ 70368744177664 := by omega
          simp (disch := (clear hbl; omega)) [wrap_i64, hbl]
          clear hbl
          refine ihm (m + 1) _ (by omega) (by omega) ?_
          simp [htc2, hnx4, hptv]
      · have hmm : m = 16 := by omega
        subst hmm
        have hnl4 := hnl 16
        have hng4 := hng 16
        generalize nxtP t l i ps 16 = NX at hnl4 hng4 hnext ⊢
        have hsort := fokB47 (costP t l) (fun _ => 0) NX (by omega) (fun a ha => by have := hng4 a ha; omega)
        have hsl := srt_len (c := cmpP (costP t l)) NX
        rw [← hpt] at hsort
        generalize srt (cmpP (costP t l)) NX = so at hnext hsort hsl
        simp (disch := omega) [wrap_i64]
        refine CallG.rows [2] rfl rfl rfl rfl (by simp) (by simp) hsort (by simp) (by simp) ?_
        by_cases hmin2 : mm < so.length
        · have m1 : (mm : Int) < so.length := by omega
          have m2 : mm ≤ so.length := by omega
          have m3 : (mm : Int) ≤ so.length := by omega
          simp (disch := omega) [wrap_i64, m1, m2, m3]
          refine ih (i + 1) _ (by omega) (by omega) ?_
          simp [htc2, hnext, toNat1]
        · have m1 : ¬ (mm : Int) < so.length := by omega
          have m2 : so.take mm = so := List.take_of_length_le (by omega)
          have m3 : (so.map pt).take so.length = so.map pt := List.take_of_length_le (by simp)
          simp (disch := omega) [wrap_i64, m1]
          refine ih (i + 1) _ (by omega) (by omega) ?_
          simp [htc2, hnext, m2, m3]
    have hrat : ∀ j k m, m < 16 → (rowsB t l i ps j k)[m]? = some (some ((celP t l i m (ps.take (if m < k then j + 1 else j))).map pt)) := by
      intro j k m hm
      rw [hpt]; exact rowsB_at t l i ps j k hm
    intro hK
    refine Run.leA [(1, 3), (2, 14)] (s' := ⟨[(1, .v (.word l)), (2, .I mm), (3, .ptr 1 0 0), (12, .I i), (13, .S l[i]), (14, .ptr 2 0 0), (42, .v (.word l)), (43, .I l.length), (44, .I i), (49, .v (.sl 3 (ps.map pt))), (50, .I ps.length), (51, .I 0)], [(2, ⟨false, 0, .st [] :: NL⟩), (1, ⟨false, 6, [tagV t]⟩)], 1024⟩) (by simp [htc2, hNL]) ?_
    refine Run.deepen (id := 2) (c0 := 1024) (sz := 3) (m := 10240) (x := some []) (rest := NL) (by simp) (fun p hp => .inr (hNLm p hp)) (.inr ⟨rfl, hNLm⟩) (by simp) (by rw [hNLl]; decide) (by decide) ?_
    rw [hNLl, ← rowsB_zero t l i ps]
    simp
    have htl : ∀ {H : Heap} {kp : List (Nat × Nat)} {j k : Nat}, (∀ j, j < 16 → find kp (1024 + j) = some (1024 + j)) → (∀ m, m < 3000 → find H (1024 + m) = find (matO 1024 3 (rowsB t l i ps j k)) (1024 + m)) → HeapLe kp H (matO 1024 3 (rowsB t l i ps j k)) := fun h1 h2 => tail_none (n := 16) (by rw [rowsB_len]; omega) (by omega) h1 h2 (by decide)
    refine Run.loopD [(1, 3), (2, 14)] 1024 16 (ι := Nat) (fun j => j ≤ ps.length) (fun j => ⟨[(1, .v (.word l)), (2, .I mm), (3, .ptr 1 0 0), (12, .I i), (13, .S l[i]), (14, .ptr 2 0 0), (42, .v (.word l)), (43, .I l.length), (44, .I i), (49, .v (.sl 3 (ps.map pt))), (50, .I ps.length), (51, .I j)], (2, ⟨false, 0, encD 1024 :: NL⟩) :: (1, ⟨false, 6, [tagV t]⟩) :: matO 1024 3 (rowsB t l i ps j 0), 10240⟩) (fun j => ps.length - j) 0 none (by decide) ?_ (by simp) ?_
    · refine le_tg (kp := [(1, 1), (2, 2)]) (by simp) (by omega) (by simp) (by simp) (by simp) (by simp) (by simp) (by simp) (by simp) (by simp)  (by simp) ?_
      simp [htc2, hNLl]
      exact htl (fun j hj => by simp [find_idR hj]) (fun j hj => by simp)
    rintro j hj ihj
    have hRl : (rowsB t l i ps j 0).length ≤ 3000 := by rw [rowsB_len]; omega
    by_cases hjl : j < ps.length
    · have hp := hgood _ (List.getElem_mem hjl)
      have hyes := fun k h1 h2 h3 => rowsB_yes (t := t) (l := l) (i := i) (P := ps) (j := j) (k := k) h1 h2 h3 hjl
      generalize hpp : ps[j] = p at hp hyes
      have hst3 := fun k hk => hstp p.getLast? k hk (fun b' hb => hp.lt b' (List.mem_of_getLast? hb))
      have hstr3 := fun k hk => stepF_rng hT (b := p.getLast?) (k := k) hk (fun b' hb => hp.lt b' (List.mem_of_getLast? hb))
      have hcln := fokON p (by have := hp.len; omega)
      have hpl := hp.len
      have hp200 : p.length ≤ 200 := by rw [hpl]; exact Nat.le_trans hi hn
      have hpart : ∀ k, k < t.1.length → pt (p ++ [k]) = .st [.i (costP t l p + at0 (costsF t l[i]) k + stepF t p.getLast? k), .i 0, .sl 1 ((p.map fun k : Nat => .i k) ++ [.i (k : Nat)])] := by
        intro k hk
        have h1 := costP_snoc t l p k (by rw [hp.len]; exact h)
        rw [hp.len, hgd] at h1
        rw [hptv, h1]
        simp only [natsV, List.map_append, List.map_cons, List.map_nil]
      have hno := fun k h1 => rowsB_no (t := t) (l := l) (i := i) (P := ps) (j := j) (k := k) h1
      rw [hgd] at hyes hno
      generalize hcc : costsF t l[i] = c at hpart hc hcl hcb hyes hno
      by_cases hi0 : i = 0
      case' pos =>
        have hlast : p.getLast? = none := by rw [List.getLast?_eq_none_iff]; exact List.length_eq_zero_iff.1 (by omega)
        have hi1 : ¬ 0 < i := by omega
        simp (disch := omega) [hjl, hpp, wrap_i64, htc2, hptv, natsV, hi1]
      case' neg =>
        have hlt : i - 1 < p.length := by omega
        have hlast : p.getLast? = some p[i - 1] := by rw [List.getLast?_eq_getElem?, hpl, List.getElem?_eq_getElem hlt]
        have hi1 : 0 < i := by omega
        have e2 : ((i : Int) - 1).toNat = i - 1 := by omega
        have e3 : (0 : Int) ≤ (i : Int) - 1 := by omega
        have e4 : 1 ≤ i := by omega
        simp (disch := omega) [hjl, hpp, wrap_i64, htc2, hptv, natsV, hi1, e2, e3, e4, hlt]
      all_goals
        refine CallG.plain rfl rfl rfl rfl hc (by simp) (by simp) ?_
        simp [intsV, hRl]
        refine Run.loopD [(1, 3), (2, 14), (3, 16)] 1024 16 (ι := Nat) (fun k => k ≤ t.1.length) (fun k => ⟨[(1, .v (.word l)), (2, .I mm), (3, .ptr 1 0 0), (12, .I i), (13, .S l[i]), (14, .ptr 2 0 0), (16, .ptr 3 0 0), (17, .I (bI9 p.getLast?)), (42, .v (.word l)), (43, .I l.length), (44, .I i), (49, .v (.sl 3 (ps.map pt))), (50, .I ps.length), (51, .I j), (65, .v (intsV c)), (66, .I t.1.length), (67, .I k)], (3, ⟨false, 3, [pt p]⟩) :: (2, ⟨false, 0, encD 1024 :: NL⟩) :: (1, ⟨false, 6, [tagV t]⟩) :: matO 1024 3 (rowsB t l i ps j k), 10240⟩) (fun k => t.1.length - k) 0 none (by decide) ?_ (by simp) ?_
        · refine le_tg (kp := [(1, 1), (2, 2), (3, 18448)]) (by simp) (by omega) (by simp) (by simp) (by simp) (by simp) (by simp) (by simp) (by simp) (by simp) (by simp [intsV, hlast, bI9, hptv, natsV, hcl]) ?_
          simp [htc2, hNLl, hptv, natsV, intsV]
          exact htl (fun j hj => by simp [find_idR hj]) (fun j hj => by simp [hj])
        rintro k hk ihk
        have hRk : (rowsB t l i ps j k).length ≤ 3000 := by rw [rowsB_len]; omega
        by_cases hkn : k < t.1.length
        · have hkc : k < c.length := by omega
          have hcv := hcb _ (List.getElem_mem hkc)
          have hst4 := hst3 k hkn
          have hstr4 := hstr3 k hkn
          have hpart4 := hpart k hkn
          have hno4 := hno k
          have hyes4 := fun h => hyes k h hkn (by omega)
          rw [at0_eq hkc] at hpart4 hno4 hyes4
          generalize hck : c[k] = ck at hcv hpart4 hno4 hyes4
          by_cases q1 : ck < 0
          · have hk1 := hno4 q1
            have q1' : ¬ 0 ≤ ck := by omega
            simp (disch := omega) [hkn, hck, hkc, q1', wrap_i64, intsV, hRk]
            refine ihk (k + 1) none _ (by omega) (by omega) (le_tg (kp := [(1, 1), (2, 2), (3, 3)]) (by simp) (by omega) (by simp) (by simp) (by simp) (by simp) (by simp) (by simp) (by simp) (by simp)  (by simp [intsV]) ?_)
            rw [hk1]
            simp [htc2, hNLl]
            exact htl (fun j hj => by simp [find_idR hj]) (fun j hj => by simp [hj])
          have hk1 := hyes4 q1
          have hLk := hrat j k k (by omega)
          rw [if_neg (Nat.lt_irrefl k)] at hLk
          have hgp := hp.c0
          have hgp1 := hp.c1
          have hcst : costP t l p ≤ 40000000000 := by omega
          have hold : ((celP t l i k (ps.take j)).map pt).length ≤ 16 := by
            rw [List.length_map]
            unfold celP
            split
            · rw [List.length_map, List.length_take]; omega
            · simp
          rw [← hpt] at hk1
          generalize (celP t l i k (ps.take j)).map pt = old at hLk hold hk1
          generalize stepF t p.getLast? k = sv at hst4 hstr4 hpart4
          simp only [natsV] at hcln
          have k3000 : k < 3000 := by omega
          have q1' : 0 ≤ ck := by omega
          have hk16 : k < 16 := by omega
          generalize hLL : rowsB t l i ps j k = L at hLk hRk hk1
          simp (disch := omega) [hkn, hck, hkc, q1', wrap_i64, intsV, htc2, hptv, natsV, hRk, k3000, hLk, hNLl, hk16]
          simp only [intsV] at hst4
          refine CallG.lent rfl rfl rfl rfl hst4 rfl ?_
          simp (disch := omega) [wrap_i64, intsV, htc2, hptv, natsV, hRk, k3000, hLk, hNLl, hk16]
          refine CallG.plain rfl rfl rfl rfl hcln (by simp) (by simp) ?_
          have hbl1 : (p.length + 1 + 1000) * 8 ≤ 70368744177664 := by omega
          have hbl2 : (old.length + 1 + 1000) * 40 ≤ 70368744177664 := by clear hbl1; omega
          simp (disch := (clear hbl1 hbl2; omega)) [wrap_i64, intsV, htc2, hptv, natsV, hRk, k3000, hLk, hNLl, hk16, hbl1, hbl2]
          clear hbl1 hbl2
          refine ihk (k + 1) (some (k, 34911)) _ (by omega) (by omega) (le_tg (kp := [(1, 1), (2, 2), (3, 3)]) (by simp) (by omega) (by simp) (by simp) (by simp) (by simp) (by simp) (by simp) (by simp) (by simp)  (by simp [intsV]) ?_)
          rw [hk1, hpart4]
          simp [htc2, hNLl, hptv, natsV, intsV]
          exact tail_set (n := 16) (c := 34911) (by rw [← hLL, rowsB_len]; omega) (by omega) (fun j hj => by simp [find_idR hj]) (fun j hj => by simp [hj]) (by simp) (by decide)
        · have hkk : k = t.1.length := by omega
          subst hkk
          simp (disch := omega) [wrap_i64, hRk]
          refine ihj (j + 1) none _ (by omega) (by omega) (le_tg (kp := [(1, 1), (2, 2)]) (by simp) (by omega) (by simp) (by simp) (by simp) (by simp) (by simp) (by simp) (by simp) (by simp)  (by simp) ?_)
          rw [rowsB_next hg16]
          simp [htc2, hNLl]
          exact htl (fun j hj => by simp [find_idR hj]) (fun j hj => by simp [hj])
    · have hjj : j = ps.length := by omega
      subst hjj
      simp (disch := omega) [wrap_i64, hRl]
      refine hK () _ trivial ?_
      have hdr : ∀ m, m < 16 → newOf [(1, 1), (2, 2)] (dAt 1024 none m) = none ∧ ∃ b, find ((2, (⟨false, 0, encD 1024 :: NL⟩ : Ent)) :: (1, ⟨false, 6, [tagV t]⟩) :: matO 1024 3 (rowsB t l i ps ps.length 0)) (dAt 1024 none m) = some ⟨b, 3, (celP t l i m ps).map pt⟩ := by
        intro m hm
        have := hrat ps.length 0 m hm
        simp only [Nat.not_lt_zero, if_false, List.take_length] at this
        refine ⟨by simp [newOf], false, ?_⟩
        simp [find_cons, this]
      have hdr2 := deepRows_mat (by decide) hdr
      rw [← hBX] at hdr2
      have hka : kpAll [(1, 1), (2, 2)] 1024 none 16 = false := rfl
      simp [hNLl, hka, hdr2]
  have hil : i = l.length := by omega
  subst hil
  have hgood := beamP_good hT mm l.length (Nat.le_refl _)
  have hplen := beamP_len t l mm l.length
  generalize beamP t l mm l.length = ps at hgood hplen hres ⊢
  obtain ⟨qt, hqt⟩ : ∃ qt : List Nat → PV, qt = partV (finP t l) fun _ => 0 := ⟨_, rfl⟩
  have hqtv : ∀ a, qt a = .st [.i (finP t l a), .i 0, natsV a] := by intro a; rw [hqt]; rfl
  have hzl := csB_len hT.z
  have hzr := csB_rng hT.z
  obtain ⟨Lf, hLf⟩ : ∃ Lf : Nat → List PV, ∀ j, Lf j = (ps.take j).map qt ++ (ps.drop j).map pt := ⟨_, fun _ => rfl⟩
  have hLf0 : Lf 0 = ps.map pt := by simp [hLf]
  have hLfn : Lf ps.length = ps.map qt := by simp [hLf]
  have hLfl : ∀ j, (Lf j).length = ps.length := fun j => by simp [hLf]; omega
  have hLfa : ∀ j (h : j < ps.length), (Lf j)[j]? = some (pt ps[j]) := fun j h => by
    rw [hLf, List.getElem?_append_right (by simp; omega)]
    simp [Nat.min_eq_left (Nat.le_of_lt h), h]
  have hLfs : ∀ j (h : j < ps.length), (Lf j).set j (qt ps[j]) = Lf (j + 1) := fun j h => by
    have e : j - ((ps.take j).map qt).length = 0 := by simp; omega
    rw [hLf, hLf, List.drop_eq_getElem_cons h, List.map_cons, List.set_append_right _ _ (by simp; omega), e, List.set_cons_zero, List.take_succ_eq_append_getElem h, List.map_append, List.append_assoc]
    rfl
  clear hLf
  simp
  refine Run.loopA (ι := Nat) [(1, 3), (2, 11)] (fun j => j ≤ ps.length) (fun j => ⟨[(1, .v (.word l)), (3, .ptr 1 0 0), (11, .h 2), (121, .h 2), (122, .I ps.length), (123, .I j)], [(2, ⟨false, 3, Lf j⟩), (1, ⟨false, 6, [tagV t]⟩)], 1024⟩) (fun j => ps.length - j) 0 (by decide) (by simp [htc2, hLf0]) (by simp) ?_
  rintro j hj ihj
  by_cases hjl : j < ps.length
  · have hp := hgood _ (List.getElem_mem hjl)
    have hla := hLfa j hjl
    have hls := hLfs j hjl
    have hll := hLfl j
    generalize hpp : ps[j] = p at hp hla hls
    have hpl := hp.len
    rw [hptv] at hla
    by_cases hl0 : l.length = 0
    · have hle : l = [] := List.length_eq_zero_iff.1 hl0
      have hpe : p = [] := List.length_eq_zero_iff.1 (by omega)
      have hq : qt p = pt p := by rw [hqtv, hptv, hpe]; simp [finP]
      have hsame : Lf (j + 1) = Lf j := by
        rw [← hls, hq, hptv]
        apply List.ext_getElem?
        intro n
        rw [List.getElem?_set]
        split
        · rename_i e; subst e; split
          · rw [hla]
          · rename_i h2; rw [List.getElem?_eq_none (by omega)]
        · rfl
      obtain ⟨hla1, hla2⟩ := List.getElem?_eq_some_iff.1 hla
      subst hle
      simp (disch := omega) [hjl, hll, wrap_i64, hla, hla2]
      exact ihj (j + 1) _ (by omega) (by omega) (by simp [htc2, hsame])
    · have hlp : 0 < l.length := by omega
      have hlast : p.getLast? = some (p[l.length - 1]'(by omega)) := by
        rw [List.getLast?_eq_getElem?, show p.length - 1 = l.length - 1 by rw [hpl]]; exact List.getElem?_eq_getElem _
      have hlt := hp.lt _ (List.getElem_mem (show l.length - 1 < p.length by omega))
      generalize hx : p[l.length - 1]'(by omega) = x at hlast hlt
      have hxz : x < t.2.2.1.length := by omega
      have hzv := hzr _ (List.getElem_mem hxz)
      have hq : finP t l p = costP t l p + t.2.2.1[x] := by
        unfold finP; rw [hlast]; simp only [at0_eq hxz]
      have hgp := hp.c0
      have hgp1 := hp.c1
      have hcst : costP t l p ≤ 40000000000 := by omega
      rw [hqtv, hq] at hls
      have hzx : t.2.2.1[x]? = some t.2.2.1[x] := List.getElem?_eq_getElem hxz
      generalize hzz : t.2.2.1[x] = zv at hzv hls hzx
      obtain ⟨hla1, hla2⟩ := List.getElem?_eq_some_iff.1 hla
      have e2 : ((l.length : Int) - 1).toNat = l.length - 1 := by omega
      have e3 : (0 : Int) ≤ (l.length : Int) - 1 := by omega
      have e4 : 1 ≤ l.length := by omega
      have e5 : l.length - 1 < p.length := by omega
      have e6 : (0 : Int) < l.length := by omega
      generalize Lf j = LL at hla hla1 hla2 hll hls
      simp (disch := omega) [hjl, hll, wrap_i64, hla, hla2, hlp, e2, e3, e4, e5, e6, htc2, natsV, intsV, hx, hxz, hzz]
      exact ihj (j + 1) _ (by omega) (by omega) (by simp [htc2, ← hls, natsV, intsV])
  · have hjj : j = ps.length := by omega
    subst hjj
    rw [hLfn]
    rcases ps with _ | ⟨x, r⟩
    · simp only at hres
      subst hres
      simp
      exact Ends.v rfl (by simp)
    · simp only at hres
      have hmm := fok64 (finP t l) (fun _ => 0) x r (by simp at hplen; omega) (fun a ha => by have := (hgood a ha).len; omega)
      rw [← hqt] at hmm
      have hmem := minL_mem (cmpP (finP t l)) r x
      have hgm := hgood _ hmem
      generalize minL (cmpP (finP t l)) x r = y at hmm hres hgm
      subst hres
      have hpos : ¬ ((r.length : Int) + 1 = 0) := by omega
      simp only [List.map_cons, hqtv, PV.i] at hmm
      simp (disch := omega) [wrap_i64, hpos, hqtv]
      refine CallG.rows [] rfl rfl rfl rfl (by simp) (by simp) hmm (by simp) (by simp) ?_
      obtain ⟨nv, hnv⟩ : ∃ nv : Nat → PV, ∀ x, nv x = .w (.string (bs (t.1.getD x []))) := ⟨_, fun _ => rfl⟩
      have hfn : (List.map ((fun s => PV.w (Value.string (bs s))) ∘ fun k => t.1.getD k []) y) = y.map nv := by
        apply List.map_congr_left; intro a _; simp [hnv]
      have hlt := hgm.lt
      have hyl : y.length ≤ 200 := by rw [hgm.len]; exact hn
      generalize finP t l y = cc at *
      have hfn2 : (List.map ((fun s => PV.w (Value.string (bs s))) ∘ fun k => t.1[k]?.getD []) y) = y.map nv := by
        apply List.map_congr_left; intro a _; simp [hnv]
      simp (disch := omega) [wrap_i64, natsV]
      rw [hfn2]
      have hwk : ∀ k (hk : k < y.length), (y.map nv).take k ++ [nv y[k]] = (y.map nv).take (k + 1) := by
        intro k hk
        rw [List.take_succ_eq_append_getElem (show k < (y.map nv).length by simpa using hk)]; simp
      refine Run.loopA (ι := Nat) [(1, 3), (2, 24), (3, 25)] (fun k => k ≤ y.length) (fun k => ⟨[(3, .ptr 1 0 0), (24, .ptr 2 0 0), (25, .h 3), (157, .v (natsV y)), (158, .I y.length), (159, .I k)], [(3, ⟨false, 1, (y.map nv).take k⟩), (2, ⟨false, 3, [.st [.i cc, .i 0, natsV y]]⟩), (1, ⟨false, 6, [tagV t]⟩)], 1024⟩) (fun k => y.length - k) 0 (by decide) (by simp [htc2, natsV]) (by simp) ?_
      rintro k hk ihk
      by_cases hky : k < y.length
      · have hg := hlt _ (List.getElem_mem hky)
        have hwk4 := hwk k hky
        have hgd : t.1.getD y[k] [] = t.1[y[k]] := by simp [hg]
        rw [hnv, hgd] at hwk4
        generalize hyk : y[k] = x1 at hg hwk4
        have hmn : min k y.length = k := by omega
        have hbl : (k + 1 + 1000) * 16 ≤ 70368744177664 := by omega
        simp (disch := (clear hbl; omega)) [hky, hyk, hg, wrap_i64, htc2, natsV, hbl, hmn]
        exact ihk (k + 1) _ (by clear hbl; omega) (by clear hbl; omega) (by simp [htc2, natsV, hwk4])
      · have hkk : k = y.length := by omega
        have hyt : (y.map nv).take y.length = y.map nv := List.take_of_length_le (by simp)
        subst hkk
        simp (disch := omega) [wrap_i64, natsV, hyt]
        exact Ends.v rfl (by simp)

end Go.Proofs
