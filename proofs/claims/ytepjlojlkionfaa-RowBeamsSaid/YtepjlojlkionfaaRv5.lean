/- The walk. -/
import Derived.Test.YtepjlojlkionfaaRv4
import Derived.Test.YtepjlojlkionfaaRv3
import Derived.Test.YtepjlojlkionfaaRt1
import Derived.Test.YtepjlojlkionfaaProg
import Derived.KernelRfl
set_option linter.all false
set_option maxHeartbeats 2000000
namespace Go.Proofs
open Go Go.AM
attribute [local irreducible] Run Ends
/-- ablaut/ablautref19.Beam -/
def c28 : MC :=
  .seq (.reg false [.op .none 3 (.box false (.t 0)),
    .op .none 6 (.nilS 1),
    .op .none 7 (.mv (.c (.w (.int .i64 0)))),
    .op .none 8 (.mv (.c (.w (.bool false)))),
    .op .none 9 (.mv (.c (.w (.int .i64 0))))]) <|
  .seq (.seq (.reg false [.op .none 22 (.ld true 6 (.t 3)),
    .op .none 23 (.mv (.t 1)),
    .call .none 24 (.f 38) [(.t 22), (.t 23)],
    .op .none 10 (.mv (.t 24))]) <|
  .seq (.reg false [.op .none 25 (.mv (.t 10)),
    .op .none 26 (.bin .neq (.t 25) (.c (.w (.int .i64 0))))]) <|
  .cond (.t 26)
    (.seq (.reg false [.op .none 27 (.mv (.t 10)),
      .op .none 6 (.nilS 1),
      .op .none 7 (.mv (.c (.w (.int .i64 0)))),
      .op .none 8 (.mv (.c (.w (.bool false)))),
      .op .none 9 (.mv (.t 27))]) <|
    .ret)
    (.skip)) <|
  .seq (.seq (.reg false [.op .none 28 (.mv (.t 2)),
    .op .none 29 (.bin .lss (.t 28) (.c (.w (.int .i64 1)))),
    .op .none 30 (.mv (.t 29)),
    .op (.some (30, false)) 31 (.mv (.t 2)),
    .op (.some (30, false)) 32 (.bin .gtr (.t 31) (.c (.w (.int .i64 16)))),
    .op .none 33 (.pick (.t 30) (.c (.w (.bool true))) (.t 32))]) <|
  .cond (.t 33)
    (.seq (.reg false [.op .none 6 (.nilS 1),
      .op .none 7 (.mv (.c (.w (.int .i64 0)))),
      .op .none 8 (.mv (.c (.w (.bool false)))),
      .op .none 9 (.mv (.c (.w (.int .i64 1))))]) <|
    .ret)
    (.skip)) <|
  .seq (.reg false [.op .none 34 (.ld true 6 (.t 3)),
    .op .none 35 (.mv (.t 1)),
    .call .none 36 (.f 62) [(.t 34), (.t 35)],
    .op .none 11 (.mv (.t 36))]) <|
  .seq (.reg false [.op .none 37 (.build false [(.w (.int .i64 0)), (.sl 1 [])] []),
    .op .none 38 (.buildS false 2 1 true [(.w (.int .i64 0)), (.sl 1 [])] [(0, (.t 37))]),
    .op .none 12 (.mv (.t 38))]) <|
  .seq (.seq (.reg false [.op .none 13 (.mv (.c (.w (.int .i64 0))))]) <|
  .block 0 <|
    .loop <|
      .seq (.seq (.reg false [.op .none 39 (.mv (.t 13)),
        .op .none 40 (.mv (.t 1)),
        .op .none 41 (.len false (.t 40)),
        .op .none 42 (.bin .lss (.t 39) (.t 41))]) <|
      .cond (.t 42)
        (.skip)
        (.exit 0)) <|
      .seq (.block 1 <|
        .seq (.reg false [.op .none 14 (.nilS 2)]) <|
        .seq (.seq (.reg false [.op .none 15 (.mv (.c (.w (.int .i64 0))))]) <|
        .block 2 <|
          .loop <|
            .seq (.seq (.reg false [.op .none 45 (.mv (.t 15)),
              .op .none 46 (.fa 0 (.t 3)),
              .op .none 47 (.ld false 1 (.t 46)),
              .op .none 48 (.len false (.t 47)),
              .op .none 49 (.bin .lss (.t 45) (.t 48))]) <|
            .cond (.t 49)
              (.skip)
              (.exit 2)) <|
            .seq (.block 3 <|
              .seq (.seq (.reg false [.op .none 52 (.mv (.t 11)),
                .op .none 53 (.mv (.t 13)),
                .op .none 54 (.ia 1 (.t 52) (.t 53)),
                .op .none 55 (.ld false 1 (.t 54)),
                .op .none 56 (.mv (.t 15)),
                .op .none 57 (.ia 1 (.t 55) (.t 56)),
                .op .none 58 (.ld false 1 (.t 57)),
                .op .none 59 (.bin .lss (.t 58) (.c (.w (.int .i64 0))))]) <|
              .cond (.t 59)
                (.exit 3)
                (.skip)) <|
              .seq (.reg false [.op .none 16 (.nilS 2)]) <|
              .seq (.seq (.reg false [.op .none 17 (.mv (.c (.w (.int .i64 0))))]) <|
              .block 4 <|
                .loop <|
                  .seq (.seq (.reg false [.op .none 60 (.mv (.t 17)),
                    .op .none 61 (.mv (.t 12)),
                    .op .none 62 (.len false (.t 61)),
                    .op .none 63 (.bin .lss (.t 60) (.t 62))]) <|
                  .cond (.t 63)
                    (.skip)
                    (.exit 4)) <|
                  .seq (.block 5 <|
                    .seq (.reg true [.op .none 66 (.mv (.t 12)),
                      .op .none 67 (.mv (.t 17)),
                      .op .none 68 (.ia 2 (.t 66) (.t 67)),
                      .op .none 69 (.fa 0 (.t 68)),
                      .op .none 70 (.ld false 1 (.t 69)),
                      .op .none 71 (.mv (.t 11)),
                      .op .none 72 (.mv (.t 13)),
                      .op .none 73 (.ia 1 (.t 71) (.t 72)),
                      .op .none 74 (.ld false 1 (.t 73)),
                      .op .none 75 (.mv (.t 15)),
                      .op .none 76 (.ia 1 (.t 74) (.t 75)),
                      .op .none 77 (.ld false 1 (.t 76)),
                      .op .none 78 (.bin .add (.t 70) (.t 77)),
                      .op .none 18 (.mv (.t 78))]) <|
                    .seq (.seq (.reg false [.op .none 79 (.mv (.t 13)),
                      .op .none 80 (.bin .eql (.t 79) (.c (.w (.int .i64 0))))]) <|
                    .cond (.t 80)
                      (.reg false [.op .none 81 (.mv (.t 18)),
                        .op .none 82 (.fa 1 (.t 3)),
                        .op .none 83 (.ld false 1 (.t 82)),
                        .op .none 84 (.mv (.t 15)),
                        .op .none 85 (.ia 1 (.t 83) (.t 84)),
                        .op .none 86 (.ld false 1 (.t 85)),
                        .op .none 87 (.bin .add (.t 81) (.t 86)),
                        .op .none 18 (.mv (.t 87))])
                      (.reg true [.op .none 88 (.mv (.t 18)),
                        .op .none 89 (.fa 3 (.t 3)),
                        .op .none 90 (.ld false 1 (.t 89)),
                        .op .none 91 (.mv (.t 12)),
                        .op .none 92 (.mv (.t 17)),
                        .op .none 93 (.ia 2 (.t 91) (.t 92)),
                        .op .none 94 (.fa 1 (.t 93)),
                        .op .none 95 (.ld false 1 (.t 94)),
                        .op .none 96 (.mv (.t 13)),
                        .op .none 97 (.bin .sub (.t 96) (.c (.w (.int .i64 1)))),
                        .op .none 98 (.ia 1 (.t 95) (.t 97)),
                        .op .none 99 (.ld false 1 (.t 98)),
                        .op .none 100 (.ia 1 (.t 90) (.t 99)),
                        .op .none 101 (.ld false 1 (.t 100)),
                        .op .none 102 (.mv (.t 15)),
                        .op .none 103 (.ia 1 (.t 101) (.t 102)),
                        .op .none 104 (.ld false 1 (.t 103)),
                        .op .none 105 (.bin .add (.t 88) (.t 104)),
                        .op .none 18 (.mv (.t 105))])) <|
                    .reg false [.op .none 106 (.mv (.t 16)),
                      .op .none 107 (.mv (.t 18)),
                      .op .none 108 (.buildS false 1 0 false [(.w (.int .i64 0))] []),
                      .op .none 109 (.mv (.t 12)),
                      .op .none 110 (.mv (.t 17)),
                      .op .none 111 (.ia 2 (.t 109) (.t 110)),
                      .op .none 112 (.fa 1 (.t 111)),
                      .op .none 113 (.ld false 1 (.t 112)),
                      .op .none 114 (.app 1 8 (.t 108) (.t 113)),
                      .op .none 115 (.mv (.t 15)),
                      .op .none 116 (.buildS false 1 1 false [(.w (.int .i64 0))] [(0, (.t 115))]),
                      .op .none 117 (.app 1 8 (.t 114) (.t 116)),
                      .op .none 118 (.build false [(.w (.int .i64 0)), (.sl 1 [])] [(0, 1, (.t 107)), (1, 1, (.t 117))]),
                      .call .none 119 (.f 66) [(.t 106), (.t 118)],
                      .op .none 16 (.mv (.t 119))]) <|
                  .reg false [.op .none 64 (.mv (.t 17)),
                    .op .none 65 (.bin .add (.t 64) (.c (.w (.int .i64 1)))),
                    .op .none 17 (.mv (.t 65))]) <|
              .seq (.reg false [.op .none 120 (.mv (.t 16)),
                .op .none 121 (.len false (.t 120)),
                .op .none 122 (.bin .gtr (.t 121) (.c (.w (.int .i64 0))))]) <|
              .cond (.t 122)
                (.reg false [.op .none 123 (.mv (.t 14)),
                  .op .none 124 (.mv (.t 16)),
                  .op .none 125 (.ia 2 (.t 124) (.c (.w (.int .i64 0)))),
                  .op .none 126 (.ld true 2 (.t 125)),
                  .call .none 127 (.f 66) [(.t 123), (.t 126)],
                  .op .none 14 (.mv (.t 127))])
                (.skip)) <|
            .reg false [.op .none 50 (.mv (.t 15)),
              .op .none 51 (.bin .add (.t 50) (.c (.w (.int .i64 1)))),
              .op .none 15 (.mv (.t 51))]) <|
        .reg false [.op .none 128 (.mv (.t 14)),
          .op .none 129 (.mv (.t 2)),
          .op .none 130 (.mv (.t 14)),
          .op .none 131 (.len false (.t 130)),
          .op .none 132 (.mm false (.t 129) (.t 131)),
          .op .none 133 (.slc false 2 (.t 128) .none (.some (.t 132))),
          .op .none 12 (.mv (.t 133))]) <|
      .reg false [.op .none 43 (.mv (.t 13)),
        .op .none 44 (.bin .add (.t 43) (.c (.w (.int .i64 1)))),
        .op .none 13 (.mv (.t 44))]) <|
  .seq (.reg false [.op .none 19 (.nilS 2)]) <|
  .seq (.seq (.reg false [.op .none 20 (.mv (.c (.w (.int .i64 0))))]) <|
  .block 6 <|
    .loop <|
      .seq (.seq (.reg false [.op .none 134 (.mv (.t 20)),
        .op .none 135 (.mv (.t 12)),
        .op .none 136 (.len false (.t 135)),
        .op .none 137 (.bin .lss (.t 134) (.t 136))]) <|
      .cond (.t 137)
        (.skip)
        (.exit 6)) <|
      .seq (.block 7 <|
        .seq (.reg false [.op .none 140 (.mv (.t 12)),
          .op .none 141 (.mv (.t 20)),
          .op .none 142 (.ia 2 (.t 140) (.t 141)),
          .op .none 143 (.ld true 2 (.t 142)),
          .op .none 21 (.alloc true [(.w (.int .i64 0)), (.sl 1 [])]),
          .store .none true 2 (.t 21) (.t 143)]) <|
        .seq (.seq (.reg false [.op .none 144 (.mv (.t 1)),
          .op .none 145 (.len false (.t 144)),
          .op .none 146 (.bin .gtr (.t 145) (.c (.w (.int .i64 0))))]) <|
        .cond (.t 146)
          (.reg true [.op .none 147 (.fa 0 (.t 21)),
            .op .none 148 (.ld false 1 (.t 147)),
            .op .none 149 (.fa 2 (.t 3)),
            .op .none 150 (.ld false 1 (.t 149)),
            .op .none 151 (.fa 1 (.t 21)),
            .op .none 152 (.ld false 1 (.t 151)),
            .op .none 153 (.mv (.t 1)),
            .op .none 154 (.len false (.t 153)),
            .op .none 155 (.bin .sub (.t 154) (.c (.w (.int .i64 1)))),
            .op .none 156 (.ia 1 (.t 152) (.t 155)),
            .op .none 157 (.ld false 1 (.t 156)),
            .op .none 158 (.ia 1 (.t 150) (.t 157)),
            .op .none 159 (.ld false 1 (.t 158)),
            .op .none 160 (.bin .add (.t 148) (.t 159)),
            .op .none 161 (.fa 0 (.t 21)),
            .store .none false 1 (.t 161) (.t 160)])
          (.skip)) <|
        .reg false [.op .none 162 (.mv (.t 19)),
          .op .none 163 (.ld true 2 (.t 21)),
          .call .none 164 (.f 66) [(.t 162), (.t 163)],
          .op .none 19 (.mv (.t 164))]) <|
      .reg false [.op .none 138 (.mv (.t 20)),
        .op .none 139 (.bin .add (.t 138) (.c (.w (.int .i64 1)))),
        .op .none 20 (.mv (.t 139))]) <|
  .seq (.seq (.reg false [.op .none 165 (.mv (.t 19)),
    .op .none 166 (.len false (.t 165)),
    .op .none 167 (.bin .eql (.t 166) (.c (.w (.int .i64 0))))]) <|
  .cond (.t 167)
    (.seq (.reg false [.op .none 6 (.nilS 1),
      .op .none 7 (.mv (.c (.w (.int .i64 0)))),
      .op .none 8 (.mv (.c (.w (.bool false)))),
      .op .none 9 (.mv (.c (.w (.int .i64 0))))]) <|
    .ret)
    (.skip)) <|
  .seq (.reg true [.op .none 168 (.ld true 6 (.t 3)),
    .op .none 169 (.mv (.t 19)),
    .op .none 170 (.ia 2 (.t 169) (.c (.w (.int .i64 0)))),
    .op .none 171 (.fa 1 (.t 170)),
    .op .none 172 (.ld false 1 (.t 171)),
    .call .none 173 (.f 40) [(.t 168), (.t 172)],
    .op .none 174 (.mv (.t 19)),
    .op .none 175 (.ia 2 (.t 174) (.c (.w (.int .i64 0)))),
    .op .none 176 (.fa 0 (.t 175)),
    .op .none 177 (.ld false 1 (.t 176)),
    .op .none 6 (.mv (.t 173)),
    .op .none 7 (.mv (.t 177)),
    .op .none 8 (.mv (.c (.w (.bool true)))),
    .op .none 9 (.mv (.c (.w (.int .i64 0))))]) <|
  .ret
theorem k28 : FnCode Try.prog 28 [] 178 [6, 7, 8, 9] c28 := ⟨Try.f28, Try.func28, fun xs W => Try.call28 xs W, by kernel_rfl, by kernel_rfl, by kernel_rfl⟩

theorem nxtP_16 {t : TagT} {l : List Bs} {i : Nat} {P : List (List Nat)} (hn : t.1.length ≤ 16) : nxtP t l i P 16 = nxtP t l i P t.1.length := by
  obtain ⟨d, hd⟩ : ∃ d, 16 = t.1.length + d := ⟨16 - t.1.length, by omega⟩
  rw [hd]
  clear hd hn
  induction d with
  | zero => rfl
  | succ d ih =>
    rw [← Nat.add_assoc, nxtP_succ, ih]
    have : celP t l i (t.1.length + d) P = [] := by unfold celP; rw [if_neg (fun h => by have := h.1; omega)]
    rw [this]; simp [bstP]
theorem fok28 (t : TagT) (l : List Bs) (w : Int) (ht : tagS t) (hl : l.length ≤ 200000000000000) : FOk Try.prog 28 [.v (tagV t), .v (.word l), .I w] [] (.tup [.v (.word (beamF t l w).1), .I (beamF t l w).2.1, .B (beamF t l w).2.2.1, .I (beamF t l w).2.2.2]) [] := by
  have h1 := fok38 t l ht hl
  have hO := chkF_ok (t := t) (n := l.length)
  have htc2 : tagV t = .st [.word t.1, intsV t.2.1, intsV t.2.2.1, .sl 1 (t.2.2.2.1.map intsV), .sl 2 (t.2.2.2.2.1.map worthV), intsV t.2.2.2.2.2.1] := by
    obtain ⟨G, Fi, Z, P, W, U, uu⟩ := t; rfl
  obtain ⟨res, hres⟩ : ∃ res, beamF t l w = res := ⟨_, rfl⟩
  rw [hres]
  unfold beamF at hres
  generalize chkF t l.length = v at h1 hO hres
  refine FOk.val k28 (by simp) (by simp) (by decide) ?_
  rw [htc2] at h1 ⊢
  simp [c28]
  refine CallG.lent rfl rfl rfl rfl h1 rfl ?_
  by_cases hv : v = 0
  case neg =>
    rw [if_pos hv] at hres
    subst hres
    simp [hv]
    exact Ends.v rfl (by simp)
  subst hv
  rw [if_neg (by simp)] at hres
  by_cases c1 : w < 1
  · rw [if_pos (.inl c1)] at hres
    subst hres
    simp [c1]
    exact Ends.v rfl (by simp)
  by_cases c2 : 16 < w
  · rw [if_pos (.inr c2)] at hres
    subst hres
    have c2' : ¬ w ≤ 16 := by omega
    simp [c1, c2, c2']
    exact Ends.v rfl (by simp)
  have c2' : w ≤ 16 := by omega
  rw [if_neg (by omega)] at hres
  obtain ⟨hT, hn⟩ := hO rfl
  obtain ⟨mm, rfl⟩ := Int.eq_ofNat_of_zero_le (show 0 ≤ w by omega)
  simp only [Int.ofNat_eq_natCast, Int.toNat_natCast] at hres
  have htab := fok62 t l hT hn
  have hcr := fun w => costsF_ok hT w
  have hg16 := hT.g
  have hfl := csB_len hT.f
  have hfr := csB_rng hT.f
  have hpl := hT.pl
  have hpr := fun l hl => csB_rng (hT.p l hl)
  have hpll := fun l hl => csB_len (hT.p l hl)
  rw [htc2] at htab
  obtain ⟨tv, htv⟩ : ∃ tv : List Nat → PV, tv = tlV (costP t l) := ⟨_, rfl⟩
  have htvv : ∀ a, tv a = .st [.i (costP t l a), natsV a] := by intro a; rw [htv]; rfl
  have hp0 : tv [] = .st [.i 0, .sl 1 []] := by
    rw [htvv]; cases l <;> simp [costP, cstG, natsV]
  have hTWl : ((l.map (costsF t)).map intsV).length = l.length := by simp
  have hTWa : ∀ i (h : i < l.length), ((l.map (costsF t)).map intsV)[i]? = some (intsV (costsF t l[i])) := fun i h => by simp [h]
  have hinto := fun f L x n h1 h2 h3 h4 => fok66 f L x n h1 h2 h3 h4
  simp [c1, c2, c2']
  refine CallG.plain rfl rfl rfl rfl htab (by simp) (by simp) ?_
  generalize (l.map (costsF t)).map intsV = TW at hTWl hTWa
  simp
  refine Run.loopA (ι := Nat) [(1, 3)] (fun i => i ≤ l.length) (fun i => ⟨[(1, .v (.word l)), (2, .I mm), (3, .ptr 1 0 0), (11, .v (.sl 1 TW)), (12, .v (.sl 2 ((beamP t l mm i).map tv))), (13, .I i)], [(1, ⟨false, 6, [tagV t]⟩)], 1024⟩) (fun i => l.length - i) 0 (by decide) (by simp [htc2, beamP, hp0]) (by simp) ?_
  rintro i hi ih
  by_cases h : i < l.length
  · have hgood := beamP_good hT mm i hi
    have hplen := beamP_len t l mm i
    have hcl := csB_len (hcr l[i])
    have hcb := csB_rng (hcr l[i])
    have hnext : beamP t l mm (i + 1) = (srt (cmpP (costP t l)) (nxtP t l i (beamP t l mm i) 16)).take mm := rfl
    rw [nxtP_16 hg16] at hnext
    have hgd : l.getD i [] = l[i] := by simp [h]
    have hta := hTWa i h
    obtain ⟨hta1, hta2⟩ := List.getElem?_eq_some_iff.1 hta
    generalize beamP t l mm i = ps at hgood hplen hnext
    have hcneg := fun k h => celP_neg (t := t) (l := l) (i := i) (k := k) (P := ps) h
    have hcpos := fun k h h2 => celP_pos (t := t) (l := l) (i := i) (k := k) (P := ps) h h2
    have hnx := nxtP_succ t l i ps
    have hnl := nxtP_len t l i ps
    have hng := fun n a ha => (nxtP_good hT h hgood (n := n) a ha).len
    have hn0 : nxtP t l i ps 0 = [] := by simp [nxtP]
    have hcs : ∀ p k, GoodP t l i p → costP t l (p ++ [k]) = costP t l p + at0 (costsF t l[i]) k + stepF t p.getLast? k := fun p k hp => by
      have h1 := costP_snoc t l p k (by rw [hp.len]; exact h)
      rw [hp.len, hgd] at h1; exact h1
    rw [hgd] at hcneg hcpos
    generalize hcc : costsF t l[i] = c at hcl hcb hta hta2 hcs hcneg hcpos
    obtain ⟨N, hN⟩ : ∃ N : Nat → List (List Nat), ∀ k, N k = (nxtP t l i ps k).foldl (insG (cmpP (costP t l))) [] := ⟨_, fun _ => rfl⟩
    have hNs : ∀ k, N k = srt (cmpP (costP t l)) (nxtP t l i ps k) := fun k => by rw [hN, ins_srt (linP _)]
    have hN0 : N 0 = [] := by rw [hN, hn0]; rfl
    have hNl : ∀ k, (N k).length ≤ k := fun k => by rw [hNs, srt_len]; exact hnl k
    have hNg : ∀ k, ∀ a ∈ N k, a.length = i + 1 := fun k a ha => by rw [hNs, srt_mem] at ha; exact hng k a ha
    rw [← hNs] at hnext
    simp (disch := omega) [h, wrap_i64]
    refine Run.loopA (ι := Nat) [(1, 3), (2, 14)] (fun k => k ≤ t.1.length) (fun k => ⟨[(1, .v (.word l)), (2, .I mm), (3, .ptr 1 0 0), (11, .v (.sl 1 TW)), (12, .v (.sl 2 (ps.map tv))), (13, .I i), (14, .h 2), (15, .I k)], [(2, ⟨false, 2, (N k).map tv⟩), (1, ⟨false, 6, [tagV t]⟩)], 1024⟩) (fun k => t.1.length - k) 0 (by decide) (by simp [htc2, hN0]) (by simp) ?_
    rintro k hk ihk
    by_cases hkn : k < t.1.length
    · have hkc : k < c.length := by omega
      have hcv := hcb _ (List.getElem_mem hkc)
      have hno4 := hcneg k
      have hyes4 := fun h => hcpos k h hkn
      have hcs4 := fun p hp => hcs p k hp
      rw [at0_eq hkc] at hno4 hyes4
      simp only [at0_eq hkc] at hcs4
      have hnx4 := hnx k
      generalize hck : c[k] = ck at hcv hno4 hyes4 hcs4
      by_cases q1 : ck < 0
      · rw [hno4 q1] at hnx4
        have hN4 : N (k + 1) = N k := by rw [hN, hN, hnx4]; simp [bstP]
        simp (disch := omega) [hkn, hck, hkc, q1, wrap_i64, intsV, htc2, hta, hta1, hta2, hTWl, h]
        exact ihk (k + 1) _ (by omega) (by omega) (by simp [htc2, intsV, hN4])
      rw [hyes4 q1] at hnx4
      obtain ⟨B, hB⟩ : ∃ B : Nat → List (List Nat), ∀ m, B m = ((ps.take m).map (· ++ [k])).foldl (insG (cmpP (costP t l))) [] := ⟨_, fun _ => rfl⟩
      have hB0 : B 0 = [] := by rw [hB]; rfl
      have hBs : ∀ m (hm : m < ps.length), B (m + 1) = insG (cmpP (costP t l)) (B m) (ps[m] ++ [k]) := fun m hm => by
        rw [hB, hB, List.take_succ_eq_append_getElem hm, List.map_append, List.foldl_append]; rfl
      have hBm : ∀ m, ∀ a ∈ B m, a.length = i + 1 := fun m a ha => by
        rw [hB, ins_srt (linP _), srt_mem] at ha
        obtain ⟨p, hp, rfl⟩ := List.mem_map.1 ha
        have := (hgood p (List.mem_of_mem_take hp)).len
        simp [this]
      have hBl : ∀ m, (B m).length ≤ m := fun m => by
        rw [hB, ins_srt (linP _), srt_len]; simp; omega
      have hBe : B ps.length = srt (cmpP (costP t l)) (ps.map (· ++ [k])) := by rw [hB, List.take_length, ins_srt (linP _)]
      clear hB
      have hNk := hNl k
      have hNg4 := hNg k
      have hN4 : N (k + 1) = (bstP (cmpP (costP t l)) (ps.map (· ++ [k]))).foldl (insG (cmpP (costP t l))) (N k) := by rw [hN, hN, hnx4, List.foldl_append]
      have q1' : ¬ ck < 0 := q1
      simp (disch := omega) [hkn, hck, hkc, q1', wrap_i64, intsV, htc2, hta, hta1, hta2, hTWl, h]
      refine Run.loopA (ι := Nat) [(1, 3), (2, 14), (3, 16)] (fun m => m ≤ ps.length) (fun m => ⟨[(1, .v (.word l)), (2, .I mm), (3, .ptr 1 0 0), (11, .v (.sl 1 TW)), (12, .v (.sl 2 (ps.map tv))), (13, .I i), (14, .h 2), (15, .I k), (16, .h 3), (17, .I m)], [(3, ⟨false, 2, (B m).map tv⟩), (2, ⟨false, 2, (N k).map tv⟩), (1, ⟨false, 6, [tagV t]⟩)], 1024⟩) (fun m => ps.length - m) 0 (by decide) (by simp [htc2, hB0, intsV]) (by simp) ?_
      rintro m hm ihm
      by_cases hmp : m < ps.length
      · have hp := hgood _ (List.getElem_mem hmp)
        have hBs4 := hBs m hmp
        have hBm4 := hBm m
        have hBl4 := hBl m
        have hcs5 := hcs4 _ hp
        generalize hpp : ps[m] = p at hp hBs4 hcs5
        have hplp := hp.len
        have hin := hinto (costP t l) (B m) (p ++ [k]) (i + 1) hBm4 (by simp [hplp]) (by omega) (by omega)
        have htl2 : tlV (costP t l) (p ++ [k]) = .st [.i (costP t l p + ck + stepF t p.getLast? k), .sl 1 ((p.map fun k : Nat => .i k) ++ [.i (k : Nat)])] := by
          unfold tlV natsV; rw [hcs5]; simp
        rw [htl2, ← htv] at hin
        have hgp := hp.c0
        have hgp1 := hp.c1
        have hcst : costP t l p ≤ 40000000000 := by omega
        have hp200 : p.length ≤ 200 := by omega
        generalize insG (cmpP (costP t l)) (B m) (p ++ [k]) = B1 at hin hBs4
        by_cases hi0 : i = 0
        case' pos =>
          have hlast : p.getLast? = none := by rw [List.getLast?_eq_none_iff]; exact List.length_eq_zero_iff.1 (by omega)
          have hkf : k < t.2.1.length := by omega
          have hsv := hfr _ (List.getElem_mem hkf)
          have hst : stepF t p.getLast? k = t.2.1[k] := by rw [hlast]; simp only [stepF]; exact at0_eq hkf
          rw [hst] at hin
          generalize hsvx : t.2.1[k] = sv at hin hsv
          subst hi0
          have b1 : (p.length + 1000) * 8 ≤ 70368744177664 := by omega
          have b2 : (p.length + 1 + 1000) * 8 ≤ 70368744177664 := by clear b1; omega
          simp (disch := (clear b1 b2; omega)) [hmp, hpp, wrap_i64, htc2, htvv, natsV, hta, hta1, hta2, hTWl, h, intsV, hkc, hck, hkf, hsvx, hkn, b1, b2]
        case' neg =>
          have hlt : i - 1 < p.length := by omega
          have hlast : p.getLast? = some p[i - 1] := by rw [List.getLast?_eq_getElem?, hplp, List.getElem?_eq_getElem hlt]
          have hbn := hp.lt _ (List.getElem_mem hlt)
          generalize hbx : p[i - 1] = bb at hlast hbn
          have hbp : bb < t.2.2.2.1.length := by omega
          have hrl := hpll _ (List.getElem_mem hbp)
          have hrr := hpr _ (List.getElem_mem hbp)
          have hst : stepF t p.getLast? k = at0 t.2.2.2.1[bb] k := by rw [hlast]; simp only [stepF, List.getD_eq_getElem?_getD, List.getElem?_eq_getElem hbp, Option.getD_some]
          generalize hrow : t.2.2.2.1[bb] = row at hrl hrr hst
          have hkr : k < row.length := by omega
          rw [at0_eq hkr] at hst
          have hsv := hrr _ (List.getElem_mem hkr)
          rw [hst] at hin
          generalize hsvx : row[k] = sv at hin hsv
          have hi1 : ¬ (i : Int) = 0 := by omega
          have e2 : ((i : Int) - 1).toNat = i - 1 := by omega
          have e3 : (0 : Int) ≤ (i : Int) - 1 := by omega
          have e4 : 1 ≤ i := by omega
          have b1 : (p.length + 1000) * 8 ≤ 70368744177664 := by omega
          have b2 : (p.length + 1 + 1000) * 8 ≤ 70368744177664 := by clear b1; omega
          simp (disch := (clear b1 b2; omega)) [b1, b2, hmp, hpp, wrap_i64, htc2, htvv, natsV, hi1, hi0, hta, hta1, hta2, hTWl, h, intsV, hkc, hck, hsvx, e2, e3, e4, hlt, hbx, hbp, hrow, hkr, hkn]
        all_goals
          clear b1 b2
          refine CallG.rows [3] rfl rfl rfl rfl (by simp) (by simp) hin (by simp) (by simp) ?_
          simp (disch := omega) [wrap_i64]
          refine ihm (m + 1) _ (by omega) (by omega) ?_
          simp [htc2, intsV, hBs4]
      · have hmm : m = ps.length := by omega
        subst hmm
        rw [hBe]
        have hBl4 := hBl ps.length
        have hBm4 := hBm ps.length
        rw [hBe] at hBl4 hBm4
        generalize hPK : ps.map (· ++ [k]) = PK at hN4 hBl4 hBm4 ⊢
        cases PK with
        | nil =>
          have hs0 : srt (cmpP (costP t l)) ([] : List (List Nat)) = [] := List.length_eq_zero_iff.1 (by rw [srt_len]; rfl)
          simp only [bstP, List.foldl_nil] at hN4
          rw [hs0]
          simp (disch := omega) [wrap_i64]
          exact ihk (k + 1) _ (by omega) (by omega) (by simp [htc2, hN4])
        | cons x r =>
          obtain ⟨r', hr'⟩ := srt_head (linP (costP t l)) x r
          rw [hr'] at hBl4 hBm4 ⊢
          simp only [bstP, List.foldl_cons, List.foldl_nil] at hN4
          have hyl := hBm4 (minL (cmpP (costP t l)) x r) (by simp)
          generalize minL (cmpP (costP t l)) x r = y at hN4 hyl hBl4
          have hin := hinto (costP t l) (N k) y (i + 1) hNg4 hyl (by omega) (by omega)
          rw [← hN4, ← htv] at hin
          rw [htvv y] at hin
          have hpos : (0 : Int) < (r'.length : Int) + 1 := by omega
          simp (disch := omega) [wrap_i64, hpos, htvv]
          refine CallG.rows [2] rfl rfl rfl rfl (by simp) (by simp) hin (by simp) (by simp) ?_
          simp (disch := omega) [wrap_i64]
          exact ihk (k + 1) _ (by omega) (by omega) (by simp [htc2])
    · have hkk : k = t.1.length := by omega
      subst hkk
      have hNl4 := hNl t.1.length
      generalize N t.1.length = so at hnext hNl4
      by_cases hmin2 : mm < so.length
      · have m1 : (so.length : Int) > mm := by omega
        have m2 : mm ≤ so.length := by omega
        have m3 : (mm : Int) ≤ so.length := by omega
        have m4 : ¬ (so.length : Int) < mm := by omega
        simp (disch := omega) [wrap_i64, m1, m2, m3, m4, htc2]
        exact ih (i + 1) _ (by omega) (by omega) (by simp [htc2, hnext])
      · have m2 : so.take mm = so := List.take_of_length_le (by omega)
        have m3 : (so.map tv).take so.length = so.map tv := List.take_of_length_le (by simp)
        by_cases m1 : (so.length : Int) < mm
        · simp (disch := omega) [wrap_i64, m1, htc2]
          exact ih (i + 1) _ (by omega) (by omega) (by simp [htc2, hnext, m2, m3])
        · have m5 : mm = so.length := by omega
          have m4 : (mm : Int) ≤ so.length := by omega
          have m6 : (so.map tv).take mm = so.map tv := List.take_of_length_le (by simp; omega)
          simp (disch := omega) [wrap_i64, m1, m4, htc2]
          exact ih (i + 1) _ (by omega) (by omega) (by simp [htc2, hnext, m2, m6])
  have hil : i = l.length := by omega
  subst hil
  have hgood := beamP_good hT mm l.length (Nat.le_refl _)
  have hplen := beamP_len t l mm l.length
  generalize beamP t l mm l.length = ps at hgood hplen hres ⊢
  have hzl := csB_len hT.z
  have hzr := csB_rng hT.z
  obtain ⟨qv, hqv⟩ : ∃ qv : List Nat → PV, qv = tlV (finP t l) := ⟨_, rfl⟩
  have hqvv : ∀ a, qv a = .st [.i (finP t l a), natsV a] := by intro a; rw [hqv]; rfl
  obtain ⟨B, hB⟩ : ∃ B : Nat → List (List Nat), ∀ m, B m = (ps.take m).foldl (insG (cmpP (finP t l))) [] := ⟨_, fun _ => rfl⟩
  have hB0 : B 0 = [] := by rw [hB]; rfl
  have hBs : ∀ m (hm : m < ps.length), B (m + 1) = insG (cmpP (finP t l)) (B m) ps[m] := fun m hm => by
    rw [hB, hB, List.take_succ_eq_append_getElem hm, List.foldl_append]; rfl
  have hBm : ∀ m, ∀ a ∈ B m, a.length = l.length := fun m a ha => by
    rw [hB, ins_srt (linP _), srt_mem] at ha
    exact (hgood a (List.mem_of_mem_take ha)).len
  have hBl : ∀ m, (B m).length ≤ m := fun m => by
    rw [hB, ins_srt (linP _), srt_len]; simp; omega
  have hBe : B ps.length = srt (cmpP (finP t l)) ps := by rw [hB, List.take_length, ins_srt (linP _)]
  clear hB
  simp
  refine Run.loopA (ι := Nat) [(1, 3), (2, 19)] (fun m => m ≤ ps.length) (fun m => ⟨[(1, .v (.word l)), (3, .ptr 1 0 0), (12, .v (.sl 2 (ps.map tv))), (19, .h 2), (20, .I m)], [(2, ⟨false, 2, (B m).map qv⟩), (1, ⟨false, 6, [tagV t]⟩)], 1024⟩) (fun m => ps.length - m) 0 (by decide) (by simp [htc2, hB0]) (by simp) ?_
  rintro m hm ihm
  by_cases hmp : m < ps.length
  · have hp := hgood _ (List.getElem_mem hmp)
    have hBs4 := hBs m hmp
    have hBm4 := hBm m
    have hBl4 := hBl m
    generalize hpp : ps[m] = p at hp hBs4
    have hplp := hp.len
    have hin := hinto (finP t l) (B m) p l.length hBm4 hplp (by omega) (by omega)
    rw [← hBs4, ← hqv] at hin
    rw [hqvv p] at hin
    by_cases hl0 : l.length = 0
    · have hle : l = [] := List.length_eq_zero_iff.1 hl0
      have hpe : p = [] := List.length_eq_zero_iff.1 (by omega)
      have hq : finP t l p = costP t l p := by rw [hpe]; simp [finP]
      rw [hq] at hin
      subst hle
      simp (disch := omega) [hmp, hpp, wrap_i64, htvv]
      refine CallG.rows [2] rfl rfl rfl rfl (by simp) (by simp) hin (by simp) (by simp) ?_
      simp (disch := omega) [wrap_i64]
      exact ihm (m + 1) _ (by omega) (by omega) (by simp [htc2])
    · have hlp : 0 < l.length := by omega
      have hlast : p.getLast? = some (p[l.length - 1]'(by omega)) := by
        rw [List.getLast?_eq_getElem?, show p.length - 1 = l.length - 1 by rw [hplp]]; exact List.getElem?_eq_getElem _
      have hlt := hp.lt _ (List.getElem_mem (show l.length - 1 < p.length by omega))
      generalize hx : p[l.length - 1]'(by omega) = x at hlast hlt
      have hxz : x < t.2.2.1.length := by omega
      have hzv := hzr _ (List.getElem_mem hxz)
      have hq : finP t l p = costP t l p + t.2.2.1[x] := by
        unfold finP; rw [hlast]; simp only [at0_eq hxz]
      have hgp := hp.c0
      have hgp1 := hp.c1
      have hcst : costP t l p ≤ 40000000000 := by omega
      rw [hq] at hin
      generalize hzz : t.2.2.1[x] = zv at hzv hin
      have e2 : ((l.length : Int) - 1).toNat = l.length - 1 := by omega
      have e3 : (0 : Int) ≤ (l.length : Int) - 1 := by omega
      have e4 : 1 ≤ l.length := by omega
      have e5 : l.length - 1 < p.length := by omega
      have e6 : (0 : Int) < l.length := by omega
      simp (disch := omega) [hmp, hpp, wrap_i64, hlp, e2, e3, e4, e5, e6, htc2, natsV, intsV, hx, hxz, hzz, htvv]
      simp only [natsV] at hin
      refine CallG.rows [2] rfl rfl rfl rfl (by simp) (by simp) hin (by simp) (by simp) ?_
      simp (disch := omega) [wrap_i64]
      exact ihm (m + 1) _ (by omega) (by omega) (by simp [htc2, intsV])
  · have hmm : m = ps.length := by omega
    subst hmm
    rw [hBe]
    rcases ps with _ | ⟨x, r⟩
    · have hs0 : srt (cmpP (finP t l)) ([] : List (List Nat)) = [] := List.length_eq_zero_iff.1 (by rw [srt_len]; rfl)
      simp only at hres
      subst hres
      rw [hs0]
      simp
      exact Ends.v rfl (by simp)
    · obtain ⟨r', hr'⟩ := srt_head (linP (finP t l)) x r
      have hmem := minL_mem (cmpP (finP t l)) r x
      have hgm := hgood _ hmem
      simp only at hres
      rw [hr']
      generalize minL (cmpP (finP t l)) x r = y at hres hgm
      subst hres
      have hyl : y.length ≤ 200 := by rw [hgm.len]; exact hn
      have hnm := fok40 t y hgm.lt (by omega)
      rw [htc2] at hnm
      have hpos : ¬ ((r'.length : Int) + 1 = 0) := by omega
      have hpos2 : (0 : Int) < (r'.length : Int) + 1 := by omega
      simp (disch := omega) [wrap_i64, hpos, hpos2, hqvv, htc2]
      refine CallG.plain rfl rfl rfl rfl hnm (by simp) (by simp) ?_
      simp
      exact Ends.v rfl (by simp)

end Go.Proofs
