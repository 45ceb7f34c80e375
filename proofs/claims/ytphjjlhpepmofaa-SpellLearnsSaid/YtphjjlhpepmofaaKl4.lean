/- The walk. -/
import Derived.Test.YtphjjlhpepmofaaKl3
import Derived.Test.YtphjjlhpepmofaaF15
import Derived.Test.YtphjjlhpepmofaaProg
import Derived.KernelRfl
set_option linter.all false
set_option maxHeartbeats 2000000
namespace Go.Proofs
open Go Go.AM
attribute [local irreducible] Run Ends
/-- ablaut/ablautref23.Learn -/
def c34 : MC :=
  .seq (.reg false [.op .none 2 (.alloc true [(.w (.int .i64 0)), (.w (.int .i64 0)), (.w (.int .i64 0)), (.w (.int .i64 0)), (.sl 3 [])]),
    .op .none 3 (.mv (.c (.w (.int .i64 0))))]) <|
  .seq (.seq (.reg false [.op .none 15 (.mv (.t 0)),
    .op .none 16 (.len false (.t 15)),
    .op .none 17 (.bin .gtr (.t 16) (.c (.w (.int .i64 200))))]) <|
  .cond (.t 17)
    (.seq (.reg false [.op .none 18 (.build false [(.w (.int .i64 0)), (.w (.int .i64 0)), (.w (.int .i64 0)), (.w (.int .i64 0)), (.sl 3 [])] []),
      .store .none (.stt true 5 (.t 2) (.t 18)),
      .op .none 3 (.mv (.c (.w (.int .i64 3))))]) <|
    .ret)
    (.skip)) <|
  .seq (.seq (.reg false [.op .none 4 (.mv (.c (.w (.int .i64 0))))]) <|
  .block 0 <|
    .loop <|
      .seq (.seq (.reg false [.op .none 19 (.mv (.t 4)),
        .op .none 20 (.mv (.t 0)),
        .op .none 21 (.len false (.t 20)),
        .op .none 22 (.bin .lss (.t 19) (.t 21))]) <|
      .cond (.t 22)
        (.skip)
        (.exit 0)) <|
      .seq (.block 1 <|
        .seq (.reg true [.op .none 25 (.mv (.t 0)),
          .op .none 26 (.mv (.t 4)),
          .op .none 27 (.ia 2 (.t 25) (.t 26)),
          .op .none 28 (.iaA 2 1 (.t 27) (.c (.w (.int .i64 0)))),
          .op .none 29 (.ld false 1 (.t 28)),
          .op .none 30 (.mv (.t 0)),
          .op .none 31 (.mv (.t 4)),
          .op .none 32 (.ia 2 (.t 30) (.t 31)),
          .op .none 33 (.iaA 2 1 (.t 32) (.c (.w (.int .i64 1)))),
          .op .none 34 (.ld false 1 (.t 33)),
          .op .none 35 (.buildS true 1 2 false [(.sl 1 [])] [(0, (.t 29)), (1, (.t 34))]),
          .call .none 36 (.f 59) [(.t 35)],
          .op .none 5 (.mv (.t 36))]) <|
        .seq (.reg false [.op .none 37 (.mv (.t 5)),
          .op .none 38 (.bin .neq (.t 37) (.c (.w (.int .i64 0))))]) <|
        .cond (.t 38)
          (.seq (.reg false [.op .none 39 (.build false [(.w (.int .i64 0)), (.w (.int .i64 0)), (.w (.int .i64 0)), (.w (.int .i64 0)), (.sl 3 [])] []),
            .op .none 40 (.mv (.t 5)),
            .store .none (.stt true 5 (.t 2) (.t 39)),
            .op .none 3 (.mv (.t 40))]) <|
          .ret)
          (.skip)) <|
      .reg false [.op .none 23 (.mv (.t 4)),
        .op .none 24 (.bin .add (.t 23) (.c (.w (.int .i64 1)))),
        .op .none 4 (.mv (.t 24))]) <|
  .seq (.reg false [.op .none 41 (.build false [(.w (.int .i64 0)), (.w (.int .i64 0)), (.w (.int .i64 0)), (.w (.int .i64 0)), .nl] [(0, 1, (.c (.w (.int .i64 100)))), (1, 1, (.c (.w (.int .i64 100)))), (2, 1, (.c (.w (.int .i64 100)))), (3, 1, (.c (.w (.int .i64 100))))]),
    .op .none 6 (.alcN [(.w (.int .i64 0)), (.w (.int .i64 0)), (.w (.int .i64 0)), (.w (.int .i64 0)), .nl]),
    .store .none (.stt true 5 (.t 6) (.t 41))]) <|
  .seq (.reg false [.op .none 42 (.mkM),
    .op .none 7 (.mv (.t 42))]) <|
  .seq (.reg false [.op .none 8 (.nilS 3)]) <|
  .seq (.seq (.reg false [.op .none 9 (.mv (.c (.w (.int .i64 0))))]) <|
  .block 2 <|
    .loop <|
      .seq (.seq (.reg false [.op .none 43 (.mv (.t 9)),
        .op .none 44 (.mv (.t 0)),
        .op .none 45 (.len false (.t 44)),
        .op .none 46 (.bin .lss (.t 43) (.t 45))]) <|
      .cond (.t 46)
        (.skip)
        (.exit 2)) <|
      .seq (.block 3 <|
        .seq (.reg true [.op .none 49 (.ldR 5 (.t 6)),
          .op .none 50 (.mv (.t 0)),
          .op .none 51 (.mv (.t 9)),
          .op .none 52 (.ia 2 (.t 50) (.t 51)),
          .op .none 53 (.iaA 2 1 (.t 52) (.c (.w (.int .i64 0)))),
          .op .none 54 (.ld false 1 (.t 53)),
          .op .none 55 (.mv (.t 0)),
          .op .none 56 (.mv (.t 9)),
          .op .none 57 (.ia 2 (.t 55) (.t 56)),
          .op .none 58 (.iaA 2 1 (.t 57) (.c (.w (.int .i64 1)))),
          .op .none 59 (.ld false 1 (.t 58)),
          .call .none 60 (.f 45) [(.t 49), (.t 54), (.t 59)],
          .op .none 10 (.mv (.t 60))]) <|
        .seq (.reg false [.op .none 11 (.mv (.c (.w (.int .i64 0))))]) <|
        .block 4 <|
          .loop <|
            .seq (.seq (.reg false [.op .none 61 (.mv (.t 11)),
              .op .none 62 (.mv (.t 10)),
              .op .none 63 (.len false (.t 62)),
              .op .none 64 (.bin .lss (.t 61) (.t 63))]) <|
            .cond (.t 64)
              (.skip)
              (.exit 4)) <|
            .seq (.block 5 <|
              .seq (.seq (.reg false [.op .none 67 (.mv (.t 10)),
                .op .none 68 (.mv (.t 11)),
                .op .none 69 (.ia 3 (.t 67) (.t 68)),
                .op .none 70 (.fa 0 (.t 69)),
                .op .none 71 (.ld false 1 (.t 70)),
                .op .none 72 (.bin .neq (.t 71) (.c (.w (.int .i64 3))))]) <|
              .cond (.t 72)
                (.exit 5)
                (.skip)) <|
              .seq (.reg true [.op .none 73 (.mv (.t 0)),
                .op .none 74 (.mv (.t 9)),
                .op .none 75 (.ia 2 (.t 73) (.t 74)),
                .op .none 76 (.iaA 2 1 (.t 75) (.c (.w (.int .i64 0)))),
                .op .none 77 (.ld false 1 (.t 76)),
                .op .none 78 (.mv (.t 10)),
                .op .none 79 (.mv (.t 11)),
                .op .none 80 (.ia 3 (.t 78) (.t 79)),
                .op .none 81 (.fa 1 (.t 80)),
                .op .none 82 (.ld false 1 (.t 81)),
                .op .none 83 (.ia 1 (.t 77) (.t 82)),
                .op .none 84 (.ld false 1 (.t 83)),
                .op .none 85 (.mv (.t 10)),
                .op .none 86 (.mv (.t 11)),
                .op .none 87 (.ia 3 (.t 85) (.t 86)),
                .op .none 88 (.fa 2 (.t 87)),
                .op .none 89 (.ld false 1 (.t 88)),
                .call .none 90 (.f 67) [(.t 84), (.t 89), (.c (.w (.int .i64 0)))],
                .op .none 12 (.alloc true [(.w (.string ⟨#[]⟩)), (.w (.string ⟨#[]⟩)), (.w (.int .i64 0))]),
                .store .none (.stt true 3 (.t 12) (.t 90))]) <|
              .seq (.seq (.reg false [.op .none 91 (.mv (.t 7)),
                .op .none 92 (.ld true 3 (.t 12)),
                .op .none 93 (.mlk true [false, false, true] false (.w (.int .i64 0)) (.t 91) (.t 92)),
                .op .none 94 (.bin .eql (.t 93) (.c (.w (.int .i64 0))))]) <|
              .cond (.t 94)
                (.reg false [.op .none 95 (.mv (.t 8)),
                  .op .none 96 (.ld true 3 (.t 12)),
                  .op .none 97 (.buildS false 3 1 true [(.w (.string ⟨#[]⟩)), (.w (.string ⟨#[]⟩)), (.w (.int .i64 0))] [(0, (.t 96))]),
                  .op .none 98 (.app 3 40 (.t 95) (.t 97)),
                  .op .none 8 (.mv (.t 98))])
                (.skip)) <|
              .reg true [.op .none 99 (.mv (.t 7)),
                .op .none 100 (.ld true 3 (.t 12)),
                .inc 101 102 103 104 true [false, false, true] (.t 99) (.t 100)]) <|
            .reg false [.op .none 65 (.mv (.t 11)),
              .op .none 66 (.bin .add (.t 65) (.c (.w (.int .i64 1)))),
              .op .none 11 (.mv (.t 66))]) <|
      .reg false [.op .none 47 (.mv (.t 9)),
        .op .none 48 (.bin .add (.t 47) (.c (.w (.int .i64 1)))),
        .op .none 9 (.mv (.t 48))]) <|
  .seq (.seq (.reg false [.op .none 105 (.mv (.t 8)),
    .op .none 106 (.len false (.t 105)),
    .op .none 107 (.bin .gtr (.t 106) (.c (.w (.int .i64 200))))]) <|
  .cond (.t 107)
    (.seq (.reg false [.op .none 108 (.build false [(.w (.int .i64 0)), (.w (.int .i64 0)), (.w (.int .i64 0)), (.w (.int .i64 0)), (.sl 3 [])] []),
      .store .none (.stt true 5 (.t 2) (.t 108)),
      .op .none 3 (.mv (.c (.w (.int .i64 3))))]) <|
    .ret)
    (.skip)) <|
  .seq (.reg false [.op .none 109 (.mv (.t 8)),
    .call .none 110 (.f 68) [(.t 109)],
    .op .none 8 (.mv (.t 110))]) <|
  .seq (.seq (.reg false [.op .none 13 (.mv (.c (.w (.int .i64 0))))]) <|
  .block 6 <|
    .loop <|
      .seq (.seq (.reg false [.op .none 111 (.mv (.t 13)),
        .op .none 112 (.mv (.t 8)),
        .op .none 113 (.len false (.t 112)),
        .op .none 114 (.bin .lss (.t 111) (.t 113))]) <|
      .cond (.t 114)
        (.skip)
        (.exit 6)) <|
      .seq (.block 7 <|
        .seq (.reg false [.op .none 117 (.mv (.t 8)),
          .op .none 118 (.mv (.t 13)),
          .op .none 119 (.ia 3 (.t 117) (.t 118)),
          .op .none 120 (.ld true 3 (.t 119)),
          .op .none 14 (.alloc true [(.w (.string ⟨#[]⟩)), (.w (.string ⟨#[]⟩)), (.w (.int .i64 0))]),
          .store .none (.stt true 3 (.t 14) (.t 120))]) <|
        .seq (.reg false [.op .none 121 (.mv (.t 7)),
          .op .none 122 (.mv (.t 8)),
          .op .none 123 (.mv (.t 13)),
          .op .none 124 (.ia 3 (.t 122) (.t 123)),
          .op .none 125 (.ld true 3 (.t 124)),
          .op .none 126 (.mlk true [false, false, true] false (.w (.int .i64 0)) (.t 121) (.t 125)),
          .op .none 127 (.bin .add (.t 126) (.c (.w (.int .i64 1)))),
          .op .none 128 (.bin .quo (.c (.w (.int .i64 100))) (.t 127)),
          .op .none 129 (.fa 2 (.t 14)),
          .store .none (.stt false 1 (.t 129) (.t 128))]) <|
        .reg false [.op .none 130 (.fa 4 (.t 6)),
          .op .none 131 (.ld false 1 (.t 130)),
          .op .none 132 (.ld true 3 (.t 14)),
          .op .none 133 (.buildS false 3 1 true [(.w (.string ⟨#[]⟩)), (.w (.string ⟨#[]⟩)), (.w (.int .i64 0))] [(0, (.t 132))]),
          .op .none 134 (.app 3 40 (.t 131) (.t 133)),
          .op .none 135 (.fa 4 (.t 6)),
          .store .none (.stt false 0 (.t 135) (.t 134))]) <|
      .reg false [.op .none 115 (.mv (.t 13)),
        .op .none 116 (.bin .add (.t 115) (.c (.w (.int .i64 1)))),
        .op .none 13 (.mv (.t 116))]) <|
  .seq (.reg false [.op .none 136 (.ldR 5 (.t 6)),
    .store .none (.stt true 5 (.t 2) (.t 136)),
    .op .none 3 (.mv (.c (.w (.int .i64 0))))]) <|
  .ret
theorem k34 : FnCode Try.prog 34 [400006, 800006, 800041, 1200049, 1200136, 100135, 35] 137 [11000025000002, 3] c34 := ⟨Try.f34, Try.func34, fun xs W => Try.call34 xs W, by kernel_rfl, by kernel_rfl, by kernel_rfl⟩

def nrCell (L : List PrsT) : PV := if vLrn L = 0 then (if lrnC L = [] then .nl else .sl 3 (nrV (costG (lrnC L)) (srt cmpK ((lrnC L).map Prod.fst)))) else .sl 3 []
def lrn4 (L : List PrsT) : Int := if vLrn L = 0 then 100 else 0
theorem cnt3V_cons (l : List (PairT × Int)) : ∀ i : Nat, (cnt3V l)[i]? = (l[i]?).map fun x => PV.st [.st [.w (.string (bs x.1.1)), .w (.string (bs x.1.2)), .w (.int .i64 0)], .w (.int .i64 x.2)] := by intro i; simp [cnt3V]
theorem bmp_keys_none {k : PairT} {l : List (PairT × Int)} (h : look k l = none) : (bmp k l).map Prod.fst = l.map Prod.fst ++ [k] := by
  rw [bmp_keys, if_neg (look_mem.1 h)]
theorem bmp_keys_some {k : PairT} {c : Int} {l : List (PairT × Int)} (h : look k l = some c) : (bmp k l).map Prod.fst = l.map Prod.fst := by
  rw [bmp_keys, if_pos]
  exact List.mem_map.2 ⟨_, look_in h, rfl⟩

set_option maxRecDepth 100000 in
theorem fokA34 (L : List PrsT) (hL : prsS L) : FOk Try.prog 34 [.v (prsV L)] [] (.tup [.v (.st [.i (lrn4 L), .i (lrn4 L), .i (lrn4 L), .i (lrn4 L), nrCell L]), .I (vLrn L)]) [] := by
  have hres0 : 200 < L.length → AV.tup [.v (.st [.i (lrn4 L), .i (lrn4 L), .i (lrn4 L), .i (lrn4 L), nrCell L]), .I (vLrn L)] = AV.tup [.v (.st [.i 0, .i 0, .i 0, .i 0, .sl 3 []]), .I 3] := fun h1 => by
    have h3 : vLrn L = 3 := by simp only [vLrn, if_pos h1]
    simp only [lrn4, nrCell, h3, if_neg (show (3 : Int) ≠ 0 by decide)]
  have hres1 : ¬ 200 < L.length → vPairs L ≠ 0 → AV.tup [.v (.st [.i (lrn4 L), .i (lrn4 L), .i (lrn4 L), .i (lrn4 L), nrCell L]), .I (vLrn L)] = AV.tup [.v (.st [.i 0, .i 0, .i 0, .i 0, .sl 3 []]), .I (vPairs L)] := fun h0 h1 => by
    have h2 : vLrn L = vPairs L := by simp only [vLrn, if_neg h0, if_neg h1]
    have h3 : vLrn L ≠ 0 := by rw [h2]; exact h1
    simp only [lrn4, nrCell, if_neg h3]; rw [h2]
  have hres2 : ¬ 200 < L.length → vPairs L = 0 → 200 < (lrnC L).length → AV.tup [.v (.st [.i (lrn4 L), .i (lrn4 L), .i (lrn4 L), .i (lrn4 L), nrCell L]), .I (vLrn L)] = AV.tup [.v (.st [.i 0, .i 0, .i 0, .i 0, .sl 3 []]), .I 3] := fun h0 h1 h2 => by
    have h3 : vLrn L = 3 := by simp only [vLrn, if_neg h0, if_pos h1, if_pos h2]
    simp only [lrn4, nrCell, h3, if_neg (show (3 : Int) ≠ 0 by decide)]
  have hres3 : ¬ 200 < L.length → vPairs L = 0 → ¬ 200 < (lrnC L).length → AV.tup [.v (.st [.i (lrn4 L), .i (lrn4 L), .i (lrn4 L), .i (lrn4 L), nrCell L]), .I (vLrn L)] = AV.tup [.v (.st [.i 100, .i 100, .i 100, .i 100, if lrnC L = [] then .nl else .sl 3 (nrV (costG (lrnC L)) (srt cmpK ((lrnC L).map Prod.fst)))]), .I 0] := fun h0 h1 h2 => by
    have h3 : vLrn L = 0 := by simp only [vLrn, if_neg h0, if_pos h1, if_neg h2]
    simp only [lrn4, nrCell, h3, if_pos]
  generalize (AV.tup [.v (.st [.i (lrn4 L), .i (lrn4 L), .i (lrn4 L), .i (lrn4 L), nrCell L]), .I (vLrn L)]) = res at hres0 hres1 hres2 hres3 ⊢
  refine FOk.val k34 (by simp) (by simp) (by decide) ?_
  simp [c34, prsV]
  refine ⟨fun h => ?_, fun h => ?_⟩
  · exact Ends.v rfl (by rw [hres0 h]; simp)
  have hres1 := hres1 (by omega)
  have hres2 := hres2 (by omega)
  have hres3 := hres3 (by omega)
  clear hres0
  refine Run.loopA (ι := Nat) [(1, 2)] (fun i => i ≤ L.length ∧ (vPairs (L.drop i) = 0 ↔ vPairs L = 0) ∧ (vPairs L ≠ 0 → vPairs (L.drop i) = vPairs L)) (fun i => ⟨[(0, .v (.sl 2 (L.map prV))), (2, .ptr 1 0 0), (4, .I i)], [(1, ⟨false, 5, [.st [.i 0, .i 0, .i 0, .i 0, .sl 3 []]]⟩)], 1024⟩) (fun i => L.length - i) 0 (by decide) (by simp) ⟨by omega, by simp, by simp⟩ ?_
  rintro i ⟨hi, hv, hv2⟩ ih
  by_cases hi2 : i < L.length
  · rw [drop_at hi2] at hv hv2
    simp only [vPairs] at hv hv2
    have hg := prsV_get hi2
    have hw := hL.2 _ (List.getElem_mem hi2)
    generalize L[i] = x at hg hw hv hv2
    obtain ⟨a, b⟩ := x
    simp only at hg hw hv hv2
    have ca := fok59 [a, b] (by simp [hw.1, hw.2]) (by simp)
    simp only [PV.word, wordsV, List.map_cons, List.map_nil] at hg ca
    have e1 : vWords [a, b] = if vWord a = 0 then vWord b else vWord a := by
      simp only [vWords]; (repeat' split) <;> simp_all
    rw [e1] at ca
    simp (disch := omega) [hi2, hg, wrap_i64]
    refine CallG.lent rfl rfl rfl rfl ca rfl ?_
    by_cases h3 : vWord a = 0
    · rw [if_pos h3] at hv hv2 ⊢
      by_cases h4 : vWord b = 0
      · rw [if_pos h4] at hv hv2
        simp (disch := omega) [wrap_i64, h4]
        exact ih (i + 1) _ ⟨by omega, hv, hv2⟩ (by omega) (by simp)
      · have h5 : vPairs L ≠ 0 := fun h5 => by have := hv.2 h5; rw [if_neg h4] at this; exact h4 this
        have h6 := hv2 h5
        rw [if_neg h4] at h6
        simp (disch := omega) [wrap_i64, h4]
        exact Ends.v rfl (by rw [hres1 h5, ← h6]; simp)
    · rw [if_neg h3] at hv hv2 ⊢
      have h5 : vPairs L ≠ 0 := fun h5 => h3 (hv.2 h5)
      have h6 := hv2 h5
      simp (disch := omega) [wrap_i64, h3]
      exact Ends.v rfl (by rw [hres1 h5, ← h6]; simp)
  · have hvp : vPairs L = 0 := by rw [← hv, drop_no hi2]; rfl
    have hres2 := hres2 hvp
    have hres3 := hres3 hvp
    have hokw := fun x hx => vPairs_ok hvp x hx
    have hLl : L.length ≤ 200 := by omega
    simp (disch := omega) [hi2]
    clear ih hv hv2 hres1 hi hi2
    refine Run.loopA (ι := Nat) [(1, 2), (2, 6), (3, 7), (4, 8)] (fun i => i ≤ L.length ∧ OkC (lrnM L i) (i * 120)) (fun i => ⟨[(0, .v (.sl 2 (L.map prV))), (2, .ptr 1 0 0), (6, .ptr 2 0 0), (7, .h 3), (8, .h 4), (9, .I i)], [(1, ⟨false, 5, [.st [.i 0, .i 0, .i 0, .i 0, .sl 3 []]]⟩), (2, ⟨false, 0, .st [] :: [.i 100, .i 100, .i 100, .i 100, .nl]⟩), (3, ⟨false, 0, mkM :: cnt3V (lrnM L i)⟩), (4, ⟨false, 3, nrV (fun _ => 0) ((lrnM L i).map Prod.fst)⟩)], 1024⟩) (fun i => L.length - i) 0 (by decide) (by simp [cnt3V, lrnM, cnt, nrV]) ⟨by omega, by simpa [lrnM, cnt] using OkC.nil⟩ ?_
    rintro i ⟨hi, hM⟩ ih
    by_cases hi2 : i < L.length
    · have hg := prsV_get hi2
      have hnext : lrnM L (i + 1) = cnt (edKs L[i]) (lrnM L i) := lrnM_next hi2
      have hok := hokw _ (List.getElem_mem hi2)
      generalize L[i] = x at hg hnext hok
      obtain ⟨a, b⟩ := x
      simp only at hg hnext hok
      have ha := vWord_ok hok.1
      have hb := vWord_ok hok.2
      simp only [PV.word] at hg
      have hEl := edF_ln prL a b
      have hE3 := fun e (he : e ∈ edF prL a b) => edF_3 he
      have c1 := fok45 prL a b prL_ok ha hb
      simp only [edKs] at hnext
      generalize edF prL a b = E at hEl hE3 c1 hnext
      generalize lrnM L i = M at hM hnext
      simp only [pricesV, prL, List.map_nil, PV.word] at c1
      have c1 := FOk.nl (.same (.same (.same (.same (.nl .nil))))) c1
      simp (disch := omega) [hi2, hg, wrap_i64]
      refine CallG.plain rfl rfl rfl rfl c1 (by simp) (by simp) ?_
      simp [editsV]
      refine Run.loopA (ι := Nat) [(1, 2), (2, 6), (3, 7), (4, 8)] (fun j => j ≤ E.length ∧ OkC (cnt ((E.take j).filterMap (edK a)) M) (i * 120 + j)) (fun j => ⟨[(0, .v (.sl 2 (L.map prV))), (2, .ptr 1 0 0), (6, .ptr 2 0 0), (7, .h 3), (8, .h 4), (9, .I i), (10, .v (.sl 3 (E.map editV))), (11, .I j)], [(1, ⟨false, 5, [.st [.i 0, .i 0, .i 0, .i 0, .sl 3 []]]⟩), (2, ⟨false, 0, .st [] :: [.i 100, .i 100, .i 100, .i 100, .nl]⟩), (3, ⟨false, 0, mkM :: cnt3V (cnt ((E.take j).filterMap (edK a)) M)⟩), (4, ⟨false, 3, nrV (fun _ => 0) ((cnt ((E.take j).filterMap (edK a)) M).map Prod.fst)⟩)], 1024⟩) (fun j => E.length - j) 0 (by decide) (by simp [cnt]) ⟨by omega, by simpa [cnt] using hM⟩ ?_
      rintro j ⟨hj, hC⟩ ihj
      by_cases hj2 : j < E.length
      · have he := hE3 _ (List.getElem_mem hj2)
        have hjn : (E.take (j + 1)).filterMap (edK a) = (E.take j).filterMap (edK a) ++ (edK a E[j]).toList := by
          rw [List.take_succ_eq_append_getElem hj2, List.filterMap_append]
          cases h9 : edK a E[j] <;> simp [h9]
        have heg : (E.map editV)[j]? = some (.st [.i E[j].1, .i E[j].2.1, .w (.string (bs E[j].2.2.1))]) := by simp [List.getElem?_eq_getElem hj2, editV]
        generalize E[j] = e at he hjn heg
        obtain ⟨k, at', s, u⟩ := e
        simp only at he heg
        generalize hC0 : cnt ((E.take j).filterMap (edK a)) M = C at hC
        have hCn : cnt ((E.take (j + 1)).filterMap (edK a)) M = cnt (edK a (k, at', s, u)).toList C := by rw [hjn, cnt_app, hC0]
        by_cases hk : k = 3
        · subst hk
          obtain ⟨he0, he⟩ := he
          obtain ⟨g1, g2, g3, g4⟩ := he rfl
          obtain ⟨at', rfl⟩ : ∃ n : Nat, at' = n := ⟨at'.toNat, by omega⟩
          simp only [Int.toNat_natCast] at g1 g3 g4
          have hag : (a.map fun s => PV.w (.string (bs s)))[at']? = some (.w (.string (bs a[at']))) := by simp [List.getElem?_eq_getElem g1]
          simp only [edK, if_pos, Int.toNat_natCast, List.getElem?_eq_getElem g1, Option.getD_some, Option.toList_some, cnt_one] at hCn
          generalize hxa : a[at'] = x at hag hCn
          have cn := fok67 x s 0
          simp only [nearV, nrG] at cn
          generalize loS x s = lo at hCn cn
          generalize hiS x s = hi' at hCn cn
          have hCl := hC.len
          have hb2 : ((nrV (fun _ => 0) (C.map Prod.fst)).length + 1 + 1000) * 40 ≤ 70368744177664 := by rw [nrV_len, List.length_map]; omega
          cases hlk : look (lo, hi') C with
          | none =>
            have hkn : nrV (fun _ => 0) ((bmp (lo, hi') C).map Prod.fst) = nrV (fun _ => 0) (C.map Prod.fst) ++ [.st [.w (.string (bs lo)), .w (.string (bs hi')), .i 0]] := by
              rw [bmp_keys_none hlk]; simp [nrV, nearV, nrG]
            simp (disch := (clear hb2; omega)) [hj2, heg, wrap_i64, hag, g1, hg, hi2]
            refine CallG.lent rfl rfl rfl rfl cn rfl ?_
            simp (disch := (clear hb2; omega)) [wrap_i64, mfind3, mset3n hlk, hlk, hb2]
            exact ihj (j + 1) _ ⟨by clear hb2; omega, by rw [hCn]; exact (hC.bmp _).mono (by clear hb2; omega)⟩ (by clear hb2; omega) (by rw [hCn, hkn]; simp)
          | some c =>
            have hc := hC.look hlk
            have hw : IntKind.i64.wrap (c + 1) = c + 1 := wrap_i64 (by clear hb2; omega) (by clear hb2; omega)
            have hc0 : c ≠ 0 := by clear hb2; omega
            simp (disch := (clear hb2; omega)) [hj2, heg, wrap_i64, hag, g1, hg, hi2]
            refine CallG.lent rfl rfl rfl rfl cn rfl ?_
            simp (disch := (clear hb2; omega)) [wrap_i64, mfind3, mset3s hlk, hlk, hw, hc0]
            exact ihj (j + 1) _ ⟨by clear hb2; omega, by rw [hCn]; exact (hC.bmp _).mono (by clear hb2; omega)⟩ (by clear hb2; omega) (by rw [hCn, bmp_keys_some hlk]; simp)
        · have : edK a (k, at', s, u) = none := by simp [edK, hk]
          rw [this] at hCn
          simp only [Option.toList_none, cnt_nil] at hCn
          simp (disch := omega) [hj2, heg, wrap_i64, hk]
          exact ihj (j + 1) _ ⟨by omega, by rw [hCn]; exact hC.mono (by omega)⟩ (by omega) (by rw [hCn]; simp)
      · have : E.take j = E := List.take_of_length_le (by omega)
        rw [this] at hC ⊢
        simp (disch := omega) [hj2, wrap_i64]
        exact ih (i + 1) _ ⟨by omega, by rw [hnext]; exact hC.mono (by omega)⟩ (by omega) (by rw [hnext]; simp)
    · have hMl : lrnM L i = lrnC L := by unfold lrnM lrnC; rw [List.take_of_length_le (by omega)]
      rw [hMl] at hM ⊢
      generalize lrnC L = M at *
      have hMn := hM.len
      simp (disch := omega) [hi2, nrV_len]
      refine ⟨fun h5 => Ends.v rfl (by rw [hres2 h5]; simp), fun h5 => ?_⟩
      have hres3 := hres3 (by omega)
      refine CallG.rows [] rfl rfl rfl rfl (by simp) (by simp) (fok68 (fun _ => 0) (M.map Prod.fst) (by simp; omega)) (by simp) (by simp) ?_
      simp
      have hRl : (srt cmpK (M.map Prod.fst)).length = M.length := by rw [srt_len, List.length_map]
      have hRm : ∀ k ∈ srt cmpK (M.map Prod.fst), ∃ n, look k M = some n ∧ 1 ≤ n ∧ n ≤ 24000 := fun k hk => by
        rw [srt_mem] at hk
        obtain ⟨⟨k', n⟩, h1, h2⟩ := List.mem_map.1 hk
        simp only at h2; subst h2
        have h3 := look_of hM.nd h1
        have := hM.look h3
        exact ⟨n, h3, by omega, by omega⟩
      generalize srt cmpK (M.map Prod.fst) = R at hres3 hRl hRm
      obtain ⟨Q, hQ⟩ : ∃ Q : Nat → List PV, Q = fun k => nrV (costG M) (R.take k) := ⟨_, rfl⟩
      have hQ0 : Q 0 = [] := by rw [hQ]; simp [nrV]
      have hQl : ∀ k, (Q k).length ≤ R.length := fun k => by rw [hQ]; simp only [nrV_len, List.length_take]; omega
      have hQk : ∀ k, k ≤ R.length → (Q k).length = k := fun k hk => by rw [hQ]; simp only [nrV_len, List.length_take]; omega
      have hQe : Q R.length = nrV (costG M) R := by rw [hQ]; simp
      have hQs : ∀ k, k < R.length → Q (k + 1) = Q k ++ nrV (costG M) (R[k]?.toList) := fun k hk => by
        rw [hQ]; simp only [nrV]; rw [List.take_succ, List.map_append]
      clear hQ
      refine Run.loopA (ι := Nat) [(1, 2), (2, 6), (3, 7), (4, 134)] (fun k => k ≤ R.length) (fun k => match k with
        | 0 => ⟨[(2, .ptr 1 0 0), (6, .ptr 2 0 0), (7, .h 3), (8, .v (.sl 3 (nrV (fun _ => 0) R))), (13, .I 0)], [(1, ⟨false, 5, [.st [.i 0, .i 0, .i 0, .i 0, .sl 3 []]]⟩), (2, ⟨false, 0, .st [] :: [.i 100, .i 100, .i 100, .i 100, .nl]⟩), (3, ⟨false, 0, mkM :: cnt3V M⟩)], 1024⟩
        | k + 1 => ⟨[(2, .ptr 1 0 0), (6, .ptr 2 0 0), (7, .h 3), (8, .v (.sl 3 (nrV (fun _ => 0) R))), (13, .I (k + 1))], [(1, ⟨false, 5, [.st [.i 0, .i 0, .i 0, .i 0, .sl 3 []]]⟩), (2, ⟨false, 0, encR 4 4 :: [.i 100, .i 100, .i 100, .i 100, .nl]⟩), (3, ⟨false, 0, mkM :: cnt3V M⟩), (4, ⟨false, 3, Q (k + 1)⟩)], 1024⟩) (fun k => R.length - k) 0 (by decide) (by simp) (by omega) ?_
      rintro k hk ihk
      by_cases hk2 : k < R.length
      · have hg := nrV_get (g := fun _ => 0) hk2
        obtain ⟨c, hlk, hc1, hc2⟩ := hRm _ (List.getElem_mem hk2)
        have hnx := hQs k hk2
        rw [List.getElem?_eq_getElem hk2, Option.toList_some] at hnx
        have hcost : costG M R[k] = Int.tdiv 100 (c + 1) := by simp [costG, hlk]
        generalize R[k] = y at hg hlk hnx hcost
        obtain ⟨a, b⟩ := y
        simp only at hg
        have hne : c + 1 ≠ 0 := by omega
        have hw0 : IntKind.i64.wrap (c + 1) = c + 1 := wrap_i64 (by omega) (by omega)
        have hw : IntKind.i64.wrap (Int.tdiv 100 (c + 1)) = Int.tdiv 100 (c + 1) := by
          have h1 : 0 ≤ Int.tdiv 100 (c + 1) := Int.tdiv_nonneg (by omega) (by omega)
          have h2 : Int.tdiv 100 (c + 1) ≤ 100 := by
            rw [Int.tdiv_eq_ediv_of_nonneg (by omega)]
            exact Int.ediv_le_self _ (by omega)
          exact wrap_i64 (by omega) (by omega)
        have hb2 : ((Q k).length + 1 + 1000) * 40 ≤ 70368744177664 := by have := hQl k; omega
        have hnn : Q (k + 1) = Q k ++ [.st [.w (.string (bs a)), .w (.string (bs b)), .i (Int.tdiv 100 (c + 1))]] := by
          rw [hnx]; simp [nrV, nearV, nrG, hcost]
        cases k with
        | zero =>
          rw [hQ0] at hnn
          simp only [List.nil_append, Nat.zero_add] at hnn
          simp (disch := (clear hb2; omega)) [hk2, nrV_len, hg, mfind3, hlk, hw0, hne, hw, wrap_i64]
          exact ihk 1 _ (by clear hb2; omega) (by clear hb2; omega) (by simp [hnn])
        | succ k =>
          have hb3 : (k + 1 + 1 + 1000) * 40 ≤ 70368744177664 := by clear hb2; omega
          simp (disch := (clear hb2 hb3; omega)) [hk2, nrV_len, hg, mfind3, hlk, hw0, hne, hw, hb2, hb3, wrap_i64]
          exact ihk (k + 2) _ (by clear hb2 hb3; omega) (by clear hb2 hb3; omega) (by simp [hnn])
      · have hkR : k = R.length := by omega
        cases k with
        | zero =>
          have hM0 : M = [] := List.length_eq_zero_iff.1 (by omega)
          simp (disch := omega) [hk2, nrV_len, ← hkR]
          exact Ends.v rfl (by rw [hres3, if_pos hM0]; simp)
        | succ k =>
          have hM0 : M ≠ [] := fun h => by have h2 : M.length = 0 := by rw [h]; rfl
                                           omega
          have hRt : Q (k + 1) = nrV (costG M) R := by rw [hkR]; exact hQe
          simp (disch := omega) [hk2, nrV_len, ← hkR, hRt]
          exact Ends.v rfl (by rw [hres3, if_neg hM0]; simp)

theorem fok34 (L : List PrsT) (hL : prsS L) : FOk Try.prog 34 [.v (prsV L)] [] (.tup [.v (pricesV (lrnP L)), .I (vLrn L)]) [] := by
  have h := fokA34 L hL
  have e : pricesV (lrnP L) = .st [.i (lrn4 L), .i (lrn4 L), .i (lrn4 L), .i (lrn4 L), .sl 3 (if vLrn L = 0 then nrV (costG (lrnC L)) (srt cmpK ((lrnC L).map Prod.fst)) else [])] := by
    unfold lrnP lrn4
    by_cases h0 : vLrn L = 0
    · simp only [h0, if_pos, pricesV, nrV, List.map_map]; rfl
    · simp only [if_neg h0, pricesV, pz, List.map_nil]; rfl
  rw [e]
  by_cases h1 : vLrn L = 0 ∧ lrnC L = []
  · have h2 : nrCell L = .nl := by simp only [nrCell, if_pos h1.1, if_pos h1.2]
    rw [h2] at h
    have h3 : nrV (costG (lrnC L)) (srt cmpK ((lrnC L).map Prod.fst)) = [] := by rw [h1.2]; simp [nrV, srt]
    rw [h3]
    simp only [ite_self]
    exact FOk.resNl (.same (.same (.same (.same (.nl .nil))))) h
  · have h2 : nrCell L = .sl 3 (if vLrn L = 0 then nrV (costG (lrnC L)) (srt cmpK ((lrnC L).map Prod.fst)) else []) := by
      unfold nrCell
      by_cases h0 : vLrn L = 0
      · rw [if_pos h0, if_pos h0, if_neg (fun h => h1 ⟨h0, h⟩)]
      · rw [if_neg h0, if_neg h0]
    rw [h2] at h
    exact h

end Go.Proofs
