/- The walk. -/
import Derived.Test.YtphjjlhpepmofaaKl2
import Derived.Test.YtphjjlhpepmofaaF10
import Derived.Test.YtphjjlhpepmofaaProg
import Derived.KernelRfl
set_option linter.all false
set_option maxHeartbeats 2000000
namespace Go.Proofs
open Go Go.AM
attribute [local irreducible] Run Ends
/-- ablaut/spell.Learn -/
def c33 : MC :=
  .seq (.reg false [.op .none 2 (.alloc true [(.w (.int .i64 0)), (.w (.int .i64 0)), (.w (.int .i64 0)), (.w (.int .i64 0)), (.sl 3 [])]),
    .op .none 3 (.mv (.c (.w (.int .i64 0))))]) <|
  .seq (.seq (.reg false [.op .none 19 (.mv (.t 0)),
    .op .none 20 (.len false (.t 19)),
    .op .none 21 (.bin .gtr (.t 20) (.c (.w (.int .i64 200))))]) <|
  .cond (.t 21)
    (.seq (.reg false [.op .none 22 (.build false [(.w (.int .i64 0)), (.w (.int .i64 0)), (.w (.int .i64 0)), (.w (.int .i64 0)), (.sl 3 [])] []),
      .store .none (.stt true 5 (.t 2) (.t 22)),
      .op .none 3 (.mv (.c (.w (.int .i64 3))))]) <|
    .ret)
    (.skip)) <|
  .seq (.seq (.reg false [.op .none 23 (.mv (.t 0)),
    .op .none 24 (.len false (.t 23)),
    .op .none 25 (.mv (.c (.w (.int .i64 0))))]) <|
  .block 0 <|
    .loop <|
      .seq (.reg false [.op .none 26 (.bin .lss (.t 25) (.t 24))]) <|
      .seq (.cond (.t 26)
        (.skip)
        (.exit 0)) <|
      .seq (.block 1 <|
        .seq (.reg false [.op .none 27 (.ia 2 (.t 23) (.t 25)),
          .op .none 28 (.ld true 2 (.t 27)),
          .op .none 5 (.alloc true [(.sl 1 []), (.sl 1 [])]),
          .store .none (.stt true 2 (.t 5) (.t 28))]) <|
        .seq (.reg false [.op .none 29 (.ld true 2 (.t 5)),
          .op .none 30 (.mv (.c (.w (.int .i64 0))))]) <|
        .block 2 <|
          .loop <|
            .seq (.reg false [.op .none 31 (.bin .lss (.t 30) (.c (.w (.int .i64 2))))]) <|
            .seq (.cond (.t 31)
              (.skip)
              (.exit 2)) <|
            .seq (.block 3 <|
              .seq (.reg false [.op .none 32 (.aix false 2 1 (.t 29) (.t 30)),
                .op .none 7 (.mv (.t 32))]) <|
              .seq (.reg false [.op .none 33 (.mv (.t 7)),
                .call .none 34 (.f 46) [(.t 33)],
                .op .none 8 (.mv (.t 34))]) <|
              .seq (.reg false [.op .none 35 (.mv (.t 8)),
                .op .none 36 (.bin .neq (.t 35) (.c (.w (.int .i64 0))))]) <|
              .cond (.t 36)
                (.seq (.reg false [.op .none 37 (.build false [(.w (.int .i64 0)), (.w (.int .i64 0)), (.w (.int .i64 0)), (.w (.int .i64 0)), (.sl 3 [])] []),
                  .op .none 38 (.mv (.t 8)),
                  .store .none (.stt true 5 (.t 2) (.t 37)),
                  .op .none 3 (.mv (.t 38))]) <|
                .ret)
                (.skip)) <|
            .reg false [.op .none 39 (.bin .add (.t 30) (.c (.w (.int .i64 1)))),
              .op .none 30 (.mv (.t 39))]) <|
      .reg false [.op .none 40 (.bin .add (.t 25) (.c (.w (.int .i64 1)))),
        .op .none 25 (.mv (.t 40))]) <|
  .seq (.reg false [.op .none 41 (.build false [(.w (.int .i64 0)), (.w (.int .i64 0)), (.w (.int .i64 0)), (.w (.int .i64 0)), (.sl 3 [])] [(0, 1, (.c (.w (.int .i64 100)))), (1, 1, (.c (.w (.int .i64 100)))), (2, 1, (.c (.w (.int .i64 100)))), (3, 1, (.c (.w (.int .i64 100))))]),
    .op .none 9 (.alloc true [(.w (.int .i64 0)), (.w (.int .i64 0)), (.w (.int .i64 0)), (.w (.int .i64 0)), (.sl 3 [])]),
    .store .none (.stt true 5 (.t 9) (.t 41))]) <|
  .seq (.reg false [.op .none 42 (.mkM),
    .op .none 10 (.mv (.t 42))]) <|
  .seq (.seq (.reg false [.op .none 43 (.mv (.t 0)),
    .op .none 44 (.len false (.t 43)),
    .op .none 45 (.mv (.c (.w (.int .i64 0))))]) <|
  .block 4 <|
    .loop <|
      .seq (.reg false [.op .none 46 (.bin .lss (.t 45) (.t 44))]) <|
      .seq (.cond (.t 46)
        (.skip)
        (.exit 4)) <|
      .seq (.block 5 <|
        .seq (.reg false [.op .none 47 (.ia 2 (.t 43) (.t 45)),
          .op .none 48 (.ld true 2 (.t 47)),
          .op .none 12 (.alloc true [(.sl 1 []), (.sl 1 [])]),
          .store .none (.stt true 2 (.t 12) (.t 48))]) <|
        .seq (.reg false [.op .none 49 (.ld true 5 (.t 9)),
          .op .none 50 (.iaA 2 1 (.t 12) (.c (.w (.int .i64 0)))),
          .op .none 51 (.ld false 1 (.t 50)),
          .op .none 52 (.iaA 2 1 (.t 12) (.c (.w (.int .i64 1)))),
          .op .none 53 (.ld false 1 (.t 52)),
          .call .none 54 (.f 36) [(.t 49), (.t 51), (.t 53)],
          .call .none 55 (.f 44) [(.t 54)],
          .op .none 56 (.len false (.t 55)),
          .op .none 57 (.mv (.c (.w (.int .i64 0))))]) <|
        .block 6 <|
          .loop <|
            .seq (.reg false [.op .none 58 (.bin .lss (.t 57) (.t 56))]) <|
            .seq (.cond (.t 58)
              (.skip)
              (.exit 6)) <|
            .seq (.block 7 <|
              .seq (.reg false [.op .none 59 (.ia 3 (.t 55) (.t 57)),
                .op .none 60 (.ld true 3 (.t 59)),
                .op .none 14 (.alloc true [(.w (.int .i64 0)), (.w (.int .i64 0)), (.w (.string ⟨#[]⟩))]),
                .store .none (.stt true 3 (.t 14) (.t 60))]) <|
              .seq (.reg false [.op .none 61 (.fa 0 (.t 14)),
                .op .none 62 (.ld false 1 (.t 61)),
                .op .none 63 (.bin .eql (.t 62) (.c (.w (.int .i64 3))))]) <|
              .cond (.t 63)
                (.seq (.reg false [.op .none 64 (.iaA 2 1 (.t 12) (.c (.w (.int .i64 0)))),
                  .op .none 65 (.ld false 1 (.t 64)),
                  .op .none 66 (.fa 1 (.t 14)),
                  .op .none 67 (.ld false 1 (.t 66)),
                  .op .none 68 (.ia 1 (.t 65) (.t 67)),
                  .op .none 69 (.ld false 1 (.t 68)),
                  .op .none 15 (.mv (.t 69))]) <|
                .reg true [.op .none 70 (.mv (.t 10)),
                  .op .none 71 (.mv (.t 15)),
                  .op .none 72 (.fa 2 (.t 14)),
                  .op .none 73 (.ld false 1 (.t 72)),
                  .op .none 74 (.mm false (.t 71) (.t 73)),
                  .op .none 75 (.mv (.t 15)),
                  .op .none 76 (.fa 2 (.t 14)),
                  .op .none 77 (.ld false 1 (.t 76)),
                  .op .none 78 (.mm true (.t 75) (.t 77)),
                  .op .none 79 (.build true [(.w (.string ⟨#[]⟩)), (.w (.string ⟨#[]⟩))] [(0, 1, (.t 74)), (1, 1, (.t 78))]),
                  .inc 80 81 82 83 true [false, false] (.t 70) (.t 79)])
                (.skip)) <|
            .reg false [.op .none 84 (.bin .add (.t 57) (.c (.w (.int .i64 1)))),
              .op .none 57 (.mv (.t 84))]) <|
      .reg false [.op .none 85 (.bin .add (.t 45) (.c (.w (.int .i64 1)))),
        .op .none 45 (.mv (.t 85))]) <|
  .seq (.seq (.reg false [.op .none 86 (.mv (.t 10)),
    .op .none 87 (.mln (.t 86)),
    .op .none 88 (.bin .gtr (.t 87) (.c (.w (.int .i64 200))))]) <|
  .cond (.t 88)
    (.seq (.reg false [.op .none 89 (.build false [(.w (.int .i64 0)), (.w (.int .i64 0)), (.w (.int .i64 0)), (.w (.int .i64 0)), (.sl 3 [])] []),
      .store .none (.stt true 5 (.t 2) (.t 89)),
      .op .none 3 (.mv (.c (.w (.int .i64 3))))]) <|
    .ret)
    (.skip)) <|
  .seq (.reg false [.op .none 16 (.nilS 3)]) <|
  .seq (.seq (.reg false [.op .none 90 (.mv (.t 10)),
    .op .none 91 (.rng (.t 90))]) <|
  .block 8 <|
    .loop <|
      .seq (.next 92 93 (.t 91)) <|
      .seq (.cond (.t 93)
        (.skip)
        (.exit 8)) <|
      .block 9 <|
        .seq (.reg false [.op .none 94 (.ent (.t 91)),
          .op .none 95 (.ext (.t 94) 0),
          .op .none 96 (.ext (.t 94) 1),
          .op .none 17 (.alloc true [(.w (.string ⟨#[]⟩)), (.w (.string ⟨#[]⟩))]),
          .store .none (.stt true 2 (.t 17) (.t 95)),
          .op .none 18 (.mv (.t 96))]) <|
        .reg true [.op .none 97 (.mv (.t 16)),
          .op .none 98 (.iaA 2 1 (.t 17) (.c (.w (.int .i64 0)))),
          .op .none 99 (.ld false 1 (.t 98)),
          .op .none 100 (.iaA 2 1 (.t 17) (.c (.w (.int .i64 1)))),
          .op .none 101 (.ld false 1 (.t 100)),
          .op .none 102 (.mv (.t 18)),
          .op .none 103 (.bin .add (.t 102) (.c (.w (.int .i64 1)))),
          .op .none 104 (.bin .quo (.c (.w (.int .i64 100))) (.t 103)),
          .op .none 105 (.build true [(.w (.string ⟨#[]⟩)), (.w (.string ⟨#[]⟩)), (.w (.int .i64 0))] [(0, 1, (.t 99)), (1, 1, (.t 101)), (2, 1, (.t 104))]),
          .op .none 106 (.buildS true 3 1 true [(.w (.string ⟨#[]⟩)), (.w (.string ⟨#[]⟩)), (.w (.int .i64 0))] [(0, (.t 105))]),
          .op .none 107 (.app 3 40 (.t 97) (.t 106)),
          .op .none 16 (.mv (.t 107))]) <|
  .seq (.reg false [.op .none 108 (.mv (.t 16)),
    .call .none 109 (.f 65) [(.t 108), (.f 41)]]) <|
  .seq (.reg false [.op .none 110 (.mv (.t 16)),
    .op .none 111 (.fa 4 (.t 9)),
    .store .none (.stt false 1 (.t 111) (.t 110))]) <|
  .seq (.reg false [.op .none 112 (.ld true 5 (.t 9)),
    .store .none (.stt true 5 (.t 2) (.t 112)),
    .op .none 3 (.mv (.c (.w (.int .i64 0))))]) <|
  .ret
theorem k33 : FnCode Try.prog 33 [79, 105, 106] 113 [11000025000002, 3] c33 := ⟨Try.f33, Try.func33, fun xs W => Try.call33 xs W, by kernel_rfl, by kernel_rfl, by kernel_rfl⟩

abbrev PrsT := List Bs × List Bs
def prV (x : PrsT) : PV := .st [PV.word x.1, PV.word x.2]
def prsV (L : List PrsT) : PV := .sl 2 (L.map prV)
def prsS (L : List PrsT) : Prop := L.length ≤ 200000000000000 ∧ ∀ x ∈ L, wordS x.1 ∧ wordS x.2
def vPairs : List PrsT → Int
  | [] => 0
  | x :: l => if vWord x.1 = 0 then (if vWord x.2 = 0 then vPairs l else vWord x.2) else vWord x.1
theorem vPairs_ok : ∀ {L : List PrsT}, vPairs L = 0 → ∀ x ∈ L, vWord x.1 = 0 ∧ vWord x.2 = 0
  | [], _, x, hx => by simp at hx
  | y :: l, h, x, hx => by
    simp only [vPairs] at h
    split at h
    · rename_i h1
      split at h
      · rename_i h2
        rcases List.mem_cons.1 hx with rfl | hx
        · exact ⟨h1, h2⟩
        · exact vPairs_ok h x hx
      · rename_i h2; exact absurd h h2
    · rename_i h1; exact absurd h h1
def costG (m : List (PairT × Int)) (k : PairT) : Int := Int.tdiv 100 ((look k m).getD 0 + 1)
def vLrn (L : List PrsT) : Int := if 200 < L.length then 3 else if vPairs L = 0 then (if 200 < (lrnC L).length then 3 else 0) else vPairs L
def pz : PricesT := (0, 0, 0, 0, [], ())
def lrnP (L : List PrsT) : PricesT := if vLrn L = 0 then (100, 100, 100, 100, (srt cmpK ((lrnC L).map Prod.fst)).map (nrG (costG (lrnC L))), ()) else pz
theorem prsV_get {L : List PrsT} {i : Nat} (h : i < L.length) : (L.map prV)[i]? = some (.st [PV.word L[i].1, PV.word L[i].2]) := by simp [List.getElem?_eq_getElem h, prV]

def lrnM (L : List PrsT) (i : Nat) : List (PairT × Int) := cnt ((L.take i).flatMap edKs) []
theorem cnt_app (K K' : List PairT) (l : List (PairT × Int)) : cnt (K ++ K') l = cnt K' (cnt K l) := by simp [cnt]
theorem cnt_one (k : PairT) (C : List (PairT × Int)) : cnt [k] C = bmp k C := rfl
theorem cnt_nil (C : List (PairT × Int)) : cnt [] C = C := rfl
theorem lrnM_next {L : List PrsT} {i : Nat} (h : i < L.length) : lrnM L (i + 1) = cnt (edKs L[i]) (lrnM L i) := by
  unfold lrnM
  rw [List.take_succ_eq_append_getElem h, List.flatMap_append, cnt_app]
  simp
theorem nd_len : ∀ (n : Nat) (S : List Nat), S.Nodup → (∀ j ∈ S, j < n) → S.length ≤ n
  | 0, S, _, h => by
    cases S with
    | nil => simp
    | cons a S => have := h a (by simp); omega
  | n + 1, S, hn, h => by
    by_cases hm : n ∈ S
    · have h1 := nd_len n (S.erase n) (hn.erase n) fun j hj => by
        have h2 := h j (List.mem_of_mem_erase hj)
        have h3 : j ≠ n := by rintro rfl; exact absurd hj hn.not_mem_erase
        omega
      rw [List.length_erase_of_mem hm] at h1
      omega
    · have := nd_len n S hn fun j hj => by
        have h2 := h j hj
        have h3 : j ≠ n := by rintro rfl; exact hm hj
        omega
      omega
def keysAt (M : List (PairT × Int)) (S : List Nat) : List PairT := S.map fun j => ((M[j]?).map Prod.fst).getD ([], [])
theorem keysAt_perm {M : List (PairT × Int)} {S : List Nat} (hn : S.Nodup) (h1 : ∀ j ∈ S, j < M.length) (h2 : ∀ j, j < M.length → j ∈ S) : (keysAt M S).Perm (M.map Prod.fst) := by
  have hp : S.Perm (List.range M.length) := (List.perm_ext_iff_of_nodup hn List.nodup_range).2 fun j => ⟨fun h => List.mem_range.2 (h1 j h), fun h => h2 j (List.mem_range.1 h)⟩
  refine (hp.map _).trans (List.Perm.of_eq ?_)
  apply List.ext_getElem
  · simp
  · intro i h3 h4
    simp at h3
    simp [List.getElem?_eq_getElem h3]
theorem srt_congr {l l' : List PairT} (h : l.Perm l') : srt cmpK l = srt cmpK l' := srt_uniq linK ((srt_perm l).trans h) (srt_pw linK l)
theorem itL_last (S : List Nat) (j : Nat) : (itL (S ++ [j])).getLast? = some (.w (.int .i64 j)) := by simp [itL]
theorem cntV_get {M : List (PairT × Int)} {j : Nat} (h : j < M.length) : (cntV M)[j]? = some (.st [.st [.w (.string (bs M[j].1.1)), .w (.string (bs M[j].1.2))], .w (.int .i64 M[j].2)]) := by simp [cntV, List.getElem?_eq_getElem h]
set_option maxRecDepth 100000 in
theorem fok33 (L : List PrsT) (hL : prsS L) : FOk Try.prog 33 [.v (prsV L)] [] (.tup [.v (pricesV (lrnP L)), .I (vLrn L)]) [] := by
  refine FOk.val k33 (by simp) (by simp) (by decide) ?_
  simp [c33, prsV]
  refine ⟨fun h => ?_, fun h => ?_⟩
  · exact Ends.v rfl (by simp [vLrn, lrnP, h, pricesV, pz])
  have hres1 : vPairs L ≠ 0 → AV.tup [.v (pricesV (lrnP L)), .I (vLrn L)] = AV.tup [.v (pricesV pz), .I (vPairs L)] := fun h1 => by
    have h2 : vLrn L = vPairs L := by simp only [vLrn, if_neg (show ¬ 200 < L.length by omega), if_neg h1]
    have h3 : vLrn L ≠ 0 := by rw [h2]; exact h1
    unfold lrnP; rw [if_neg h3, h2]
  have hres2 : vPairs L = 0 → 200 < (lrnC L).length → AV.tup [.v (pricesV (lrnP L)), .I (vLrn L)] = AV.tup [.v (pricesV pz), .I 3] := fun h1 h2 => by
    have h3 : vLrn L = 3 := by simp only [vLrn, if_neg (show ¬ 200 < L.length by omega), if_pos h1, if_pos h2]
    unfold lrnP; rw [h3, if_neg (show (3 : Int) ≠ 0 by decide)]
  have hres3 : vPairs L = 0 → ¬ 200 < (lrnC L).length → AV.tup [.v (pricesV (lrnP L)), .I (vLrn L)] = AV.tup [.v (.st [.i 100, .i 100, .i 100, .i 100, .sl 3 (nrV (costG (lrnC L)) (srt cmpK ((lrnC L).map Prod.fst)))]), .I 0] := fun h1 h2 => by
    have h3 : vLrn L = 0 := by simp only [vLrn, if_neg (show ¬ 200 < L.length by omega), if_pos h1, if_neg h2]
    unfold lrnP; rw [h3, if_pos rfl]; simp only [pricesV, nrV, List.map_map]; rfl
  generalize (AV.tup [.v (pricesV (lrnP L)), .I (vLrn L)]) = res at hres1 hres2 hres3
  simp only [pricesV, pz, List.map_nil] at hres1 hres2
  refine Run.loopA (ι := Nat) [(1, 2)] (fun i => i ≤ L.length ∧ (vPairs (L.drop i) = 0 ↔ vPairs L = 0) ∧ (vPairs L ≠ 0 → vPairs (L.drop i) = vPairs L)) (fun i => ⟨[(0, .v (.sl 2 (L.map prV))), (2, .ptr 1 0 0), (23, .v (.sl 2 (L.map prV))), (24, .I L.length), (25, .I i)], [(1, ⟨false, 5, [.st [.i 0, .i 0, .i 0, .i 0, .sl 3 []]]⟩)], 1024⟩) (fun i => L.length - i) 0 (by decide) (by simp) ⟨by omega, by simp, by simp⟩ ?_
  rintro i ⟨hi, hv, hv2⟩ ih
  by_cases hi2 : i < L.length
  · rw [drop_at hi2] at hv hv2
    simp only [vPairs] at hv hv2
    have hg := prsV_get hi2
    have hw := hL.2 _ (List.getElem_mem hi2)
    generalize L[i] = x at hg hw hv hv2
    obtain ⟨a, b⟩ := x
    simp only at hg hw hv hv2
    have ca := fok46 a hw.1.1 hw.1.2
    have cb := fok46 b hw.2.1 hw.2.2
    simp only [PV.word] at hg ca cb
    simp (disch := omega) [hi2, hg, wrap_i64]
    refine Run.loopA (ι := Nat) [(1, 2)] (fun j => j ≤ 2 ∧ (1 ≤ j → vWord a = 0) ∧ (2 ≤ j → vWord b = 0)) (fun j => ⟨[(0, .v (.sl 2 (L.map prV))), (2, .ptr 1 0 0), (23, .v (.sl 2 (L.map prV))), (24, .I L.length), (25, .I i), (29, .v (.st [PV.word a, PV.word b])), (30, .I j)], [(1, ⟨false, 5, [.st [.i 0, .i 0, .i 0, .i 0, .sl 3 []]]⟩)], 1024⟩) (fun j => 2 - j) 0 (by decide) (by simp) ⟨by omega, by omega, by omega⟩ ?_
    rintro j ⟨hj, h1, h2⟩ ihj
    obtain rfl | rfl | rfl : j = 0 ∨ j = 1 ∨ j = 2 := by omega
    · simp (disch := omega) [wrap_i64]
      refine CallG.lent rfl rfl rfl rfl ca rfl ?_
      simp (disch := omega) [wrap_i64]
      refine ⟨fun h3 => ?_, fun h3 => ?_⟩
      · have h4 : vPairs L ≠ 0 := fun h5 => by have := hv.2 h5; rw [if_neg h3] at this; exact h3 this
        have h5 := hv2 h4
        rw [if_neg h3] at h5
        exact Ends.v rfl (by rw [hres1 h4, ← h5]; simp)
      · exact ihj 1 _ ⟨by omega, fun _ => h3, by omega⟩ (by omega) (by simp)
    · have h1 := h1 (by omega)
      rw [if_pos h1] at hv hv2
      simp (disch := omega) [wrap_i64]
      refine CallG.lent rfl rfl rfl rfl cb rfl ?_
      simp (disch := omega) [wrap_i64]
      refine ⟨fun h3 => ?_, fun h3 => ?_⟩
      · have h4 : vPairs L ≠ 0 := fun h5 => by have := hv.2 h5; rw [if_neg h3] at this; exact h3 this
        have h5 := hv2 h4
        rw [if_neg h3] at h5
        exact Ends.v rfl (by rw [hres1 h4, ← h5]; simp)
      · exact ihj 2 _ ⟨by omega, fun _ => h1, fun _ => h3⟩ (by omega) (by simp)
    · rw [if_pos (h1 (by omega)), if_pos (h2 (by omega))] at hv hv2
      simp (disch := omega) [wrap_i64]
      exact ih (i + 1) _ ⟨by omega, hv, hv2⟩ (by omega) (by simp)
  · have hvp : vPairs L = 0 := by rw [← hv, drop_no hi2]; rfl
    have hres2 := hres2 hvp
    have hres3 := hres3 hvp
    have hokw := fun x hx => vPairs_ok hvp x hx
    have hLl : L.length ≤ 200 := by omega
    simp (disch := omega) [hi2]
    clear ih hv hv2 hres1 hi hi2
    refine Run.loopA (ι := Nat) [(1, 2), (2, 9), (3, 10)] (fun i => i ≤ L.length ∧ OkC (lrnM L i) (i * 120)) (fun i => ⟨[(2, .ptr 1 0 0), (9, .ptr 2 0 0), (10, .h 3), (43, .v (.sl 2 (L.map prV))), (44, .I L.length), (45, .I i)], [(1, ⟨false, 5, [.st [.i 0, .i 0, .i 0, .i 0, .sl 3 []]]⟩), (2, ⟨false, 5, [.st [.i 100, .i 100, .i 100, .i 100, .sl 3 []]]⟩), (3, ⟨false, 0, mkM :: cntV (lrnM L i)⟩)], 1024⟩) (fun i => L.length - i) 0 (by decide) (by simp [cntV, lrnM, cnt]) ⟨by omega, by simpa [lrnM, cnt] using OkC.nil⟩ ?_
    rintro i ⟨hi, hM⟩ ih
    by_cases hi2 : i < L.length
    · have hg := prsV_get hi2
      have hnext : lrnM L (i + 1) = cnt (edKs L[i]) (lrnM L i) := lrnM_next hi2
      have hok := hokw _ (List.getElem_mem hi2)
      generalize L[i] = x at hg hnext hok
      obtain ⟨a, b⟩ := x
      simp only at hg hnext hok
      have ha := vWord_ok hok.1
      have hb := vWord_ok hok.2
      simp only [PV.word] at hg
      have hEl := edF_ln prL a b
      have hE3 := fun e (he : e ∈ edF prL a b) => edF_3 he
      have c1 := fok36 prL a b prL_ok ha hb
      have c2 := fok44 prL a b prL_ok ha hb
      simp only [edKs] at hnext
      generalize edF prL a b = E at hEl hE3 c2 hnext
      generalize lrnM L i = M at hM hnext
      simp only [pricesV, prL, List.map_nil, PV.word] at c1
      simp only [prL] at c2
      simp (disch := omega) [hi2, hg, wrap_i64]
      refine CallG.plain rfl rfl rfl rfl c1 (by simp) (by simp) ?_
      simp
      refine CallG.rows [17462] rfl rfl rfl rfl (by simp) (by simp) c2 (by simp) (by simp) ?_
      simp [editsV]
      refine Run.loopA (ι := Nat) [(1, 2), (2, 9), (3, 10), (4, 12)] (fun j => j ≤ E.length ∧ OkC (cnt ((E.take j).filterMap (edK a)) M) (i * 120 + j)) (fun j => ⟨[(2, .ptr 1 0 0), (9, .ptr 2 0 0), (10, .h 3), (12, .ptr 4 0 0), (43, .v (.sl 2 (L.map prV))), (44, .I L.length), (45, .I i), (55, .v (.sl 3 (E.map editV))), (56, .I E.length), (57, .I j)], [(1, ⟨false, 5, [.st [.i 0, .i 0, .i 0, .i 0, .sl 3 []]]⟩), (2, ⟨false, 5, [.st [.i 100, .i 100, .i 100, .i 100, .sl 3 []]]⟩), (3, ⟨false, 0, mkM :: cntV (cnt ((E.take j).filterMap (edK a)) M)⟩), (4, ⟨false, 2, [.st [PV.word a, PV.word b]]⟩)], 1024⟩) (fun j => E.length - j) 0 (by decide) (by simp [cnt]) ⟨by omega, by simpa [cnt] using hM⟩ ?_
      rintro j ⟨hj, hC⟩ ihj
      by_cases hj2 : j < E.length
      · have he := hE3 _ (List.getElem_mem hj2)
        have hjn : (E.take (j + 1)).filterMap (edK a) = (E.take j).filterMap (edK a) ++ (edK a E[j]).toList := by
          rw [List.take_succ_eq_append_getElem hj2, List.filterMap_append]
          cases h9 : edK a E[j] <;> simp [h9]
        have heg : (E.map editV)[j]? = some (.st [.i E[j].1, .i E[j].2.1, .w (.string (bs E[j].2.2.1))]) := by simp [List.getElem?_eq_getElem hj2, editV]
        generalize E[j] = e at he hjn heg
        obtain ⟨k, at', s, u⟩ := e
        simp only at he heg
        generalize hC0 : cnt ((E.take j).filterMap (edK a)) M = C at hC
        have hCn : cnt ((E.take (j + 1)).filterMap (edK a)) M = cnt (edK a (k, at', s, u)).toList C := by rw [hjn, cnt_app, hC0]
        by_cases hk : k = 3
        · subst hk
          obtain ⟨he0, he⟩ := he
          obtain ⟨g1, g2, g3, g4⟩ := he rfl
          obtain ⟨at', rfl⟩ : ∃ n : Nat, at' = n := ⟨at'.toNat, by omega⟩
          simp only [Int.toNat_natCast] at g1 g3 g4
          have hag : (a.map fun s => PV.w (.string (bs s)))[at']? = some (.w (.string (bs a[at']))) := by simp [List.getElem?_eq_getElem g1]
          simp only [edK, if_pos, Int.toNat_natCast, List.getElem?_eq_getElem g1, Option.getD_some, Option.toList_some, cnt_one] at hCn
          generalize hxa : a[at'] = x at hag hCn
          rw [List.getElem?_eq_getElem g1, Option.getD_some, hxa] at g4
          have fin : ∀ lo hi, (lo, hi) = (loS x s, hiS x s) → ∀ c, look (lo, hi) C = some c → IntKind.i64.wrap (c + 1) = c + 1 := fun lo hi _ c h9 => by
            have := hC.look h9
            exact wrap_i64 (by omega) (by omega)
          cases hlt : ltB x s
          · have e1 : loS x s = s := by simp [loS, hlt, g4]
            have e2 : hiS x s = x := by simp [hiS, hlt]
            rw [e1, e2] at hCn fin
            have fin := fin s x rfl
            cases hlk : look (s, x) C with
            | none =>
              simp (disch := omega) [hj2, heg, wrap_i64, hag, g1, hlt, g4, mfind2, mset2n hlk, hlk]
              exact ihj (j + 1) _ ⟨by omega, by rw [hCn]; exact (hC.bmp _).mono (by omega)⟩ (by omega) (by rw [hCn]; simp)
            | some c =>
              simp (disch := omega) [hj2, heg, wrap_i64, hag, g1, hlt, g4, mfind2, mset2s hlk, hlk, fin c hlk]
              exact ihj (j + 1) _ ⟨by omega, by rw [hCn]; exact (hC.bmp _).mono (by omega)⟩ (by omega) (by rw [hCn]; simp)
          · have e1 : loS x s = x := by simp [loS, hlt]
            have e2 : hiS x s = s := by simp [hiS, hlt]
            rw [e1, e2] at hCn fin
            have fin := fin x s rfl
            cases hlk : look (x, s) C with
            | none =>
              simp (disch := omega) [hj2, heg, wrap_i64, hag, g1, hlt, g4, mfind2, mset2n hlk, hlk]
              exact ihj (j + 1) _ ⟨by omega, by rw [hCn]; exact (hC.bmp _).mono (by omega)⟩ (by omega) (by rw [hCn]; simp)
            | some c =>
              simp (disch := omega) [hj2, heg, wrap_i64, hag, g1, hlt, g4, mfind2, mset2s hlk, hlk, fin c hlk]
              exact ihj (j + 1) _ ⟨by omega, by rw [hCn]; exact (hC.bmp _).mono (by omega)⟩ (by omega) (by rw [hCn]; simp)
        · have : edK a (k, at', s, u) = none := by simp [edK, hk]
          rw [this] at hCn
          simp only [Option.toList_none, cnt_nil] at hCn
          simp (disch := omega) [hj2, heg, wrap_i64, hk]
          exact ihj (j + 1) _ ⟨by omega, by rw [hCn]; exact hC.mono (by omega)⟩ (by omega) (by rw [hCn]; simp)
      · have : E.take j = E := List.take_of_length_le (by omega)
        rw [this] at hC ⊢
        simp (disch := omega) [hj2, wrap_i64]
        exact ih (i + 1) _ ⟨by omega, by rw [hnext]; exact hC.mono (by omega)⟩ (by omega) (by rw [hnext]; simp)
    · have hMl : lrnM L i = lrnC L := by unfold lrnM lrnC; rw [List.take_of_length_le (by omega)]
      rw [hMl] at hM ⊢
      generalize lrnC L = M at *
      have hMn := hM.len
      simp (disch := omega) [hi2, cntV_len]
      refine ⟨fun h5 => Ends.v rfl (by rw [hres2 h5]; simp), fun h5 => ?_⟩
      have hres3 := hres3 (by omega)
      refine Run.loopA (ι := List Nat) [(1, 2), (2, 9), (3, 10), (4, 16), (5, 91)] (fun S => S.Nodup ∧ ∀ j ∈ S, j < M.length) (fun S => ⟨[(2, .ptr 1 0 0), (9, .ptr 2 0 0), (10, .h 3), (16, .h 4), (91, .h 5)], [(1, ⟨false, 5, [.st [.i 0, .i 0, .i 0, .i 0, .sl 3 []]]⟩), (2, ⟨false, 5, [.st [.i 100, .i 100, .i 100, .i 100, .sl 3 []]]⟩), (3, ⟨false, 0, mkM :: cntV M⟩), (4, ⟨false, 3, nrV (costG M) (keysAt M S)⟩), (5, ⟨false, 0, mkI 3 M.length :: itL S⟩)], 1024⟩) (fun S => M.length - S.length) [] (by decide) (by simp [nrV, keysAt, itL]) ⟨by simp, by simp⟩ ?_
      rintro S ⟨hS, hSl⟩ ihS
      have hSn := nd_len _ S hS hSl
      simp
      refine ⟨5, 3, S, cntV M, rfl, by simp [cntV_len], by simp, fun hall => ?_, fun j hj hjS => ?_⟩
      · rw [cntV_len] at hall
        simp
        refine CallG.rows [4] rfl rfl rfl rfl (by simp) (by simp) (fok65 (costG M) (keysAt M S) (by simp [keysAt]; omega)) (by simp) (by simp) ?_
        simp
        exact Ends.v rfl (by rw [hres3, srt_congr (keysAt_perm hS hSl hall)]; rfl)
      · rw [cntV_len] at hj
        have hg := cntV_get hj
        have hlk : look M[j].1 M = some M[j].2 := look_of hM.nd (List.getElem_mem hj)
        have hrng := hM.look hlk
        have hkn : keysAt M (S ++ [j]) = keysAt M S ++ [M[j].1] := by simp [keysAt, List.getElem?_eq_getElem hj]
        have hcost : costG M M[j].1 = Int.tdiv 100 (M[j].2 + 1) := by simp [costG, hlk]
        have hb1 : ((keysAt M S).length : Nat) ≤ 24000 := by simp [keysAt]; omega
        generalize M[j] = y at hg hlk hrng hkn hcost
        obtain ⟨⟨a, b⟩, c⟩ := y
        simp only at hg hlk hrng hkn hcost
        have hne : c + 1 ≠ 0 := by omega
        have hb2 : ((nrV (costG M) (keysAt M S)).length + 1 + 1000) * 40 ≤ 70368744177664 := by rw [nrV_len]; omega
        have hnn : nrV (costG M) (keysAt M S ++ [(a, b)]) = nrV (costG M) (keysAt M S) ++ [.st [.w (.string (bs a)), .w (.string (bs b)), .i (Int.tdiv 100 (c + 1))]] := by
          simp [nrV, nearV, nrG, hcost]
        have hw : IntKind.i64.wrap (Int.tdiv 100 (c + 1)) = Int.tdiv 100 (c + 1) := by
          have h1 : 0 ≤ Int.tdiv 100 (c + 1) := Int.tdiv_nonneg (by omega) (by omega)
          have h2 : Int.tdiv 100 (c + 1) ≤ 100 := by
            rw [Int.tdiv_eq_ediv_of_nonneg (by omega)]
            exact Int.ediv_le_self _ (by omega)
          exact wrap_i64 (by omega) (by omega)
        have hlen : M.length - (S.length + 1) < M.length - S.length := by
          have h1 := nd_len M.length (S ++ [j]) (by rw [List.nodup_append]; exact ⟨hS, by simp, fun x hx y hy => by rintro rfl; simp at hy; subst hy; exact hjS hx⟩) (by intro x hx; rcases List.mem_append.1 hx with h | h; exact hSl x h; simp at h; omega)
          rw [List.length_append, List.length_singleton] at h1
          omega
        simp (disch := (clear hb2; omega)) [cntV_len, itL_last, hg, wrap_i64, hne, hb2, hw]
        refine ihS (S ++ [j]) _ ⟨by rw [List.nodup_append]; exact ⟨hS, by simp, fun x hx y hy => by rintro rfl; simp at hy; subst hy; exact hjS hx⟩, by intro x hx; rcases List.mem_append.1 hx with h | h; exact hSl x h; simp at h; omega⟩ (by simpa using hlen) (by rw [hkn, hnn]; simp)

end Go.Proofs
