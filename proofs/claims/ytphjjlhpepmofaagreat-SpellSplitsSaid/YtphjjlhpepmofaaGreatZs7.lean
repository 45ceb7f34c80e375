/- The walk. -/
import Derived.Test.YtphjjlhpepmofaaGreatZs6
import Derived.Test.YtphjjlhpepmofaaGreatProg
import Derived.KernelRfl
set_option linter.all false
set_option maxHeartbeats 2000000
namespace Go.Proofs
open Go Go.AM
attribute [local irreducible] Run Ends
/-- ablaut/ablautlaw23.made -/
def c9 : MC :=
  .seq (.reg false [.op .none 2 (.mv (.c (.w (.pointer none)))),
    .op .none 3 (.nilS 1)]) <|
  .seq (.reg false [.op .none 9 (.mv (.t 0)),
    .call .none 10 (.f 17) [(.t 9)],
    .op .none 8 (.mv (.t 10)),
    .op .none 11 (.ext (.t 8) 0),
    .op .none 12 (.ext (.t 8) 1),
    .op .none 4 (.mv (.t 11)),
    .op .none 5 (.mv (.t 12))]) <|
  .seq (.reg false [.op .none 14 (.mv (.t 0)),
    .call .none 15 (.f 30) [(.t 14)],
    .op .none 13 (.mv (.t 15)),
    .op .none 16 (.ext (.t 13) 0),
    .op .none 17 (.ext (.t 13) 1),
    .op .none 6 (.mv (.t 16)),
    .op .none 7 (.mv (.t 17))]) <|
  .seq (.seq (.reg false [.op .none 18 (.mv (.t 5)),
    .op .none 19 (.bin .neq (.t 18) (.c (.w (.int .i64 0)))),
    .op .none 20 (.mv (.t 19)),
    .op (.some (20, false)) 21 (.mv (.t 7)),
    .op (.some (20, false)) 22 (.bin .neq (.t 21) (.c (.w (.int .i64 0)))),
    .op .none 23 (.pick (.t 20) (.c (.w (.bool true))) (.t 22))]) <|
  .cond (.t 23)
    (.seq (.reg false [.op .none 2 (.mv (.c (.w (.pointer none)))),
      .op .none 3 (.nilS 1)]) <|
    .ret)
    (.skip)) <|
  .seq (.reg false [.op .none 24 (.mv (.t 4)),
    .op .none 25 (.mv (.t 6)),
    .call .none 26 (.f 31) [(.t 25)],
    .op .none 2 (.mv (.t 24)),
    .op .none 3 (.mv (.t 26))]) <|
  .ret
theorem k9 : FnCode Tryz.prog 9 [] 27 [2, 3] c9 := ⟨Tryz.f9, Tryz.func9, fun xs W => Tryz.call9 xs W, by kernel_rfl, by kernel_rfl, by kernel_rfl⟩

/-- ablaut/ablautlaw23.SpellSplits -/
def c3 : MC :=
  .seq (.reg false [.op .none 4 (.mv (.c (.w (.bool false))))]) <|
  .seq (.seq (.reg false [.op .none 12 (.mv (.t 0)),
    .op .none 13 (.len false (.t 12)),
    .op .none 14 (.bin .gtr (.t 13) (.c (.w (.int .i64 100000)))),
    .op .none 15 (.mv (.t 14)),
    .op (.some (15, false)) 16 (.mv (.t 0)),
    .call (.some (15, false)) 17 (.f 7) [(.t 16)],
    .op (.some (15, false)) 18 (.bin .gtr (.t 17) (.c (.w (.int .i64 100000)))),
    .op .none 19 (.pick (.t 15) (.c (.w (.bool true))) (.t 18)),
    .op .none 20 (.mv (.t 19)),
    .op (.some (20, false)) 21 (.mv (.t 1)),
    .op (.some (20, false)) 22 (.buildS false 1 1 false [(.sl 1 [])] [(0, (.t 21))]),
    .call (.some (20, false)) 23 (.f 7) [(.t 22)],
    .op (.some (20, false)) 24 (.bin .gtr (.t 23) (.c (.w (.int .i64 100000)))),
    .op .none 25 (.pick (.t 20) (.c (.w (.bool true))) (.t 24))]) <|
  .cond (.t 25)
    (.seq (.reg false [.call .none 26 (.f 8) [],
      .op .none 4 (.mv (.t 26))]) <|
    .ret)
    (.skip)) <|
  .seq (.reg false [.op .none 28 (.mv (.t 0)),
    .call .none 29 (.f 9) [(.t 28)],
    .op .none 27 (.mv (.t 29)),
    .op .none 30 (.ext (.t 27) 0),
    .op .none 31 (.ext (.t 27) 1),
    .op .none 5 (.mv (.t 30)),
    .op .none 6 (.mv (.t 31))]) <|
  .seq (.reg false [.op .none 33 (.mv (.t 5)),
    .op .none 34 (.mv (.t 1)),
    .call .none 35 (.f 10) [(.t 33), (.t 34)],
    .op .none 32 (.mv (.t 35)),
    .op .none 36 (.ext (.t 32) 0),
    .op .none 37 (.ext (.t 32) 1),
    .op .none 7 (.mv (.t 36)),
    .op .none 8 (.mv (.t 37))]) <|
  .seq (.reg false [.op .none 39 (.mv (.t 6)),
    .op .none 40 (.mv (.t 1)),
    .call .none 41 (.f 11) [(.t 39), (.t 40)],
    .op .none 38 (.mv (.t 41)),
    .op .none 42 (.ext (.t 38) 0),
    .op .none 43 (.ext (.t 38) 1),
    .op .none 9 (.mv (.t 42)),
    .op .none 10 (.mv (.t 43))]) <|
  .seq (.seq (.reg false [.op .none 44 (.mv (.t 7)),
    .op .none 45 (.len false (.t 44)),
    .op .none 46 (.mv (.t 9)),
    .op .none 47 (.len false (.t 46)),
    .op .none 48 (.bin .neq (.t 45) (.t 47)),
    .op .none 49 (.mv (.t 48)),
    .op (.some (49, false)) 50 (.mv (.t 8)),
    .op (.some (49, false)) 51 (.mv (.t 10)),
    .op (.some (49, false)) 52 (.bin .neq (.t 50) (.t 51)),
    .op .none 53 (.pick (.t 49) (.c (.w (.bool true))) (.t 52))]) <|
  .cond (.t 53)
    (.seq (.reg false [.op .none 4 (.mv (.c (.w (.bool false))))]) <|
    .ret)
    (.skip)) <|
  .seq (.seq (.reg false [.op .none 11 (.mv (.c (.w (.int .i64 0))))]) <|
  .block 0 <|
    .loop <|
      .seq (.seq (.reg false [.op .none 54 (.mv (.t 11)),
        .op .none 55 (.mv (.t 7)),
        .op .none 56 (.len false (.t 55)),
        .op .none 57 (.bin .lss (.t 54) (.t 56))]) <|
      .cond (.t 57)
        (.skip)
        (.exit 0)) <|
      .seq (.block 1 <|
        .seq (.reg true [.op .none 60 (.mv (.t 7)),
          .op .none 61 (.mv (.t 11)),
          .op .none 62 (.ia 2 (.t 60) (.t 61)),
          .op .none 63 (.iaA 2 1 (.t 62) (.c (.w (.int .i64 0)))),
          .op .none 64 (.ld false 1 (.t 63)),
          .op .none 65 (.mv (.t 9)),
          .op .none 66 (.mv (.t 11)),
          .op .none 67 (.ia 2 (.t 65) (.t 66)),
          .op .none 68 (.iaA 2 1 (.t 67) (.c (.w (.int .i64 0)))),
          .op .none 69 (.ld false 1 (.t 68)),
          .call .none 70 (.f 12) [(.t 64), (.t 69)],
          .op .none 71 (.un .not (.t 70)),
          .op .none 72 (.mv (.t 71)),
          .op (.some (72, false)) 73 (.mv (.t 7)),
          .op (.some (72, false)) 74 (.mv (.t 11)),
          .op (.some (72, false)) 75 (.ia 2 (.t 73) (.t 74)),
          .op (.some (72, false)) 76 (.iaA 2 1 (.t 75) (.c (.w (.int .i64 1)))),
          .op (.some (72, false)) 77 (.ld false 1 (.t 76)),
          .op (.some (72, false)) 78 (.mv (.t 9)),
          .op (.some (72, false)) 79 (.mv (.t 11)),
          .op (.some (72, false)) 80 (.ia 2 (.t 78) (.t 79)),
          .op (.some (72, false)) 81 (.iaA 2 1 (.t 80) (.c (.w (.int .i64 1)))),
          .op (.some (72, false)) 82 (.ld false 1 (.t 81)),
          .call (.some (72, false)) 83 (.f 12) [(.t 77), (.t 82)],
          .op (.some (72, false)) 84 (.un .not (.t 83)),
          .op .none 85 (.pick (.t 72) (.c (.w (.bool true))) (.t 84))]) <|
        .cond (.t 85)
          (.seq (.reg false [.op .none 4 (.mv (.c (.w (.bool false))))]) <|
          .ret)
          (.skip)) <|
      .reg false [.op .none 58 (.mv (.t 11)),
        .op .none 59 (.bin .add (.t 58) (.c (.w (.int .i64 1)))),
        .op .none 11 (.mv (.t 59))]) <|
  .seq (.reg false [.call .none 86 (.f 8) [],
    .op .none 4 (.mv (.t 86))]) <|
  .ret
theorem k3 : FnCode Tryz.prog 3 [] 87 [4] c3 := ⟨Tryz.f3, Tryz.func3, fun xs W => Tryz.call3 xs W, by kernel_rfl, by kernel_rfl, by kernel_rfl⟩

def stoM (l : List (List Bs)) : List (List Bs) := if vSto l = 0 then memb l else []
theorem fokN9 (l : List (List Bs)) (hl : l.length ≤ 200000000000000) (hw : ∀ w ∈ l, wordS w) : (vSto l ≠ 0 → FOk Tryz.prog 9 [.v (wordsV l)] [] (.tup [.v (.w (.pointer none)), .v (.sl 1 [])]) []) ∧
    (vSto l = 0 → FOk Tryz.prog 9 [.v (wordsV l)] [] (.tup [.ptr 0 0 0, .v (wordsV (memb l))]) [(0, stoE (memb l))]) := by
  have h1 := fokN17 l hl hw
  have h2 := fokN30 l hl hw
  have h3 := fok31 (memb l)
  generalize memb l = M at *
  simp only [wordsV] at h1 h2 h3
  refine ⟨fun h0 => ?_, fun h0 => ?_⟩
  · have h1 := h1.1 h0
    have h2 := h2.1 h0
    refine FOk.val k9 (by simp) (by simp) (by decide) ?_
    simp [c9, wordsV]
    refine CallG.lent rfl rfl rfl rfl h1 rfl ?_
    simp
    refine CallG.lent rfl rfl rfl rfl h2 rfl ?_
    simp [h0]
    exact Ends.v rfl (by simp)
  · have h1 := h1.2 h0
    have h2 := h2.2 h0
    refine FOk.of k9 0 (by simp) (by decide) (by simp) (by simp) (by simp [find]) (by decide) ?_
    simp [c9, wordsV]
    refine CallG.plain rfl rfl rfl rfl h1 (by simp [stoE]) (by simp) ?_
    simp
    refine CallG.plain rfl rfl rfl rfl h2 (by simp [sto15]) (by simp) ?_
    simp
    refine CallG.rows [17423] rfl rfl rfl rfl (by simp) (by simp [find, sto15]) h3 (by simp [sto15]) (by simp) ?_
    simp
    exact Ends.new 9226 rfl rfl rfl (by simp [passH, find]) (by simp [stoE])

def prP (x : List Bs × List Bs) : PV := .st [PV.word x.1, PV.word x.2]
theorem cuts_of (M : List (List Bs)) (w : List Bs) : ∀ n : Nat, ∃ P : List (List Bs × List Bs), cutsV M w n = P.map prP ∧ P.length ≤ n ∧ ∀ x ∈ P, x.1.length ≤ w.length ∧ x.2.length ≤ w.length
  | 0 => ⟨[], rfl, by simp, by simp⟩
  | n + 1 => by
    obtain ⟨P, h1, h2, h3⟩ := cuts_of M w n
    rw [cuts_succ, h1]
    split
    · refine ⟨P ++ [(w.take n, w.drop n)], by simp [cutV, prP], by simp; omega, fun x hx => ?_⟩
      rcases List.mem_append.1 hx with hx | hx
      · exact h3 x hx
      · simp at hx; subst hx; simp; omega
    · exact ⟨P, by simp, by omega, h3⟩
theorem splV_of (M : List (List Bs)) (w : List Bs) : ∃ P : List (List Bs × List Bs), splV M w = P.map prP ∧ P.length ≤ 61 ∧ ∀ x ∈ P, x.1.length ≤ 60 ∧ x.2.length ≤ 60 := by
  unfold splV
  split
  · rename_i h
    have h60 := vWord_ok h
    obtain ⟨P, h1, h2, h3⟩ := cuts_of M w (w.length + 1)
    exact ⟨P, h1, by omega, fun x hx => by have := h3 x hx; omega⟩
  · exact ⟨[], rfl, by simp, by simp⟩
theorem spellSplits_ok (l : List (List Bs)) (w : List Bs) (hl : l.length * 24 ≤ 140737488351232 ∧ ∀ w ∈ l, wordC w) (hw : wordC w) : FOk Tryz.prog 3 [.v (.sl 1 (l.map PV.word)), .v (.word w)] [] (.B true) [] := by
  have hlS : ∀ w ∈ l, wordS w := fun w h => (hl.2 w h).s
  have hll : l.length ≤ 200000000000000 := by have := hl.1; omega
  have b1 := fok7 l hlS hll
  have b2 := fok7 [w] (by simp [hw.s]) (by simp)
  have hk := fok8
  have hm := fokN9 l hll hlS
  have hA := memb_asc l
  have hlv : vSto l = 0 → (memb l).length ≤ 1000 ∧ ∀ v ∈ memb l, v.length ≤ 1000 := fun h => by
    unfold vSto at h
    split at h
    · omega
    split at h
    · rename_i h1 h2
      have := memb_len l
      exact ⟨by omega, fun v hv => by have := vWord_ok (vWords_ok h2 v ((memb_mem l v).1 hv)); omega⟩
    · rename_i h1 h2; exact absurd h h2
  simp only [wordsV, List.map_cons, List.map_nil] at b1 b2 hm
  refine FOk.val k3 (by simp) (by simp) (by decide) ?_
  simp [c3]
  refine ⟨fun _ => ?_, fun _ => ?_⟩
  case refine_2 =>
    refine CallG.lent rfl rfl rfl rfl hk rfl ?_
    simp
    exact Ends.v rfl (by simp)
  refine CallG.lent rfl rfl rfl rfl b1 rfl ?_
  simp
  refine ⟨fun _ => ?_, fun _ => ?_⟩
  case refine_2 =>
    refine CallG.lent rfl rfl rfl rfl hk rfl ?_
    simp
    exact Ends.v rfl (by simp)
  refine CallG.lent rfl rfl rfl rfl b2 rfl ?_
  simp
  refine ⟨fun _ => ?_, fun _ => ?_⟩
  case refine_1 =>
    refine CallG.lent rfl rfl rfl rfl hk rfl ?_
    simp
    exact Ends.v rfl (by simp)
  by_cases hv : vSto l = 0
  · have hm := hm.2 hv
    have hS := fok10 (memb l) w hA (hlv hv).1 (hlv hv).2 hw.s
    have hR := fok11 (memb l) w (hlv hv).1 (hlv hv).2 hw.s
    obtain ⟨P, hP, hP1, hP2⟩ := splV_of (memb l) w
    rw [hP] at hS hR
    generalize memb l = M at *
    generalize vWord w = c at hS hR
    simp only [wordsV] at hR
    have hso : (stoE M).sol := by simp [stoE]
    refine CallG.plain rfl rfl rfl rfl hm (by simp [stoE]) (by simp) ?_
    simp
    refine CallG.rows [17437] rfl rfl rfl rfl (by simp) (by simp [find, hso]) hS (by simp [hso]) (by simp) ?_
    simp
    refine CallG.plain rfl rfl rfl rfl hR (by simp) (by simp) ?_
    simp
    refine Run.loopA (ι := Nat) [] (fun i => i ≤ P.length) (fun i => ⟨[(7, .v (.sl 2 (P.map prP))), (9, .v (.sl 2 (P.map prP))), (11, .I i)], [], 1024⟩) (fun i => P.length - i) 0 (by decide) (by simp) (by omega) ?_
    intro i hi ih
    by_cases h : i < P.length
    · have hg : (P.map prP)[i]? = some (.st [PV.word P[i].1, PV.word P[i].2]) := by simp [List.getElem?_eq_getElem h, prP]
      have hx := hP2 _ (List.getElem_mem h)
      generalize P[i] = x at hg hx
      obtain ⟨a, b⟩ := x
      simp only at hg hx
      have s1 := fok12 a a (by omega) (by omega)
      have s2 := fok12 b b (by omega) (by omega)
      simp only [PV.word, decide_true] at hg s1 s2
      simp (disch := omega) [h, hg, wrap_i64]
      refine CallG.lent rfl rfl rfl rfl s1 rfl ?_
      simp (disch := omega) [h, hg, wrap_i64]
      refine CallG.lent rfl rfl rfl rfl s2 rfl ?_
      simp (disch := omega) [wrap_i64]
      exact ih (i + 1) _ (by omega) (by omega) (by simp)
    · simp (disch := omega) [h, wrap_i64]
      refine CallG.lent rfl rfl rfl rfl hk rfl ?_
      simp
      exact Ends.v rfl (by simp)
  · have hm := hm.1 hv
    have hS := fokZ10 w hw.s
    have hR := fok11 [] w (by simp) (by simp) hw.s
    obtain ⟨P, hP, hP1, hP2⟩ := splV_of [] w
    rw [hP] at hS hR
    generalize vWord w = c at hS hR
    simp only [wordsV, List.map_nil] at hR
    refine CallG.plain rfl rfl rfl rfl hm (by simp) (by simp) ?_
    simp
    refine CallG.plain rfl rfl rfl rfl hS (by simp) (by simp) ?_
    simp
    refine CallG.plain rfl rfl rfl rfl hR (by simp) (by simp) ?_
    simp
    refine Run.loopA (ι := Nat) [] (fun i => i ≤ P.length) (fun i => ⟨[(7, .v (.sl 2 (P.map prP))), (9, .v (.sl 2 (P.map prP))), (11, .I i)], [], 1024⟩) (fun i => P.length - i) 0 (by decide) (by simp) (by omega) ?_
    intro i hi ih
    by_cases h : i < P.length
    · have hg : (P.map prP)[i]? = some (.st [PV.word P[i].1, PV.word P[i].2]) := by simp [List.getElem?_eq_getElem h, prP]
      have hx := hP2 _ (List.getElem_mem h)
      generalize P[i] = x at hg hx
      obtain ⟨a, b⟩ := x
      simp only at hg hx
      have s1 := fok12 a a (by omega) (by omega)
      have s2 := fok12 b b (by omega) (by omega)
      simp only [PV.word, decide_true] at hg s1 s2
      simp (disch := omega) [h, hg, wrap_i64]
      refine CallG.lent rfl rfl rfl rfl s1 rfl ?_
      simp (disch := omega) [h, hg, wrap_i64]
      refine CallG.lent rfl rfl rfl rfl s2 rfl ?_
      simp (disch := omega) [wrap_i64]
      exact ih (i + 1) _ (by omega) (by omega) (by simp)
    · simp (disch := omega) [h, wrap_i64]
      refine CallG.lent rfl rfl rfl rfl hk rfl ?_
      simp
      exact Ends.v rfl (by simp)

end Go.Proofs
