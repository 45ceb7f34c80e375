/- The walk. -/
import Derived.Test.YtepjlojlkionfaaRu4
import Derived.Test.YtepjlojlkionfaaRq9
import Derived.Test.YtepjlojlkionfaaProg
import Derived.KernelRfl
set_option linter.all false
set_option maxHeartbeats 2000000
namespace Go.Proofs
open Go Go.AM
attribute [local irreducible] Run Ends
/-- ablaut/ablautref19.SameLists -/
def c34 : MC :=
  .seq (.reg false [.op .none 4 (.mv (.c (.w (.bool false))))]) <|
  .seq (.seq (.reg false [.op .none 6 (.mv (.t 0)),
    .op .none 7 (.len false (.t 6)),
    .op .none 8 (.mv (.t 1)),
    .op .none 9 (.len false (.t 8)),
    .op .none 10 (.bin .neq (.t 7) (.t 9))]) <|
  .cond (.t 10)
    (.seq (.reg false [.op .none 4 (.mv (.c (.w (.bool false))))]) <|
    .ret)
    (.skip)) <|
  .seq (.seq (.reg false [.op .none 5 (.mv (.c (.w (.int .i64 0))))]) <|
  .block 0 <|
    .loop <|
      .seq (.seq (.reg false [.op .none 11 (.mv (.t 5)),
        .op .none 12 (.mv (.t 0)),
        .op .none 13 (.len false (.t 12)),
        .op .none 14 (.bin .lss (.t 11) (.t 13))]) <|
      .cond (.t 14)
        (.skip)
        (.exit 0)) <|
      .seq (.block 1 <|
        .seq (.reg true [.op .none 17 (.mv (.t 0)),
          .op .none 18 (.mv (.t 5)),
          .op .none 19 (.ia 1 (.t 17) (.t 18)),
          .op .none 20 (.ld false 1 (.t 19)),
          .op .none 21 (.mv (.t 1)),
          .op .none 22 (.mv (.t 5)),
          .op .none 23 (.ia 1 (.t 21) (.t 22)),
          .op .none 24 (.ld false 1 (.t 23)),
          .call .none 25 (.f 26) [(.t 20), (.t 24)],
          .op .none 26 (.un .not (.t 25))]) <|
        .cond (.t 26)
          (.seq (.reg false [.op .none 4 (.mv (.c (.w (.bool false))))]) <|
          .ret)
          (.skip)) <|
      .reg false [.op .none 15 (.mv (.t 5)),
        .op .none 16 (.bin .add (.t 15) (.c (.w (.int .i64 1)))),
        .op .none 5 (.mv (.t 16))]) <|
  .seq (.reg false [.op .none 4 (.mv (.c (.w (.bool true))))]) <|
  .ret
theorem k34 : FnCode Try.prog 34 [] 27 [4] c34 := ⟨Try.f34, Try.func34, fun xs W => Try.call34 xs W, by kernel_rfl, by kernel_rfl, by kernel_rfl⟩

/-- ablaut/ablautlaw19.RowScores -/
def c8 : MC :=
  .seq (.reg false [.op .none 2 (.box false (.t 0)),
    .op .none 4 (.mv (.c (.w (.bool false))))]) <|
  .seq (.seq (.reg false [.op .none 15 (.ld true 6 (.t 2)),
    .call .none 16 (.f 12) [(.t 15)],
    .op .none 17 (.mv (.t 16)),
    .op (.some (17, false)) 18 (.mv (.t 1)),
    .call (.some (17, false)) 19 (.f 29) [(.t 18)],
    .op .none 20 (.pick (.t 17) (.c (.w (.bool true))) (.t 19))]) <|
  .cond (.t 20)
    (.seq (.reg false [.call .none 21 (.f 14) [],
      .op .none 4 (.mv (.t 21))]) <|
    .ret)
    (.skip)) <|
  .seq (.reg false [.op .none 23 (.ld true 6 (.t 2)),
    .op .none 24 (.mv (.t 1)),
    .call .none 25 (.f 30) [(.t 23), (.t 24)],
    .op .none 22 (.mv (.t 25)),
    .op .none 26 (.ext (.t 22) 0),
    .op .none 27 (.ext (.t 22) 1),
    .op .none 28 (.ext (.t 22) 2),
    .op .none 5 (.mv (.t 26)),
    .op .none 6 (.mv (.t 27)),
    .op .none 7 (.mv (.t 28))]) <|
  .seq (.reg false [.op .none 30 (.ld true 6 (.t 2)),
    .op .none 31 (.mv (.t 1)),
    .call .none 32 (.f 31) [(.t 30), (.t 31)],
    .op .none 29 (.mv (.t 32)),
    .op .none 33 (.ext (.t 29) 0),
    .op .none 34 (.ext (.t 29) 1),
    .op .none 35 (.ext (.t 29) 2),
    .op .none 8 (.mv (.t 33)),
    .op .none 9 (.mv (.t 34)),
    .op .none 10 (.mv (.t 35))]) <|
  .seq (.reg false [.op .none 37 (.ld true 6 (.t 2)),
    .op .none 38 (.mv (.t 1)),
    .call .none 39 (.f 32) [(.t 37), (.t 38)],
    .op .none 36 (.mv (.t 39)),
    .op .none 40 (.ext (.t 36) 0),
    .op .none 41 (.ext (.t 36) 1),
    .op .none 11 (.mv (.t 40)),
    .op .none 12 (.mv (.t 41))]) <|
  .seq (.reg false [.op .none 43 (.ld true 6 (.t 2)),
    .op .none 44 (.mv (.t 1)),
    .call .none 45 (.f 33) [(.t 43), (.t 44)],
    .op .none 42 (.mv (.t 45)),
    .op .none 46 (.ext (.t 42) 0),
    .op .none 47 (.ext (.t 42) 1),
    .op .none 13 (.mv (.t 46)),
    .op .none 14 (.mv (.t 47))]) <|
  .seq (.reg false [.op .none 48 (.mv (.t 5)),
    .op .none 49 (.mv (.t 8)),
    .op .none 50 (.bin .eql (.t 48) (.t 49)),
    .op .none 51 (.mv (.t 50)),
    .op (.some (51, true)) 52 (.mv (.t 6)),
    .op (.some (51, true)) 53 (.mv (.t 9)),
    .op (.some (51, true)) 54 (.bin .eql (.t 52) (.t 53)),
    .op .none 55 (.pick (.t 51) (.t 54) (.c (.w (.bool false)))),
    .op .none 56 (.mv (.t 55)),
    .op (.some (56, true)) 57 (.mv (.t 7)),
    .op (.some (56, true)) 58 (.mv (.t 10)),
    .op (.some (56, true)) 59 (.bin .eql (.t 57) (.t 58)),
    .op .none 60 (.pick (.t 56) (.t 59) (.c (.w (.bool false)))),
    .op .none 61 (.mv (.t 60)),
    .op (.some (61, true)) 62 (.mv (.t 11)),
    .op (.some (61, true)) 63 (.mv (.t 13)),
    .call (.some (61, true)) 64 (.f 34) [(.t 62), (.t 63)],
    .op .none 65 (.pick (.t 61) (.t 64) (.c (.w (.bool false)))),
    .op .none 66 (.mv (.t 65)),
    .op (.some (66, true)) 67 (.mv (.t 12)),
    .op (.some (66, true)) 68 (.mv (.t 14)),
    .op (.some (66, true)) 69 (.bin .eql (.t 67) (.t 68)),
    .op .none 70 (.pick (.t 66) (.t 69) (.c (.w (.bool false)))),
    .op .none 71 (.mv (.t 70)),
    .call (.some (71, true)) 72 (.f 14) [],
    .op .none 73 (.pick (.t 71) (.t 72) (.c (.w (.bool false)))),
    .op .none 4 (.mv (.t 73))]) <|
  .ret
theorem k8 : FnCode Try.prog 8 [] 74 [4] c8 := ⟨Try.f8, Try.func8, fun xs W => Try.call8 xs W, by kernel_rfl, by kernel_rfl, by kernel_rfl⟩

theorem cfN_sq {n : Nat} {G : List Bs} : ∀ (A g : List Bs) (M : List (List Int)), Sq n M → Sq n (cfN G A g M)
  | [], g, M, h => by cases g <;> exact h
  | a :: A, [], M, h => h
  | a :: A, y :: g, M, h => by
    simp only [cfN]
    refine cfN_sq A g _ ?_
    split
    · exact bump_sq h
    · exact h
theorem cfL_sq {n : Nat} {t : TagT} : ∀ (l : List LineT) (M : List (List Int)), Sq n M → Sq n (cfL t l M)
  | [], M, h => h
  | x :: l, M, h => cfL_sq l _ (cfN_sq _ _ _ h)
theorem cfF_len (t : TagT) (l : List LineT) : (cfF t l).1.length ≤ 16 ∧ ∀ r ∈ (cfF t l).1, r.length ≤ 16 := by
  unfold cfF
  split
  · simp
  · rename_i h
    have hO := (tstF_zero (t := t) (l := l) (by simpa using h)).1
    have hg := hO.g
    have h0 : Sq t.1.length (zeroM t.1.length) := ⟨by simp [zeroM], fun r hr => by rw [List.eq_of_mem_replicate hr]; simp⟩
    have hs := cfL_sq (t := t) l _ h0
    exact ⟨by simp only; rw [hs.1]; exact hg, fun r hr => by rw [hs.2 r hr]; exact hg⟩
theorem fok34 (x : List (List Int)) (hl : x.length ≤ 16) (hr : ∀ r ∈ x, r.length ≤ 16) : FOk Try.prog 34 [.v (.sl 1 (x.map intsV)), .v (.sl 1 (x.map intsV))] [] (.B true) [] := by
  have hs := fun (r : List Int) (h : r.length ≤ 16) => fok26 r (by omega)
  refine FOk.val k34 (by simp) (by simp) (by decide) ?_
  simp [c34]
  refine Run.loopA (ι := Nat) [] (fun i => i ≤ x.length) (fun i => ⟨[(0, .v (.sl 1 (x.map intsV))), (1, .v (.sl 1 (x.map intsV))), (5, .I i)], [], 1024⟩) (fun i => x.length - i) 0 (by decide) (by simp) (by simp) ?_
  rintro i hi ih
  by_cases h : i < x.length
  · have hss := hs _ (hr _ (List.getElem_mem h))
    generalize hx : x[i] = r at hss
    simp only [intsV] at hss
    simp (disch := omega) [h, wrap_i64, hx, intsV]
    refine CallG.lent rfl rfl rfl rfl hss rfl ?_
    simp (disch := omega) [wrap_i64]
    exact ih (i + 1) _ (by omega) (by omega) (by simp [intsV])
  · simp [h]
    exact Ends.v rfl (by simp)
def lineC (x : LineT) : Prop := wordC x.1 ∧ wordC x.2.1 ∧ True
def linesC (l : List LineT) : Prop := l.length * 48 ≤ 140737488351232 ∧ ∀ x ∈ l, lineC x
theorem linesC.s {l : List LineT} (h : linesC l) : linesS l := ⟨by have := h.1; omega, fun x hx => ⟨(h.2 x hx).1.s8, (h.2 x hx).2.1.s8⟩⟩
theorem rowScores_ok (t : TagT) (l : List LineT) (ht : tagC t) (hl : linesC l) : FOk Try.prog 8 [.v (tagV t), .v (linesV l)] [] (.B true) [] := by
  have hts := ht.s
  have hls := hl.s
  have h1 := fok12 t hts
  have h2 := fok29 l hls
  have r1 := fok30 t l hts hls
  have r2 := fok31 t l hts hls
  have r3 := fok32 t l hts hls
  have r4 := fok33 t l hts hls
  obtain ⟨b1, b2⟩ := cfF_len t l
  have r5 := fok34 (cfF t l).1 b1 b2
  have hk := fok14
  have htc2 : tagV t = .st [.word t.1, intsV t.2.1, intsV t.2.2.1, .sl 1 (t.2.2.2.1.map intsV), .sl 2 (t.2.2.2.2.1.map worthV), intsV t.2.2.2.2.2.1] := by
    obtain ⟨G, Fi, Z, P, W, U, uu⟩ := t; rfl
  generalize overF9 t = x1 at h1
  generalize longF l = x2 at h2
  generalize scF t l = a at r1 r2
  generalize cfF t l = b at r3 r4 r5
  simp only [linesV] at h2 r1 r2 r3 r4 ⊢
  rw [htc2] at h1 r1 r2 r3 r4 ⊢
  refine FOk.val k8 (by simp) (by simp) (by decide) ?_
  simp [c8]
  refine CallG.lent rfl rfl rfl rfl h1 rfl ?_
  cases x1
  case true =>
    simp
    refine CallG.lent rfl rfl rfl rfl hk rfl ?_
    simp
    exact Ends.v rfl (by simp)
  simp
  refine CallG.lent rfl rfl rfl rfl h2 rfl ?_
  cases x2
  case true =>
    simp
    refine CallG.lent rfl rfl rfl rfl hk rfl ?_
    simp
    exact Ends.v rfl (by simp)
  simp
  refine CallG.lent rfl rfl rfl rfl r1 rfl ?_
  simp
  refine CallG.lent rfl rfl rfl rfl r2 rfl ?_
  simp
  refine CallG.plain rfl rfl rfl rfl r3 (by simp) (by simp) ?_
  simp
  refine CallG.plain rfl rfl rfl rfl r4 (by simp) (by simp) ?_
  simp
  refine CallG.lent rfl rfl rfl rfl r5 rfl ?_
  simp
  refine CallG.lent rfl rfl rfl rfl hk rfl ?_
  simp
  exact Ends.v rfl (by simp)

end Go.Proofs
