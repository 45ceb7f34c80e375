/- The walk. -/
import Derived.Test.YtepjlojlkionfaaRv5
import Derived.Test.YtepjlojlkionfaaRt2
import Derived.Test.YtepjlojlkionfaaProg
import Derived.KernelRfl
set_option linter.all false
set_option maxHeartbeats 2000000
namespace Go.Proofs
open Go Go.AM
attribute [local irreducible] Run Ends
/-- ablaut/ablautlaw19.RowBeams -/
def c7 : MC :=
  .seq (.reg false [.op .none 3 (.box false (.t 0)),
    .op .none 6 (.mv (.c (.w (.bool false))))]) <|
  .seq (.seq (.reg false [.op .none 15 (.ld true 6 (.t 3)),
    .call .none 16 (.f 12) [(.t 15)],
    .op .none 17 (.mv (.t 16)),
    .op (.some (17, false)) 18 (.mv (.t 1)),
    .call (.some (17, false)) 19 (.f 13) [(.t 18)],
    .op (.some (17, false)) 20 (.bin .gtr (.t 19) (.c (.w (.int .i64 200000)))),
    .op .none 21 (.pick (.t 17) (.c (.w (.bool true))) (.t 20))]) <|
  .cond (.t 21)
    (.seq (.reg false [.call .none 22 (.f 14) [],
      .op .none 6 (.mv (.t 22))]) <|
    .ret)
    (.skip)) <|
  .seq (.reg false [.op .none 24 (.ld true 6 (.t 3)),
    .op .none 25 (.mv (.t 1)),
    .op .none 26 (.mv (.t 2)),
    .call .none 27 (.f 27) [(.t 24), (.t 25), (.t 26)],
    .op .none 23 (.mv (.t 27)),
    .op .none 28 (.ext (.t 23) 0),
    .op .none 29 (.ext (.t 23) 1),
    .op .none 30 (.ext (.t 23) 2),
    .op .none 31 (.ext (.t 23) 3),
    .op .none 7 (.mv (.t 28)),
    .op .none 8 (.mv (.t 29)),
    .op .none 9 (.mv (.t 30)),
    .op .none 10 (.mv (.t 31))]) <|
  .seq (.reg false [.op .none 33 (.ld true 6 (.t 3)),
    .op .none 34 (.mv (.t 1)),
    .op .none 35 (.mv (.t 2)),
    .call .none 36 (.f 28) [(.t 33), (.t 34), (.t 35)],
    .op .none 32 (.mv (.t 36)),
    .op .none 37 (.ext (.t 32) 0),
    .op .none 38 (.ext (.t 32) 1),
    .op .none 39 (.ext (.t 32) 2),
    .op .none 40 (.ext (.t 32) 3),
    .op .none 11 (.mv (.t 37)),
    .op .none 12 (.mv (.t 38)),
    .op .none 13 (.mv (.t 39)),
    .op .none 14 (.mv (.t 40))]) <|
  .seq (.reg false [.op .none 41 (.mv (.t 7)),
    .op .none 42 (.mv (.t 11)),
    .call .none 43 (.f 17) [(.t 41), (.t 42)],
    .op .none 44 (.mv (.t 43)),
    .op (.some (44, true)) 45 (.mv (.t 8)),
    .op (.some (44, true)) 46 (.mv (.t 12)),
    .op (.some (44, true)) 47 (.bin .eql (.t 45) (.t 46)),
    .op .none 48 (.pick (.t 44) (.t 47) (.c (.w (.bool false)))),
    .op .none 49 (.mv (.t 48)),
    .op (.some (49, true)) 50 (.mv (.t 9)),
    .op (.some (49, true)) 51 (.mv (.t 13)),
    .op (.some (49, true)) 52 (.eqb false (.t 50) (.t 51)),
    .op .none 53 (.pick (.t 49) (.t 52) (.c (.w (.bool false)))),
    .op .none 54 (.mv (.t 53)),
    .op (.some (54, true)) 55 (.mv (.t 10)),
    .op (.some (54, true)) 56 (.mv (.t 14)),
    .op (.some (54, true)) 57 (.bin .eql (.t 55) (.t 56)),
    .op .none 58 (.pick (.t 54) (.t 57) (.c (.w (.bool false)))),
    .op .none 59 (.mv (.t 58)),
    .call (.some (59, true)) 60 (.f 14) [],
    .op .none 61 (.pick (.t 59) (.t 60) (.c (.w (.bool false)))),
    .op .none 6 (.mv (.t 61))]) <|
  .ret
theorem k7 : FnCode Try.prog 7 [] 62 [6] c7 := ⟨Try.f7, Try.func7, fun xs W => Try.call7 xs W, by kernel_rfl, by kernel_rfl, by kernel_rfl⟩

theorem beamF_len (t : TagT) (l : List Bs) (w : Int) : (beamF t l w).1.length ≤ 200 := by
  unfold beamF
  by_cases h1 : chkF t l.length = 0
  · rw [if_neg (by simpa using h1)]
    obtain ⟨hT, hn⟩ := chkF_ok h1
    split
    · simp
    · have hg := beamP_good hT w.toNat l.length (Nat.le_refl _)
      generalize beamP t l w.toNat l.length = ps at hg ⊢
      cases ps with
      | nil => simp
      | cons x r =>
        have := (hg _ (minL_mem (cmpP (finP t l)) r x)).len
        simp; omega
  · rw [if_pos h1]; simp
theorem rowBeams_ok (t : TagT) (l : List Bs) (w : Int) (ht : tagC t) (hl : wordC l) (hw : intC w) : FOk Try.prog 7 [.v (tagV t), .v (.word l), .I w] [] (.B true) [] := by
  have hts := ht.s
  have hls := hl.s8
  have h1 := fok12 t hts
  have h2 := fok13 l hls
  have r1 := fok27 t l w hts hls.1
  have r2 := fok28 t l w hts hls.1
  have r3 := fok17 (beamF t l w).1 (by have := beamF_len t l w; omega)
  have hk := fok14
  have htc2 : tagV t = .st [.word t.1, intsV t.2.1, intsV t.2.2.1, .sl 1 (t.2.2.2.1.map intsV), .sl 2 (t.2.2.2.2.1.map worthV), intsV t.2.2.2.2.2.1] := by
    obtain ⟨G, Fi, Z, P, W, U, uu⟩ := t; rfl
  generalize overF9 t = x1 at h1
  generalize txF l = x2 at h2
  generalize beamF t l w = a at r1 r2 r3
  rw [htc2] at h1 r1 r2 ⊢
  refine FOk.val k7 (by simp) (by simp) (by decide) ?_
  simp [c7]
  refine CallG.lent rfl rfl rfl rfl h1 rfl ?_
  cases x1
  case true =>
    simp
    refine CallG.lent rfl rfl rfl rfl hk rfl ?_
    simp
    exact Ends.v rfl (by simp)
  simp
  refine CallG.lent rfl rfl rfl rfl h2 rfl ?_
  by_cases q2 : 200000 < x2
  · have q2' : ¬ x2 ≤ 200000 := by omega
    simp [q2, q2']
    refine CallG.lent rfl rfl rfl rfl hk rfl ?_
    simp
    exact Ends.v rfl (by simp)
  have q2' : x2 ≤ 200000 := by omega
  simp [q2, q2']
  refine CallG.plain rfl rfl rfl rfl r1 (by simp) (by simp) ?_
  simp
  refine CallG.plain rfl rfl rfl rfl r2 (by simp) (by simp) ?_
  simp
  refine CallG.lent rfl rfl rfl rfl r3 rfl ?_
  simp
  refine CallG.lent rfl rfl rfl rfl hk rfl ?_
  simp
  exact Ends.v rfl (by simp)

end Go.Proofs
