/- The walk. -/
import Derived.Test.YtlhpjeckaepdlaaTs1
import Derived.Test.YtlhpjeckaepdlaaProg
import Derived.KernelRfl
set_option linter.all false
set_option maxHeartbeats 2000000
namespace Go.Proofs
open Go Go.AM
attribute [local irreducible] Run Ends
/-- ablaut/transfer.row$1 -/
def c102 : MC :=
  .seq (.reg false [.op .none 2 (.box false (.t 0)),
    .op .none 3 (.mv (.c (.w (.bool false))))]) <|
  .seq (.reg false [.op .none 4 (.fa 0 (.t 2)),
    .op .none 5 (.ld false 1 (.t 4)),
    .op .none 6 (.fa 0 (.t 1)),
    .op .none 7 (.ld false 1 (.t 6)),
    .op .none 8 (.bin .eql (.t 5) (.t 7)),
    .op .none 9 (.mv (.t 8)),
    .op (.some (9, true)) 10 (.ld true 2 (.t 1)),
    .op (.some (9, true)) 11 (.fa 1 (.t 2)),
    .op (.some (9, true)) 12 (.ld false 1 (.t 11)),
    .call (.some (9, true)) 13 (.f 103) [(.t 10), (.t 12)],
    .op .none 14 (.pick (.t 9) (.t 13) (.c (.w (.bool false)))),
    .op .none 3 (.mv (.t 14))]) <|
  .ret
theorem k102 : FnCode Try.prog 102 [] 15 [3] c102 := ⟨Try.f102, Try.func102, fun xs W => Try.call102 xs W, by kernel_rfl, by kernel_rfl, by kernel_rfl⟩

def rowP (x : UnitT) (r : TurnT) : Bool := decide (r.1 = x.1) && hasU x r.2.1
def rowF (R : List TurnT) (x : UnitT) : Int := idxF (rowP x) R 0
def wthF : List Bs → List Bs → List Bs
  | o, [] => o
  | o, s :: l => if inW o s = true then wthF o l else wthF (o ++ [s]) l
theorem wthF_le : ∀ (l o : List Bs), (wthF o l).length ≤ o.length + l.length
  | [], o => by simp [wthF]
  | s :: l, o => by
    simp only [wthF]
    split
    · have := wthF_le l o; simp; omega
    · have := wthF_le l (o ++ [s]); simp at this; simp; omega
theorem fok102 (x : UnitT) (r : TurnT) (hx : unitS x) (hr : turnS r) : FOk Try.prog 102 [.v (turnV r), .rp (unitV x).cells] [] (.B (rowP x r)) [] := by
  have h1 := fok103 x r.2.1 hx hr.1.1
  obtain ⟨f, i, t, p, u⟩ := r
  obtain ⟨b, w, v⟩ := x
  simp only [rowP]
  generalize hasU (b, w, v) i = bb at h1
  refine FOk.val k102 (by simp) (by simp [unitV]) (by decide) ?_
  by_cases c1 : f = b
  · simp [c102, turnV, unitV, c1]
    simp [unitV] at h1
    refine CallG.lent rfl rfl rfl rfl h1 rfl ?_
    simp
    exact Ends.v rfl (by simp [c1])
  · simp [c102, turnV, unitV, c1]
    exact Ends.v rfl (by simp [c1])
theorem fok66 (b : BrT) (x : UnitT) (hb : brS b) (hx : unitS x) : FOk Try.prog 66 [.v (brV b), .v (unitV x)] [] (.I (rowF b.1 x)) [] := by
  have h1 := fok89 b.1 _ _ _ (fixFn 102 (unitV x).cells [] (by simp) (by simp) (by simp) (by simp)) (rowP x) (fun r hr => fok102 x r hx (hb.2.1 r hr)) hb.1
  obtain ⟨R, S, u⟩ := b
  obtain ⟨c, w, v⟩ := x
  simp only [rowF]
  generalize idxF (rowP (c, w, v)) R 0 = k at h1
  refine FOk.val k66 (by simp) (by simp) (by decide) ?_
  simp [c66, brV, unitV]
  simp [unitV] at h1
  refine CallG.lent rfl rfl rfl rfl h1 rfl ?_
  simp
  exact Ends.v rfl (by simp)
theorem fok95 (l m : List Bs) (hl : l.length ≤ 1000000) (hm : m.length ≤ 1000000) : FOk Try.prog 95 [.v (.word l), .v (.word m)] [] (.v (.word (wthF l m))) [] := by
  have h1 := fokO74 l (by omega)
  refine FOk.val k95 (by simp) (by simp) (by decide) ?_
  simp [c95]
  simp at h1
  refine CallG.plain rfl rfl rfl rfl h1 (by simp) (by simp) ?_
  simp
  refine Run.loopA (ι := Nat × List Bs) [(1, 5)] (fun q => q.1 ≤ m.length ∧ q.2.length ≤ 1000000 + q.1 ∧ wthF q.2 (m.drop q.1) = wthF l m) (fun q => ⟨[(5, .h 1), (10, .v (.word m)), (11, .I m.length), (12, .I q.1)], [(1, ⟨false, 1, q.2.map fun s => .w (.string (bs s))⟩)], 1024⟩) (fun q => m.length - q.1) (0, l) (by decide) (by simp) ⟨by simp, by simpa using hl, by simp⟩ ?_
  rintro ⟨i, o⟩ ⟨hi, ho, hall⟩ ih
  simp only at hi ho hall ih
  by_cases h : i < m.length
  · rw [drop_at h] at hall
    simp only [wthF] at hall
    have hc := fok69 o m[i] (by omega)
    have hb : (o.length + 1 + 1000) * 16 ≤ 70368744177664 := by omega
    simp (disch := omega) [h, wrap_i64]
    simp at hc
    refine CallG.lent rfl rfl rfl rfl hc rfl ?_
    cases hq : inW o m[i]
    · rw [hq] at hall
      simp (disch := omega) [wrap_i64, hb]
      exact ih (i + 1, o ++ [m[i]]) _ ⟨by simp; omega, by simp; omega, by simpa using hall⟩ (by simp; omega) (by simp)
    · rw [hq] at hall
      simp (disch := omega) [wrap_i64]
      exact ih (i + 1, o) _ ⟨by simp; omega, by simp; omega, by simpa using hall⟩ (by simp; omega) (by simp)
  · rw [drop_no h] at hall
    simp only [wthF] at hall
    simp [h]
    exact Ends.v rfl (by simp [hall])
def wordF (R : List TurnT) (x : UnitT) : UnitT × Bool := match R.find? (rowP x) with
  | some r => ((r.2.2.1, wthF x.2.1 r.2.2.2.1, ()), true)
  | none => ((x.1, x.2.1, ()), false)
def brB (b : BrT) : Prop := ∀ r ∈ b.1, r.2.2.2.1.length ≤ 1000
theorem fok58 (b : BrT) (x : UnitT) (hb : brS b) (hB : brB b) (hx : unitS x) (hl : x.2.1.length ≤ 1000) : FOk Try.prog 58 [.v (brV b), .v (unitV x)] [] (.tup [.v (unitV (wordF b.1 x).1), .B (wordF b.1 x).2]) [] := by
  have h1 := fok66 b x hb hx
  have h2 := fok74 x.2.1 (by omega)
  obtain ⟨R, S, u⟩ := b
  obtain ⟨c, w, v⟩ := x
  simp only [wordF]
  simp only [rowF] at h1
  refine FOk.val k58 (by simp) (by simp) (by decide) ?_
  simp [c58, brV, unitV]
  simp [brV, unitV] at h1 h2
  rcases idxF_find (rowP (c, w, v)) R 0 with ⟨q, hq⟩ | ⟨k, hk0, hk, hkf, hkp, hkn⟩
  · rw [q] at h1
    refine CallG.lent rfl rfl rfl rfl h1 rfl ?_
    simp
    refine CallG.plain rfl rfl rfl rfl h2 (by simp) (by simp) ?_
    simp
    exact Ends.v rfl (by simp [hq, unitV])
  · rw [hk0] at h1
    have h3 := fok95 w R[k].2.2.2.1 (by simp only at hl; omega) (by have := hB _ (List.getElem_mem hk); omega)
    refine CallG.lent rfl rfl rfl rfl h1 rfl ?_
    rw [hkf]
    simp only
    generalize hx : R[k] = r at h3
    obtain ⟨f, i, t, p, u2⟩ := r
    have hkn : ¬ (k : Int) < 0 := by omega
    simp [hk, hx, turnV]
    simp at h3
    refine CallG.plain rfl rfl rfl rfl h3 (by simp) (by simp) ?_
    simp [hk, hx, turnV]
    exact Ends.v rfl (by simp [unitV])

end Go.Proofs
