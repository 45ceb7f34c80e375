/- The walk. -/
import Derived.Test.YtlhpjeckaepdlaaTs7
import Derived.Test.YtlhpjeckaepdlaaProg
import Derived.KernelRfl
set_option linter.all false
set_option maxHeartbeats 2000000
namespace Go.Proofs
open Go Go.AM
attribute [local irreducible] Run Ends
/-- ablaut/ablautlaw28.known -/
def c10 : MC :=
  .seq (.reg false [.op .none 0 (.mv (.c (.w (.bool false))))]) <|
  .seq (.reg false [.call .none 6 (.f 33) [],
    .op .none 5 (.mv (.t 6)),
    .op .none 7 (.ext (.t 5) 0),
    .op .none 8 (.ext (.t 5) 1),
    .op .none 1 (.alloc true [(.sl 4 []), (.sl 2 [])]),
    .store .none true 2 (.t 1) (.t 7),
    .op .none 2 (.mv (.t 8))]) <|
  .seq (.reg false [.op .none 10 (.ld true 2 (.t 1)),
    .op .none 11 (.mv (.t 2)),
    .call .none 12 (.f 15) [(.t 10), (.t 11)],
    .op .none 9 (.mv (.t 12)),
    .op .none 13 (.ext (.t 9) 0),
    .op .none 14 (.ext (.t 9) 1),
    .op .none 3 (.mv (.t 13)),
    .op .none 4 (.mv (.t 14))]) <|
  .seq (.reg false [.op .none 15 (.mv (.t 3)),
    .op .none 16 (.len false (.t 15)),
    .op .none 17 (.bin .eql (.t 16) (.c (.w (.int .i64 2)))),
    .op .none 18 (.mv (.t 17)),
    .op (.some (18, true)) 19 (.mv (.t 3)),
    .op (.some (18, true)) 20 (.ia 2 (.t 19) (.c (.w (.int .i64 0)))),
    .op (.some (18, true)) 21 (.fa 0 (.t 20)),
    .op (.some (18, true)) 22 (.ld false 1 (.t 21)),
    .op (.some (18, true)) 23 (.bin .eql (.t 22) (.c (.w (.string ⟨#[104, 111, 117, 115, 101]⟩)))),
    .op .none 24 (.pick (.t 18) (.t 23) (.c (.w (.bool false)))),
    .op .none 25 (.mv (.t 24)),
    .op (.some (25, true)) 26 (.mv (.t 3)),
    .op (.some (25, true)) 27 (.ia 2 (.t 26) (.c (.w (.int .i64 1)))),
    .op (.some (25, true)) 28 (.fa 0 (.t 27)),
    .op (.some (25, true)) 29 (.ld false 1 (.t 28)),
    .op (.some (25, true)) 30 (.bin .eql (.t 29) (.c (.w (.string ⟨#[114, 101, 100]⟩)))),
    .op .none 31 (.pick (.t 25) (.t 30) (.c (.w (.bool false)))),
    .op .none 32 (.mv (.t 31)),
    .op (.some (32, true)) 33 (.mv (.t 3)),
    .op (.some (32, true)) 34 (.ia 2 (.t 33) (.c (.w (.int .i64 1)))),
    .op (.some (32, true)) 35 (.fa 1 (.t 34)),
    .op (.some (32, true)) 36 (.ld false 1 (.t 35)),
    .op (.some (32, true)) 37 (.buildS false 1 2 false [(.w (.string ⟨#[]⟩))] [(0, (.c (.w (.string ⟨#[65, 100, 106]⟩)))), (1, (.c (.w (.string ⟨#[112, 108]⟩))))]),
    .call (.some (32, true)) 38 (.f 32) [(.t 36), (.t 37)],
    .op .none 39 (.pick (.t 32) (.t 38) (.c (.w (.bool false)))),
    .op .none 40 (.mv (.t 39)),
    .op (.some (40, true)) 41 (.mv (.t 4)),
    .op (.some (40, true)) 42 (.bin .eql (.t 41) (.c (.w (.int .i64 0)))),
    .op .none 43 (.pick (.t 40) (.t 42) (.c (.w (.bool false)))),
    .op .none 0 (.mv (.t 43))]) <|
  .ret
theorem k10 : FnCode Try.prog 10 [] 44 [0] c10 := ⟨Try.f10, Try.func10, fun xs W => Try.call10 xs W, by kernel_rfl, by kernel_rfl, by kernel_rfl⟩

theorem fok17 (b : BrT) (l : List UnitT) (hb : brS b) (hl : l.length ≤ 200000000000000) (hu : ∀ u ∈ l, unitS u) : FOk Try.prog 17 [.v (brV b), .v (.sl 2 (l.map unitV))] [] (.tup [.v (.sl 3 ((if bothF b l = 0 then chunksF b.2.1 l else []).map chV)), .I (bothF b l)]) [] := by
  have h1 := fok57 b l hb hl hu
  refine FOk.val k17 (by simp) (by simp) (by decide) ?_
  by_cases c0 : bothF b l = 0
  · have hO := both0 c0
    have hch := fok60 b l hb hO.pat (by have := hO.nl; omega) hu
    rw [if_pos c0]
    rw [c0] at h1 ⊢
    obtain ⟨R, S, u⟩ := b
    simp only [brV] at h1 hch
    generalize chunksF S l = cs at hch ⊢
    simp [c17, brV]
    refine CallG.lent rfl rfl rfl rfl h1 rfl ?_
    simp
    refine CallG.plain rfl rfl rfl rfl hch (by simp) (by simp) ?_
    simp
    exact Ends.v rfl (by simp)
  · rw [if_neg c0]
    generalize bothF b l = v at h1 c0 ⊢
    obtain ⟨R, S, u⟩ := b
    simp only [brV] at h1
    simp [c17, brV]
    refine CallG.lent rfl rfl rfl rfl h1 rfl ?_
    simp [c0]
    exact Ends.v rfl (by simp)
def unkF (R : List TurnT) : List UnitT → Nat → List Nat
  | [], _ => []
  | u :: l, i => if rowF R u < 0 then i :: unkF R l (i + 1) else unkF R l (i + 1)
theorem rowF_lt (R : List TurnT) (x : UnitT) (h : R.length ≤ 200000000000000) : -1 ≤ rowF R x ∧ rowF R x ≤ 200000000000000 := by
  unfold rowF
  rcases idxF_find (rowP x) R 0 with ⟨q, _⟩ | ⟨k, hk, h2, _⟩
  · rw [q]; omega
  · rw [hk]; omega
theorem fok19 (b : BrT) (l : List UnitT) (hb : brS b) (hl : l.length ≤ 200000000000000) (hu : ∀ u ∈ l, unitS u) : FOk Try.prog 19 [.v (brV b), .v (.sl 2 (l.map unitV))] [] (.tup [.v (.sl 1 ((if bothF b l = 0 then unkF b.1 l 0 else []).map fun i => .i (i : Nat))), .I (bothF b l)]) [] := by
  have h1 := fok57 b l hb hl hu
  refine FOk.val k19 (by simp) (by simp) (by decide) ?_
  by_cases c0 : bothF b l = 0
  · have hO := both0 c0
    have hn := hO.nl
    have hr := fun x (h : x ∈ l) => fok66 b x hb (hu x h)
    rw [if_pos c0]
    rw [c0] at h1 ⊢
    obtain ⟨R, S, u⟩ := b
    simp only [brV] at h1 hr
    simp [c19, brV]
    refine CallG.lent rfl rfl rfl rfl h1 rfl ?_
    simp
    refine Run.loopA (ι := Nat × List Nat) [(1, 2), (2, 7)] (fun q => q.1 ≤ l.length ∧ q.2.length ≤ q.1 ∧ q.2 ++ unkF R (l.drop q.1) q.1 = unkF R l 0) (fun q => ⟨[(2, .ptr 1 0 0), (7, .h 2), (16, .v (.sl 2 (l.map unitV))), (17, .I l.length), (18, .I q.1)], [(2, ⟨false, 1, q.2.map fun i => .i (i : Nat)⟩), (1, ⟨false, 2, [brV (R, S, u)]⟩)], 1024⟩) (fun q => l.length - q.1) (0, []) (by decide) (by simp [brV]) ⟨by simp, by simp, by simp⟩ ?_
    rintro ⟨i, acc⟩ ⟨hi, hac, hall⟩ ih
    simp only at hi hac hall ih
    by_cases h : i < l.length
    · rw [drop_at h] at hall
      simp only [unkF] at hall
      have hc := hr l[i] (List.getElem_mem h)
      generalize rowF R l[i] = y at hc hall
      generalize hx : l[i] = x at hc
      obtain ⟨xb, xt, xu⟩ := x
      simp only [unitV] at hc
      have hbl : (acc.length + 1 + 1000) * 8 ≤ 70368744177664 := by omega
      simp (disch := (clear hbl; omega)) [h, wrap_i64, hx, unitV, brV]
      refine CallG.lent rfl rfl rfl rfl hc rfl ?_
      by_cases hy : y < 0
      · rw [if_pos hy] at hall
        simp (disch := (clear hbl; omega)) [wrap_i64, hy, hbl]
        exact ih (i + 1, acc ++ [i]) _ ⟨by clear hbl; simp; omega, by clear hbl; simp; omega, by simpa using hall⟩ (by clear hbl; simp; omega) (by simp [brV])
      · rw [if_neg hy] at hall
        simp (disch := (clear hbl; omega)) [wrap_i64, hy]
        exact ih (i + 1, acc) _ ⟨by clear hbl; simp; omega, by clear hbl; simp; omega, by simpa using hall⟩ (by clear hbl; simp; omega) (by simp [brV])
    · rw [drop_no h] at hall
      simp only [unkF, List.append_nil] at hall
      simp [h]
      exact Ends.v rfl (by simp [hall])
  · rw [if_neg c0]
    generalize bothF b l = v at h1 c0 ⊢
    obtain ⟨R, S, u⟩ := b
    simp only [brV] at h1
    simp [c19, brV]
    refine CallG.lent rfl rfl rfl rfl h1 rfl ?_
    simp [c0]
    exact Ends.v rfl (by simp)
def exOut : List UnitT := [(xHouse, [xN, xPl], ()), (xRed, [xAdj, xPl], ())]
theorem ex_trans : transF exB exU = (exOut, 0) := by decide +kernel
theorem fok10 : FOk Try.prog 10 [] [] (.B true) [] := by
  have h1 := fok33
  have h2 := fok15 exB exU ex_brS (by simp [exU]) ex_tags
  rw [ex_trans] at h2
  have h3 := fok32 [xAdj, xPl] [xAdj, xPl] (by simp) (by simp)
  refine FOk.val k10 (by simp) (by simp) (by decide) ?_
  simp [c10]
  refine CallG.plain rfl rfl rfl rfl h1 (by simp) (by simp) ?_
  simp [brV, exB, exU, unitV, shufV, slotV, wordsV]
  simp [brV, exB, exU, exOut, unitV, shufV, slotV, wordsV] at h2 h3
  refine CallG.plain rfl rfl rfl rfl h2 (by simp) (by simp) ?_
  simp [xHouse, xRed]
  simp [xAdj, xPl] at h3
  refine CallG.lent rfl rfl rfl rfl h3 rfl ?_
  simp
  exact Ends.v rfl (by simp)

end Go.Proofs
