/- The walk. -/
import Derived.Test.YtepjlojlkionfaaRp4
import Derived.Test.YtepjlojlkionfaaProg
import Derived.KernelRfl
set_option linter.all false
set_option maxHeartbeats 2000000
namespace Go.Proofs
open Go Go.AM
attribute [local irreducible] Run Ends
/-- ablaut/row.Best -/
def c15 : MC :=
  .seq (.reg false [.op .none 2 (.box false (.t 0)),
    .op .none 4 (.nilS 1),
    .op .none 5 (.mv (.c (.w (.int .i64 0)))),
    .op .none 6 (.mv (.c (.w (.bool false)))),
    .op .none 7 (.mv (.c (.w (.int .i64 0))))]) <|
  .seq (.reg false [.op .none 12 (.ld true 6 (.t 2)),
    .op .none 13 (.mv (.t 1)),
    .call .none 14 (.f 18) [(.t 12), (.t 13), (.c (.w (.int .i64 1)))],
    .op .none 11 (.mv (.t 14)),
    .op .none 15 (.ext (.t 11) 0),
    .op .none 16 (.ext (.t 11) 1),
    .op .none 17 (.ext (.t 11) 2),
    .op .none 8 (.mv (.t 15)),
    .op .none 9 (.mv (.t 16)),
    .op .none 10 (.mv (.t 17))]) <|
  .seq (.seq (.reg false [.op .none 18 (.mv (.t 10)),
    .op .none 19 (.bin .neq (.t 18) (.c (.w (.int .i64 0)))),
    .op .none 20 (.mv (.t 19)),
    .op (.some (20, false)) 21 (.mv (.t 8)),
    .op (.some (20, false)) 22 (.len false (.t 21)),
    .op (.some (20, false)) 23 (.bin .eql (.t 22) (.c (.w (.int .i64 0)))),
    .op .none 24 (.pick (.t 20) (.c (.w (.bool true))) (.t 23))]) <|
  .cond (.t 24)
    (.seq (.reg false [.op .none 25 (.mv (.t 10)),
      .op .none 4 (.nilS 1),
      .op .none 5 (.mv (.c (.w (.int .i64 0)))),
      .op .none 6 (.mv (.c (.w (.bool false)))),
      .op .none 7 (.mv (.t 25))]) <|
    .ret)
    (.skip)) <|
  .seq (.reg true [.op .none 26 (.mv (.t 8)),
    .op .none 27 (.ia 2 (.t 26) (.c (.w (.int .i64 0)))),
    .op .none 28 (.fa 1 (.t 27)),
    .op .none 29 (.ld false 1 (.t 28)),
    .op .none 30 (.mv (.t 8)),
    .op .none 31 (.ia 2 (.t 30) (.c (.w (.int .i64 0)))),
    .op .none 32 (.fa 0 (.t 31)),
    .op .none 33 (.ld false 1 (.t 32)),
    .op .none 4 (.mv (.t 29)),
    .op .none 5 (.mv (.t 33)),
    .op .none 6 (.mv (.c (.w (.bool true)))),
    .op .none 7 (.mv (.c (.w (.int .i64 0))))]) <|
  .ret
theorem k15 : FnCode Try.prog 15 [] 34 [4, 5, 6, 7] c15 := ⟨Try.f15, Try.func15, fun xs W => Try.call15 xs W, by kernel_rfl, by kernel_rfl, by kernel_rfl⟩

/-- ablaut/ablautlaw19.known -/
def c14 : MC :=
  .seq (.reg false [.op .none 0 (.mv (.c (.w (.bool false))))]) <|
  .seq (.reg false [.op .none 6 (.buildS false 1 1 false [(.w (.string ⟨#[]⟩))] [(0, (.c (.w (.string ⟨#[78]⟩))))]),
    .op .none 7 (.buildS false 1 1 false [(.w (.int .i64 0))] [(0, (.c (.w (.int .i64 1))))]),
    .op .none 8 (.buildS false 1 1 false [(.w (.int .i64 0))] [(0, (.c (.w (.int .i64 2))))]),
    .op .none 9 (.buildS false 1 1 false [(.w (.int .i64 0))] [(0, (.c (.w (.int .i64 3))))]),
    .op .none 10 (.buildS false 1 1 false [(.sl 1 [])] [(0, (.t 9))]),
    .op .none 11 (.buildS false 1 1 false [(.w (.int .i64 0))] [(0, (.c (.w (.int .i64 4))))]),
    .op .none 12 (.build false [(.sl 1 []), (.sl 1 []), (.sl 1 []), (.sl 1 []), (.sl 2 []), (.sl 1 [])] [(0, 1, (.t 6)), (1, 1, (.t 7)), (2, 1, (.t 8)), (3, 1, (.t 10)), (5, 1, (.t 11))]),
    .op .none 1 (.alloc true [(.sl 1 []), (.sl 1 []), (.sl 1 []), (.sl 1 []), (.sl 2 []), (.sl 1 [])]),
    .store .none true 6 (.t 1) (.t 12)]) <|
  .seq (.reg false [.op .none 14 (.ld true 6 (.t 1)),
    .op .none 15 (.buildS false 1 2 false [(.w (.string ⟨#[]⟩))] [(0, (.c (.w (.string ⟨#[97]⟩)))), (1, (.c (.w (.string ⟨#[98]⟩))))]),
    .call .none 16 (.f 15) [(.t 14), (.t 15)],
    .op .none 13 (.mv (.t 16)),
    .op .none 17 (.ext (.t 13) 0),
    .op .none 18 (.ext (.t 13) 1),
    .op .none 19 (.ext (.t 13) 2),
    .op .none 20 (.ext (.t 13) 3),
    .op .none 2 (.mv (.t 17)),
    .op .none 3 (.mv (.t 18)),
    .op .none 4 (.mv (.t 19)),
    .op .none 5 (.mv (.t 20))]) <|
  .seq (.reg false [.op .none 21 (.mv (.t 5)),
    .op .none 22 (.bin .eql (.t 21) (.c (.w (.int .i64 0)))),
    .op .none 23 (.mv (.t 22)),
    .op (.some (23, true)) 24 (.mv (.t 4)),
    .op .none 25 (.pick (.t 23) (.t 24) (.c (.w (.bool false)))),
    .op .none 26 (.mv (.t 25)),
    .op (.some (26, true)) 27 (.mv (.t 3)),
    .op (.some (26, true)) 28 (.bin .eql (.t 27) (.c (.w (.int .i64 14)))),
    .op .none 29 (.pick (.t 26) (.t 28) (.c (.w (.bool false)))),
    .op .none 30 (.mv (.t 29)),
    .op (.some (30, true)) 31 (.mv (.t 2)),
    .op (.some (30, true)) 32 (.len false (.t 31)),
    .op (.some (30, true)) 33 (.bin .eql (.t 32) (.c (.w (.int .i64 2)))),
    .op .none 34 (.pick (.t 30) (.t 33) (.c (.w (.bool false)))),
    .op .none 35 (.mv (.t 34)),
    .op (.some (35, true)) 36 (.mv (.t 2)),
    .op (.some (35, true)) 37 (.ia 1 (.t 36) (.c (.w (.int .i64 0)))),
    .op (.some (35, true)) 38 (.ld false 1 (.t 37)),
    .op (.some (35, true)) 39 (.bin .eql (.t 38) (.c (.w (.string ⟨#[78]⟩)))),
    .op .none 40 (.pick (.t 35) (.t 39) (.c (.w (.bool false)))),
    .op .none 41 (.mv (.t 40)),
    .op (.some (41, true)) 42 (.mv (.t 2)),
    .op (.some (41, true)) 43 (.ia 1 (.t 42) (.c (.w (.int .i64 1)))),
    .op (.some (41, true)) 44 (.ld false 1 (.t 43)),
    .op (.some (41, true)) 45 (.bin .eql (.t 44) (.c (.w (.string ⟨#[78]⟩)))),
    .op .none 46 (.pick (.t 41) (.t 45) (.c (.w (.bool false)))),
    .op .none 0 (.mv (.t 46))]) <|
  .ret
theorem k14 : FnCode Try.prog 14 [] 47 [0] c14 := ⟨Try.f14, Try.func14, fun xs W => Try.call14 xs W, by kernel_rfl, by kernel_rfl, by kernel_rfl⟩

def bestF (t : TagT) (l : List Bs) : List Bs × Int × Bool × Int := match sevF t l 1 with
  | (rows, _, e) => if e ≠ 0 then ([], 0, false, e) else match rows with
    | [] => ([], 0, false, 0)
    | a :: _ => (a.map fun k => t.1.getD k [], allP t l a, true, 0)
theorem fok15 (t : TagT) (l : List Bs) (ht : tagS t) (hl : l.length ≤ 200000000000000) : FOk Try.prog 15 [.v (tagV t), .v (.word l)] [] (.tup [.v (.word (bestF t l).1), .I (bestF t l).2.1, .B (bestF t l).2.2.1, .I (bestF t l).2.2.2]) [] := by
  have h1 := fok18 t l 1 ht hl
  unfold bestF
  have htc2 : tagV t = .st [.word t.1, intsV t.2.1, intsV t.2.2.1, .sl 1 (t.2.2.2.1.map intsV), .sl 2 (t.2.2.2.2.1.map worthV), intsV t.2.2.2.2.2.1] := by
    obtain ⟨G, Fi, Z, P, W, U, uu⟩ := t; rfl
  generalize sevF t l 1 = s at h1 ⊢
  obtain ⟨rows, more, e⟩ := s
  rw [htc2] at h1 ⊢
  simp only at h1 ⊢
  refine FOk.val k15 (by simp) (by simp) (by decide) ?_
  simp [c15]
  refine CallG.plain rfl rfl rfl rfl h1 (by simp) (by simp) ?_
  by_cases he : e = 0
  case neg =>
    simp [he]
    exact Ends.v rfl (by simp [he])
  subst he
  rcases rows with _ | ⟨a, rows⟩
  · simp
    exact Ends.v rfl (by simp)
  · have hne : ¬ ((rows.length : Int) + 1 = 0) := by omega
    simp [rowV9, hne]
    exact Ends.v rfl (by simp)
def T0 : TagT := ([[78]], [1], [2], [[3]], [], [4], ())
theorem srt_one {α : Type} (c : α → α → Int) (x : α) : srt c [x] = [x] := by simp [srt]
theorem best0 : bestF T0 [[97], [98]] = ([[78], [78]], 14, true, 0) := by
  have h1 : chkF T0 2 = 0 := by decide +kernel
  have c1 : ∀ w, costsF T0 w = [4] := fun w => rfl
  have r1 : restF T0 [[97], [98]] = [[9], [2]] := by decide +kernel
  have s0 : extP T0 [[97], [98]] 0 [] = [[0]] := by decide +kernel
  have s1 : extP T0 [[97], [98]] 1 [0] = [[0, 0]] := by decide +kernel
  have e1 : sevP T0 [[97], [98]] 1 2 = [[0, 0]] := by
    simp only [sevP, List.flatMap_cons, List.flatMap_nil, List.append_nil, s0, srt_one]
    simp [s1, srt_one]
  have a1 : allP T0 [[97], [98]] [0, 0] = 14 := by decide +kernel
  have h2 : sevF T0 [[97], [98]] 1 = ([[0, 0]], false, 0) := by
    unfold sevF
    simp [h1, e1]
  unfold bestF
  rw [h2]
  simp only [ne_eq, not_true_eq_false, if_false]
  rw [a1]
  rfl
theorem tagS0 : tagS T0 := by
  refine ⟨⟨by simp [T0], by simp [T0]⟩, ⟨by simp [T0], by simp [T0]⟩, ⟨by simp [T0], by simp [T0]⟩, ⟨by simp [T0], by simp [T0, intsS]⟩, ⟨by simp [T0], by simp [T0]⟩, ⟨by simp [T0], by simp [T0]⟩⟩
theorem fok14 : FOk Try.prog 14 [] [] (.B true) [] := by
  have h1 := fok15 T0 [[97], [98]] tagS0 (by simp)
  rw [best0] at h1
  simp [T0, tagV, intsV] at h1
  refine FOk.val k14 (by simp) (by simp) (by decide) ?_
  simp [c14]
  refine CallG.rows [] rfl rfl rfl rfl (by simp) (by simp) h1 (by simp) (by simp) ?_
  simp
  exact Ends.v rfl (by simp)

end Go.Proofs
