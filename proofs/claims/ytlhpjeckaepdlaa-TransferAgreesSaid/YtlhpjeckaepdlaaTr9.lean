/- The walk. -/
import Derived.Test.YtlhpjeckaepdlaaTr8
import Derived.Test.YtlhpjeckaepdlaaProg
import Derived.KernelRfl
set_option linter.all false
set_option maxHeartbeats 2000000
namespace Go.Proofs
open Go Go.AM
attribute [local irreducible] Run Ends
theorem fok161 : FOk Try.prog 61 [.v (slotV (1, [], [], -1, [], ())), .v (.sl 2 (exU.map unitV)), .v (.sl 2 (exU.map unitV))] [] (.v (unitV (xHouse, [xN, xPl], ()))) [] := by
  have h1 := fok88 (1, [], [], -1, [], ())
  have h2 := fok74 [xN, xPl] (by simp)
  refine FOk.val k61 (by simp) (by simp) (by decide) ?_
  simp [c61, slotV, exU, unitV]
  simp [slotV, ofP] at h1
  simp at h2
  refine CallG.plain rfl rfl rfl rfl h1 (by simp) (by simp) ?_
  simp
  refine CallG.plain rfl rfl rfl rfl h2 (by simp) (by simp) ?_
  simp
  exact Ends.v rfl (by simp)
theorem fok261 : FOk Try.prog 61 [.v (slotV (0, [], [], 1, [xPl], ())), .v (.sl 2 (exU.map unitV)), .v (.sl 2 (exU.map unitV))] [] (.v (unitV (xRed, [xAdj, xPl], ()))) [] := by
  have h1 := fok88 (0, [], [], 1, [xPl], ())
  have h2 := fok74 [xAdj] (by simp)
  have hS : slotS (0, [], [], 1, [xPl], ()) := by simp [slotS, wordS, xPl]
  have h3 := fok97 [xAdj] _ _ _ (fixFn 98 (slotV (0, [], [], 1, [xPl], ())).cells [.rp [.word [xN, xPl]]] (by simp) (by simp) (by simp) (by simp)) (inBut [xPl] [xN, xPl]) (fun s _ => fok98 _ _ s hS (by simp)) (by simp) (by decide +kernel)
  have h4 := fok69 [xN, xPl] xPl (by simp)
  have e : inW [xN, xPl] xPl = true := by decide +kernel
  rw [e] at h4
  have h5 := fok95
  refine FOk.val k61 (by simp) (by simp) (by decide) ?_
  simp [c61, slotV, exU, unitV]
  simp [slotV, ofP] at h1
  simp at h2 h4 h5
  simp [slotV] at h3
  refine CallG.plain rfl rfl rfl rfl h1 (by simp) (by simp) ?_
  simp
  refine CallG.plain rfl rfl rfl rfl h2 (by simp) (by simp) ?_
  simp
  refine CallG.rows [] rfl rfl rfl rfl (by simp) (by simp) h3 (by simp) (by simp) ?_
  simp
  refine Run.loopU (by decide) ?_
  simp (disch := omega) [wrap_i64]
  refine CallG.lent rfl rfl rfl rfl h4 rfl ?_
  simp (disch := omega) [wrap_i64]
  refine Run.inLoopU (by decide) ?_
  simp (disch := omega) [wrap_i64]
  refine CallG.rows [] rfl rfl rfl rfl (by simp) (by simp) h5 (by simp) (by simp) ?_
  simp
  exact Ends.v rfl (by simp)
def exOut : List UnitT := [(xHouse, [xN, xPl], ()), (xRed, [xAdj, xPl], ())]
theorem fok15 : FOk Try.prog 15 [.v (brV exB), .v (.sl 2 (exU.map unitV))] [] (.tup [.v (.sl 2 (exOut.map unitV)), .I 0]) [] := by
  have h1 := fok57 exB exU ex_brS (by simp [exU]) ex_tags
  rw [ex_both] at h1
  have h2 := fok58 (xRed, [xAdj], ()) (by simp)
  have h3 := fok58 (xHouse, [xN, xPl], ()) (by simp)
  have h4 := fok51 exU _ _ _ (fixF0 59) (fun u => decide (16 < u.2.1.length)) (fun u _ => fok59 u) (by simp [exU])
  have e4 : (exU.any fun u => decide (16 < u.2.1.length)) = false := by decide +kernel
  rw [e4] at h4
  have h5 := fok60
  have h6 := fok161
  have h7 := fok261
  have h8 := fok51 exOut _ _ _ (fixF0 59) (fun u => decide (16 < u.2.1.length)) (fun u _ => fok59 u) (by simp [exOut])
  have e8 : (exOut.any fun u => decide (16 < u.2.1.length)) = false := by decide +kernel
  rw [e8] at h8
  refine FOk.val k15 (by simp) (by simp) (by decide) ?_
  simp [c15, brV, exB, exU, unitV, shufV, slotV, wordsV]
  simp [brV, exB, exU, exOut, unitV, shufV, slotV, wordsV, chV] at h1 h2 h3 h4 h5 h6 h7 h8
  refine CallG.lent rfl rfl rfl rfl h1 rfl ?_
  simp
  refine Run.loopU (by decide) ?_
  simp (disch := omega) [wrap_i64]
  refine CallG.plain rfl rfl rfl rfl h2 (by simp) (by simp) ?_
  simp (disch := omega) [wrap_i64]
  refine Run.inLoopU (by decide) ?_
  simp (disch := omega) [wrap_i64]
  refine CallG.plain rfl rfl rfl rfl h3 (by simp) (by simp) ?_
  simp (disch := omega) [wrap_i64]
  refine Run.inLoopU (by decide) ?_
  simp (disch := omega) [wrap_i64]
  refine CallG.lent rfl rfl rfl rfl h4 rfl ?_
  simp
  refine CallG.plain rfl rfl rfl rfl h5 (by simp) (by simp) ?_
  simp
  refine Run.loopU (by decide) ?_
  simp (disch := omega) [wrap_i64]
  refine Run.loopU (by decide) ?_
  simp (disch := omega) [wrap_i64]
  refine CallG.plain rfl rfl rfl rfl h6 (by simp) (by simp) ?_
  simp (disch := omega) [wrap_i64]
  refine Run.inLoopU (by decide) ?_
  simp (disch := omega) [wrap_i64]
  refine CallG.plain rfl rfl rfl rfl h7 (by simp) (by simp) ?_
  simp (disch := omega) [wrap_i64]
  refine Run.inLoopU (by decide) ?_
  simp (disch := omega) [wrap_i64]
  refine Run.inLoopU (by decide) ?_
  simp (disch := omega) [wrap_i64]
  refine CallG.lent rfl rfl rfl rfl h8 rfl ?_
  simp
  exact Ends.v rfl (by simp [exOut, unitV])
/-- ablaut/ablautlaw28.known -/
def c10 : MC :=
  .seq (.reg false [.op .none 0 (.mv (.c (.w (.bool false))))]) <|
  .seq (.reg false [.call .none 6 (.f 33) [],
    .op .none 5 (.mv (.t 6)),
    .op .none 7 (.ext (.t 5) 0),
    .op .none 8 (.ext (.t 5) 1),
    .op .none 1 (.alloc true [(.sl 4 []), (.sl 2 [])]),
    .store .none true 2 (.t 1) (.t 7),
    .op .none 2 (.mv (.t 8))]) <|
  .seq (.reg false [.op .none 10 (.ld true 2 (.t 1)),
    .op .none 11 (.mv (.t 2)),
    .call .none 12 (.f 15) [(.t 10), (.t 11)],
    .op .none 9 (.mv (.t 12)),
    .op .none 13 (.ext (.t 9) 0),
    .op .none 14 (.ext (.t 9) 1),
    .op .none 3 (.mv (.t 13)),
    .op .none 4 (.mv (.t 14))]) <|
  .seq (.reg false [.op .none 15 (.mv (.t 3)),
    .op .none 16 (.len false (.t 15)),
    .op .none 17 (.bin .eql (.t 16) (.c (.w (.int .i64 2)))),
    .op .none 18 (.mv (.t 17)),
    .op (.some (18, true)) 19 (.mv (.t 3)),
    .op (.some (18, true)) 20 (.ia 2 (.t 19) (.c (.w (.int .i64 0)))),
    .op (.some (18, true)) 21 (.fa 0 (.t 20)),
    .op (.some (18, true)) 22 (.ld false 1 (.t 21)),
    .op (.some (18, true)) 23 (.bin .eql (.t 22) (.c (.w (.string ⟨#[104, 111, 117, 115, 101]⟩)))),
    .op .none 24 (.pick (.t 18) (.t 23) (.c (.w (.bool false)))),
    .op .none 25 (.mv (.t 24)),
    .op (.some (25, true)) 26 (.mv (.t 3)),
    .op (.some (25, true)) 27 (.ia 2 (.t 26) (.c (.w (.int .i64 1)))),
    .op (.some (25, true)) 28 (.fa 0 (.t 27)),
    .op (.some (25, true)) 29 (.ld false 1 (.t 28)),
    .op (.some (25, true)) 30 (.bin .eql (.t 29) (.c (.w (.string ⟨#[114, 101, 100]⟩)))),
    .op .none 31 (.pick (.t 25) (.t 30) (.c (.w (.bool false)))),
    .op .none 32 (.mv (.t 31)),
    .op (.some (32, true)) 33 (.mv (.t 3)),
    .op (.some (32, true)) 34 (.ia 2 (.t 33) (.c (.w (.int .i64 1)))),
    .op (.some (32, true)) 35 (.fa 1 (.t 34)),
    .op (.some (32, true)) 36 (.ld false 1 (.t 35)),
    .op (.some (32, true)) 37 (.buildS false 1 2 false [(.w (.string ⟨#[]⟩))] [(0, (.c (.w (.string ⟨#[65, 100, 106]⟩)))), (1, (.c (.w (.string ⟨#[112, 108]⟩))))]),
    .call (.some (32, true)) 38 (.f 32) [(.t 36), (.t 37)],
    .op .none 39 (.pick (.t 32) (.t 38) (.c (.w (.bool false)))),
    .op .none 40 (.mv (.t 39)),
    .op (.some (40, true)) 41 (.mv (.t 4)),
    .op (.some (40, true)) 42 (.bin .eql (.t 41) (.c (.w (.int .i64 0)))),
    .op .none 43 (.pick (.t 40) (.t 42) (.c (.w (.bool false)))),
    .op .none 0 (.mv (.t 43))]) <|
  .ret
theorem k10 : FnCode Try.prog 10 [] 44 [0] c10 := ⟨Try.f10, Try.func10, fun xs W => Try.call10 xs W, by kernel_rfl, by kernel_rfl, by kernel_rfl⟩

theorem fok10 : FOk Try.prog 10 [] [] (.B true) [] := by
  have h1 := fok33
  have h2 := fok15
  have h3 := fok32 [xAdj, xPl] [xAdj, xPl] (by simp) (by simp)
  refine FOk.val k10 (by simp) (by simp) (by decide) ?_
  simp [c10]
  refine CallG.plain rfl rfl rfl rfl h1 (by simp) (by simp) ?_
  simp [brV, exB, exU, unitV, shufV, slotV, wordsV]
  simp [brV, exB, exU, exOut, unitV, shufV, slotV, wordsV] at h2 h3
  refine CallG.plain rfl rfl rfl rfl h2 (by simp) (by simp) ?_
  simp [xHouse, xRed]
  simp [xAdj, xPl] at h3
  refine CallG.lent rfl rfl rfl rfl h3 rfl ?_
  simp
  exact Ends.v rfl (by simp)

end Go.Proofs
