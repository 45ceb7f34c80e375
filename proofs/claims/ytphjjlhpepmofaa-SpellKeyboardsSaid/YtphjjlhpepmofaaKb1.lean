/- The walk. -/
import Derived.Test.YtphjjlhpepmofaaKl2
import Derived.Test.YtphjjlhpepmofaaF10
import Derived.Test.YtphjjlhpepmofaaProg
import Derived.KernelRfl
set_option linter.all false
set_option maxHeartbeats 2000000
namespace Go.Proofs
open Go Go.AM
attribute [local irreducible] Run Ends
/-- ablaut/spell.Keyboard$2 -/
def c64 : MC :=
  .reg false [.op .none 6 (.ld false 1 (.t 2)),
    .op .none 7 (.mv (.t 0)),
    .op .none 8 (.mv (.t 1)),
    .op .none 9 (.mm false (.t 7) (.t 8)),
    .op .none 10 (.mv (.t 0)),
    .op .none 11 (.mv (.t 1)),
    .op .none 12 (.mm true (.t 10) (.t 11)),
    .op .none 13 (.ld false 1 (.t 3)),
    .op .none 14 (.build false [(.w (.string ⟨#[]⟩)), (.w (.string ⟨#[]⟩)), (.w (.int .i64 0))] [(0, 1, (.t 9)), (1, 1, (.t 12)), (2, 1, (.t 13))]),
    .op .none 15 (.buildS false 3 1 true [(.w (.string ⟨#[]⟩)), (.w (.string ⟨#[]⟩)), (.w (.int .i64 0))] [(0, (.t 14))]),
    .op .none 16 (.app 3 40 (.t 6) (.t 15)),
    .store .none (.stt false 0 (.t 2) (.t 16))]
theorem k64 : FnCode Try.prog 64 [100002] 17 [] c64 := ⟨Try.f64, Try.func64, fun xs W => Try.call64 xs W, by kernel_rfl, by kernel_rfl, by kernel_rfl⟩

/-- The pair of two symbols. -/
def pairK (a b : Bs) : PairT := (loS a b, hiS a b)
set_option maxRecDepth 100000 in
theorem fokS64 (x y : Bs) (c : Int) (l : List PairT) (hl : l.length ≤ 1000000) : FOk Try.prog 64 [.S x, .S y, .ptr 0 0 0, .ptr 1 0 0] [(0, ⟨false, 0, [encR 0 2, .nl]⟩), (1, ⟨false, 1, [.i c]⟩), (2, ⟨false, 3, nrV (fun _ => c) l⟩)] (.tup []) [(0, ⟨false, 0, [encR 0 3, .nl]⟩), (1, ⟨false, 1, [.i c]⟩), (3, ⟨false, 3, nrV (fun _ => c) (l ++ [pairK x y])⟩)] := by
  have hb : ((nrV (fun _ => c) l).length + 1 + 1000) * 40 ≤ 70368744177664 := by rw [nrV_len]; omega
  have hn : nrV (fun _ => c) (l ++ [pairK x y]) = nrV (fun _ => c) l ++ [.st [.w (.string (bs (loS x y))), .w (.string (bs (hiS x y))), .i c]] := by simp [nrV, nearV, nrG, pairK]
  rw [hn]
  generalize nrV (fun _ => c) l = R at hb
  refine FOk.ofN k64 3 (by simp) (by decide) (by simp [Ent.ref, decR]) (by simp; omega) (szOk_ok rfl) (by decide) ?_
  simp [c64, hb]
  refine Ends.rowsN [0, 1, 2, 1040] (by simp) rfl rfl ?_ (by simp [find, Ent.ref, decR]) rfl
  simp [passN, passH, find, renH, renE, decR, gi, idx, loS, hiS, bs_ite]

end Go.Proofs
