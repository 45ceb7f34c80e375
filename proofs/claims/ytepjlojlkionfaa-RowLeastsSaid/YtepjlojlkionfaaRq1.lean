/- The walk. -/
import Derived.Test.YtepjlojlkionfaaRp6
import Derived.Test.YtepjlojlkionfaaProg
import Derived.KernelRfl
set_option linter.all false
set_option maxHeartbeats 2000000
namespace Go.Proofs
open Go Go.AM
attribute [local irreducible] Run Ends
/-- ablaut/ablautref19.table -/
def c62 : MC :=
  .seq (.reg false [.op .none 2 (.box false (.t 0)),
    .op .none 4 (.nilS 1)]) <|
  .seq (.reg false [.op .none 5 (.nilS 1)]) <|
  .seq (.seq (.reg false [.op .none 6 (.mv (.c (.w (.int .i64 0))))]) <|
  .block 0 <|
    .loop <|
      .seq (.seq (.reg false [.op .none 7 (.mv (.t 6)),
        .op .none 8 (.mv (.t 1)),
        .op .none 9 (.len false (.t 8)),
        .op .none 10 (.bin .lss (.t 7) (.t 9))]) <|
      .cond (.t 10)
        (.skip)
        (.exit 0)) <|
      .seq (.block 1 <|
        .reg true [.op .none 13 (.mv (.t 5)),
          .op .none 14 (.ld true 6 (.t 2)),
          .op .none 15 (.mv (.t 1)),
          .op .none 16 (.mv (.t 6)),
          .op .none 17 (.ia 1 (.t 15) (.t 16)),
          .op .none 18 (.ld false 1 (.t 17)),
          .call .none 19 (.f 53) [(.t 14), (.t 18)],
          .op .none 20 (.buildS true 1 1 false [(.sl 1 [])] [(0, (.t 19))]),
          .op .none 21 (.app 1 24 (.t 13) (.t 20)),
          .op .none 5 (.mv (.t 21))]) <|
      .reg false [.op .none 11 (.mv (.t 6)),
        .op .none 12 (.bin .add (.t 11) (.c (.w (.int .i64 1)))),
        .op .none 6 (.mv (.t 12))]) <|
  .seq (.reg false [.op .none 22 (.mv (.t 5)),
    .op .none 4 (.mv (.t 22))]) <|
  .ret
theorem k62 : FnCode Try.prog 62 [20] 23 [4] c62 := ⟨Try.f62, Try.func62, fun xs W => Try.call62 xs W, by kernel_rfl, by kernel_rfl, by kernel_rfl⟩

theorem fok62 (t : TagT) (l : List Bs) (ht : OkT t) (hl : l.length ≤ 200) : FOk Try.prog 62 [.v (tagV t), .v (.word l)] [] (.v (.sl 1 ((l.map (costsF t)).map intsV))) [] := by
  have hc := fun w => fok53 t w ht
  have htc2 : tagV t = .st [.word t.1, intsV t.2.1, intsV t.2.2.1, .sl 1 (t.2.2.2.1.map intsV), .sl 2 (t.2.2.2.2.1.map worthV), intsV t.2.2.2.2.2.1] := by
    obtain ⟨G, Fi, Z, P, W, U, uu⟩ := t; rfl
  rw [htc2] at hc ⊢
  obtain ⟨cv, hcv⟩ : ∃ cv : Bs → PV, ∀ w, cv w = intsV (costsF t w) := ⟨_, fun _ => rfl⟩
  have hmap : (l.map (costsF t)).map intsV = l.map cv := by
    rw [List.map_map]; apply List.map_congr_left; intro w _; rw [hcv]; rfl
  rw [hmap]
  refine FOk.val k62 (by simp) (by simp) (by decide) ?_
  simp [c62]
  refine Run.loopA (ι := Nat) [(1, 2), (2, 5)] (fun i => i ≤ l.length) (fun i => ⟨[(1, .v (.word l)), (2, .ptr 1 0 0), (5, .h 2), (6, .I i)], [(2, ⟨false, 1, (l.map cv).take i⟩), (1, ⟨false, 6, [tagV t]⟩)], 1024⟩) (fun i => l.length - i) 0 (by decide) (by simp [htc2]) (by simp) ?_
  rintro i hi ih
  by_cases h : i < l.length
  · have hst : (l.map cv).take i ++ [cv l[i]] = (l.map cv).take (i + 1) := by
      rw [List.take_succ_eq_append_getElem (show i < (l.map cv).length by simpa using h)]; simp
    have hcc := hc l[i]
    rw [hcv] at hst
    generalize costsF t l[i] = c at hst hcc
    have hbl : (i + 1 + 1000) * 24 ≤ 70368744177664 := by omega
    have hmn : min i l.length = i := by omega
    simp only [intsV] at hst hcc
    simp (disch := (clear hbl; omega)) [h, wrap_i64, htc2]
    refine CallG.plain rfl rfl rfl rfl hcc (by simp) (by simp) ?_
    simp (disch := (clear hbl; omega)) [wrap_i64, hbl, hmn]
    exact ih (i + 1) _ (by clear hbl; omega) (by clear hbl; omega) (by simp [htc2, hst])
  · have hil : i = l.length := by omega
    subst hil
    have hf : (l.map cv).take l.length = l.map cv := List.take_of_length_le (by simp)
    simp
    exact Ends.v rfl (by simp [hf])
/-! ### Merging -/
abbrev TlT : Type := Int × List Nat
def tailV (x : TlT) : PV := .st [.i x.1, natsV x.2]
def tailsV (r : List TlT) : PV := .sl 2 (r.map tailV)
/-- The least head: of equal ones the first. -/
def bstR : List (List TlT) → List Int → Nat → Option (Nat × Int) → Option (Nat × Int)
  | r :: R, p :: ps, k, b => bstR R ps (k + 1) (match r with
    | [] => b
    | x :: _ => match b with
      | none => some (k, x.1 + p)
      | some (j, c) => if x.1 + p < c then some (k, x.1 + p) else some (j, c))
  | _, _, _, b => b
def tgd (tag : Option Nat) (a : List Nat) : List Nat := match tag with | none => a | some k => k :: a
def mrg (ps : List Int) (cost : Int) (tag : Option Nat) : Nat → List (List TlT) → List TlT
  | 0, _ => []
  | n + 1, R => match bstR R ps 0 none with
    | none => []
    | some (j, _) => match R.getD j [] with
      | [] => []
      | x :: r => (cost + ps.getD j 0 + x.1, tgd tag x.2) :: mrg ps cost tag n (R.set j r)

end Go.Proofs
