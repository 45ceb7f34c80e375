/- The walk. -/
import Derived.Test.YtepjlojlkionfaaRp4
import Derived.Test.YtepjlojlkionfaaAMZ
import Derived.Test.YtepjlojlkionfaaProg
import Derived.KernelRfl
set_option linter.all false
set_option maxHeartbeats 2000000
namespace Go.Proofs
open Go Go.AM
attribute [local irreducible] Run Ends
/-- ablaut/row.byCost -/
def c65 : MC :=
  .seq (.reg false [.op .none 2 (.box false (.t 0)),
    .op .none 3 (.box false (.t 1)),
    .op .none 4 (.mv (.c (.w (.int .i64 0))))]) <|
  .seq (.seq (.reg false [.op .none 6 (.fa 0 (.t 2)),
    .op .none 7 (.ld false 1 (.t 6)),
    .op .none 8 (.fa 0 (.t 3)),
    .op .none 9 (.ld false 1 (.t 8)),
    .call .none 10 (.f 49) [(.t 7), (.t 9)],
    .op .none 5 (.mv (.t 10))]) <|
  .seq (.reg false [.op .none 11 (.mv (.t 5)),
    .op .none 12 (.bin .neq (.t 11) (.c (.w (.int .i64 0))))]) <|
  .cond (.t 12)
    (.seq (.reg false [.op .none 13 (.mv (.t 5)),
      .op .none 4 (.mv (.t 13))]) <|
    .ret)
    (.skip)) <|
  .seq (.reg false [.op .none 14 (.fa 2 (.t 2)),
    .op .none 15 (.ld false 1 (.t 14)),
    .op .none 16 (.fa 2 (.t 3)),
    .op .none 17 (.ld false 1 (.t 16)),
    .call .none 18 (.f 50) [(.t 15), (.t 17)],
    .op .none 4 (.mv (.t 18))]) <|
  .ret
theorem k65 : FnCode Try.prog 65 [] 19 [4] c65 := ⟨Try.f65, Try.func65, fun xs W => Try.call65 xs W, by kernel_rfl, by kernel_rfl, by kernel_rfl⟩

/-- slices.MinFunc[[]ablaut/row.part,ablaut/row.part] -/
def c64 : MC :=
  .seq (.reg false [.op .none 4 (.alloc true [(.w (.int .i64 0)), (.w (.int .i64 0)), (.sl 1 [])])]) <|
  .seq (.seq (.reg false [.op .none 7 (.mv (.t 0)),
    .op .none 8 (.len false (.t 7)),
    .op .none 9 (.bin .lss (.t 8) (.c (.w (.int .i64 1))))]) <|
  .cond (.t 9)
    (.bad)
    (.skip)) <|
  .seq (.reg false [.op .none 11 (.mv (.t 0)),
    .op .none 12 (.ia 3 (.t 11) (.c (.w (.int .i64 0)))),
    .op .none 13 (.ld true 3 (.t 12)),
    .op .none 5 (.alloc true [(.w (.int .i64 0)), (.w (.int .i64 0)), (.sl 1 [])]),
    .store .none true 3 (.t 5) (.t 13)]) <|
  .seq (.seq (.reg false [.op .none 6 (.mv (.c (.w (.int .i64 1))))]) <|
  .block 0 <|
    .loop <|
      .seq (.seq (.reg false [.op .none 14 (.mv (.t 6)),
        .op .none 15 (.mv (.t 0)),
        .op .none 16 (.len false (.t 15)),
        .op .none 17 (.bin .lss (.t 14) (.t 16))]) <|
      .cond (.t 17)
        (.skip)
        (.exit 0)) <|
      .seq (.block 1 <|
        .seq (.reg true [.op .none 20 (.mv (.t 1)),
          .op .none 21 (.mv (.t 0)),
          .op .none 22 (.mv (.t 6)),
          .op .none 23 (.ia 3 (.t 21) (.t 22)),
          .op .none 24 (.ld true 3 (.t 23)),
          .op .none 25 (.ld true 3 (.t 5)),
          .call .none 26 (.t 20) [(.t 24), (.t 25)],
          .op .none 27 (.bin .lss (.t 26) (.c (.w (.int .i64 0))))]) <|
        .cond (.t 27)
          (.reg false [.op .none 28 (.mv (.t 0)),
            .op .none 29 (.mv (.t 6)),
            .op .none 30 (.ia 3 (.t 28) (.t 29)),
            .op .none 31 (.ld true 3 (.t 30)),
            .store .none true 3 (.t 5) (.t 31)])
          (.skip)) <|
      .reg false [.op .none 18 (.mv (.t 6)),
        .op .none 19 (.bin .add (.t 18) (.c (.w (.int .i64 1)))),
        .op .none 6 (.mv (.t 19))]) <|
  .seq (.reg false [.op .none 32 (.ld true 3 (.t 5)),
    .store .none true 3 (.t 4) (.t 32)]) <|
  .ret
theorem k64 : FnCode Try.prog 64 [] 33 [7000075000004] c64 := ⟨Try.f64, Try.func64, fun xs W => Try.call64 xs W, by kernel_rfl, by kernel_rfl, by kernel_rfl⟩

theorem fok65 (g f : List Nat → Int) (a b : List Nat) (ha : a.length ≤ 1000) (hb : b.length ≤ 1000) : FOk Try.prog 65 [.v (partV g f a), .v (partV g f b)] [] (.I (cmpP g a b)) [] := by
  have h1 := fok49 (g a) (g b)
  have h2 := fok50 a b (by omega) (by omega)
  simp only [natsV] at h2
  refine FOk.val k65 (by simp) (by simp) (by decide) ?_
  simp only [cmpP]
  simp [c65, partV, natsV]
  refine CallG.lent rfl rfl rfl rfl h1 rfl ?_
  by_cases e : cmpZ (g a) (g b) = 0
  · rw [if_pos e]
    simp [e]
    refine CallG.lent rfl rfl rfl rfl h2 rfl ?_
    simp
    exact Ends.v rfl (by simp)
  · rw [if_neg e]
    simp [e]
    exact Ends.v rfl (by simp)
/-- The least: of equal ones the first. -/
def minL {α : Type} (c : α → α → Int) : α → List α → α
  | m, [] => m
  | m, x :: l => minL c (if c x m < 0 then x else m) l
theorem minL_mem {α : Type} (c : α → α → Int) : ∀ (l : List α) (m : α), minL c m l ∈ m :: l
  | [], m => by simp [minL]
  | x :: l, m => by
    simp only [minL]
    have := minL_mem c l (if c x m < 0 then x else m)
    rcases List.mem_cons.1 this with h | h
    · rw [h]; split <;> simp
    · simp [h]
theorem fok64 (g f : List Nat → Int) (x : List Nat) (l : List (List Nat)) (hl : l.length ≤ 1000000) (hw : ∀ a ∈ x :: l, a.length ≤ 1000) : FOk Try.prog 64 [.v (.sl 3 ((x :: l).map (partV g f))), .fn 65 []] [] (.v (partV g f (minL (cmpP g) x l))) [] := by
  have hc := fun a b (ha : a.length ≤ 1000) (hb : b.length ≤ 1000) => fok65 g f a b ha hb
  refine FOk.val k64 (by simp) (by simp) (by decide) ?_
  have hpos : ¬ ((l.length : Int) + 1 < 1) := by omega
  have hpos2 : (0 : Int) < (l.length : Int) + 1 := by omega
  simp [c64, partV, hpos, hpos2]
  generalize hres : minL (cmpP g) x l = res
  have hLn : (x :: l).length ≤ 1000001 := by simp; omega
  have hpv : ∀ a, partV g f a = .st [.i (g a), .i (f a), natsV a] := fun _ => rfl
  refine Run.loopA (ι := Nat × List Nat) [(1, 4), (2, 5)] (fun q => 1 ≤ q.1 ∧ q.1 ≤ (x :: l).length ∧ q.2.length ≤ 1000 ∧ minL (cmpP g) q.2 ((x :: l).drop q.1) = res) (fun q => ⟨[(0, .v (.sl 3 ((x :: l).map (partV g f)))), (1, .fn 65 []), (4, .ptr 1 0 0), (5, .ptr 2 0 0), (6, .I q.1)], [(1, ⟨false, 3, [.st [.i 0, .i 0, .sl 1 []]]⟩), (2, ⟨false, 3, [partV g f q.2]⟩)], 1024⟩) (fun q => (x :: l).length - q.1) (1, x) (by decide) (by simp [hpv]) ⟨by simp, by simp, hw x (by simp), by simpa using hres⟩ ?_
  rintro ⟨i, m⟩ ⟨hi0, hi, hm, hall⟩ ih
  simp only at hi0 hi hm hall ih
  by_cases h : i < (x :: l).length
  · rw [drop_at h] at hall
    simp only [minL] at hall
    have hwi := hw _ (List.getElem_mem h)
    have hcc := hc _ _ hwi hm
    generalize hx : (x :: l)[i] = y at hall hwi hcc
    generalize hL : (x :: l) = L at *
    simp only [hpv] at hcc
    simp (disch := omega) [h, wrap_i64, hpv, hx]
    refine CallG.lent rfl rfl rfl rfl hcc rfl ?_
    by_cases q : cmpP g y m < 0
    · rw [if_pos q] at hall
      simp (disch := omega) [h, wrap_i64, q, hpv, hx]
      exact ih (i + 1, y) _ ⟨by simp, by simp; omega, hwi, hall⟩ (by simp; omega) (by simp [hpv])
    · rw [if_neg q] at hall
      simp (disch := omega) [h, wrap_i64, q, hpv, hx]
      exact ih (i + 1, m) _ ⟨by simp, by simp; omega, hm, hall⟩ (by simp; omega) (by simp [hpv])
  · rw [drop_no h] at hall
    simp only [minL] at hall
    subst hall
    generalize hL : (x :: l) = L at *
    simp [h, hpv]
    exact Ends.v rfl (by simp)
theorem fokB47 (g f : List Nat → Int) (l : List (List Nat)) (hl : l.length ≤ 1000000) (hw : ∀ a ∈ l, a.length ≤ 1000) : FOk Try.prog 47 [.h 0, .fn 65 []] [(0, ⟨false, 3, l.map (partV g f)⟩)] (.tup []) [(0, ⟨false, 3, (srt (cmpP g) l).map (partV g f)⟩)] := by
  refine FOk.sortK Try.laysF47 (k := 3) (by decide) ?_ ?_ (caps := []) (fun p => ∃ a : List Nat, a.length ≤ 1000 ∧ p = partV g f a) (fun p q => cmpP g (decP p) (decP q)) ?_ ?_ ?_ ?_ ?_ ?_ (by simp; omega)
  · intro w
    refine (AM.run_isAgg (P := Try.prog) (by kernel_rfl) w).trans (congrArg (fun b : Bool => Result.ok b w) ?_)
    kernel_rfl
  · intro w
    refine (AM.run_sizeOf (P := Try.prog) (by kernel_rfl) w).trans (congrArg (fun b : Nat => Result.ok b w) ?_)
    kernel_rfl
  · intro p hp
    obtain ⟨a, ha, rfl⟩ := List.mem_map.1 hp
    exact ⟨⟨a, hw a ha, rfl⟩, rfl⟩
  · rintro _ _ ⟨a, ha, rfl⟩ ⟨b, hb, rfl⟩
    rw [decP_part, decP_part]
    exact fok65 g f a b ha hb
  · intro p _; exact (linP g).irr _
  · intro p q r _ _ _ h1 h2; exact (linP g).tr h1 h2
  · intro p q r _ _ _ h1 h2; exact (linP g).le_tr h2 h1
  · intro m hm hs
    exact srt_pv (linP g) (decP_part g f) hm hs

end Go.Proofs
