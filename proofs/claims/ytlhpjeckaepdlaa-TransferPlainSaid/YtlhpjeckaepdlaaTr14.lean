/- The walk. -/
import Derived.Test.YtlhpjeckaepdlaaTr13
import Derived.Test.YtlhpjeckaepdlaaProg
import Derived.KernelRfl
set_option linter.all false
set_option maxHeartbeats 2000000
namespace Go.Proofs
open Go Go.AM
attribute [local irreducible] Run Ends
/-- ablaut/ablautlaw28.TransferValidates -/
def c3 : MC :=
  .seq (.reg false [.op .none 2 (.box false (.t 0)),
    .op .none 4 (.mv (.c (.w (.bool false))))]) <|
  .seq (.seq (.reg false [.op .none 5 (.ld true 2 (.t 2)),
    .call .none 6 (.f 8) [(.t 5)],
    .op .none 7 (.mv (.t 6)),
    .op (.some (7, false)) 8 (.mv (.t 1)),
    .call (.some (7, false)) 9 (.f 9) [(.t 8)],
    .op .none 10 (.pick (.t 7) (.c (.w (.bool true))) (.t 9))]) <|
  .cond (.t 10)
    (.seq (.reg false [.call .none 11 (.f 10) [],
      .op .none 4 (.mv (.t 11))]) <|
    .ret)
    (.skip)) <|
  .seq (.reg true [.op .none 12 (.ld true 2 (.t 2)),
    .call .none 13 (.f 11) [(.t 12)],
    .op .none 14 (.ld true 2 (.t 2)),
    .call .none 15 (.f 12) [(.t 14)],
    .op .none 16 (.bin .eql (.t 13) (.t 15)),
    .op .none 17 (.mv (.t 16)),
    .op (.some (17, true)) 18 (.mv (.t 1)),
    .call (.some (17, true)) 19 (.f 13) [(.t 18)],
    .op (.some (17, true)) 20 (.mv (.t 1)),
    .call (.some (17, true)) 21 (.f 14) [(.t 20)],
    .op (.some (17, true)) 22 (.bin .eql (.t 19) (.t 21)),
    .op .none 23 (.pick (.t 17) (.t 22) (.c (.w (.bool false)))),
    .op .none 24 (.mv (.t 23)),
    .call (.some (24, true)) 25 (.f 10) [],
    .op .none 26 (.pick (.t 24) (.t 25) (.c (.w (.bool false)))),
    .op .none 4 (.mv (.t 26))]) <|
  .ret
theorem k3 : FnCode Try.prog 3 [] 27 [4] c3 := ⟨Try.f3, Try.func3, fun xs W => Try.call3 xs W, by kernel_rfl, by kernel_rfl, by kernel_rfl⟩

theorem wordC.s8 {w : List Bs} (h : wordC w) : wordS w := ⟨by have := h.1; omega, fun s hs => by have := h.2 s hs; show s.length ≤ 200000000000000; omega⟩
theorem strC.s8 {s : Bs} (h : strC s) : smB s := by unfold strC at h; show s.length ≤ 200000000000000; omega
def turnC (r : TurnT) : Prop := strC r.1 ∧ wordC r.2.1 ∧ strC r.2.2.1 ∧ wordC r.2.2.2.1 ∧ True
def slotC (s : SlotT) : Prop := intC s.1 ∧ strC s.2.1 ∧ wordC s.2.2.1 ∧ intC s.2.2.2.1 ∧ wordC s.2.2.2.2.1 ∧ True
def shufC (r : ShufT) : Prop := (r.1.length * 24 ≤ 140737488351232 ∧ ∀ w ∈ r.1, wordC w) ∧ (r.2.1.length * 80 ≤ 140737488351232 ∧ ∀ s ∈ r.2.1, slotC s) ∧ True
def brC (b : BrT) : Prop := (b.1.length * 80 ≤ 140737488351232 ∧ ∀ r ∈ b.1, turnC r) ∧ (b.2.1.length * 48 ≤ 140737488351232 ∧ ∀ r ∈ b.2.1, shufC r) ∧ True
def unitC (u : UnitT) : Prop := strC u.1 ∧ wordC u.2.1 ∧ True
theorem turnC.s {r : TurnT} (h : turnC r) : turnS r := ⟨h.2.1.s8, h.2.2.2.1.s8, h.1.s8, h.2.2.1.s8⟩
theorem slotC.s {r : SlotT} (h : slotC r) : slotS r := ⟨h.2.2.1.s8, h.2.2.2.2.1.s8, h.2.1.s8⟩
theorem shufC.s {r : ShufT} (h : shufC r) : shufS r := ⟨by have := h.1.1; omega, fun w hw => (h.1.2 w hw).s8, by have := h.2.1.1; omega, fun s hs => (h.2.1.2 s hs).s⟩
theorem brC.s {b : BrT} (h : brC b) : brS b := ⟨by have := h.1.1; omega, fun r hr => (h.1.2 r hr).s, by have := h.2.1.1; omega, fun r hr => (h.2.1.2 r hr).s⟩
theorem unitC.s {u : UnitT} (h : unitC u) : unitS u := ⟨h.2.1.s8, h.1.s8⟩
theorem transferValidates_ok (b : BrT) (l : List UnitT) (hb : brC b) (hl : l.length * 40 ≤ 140737488351232 ∧ ∀ u ∈ l, unitC u) : FOk Try.prog 3 [.v (brV b), .v (.sl 2 (l.map unitV))] [] (.B true) [] := by
  have hbs := hb.s
  have hl1 : l.length ≤ 200000000000000 := by have := hl.1; omega
  have hl2 : ∀ u ∈ l, unitS u := fun u hu => (hl.2 u hu).s
  have h1 := fok8 b hbs
  have h2 := fok9 l hl1 hl2
  have h3 := fok11 b hbs
  have h4 := fok12 b hbs
  have h5 := fok13 l hl1 hl2
  have h6 := fok14 l hl1 hl2
  have hk := fok10
  generalize overF b = x1 at h1
  generalize endN (ovU l l.length) = x2 at h2
  generalize validF b = v at h3 h4
  generalize unitsF l = w at h5 h6
  obtain ⟨R, S, u⟩ := b
  simp only [brV] at h1 h3 h4
  refine FOk.val k3 (by simp) (by simp) (by decide) ?_
  simp [c3, brV]
  refine CallG.lent rfl rfl rfl rfl h1 rfl ?_
  cases x1
  case true =>
    simp
    refine CallG.lent rfl rfl rfl rfl hk rfl ?_
    simp
    exact Ends.v rfl (by simp)
  simp
  refine CallG.lent rfl rfl rfl rfl h2 rfl ?_
  cases x2
  case true =>
    simp
    refine CallG.lent rfl rfl rfl rfl hk rfl ?_
    simp
    exact Ends.v rfl (by simp)
  simp
  refine CallG.lent rfl rfl rfl rfl h3 rfl ?_
  simp
  refine CallG.lent rfl rfl rfl rfl h4 rfl ?_
  simp
  refine CallG.lent rfl rfl rfl rfl h5 rfl ?_
  simp
  refine CallG.lent rfl rfl rfl rfl h6 rfl ?_
  simp
  refine CallG.lent rfl rfl rfl rfl hk rfl ?_
  simp
  exact Ends.v rfl (by simp)

end Go.Proofs
