/- slices.Clone, slices.Sort and slices.Compact at lists of strings, in the printed functions' own words: a clone is a row of the call's own; a sort and a compact write the row that is handed over. Conditions: the list's length has room. -/
import Derived.Test.YtlncfkgodioocaaShelfB
import Derived.Test.YtlncfkgodioocaaP0
import Derived.Sort.OwnSorted
import Derived.Lib.OwnBridge
namespace Go.Proofs.Ytlncfkgodioocaa.P
open Go.RowKit Go.Sort Go.Proofs.YtlncfkgodioocaaW.PrintWords Go.Proofs.YtlncfkgodioocaaW.PrintLast Go.Proofs.YtlncfkgodioocaaW.PrintMore
set_option linter.unusedVariables false

def ofL (x : List UInt8) : ByteArray := ⟨x.toArray⟩
theorem ofL_toList (x : List UInt8) : (ofL x).data.toList = x := rfl
theorem toL_of (x : ByteArray) : ofL x.data.toList = x := by cases x; rfl
theorem encs_ofL (ts : List (List UInt8)) : encs Value.string (ts.map ofL) = ts.map encStr := by
  simp only [encs, List.map_map]
  apply List.map_congr_left
  intro x _
  rfl
theorem encs_str (l : List ByteArray) : encs Value.string l = (l.map (·.data.toList)).map encStr := (Go.Lib.map_encStr l).symm

def slices_Clone_string_string.f (l : List ByteArray) : Option (List ByteArray) := if l.length ≤ 8796093022208 then some l else none
def sortB (l : List ByteArray) : List ByteArray := ((l.map (·.data.toList)).mergeSort fun x y => decide (x ≤ y)).map ofL
def slices_Sort_string_string.f (l : List ByteArray) : Option (List ByteArray) := if l.length < 4611686018427387904 then some (sortB l) else none
def compactB (l : List ByteArray) : List ByteArray := (Lib.compact (l.map (·.data.toList))).map ofL
def slices_Compact_string_string.f (l : List ByteArray) : Option (List ByteArray) := if l.length < 4611686018427387904 then some (compactB l) else none

theorem slices_Clone_string_string.calls (A0 : Option Addr) (c0 : Nat) (l0 : List ByteArray) (r : List ByteArray) (w : World) (hr0 : Kd.C Kd.string w A0 l0.length l0) (hc0 : l0.length ≤ c0) (h : slices_Clone_string_string.f l0 = some r) :
    Calls Try.prog 66 #[.slice A0 l0.length c0] w fun e w' => ∃ v0_ : Value, e = .returned (v0_) ∧ Kd.R Kd.string 9 w' w.heap.size (fun _ => True) v0_ r ∧ Below w.heap.size w w' := by
  unfold slices_Clone_string_string.f at h
  by_cases hl : l0.length ≤ 8796093022208
  rotate_left
  · rw [if_neg hl] at h; cases h
  rw [if_pos hl] at h
  obtain rfl := Option.some.inj h
  rcases Nat.eq_zero_or_pos l0.length with h0 | h0
  · have : l0 = [] := List.eq_nil_of_length_eq_zero h0
    subst this
    cases A0 with
    | none =>
      refine (Try.slices_Clone_string_nil _ c0 w).mono ?_
      rintro e w' ⟨rfl, rfl⟩
      exact ⟨_, rfl, Kd.R_nil _ _ _ _ _, Below.refl _ _⟩
    | some a =>
      refine (Try.slices_Clone_string_zero a c0 w).mono ?_
      rintro e w' ⟨v, rfl, ho, _, hb⟩
      exact ⟨v, rfl, Kd.R_of_own (xs := ([] : List ByteArray)) ho (fun _ _ => trivial), hb⟩
  · obtain ⟨b, o, rfl, hb, hcells⟩ := mw_strCells hr0 h0
    refine (Try.slices_Clone_string b o l0.length c0 l0 w (Nat.le_refl _) (by omega) (fun j hj => hcells j _ (by rw [List.getD_eq_getElem?_getD, List.getElem?_eq_getElem hj]; rfl))).mono ?_
    rintro e w' ⟨v, rfl, ho, _, hb⟩
    rw [List.take_length] at ho
    exact ⟨v, rfl, Kd.R_of_own ho (fun _ _ => trivial), hb⟩

theorem slices_Sort_string_string.calls (P0_ : Nat → Prop) (u9000_ : Value) (l0 : List ByteArray) (r : List ByteArray) (w0 w : World) (hB : Below w0.heap.size w0 w) (ho0 : Kd.R Kd.string 9 w w0.heap.size P0_ u9000_ l0) (h : slices_Sort_string_string.f l0 = some r) :
    Calls Try.prog 73 #[u9000_] w fun e w' => e = .returned (.tuple #[]) ∧ Kd.R Kd.string 9 w' w0.heap.size (fun k_ => (P0_ k_ ∨ w.heap.size ≤ k_)) u9000_ r ∧ Below w0.heap.size w0 w' ∧ Kept w w' (fun k_ => P0_ k_) := by
  unfold slices_Sort_string_string.f at h
  by_cases hl : l0.length < 4611686018427387904
  rotate_left
  · rw [if_neg hl] at h; cases h
  rw [if_pos hl] at h
  obtain rfl := Option.some.inj h
  have ho := Kd.own_of_R ho0
  have hlen : (sortB l0).length = l0.length := by simp [sortB]
  rcases ho.2 with ⟨rfl, _⟩ | ⟨g, cap, cur, rfl, hbase, hb, h1, h2, h3, h4⟩
  · have : l0 = [] := List.eq_nil_of_length_eq_zero (by rcases Kd.R_slice ho0 with ⟨A, c, e⟩; injection e with e1 e2 e3)
    subst this
    refine (Try.slices_Sort_string_none none 0 w).mono ?_
    rintro e w' ⟨rfl, rfl⟩
    exact ⟨rfl, (by rw [show sortB [] = [] by simp [sortB]]; exact Kd.R_nil _ _ _ _ _), hB, Kept.refl _ _⟩
  · have hlt : g < w.heap.size := (Array.getElem?_eq_some_iff.1 hb).1
    have hH : Holds encStr w g 0 (l0.map (·.data.toList)).toArray := holds_of_block hb (by simpa [encs_str] using h4)
    have := Try.slices_Sort_string g 0 cap (l0.map (·.data.toList)) w hH hlt (by simpa using hl)
    rw [List.length_map] at this
    refine this.mono ?_
    rintro e w' ⟨rfl, n, os, rfl⟩
    have hg := grownBy_sorted (w := w) (g := g) (n := n) (os := os) ((l0.map (·.data.toList)).mergeSort fun x y => decide (x ≤ y)).toArray
    refine ⟨rfl, ?_, hB.grown hg hB.size (fun k hk => by injection hk with hk; subst hk; exact hbase), Kept.of_grown hg (Kept.refl _ _) (fun k hk => .inl (by injection hk with hk; subst hk; exact ho0.1 g (by simp [Value.ownBlock])))⟩
    refine Kd.R_of_own ?_ (fun k hk => .inl (ho0.1 k hk))
    rw [hlen, sortB, encs_ofL]
    have := ownsRow_sorted (w := w) (base := w0.heap.size) (g := g) (cap := cap) (n := n) (e := 9) (os := os) (cur := cur) (ss := l0.map (·.data.toList)) (ts := (l0.map (·.data.toList)).mergeSort fun x y => decide (x ≤ y)) (by simp) hbase hb (by simpa using h1) h2 h3
    simpa using this

theorem slices_Compact_string_string.calls (P0_ : Nat → Prop) (u9000_ : Value) (l0 : List ByteArray) (r : List ByteArray) (w0 w : World) (hB : Below w0.heap.size w0 w) (ho0 : Kd.R Kd.string 9 w w0.heap.size P0_ u9000_ l0) (h : slices_Compact_string_string.f l0 = some r) :
    Calls Try.prog 74 #[u9000_] w fun e w' => ∃ v0_ : Value, e = .returned (v0_) ∧ Kd.R Kd.string 9 w' w0.heap.size (fun k_ => (P0_ k_ ∨ w.heap.size ≤ k_)) v0_ r ∧ Below w0.heap.size w0 w' ∧ Kept w w' (fun k_ => P0_ k_) := by
  unfold slices_Compact_string_string.f at h
  by_cases hl : l0.length < 4611686018427387904
  rotate_left
  · rw [if_neg hl] at h; cases h
  rw [if_pos hl] at h
  obtain rfl := Option.some.inj h
  have ho := Kd.own_of_R ho0
  rcases ho.2 with ⟨rfl, _⟩ | ⟨g, cap, cur, rfl, hbase, hb, h1, h2, h3, h4⟩
  · have : l0 = [] := List.eq_nil_of_length_eq_zero (by rcases Kd.R_slice ho0 with ⟨A, c, e⟩; injection e with e1 e2 e3)
    subst this
    refine (Try.slices_Compact_string_empty none 0 w).mono ?_
    rintro e w' ⟨rfl, rfl⟩
    exact ⟨_, rfl, (by rw [show compactB [] = [] by rfl]; exact Kd.R_nil _ _ _ _ _), hB, Kept.refl _ _⟩
  · have hH : Holds encStr w g 0 (l0.map (·.data.toList)).toArray := holds_of_block hb (by simpa [encs_str] using h4)
    have hcl : (Lib.compact (l0.map (·.data.toList))).length ≤ (l0.map (·.data.toList)).length := Lib.compact_length_le _
    have := Try.slices_Compact_string g 0 cap (l0.map (·.data.toList)) w hH (by simp; omega) (by simpa using h1)
    rw [List.length_map] at this
    refine this.mono ?_
    rintro e w' ⟨rfl, q, rfl⟩
    have ho2 : w.ownsRow w0.heap.size 9 1 (.slice (some ⟨g, 0, none⟩) l0.length cap) l0.length ((l0.map (·.data.toList)).map encStr) := by rw [← encs_str]; exact ho
    have hown := Go.Lib.ownsRow_putRow (q := q) (k := (Lib.compact (l0.map fun (x : ByteArray) => x.data.toList)).length) (ys := Lib.compact (l0.map fun (x : ByteArray) => x.data.toList) ++ List.replicate (l0.length - (Lib.compact (l0.map fun (x : ByteArray) => x.data.toList)).length) []) ho2 (by simp at hcl ⊢; omega) (by simpa using hcl)
    rw [List.take_left] at hown
    have hg := grownBy_sorted (w := w) (g := g) (n := q) (os := #[]) (Lib.compact (l0.map fun (x : ByteArray) => x.data.toList) ++ List.replicate (l0.length - (Lib.compact (l0.map fun (x : ByteArray) => x.data.toList)).length) []).toArray
    rw [grow_empty] at hg
    refine ⟨_, rfl, ?_, hB.grown hg hB.size (fun k hk => by injection hk with hk; subst hk; exact hbase), Kept.of_grown hg (Kept.refl _ _) (fun k hk => .inl (by injection hk with hk; subst hk; exact ho0.1 g (by simp [Value.ownBlock])))⟩
    have hsz : (compactB l0).length = (Lib.compact (l0.map (·.data.toList))).length := by simp [compactB]
    refine Kd.R_of_own ?_ (fun k hk => .inl (ho0.1 k (by simpa [Value.ownBlock] using hk)))
    rw [hsz, compactB, encs_ofL]
    exact hown

end Go.Proofs.Ytlncfkgodioocaa.P
