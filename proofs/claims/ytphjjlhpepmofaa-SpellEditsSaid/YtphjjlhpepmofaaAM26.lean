/- Texts as lists of bytes, words as lists of texts. -/
import Derived.Test.YtphjjlhpepmofaaAM25
import Derived.Lib.Strings
set_option linter.all false
namespace Go.AM
open Go

abbrev Bs := List UInt8

/-- A text. -/
def bs (l : Bs) : ByteArray := ⟨l.toArray⟩

theorem bs_size (l : Bs) : (bs l).size = l.length := by simp [bs, ByteArray.size]
theorem bs_data (l : Bs) : (bs l).data = l.toArray := rfl
theorem bs_list (l : Bs) : (bs l).data.toList = l := by simp [bs]
theorem bs_mk (l : Bs) : (⟨l.toArray⟩ : ByteArray) = bs l := rfl
theorem bs_inj {a b : Bs} : bs a = bs b ↔ a = b := by simp [bs]
theorem bs_toList (l : Bs) : (bs l).toList = l := by rw [Lib.toList_data, bs_list]
theorem bs_extract (l : Bs) (i j : Nat) : (bs l).extract i j = bs ((l.drop i).take (j - i)) := by
  rw [Lib.extract_eq, bs_list]; rfl
theorem bs_append (a b : Bs) : bs a ++ bs b = bs (a ++ b) := by
  apply ByteArray.ext
  simp [bs]
theorem bs_all (b : ByteArray) : ∃ l, b = bs l := ⟨b.data.toList, by simp [bs]⟩
/-- The order of texts. -/
def ltB (a b : Bs) : Bool := Op.bytesLess a b
theorem slt_bs (a b : Bs) : slt (bs a) (bs b) = ltB a b := by simp [slt, bs_toList, ltB]

abbrev AV.I (n : Int) : AV := .v (.w (.int .i64 n))
abbrev AV.B (b : Bool) : AV := .v (.w (.bool b))
abbrev AV.S (l : Bs) : AV := .v (.w (.string (bs l)))
/-- A word as a value. -/
def PV.word (w : List Bs) : PV := .sl 1 (w.map fun s => .w (.string (bs s)))

theorem ci_le {n m : Nat} : ((no_index (OfNat.ofNat n) : Int) ≤ (m : Int)) ↔ (OfNat.ofNat n : Nat) ≤ m := by
  show (Int.ofNat n ≤ (m : Int)) ↔ n ≤ m; exact Int.ofNat_le
theorem ci_le2 {n m : Nat} : ((m : Int) ≤ (no_index (OfNat.ofNat n) : Int)) ↔ m ≤ (OfNat.ofNat n : Nat) := by
  show ((m : Int) ≤ Int.ofNat n) ↔ m ≤ n; exact Int.ofNat_le
theorem ci_lt {n m : Nat} : ((no_index (OfNat.ofNat n) : Int) < (m : Int)) ↔ (OfNat.ofNat n : Nat) < m := by
  show (Int.ofNat n < (m : Int)) ↔ n < m; exact Int.ofNat_lt
theorem ci_lt2 {n m : Nat} : ((m : Int) < (no_index (OfNat.ofNat n) : Int)) ↔ m < (OfNat.ofNat n : Nat) := by
  show ((m : Int) < Int.ofNat n) ↔ m < n; exact Int.ofNat_lt
theorem ci_eq {n m : Nat} : ((m : Int) = (no_index (OfNat.ofNat n) : Int)) ↔ m = (OfNat.ofNat n : Nat) := by
  show ((m : Int) = Int.ofNat n) ↔ m = n; exact Int.ofNat_inj
theorem ci_lnat {m : Nat} : ((OfNat.ofNat m : Nat) : Int) = (OfNat.ofNat m : Int) := rfl

/-! rows, read up to a place -/
theorem take_all {α : Type} (p : α → Bool) (l : List α) {i : Nat} (h : i < l.length) (hi : (l.take i).all p = true) (hc : p l[i] = true) : (l.take (i + 1)).all p = true := by
  rw [List.take_succ_eq_append_getElem h, List.all_append, hi]; simp [hc]
theorem all_no {α : Type} (p : α → Bool) (l : List α) {i : Nat} (h : i < l.length) (hc : p l[i] = false) : l.all p = false := by
  rw [List.all_eq_false]; exact ⟨l[i], List.getElem_mem h, by simp [hc]⟩
theorem take_end {α : Type} (p : α → Bool) (l : List α) {i : Nat} (hi : i ≤ l.length) (h : ¬ i < l.length) (ha : (l.take i).all p = true) : l.all p = true := by
  rwa [List.take_of_length_le (by omega)] at ha
theorem any_yes {α : Type} (p : α → Bool) (l : List α) {i : Nat} (h : i < l.length) (hc : p l[i] = true) : l.any p = true := by
  rw [List.any_eq_true]; exact ⟨l[i], List.getElem_mem h, hc⟩
theorem take_none {α : Type} (p : α → Bool) (l : List α) {i : Nat} (h : i < l.length) (hi : (l.take i).any p = false) (hc : p l[i] = false) : (l.take (i + 1)).any p = false := by
  rw [List.take_succ_eq_append_getElem h, List.any_append, hi]; simp [hc]
theorem none_end {α : Type} (p : α → Bool) (l : List α) {i : Nat} (hi : i ≤ l.length) (h : ¬ i < l.length) (ha : (l.take i).any p = false) : l.any p = false := by
  rwa [List.take_of_length_le (by omega)] at ha

theorem cellRd0 {x : PV} {cs : List PV} {sz : Nat} : cellRd (x :: cs) false 0 sz = some x := rfl
theorem cellRd1 {x y : PV} {cs : List PV} {sz : Nat} : cellRd (x :: y :: cs) false 1 sz = some y := rfl
theorem cellRd2 {x y z : PV} {cs : List PV} {sz : Nat} : cellRd (x :: y :: z :: cs) false 2 sz = some z := rfl
theorem cellRd3 {x y z u : PV} {cs : List PV} {sz : Nat} : cellRd (x :: y :: z :: u :: cs) false 3 sz = some u := rfl
theorem cellRd4 {x y z u v : PV} {cs : List PV} {sz : Nat} : cellRd (x :: y :: z :: u :: v :: cs) false 4 sz = some v := rfl
attribute [simp high] cellRd0 cellRd1 cellRd2 cellRd3 cellRd4
attribute [simp high] List.getElem?_cons_zero List.getElem?_cons_succ
attribute [simp] ci_le ci_le2 ci_lt ci_lt2 ci_eq
attribute [simp] PV.word bs_size bs_list bs_mk bs_inj bs_toList bs_extract bs_append slt_bs
end Go.AM
