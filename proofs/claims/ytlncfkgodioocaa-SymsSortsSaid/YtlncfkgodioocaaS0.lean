/- Plain words of layer 1: symbols, words, alphabets, over lists and bytes; small laws for loops that are told with rounds. No program in sight. -/
import Derived.Test.YtlncfkgodioocaaWWords
import Derived.Lib.Strings
import Derived.IntWalk
namespace Go.Proofs.Ytlncfkgodioocaa.P
open Go.RowKit Go.Proofs.YtlncfkgodioocaaW.PrintWords

/-! ### numbers and elements -/
theorem wrap_succ {j : Nat} (h : j < 9223372036854775807) : wrap64 ((j : Int) + 1) = ((j + 1 : Nat) : Int) := by unfold wrap64; omega
theorem wrap_of {n : Int} {m : Nat} (h : n = (m : Int)) (hm : m ≤ 9223372036854775807) : wrap64 n = (m : Int) := by rw [h]; exact IntWalk.wrap64_in _ ⟨by omega, by omega⟩
theorem wrap_pred {j : Nat} (h1 : 1 ≤ j) (h : j < 9223372036854775807) : wrap64 ((j : Int) - 1) = ((j - 1 : Nat) : Int) := by unfold wrap64; omega
theorem rdOf_nat {α : Type} (d : α) (l : List α) {j : Nat} (h : j < l.length) : rdOf d l (j : Int) = l[j] := by
  simp [rdOf, List.getD_eq_getElem?_getD, List.getElem?_eq_getElem h]
theorem sz_toList (s : ByteArray) : s.toList.length = s.size := by rw [Lib.toList_data, ← Lib.size_eq]
theorem bt_nat (s : ByteArray) {j : Nat} (h : j < s.toList.length) : bt s (j : Int) = ((s.toList[j]).toNat : Int) := by
  have h' : j < s.size := by rw [← sz_toList]; exact h
  have : (s.toList[j]) = s[j] := by
    simp only [Lib.toList_data]
    rfl
  rw [this]
  simp [bt, h']
theorem toList_inj {a b : ByteArray} (h : a.toList = b.toList) : a = b := by
  rw [Lib.toList_data, Lib.toList_data] at h
  exact Go.WideShapes.bytes_inj h
theorem toList_mk (l : List UInt8) : (⟨l.toArray⟩ : ByteArray).toList = l := by rw [Lib.toList_data]

theorem ev_some {α : Type} {g : Nat → Option α} {r : α} (h : ∀ k, g k = some r) : Ev g r := ⟨0, fun k _ => h k⟩
theorem ev_cast {α : Type} {g : Nat → Option α} {r r' : α} (h : Ev g r) (e : r = r') : Ev g r' := e ▸ h

/-! ### symbols -/
def okB (b : UInt8) : Bool := decide (33 ≤ (b.toNat : Int)) && decide ((b.toNat : Int) ≤ 126) && decide ((b.toNat : Int) ≠ 60) && decide ((b.toNat : Int) ≠ 62)
def isSym (s : ByteArray) : Bool := s.toList.all okB && !s.toList.isEmpty
def isLong (s : ByteArray) : Bool := decide (16 < (s.size : Int))
def lt (a b : ByteArray) : Bool := Op.bytesLess a.toList b.toList
def isSet : List ByteArray → Bool
  | a :: b :: l => lt a b && isSet (b :: l)
  | _ => true
def vWord (l : List ByteArray) : Int := if 60 < l.length then 3 else if l.any isLong then 3 else if l.all isSym then 0 else 1
def vSigma (l : List ByteArray) : Int := if 40 < l.length then 3 else if l.any isLong then 3 else if l.all isSym then (if isSet l then 0 else 1) else 1

end Go.Proofs.Ytlncfkgodioocaa.P
