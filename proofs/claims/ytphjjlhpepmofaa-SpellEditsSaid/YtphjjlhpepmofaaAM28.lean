/- From the walk of a statement's function to the row. -/
import Derived.Test.YtphjjlhpepmofaaAM27
import Derived.WalkKit
import Derived.OpenShut
import Derived.ShutString
import Derived.ChangeOld
set_option linter.all false
namespace Go.AM
open Go

theorem FOk.row {P : Program} {f : FuncId} {args : List AV} (h : FOk P f args [] (.v (.w (.bool true))) []) {W : World} {vals : List Value} (hv : RepAs W (· < W.heap.size) (fun _ => default) [] args vals) :
    Calls P f vals.toArray W fun e W' => e = .returned (.bool true) ∧ Go.RowKit.Below W.heap.size W W' := by
  have no : ∀ j, ¬ Own [] (fun _ => none) j := by rintro j ⟨id, e, h1, _⟩; simp [find] at h1
  refine (h.2 W (· < W.heap.size) vals (fun _ => default) (fun _ => none) ?_ ?_).mono fun e W' he => ?_
  · exact ⟨fun id e h => by simp [find] at h, fun id id' e e' b h => by simp [find] at h, fun id e b h => by simp [find] at h, Nat.le_refl _, fun _ _ _ => rfl, rfl, rfl, rfl⟩
  · exact RepAs.mono (fun j hj => ⟨⟨⟨.inl hj, hj⟩, no j⟩, rfl⟩) args vals (fun id _ e' he' => by simp [find] at he') hv
  · obtain ⟨v, hdr', ow', rfl, hm, hr, _⟩ := he
    refine ⟨?_, hm.os, hm.tape, hm.output, hm.size, fun k hk => hm.frame k hk (fun ho => no k ho)⟩
    simp only [RepA] at hr
    rw [hr.wInv.1]

theorem RepV.ofSt {W : World} {ok : Nat → Prop} {p : PV} {cs : Array Value} (hp : p.isSt = true) (h : RepC W ok p cs.toList) : RepV W ok p (.agg cs) := by
  unfold RepV; rw [if_pos hp]; exact ⟨cs.toList, by simp, h⟩

theorem RepC.slV {W : World} {ok : Nat → Prop} {sz : Nat} {l : List PV} {cs : List Value} (h : RepC W ok (.sl sz l) cs) : ∃ a n c, cs = [.slice a n c] := by
  cases h
  · exact ⟨_, _, _, rfl⟩
  · exact ⟨_, _, _, rfl⟩

theorem okWide_array {P : Program} {w : World} {r : Reach} {base n : Nat} {t e : TypeId} {v : Value} (ht : P.underlying t = some (.array n e)) (h : Value.okWide P w r base t v) : ∃ cs, v = .agg cs ∧ cs.size = P.cellsOf t := by
  unfold Value.okWide at h
  rw [ht] at h
  obtain ⟨cs, h1, h2, _⟩ := h
  exact ⟨cs, h1, h2⟩
end Go.AM
