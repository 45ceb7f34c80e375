/- The row of the statement SpellLearns: for every input the call returns true and leaves the arguments as they were. -/
import Derived.Test.YtphjjlhpepmofaaRows
import Derived.Test.YtphjjlhpepmofaaKl5
import Derived.Test.YtphjjlhpepmofaaAMZ
import Derived.WalkKit
import Derived.ProofKit
import Derived.OpenShut
import Derived.ShutString
import Derived.ChangeOld
import Derived.Below
import Derived.SizedLaws
import Derived.KernelRfl
namespace Go.Proofs.Ytphjjlhpepmofaa.spellLearns
open Go.ChangeShapes Go.WideShapes Go.ChangeAt Go.RowKit Go.AM Go.Proofs
set_option linter.unusedVariables false
theorem own : ownKnob Try.prog.godebug = none := by kernel_rfl
theorem laidOut : laidOutB Try.prog = true := by kernel_rfl
set_option maxRecDepth 100000 in
theorem lifted (os : Os) (started : os.Started) (H : Type) (enc : TypeId × Value → H) :
    ReturnsInHanded {} Try.checked os 10 .any (Rows.spellLearnsSpec.pre6 enc Try.prog Try.f10 Rows.spellLearnsRow.domain false) (Rows.spellLearnsSpec.post enc Try.prog Try.f10 false true false false) := by
  refine returnsInHanded_of_change_sized (C := Try.checked) own started (by kernel_rfl) Try.func10
    (ChangeSpec.witness6 (enc := enc) (C := Try.checked) false ⟨#[], #[.slice none 0 0], []⟩ 8 (by kernel_rfl) (by kernel_rfl) (by kernel_rfl) (by kernel_rfl)) ?_
  intro W base args ds gs before hval0 hW hcnd hsz0 _
  have hsz : (DataW.weightsEach Try.prog (Try.f10.params.toList ++ Rows.spellLearnsSpec.plain.varTypes Try.prog) (ds ++ gs)).all (· ≤ reachBytes) = true := hsz0
  have hval : ∀ (j : Nat) t v, Try.f10.params[j]? = some t → args[j]? = some v → Value.okWide Try.prog W .any base t v := hval0
  have hW' := hW
  obtain ⟨p, q, hA0, hV, rfl, hfz, hnd⟩ := hW
  have hA : DataW.TrodAll enc Try.prog W 0 (fun _ => true) true Try.f10.params.toList args.toList ds p := hA0
  rw [Try.params10] at hA hval hsz
  obtain ⟨v0, vs0, d0, ds0, p0, q0, hargs, rfl, rfl, h0, r0⟩ := trodAll_cons hA
  obtain ⟨rfl, rfl, rfl⟩ := trodAll_nil r0
  obtain rfl : args = #[v0] := by cases args; simp_all
  obtain ⟨rfl, rfl⟩ := trodVars_none hV
  have k0 := h0
  have lt0 : ∀ x ∈ p0, x.block < W.heap.size := by obtain ⟨m, hm⟩ := k0; exact DataW.trod_lt m _ _ _ hm
  obtain ⟨x0, len0, cap0, rfl⟩ := okWide_slice Try.underlying65 (hval 0 65 v0 rfl rfl)
  obtain ⟨a0, hC0, hB0⟩ := open_argA (j := 0) (opn_slice (sz := 2) (b := 48) Try.underlying65 (by kernel_rfl) (by decide) (by kernel_rfl) (opn_array Try.underlying33 (by kernel_rfl) (by kernel_rfl) (opnR_cons (fun _ => rfl) (opn_slice (sz := 1) (b := 16) Try.underlying25 (by kernel_rfl) (by decide) (by kernel_rfl) (opn_str Try.underlying9)) (opnR_cons (fun _ => rfl) (opn_slice (sz := 1) (b := 16) Try.underlying25 (by kernel_rfl) (by decide) (by kernel_rfl) (opn_str Try.underlying9)) opnR_nil)))) hsz rfl rfl h0
  clear hA0 hval0 hsz0 hsz
  refine ((spellLearns_ok a0 hB0).row (W := W) (vals := [_]) (by simp only [RepAs, RepA]; exact ⟨RepV.ofC hC0 rfl, trivial⟩)).mono fun e W' he_ => ?_
  obtain ⟨he, bel⟩ := he_
  subst he
  exact ⟨_, rfl, _, _, _, [], _, [], hW', trodAll_mk1 (shut_bool Try.underlying4 _), (trodAll_cons_mk (Below.trod laidOut (by kernel_rfl) (of_decide_eq_true (by kernel_rfl)) k0 bel lt0) trodAll_mk0), rfl, bel.frame _, fun h => by cases h⟩
theorem over : Rows.spellLearnsRow.holds Try.pinned (OpenSpec.ofChange Rows.spellLearnsSpec) :=
  OpenClaim.holds_of_wide 10 Try.f10 rfl rfl rfl rfl rfl rfl rfl ⟨rfl, rfl, rfl, rfl, rfl⟩ rfl rfl rfl rfl rfl (by kernel_rfl) Try.func10 (by kernel_rfl)
    (of_decide_eq_true (by kernel_rfl)) (by unfold Func.isWrapper; first | (rw [if_pos (by decide +kernel)]; kernel_rfl) | (rw [if_neg (by decide +kernel)]; exact ⟨rfl, rfl⟩))
    (fun os started H enc _ => lifted os started H enc)
theorem proved : Rows.SpellLearnsSaid := over
#print axioms proved
end Go.Proofs.Ytphjjlhpepmofaa.spellLearns
namespace Go.Proofs.Ytphjjlhpepmofaa
/-- The row, under a short name, for the claim. -/
theorem spellLearns_holds : Rows.SpellLearnsSaid := spellLearns.proved
end Go.Proofs.Ytphjjlhpepmofaa
