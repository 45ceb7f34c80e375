/- The row of the statement TransferPlain: for every input the call returns true and leaves the arguments as they were. -/
import Derived.Test.YtlhpjeckaepdlaaRows
import Derived.Test.YtlhpjeckaepdlaaTp2
import Derived.Test.YtlhpjeckaepdlaaAMZ
import Derived.WalkKit
import Derived.ProofKit
import Derived.OpenShut
import Derived.ShutString
import Derived.ChangeOld
import Derived.Below
import Derived.SizedLaws
import Derived.KernelRfl
namespace Go.Proofs.Ytlhpjeckaepdlaa.transferPlain
open Go.ChangeShapes Go.WideShapes Go.ChangeAt Go.RowKit Go.AM Go.Proofs
set_option linter.unusedVariables false
theorem own : ownKnob Try.prog.godebug = none := by kernel_rfl
theorem laidOut : laidOutB Try.prog = true := by kernel_rfl
set_option maxRecDepth 100000 in
theorem lifted (os : Os) (started : os.Started) (H : Type) (enc : TypeId × Value → H) :
    ReturnsInHanded {} Try.checked os 6 .any (Rows.transferPlainSpec.pre6 enc Try.prog Try.f6 Rows.transferPlainRow.domain false) (Rows.transferPlainSpec.post enc Try.prog Try.f6 false true false false) := by
  refine returnsInHanded_of_change_sized (C := Try.checked) own started (by kernel_rfl) Try.func6
    (ChangeSpec.witness6 (enc := enc) (C := Try.checked) false ⟨#[], #[.agg #[.slice none 0 0, .slice none 0 0], .slice none 0 0], []⟩ 8 (by kernel_rfl) (by kernel_rfl) (by kernel_rfl) (by kernel_rfl)) ?_
  intro W base args ds gs before hval0 hW hcnd hsz0 _
  have hsz : (DataW.weightsEach Try.prog (Try.f6.params.toList ++ Rows.transferPlainSpec.plain.varTypes Try.prog) (ds ++ gs)).all (· ≤ reachBytes) = true := hsz0
  have hval : ∀ (j : Nat) t v, Try.f6.params[j]? = some t → args[j]? = some v → Value.okWide Try.prog W .any base t v := hval0
  have hW' := hW
  obtain ⟨p, q, hA0, hV, rfl, hfz, hnd⟩ := hW
  have hA : DataW.TrodAll enc Try.prog W 0 (fun _ => true) true Try.f6.params.toList args.toList ds p := hA0
  rw [Try.params6] at hA hval hsz
  obtain ⟨v0, vs0, d0, ds0, p0, q0, hargs, rfl, rfl, h0, r0⟩ := trodAll_cons hA
  obtain ⟨v1, vs1, d1, ds1, p1, q1, rfl, rfl, rfl, h1, r1⟩ := trodAll_cons r0
  obtain ⟨rfl, rfl, rfl⟩ := trodAll_nil r1
  obtain rfl : args = #[v0, v1] := by cases args; simp_all
  obtain ⟨rfl, rfl⟩ := trodVars_none hV
  have k0 := h0
  have lt0 : ∀ x ∈ p0, x.block < W.heap.size := by obtain ⟨m, hm⟩ := k0; exact DataW.trod_lt m _ _ _ hm
  obtain ⟨x0, rfl, _⟩ := okWide_struct Try.underlying25 (hval 0 25 v0 rfl rfl)
  obtain ⟨a0, hC0, hB0⟩ := open_argA (j := 0) (opn_struct (ts := [22, 23]) Try.underlying25 rfl rfl (by kernel_rfl) (by decide +kernel) (opnR_cons (fun _ => rfl) (opn_slice (sz := 4) (b := 80) Try.underlying22 (by kernel_rfl) (by decide) (by kernel_rfl) (opn_struct (ts := [9, 51, 9, 51]) Try.underlying71 rfl rfl (by kernel_rfl) (by decide +kernel) (opnR_cons (fun _ => rfl) (opn_str Try.underlying9) (opnR_cons (fun _ => rfl) (opn_slice (sz := 1) (b := 16) Try.underlying51 (by kernel_rfl) (by decide) (by kernel_rfl) (opn_str Try.underlying9)) (opnR_cons (fun _ => rfl) (opn_str Try.underlying9) (opnR_cons (fun _ => rfl) (opn_slice (sz := 1) (b := 16) Try.underlying51 (by kernel_rfl) (by decide) (by kernel_rfl) (opn_str Try.underlying9)) opnR_nil)))))) (opnR_cons (fun _ => rfl) (opn_slice (sz := 2) (b := 48) Try.underlying23 (by kernel_rfl) (by decide) (by kernel_rfl) (opn_struct (ts := [45, 56]) Try.underlying58 rfl rfl (by kernel_rfl) (by decide +kernel) (opnR_cons (fun _ => rfl) (opn_slice (sz := 1) (b := 24) Try.underlying45 (by kernel_rfl) (by decide) (by kernel_rfl) (opn_slice (sz := 1) (b := 16) Try.underlying51 (by kernel_rfl) (by decide) (by kernel_rfl) (opn_str Try.underlying9))) (opnR_cons (fun _ => rfl) (opn_slice (sz := 5) (b := 80) Try.underlying56 (by kernel_rfl) (by decide) (by kernel_rfl) (opn_struct (ts := [3, 9, 51, 3, 51]) Try.underlying73 rfl rfl (by kernel_rfl) (by decide +kernel) (opnR_cons (fun _ => rfl) (opn_int Try.underlying3) (opnR_cons (fun _ => rfl) (opn_str Try.underlying9) (opnR_cons (fun _ => rfl) (opn_slice (sz := 1) (b := 16) Try.underlying51 (by kernel_rfl) (by decide) (by kernel_rfl) (opn_str Try.underlying9)) (opnR_cons (fun _ => rfl) (opn_int Try.underlying3) (opnR_cons (fun _ => rfl) (opn_slice (sz := 1) (b := 16) Try.underlying51 (by kernel_rfl) (by decide) (by kernel_rfl) (opn_str Try.underlying9)) opnR_nil))))))) opnR_nil)))) opnR_nil))) hsz rfl rfl h0
  have k1 := h1
  have lt1 : ∀ x ∈ p1, x.block < W.heap.size := by obtain ⟨m, hm⟩ := k1; exact DataW.trod_lt m _ _ _ hm
  obtain ⟨x1, len1, cap1, rfl⟩ := okWide_slice Try.underlying26 (hval 1 26 v1 rfl rfl)
  obtain ⟨a1, hC1, hB1⟩ := open_argA (j := 1) (opn_slice (sz := 2) (b := 40) Try.underlying26 (by kernel_rfl) (by decide) (by kernel_rfl) (opn_struct (ts := [9, 51]) Try.underlying53 rfl rfl (by kernel_rfl) (by decide +kernel) (opnR_cons (fun _ => rfl) (opn_str Try.underlying9) (opnR_cons (fun _ => rfl) (opn_slice (sz := 1) (b := 16) Try.underlying51 (by kernel_rfl) (by decide) (by kernel_rfl) (opn_str Try.underlying9)) opnR_nil)))) hsz rfl rfl h1
  clear hA0 hval0 hsz0 hsz
  refine ((transferPlain_ok a0 a1 hB0 hB1).row (W := W) (vals := [_, _]) (by simp only [RepAs, RepA]; exact ⟨RepV.ofSt rfl hC0, RepV.ofC hC1 rfl, trivial⟩)).mono fun e W' he_ => ?_
  obtain ⟨he, bel⟩ := he_
  subst he
  exact ⟨_, rfl, _, _, _, [], _, [], hW', trodAll_mk1 (shut_bool Try.underlying4 _), (trodAll_cons_mk (Below.trod laidOut (by kernel_rfl) (of_decide_eq_true (by kernel_rfl)) k0 bel lt0) (trodAll_cons_mk (Below.trod laidOut (by kernel_rfl) (of_decide_eq_true (by kernel_rfl)) k1 bel lt1) trodAll_mk0)), rfl, bel.frame _, fun h => by cases h⟩
theorem over : Rows.transferPlainRow.holds Try.pinned (OpenSpec.ofChange Rows.transferPlainSpec) :=
  OpenClaim.holds_of_wide 6 Try.f6 rfl rfl rfl rfl rfl rfl rfl ⟨rfl, rfl, rfl, rfl, rfl⟩ rfl rfl rfl rfl rfl (by kernel_rfl) Try.func6 (by kernel_rfl)
    (of_decide_eq_true (by kernel_rfl)) (by unfold Func.isWrapper; first | (rw [if_pos (by decide +kernel)]; kernel_rfl) | (rw [if_neg (by decide +kernel)]; exact ⟨rfl, rfl⟩))
    (fun os started H enc _ => lifted os started H enc)
theorem proved : Rows.TransferPlainSaid := over
#print axioms proved
end Go.Proofs.Ytlhpjeckaepdlaa.transferPlain
namespace Go.Proofs.Ytlhpjeckaepdlaa
/-- The row, under a short name, for the claim. -/
theorem transferPlain_holds : Rows.TransferPlainSaid := transferPlain.proved
end Go.Proofs.Ytlhpjeckaepdlaa
