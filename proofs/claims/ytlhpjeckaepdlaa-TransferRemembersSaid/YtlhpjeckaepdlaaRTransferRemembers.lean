/- The row of the statement TransferRemembers: for every input the call returns true and leaves the arguments as they were. -/
import Derived.Test.YtlhpjeckaepdlaaRows
import Derived.Test.YtlhpjeckaepdlaaSd9
import Derived.Test.YtlhpjeckaepdlaaAMZ
import Derived.WalkKit
import Derived.ProofKit
import Derived.OpenShut
import Derived.ShutString
import Derived.ChangeOld
import Derived.Below
import Derived.SizedLaws
import Derived.KernelRfl
namespace Go.Proofs.Ytlhpjeckaepdlaa.transferRemembers
open Go.ChangeShapes Go.WideShapes Go.ChangeAt Go.RowKit Go.AM Go.Proofs
set_option linter.unusedVariables false
theorem own : ownKnob Try.prog.godebug = none := by kernel_rfl
theorem laidOut : laidOutB Try.prog = true := by kernel_rfl
set_option maxRecDepth 100000 in
theorem lifted (os : Os) (started : os.Started) (H : Type) (enc : TypeId × Value → H) :
    ReturnsInHanded {} Try.checked os 7 .any (Rows.transferRemembersSpec.pre6 enc Try.prog Try.f7 Rows.transferRemembersRow.domain false) (Rows.transferRemembersSpec.post enc Try.prog Try.f7 false true false false) := by
  refine returnsInHanded_of_change_sized (C := Try.checked) own started (by kernel_rfl) Try.func7
    (ChangeSpec.witness6 (enc := enc) (C := Try.checked) false ⟨#[], #[.slice none 0 0, .slice none 0 0, .int .i64 0], []⟩ 8 (by kernel_rfl) (by kernel_rfl) (by kernel_rfl) (by kernel_rfl)) ?_
  intro W base args ds gs before hval0 hW hcnd hsz0 _
  have hsz : (DataW.weightsEach Try.prog (Try.f7.params.toList ++ Rows.transferRemembersSpec.plain.varTypes Try.prog) (ds ++ gs)).all (· ≤ reachBytes) = true := hsz0
  have hval : ∀ (j : Nat) t v, Try.f7.params[j]? = some t → args[j]? = some v → Value.okWide Try.prog W .any base t v := hval0
  have hW' := hW
  obtain ⟨p, q, hA0, hV, rfl, hfz, hnd⟩ := hW
  have hA : DataW.TrodAll enc Try.prog W 0 (fun _ => true) true Try.f7.params.toList args.toList ds p := hA0
  rw [Try.params7] at hA hval hsz
  obtain ⟨v0, vs0, d0, ds0, p0, q0, hargs, rfl, rfl, h0, r0⟩ := trodAll_cons hA
  obtain ⟨v1, vs1, d1, ds1, p1, q1, rfl, rfl, rfl, h1, r1⟩ := trodAll_cons r0
  obtain ⟨v2, vs2, d2, ds2, p2, q2, rfl, rfl, rfl, h2, r2⟩ := trodAll_cons r1
  obtain ⟨rfl, rfl, rfl⟩ := trodAll_nil r2
  obtain rfl : args = #[v0, v1, v2] := by cases args; simp_all
  obtain ⟨rfl, rfl⟩ := trodVars_none hV
  have k0 := h0
  have lt0 : ∀ x ∈ p0, x.block < W.heap.size := by obtain ⟨m, hm⟩ := k0; exact DataW.trod_lt m _ _ _ hm
  obtain ⟨x0, len0, cap0, rfl⟩ := okWide_slice Try.underlying59 (hval 0 59 v0 rfl rfl)
  obtain ⟨a0, hC0, hB0⟩ := open_argA (j := 0) (opn_slice (sz := 2) (b := 48) Try.underlying59 (by kernel_rfl) (by decide) (by kernel_rfl) (opn_struct (ts := [51, 51]) Try.underlying97 rfl rfl (by kernel_rfl) (by decide +kernel) (opnR_cons (fun _ => rfl) (opn_slice (sz := 1) (b := 16) Try.underlying51 (by kernel_rfl) (by decide) (by kernel_rfl) (opn_str Try.underlying9)) (opnR_cons (fun _ => rfl) (opn_slice (sz := 1) (b := 16) Try.underlying51 (by kernel_rfl) (by decide) (by kernel_rfl) (opn_str Try.underlying9)) opnR_nil)))) hsz rfl rfl h0
  have k1 := h1
  have lt1 : ∀ x ∈ p1, x.block < W.heap.size := by obtain ⟨m, hm⟩ := k1; exact DataW.trod_lt m _ _ _ hm
  obtain ⟨x1, len1, cap1, rfl⟩ := okWide_slice Try.underlying51 (hval 1 51 v1 rfl rfl)
  obtain ⟨a1, hC1, hB1⟩ := open_argA (j := 1) (opn_slice (sz := 1) (b := 16) Try.underlying51 (by kernel_rfl) (by decide) (by kernel_rfl) (opn_str Try.underlying9)) hsz rfl rfl h1
  have k2 := h2
  have lt2 : ∀ x ∈ p2, x.block < W.heap.size := by obtain ⟨m, hm⟩ := k2; exact DataW.trod_lt m _ _ _ hm
  obtain ⟨x2, rfl⟩ := okWide_int Try.underlying3 (hval 2 3 v2 rfl rfl)
  obtain ⟨a2, hC2, hB2⟩ := open_argA (j := 2) (opn_int Try.underlying3) hsz rfl rfl h2
  clear hA0 hval0 hsz0 hsz
  refine ((transferRemembers_ok a0 a1 a2 hB0 hB1 hB2).row (W := W) (vals := [_, _, _]) (by simp only [RepAs, RepA]; exact ⟨RepV.ofC hC0 rfl, RepV.ofC hC1 rfl, RepV.ofC hC2 rfl, trivial⟩)).mono fun e W' he_ => ?_
  obtain ⟨he, bel⟩ := he_
  subst he
  exact ⟨_, rfl, _, _, _, [], _, [], hW', trodAll_mk1 (shut_bool Try.underlying4 _), (trodAll_cons_mk (Below.trod laidOut (by kernel_rfl) (of_decide_eq_true (by kernel_rfl)) k0 bel lt0) (trodAll_cons_mk (Below.trod laidOut (by kernel_rfl) (of_decide_eq_true (by kernel_rfl)) k1 bel lt1) (trodAll_cons_mk (Below.trod laidOut (by kernel_rfl) (of_decide_eq_true (by kernel_rfl)) k2 bel lt2) trodAll_mk0))), rfl, bel.frame _, fun h => by cases h⟩
theorem over : Rows.transferRemembersRow.holds Try.pinned (OpenSpec.ofChange Rows.transferRemembersSpec) :=
  OpenClaim.holds_of_wide 7 Try.f7 rfl rfl rfl rfl rfl rfl rfl ⟨rfl, rfl, rfl, rfl, rfl⟩ rfl rfl rfl rfl rfl (by kernel_rfl) Try.func7 (by kernel_rfl)
    (of_decide_eq_true (by kernel_rfl)) (by unfold Func.isWrapper; first | (rw [if_pos (by decide +kernel)]; kernel_rfl) | (rw [if_neg (by decide +kernel)]; exact ⟨rfl, rfl⟩))
    (fun os started H enc _ => lifted os started H enc)
theorem proved : Rows.TransferRemembersSaid := over
#print axioms proved
end Go.Proofs.Ytlhpjeckaepdlaa.transferRemembers
namespace Go.Proofs.Ytlhpjeckaepdlaa
/-- The row, under a short name, for the claim. -/
theorem transferRemembers_holds : Rows.TransferRemembersSaid := transferRemembers.proved
end Go.Proofs.Ytlhpjeckaepdlaa
