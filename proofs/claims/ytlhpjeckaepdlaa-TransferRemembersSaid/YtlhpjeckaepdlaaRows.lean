/-
  No cell of these rows narrows 'for every input' (looked for: loops, veiled, ifaces, maps, wideKeys, modest, calm, conditions, laid).
  DERIVED. THE GIVEN ROWS OF THIS SEAT. 5 by the template 'for every input the law returns true; each argument reads behind the call as it read before'; 0 by the template 'total and deterministic' (their statements: YtlhpjeckaepdlaaTotals.lean).
  GIVEN WITH THE SEED: the statements are not yours to turn. If you find one false, say at which input.
  Laid BY PROGRAM, IN A SANDBOX (cutbox-rows.mjs): the forced cells as the released guide's own fill.sh prints them over the translation 9ad194d2b75668d9… (all of the seat's roots in one cut). By AI agents, Wed Nov 11 2026. No macro, syntax, notation, axiom, sorry.
-/
import Derived.Test.YtlhpjeckaepdlaaChecked
import GoSem.Claim
import GoSem.ClaimJoined
import GoSem.ClaimMapViews
import Derived.JoinedTies
import Derived.KernelRfl
namespace Go.Proofs.Ytlhpjeckaepdlaa
/- THE CELL 'sum', in the pinned program and in every row, IS THE sha256 OF THE DUMP (.gsa) THAT YtlhpjeckaepdlaaProg.lean LOADS. Nothing in Lean hashes anything: it is a label: what it is worth is what the hold of that sum in a sandbox is worth. -/
noncomputable def Try.pinned : Pinned := { name := "ytlhpjeckaepdlaa", sum := "9ad194d2b75668d9de651dd7aecd764aa0ff8e383ad4af670a35410cbdd1ebbf", checked := Try.checked }
namespace Rows
def none {H : Type} : Left H := { results := [], args := [] }

/-- 'ablautlaw28.TransferValidates': WHATEVER THE INPUT: true; the input reads as it did. -/
def transferValidatesSpec : ChangeSpec := { name := "transferValidates", fn := fun _ => fun
  | [d1, d2] => { results := [.lit (.bool true)], args := [d1, d2] }
  | _ => none }
def transferValidatesRow : OpenClaim := { program := "ytlhpjeckaepdlaa", sum := "9ad194d2b75668d9de651dd7aecd764aa0ff8e383ad4af670a35410cbdd1ebbf", func := "ablaut/ablautlaw28.TransferValidates", spec := "transferValidates", unfollowed := true, recurses := true, apart := false }
def TransferValidatesSaid : Prop := transferValidatesRow.holds Try.pinned (OpenSpec.ofChange transferValidatesSpec)

/-- ITS FALSE NEIGHBOUR: 'it returns false'. Refute it at one input. -/
def transferValidatesWrong : ChangeSpec := { name := "transferValidates", fn := fun _ => fun
  | [d1, d2] => { results := [.lit (.bool false)], args := [d1, d2] }
  | _ => none }
def TransferValidatesWrongFalsely : Prop := transferValidatesRow.holds Try.pinned (OpenSpec.ofChange transferValidatesWrong)

/-- 'ablautlaw28.TransferTranslates': WHATEVER THE INPUT: true; the input reads as it did. -/
def transferTranslatesSpec : ChangeSpec := { name := "transferTranslates", fn := fun _ => fun
  | [d1, d2] => { results := [.lit (.bool true)], args := [d1, d2] }
  | _ => none }
def transferTranslatesRow : OpenClaim := { program := "ytlhpjeckaepdlaa", sum := "9ad194d2b75668d9de651dd7aecd764aa0ff8e383ad4af670a35410cbdd1ebbf", func := "ablaut/ablautlaw28.TransferTranslates", spec := "transferTranslates", unfollowed := true, recurses := true, apart := false }
def TransferTranslatesSaid : Prop := transferTranslatesRow.holds Try.pinned (OpenSpec.ofChange transferTranslatesSpec)

/-- ITS FALSE NEIGHBOUR: 'it returns false'. Refute it at one input. -/
def transferTranslatesWrong : ChangeSpec := { name := "transferTranslates", fn := fun _ => fun
  | [d1, d2] => { results := [.lit (.bool false)], args := [d1, d2] }
  | _ => none }
def TransferTranslatesWrongFalsely : Prop := transferTranslatesRow.holds Try.pinned (OpenSpec.ofChange transferTranslatesWrong)

/-- 'ablautlaw28.TransferAgrees': WHATEVER THE INPUT: true; the input reads as it did. -/
def transferAgreesSpec : ChangeSpec := { name := "transferAgrees", fn := fun _ => fun
  | [d1, d2, d3] => { results := [.lit (.bool true)], args := [d1, d2, d3] }
  | _ => none }
def transferAgreesRow : OpenClaim := { program := "ytlhpjeckaepdlaa", sum := "9ad194d2b75668d9de651dd7aecd764aa0ff8e383ad4af670a35410cbdd1ebbf", func := "ablaut/ablautlaw28.TransferAgrees", spec := "transferAgrees", unfollowed := true, recurses := true, apart := false }
def TransferAgreesSaid : Prop := transferAgreesRow.holds Try.pinned (OpenSpec.ofChange transferAgreesSpec)

/-- ITS FALSE NEIGHBOUR: 'it returns false'. Refute it at one input. -/
def transferAgreesWrong : ChangeSpec := { name := "transferAgrees", fn := fun _ => fun
  | [d1, d2, d3] => { results := [.lit (.bool false)], args := [d1, d2, d3] }
  | _ => none }
def TransferAgreesWrongFalsely : Prop := transferAgreesRow.holds Try.pinned (OpenSpec.ofChange transferAgreesWrong)

/-- 'ablautlaw28.TransferPlain': WHATEVER THE INPUT: true; the input reads as it did. -/
def transferPlainSpec : ChangeSpec := { name := "transferPlain", fn := fun _ => fun
  | [d1, d2] => { results := [.lit (.bool true)], args := [d1, d2] }
  | _ => none }
def transferPlainRow : OpenClaim := { program := "ytlhpjeckaepdlaa", sum := "9ad194d2b75668d9de651dd7aecd764aa0ff8e383ad4af670a35410cbdd1ebbf", func := "ablaut/ablautlaw28.TransferPlain", spec := "transferPlain", unfollowed := true, recurses := true, apart := false }
def TransferPlainSaid : Prop := transferPlainRow.holds Try.pinned (OpenSpec.ofChange transferPlainSpec)

/-- ITS FALSE NEIGHBOUR: 'it returns false'. Refute it at one input. -/
def transferPlainWrong : ChangeSpec := { name := "transferPlain", fn := fun _ => fun
  | [d1, d2] => { results := [.lit (.bool false)], args := [d1, d2] }
  | _ => none }
def TransferPlainWrongFalsely : Prop := transferPlainRow.holds Try.pinned (OpenSpec.ofChange transferPlainWrong)

/-- 'ablautlaw28.TransferRemembers': WHATEVER THE INPUT: true; the input reads as it did. -/
def transferRemembersSpec : ChangeSpec := { name := "transferRemembers", fn := fun _ => fun
  | [d1, d2, d3] => { results := [.lit (.bool true)], args := [d1, d2, d3] }
  | _ => none }
def transferRemembersRow : OpenClaim := { program := "ytlhpjeckaepdlaa", sum := "9ad194d2b75668d9de651dd7aecd764aa0ff8e383ad4af670a35410cbdd1ebbf", func := "ablaut/ablautlaw28.TransferRemembers", spec := "transferRemembers", unfollowed := true, recurses := true, apart := false }
def TransferRemembersSaid : Prop := transferRemembersRow.holds Try.pinned (OpenSpec.ofChange transferRemembersSpec)

/-- ITS FALSE NEIGHBOUR: 'it returns false'. Refute it at one input. -/
def transferRemembersWrong : ChangeSpec := { name := "transferRemembers", fn := fun _ => fun
  | [d1, d2, d3] => { results := [.lit (.bool false)], args := [d1, d2, d3] }
  | _ => none }
def TransferRemembersWrongFalsely : Prop := transferRemembersRow.holds Try.pinned (OpenSpec.ofChange transferRemembersWrong)

/- THE SECOND FORM. 'bulk': how many values and letters a reading holds, each counted each time it is reached (what is shared counts as often as it is met; a slice's spare places count too). A statement '..UptoSaid' is the law's where the arguments, and the package variables that the reading takes, are together of bulk at most 1048576: NARROWER than '..Said'. Prove '..Said' where nothing that the law and all that it calls make is longer than what came in: it says more and counts as full. Else prove '..UptoSaid'. A law counts once. -/
mutual
def uptoBulk {H : Type} : DataW H → Nat
  | .lit (.string bytes) => bytes.length + 1
  | .lit _ => 1
  | .nil => 1
  | .ptr d => uptoBulk d + 1
  | .slice elems spare => uptoBulkAll elems + uptoBulkAll spare + 1
  | .agg parts => uptoBulkAll parts + 1
  | .iface _ d => uptoBulk d + 1
  | .map entries => uptoBulkEntries entries + 1
  | .held _ => 1
def uptoBulkAll {H : Type} : List (DataW H) → Nat
  | [] => 0
  | d :: r => uptoBulk d + uptoBulkAll r
def uptoBulkEntries {H : Type} : List (Lit × DataW H) → Nat
  | [] => 0
  | x :: r => uptoBulkEntry x + uptoBulkEntries r
def uptoBulkEntry {H : Type} : Lit × DataW H → Nat
  | (.string bytes, d) => bytes.length + uptoBulk d + 1
  | (_, d) => uptoBulk d + 1
 end
def uptoSmall : (H : Type) → List (DataW H) → Bool := fun _ ds => decide (uptoBulkAll ds ≤ 1048576)
def OpenSpec.upto (s : _root_.Go.ChangeSpec) : _root_.Go.OpenSpec := { _root_.Go.OpenSpec.ofChange s with cond := some uptoSmall }

/-- 'ablautlaw28.TransferValidates', WHERE WHAT IT READS IS OF BULK AT MOST 1048576: true; the input reads as it did. -/
def transferValidatesUptoRow : OpenClaim := { program := "ytlhpjeckaepdlaa", sum := "9ad194d2b75668d9de651dd7aecd764aa0ff8e383ad4af670a35410cbdd1ebbf", func := "ablaut/ablautlaw28.TransferValidates", spec := "transferValidates", unfollowed := true, recurses := true, apart := false, narrowed := true }
def TransferValidatesUptoSaid : Prop := transferValidatesUptoRow.holds Try.pinned (OpenSpec.upto transferValidatesSpec)

/-- 'ablautlaw28.TransferTranslates', WHERE WHAT IT READS IS OF BULK AT MOST 1048576: true; the input reads as it did. -/
def transferTranslatesUptoRow : OpenClaim := { program := "ytlhpjeckaepdlaa", sum := "9ad194d2b75668d9de651dd7aecd764aa0ff8e383ad4af670a35410cbdd1ebbf", func := "ablaut/ablautlaw28.TransferTranslates", spec := "transferTranslates", unfollowed := true, recurses := true, apart := false, narrowed := true }
def TransferTranslatesUptoSaid : Prop := transferTranslatesUptoRow.holds Try.pinned (OpenSpec.upto transferTranslatesSpec)

/-- 'ablautlaw28.TransferAgrees', WHERE WHAT IT READS IS OF BULK AT MOST 1048576: true; the input reads as it did. -/
def transferAgreesUptoRow : OpenClaim := { program := "ytlhpjeckaepdlaa", sum := "9ad194d2b75668d9de651dd7aecd764aa0ff8e383ad4af670a35410cbdd1ebbf", func := "ablaut/ablautlaw28.TransferAgrees", spec := "transferAgrees", unfollowed := true, recurses := true, apart := false, narrowed := true }
def TransferAgreesUptoSaid : Prop := transferAgreesUptoRow.holds Try.pinned (OpenSpec.upto transferAgreesSpec)

/-- 'ablautlaw28.TransferPlain', WHERE WHAT IT READS IS OF BULK AT MOST 1048576: true; the input reads as it did. -/
def transferPlainUptoRow : OpenClaim := { program := "ytlhpjeckaepdlaa", sum := "9ad194d2b75668d9de651dd7aecd764aa0ff8e383ad4af670a35410cbdd1ebbf", func := "ablaut/ablautlaw28.TransferPlain", spec := "transferPlain", unfollowed := true, recurses := true, apart := false, narrowed := true }
def TransferPlainUptoSaid : Prop := transferPlainUptoRow.holds Try.pinned (OpenSpec.upto transferPlainSpec)

/-- 'ablautlaw28.TransferRemembers', WHERE WHAT IT READS IS OF BULK AT MOST 1048576: true; the input reads as it did. -/
def transferRemembersUptoRow : OpenClaim := { program := "ytlhpjeckaepdlaa", sum := "9ad194d2b75668d9de651dd7aecd764aa0ff8e383ad4af670a35410cbdd1ebbf", func := "ablaut/ablautlaw28.TransferRemembers", spec := "transferRemembers", unfollowed := true, recurses := true, apart := false, narrowed := true }
def TransferRemembersUptoSaid : Prop := transferRemembersUptoRow.holds Try.pinned (OpenSpec.upto transferRemembersSpec)

end Rows
end Go.Proofs.Ytlhpjeckaepdlaa
