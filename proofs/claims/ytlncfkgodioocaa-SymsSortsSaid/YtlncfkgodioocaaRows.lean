/-
  No cell of these rows narrows 'for every input' (looked for: loops, veiled, ifaces, maps, wideKeys, modest, calm, conditions, laid).
  DERIVED. THE GIVEN ROWS OF THIS SEAT. 10 by the template 'for every input the law returns true; each argument reads behind the call as it read before'; 0 by the template 'total and deterministic' (their statements: YtlncfkgodioocaaTotals.lean).
  GIVEN WITH THE SEED: the statements are not yours to turn. If you find one false, say at which input.
  Laid BY PROGRAM, IN A SANDBOX (cutbox-rows.mjs): the forced cells as the released guide's own fill.sh prints them over the translation 371c0298930ffd9b… (all of the seat's roots in one cut). By AI agents, Wed Nov 11 2026. No macro, syntax, notation, axiom, sorry.
-/
import Derived.Test.YtlncfkgodioocaaChecked
import GoSem.Claim
import GoSem.ClaimJoined
import GoSem.ClaimMapViews
import Derived.JoinedTies
import Derived.KernelRfl
namespace Go.Proofs.Ytlncfkgodioocaa
/- THE CELL 'sum', in the pinned program and in every row, IS THE sha256 OF THE DUMP (.gsa) THAT YtlncfkgodioocaaProg.lean LOADS. Nothing in Lean hashes anything: it is a label: what it is worth is what the hold of that sum in a sandbox is worth. -/
noncomputable def Try.pinned : Pinned := { name := "ytlncfkgodioocaa", sum := "371c0298930ffd9b2059145944c605febe1b2c1edef161b785f10daa0c091a52", checked := Try.checked }
namespace Rows
def none {H : Type} : Left H := { results := [], args := [] }

/-- 'ablautlaw01.SymsValidates': WHATEVER THE INPUT: true; the input reads as it did. -/
def symsValidatesSpec : ChangeSpec := { name := "symsValidates", fn := fun _ => fun
  | [d] => { results := [.lit (.bool true)], args := [d] }
  | _ => none }
def symsValidatesRow : OpenClaim := { program := "ytlncfkgodioocaa", sum := "371c0298930ffd9b2059145944c605febe1b2c1edef161b785f10daa0c091a52", func := "ablaut/ablautlaw01.SymsValidates", spec := "symsValidates", inPlace := ["internal/abi.NoEscape"], unfollowed := true, recurses := true, apart := false }
def SymsValidatesSaid : Prop := symsValidatesRow.holds Try.pinned (OpenSpec.ofChange symsValidatesSpec)

/-- ITS FALSE NEIGHBOUR: 'it returns false'. Refute it at one input. -/
def symsValidatesWrong : ChangeSpec := { name := "symsValidates", fn := fun _ => fun
  | [d] => { results := [.lit (.bool false)], args := [d] }
  | _ => none }
def SymsValidatesWrongFalsely : Prop := symsValidatesRow.holds Try.pinned (OpenSpec.ofChange symsValidatesWrong)

/-- 'ablautlaw01.SymsReads': WHATEVER THE INPUT: true; the input reads as it did. -/
def symsReadsSpec : ChangeSpec := { name := "symsReads", fn := fun _ => fun
  | [d] => { results := [.lit (.bool true)], args := [d] }
  | _ => none }
def symsReadsRow : OpenClaim := { program := "ytlncfkgodioocaa", sum := "371c0298930ffd9b2059145944c605febe1b2c1edef161b785f10daa0c091a52", func := "ablaut/ablautlaw01.SymsReads", spec := "symsReads", inPlace := ["internal/abi.NoEscape", "internal/bytealg.IndexByteString"], unfollowed := true, recurses := true, apart := false }
def SymsReadsSaid : Prop := symsReadsRow.holds Try.pinned (OpenSpec.ofChange symsReadsSpec)

/-- ITS FALSE NEIGHBOUR: 'it returns false'. Refute it at one input. -/
def symsReadsWrong : ChangeSpec := { name := "symsReads", fn := fun _ => fun
  | [d] => { results := [.lit (.bool false)], args := [d] }
  | _ => none }
def SymsReadsWrongFalsely : Prop := symsReadsRow.holds Try.pinned (OpenSpec.ofChange symsReadsWrong)

/-- 'ablautlaw01.SymsOrders': WHATEVER THE INPUT: true; the input reads as it did. -/
def symsOrdersSpec : ChangeSpec := { name := "symsOrders", fn := fun _ => fun
  | [d1, d2, d3] => { results := [.lit (.bool true)], args := [d1, d2, d3] }
  | _ => none }
def symsOrdersRow : OpenClaim := { program := "ytlncfkgodioocaa", sum := "371c0298930ffd9b2059145944c605febe1b2c1edef161b785f10daa0c091a52", func := "ablaut/ablautlaw01.SymsOrders", spec := "symsOrders", inPlace := ["internal/abi.NoEscape"], unfollowed := true, recurses := true, apart := false }
def SymsOrdersSaid : Prop := symsOrdersRow.holds Try.pinned (OpenSpec.ofChange symsOrdersSpec)

/-- ITS FALSE NEIGHBOUR: 'it returns false'. Refute it at one input. -/
def symsOrdersWrong : ChangeSpec := { name := "symsOrders", fn := fun _ => fun
  | [d1, d2, d3] => { results := [.lit (.bool false)], args := [d1, d2, d3] }
  | _ => none }
def SymsOrdersWrongFalsely : Prop := symsOrdersRow.holds Try.pinned (OpenSpec.ofChange symsOrdersWrong)

/-- 'ablautlaw01.SymsTexts': WHATEVER THE INPUT: true; the input reads as it did. -/
def symsTextsSpec : ChangeSpec := { name := "symsTexts", fn := fun _ => fun
  | [d] => { results := [.lit (.bool true)], args := [d] }
  | _ => none }
def symsTextsRow : OpenClaim := { program := "ytlncfkgodioocaa", sum := "371c0298930ffd9b2059145944c605febe1b2c1edef161b785f10daa0c091a52", func := "ablaut/ablautlaw01.SymsTexts", spec := "symsTexts", inPlace := ["internal/abi.NoEscape", "internal/bytealg.MakeNoZero"], unfollowed := true, recurses := true, apart := false }
def SymsTextsSaid : Prop := symsTextsRow.holds Try.pinned (OpenSpec.ofChange symsTextsSpec)

/-- ITS FALSE NEIGHBOUR: 'it returns false'. Refute it at one input. -/
def symsTextsWrong : ChangeSpec := { name := "symsTexts", fn := fun _ => fun
  | [d] => { results := [.lit (.bool false)], args := [d] }
  | _ => none }
def SymsTextsWrongFalsely : Prop := symsTextsRow.holds Try.pinned (OpenSpec.ofChange symsTextsWrong)

/-- 'ablautlaw01.SymsSplits': WHATEVER THE INPUT: true; the input reads as it did. -/
def symsSplitsSpec : ChangeSpec := { name := "symsSplits", fn := fun _ => fun
  | [d1, d2] => { results := [.lit (.bool true)], args := [d1, d2] }
  | _ => none }
def symsSplitsRow : OpenClaim := { program := "ytlncfkgodioocaa", sum := "371c0298930ffd9b2059145944c605febe1b2c1edef161b785f10daa0c091a52", func := "ablaut/ablautlaw01.SymsSplits", spec := "symsSplits", inPlace := ["internal/abi.NoEscape"], unfollowed := true, recurses := true, apart := false }
def SymsSplitsSaid : Prop := symsSplitsRow.holds Try.pinned (OpenSpec.ofChange symsSplitsSpec)

/-- ITS FALSE NEIGHBOUR: 'it returns false'. Refute it at one input. -/
def symsSplitsWrong : ChangeSpec := { name := "symsSplits", fn := fun _ => fun
  | [d1, d2] => { results := [.lit (.bool false)], args := [d1, d2] }
  | _ => none }
def SymsSplitsWrongFalsely : Prop := symsSplitsRow.holds Try.pinned (OpenSpec.ofChange symsSplitsWrong)

/-- 'ablautlaw01.SymsBack': WHATEVER THE INPUT: true; the input reads as it did. -/
def symsBackSpec : ChangeSpec := { name := "symsBack", fn := fun _ => fun
  | [d1, d2] => { results := [.lit (.bool true)], args := [d1, d2] }
  | _ => none }
def symsBackRow : OpenClaim := { program := "ytlncfkgodioocaa", sum := "371c0298930ffd9b2059145944c605febe1b2c1edef161b785f10daa0c091a52", func := "ablaut/ablautlaw01.SymsBack", spec := "symsBack", inPlace := ["internal/abi.NoEscape", "internal/bytealg.IndexByteString"], unfollowed := true, recurses := true, apart := false }
def SymsBackSaid : Prop := symsBackRow.holds Try.pinned (OpenSpec.ofChange symsBackSpec)

/-- ITS FALSE NEIGHBOUR: 'it returns false'. Refute it at one input. -/
def symsBackWrong : ChangeSpec := { name := "symsBack", fn := fun _ => fun
  | [d1, d2] => { results := [.lit (.bool false)], args := [d1, d2] }
  | _ => none }
def SymsBackWrongFalsely : Prop := symsBackRow.holds Try.pinned (OpenSpec.ofChange symsBackWrong)

/-- 'ablautlaw01.SymsCuts': WHATEVER THE INPUT: true; the input reads as it did. -/
def symsCutsSpec : ChangeSpec := { name := "symsCuts", fn := fun _ => fun
  | [d1, d2] => { results := [.lit (.bool true)], args := [d1, d2] }
  | _ => none }
def symsCutsRow : OpenClaim := { program := "ytlncfkgodioocaa", sum := "371c0298930ffd9b2059145944c605febe1b2c1edef161b785f10daa0c091a52", func := "ablaut/ablautlaw01.SymsCuts", spec := "symsCuts", inPlace := ["internal/abi.NoEscape", "internal/bytealg.MakeNoZero"], unfollowed := true, recurses := true, apart := false }
def SymsCutsSaid : Prop := symsCutsRow.holds Try.pinned (OpenSpec.ofChange symsCutsSpec)

/-- ITS FALSE NEIGHBOUR: 'it returns false'. Refute it at one input. -/
def symsCutsWrong : ChangeSpec := { name := "symsCuts", fn := fun _ => fun
  | [d1, d2] => { results := [.lit (.bool false)], args := [d1, d2] }
  | _ => none }
def SymsCutsWrongFalsely : Prop := symsCutsRow.holds Try.pinned (OpenSpec.ofChange symsCutsWrong)

/-- 'ablautlaw01.SymsSorts': WHATEVER THE INPUT: true; the input reads as it did. -/
def symsSortsSpec : ChangeSpec := { name := "symsSorts", fn := fun _ => fun
  | [d] => { results := [.lit (.bool true)], args := [d] }
  | _ => none }
def symsSortsRow : OpenClaim := { program := "ytlncfkgodioocaa", sum := "371c0298930ffd9b2059145944c605febe1b2c1edef161b785f10daa0c091a52", func := "ablaut/ablautlaw01.SymsSorts", spec := "symsSorts", inPlace := ["internal/abi.NoEscape"], unfollowed := true, recurses := true, apart := false }
def SymsSortsSaid : Prop := symsSortsRow.holds Try.pinned (OpenSpec.ofChange symsSortsSpec)

/-- ITS FALSE NEIGHBOUR: 'it returns false'. Refute it at one input. -/
def symsSortsWrong : ChangeSpec := { name := "symsSorts", fn := fun _ => fun
  | [d] => { results := [.lit (.bool false)], args := [d] }
  | _ => none }
def SymsSortsWrongFalsely : Prop := symsSortsRow.holds Try.pinned (OpenSpec.ofChange symsSortsWrong)

/-- 'ablautlaw01.SymsSets': WHATEVER THE INPUT: true; the input reads as it did. -/
def symsSetsSpec : ChangeSpec := { name := "symsSets", fn := fun _ => fun
  | [d1, d2, d3] => { results := [.lit (.bool true)], args := [d1, d2, d3] }
  | _ => none }
def symsSetsRow : OpenClaim := { program := "ytlncfkgodioocaa", sum := "371c0298930ffd9b2059145944c605febe1b2c1edef161b785f10daa0c091a52", func := "ablaut/ablautlaw01.SymsSets", spec := "symsSets", inPlace := ["internal/abi.NoEscape"], unfollowed := true, recurses := true, apart := false }
def SymsSetsSaid : Prop := symsSetsRow.holds Try.pinned (OpenSpec.ofChange symsSetsSpec)

/-- ITS FALSE NEIGHBOUR: 'it returns false'. Refute it at one input. -/
def symsSetsWrong : ChangeSpec := { name := "symsSets", fn := fun _ => fun
  | [d1, d2, d3] => { results := [.lit (.bool false)], args := [d1, d2, d3] }
  | _ => none }
def SymsSetsWrongFalsely : Prop := symsSetsRow.holds Try.pinned (OpenSpec.ofChange symsSetsWrong)

/-- 'ablautlaw01.SymsParts': WHATEVER THE INPUT: true; the input reads as it did. -/
def symsPartsSpec : ChangeSpec := { name := "symsParts", fn := fun _ => fun
  | [d1, d2] => { results := [.lit (.bool true)], args := [d1, d2] }
  | _ => none }
def symsPartsRow : OpenClaim := { program := "ytlncfkgodioocaa", sum := "371c0298930ffd9b2059145944c605febe1b2c1edef161b785f10daa0c091a52", func := "ablaut/ablautlaw01.SymsParts", spec := "symsParts", inPlace := ["internal/abi.NoEscape"], unfollowed := true, recurses := true, apart := false }
def SymsPartsSaid : Prop := symsPartsRow.holds Try.pinned (OpenSpec.ofChange symsPartsSpec)

/-- ITS FALSE NEIGHBOUR: 'it returns false'. Refute it at one input. -/
def symsPartsWrong : ChangeSpec := { name := "symsParts", fn := fun _ => fun
  | [d1, d2] => { results := [.lit (.bool false)], args := [d1, d2] }
  | _ => none }
def SymsPartsWrongFalsely : Prop := symsPartsRow.holds Try.pinned (OpenSpec.ofChange symsPartsWrong)

/- THE SECOND FORM. 'bulk': how many values and letters a reading holds, each counted each time it is reached (what is shared counts as often as it is met; a slice's spare places count too). A statement '..UptoSaid' is the law's where the arguments, and the package variables that the reading takes, are together of bulk at most 1048576: NARROWER than '..Said'. Prove '..Said' where nothing that the law and all that it calls make is longer than what came in: it says more and counts as full. Else prove '..UptoSaid'. A law counts once. -/
mutual
def uptoBulk {H : Type} : DataW H → Nat
  | .lit (.string bytes) => bytes.length + 1
  | .lit _ => 1
  | .nil => 1
  | .ptr d => uptoBulk d + 1
  | .slice elems spare => uptoBulkAll elems + uptoBulkAll spare + 1
  | .agg parts => uptoBulkAll parts + 1
  | .iface _ d => uptoBulk d + 1
  | .map entries => uptoBulkEntries entries + 1
  | .held _ => 1
def uptoBulkAll {H : Type} : List (DataW H) → Nat
  | [] => 0
  | d :: r => uptoBulk d + uptoBulkAll r
def uptoBulkEntries {H : Type} : List (Lit × DataW H) → Nat
  | [] => 0
  | x :: r => uptoBulkEntry x + uptoBulkEntries r
def uptoBulkEntry {H : Type} : Lit × DataW H → Nat
  | (.string bytes, d) => bytes.length + uptoBulk d + 1
  | (_, d) => uptoBulk d + 1
 end
def uptoSmall : (H : Type) → List (DataW H) → Bool := fun _ ds => decide (uptoBulkAll ds ≤ 1048576)
def OpenSpec.upto (s : _root_.Go.ChangeSpec) : _root_.Go.OpenSpec := { _root_.Go.OpenSpec.ofChange s with cond := some uptoSmall }

/-- 'ablautlaw01.SymsValidates', WHERE WHAT IT READS IS OF BULK AT MOST 1048576: true; the input reads as it did. -/
def symsValidatesUptoRow : OpenClaim := { program := "ytlncfkgodioocaa", sum := "371c0298930ffd9b2059145944c605febe1b2c1edef161b785f10daa0c091a52", func := "ablaut/ablautlaw01.SymsValidates", spec := "symsValidates", inPlace := ["internal/abi.NoEscape"], unfollowed := true, recurses := true, apart := false, narrowed := true }
def SymsValidatesUptoSaid : Prop := symsValidatesUptoRow.holds Try.pinned (OpenSpec.upto symsValidatesSpec)

/-- 'ablautlaw01.SymsReads', WHERE WHAT IT READS IS OF BULK AT MOST 1048576: true; the input reads as it did. -/
def symsReadsUptoRow : OpenClaim := { program := "ytlncfkgodioocaa", sum := "371c0298930ffd9b2059145944c605febe1b2c1edef161b785f10daa0c091a52", func := "ablaut/ablautlaw01.SymsReads", spec := "symsReads", inPlace := ["internal/abi.NoEscape", "internal/bytealg.IndexByteString"], unfollowed := true, recurses := true, apart := false, narrowed := true }
def SymsReadsUptoSaid : Prop := symsReadsUptoRow.holds Try.pinned (OpenSpec.upto symsReadsSpec)

/-- 'ablautlaw01.SymsOrders', WHERE WHAT IT READS IS OF BULK AT MOST 1048576: true; the input reads as it did. -/
def symsOrdersUptoRow : OpenClaim := { program := "ytlncfkgodioocaa", sum := "371c0298930ffd9b2059145944c605febe1b2c1edef161b785f10daa0c091a52", func := "ablaut/ablautlaw01.SymsOrders", spec := "symsOrders", inPlace := ["internal/abi.NoEscape"], unfollowed := true, recurses := true, apart := false, narrowed := true }
def SymsOrdersUptoSaid : Prop := symsOrdersUptoRow.holds Try.pinned (OpenSpec.upto symsOrdersSpec)

/-- 'ablautlaw01.SymsTexts', WHERE WHAT IT READS IS OF BULK AT MOST 1048576: true; the input reads as it did. -/
def symsTextsUptoRow : OpenClaim := { program := "ytlncfkgodioocaa", sum := "371c0298930ffd9b2059145944c605febe1b2c1edef161b785f10daa0c091a52", func := "ablaut/ablautlaw01.SymsTexts", spec := "symsTexts", inPlace := ["internal/abi.NoEscape", "internal/bytealg.MakeNoZero"], unfollowed := true, recurses := true, apart := false, narrowed := true }
def SymsTextsUptoSaid : Prop := symsTextsUptoRow.holds Try.pinned (OpenSpec.upto symsTextsSpec)

/-- 'ablautlaw01.SymsSplits', WHERE WHAT IT READS IS OF BULK AT MOST 1048576: true; the input reads as it did. -/
def symsSplitsUptoRow : OpenClaim := { program := "ytlncfkgodioocaa", sum := "371c0298930ffd9b2059145944c605febe1b2c1edef161b785f10daa0c091a52", func := "ablaut/ablautlaw01.SymsSplits", spec := "symsSplits", inPlace := ["internal/abi.NoEscape"], unfollowed := true, recurses := true, apart := false, narrowed := true }
def SymsSplitsUptoSaid : Prop := symsSplitsUptoRow.holds Try.pinned (OpenSpec.upto symsSplitsSpec)

/-- 'ablautlaw01.SymsBack', WHERE WHAT IT READS IS OF BULK AT MOST 1048576: true; the input reads as it did. -/
def symsBackUptoRow : OpenClaim := { program := "ytlncfkgodioocaa", sum := "371c0298930ffd9b2059145944c605febe1b2c1edef161b785f10daa0c091a52", func := "ablaut/ablautlaw01.SymsBack", spec := "symsBack", inPlace := ["internal/abi.NoEscape", "internal/bytealg.IndexByteString"], unfollowed := true, recurses := true, apart := false, narrowed := true }
def SymsBackUptoSaid : Prop := symsBackUptoRow.holds Try.pinned (OpenSpec.upto symsBackSpec)

/-- 'ablautlaw01.SymsCuts', WHERE WHAT IT READS IS OF BULK AT MOST 1048576: true; the input reads as it did. -/
def symsCutsUptoRow : OpenClaim := { program := "ytlncfkgodioocaa", sum := "371c0298930ffd9b2059145944c605febe1b2c1edef161b785f10daa0c091a52", func := "ablaut/ablautlaw01.SymsCuts", spec := "symsCuts", inPlace := ["internal/abi.NoEscape", "internal/bytealg.MakeNoZero"], unfollowed := true, recurses := true, apart := false, narrowed := true }
def SymsCutsUptoSaid : Prop := symsCutsUptoRow.holds Try.pinned (OpenSpec.upto symsCutsSpec)

/-- 'ablautlaw01.SymsSorts', WHERE WHAT IT READS IS OF BULK AT MOST 1048576: true; the input reads as it did. -/
def symsSortsUptoRow : OpenClaim := { program := "ytlncfkgodioocaa", sum := "371c0298930ffd9b2059145944c605febe1b2c1edef161b785f10daa0c091a52", func := "ablaut/ablautlaw01.SymsSorts", spec := "symsSorts", inPlace := ["internal/abi.NoEscape"], unfollowed := true, recurses := true, apart := false, narrowed := true }
def SymsSortsUptoSaid : Prop := symsSortsUptoRow.holds Try.pinned (OpenSpec.upto symsSortsSpec)

/-- 'ablautlaw01.SymsSets', WHERE WHAT IT READS IS OF BULK AT MOST 1048576: true; the input reads as it did. -/
def symsSetsUptoRow : OpenClaim := { program := "ytlncfkgodioocaa", sum := "371c0298930ffd9b2059145944c605febe1b2c1edef161b785f10daa0c091a52", func := "ablaut/ablautlaw01.SymsSets", spec := "symsSets", inPlace := ["internal/abi.NoEscape"], unfollowed := true, recurses := true, apart := false, narrowed := true }
def SymsSetsUptoSaid : Prop := symsSetsUptoRow.holds Try.pinned (OpenSpec.upto symsSetsSpec)

/-- 'ablautlaw01.SymsParts', WHERE WHAT IT READS IS OF BULK AT MOST 1048576: true; the input reads as it did. -/
def symsPartsUptoRow : OpenClaim := { program := "ytlncfkgodioocaa", sum := "371c0298930ffd9b2059145944c605febe1b2c1edef161b785f10daa0c091a52", func := "ablaut/ablautlaw01.SymsParts", spec := "symsParts", inPlace := ["internal/abi.NoEscape"], unfollowed := true, recurses := true, apart := false, narrowed := true }
def SymsPartsUptoSaid : Prop := symsPartsUptoRow.holds Try.pinned (OpenSpec.upto symsPartsSpec)

end Rows
end Go.Proofs.Ytlncfkgodioocaa
