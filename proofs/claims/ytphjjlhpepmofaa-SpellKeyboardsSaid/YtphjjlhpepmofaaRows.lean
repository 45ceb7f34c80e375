/-
  No cell of these rows narrows 'for every input' (looked for: loops, veiled, ifaces, maps, wideKeys, modest, calm, conditions, laid).
  DERIVED. THE GIVEN ROWS OF THIS SEAT. 8 by the template 'for every input the law returns true; each argument reads behind the call as it read before'; 0 by the template 'total and deterministic' (their statements: YtphjjlhpepmofaaTotals.lean).
  GIVEN WITH THE SEED: the statements are not yours to turn. If you find one false, say at which input.
  Laid BY PROGRAM, IN A SANDBOX (cutbox-rows.mjs): the forced cells as the released guide's own fill.sh prints them over the translation 8193e89fbbc2674f… (all of the seat's roots in one cut). By AI agents, Wed Nov 11 2026. No macro, syntax, notation, axiom, sorry.
-/
import Derived.Test.YtphjjlhpepmofaaChecked
import GoSem.Claim
import GoSem.ClaimJoined
import GoSem.ClaimMapViews
import Derived.JoinedTies
import Derived.KernelRfl
namespace Go.Proofs.Ytphjjlhpepmofaa
/- THE CELL 'sum', in the pinned program and in every row, IS THE sha256 OF THE DUMP (.gsa) THAT YtphjjlhpepmofaaProg.lean LOADS. Nothing in Lean hashes anything: it is a label: what it is worth is what the hold of that sum in a sandbox is worth. -/
noncomputable def Try.pinned : Pinned := { name := "ytphjjlhpepmofaa", sum := "8193e89fbbc2674faf3a98b1af428e9c40b563f2080d07f6bbdc88152c367673", checked := Try.checked }
namespace Rows
def none {H : Type} : Left H := { results := [], args := [] }

/-- 'ablautlaw23.SpellTurns': WHATEVER THE INPUT: true; the input reads as it did. -/
def spellTurnsSpec : ChangeSpec := { name := "spellTurns", fn := fun _ => fun
  | [d1, d2, d3] => { results := [.lit (.bool true)], args := [d1, d2, d3] }
  | _ => none }
def spellTurnsRow : OpenClaim := { program := "ytphjjlhpepmofaa", sum := "8193e89fbbc2674faf3a98b1af428e9c40b563f2080d07f6bbdc88152c367673", func := "ablaut/ablautlaw23.SpellTurns", spec := "spellTurns", unfollowed := true, recurses := true, plainKeys := false, apart := false }
def SpellTurnsSaid : Prop := spellTurnsRow.holds Try.pinned (OpenSpec.ofChange spellTurnsSpec)

/-- ITS FALSE NEIGHBOUR: 'it returns false'. Refute it at one input. -/
def spellTurnsWrong : ChangeSpec := { name := "spellTurns", fn := fun _ => fun
  | [d1, d2, d3] => { results := [.lit (.bool false)], args := [d1, d2, d3] }
  | _ => none }
def SpellTurnsWrongFalsely : Prop := spellTurnsRow.holds Try.pinned (OpenSpec.ofChange spellTurnsWrong)

/-- 'ablautlaw23.SpellPrices': WHATEVER THE INPUT: true; the input reads as it did. -/
def spellPricesSpec : ChangeSpec := { name := "spellPrices", fn := fun _ => fun
  | [d1, d2, d3] => { results := [.lit (.bool true)], args := [d1, d2, d3] }
  | _ => none }
def spellPricesRow : OpenClaim := { program := "ytphjjlhpepmofaa", sum := "8193e89fbbc2674faf3a98b1af428e9c40b563f2080d07f6bbdc88152c367673", func := "ablaut/ablautlaw23.SpellPrices", spec := "spellPrices", unfollowed := true, recurses := true, plainKeys := false, apart := false }
def SpellPricesSaid : Prop := spellPricesRow.holds Try.pinned (OpenSpec.ofChange spellPricesSpec)

/-- ITS FALSE NEIGHBOUR: 'it returns false'. Refute it at one input. -/
def spellPricesWrong : ChangeSpec := { name := "spellPrices", fn := fun _ => fun
  | [d1, d2, d3] => { results := [.lit (.bool false)], args := [d1, d2, d3] }
  | _ => none }
def SpellPricesWrongFalsely : Prop := spellPricesRow.holds Try.pinned (OpenSpec.ofChange spellPricesWrong)

/-- 'ablautlaw23.SpellEdits': WHATEVER THE INPUT: true; the input reads as it did. -/
def spellEditsSpec : ChangeSpec := { name := "spellEdits", fn := fun _ => fun
  | [d1, d2, d3] => { results := [.lit (.bool true)], args := [d1, d2, d3] }
  | _ => none }
def spellEditsRow : OpenClaim := { program := "ytphjjlhpepmofaa", sum := "8193e89fbbc2674faf3a98b1af428e9c40b563f2080d07f6bbdc88152c367673", func := "ablaut/ablautlaw23.SpellEdits", spec := "spellEdits", unfollowed := true, recurses := true, plainKeys := false, apart := false }
def SpellEditsSaid : Prop := spellEditsRow.holds Try.pinned (OpenSpec.ofChange spellEditsSpec)

/-- ITS FALSE NEIGHBOUR: 'it returns false'. Refute it at one input. -/
def spellEditsWrong : ChangeSpec := { name := "spellEdits", fn := fun _ => fun
  | [d1, d2, d3] => { results := [.lit (.bool false)], args := [d1, d2, d3] }
  | _ => none }
def SpellEditsWrongFalsely : Prop := spellEditsRow.holds Try.pinned (OpenSpec.ofChange spellEditsWrong)

/-- 'ablautlaw23.SpellPlays': WHATEVER THE INPUT: true; the input reads as it did. -/
def spellPlaysSpec : ChangeSpec := { name := "spellPlays", fn := fun _ => fun
  | [d1, d2] => { results := [.lit (.bool true)], args := [d1, d2] }
  | _ => none }
def spellPlaysRow : OpenClaim := { program := "ytphjjlhpepmofaa", sum := "8193e89fbbc2674faf3a98b1af428e9c40b563f2080d07f6bbdc88152c367673", func := "ablaut/ablautlaw23.SpellPlays", spec := "spellPlays", unfollowed := true, recurses := true, plainKeys := false, apart := false }
def SpellPlaysSaid : Prop := spellPlaysRow.holds Try.pinned (OpenSpec.ofChange spellPlaysSpec)

/-- ITS FALSE NEIGHBOUR: 'it returns false'. Refute it at one input. -/
def spellPlaysWrong : ChangeSpec := { name := "spellPlays", fn := fun _ => fun
  | [d1, d2] => { results := [.lit (.bool false)], args := [d1, d2] }
  | _ => none }
def SpellPlaysWrongFalsely : Prop := spellPlaysRow.holds Try.pinned (OpenSpec.ofChange spellPlaysWrong)

/-- 'ablautlaw23.SpellBack': WHATEVER THE INPUT: true; the input reads as it did. -/
def spellBackSpec : ChangeSpec := { name := "spellBack", fn := fun _ => fun
  | [d1, d2, d3] => { results := [.lit (.bool true)], args := [d1, d2, d3] }
  | _ => none }
def spellBackRow : OpenClaim := { program := "ytphjjlhpepmofaa", sum := "8193e89fbbc2674faf3a98b1af428e9c40b563f2080d07f6bbdc88152c367673", func := "ablaut/ablautlaw23.SpellBack", spec := "spellBack", unfollowed := true, recurses := true, plainKeys := false, apart := false }
def SpellBackSaid : Prop := spellBackRow.holds Try.pinned (OpenSpec.ofChange spellBackSpec)

/-- ITS FALSE NEIGHBOUR: 'it returns false'. Refute it at one input. -/
def spellBackWrong : ChangeSpec := { name := "spellBack", fn := fun _ => fun
  | [d1, d2, d3] => { results := [.lit (.bool false)], args := [d1, d2, d3] }
  | _ => none }
def SpellBackWrongFalsely : Prop := spellBackRow.holds Try.pinned (OpenSpec.ofChange spellBackWrong)

/-- 'ablautlaw23.SpellReals': WHATEVER THE INPUT: true; the input reads as it did. -/
def spellRealsSpec : ChangeSpec := { name := "spellReals", fn := fun _ => fun
  | [d] => { results := [.lit (.bool true)], args := [d] }
  | _ => none }
def spellRealsRow : OpenClaim := { program := "ytphjjlhpepmofaa", sum := "8193e89fbbc2674faf3a98b1af428e9c40b563f2080d07f6bbdc88152c367673", func := "ablaut/ablautlaw23.SpellReals", spec := "spellReals", unfollowed := true, recurses := true, plainKeys := false, apart := false }
def SpellRealsSaid : Prop := spellRealsRow.holds Try.pinned (OpenSpec.ofChange spellRealsSpec)

/-- ITS FALSE NEIGHBOUR: 'it returns false'. Refute it at one input. -/
def spellRealsWrong : ChangeSpec := { name := "spellReals", fn := fun _ => fun
  | [d] => { results := [.lit (.bool false)], args := [d] }
  | _ => none }
def SpellRealsWrongFalsely : Prop := spellRealsRow.holds Try.pinned (OpenSpec.ofChange spellRealsWrong)

/-- 'ablautlaw23.SpellKeyboards': WHATEVER THE INPUT: true; the input reads as it did. -/
def spellKeyboardsSpec : ChangeSpec := { name := "spellKeyboards", fn := fun _ => fun
  | [d1, d2] => { results := [.lit (.bool true)], args := [d1, d2] }
  | _ => none }
def spellKeyboardsRow : OpenClaim := { program := "ytphjjlhpepmofaa", sum := "8193e89fbbc2674faf3a98b1af428e9c40b563f2080d07f6bbdc88152c367673", func := "ablaut/ablautlaw23.SpellKeyboards", spec := "spellKeyboards", unfollowed := true, recurses := true, plainKeys := false, apart := false }
def SpellKeyboardsSaid : Prop := spellKeyboardsRow.holds Try.pinned (OpenSpec.ofChange spellKeyboardsSpec)

/-- ITS FALSE NEIGHBOUR: 'it returns false'. Refute it at one input. -/
def spellKeyboardsWrong : ChangeSpec := { name := "spellKeyboards", fn := fun _ => fun
  | [d1, d2] => { results := [.lit (.bool false)], args := [d1, d2] }
  | _ => none }
def SpellKeyboardsWrongFalsely : Prop := spellKeyboardsRow.holds Try.pinned (OpenSpec.ofChange spellKeyboardsWrong)

/-- 'ablautlaw23.SpellLearns': WHATEVER THE INPUT: true; the input reads as it did. -/
def spellLearnsSpec : ChangeSpec := { name := "spellLearns", fn := fun _ => fun
  | [d] => { results := [.lit (.bool true)], args := [d] }
  | _ => none }
def spellLearnsRow : OpenClaim := { program := "ytphjjlhpepmofaa", sum := "8193e89fbbc2674faf3a98b1af428e9c40b563f2080d07f6bbdc88152c367673", func := "ablaut/ablautlaw23.SpellLearns", spec := "spellLearns", unfollowed := true, recurses := true, plainKeys := false, apart := false }
def SpellLearnsSaid : Prop := spellLearnsRow.holds Try.pinned (OpenSpec.ofChange spellLearnsSpec)

/-- ITS FALSE NEIGHBOUR: 'it returns false'. Refute it at one input. -/
def spellLearnsWrong : ChangeSpec := { name := "spellLearns", fn := fun _ => fun
  | [d] => { results := [.lit (.bool false)], args := [d] }
  | _ => none }
def SpellLearnsWrongFalsely : Prop := spellLearnsRow.holds Try.pinned (OpenSpec.ofChange spellLearnsWrong)

/- THE SECOND FORM. 'bulk': how many values and letters a reading holds, each counted each time it is reached (what is shared counts as often as it is met; a slice's spare places count too). A statement '..UptoSaid' is the law's where the arguments, and the package variables that the reading takes, are together of bulk at most 1048576: NARROWER than '..Said'. Prove '..Said' where nothing that the law and all that it calls make is longer than what came in: it says more and counts as full. Else prove '..UptoSaid'. A law counts once. -/
mutual
def uptoBulk {H : Type} : DataW H → Nat
  | .lit (.string bytes) => bytes.length + 1
  | .lit _ => 1
  | .nil => 1
  | .ptr d => uptoBulk d + 1
  | .slice elems spare => uptoBulkAll elems + uptoBulkAll spare + 1
  | .agg parts => uptoBulkAll parts + 1
  | .iface _ d => uptoBulk d + 1
  | .map entries => uptoBulkEntries entries + 1
  | .held _ => 1
def uptoBulkAll {H : Type} : List (DataW H) → Nat
  | [] => 0
  | d :: r => uptoBulk d + uptoBulkAll r
def uptoBulkEntries {H : Type} : List (Lit × DataW H) → Nat
  | [] => 0
  | x :: r => uptoBulkEntry x + uptoBulkEntries r
def uptoBulkEntry {H : Type} : Lit × DataW H → Nat
  | (.string bytes, d) => bytes.length + uptoBulk d + 1
  | (_, d) => uptoBulk d + 1
 end
def uptoSmall : (H : Type) → List (DataW H) → Bool := fun _ ds => decide (uptoBulkAll ds ≤ 1048576)
def OpenSpec.upto (s : _root_.Go.ChangeSpec) : _root_.Go.OpenSpec := { _root_.Go.OpenSpec.ofChange s with cond := some uptoSmall }

/-- 'ablautlaw23.SpellTurns', WHERE WHAT IT READS IS OF BULK AT MOST 1048576: true; the input reads as it did. -/
def spellTurnsUptoRow : OpenClaim := { program := "ytphjjlhpepmofaa", sum := "8193e89fbbc2674faf3a98b1af428e9c40b563f2080d07f6bbdc88152c367673", func := "ablaut/ablautlaw23.SpellTurns", spec := "spellTurns", unfollowed := true, recurses := true, plainKeys := false, apart := false, narrowed := true }
def SpellTurnsUptoSaid : Prop := spellTurnsUptoRow.holds Try.pinned (OpenSpec.upto spellTurnsSpec)

/-- 'ablautlaw23.SpellPrices', WHERE WHAT IT READS IS OF BULK AT MOST 1048576: true; the input reads as it did. -/
def spellPricesUptoRow : OpenClaim := { program := "ytphjjlhpepmofaa", sum := "8193e89fbbc2674faf3a98b1af428e9c40b563f2080d07f6bbdc88152c367673", func := "ablaut/ablautlaw23.SpellPrices", spec := "spellPrices", unfollowed := true, recurses := true, plainKeys := false, apart := false, narrowed := true }
def SpellPricesUptoSaid : Prop := spellPricesUptoRow.holds Try.pinned (OpenSpec.upto spellPricesSpec)

/-- 'ablautlaw23.SpellEdits', WHERE WHAT IT READS IS OF BULK AT MOST 1048576: true; the input reads as it did. -/
def spellEditsUptoRow : OpenClaim := { program := "ytphjjlhpepmofaa", sum := "8193e89fbbc2674faf3a98b1af428e9c40b563f2080d07f6bbdc88152c367673", func := "ablaut/ablautlaw23.SpellEdits", spec := "spellEdits", unfollowed := true, recurses := true, plainKeys := false, apart := false, narrowed := true }
def SpellEditsUptoSaid : Prop := spellEditsUptoRow.holds Try.pinned (OpenSpec.upto spellEditsSpec)

/-- 'ablautlaw23.SpellPlays', WHERE WHAT IT READS IS OF BULK AT MOST 1048576: true; the input reads as it did. -/
def spellPlaysUptoRow : OpenClaim := { program := "ytphjjlhpepmofaa", sum := "8193e89fbbc2674faf3a98b1af428e9c40b563f2080d07f6bbdc88152c367673", func := "ablaut/ablautlaw23.SpellPlays", spec := "spellPlays", unfollowed := true, recurses := true, plainKeys := false, apart := false, narrowed := true }
def SpellPlaysUptoSaid : Prop := spellPlaysUptoRow.holds Try.pinned (OpenSpec.upto spellPlaysSpec)

/-- 'ablautlaw23.SpellBack', WHERE WHAT IT READS IS OF BULK AT MOST 1048576: true; the input reads as it did. -/
def spellBackUptoRow : OpenClaim := { program := "ytphjjlhpepmofaa", sum := "8193e89fbbc2674faf3a98b1af428e9c40b563f2080d07f6bbdc88152c367673", func := "ablaut/ablautlaw23.SpellBack", spec := "spellBack", unfollowed := true, recurses := true, plainKeys := false, apart := false, narrowed := true }
def SpellBackUptoSaid : Prop := spellBackUptoRow.holds Try.pinned (OpenSpec.upto spellBackSpec)

/-- 'ablautlaw23.SpellReals', WHERE WHAT IT READS IS OF BULK AT MOST 1048576: true; the input reads as it did. -/
def spellRealsUptoRow : OpenClaim := { program := "ytphjjlhpepmofaa", sum := "8193e89fbbc2674faf3a98b1af428e9c40b563f2080d07f6bbdc88152c367673", func := "ablaut/ablautlaw23.SpellReals", spec := "spellReals", unfollowed := true, recurses := true, plainKeys := false, apart := false, narrowed := true }
def SpellRealsUptoSaid : Prop := spellRealsUptoRow.holds Try.pinned (OpenSpec.upto spellRealsSpec)

/-- 'ablautlaw23.SpellKeyboards', WHERE WHAT IT READS IS OF BULK AT MOST 1048576: true; the input reads as it did. -/
def spellKeyboardsUptoRow : OpenClaim := { program := "ytphjjlhpepmofaa", sum := "8193e89fbbc2674faf3a98b1af428e9c40b563f2080d07f6bbdc88152c367673", func := "ablaut/ablautlaw23.SpellKeyboards", spec := "spellKeyboards", unfollowed := true, recurses := true, plainKeys := false, apart := false, narrowed := true }
def SpellKeyboardsUptoSaid : Prop := spellKeyboardsUptoRow.holds Try.pinned (OpenSpec.upto spellKeyboardsSpec)

/-- 'ablautlaw23.SpellLearns', WHERE WHAT IT READS IS OF BULK AT MOST 1048576: true; the input reads as it did. -/
def spellLearnsUptoRow : OpenClaim := { program := "ytphjjlhpepmofaa", sum := "8193e89fbbc2674faf3a98b1af428e9c40b563f2080d07f6bbdc88152c367673", func := "ablaut/ablautlaw23.SpellLearns", spec := "spellLearns", unfollowed := true, recurses := true, plainKeys := false, apart := false, narrowed := true }
def SpellLearnsUptoSaid : Prop := spellLearnsUptoRow.holds Try.pinned (OpenSpec.upto spellLearnsSpec)

end Rows
end Go.Proofs.Ytphjjlhpepmofaa
