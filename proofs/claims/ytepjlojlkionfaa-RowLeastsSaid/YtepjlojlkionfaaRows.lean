/-
  No cell of these rows narrows 'for every input' (looked for: loops, veiled, ifaces, maps, wideKeys, modest, calm, conditions, laid).
  DERIVED. THE GIVEN ROWS OF THIS SEAT. 9 by the template 'for every input the law returns true; each argument reads behind the call as it read before'; 0 by the template 'total and deterministic' (their statements: YtepjlojlkionfaaTotals.lean).
  GIVEN WITH THE SEED: the statements are not yours to turn. If you find one false, say at which input.
  Laid BY PROGRAM, IN A SANDBOX (cutbox-rows.mjs): the forced cells as the released guide's own fill.sh prints them over the translation d6adeb7bed947aaf… (all of the seat's roots in one cut). By AI agents, Wed Nov 11 2026. No macro, syntax, notation, axiom, sorry.
-/
import Derived.Test.YtepjlojlkionfaaChecked
import GoSem.Claim
import GoSem.ClaimJoined
import GoSem.ClaimMapViews
import Derived.JoinedTies
import Derived.KernelRfl
namespace Go.Proofs.Ytepjlojlkionfaa
/- THE CELL 'sum', in the pinned program and in every row, IS THE sha256 OF THE DUMP (.gsa) THAT YtepjlojlkionfaaProg.lean LOADS. Nothing in Lean hashes anything: it is a label: what it is worth is what the hold of that sum in a sandbox is worth. -/
noncomputable def Try.pinned : Pinned := { name := "ytepjlojlkionfaa", sum := "d6adeb7bed947aafba4101c65bf44e75927b0b6d63a712404d6e6e037bea55e8", checked := Try.checked }
namespace Rows
def none {H : Type} : Left H := { results := [], args := [] }

/-- 'ablautlaw19.RowBests': WHATEVER THE INPUT: true; the input reads as it did. -/
def rowBestsSpec : ChangeSpec := { name := "rowBests", fn := fun _ => fun
  | [d1, d2] => { results := [.lit (.bool true)], args := [d1, d2] }
  | _ => none }
def rowBestsRow : OpenClaim := { program := "ytepjlojlkionfaa", sum := "d6adeb7bed947aafba4101c65bf44e75927b0b6d63a712404d6e6e037bea55e8", func := "ablaut/ablautlaw19.RowBests", spec := "rowBests", unfollowed := true, recurses := true, plainKeys := false, apart := false }
def RowBestsSaid : Prop := rowBestsRow.holds Try.pinned (OpenSpec.ofChange rowBestsSpec)

/-- ITS FALSE NEIGHBOUR: 'it returns false'. Refute it at one input. -/
def rowBestsWrong : ChangeSpec := { name := "rowBests", fn := fun _ => fun
  | [d1, d2] => { results := [.lit (.bool false)], args := [d1, d2] }
  | _ => none }
def RowBestsWrongFalsely : Prop := rowBestsRow.holds Try.pinned (OpenSpec.ofChange rowBestsWrong)

/-- 'ablautlaw19.RowSeverals': WHATEVER THE INPUT: true; the input reads as it did. -/
def rowSeveralsSpec : ChangeSpec := { name := "rowSeverals", fn := fun _ => fun
  | [d1, d2, d3] => { results := [.lit (.bool true)], args := [d1, d2, d3] }
  | _ => none }
def rowSeveralsRow : OpenClaim := { program := "ytepjlojlkionfaa", sum := "d6adeb7bed947aafba4101c65bf44e75927b0b6d63a712404d6e6e037bea55e8", func := "ablaut/ablautlaw19.RowSeverals", spec := "rowSeverals", unfollowed := true, recurses := true, plainKeys := false, apart := false }
def RowSeveralsSaid : Prop := rowSeveralsRow.holds Try.pinned (OpenSpec.ofChange rowSeveralsSpec)

/-- ITS FALSE NEIGHBOUR: 'it returns false'. Refute it at one input. -/
def rowSeveralsWrong : ChangeSpec := { name := "rowSeverals", fn := fun _ => fun
  | [d1, d2, d3] => { results := [.lit (.bool false)], args := [d1, d2, d3] }
  | _ => none }
def RowSeveralsWrongFalsely : Prop := rowSeveralsRow.holds Try.pinned (OpenSpec.ofChange rowSeveralsWrong)

/-- 'ablautlaw19.RowCosts': WHATEVER THE INPUT: true; the input reads as it did. -/
def rowCostsSpec : ChangeSpec := { name := "rowCosts", fn := fun _ => fun
  | [d1, d2, d3] => { results := [.lit (.bool true)], args := [d1, d2, d3] }
  | _ => none }
def rowCostsRow : OpenClaim := { program := "ytepjlojlkionfaa", sum := "d6adeb7bed947aafba4101c65bf44e75927b0b6d63a712404d6e6e037bea55e8", func := "ablaut/ablautlaw19.RowCosts", spec := "rowCosts", unfollowed := true, recurses := true, plainKeys := false, apart := false }
def RowCostsSaid : Prop := rowCostsRow.holds Try.pinned (OpenSpec.ofChange rowCostsSpec)

/-- ITS FALSE NEIGHBOUR: 'it returns false'. Refute it at one input. -/
def rowCostsWrong : ChangeSpec := { name := "rowCosts", fn := fun _ => fun
  | [d1, d2, d3] => { results := [.lit (.bool false)], args := [d1, d2, d3] }
  | _ => none }
def RowCostsWrongFalsely : Prop := rowCostsRow.holds Try.pinned (OpenSpec.ofChange rowCostsWrong)

/-- 'ablautlaw19.RowAts': WHATEVER THE INPUT: true; the input reads as it did. -/
def rowAtsSpec : ChangeSpec := { name := "rowAts", fn := fun _ => fun
  | [d1, d2, d3] => { results := [.lit (.bool true)], args := [d1, d2, d3] }
  | _ => none }
def rowAtsRow : OpenClaim := { program := "ytepjlojlkionfaa", sum := "d6adeb7bed947aafba4101c65bf44e75927b0b6d63a712404d6e6e037bea55e8", func := "ablaut/ablautlaw19.RowAts", spec := "rowAts", unfollowed := true, recurses := true, plainKeys := false, apart := false }
def RowAtsSaid : Prop := rowAtsRow.holds Try.pinned (OpenSpec.ofChange rowAtsSpec)

/-- ITS FALSE NEIGHBOUR: 'it returns false'. Refute it at one input. -/
def rowAtsWrong : ChangeSpec := { name := "rowAts", fn := fun _ => fun
  | [d1, d2, d3] => { results := [.lit (.bool false)], args := [d1, d2, d3] }
  | _ => none }
def RowAtsWrongFalsely : Prop := rowAtsRow.holds Try.pinned (OpenSpec.ofChange rowAtsWrong)

/-- 'ablautlaw19.RowBeams': WHATEVER THE INPUT: true; the input reads as it did. -/
def rowBeamsSpec : ChangeSpec := { name := "rowBeams", fn := fun _ => fun
  | [d1, d2, d3] => { results := [.lit (.bool true)], args := [d1, d2, d3] }
  | _ => none }
def rowBeamsRow : OpenClaim := { program := "ytepjlojlkionfaa", sum := "d6adeb7bed947aafba4101c65bf44e75927b0b6d63a712404d6e6e037bea55e8", func := "ablaut/ablautlaw19.RowBeams", spec := "rowBeams", unfollowed := true, recurses := true, plainKeys := false, apart := false }
def RowBeamsSaid : Prop := rowBeamsRow.holds Try.pinned (OpenSpec.ofChange rowBeamsSpec)

/-- ITS FALSE NEIGHBOUR: 'it returns false'. Refute it at one input. -/
def rowBeamsWrong : ChangeSpec := { name := "rowBeams", fn := fun _ => fun
  | [d1, d2, d3] => { results := [.lit (.bool false)], args := [d1, d2, d3] }
  | _ => none }
def RowBeamsWrongFalsely : Prop := rowBeamsRow.holds Try.pinned (OpenSpec.ofChange rowBeamsWrong)

/-- 'ablautlaw19.RowScores': WHATEVER THE INPUT: true; the input reads as it did. -/
def rowScoresSpec : ChangeSpec := { name := "rowScores", fn := fun _ => fun
  | [d1, d2] => { results := [.lit (.bool true)], args := [d1, d2] }
  | _ => none }
def rowScoresRow : OpenClaim := { program := "ytepjlojlkionfaa", sum := "d6adeb7bed947aafba4101c65bf44e75927b0b6d63a712404d6e6e037bea55e8", func := "ablaut/ablautlaw19.RowScores", spec := "rowScores", unfollowed := true, recurses := true, plainKeys := false, apart := false }
def RowScoresSaid : Prop := rowScoresRow.holds Try.pinned (OpenSpec.ofChange rowScoresSpec)

/-- ITS FALSE NEIGHBOUR: 'it returns false'. Refute it at one input. -/
def rowScoresWrong : ChangeSpec := { name := "rowScores", fn := fun _ => fun
  | [d1, d2] => { results := [.lit (.bool false)], args := [d1, d2] }
  | _ => none }
def RowScoresWrongFalsely : Prop := rowScoresRow.holds Try.pinned (OpenSpec.ofChange rowScoresWrong)

/-- 'ablautlaw19.RowLeasts': WHATEVER THE INPUT: true; the input reads as it did. -/
def rowLeastsSpec : ChangeSpec := { name := "rowLeasts", fn := fun _ => fun
  | [d1, d2, d3] => { results := [.lit (.bool true)], args := [d1, d2, d3] }
  | _ => none }
def rowLeastsRow : OpenClaim := { program := "ytepjlojlkionfaa", sum := "d6adeb7bed947aafba4101c65bf44e75927b0b6d63a712404d6e6e037bea55e8", func := "ablaut/ablautlaw19.RowLeasts", spec := "rowLeasts", unfollowed := true, recurses := true, plainKeys := false, apart := false }
def RowLeastsSaid : Prop := rowLeastsRow.holds Try.pinned (OpenSpec.ofChange rowLeastsSpec)

/-- ITS FALSE NEIGHBOUR: 'it returns false'. Refute it at one input. -/
def rowLeastsWrong : ChangeSpec := { name := "rowLeasts", fn := fun _ => fun
  | [d1, d2, d3] => { results := [.lit (.bool false)], args := [d1, d2, d3] }
  | _ => none }
def RowLeastsWrongFalsely : Prop := rowLeastsRow.holds Try.pinned (OpenSpec.ofChange rowLeastsWrong)

/-- 'ablautlaw19.RowLearns': WHATEVER THE INPUT: true; the input reads as it did. -/
def rowLearnsSpec : ChangeSpec := { name := "rowLearns", fn := fun _ => fun
  | [d] => { results := [.lit (.bool true)], args := [d] }
  | _ => none }
def rowLearnsRow : OpenClaim := { program := "ytepjlojlkionfaa", sum := "d6adeb7bed947aafba4101c65bf44e75927b0b6d63a712404d6e6e037bea55e8", func := "ablaut/ablautlaw19.RowLearns", spec := "rowLearns", unfollowed := true, recurses := true, plainKeys := false, apart := false }
def RowLearnsSaid : Prop := rowLearnsRow.holds Try.pinned (OpenSpec.ofChange rowLearnsSpec)

/-- ITS FALSE NEIGHBOUR: 'it returns false'. Refute it at one input. -/
def rowLearnsWrong : ChangeSpec := { name := "rowLearns", fn := fun _ => fun
  | [d] => { results := [.lit (.bool false)], args := [d] }
  | _ => none }
def RowLearnsWrongFalsely : Prop := rowLearnsRow.holds Try.pinned (OpenSpec.ofChange rowLearnsWrong)

/-- 'ablautlaw19.RowLearnt': WHATEVER THE INPUT: true; the input reads as it did. -/
def rowLearntSpec : ChangeSpec := { name := "rowLearnt", fn := fun _ => fun
  | [d] => { results := [.lit (.bool true)], args := [d] }
  | _ => none }
def rowLearntRow : OpenClaim := { program := "ytepjlojlkionfaa", sum := "d6adeb7bed947aafba4101c65bf44e75927b0b6d63a712404d6e6e037bea55e8", func := "ablaut/ablautlaw19.RowLearnt", spec := "rowLearnt", unfollowed := true, recurses := true, plainKeys := false, apart := false }
def RowLearntSaid : Prop := rowLearntRow.holds Try.pinned (OpenSpec.ofChange rowLearntSpec)

/-- ITS FALSE NEIGHBOUR: 'it returns false'. Refute it at one input. -/
def rowLearntWrong : ChangeSpec := { name := "rowLearnt", fn := fun _ => fun
  | [d] => { results := [.lit (.bool false)], args := [d] }
  | _ => none }
def RowLearntWrongFalsely : Prop := rowLearntRow.holds Try.pinned (OpenSpec.ofChange rowLearntWrong)

/- THE SECOND FORM. 'bulk': how many values and letters a reading holds, each counted each time it is reached (what is shared counts as often as it is met; a slice's spare places count too). A statement '..UptoSaid' is the law's where the arguments, and the package variables that the reading takes, are together of bulk at most 1048576: NARROWER than '..Said'. Prove '..Said' where nothing that the law and all that it calls make is longer than what came in: it says more and counts as full. Else prove '..UptoSaid'. A law counts once. -/
mutual
def uptoBulk {H : Type} : DataW H → Nat
  | .lit (.string bytes) => bytes.length + 1
  | .lit _ => 1
  | .nil => 1
  | .ptr d => uptoBulk d + 1
  | .slice elems spare => uptoBulkAll elems + uptoBulkAll spare + 1
  | .agg parts => uptoBulkAll parts + 1
  | .iface _ d => uptoBulk d + 1
  | .map entries => uptoBulkEntries entries + 1
  | .held _ => 1
def uptoBulkAll {H : Type} : List (DataW H) → Nat
  | [] => 0
  | d :: r => uptoBulk d + uptoBulkAll r
def uptoBulkEntries {H : Type} : List (Lit × DataW H) → Nat
  | [] => 0
  | x :: r => uptoBulkEntry x + uptoBulkEntries r
def uptoBulkEntry {H : Type} : Lit × DataW H → Nat
  | (.string bytes, d) => bytes.length + uptoBulk d + 1
  | (_, d) => uptoBulk d + 1
 end
def uptoSmall : (H : Type) → List (DataW H) → Bool := fun _ ds => decide (uptoBulkAll ds ≤ 1048576)
def OpenSpec.upto (s : _root_.Go.ChangeSpec) : _root_.Go.OpenSpec := { _root_.Go.OpenSpec.ofChange s with cond := some uptoSmall }

/-- 'ablautlaw19.RowBests', WHERE WHAT IT READS IS OF BULK AT MOST 1048576: true; the input reads as it did. -/
def rowBestsUptoRow : OpenClaim := { program := "ytepjlojlkionfaa", sum := "d6adeb7bed947aafba4101c65bf44e75927b0b6d63a712404d6e6e037bea55e8", func := "ablaut/ablautlaw19.RowBests", spec := "rowBests", unfollowed := true, recurses := true, plainKeys := false, apart := false, narrowed := true }
def RowBestsUptoSaid : Prop := rowBestsUptoRow.holds Try.pinned (OpenSpec.upto rowBestsSpec)

/-- 'ablautlaw19.RowSeverals', WHERE WHAT IT READS IS OF BULK AT MOST 1048576: true; the input reads as it did. -/
def rowSeveralsUptoRow : OpenClaim := { program := "ytepjlojlkionfaa", sum := "d6adeb7bed947aafba4101c65bf44e75927b0b6d63a712404d6e6e037bea55e8", func := "ablaut/ablautlaw19.RowSeverals", spec := "rowSeverals", unfollowed := true, recurses := true, plainKeys := false, apart := false, narrowed := true }
def RowSeveralsUptoSaid : Prop := rowSeveralsUptoRow.holds Try.pinned (OpenSpec.upto rowSeveralsSpec)

/-- 'ablautlaw19.RowCosts', WHERE WHAT IT READS IS OF BULK AT MOST 1048576: true; the input reads as it did. -/
def rowCostsUptoRow : OpenClaim := { program := "ytepjlojlkionfaa", sum := "d6adeb7bed947aafba4101c65bf44e75927b0b6d63a712404d6e6e037bea55e8", func := "ablaut/ablautlaw19.RowCosts", spec := "rowCosts", unfollowed := true, recurses := true, plainKeys := false, apart := false, narrowed := true }
def RowCostsUptoSaid : Prop := rowCostsUptoRow.holds Try.pinned (OpenSpec.upto rowCostsSpec)

/-- 'ablautlaw19.RowAts', WHERE WHAT IT READS IS OF BULK AT MOST 1048576: true; the input reads as it did. -/
def rowAtsUptoRow : OpenClaim := { program := "ytepjlojlkionfaa", sum := "d6adeb7bed947aafba4101c65bf44e75927b0b6d63a712404d6e6e037bea55e8", func := "ablaut/ablautlaw19.RowAts", spec := "rowAts", unfollowed := true, recurses := true, plainKeys := false, apart := false, narrowed := true }
def RowAtsUptoSaid : Prop := rowAtsUptoRow.holds Try.pinned (OpenSpec.upto rowAtsSpec)

/-- 'ablautlaw19.RowBeams', WHERE WHAT IT READS IS OF BULK AT MOST 1048576: true; the input reads as it did. -/
def rowBeamsUptoRow : OpenClaim := { program := "ytepjlojlkionfaa", sum := "d6adeb7bed947aafba4101c65bf44e75927b0b6d63a712404d6e6e037bea55e8", func := "ablaut/ablautlaw19.RowBeams", spec := "rowBeams", unfollowed := true, recurses := true, plainKeys := false, apart := false, narrowed := true }
def RowBeamsUptoSaid : Prop := rowBeamsUptoRow.holds Try.pinned (OpenSpec.upto rowBeamsSpec)

/-- 'ablautlaw19.RowScores', WHERE WHAT IT READS IS OF BULK AT MOST 1048576: true; the input reads as it did. -/
def rowScoresUptoRow : OpenClaim := { program := "ytepjlojlkionfaa", sum := "d6adeb7bed947aafba4101c65bf44e75927b0b6d63a712404d6e6e037bea55e8", func := "ablaut/ablautlaw19.RowScores", spec := "rowScores", unfollowed := true, recurses := true, plainKeys := false, apart := false, narrowed := true }
def RowScoresUptoSaid : Prop := rowScoresUptoRow.holds Try.pinned (OpenSpec.upto rowScoresSpec)

/-- 'ablautlaw19.RowLeasts', WHERE WHAT IT READS IS OF BULK AT MOST 1048576: true; the input reads as it did. -/
def rowLeastsUptoRow : OpenClaim := { program := "ytepjlojlkionfaa", sum := "d6adeb7bed947aafba4101c65bf44e75927b0b6d63a712404d6e6e037bea55e8", func := "ablaut/ablautlaw19.RowLeasts", spec := "rowLeasts", unfollowed := true, recurses := true, plainKeys := false, apart := false, narrowed := true }
def RowLeastsUptoSaid : Prop := rowLeastsUptoRow.holds Try.pinned (OpenSpec.upto rowLeastsSpec)

/-- 'ablautlaw19.RowLearns', WHERE WHAT IT READS IS OF BULK AT MOST 1048576: true; the input reads as it did. -/
def rowLearnsUptoRow : OpenClaim := { program := "ytepjlojlkionfaa", sum := "d6adeb7bed947aafba4101c65bf44e75927b0b6d63a712404d6e6e037bea55e8", func := "ablaut/ablautlaw19.RowLearns", spec := "rowLearns", unfollowed := true, recurses := true, plainKeys := false, apart := false, narrowed := true }
def RowLearnsUptoSaid : Prop := rowLearnsUptoRow.holds Try.pinned (OpenSpec.upto rowLearnsSpec)

/-- 'ablautlaw19.RowLearnt', WHERE WHAT IT READS IS OF BULK AT MOST 1048576: true; the input reads as it did. -/
def rowLearntUptoRow : OpenClaim := { program := "ytepjlojlkionfaa", sum := "d6adeb7bed947aafba4101c65bf44e75927b0b6d63a712404d6e6e037bea55e8", func := "ablaut/ablautlaw19.RowLearnt", spec := "rowLearnt", unfollowed := true, recurses := true, plainKeys := false, apart := false, narrowed := true }
def RowLearntUptoSaid : Prop := rowLearntUptoRow.holds Try.pinned (OpenSpec.upto rowLearntSpec)

end Rows
end Go.Proofs.Ytepjlojlkionfaa
