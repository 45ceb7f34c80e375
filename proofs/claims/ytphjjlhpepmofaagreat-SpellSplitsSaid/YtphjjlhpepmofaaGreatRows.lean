/-
  No cell of these rows narrows 'for every input' (looked for: loops, veiled, ifaces, maps, wideKeys, modest, calm, conditions, laid).
  DERIVED. THE GIVEN ROWS OF THIS SEAT. 4 by the template 'for every input the law returns true; each argument reads behind the call as it read before'; 0 by the template 'total and deterministic' (their statements: YtphjjlhpepmofaaGreatTotals.lean).
  GIVEN WITH THE SEED: the statements are not yours to turn. If you find one false, say at which input.
  Laid BY PROGRAM, IN A SANDBOX (cutbox-rows.mjs): the forced cells as the released guide's own fill.sh prints them over the translation 40b097502bd2b18a… (all of the seat's roots in one cut). By AI agents, Wed Nov 11 2026. No macro, syntax, notation, axiom, sorry.
-/
import Derived.Test.YtphjjlhpepmofaaGreatChecked
import GoSem.Claim
import GoSem.ClaimJoined
import GoSem.ClaimMapViews
import Derived.JoinedTies
import Derived.KernelRfl
namespace Go.Proofs.YtphjjlhpepmofaaGreat
/- THE CELL 'sum', in the pinned program and in every row, IS THE sha256 OF THE DUMP (.gsa) THAT YtphjjlhpepmofaaGreatProg.lean LOADS. Nothing in Lean hashes anything: it is a label: what it is worth is what the hold of that sum in a sandbox is worth. -/
noncomputable def Tryz.pinned : Pinned := { name := "ytphjjlhpepmofaagreat", sum := "40b097502bd2b18a9f5022a73a6a2dd15898ec2d22f36412eb66c38245636978", checked := Tryz.checked }
namespace Rows
def none {H : Type} : Left H := { results := [], args := [] }

/-- 'ablautlaw23.SpellSplits': WHATEVER THE INPUT: true; the input reads as it did. -/
def spellSplitsSpec : ChangeSpec := { name := "spellSplits", fn := fun _ => fun
  | [d1, d2] => { results := [.lit (.bool true)], args := [d1, d2] }
  | _ => none }
def spellSplitsRow : OpenClaim := { program := "ytphjjlhpepmofaagreat", sum := "40b097502bd2b18a9f5022a73a6a2dd15898ec2d22f36412eb66c38245636978", func := "ablaut/ablautlaw23.SpellSplits", spec := "spellSplits", inPlace := ["(*internal/sync.Mutex).Lock", "internal/race.Disable", "sync/atomic.CompareAndSwapInt32", "internal/race.Enable", "internal/race.Acquire", "(*internal/sync.Mutex).lockSlow", "internal/sync.runtime_canSpin", "internal/sync.runtime_doSpin", "internal/sync.throw", "internal/sync.runtime_nanotime", "internal/sync.runtime_SemacquireMutex", "sync/atomic.AddInt32", "(*internal/sync.Mutex).Unlock", "internal/race.ReleaseMerge", "(*internal/sync.Mutex).unlockSlow", "internal/sync.fatal", "internal/sync.runtime_Semrelease"], unfollowed := true, recurses := true, apart := false }
def SpellSplitsSaid : Prop := spellSplitsRow.holds Tryz.pinned (OpenSpec.ofChange spellSplitsSpec)

/-- ITS FALSE NEIGHBOUR: 'it returns false'. Refute it at one input. -/
def spellSplitsWrong : ChangeSpec := { name := "spellSplits", fn := fun _ => fun
  | [d1, d2] => { results := [.lit (.bool false)], args := [d1, d2] }
  | _ => none }
def SpellSplitsWrongFalsely : Prop := spellSplitsRow.holds Tryz.pinned (OpenSpec.ofChange spellSplitsWrong)

/-- 'ablautlaw23.SpellSuggests': WHATEVER THE INPUT: true; the input reads as it did. -/
def spellSuggestsSpec : ChangeSpec := { name := "spellSuggests", fn := fun _ => fun
  | [d] => { results := [.lit (.bool true)], args := [d] }
  | _ => none }
def spellSuggestsRow : OpenClaim := { program := "ytphjjlhpepmofaagreat", sum := "40b097502bd2b18a9f5022a73a6a2dd15898ec2d22f36412eb66c38245636978", func := "ablaut/ablautlaw23.SpellSuggests", spec := "spellSuggests", inPlace := ["(*internal/sync.Mutex).Lock", "internal/race.Disable", "sync/atomic.CompareAndSwapInt32", "internal/race.Enable", "internal/race.Acquire", "(*internal/sync.Mutex).lockSlow", "internal/sync.runtime_canSpin", "internal/sync.runtime_doSpin", "internal/sync.throw", "internal/sync.runtime_nanotime", "internal/sync.runtime_SemacquireMutex", "sync/atomic.AddInt32", "(*internal/sync.Mutex).Unlock", "internal/race.ReleaseMerge", "(*internal/sync.Mutex).unlockSlow", "internal/sync.fatal", "internal/sync.runtime_Semrelease"], unfollowed := true, recurses := true, apart := false }
def SpellSuggestsSaid : Prop := spellSuggestsRow.holds Tryz.pinned (OpenSpec.ofChange spellSuggestsSpec)

/-- ITS FALSE NEIGHBOUR: 'it returns false'. Refute it at one input. -/
def spellSuggestsWrong : ChangeSpec := { name := "spellSuggests", fn := fun _ => fun
  | [d] => { results := [.lit (.bool false)], args := [d] }
  | _ => none }
def SpellSuggestsWrongFalsely : Prop := spellSuggestsRow.holds Tryz.pinned (OpenSpec.ofChange spellSuggestsWrong)

/-- 'ablautlaw23.SpellMisses': WHATEVER THE INPUT: true; the input reads as it did. -/
def spellMissesSpec : ChangeSpec := { name := "spellMisses", fn := fun _ => fun
  | [d] => { results := [.lit (.bool true)], args := [d] }
  | _ => none }
def spellMissesRow : OpenClaim := { program := "ytphjjlhpepmofaagreat", sum := "40b097502bd2b18a9f5022a73a6a2dd15898ec2d22f36412eb66c38245636978", func := "ablaut/ablautlaw23.SpellMisses", spec := "spellMisses", inPlace := ["(*internal/sync.Mutex).Lock", "internal/race.Disable", "sync/atomic.CompareAndSwapInt32", "internal/race.Enable", "internal/race.Acquire", "(*internal/sync.Mutex).lockSlow", "internal/sync.runtime_canSpin", "internal/sync.runtime_doSpin", "internal/sync.throw", "internal/sync.runtime_nanotime", "internal/sync.runtime_SemacquireMutex", "sync/atomic.AddInt32", "(*internal/sync.Mutex).Unlock", "internal/race.ReleaseMerge", "(*internal/sync.Mutex).unlockSlow", "internal/sync.fatal", "internal/sync.runtime_Semrelease"], unfollowed := true, recurses := true, apart := false }
def SpellMissesSaid : Prop := spellMissesRow.holds Tryz.pinned (OpenSpec.ofChange spellMissesSpec)

/-- ITS FALSE NEIGHBOUR: 'it returns false'. Refute it at one input. -/
def spellMissesWrong : ChangeSpec := { name := "spellMisses", fn := fun _ => fun
  | [d] => { results := [.lit (.bool false)], args := [d] }
  | _ => none }
def SpellMissesWrongFalsely : Prop := spellMissesRow.holds Tryz.pinned (OpenSpec.ofChange spellMissesWrong)

/-- 'ablautlaw23.SpellKeys': WHATEVER THE INPUT: true; the input reads as it did. -/
def spellKeysSpec : ChangeSpec := { name := "spellKeys", fn := fun _ => fun
  | [d1, d2, d3] => { results := [.lit (.bool true)], args := [d1, d2, d3] }
  | _ => none }
def spellKeysRow : OpenClaim := { program := "ytphjjlhpepmofaagreat", sum := "40b097502bd2b18a9f5022a73a6a2dd15898ec2d22f36412eb66c38245636978", func := "ablaut/ablautlaw23.SpellKeys", spec := "spellKeys", inPlace := ["(*internal/sync.Mutex).Lock", "internal/race.Disable", "sync/atomic.CompareAndSwapInt32", "internal/race.Enable", "internal/race.Acquire", "(*internal/sync.Mutex).lockSlow", "internal/sync.runtime_canSpin", "internal/sync.runtime_doSpin", "internal/sync.throw", "internal/sync.runtime_nanotime", "internal/sync.runtime_SemacquireMutex", "sync/atomic.AddInt32", "(*internal/sync.Mutex).Unlock", "internal/race.ReleaseMerge", "(*internal/sync.Mutex).unlockSlow", "internal/sync.fatal", "internal/sync.runtime_Semrelease"], unfollowed := true, recurses := true, apart := false }
def SpellKeysSaid : Prop := spellKeysRow.holds Tryz.pinned (OpenSpec.ofChange spellKeysSpec)

/-- ITS FALSE NEIGHBOUR: 'it returns false'. Refute it at one input. -/
def spellKeysWrong : ChangeSpec := { name := "spellKeys", fn := fun _ => fun
  | [d1, d2, d3] => { results := [.lit (.bool false)], args := [d1, d2, d3] }
  | _ => none }
def SpellKeysWrongFalsely : Prop := spellKeysRow.holds Tryz.pinned (OpenSpec.ofChange spellKeysWrong)

/- THE SECOND FORM. 'bulk': how many values and letters a reading holds, each counted each time it is reached (what is shared counts as often as it is met; a slice's spare places count too). A statement '..UptoSaid' is the law's where the arguments, and the package variables that the reading takes, are together of bulk at most 1048576: NARROWER than '..Said'. Prove '..Said' where nothing that the law and all that it calls make is longer than what came in: it says more and counts as full. Else prove '..UptoSaid'. A law counts once. -/
mutual
def uptoBulk {H : Type} : DataW H → Nat
  | .lit (.string bytes) => bytes.length + 1
  | .lit _ => 1
  | .nil => 1
  | .ptr d => uptoBulk d + 1
  | .slice elems spare => uptoBulkAll elems + uptoBulkAll spare + 1
  | .agg parts => uptoBulkAll parts + 1
  | .iface _ d => uptoBulk d + 1
  | .map entries => uptoBulkEntries entries + 1
  | .held _ => 1
def uptoBulkAll {H : Type} : List (DataW H) → Nat
  | [] => 0
  | d :: r => uptoBulk d + uptoBulkAll r
def uptoBulkEntries {H : Type} : List (Lit × DataW H) → Nat
  | [] => 0
  | x :: r => uptoBulkEntry x + uptoBulkEntries r
def uptoBulkEntry {H : Type} : Lit × DataW H → Nat
  | (.string bytes, d) => bytes.length + uptoBulk d + 1
  | (_, d) => uptoBulk d + 1
 end
def uptoSmall : (H : Type) → List (DataW H) → Bool := fun _ ds => decide (uptoBulkAll ds ≤ 1048576)
def OpenSpec.upto (s : _root_.Go.ChangeSpec) : _root_.Go.OpenSpec := { _root_.Go.OpenSpec.ofChange s with cond := some uptoSmall }

/-- 'ablautlaw23.SpellSplits', WHERE WHAT IT READS IS OF BULK AT MOST 1048576: true; the input reads as it did. -/
def spellSplitsUptoRow : OpenClaim := { program := "ytphjjlhpepmofaagreat", sum := "40b097502bd2b18a9f5022a73a6a2dd15898ec2d22f36412eb66c38245636978", func := "ablaut/ablautlaw23.SpellSplits", spec := "spellSplits", inPlace := ["(*internal/sync.Mutex).Lock", "internal/race.Disable", "sync/atomic.CompareAndSwapInt32", "internal/race.Enable", "internal/race.Acquire", "(*internal/sync.Mutex).lockSlow", "internal/sync.runtime_canSpin", "internal/sync.runtime_doSpin", "internal/sync.throw", "internal/sync.runtime_nanotime", "internal/sync.runtime_SemacquireMutex", "sync/atomic.AddInt32", "(*internal/sync.Mutex).Unlock", "internal/race.ReleaseMerge", "(*internal/sync.Mutex).unlockSlow", "internal/sync.fatal", "internal/sync.runtime_Semrelease"], unfollowed := true, recurses := true, apart := false, narrowed := true }
def SpellSplitsUptoSaid : Prop := spellSplitsUptoRow.holds Tryz.pinned (OpenSpec.upto spellSplitsSpec)

/-- 'ablautlaw23.SpellSuggests', WHERE WHAT IT READS IS OF BULK AT MOST 1048576: true; the input reads as it did. -/
def spellSuggestsUptoRow : OpenClaim := { program := "ytphjjlhpepmofaagreat", sum := "40b097502bd2b18a9f5022a73a6a2dd15898ec2d22f36412eb66c38245636978", func := "ablaut/ablautlaw23.SpellSuggests", spec := "spellSuggests", inPlace := ["(*internal/sync.Mutex).Lock", "internal/race.Disable", "sync/atomic.CompareAndSwapInt32", "internal/race.Enable", "internal/race.Acquire", "(*internal/sync.Mutex).lockSlow", "internal/sync.runtime_canSpin", "internal/sync.runtime_doSpin", "internal/sync.throw", "internal/sync.runtime_nanotime", "internal/sync.runtime_SemacquireMutex", "sync/atomic.AddInt32", "(*internal/sync.Mutex).Unlock", "internal/race.ReleaseMerge", "(*internal/sync.Mutex).unlockSlow", "internal/sync.fatal", "internal/sync.runtime_Semrelease"], unfollowed := true, recurses := true, apart := false, narrowed := true }
def SpellSuggestsUptoSaid : Prop := spellSuggestsUptoRow.holds Tryz.pinned (OpenSpec.upto spellSuggestsSpec)

/-- 'ablautlaw23.SpellMisses', WHERE WHAT IT READS IS OF BULK AT MOST 1048576: true; the input reads as it did. -/
def spellMissesUptoRow : OpenClaim := { program := "ytphjjlhpepmofaagreat", sum := "40b097502bd2b18a9f5022a73a6a2dd15898ec2d22f36412eb66c38245636978", func := "ablaut/ablautlaw23.SpellMisses", spec := "spellMisses", inPlace := ["(*internal/sync.Mutex).Lock", "internal/race.Disable", "sync/atomic.CompareAndSwapInt32", "internal/race.Enable", "internal/race.Acquire", "(*internal/sync.Mutex).lockSlow", "internal/sync.runtime_canSpin", "internal/sync.runtime_doSpin", "internal/sync.throw", "internal/sync.runtime_nanotime", "internal/sync.runtime_SemacquireMutex", "sync/atomic.AddInt32", "(*internal/sync.Mutex).Unlock", "internal/race.ReleaseMerge", "(*internal/sync.Mutex).unlockSlow", "internal/sync.fatal", "internal/sync.runtime_Semrelease"], unfollowed := true, recurses := true, apart := false, narrowed := true }
def SpellMissesUptoSaid : Prop := spellMissesUptoRow.holds Tryz.pinned (OpenSpec.upto spellMissesSpec)

/-- 'ablautlaw23.SpellKeys', WHERE WHAT IT READS IS OF BULK AT MOST 1048576: true; the input reads as it did. -/
def spellKeysUptoRow : OpenClaim := { program := "ytphjjlhpepmofaagreat", sum := "40b097502bd2b18a9f5022a73a6a2dd15898ec2d22f36412eb66c38245636978", func := "ablaut/ablautlaw23.SpellKeys", spec := "spellKeys", inPlace := ["(*internal/sync.Mutex).Lock", "internal/race.Disable", "sync/atomic.CompareAndSwapInt32", "internal/race.Enable", "internal/race.Acquire", "(*internal/sync.Mutex).lockSlow", "internal/sync.runtime_canSpin", "internal/sync.runtime_doSpin", "internal/sync.throw", "internal/sync.runtime_nanotime", "internal/sync.runtime_SemacquireMutex", "sync/atomic.AddInt32", "(*internal/sync.Mutex).Unlock", "internal/race.ReleaseMerge", "(*internal/sync.Mutex).unlockSlow", "internal/sync.fatal", "internal/sync.runtime_Semrelease"], unfollowed := true, recurses := true, apart := false, narrowed := true }
def SpellKeysUptoSaid : Prop := spellKeysUptoRow.holds Tryz.pinned (OpenSpec.upto spellKeysSpec)

end Rows
end Go.Proofs.YtphjjlhpepmofaaGreat
