/-
  No cell of these rows narrows 'for every input' (looked for: loops, veiled, ifaces, maps, wideKeys, modest, calm, conditions, laid).
  DERIVED. THE GIVEN ROWS OF THIS SEAT. 7 by the template 'for every input the law returns true; each argument reads behind the call as it read before'; 0 by the template 'total and deterministic' (their statements: YtmhilolgjcfhjaaGreatTotals.lean).
  GIVEN WITH THE SEED: the statements are not yours to turn. If you find one false, say at which input.
  Laid BY PROGRAM, IN A SANDBOX (cutbox-rows.mjs): the forced cells as the released guide's own fill.sh prints them over the translation 0de7bf1ff4cdd013… (all of the seat's roots in one cut). By AI agents, Wed Nov 11 2026. No macro, syntax, notation, axiom, sorry.
-/
import Derived.Test.YtmhilolgjcfhjaaGreatChecked
import GoSem.Claim
import GoSem.ClaimJoined
import GoSem.ClaimMapViews
import Derived.JoinedTies
import Derived.KernelRfl
namespace Go.Proofs.YtmhilolgjcfhjaaGreat
/- THE CELL 'sum', in the pinned program and in every row, IS THE sha256 OF THE DUMP (.gsa) THAT YtmhilolgjcfhjaaGreatProg.lean LOADS. Nothing in Lean hashes anything: it is a label: what it is worth is what the hold of that sum in a sandbox is worth. -/
noncomputable def Tryz.pinned : Pinned := { name := "ytmhilolgjcfhjaagreat", sum := "0de7bf1ff4cdd0138d9235944cef4dee439e2b7153251c6534b61a68ada2e511", checked := Tryz.checked }
namespace Rows
def none {H : Type} : Left H := { results := [], args := [] }

/-- 'klaxonlaw09.LabelsMake': WHATEVER THE INPUT: true; the input reads as it did. -/
def labelsMakeSpec : ChangeSpec := { name := "labelsMake", fn := fun _ => fun
  | [d] => { results := [.lit (.bool true)], args := [d] }
  | _ => none }
def labelsMakeRow : OpenClaim := { program := "ytmhilolgjcfhjaagreat", sum := "0de7bf1ff4cdd0138d9235944cef4dee439e2b7153251c6534b61a68ada2e511", func := "klaxon/klaxonlaw09.LabelsMake", spec := "labelsMake", inPlace := ["internal/bytealg.abigen_runtime_cmpstring", "sync/atomic.LoadUint32", "(*internal/sync.Mutex).Lock", "internal/race.Disable", "sync/atomic.CompareAndSwapInt32", "internal/race.Enable", "internal/race.Acquire", "(*internal/sync.Mutex).lockSlow", "internal/sync.runtime_canSpin", "internal/sync.runtime_doSpin", "internal/sync.throw", "internal/sync.runtime_nanotime", "internal/sync.runtime_SemacquireMutex", "sync/atomic.AddInt32", "(*internal/sync.Mutex).Unlock", "internal/race.ReleaseMerge", "(*internal/sync.Mutex).unlockSlow", "internal/sync.fatal", "internal/sync.runtime_Semrelease", "sync/atomic.StoreUint32", "internal/abi.NoEscape", "internal/bytealg.MakeNoZero"], unfollowed := true, recurses := true, apart := false }
def LabelsMakeSaid : Prop := labelsMakeRow.holds Tryz.pinned (OpenSpec.ofChange labelsMakeSpec)

/-- ITS FALSE NEIGHBOUR: 'it returns false'. Refute it at one input. -/
def labelsMakeWrong : ChangeSpec := { name := "labelsMake", fn := fun _ => fun
  | [d] => { results := [.lit (.bool false)], args := [d] }
  | _ => none }
def LabelsMakeWrongFalsely : Prop := labelsMakeRow.holds Tryz.pinned (OpenSpec.ofChange labelsMakeWrong)

/-- 'klaxonlaw09.LabelsMatch': WHATEVER THE INPUT: true; the input reads as it did. -/
def labelsMatchSpec : ChangeSpec := { name := "labelsMatch", fn := fun _ => fun
  | [d1, d2] => { results := [.lit (.bool true)], args := [d1, d2] }
  | _ => none }
def labelsMatchRow : OpenClaim := { program := "ytmhilolgjcfhjaagreat", sum := "0de7bf1ff4cdd0138d9235944cef4dee439e2b7153251c6534b61a68ada2e511", func := "klaxon/klaxonlaw09.LabelsMatch", spec := "labelsMatch", inPlace := ["internal/bytealg.abigen_runtime_cmpstring", "sync/atomic.LoadUint32", "(*internal/sync.Mutex).Lock", "internal/race.Disable", "sync/atomic.CompareAndSwapInt32", "internal/race.Enable", "internal/race.Acquire", "(*internal/sync.Mutex).lockSlow", "internal/sync.runtime_canSpin", "internal/sync.runtime_doSpin", "internal/sync.throw", "internal/sync.runtime_nanotime", "internal/sync.runtime_SemacquireMutex", "sync/atomic.AddInt32", "(*internal/sync.Mutex).Unlock", "internal/race.ReleaseMerge", "(*internal/sync.Mutex).unlockSlow", "internal/sync.fatal", "internal/sync.runtime_Semrelease", "sync/atomic.StoreUint32", "internal/abi.NoEscape", "internal/bytealg.MakeNoZero"], unfollowed := true, recurses := true, apart := false }
def LabelsMatchSaid : Prop := labelsMatchRow.holds Tryz.pinned (OpenSpec.ofChange labelsMatchSpec)

/-- ITS FALSE NEIGHBOUR: 'it returns false'. Refute it at one input. -/
def labelsMatchWrong : ChangeSpec := { name := "labelsMatch", fn := fun _ => fun
  | [d1, d2] => { results := [.lit (.bool false)], args := [d1, d2] }
  | _ => none }
def LabelsMatchWrongFalsely : Prop := labelsMatchRow.holds Tryz.pinned (OpenSpec.ofChange labelsMatchWrong)

/-- 'klaxonlaw09.LabelsAsk': WHATEVER THE INPUT: true; the input reads as it did. -/
def labelsAskSpec : ChangeSpec := { name := "labelsAsk", fn := fun _ => fun
  | [d1, d2, d3] => { results := [.lit (.bool true)], args := [d1, d2, d3] }
  | _ => none }
def labelsAskRow : OpenClaim := { program := "ytmhilolgjcfhjaagreat", sum := "0de7bf1ff4cdd0138d9235944cef4dee439e2b7153251c6534b61a68ada2e511", func := "klaxon/klaxonlaw09.LabelsAsk", spec := "labelsAsk", inPlace := ["internal/bytealg.abigen_runtime_cmpstring", "sync/atomic.LoadUint32", "(*internal/sync.Mutex).Lock", "internal/race.Disable", "sync/atomic.CompareAndSwapInt32", "internal/race.Enable", "internal/race.Acquire", "(*internal/sync.Mutex).lockSlow", "internal/sync.runtime_canSpin", "internal/sync.runtime_doSpin", "internal/sync.throw", "internal/sync.runtime_nanotime", "internal/sync.runtime_SemacquireMutex", "sync/atomic.AddInt32", "(*internal/sync.Mutex).Unlock", "internal/race.ReleaseMerge", "(*internal/sync.Mutex).unlockSlow", "internal/sync.fatal", "internal/sync.runtime_Semrelease", "sync/atomic.StoreUint32", "internal/abi.NoEscape", "internal/bytealg.MakeNoZero"], unfollowed := true, recurses := true, apart := false }
def LabelsAskSaid : Prop := labelsAskRow.holds Tryz.pinned (OpenSpec.ofChange labelsAskSpec)

/-- ITS FALSE NEIGHBOUR: 'it returns false'. Refute it at one input. -/
def labelsAskWrong : ChangeSpec := { name := "labelsAsk", fn := fun _ => fun
  | [d1, d2, d3] => { results := [.lit (.bool false)], args := [d1, d2, d3] }
  | _ => none }
def LabelsAskWrongFalsely : Prop := labelsAskRow.holds Tryz.pinned (OpenSpec.ofChange labelsAskWrong)

/-- 'klaxonlaw09.LabelsJoined': WHATEVER THE INPUT: true; the input reads as it did. -/
def labelsJoinedSpec : ChangeSpec := { name := "labelsJoined", fn := fun _ => fun
  | [d1, d2, d3] => { results := [.lit (.bool true)], args := [d1, d2, d3] }
  | _ => none }
def labelsJoinedRow : OpenClaim := { program := "ytmhilolgjcfhjaagreat", sum := "0de7bf1ff4cdd0138d9235944cef4dee439e2b7153251c6534b61a68ada2e511", func := "klaxon/klaxonlaw09.LabelsJoined", spec := "labelsJoined", inPlace := ["internal/bytealg.abigen_runtime_cmpstring", "sync/atomic.LoadUint32", "(*internal/sync.Mutex).Lock", "internal/race.Disable", "sync/atomic.CompareAndSwapInt32", "internal/race.Enable", "internal/race.Acquire", "(*internal/sync.Mutex).lockSlow", "internal/sync.runtime_canSpin", "internal/sync.runtime_doSpin", "internal/sync.throw", "internal/sync.runtime_nanotime", "internal/sync.runtime_SemacquireMutex", "sync/atomic.AddInt32", "(*internal/sync.Mutex).Unlock", "internal/race.ReleaseMerge", "(*internal/sync.Mutex).unlockSlow", "internal/sync.fatal", "internal/sync.runtime_Semrelease", "sync/atomic.StoreUint32", "internal/abi.NoEscape", "internal/bytealg.MakeNoZero"], unfollowed := true, recurses := true, apart := false }
def LabelsJoinedSaid : Prop := labelsJoinedRow.holds Tryz.pinned (OpenSpec.ofChange labelsJoinedSpec)

/-- ITS FALSE NEIGHBOUR: 'it returns false'. Refute it at one input. -/
def labelsJoinedWrong : ChangeSpec := { name := "labelsJoined", fn := fun _ => fun
  | [d1, d2, d3] => { results := [.lit (.bool false)], args := [d1, d2, d3] }
  | _ => none }
def LabelsJoinedWrongFalsely : Prop := labelsJoinedRow.holds Tryz.pinned (OpenSpec.ofChange labelsJoinedWrong)

/-- 'klaxonlaw09.LabelsSets': WHATEVER THE INPUT: true; the input reads as it did. -/
def labelsSetsSpec : ChangeSpec := { name := "labelsSets", fn := fun _ => fun
  | [d1, d2, d3] => { results := [.lit (.bool true)], args := [d1, d2, d3] }
  | _ => none }
def labelsSetsRow : OpenClaim := { program := "ytmhilolgjcfhjaagreat", sum := "0de7bf1ff4cdd0138d9235944cef4dee439e2b7153251c6534b61a68ada2e511", func := "klaxon/klaxonlaw09.LabelsSets", spec := "labelsSets", inPlace := ["internal/bytealg.abigen_runtime_cmpstring", "sync/atomic.LoadUint32", "(*internal/sync.Mutex).Lock", "internal/race.Disable", "sync/atomic.CompareAndSwapInt32", "internal/race.Enable", "internal/race.Acquire", "(*internal/sync.Mutex).lockSlow", "internal/sync.runtime_canSpin", "internal/sync.runtime_doSpin", "internal/sync.throw", "internal/sync.runtime_nanotime", "internal/sync.runtime_SemacquireMutex", "sync/atomic.AddInt32", "(*internal/sync.Mutex).Unlock", "internal/race.ReleaseMerge", "(*internal/sync.Mutex).unlockSlow", "internal/sync.fatal", "internal/sync.runtime_Semrelease", "sync/atomic.StoreUint32", "internal/abi.NoEscape", "internal/bytealg.MakeNoZero"], unfollowed := true, recurses := true, apart := false }
def LabelsSetsSaid : Prop := labelsSetsRow.holds Tryz.pinned (OpenSpec.ofChange labelsSetsSpec)

/-- ITS FALSE NEIGHBOUR: 'it returns false'. Refute it at one input. -/
def labelsSetsWrong : ChangeSpec := { name := "labelsSets", fn := fun _ => fun
  | [d1, d2, d3] => { results := [.lit (.bool false)], args := [d1, d2, d3] }
  | _ => none }
def LabelsSetsWrongFalsely : Prop := labelsSetsRow.holds Tryz.pinned (OpenSpec.ofChange labelsSetsWrong)

/-- 'klaxonlaw09.LabelsOver': WHATEVER THE INPUT: true; the input reads as it did. -/
def labelsOverSpec : ChangeSpec := { name := "labelsOver", fn := fun _ => fun
  | [d1, d2] => { results := [.lit (.bool true)], args := [d1, d2] }
  | _ => none }
def labelsOverRow : OpenClaim := { program := "ytmhilolgjcfhjaagreat", sum := "0de7bf1ff4cdd0138d9235944cef4dee439e2b7153251c6534b61a68ada2e511", func := "klaxon/klaxonlaw09.LabelsOver", spec := "labelsOver", inPlace := ["internal/bytealg.abigen_runtime_cmpstring", "sync/atomic.LoadUint32", "(*internal/sync.Mutex).Lock", "internal/race.Disable", "sync/atomic.CompareAndSwapInt32", "internal/race.Enable", "internal/race.Acquire", "(*internal/sync.Mutex).lockSlow", "internal/sync.runtime_canSpin", "internal/sync.runtime_doSpin", "internal/sync.throw", "internal/sync.runtime_nanotime", "internal/sync.runtime_SemacquireMutex", "sync/atomic.AddInt32", "(*internal/sync.Mutex).Unlock", "internal/race.ReleaseMerge", "(*internal/sync.Mutex).unlockSlow", "internal/sync.fatal", "internal/sync.runtime_Semrelease", "sync/atomic.StoreUint32", "internal/abi.NoEscape", "internal/bytealg.MakeNoZero"], unfollowed := true, recurses := true, apart := false }
def LabelsOverSaid : Prop := labelsOverRow.holds Tryz.pinned (OpenSpec.ofChange labelsOverSpec)

/-- ITS FALSE NEIGHBOUR: 'it returns false'. Refute it at one input. -/
def labelsOverWrong : ChangeSpec := { name := "labelsOver", fn := fun _ => fun
  | [d1, d2] => { results := [.lit (.bool false)], args := [d1, d2] }
  | _ => none }
def LabelsOverWrongFalsely : Prop := labelsOverRow.holds Tryz.pinned (OpenSpec.ofChange labelsOverWrong)

/-- 'klaxonlaw09.LabelsParts': WHATEVER THE INPUT: true; the input reads as it did. -/
def labelsPartsSpec : ChangeSpec := { name := "labelsParts", fn := fun _ => fun
  | [d1, d2, d3] => { results := [.lit (.bool true)], args := [d1, d2, d3] }
  | _ => none }
def labelsPartsRow : OpenClaim := { program := "ytmhilolgjcfhjaagreat", sum := "0de7bf1ff4cdd0138d9235944cef4dee439e2b7153251c6534b61a68ada2e511", func := "klaxon/klaxonlaw09.LabelsParts", spec := "labelsParts", inPlace := ["internal/bytealg.abigen_runtime_cmpstring", "sync/atomic.LoadUint32", "(*internal/sync.Mutex).Lock", "internal/race.Disable", "sync/atomic.CompareAndSwapInt32", "internal/race.Enable", "internal/race.Acquire", "(*internal/sync.Mutex).lockSlow", "internal/sync.runtime_canSpin", "internal/sync.runtime_doSpin", "internal/sync.throw", "internal/sync.runtime_nanotime", "internal/sync.runtime_SemacquireMutex", "sync/atomic.AddInt32", "(*internal/sync.Mutex).Unlock", "internal/race.ReleaseMerge", "(*internal/sync.Mutex).unlockSlow", "internal/sync.fatal", "internal/sync.runtime_Semrelease", "sync/atomic.StoreUint32", "internal/abi.NoEscape", "internal/bytealg.MakeNoZero"], unfollowed := true, recurses := true, apart := false }
def LabelsPartsSaid : Prop := labelsPartsRow.holds Tryz.pinned (OpenSpec.ofChange labelsPartsSpec)

/-- ITS FALSE NEIGHBOUR: 'it returns false'. Refute it at one input. -/
def labelsPartsWrong : ChangeSpec := { name := "labelsParts", fn := fun _ => fun
  | [d1, d2, d3] => { results := [.lit (.bool false)], args := [d1, d2, d3] }
  | _ => none }
def LabelsPartsWrongFalsely : Prop := labelsPartsRow.holds Tryz.pinned (OpenSpec.ofChange labelsPartsWrong)

/- THE SECOND FORM. 'bulk': how many values and letters a reading holds, each counted each time it is reached (what is shared counts as often as it is met; a slice's spare places count too). A statement '..UptoSaid' is the law's where the arguments, and the package variables that the reading takes, are together of bulk at most 1048576: NARROWER than '..Said'. Prove '..Said' where nothing that the law and all that it calls make is longer than what came in: it says more and counts as full. Else prove '..UptoSaid'. A law counts once. -/
mutual
def uptoBulk {H : Type} : DataW H → Nat
  | .lit (.string bytes) => bytes.length + 1
  | .lit _ => 1
  | .nil => 1
  | .ptr d => uptoBulk d + 1
  | .slice elems spare => uptoBulkAll elems + uptoBulkAll spare + 1
  | .agg parts => uptoBulkAll parts + 1
  | .iface _ d => uptoBulk d + 1
  | .map entries => uptoBulkEntries entries + 1
  | .held _ => 1
def uptoBulkAll {H : Type} : List (DataW H) → Nat
  | [] => 0
  | d :: r => uptoBulk d + uptoBulkAll r
def uptoBulkEntries {H : Type} : List (Lit × DataW H) → Nat
  | [] => 0
  | x :: r => uptoBulkEntry x + uptoBulkEntries r
def uptoBulkEntry {H : Type} : Lit × DataW H → Nat
  | (.string bytes, d) => bytes.length + uptoBulk d + 1
  | (_, d) => uptoBulk d + 1
 end
def uptoSmall : (H : Type) → List (DataW H) → Bool := fun _ ds => decide (uptoBulkAll ds ≤ 1048576)
def OpenSpec.upto (s : _root_.Go.ChangeSpec) : _root_.Go.OpenSpec := { _root_.Go.OpenSpec.ofChange s with cond := some uptoSmall }

/-- 'klaxonlaw09.LabelsMake', WHERE WHAT IT READS IS OF BULK AT MOST 1048576: true; the input reads as it did. -/
def labelsMakeUptoRow : OpenClaim := { program := "ytmhilolgjcfhjaagreat", sum := "0de7bf1ff4cdd0138d9235944cef4dee439e2b7153251c6534b61a68ada2e511", func := "klaxon/klaxonlaw09.LabelsMake", spec := "labelsMake", inPlace := ["internal/bytealg.abigen_runtime_cmpstring", "sync/atomic.LoadUint32", "(*internal/sync.Mutex).Lock", "internal/race.Disable", "sync/atomic.CompareAndSwapInt32", "internal/race.Enable", "internal/race.Acquire", "(*internal/sync.Mutex).lockSlow", "internal/sync.runtime_canSpin", "internal/sync.runtime_doSpin", "internal/sync.throw", "internal/sync.runtime_nanotime", "internal/sync.runtime_SemacquireMutex", "sync/atomic.AddInt32", "(*internal/sync.Mutex).Unlock", "internal/race.ReleaseMerge", "(*internal/sync.Mutex).unlockSlow", "internal/sync.fatal", "internal/sync.runtime_Semrelease", "sync/atomic.StoreUint32", "internal/abi.NoEscape", "internal/bytealg.MakeNoZero"], unfollowed := true, recurses := true, apart := false, narrowed := true }
def LabelsMakeUptoSaid : Prop := labelsMakeUptoRow.holds Tryz.pinned (OpenSpec.upto labelsMakeSpec)

/-- 'klaxonlaw09.LabelsMatch', WHERE WHAT IT READS IS OF BULK AT MOST 1048576: true; the input reads as it did. -/
def labelsMatchUptoRow : OpenClaim := { program := "ytmhilolgjcfhjaagreat", sum := "0de7bf1ff4cdd0138d9235944cef4dee439e2b7153251c6534b61a68ada2e511", func := "klaxon/klaxonlaw09.LabelsMatch", spec := "labelsMatch", inPlace := ["internal/bytealg.abigen_runtime_cmpstring", "sync/atomic.LoadUint32", "(*internal/sync.Mutex).Lock", "internal/race.Disable", "sync/atomic.CompareAndSwapInt32", "internal/race.Enable", "internal/race.Acquire", "(*internal/sync.Mutex).lockSlow", "internal/sync.runtime_canSpin", "internal/sync.runtime_doSpin", "internal/sync.throw", "internal/sync.runtime_nanotime", "internal/sync.runtime_SemacquireMutex", "sync/atomic.AddInt32", "(*internal/sync.Mutex).Unlock", "internal/race.ReleaseMerge", "(*internal/sync.Mutex).unlockSlow", "internal/sync.fatal", "internal/sync.runtime_Semrelease", "sync/atomic.StoreUint32", "internal/abi.NoEscape", "internal/bytealg.MakeNoZero"], unfollowed := true, recurses := true, apart := false, narrowed := true }
def LabelsMatchUptoSaid : Prop := labelsMatchUptoRow.holds Tryz.pinned (OpenSpec.upto labelsMatchSpec)

/-- 'klaxonlaw09.LabelsAsk', WHERE WHAT IT READS IS OF BULK AT MOST 1048576: true; the input reads as it did. -/
def labelsAskUptoRow : OpenClaim := { program := "ytmhilolgjcfhjaagreat", sum := "0de7bf1ff4cdd0138d9235944cef4dee439e2b7153251c6534b61a68ada2e511", func := "klaxon/klaxonlaw09.LabelsAsk", spec := "labelsAsk", inPlace := ["internal/bytealg.abigen_runtime_cmpstring", "sync/atomic.LoadUint32", "(*internal/sync.Mutex).Lock", "internal/race.Disable", "sync/atomic.CompareAndSwapInt32", "internal/race.Enable", "internal/race.Acquire", "(*internal/sync.Mutex).lockSlow", "internal/sync.runtime_canSpin", "internal/sync.runtime_doSpin", "internal/sync.throw", "internal/sync.runtime_nanotime", "internal/sync.runtime_SemacquireMutex", "sync/atomic.AddInt32", "(*internal/sync.Mutex).Unlock", "internal/race.ReleaseMerge", "(*internal/sync.Mutex).unlockSlow", "internal/sync.fatal", "internal/sync.runtime_Semrelease", "sync/atomic.StoreUint32", "internal/abi.NoEscape", "internal/bytealg.MakeNoZero"], unfollowed := true, recurses := true, apart := false, narrowed := true }
def LabelsAskUptoSaid : Prop := labelsAskUptoRow.holds Tryz.pinned (OpenSpec.upto labelsAskSpec)

/-- 'klaxonlaw09.LabelsJoined', WHERE WHAT IT READS IS OF BULK AT MOST 1048576: true; the input reads as it did. -/
def labelsJoinedUptoRow : OpenClaim := { program := "ytmhilolgjcfhjaagreat", sum := "0de7bf1ff4cdd0138d9235944cef4dee439e2b7153251c6534b61a68ada2e511", func := "klaxon/klaxonlaw09.LabelsJoined", spec := "labelsJoined", inPlace := ["internal/bytealg.abigen_runtime_cmpstring", "sync/atomic.LoadUint32", "(*internal/sync.Mutex).Lock", "internal/race.Disable", "sync/atomic.CompareAndSwapInt32", "internal/race.Enable", "internal/race.Acquire", "(*internal/sync.Mutex).lockSlow", "internal/sync.runtime_canSpin", "internal/sync.runtime_doSpin", "internal/sync.throw", "internal/sync.runtime_nanotime", "internal/sync.runtime_SemacquireMutex", "sync/atomic.AddInt32", "(*internal/sync.Mutex).Unlock", "internal/race.ReleaseMerge", "(*internal/sync.Mutex).unlockSlow", "internal/sync.fatal", "internal/sync.runtime_Semrelease", "sync/atomic.StoreUint32", "internal/abi.NoEscape", "internal/bytealg.MakeNoZero"], unfollowed := true, recurses := true, apart := false, narrowed := true }
def LabelsJoinedUptoSaid : Prop := labelsJoinedUptoRow.holds Tryz.pinned (OpenSpec.upto labelsJoinedSpec)

/-- 'klaxonlaw09.LabelsSets', WHERE WHAT IT READS IS OF BULK AT MOST 1048576: true; the input reads as it did. -/
def labelsSetsUptoRow : OpenClaim := { program := "ytmhilolgjcfhjaagreat", sum := "0de7bf1ff4cdd0138d9235944cef4dee439e2b7153251c6534b61a68ada2e511", func := "klaxon/klaxonlaw09.LabelsSets", spec := "labelsSets", inPlace := ["internal/bytealg.abigen_runtime_cmpstring", "sync/atomic.LoadUint32", "(*internal/sync.Mutex).Lock", "internal/race.Disable", "sync/atomic.CompareAndSwapInt32", "internal/race.Enable", "internal/race.Acquire", "(*internal/sync.Mutex).lockSlow", "internal/sync.runtime_canSpin", "internal/sync.runtime_doSpin", "internal/sync.throw", "internal/sync.runtime_nanotime", "internal/sync.runtime_SemacquireMutex", "sync/atomic.AddInt32", "(*internal/sync.Mutex).Unlock", "internal/race.ReleaseMerge", "(*internal/sync.Mutex).unlockSlow", "internal/sync.fatal", "internal/sync.runtime_Semrelease", "sync/atomic.StoreUint32", "internal/abi.NoEscape", "internal/bytealg.MakeNoZero"], unfollowed := true, recurses := true, apart := false, narrowed := true }
def LabelsSetsUptoSaid : Prop := labelsSetsUptoRow.holds Tryz.pinned (OpenSpec.upto labelsSetsSpec)

/-- 'klaxonlaw09.LabelsOver', WHERE WHAT IT READS IS OF BULK AT MOST 1048576: true; the input reads as it did. -/
def labelsOverUptoRow : OpenClaim := { program := "ytmhilolgjcfhjaagreat", sum := "0de7bf1ff4cdd0138d9235944cef4dee439e2b7153251c6534b61a68ada2e511", func := "klaxon/klaxonlaw09.LabelsOver", spec := "labelsOver", inPlace := ["internal/bytealg.abigen_runtime_cmpstring", "sync/atomic.LoadUint32", "(*internal/sync.Mutex).Lock", "internal/race.Disable", "sync/atomic.CompareAndSwapInt32", "internal/race.Enable", "internal/race.Acquire", "(*internal/sync.Mutex).lockSlow", "internal/sync.runtime_canSpin", "internal/sync.runtime_doSpin", "internal/sync.throw", "internal/sync.runtime_nanotime", "internal/sync.runtime_SemacquireMutex", "sync/atomic.AddInt32", "(*internal/sync.Mutex).Unlock", "internal/race.ReleaseMerge", "(*internal/sync.Mutex).unlockSlow", "internal/sync.fatal", "internal/sync.runtime_Semrelease", "sync/atomic.StoreUint32", "internal/abi.NoEscape", "internal/bytealg.MakeNoZero"], unfollowed := true, recurses := true, apart := false, narrowed := true }
def LabelsOverUptoSaid : Prop := labelsOverUptoRow.holds Tryz.pinned (OpenSpec.upto labelsOverSpec)

/-- 'klaxonlaw09.LabelsParts', WHERE WHAT IT READS IS OF BULK AT MOST 1048576: true; the input reads as it did. -/
def labelsPartsUptoRow : OpenClaim := { program := "ytmhilolgjcfhjaagreat", sum := "0de7bf1ff4cdd0138d9235944cef4dee439e2b7153251c6534b61a68ada2e511", func := "klaxon/klaxonlaw09.LabelsParts", spec := "labelsParts", inPlace := ["internal/bytealg.abigen_runtime_cmpstring", "sync/atomic.LoadUint32", "(*internal/sync.Mutex).Lock", "internal/race.Disable", "sync/atomic.CompareAndSwapInt32", "internal/race.Enable", "internal/race.Acquire", "(*internal/sync.Mutex).lockSlow", "internal/sync.runtime_canSpin", "internal/sync.runtime_doSpin", "internal/sync.throw", "internal/sync.runtime_nanotime", "internal/sync.runtime_SemacquireMutex", "sync/atomic.AddInt32", "(*internal/sync.Mutex).Unlock", "internal/race.ReleaseMerge", "(*internal/sync.Mutex).unlockSlow", "internal/sync.fatal", "internal/sync.runtime_Semrelease", "sync/atomic.StoreUint32", "internal/abi.NoEscape", "internal/bytealg.MakeNoZero"], unfollowed := true, recurses := true, apart := false, narrowed := true }
def LabelsPartsUptoSaid : Prop := labelsPartsUptoRow.holds Tryz.pinned (OpenSpec.upto labelsPartsSpec)

end Rows
end Go.Proofs.YtmhilolgjcfhjaaGreat
