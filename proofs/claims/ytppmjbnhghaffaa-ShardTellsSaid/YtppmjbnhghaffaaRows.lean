/-
  No cell of these rows narrows 'for every input' (looked for: loops, veiled, ifaces, maps, wideKeys, modest, calm, conditions, laid).
  DERIVED. THE GIVEN ROWS OF THIS SEAT. 12 by the template 'for every input the law returns true; each argument reads behind the call as it read before'; 0 by the template 'total and deterministic' (their statements: YtppmjbnhghaffaaTotals.lean).
  GIVEN WITH THE SEED: the statements are not yours to turn. If you find one false, say at which input.
  Laid BY PROGRAM, IN A SANDBOX (cutbox-rows.mjs): the forced cells as the released guide's own fill.sh prints them over the translation c96f167669938eb5… (all of the seat's roots in one cut). By AI agents, Wed Nov 11 2026. No macro, syntax, notation, axiom, sorry.
-/
import Derived.Test.YtppmjbnhghaffaaChecked
import GoSem.Claim
import GoSem.ClaimJoined
import GoSem.ClaimMapViews
import Derived.JoinedTies
import Derived.KernelRfl
namespace Go.Proofs.Ytppmjbnhghaffaa
/- THE CELL 'sum', in the pinned program and in every row, IS THE sha256 OF THE DUMP (.gsa) THAT YtppmjbnhghaffaaProg.lean LOADS. Nothing in Lean hashes anything: it is a label: what it is worth is what the hold of that sum in a sandbox is worth. -/
noncomputable def Try.pinned : Pinned := { name := "ytppmjbnhghaffaa", sum := "c96f167669938eb5a456c2b05b0a965d82409c4044290eb66fc7dce87479fcee", checked := Try.checked }
namespace Rows
def none {H : Type} : Left H := { results := [], args := [] }

/-- 'doormanlaw32.CodeTells': WHATEVER THE INPUT: true; the input reads as it did. -/
def codeTellsSpec : ChangeSpec := { name := "codeTells", fn := fun _ => fun
  | [d1, d2] => { results := [.lit (.bool true)], args := [d1, d2] }
  | _ => none }
def codeTellsRow : OpenClaim := { program := "ytppmjbnhghaffaa", sum := "c96f167669938eb5a456c2b05b0a965d82409c4044290eb66fc7dce87479fcee", func := "doorman/doormanlaw32.CodeTells", spec := "codeTells", plainKeys := false, apart := false }
def CodeTellsSaid : Prop := codeTellsRow.holds Try.pinned (OpenSpec.ofChange codeTellsSpec)

/-- ITS FALSE NEIGHBOUR: 'it returns false'. Refute it at one input. -/
def codeTellsWrong : ChangeSpec := { name := "codeTells", fn := fun _ => fun
  | [d1, d2] => { results := [.lit (.bool false)], args := [d1, d2] }
  | _ => none }
def CodeTellsWrongFalsely : Prop := codeTellsRow.holds Try.pinned (OpenSpec.ofChange codeTellsWrong)

/-- 'doormanlaw32.CodeBack': WHATEVER THE INPUT: true; the input reads as it did. -/
def codeBackSpec : ChangeSpec := { name := "codeBack", fn := fun _ => fun
  | [d1, d2] => { results := [.lit (.bool true)], args := [d1, d2] }
  | _ => none }
def codeBackRow : OpenClaim := { program := "ytppmjbnhghaffaa", sum := "c96f167669938eb5a456c2b05b0a965d82409c4044290eb66fc7dce87479fcee", func := "doorman/doormanlaw32.CodeBack", spec := "codeBack", plainKeys := false, apart := false }
def CodeBackSaid : Prop := codeBackRow.holds Try.pinned (OpenSpec.ofChange codeBackSpec)

/-- ITS FALSE NEIGHBOUR: 'it returns false'. Refute it at one input. -/
def codeBackWrong : ChangeSpec := { name := "codeBack", fn := fun _ => fun
  | [d1, d2] => { results := [.lit (.bool false)], args := [d1, d2] }
  | _ => none }
def CodeBackWrongFalsely : Prop := codeBackRow.holds Try.pinned (OpenSpec.ofChange codeBackWrong)

/-- 'doormanlaw24.HeapTells': WHATEVER THE INPUT: true; the input reads as it did. -/
def heapTellsSpec : ChangeSpec := { name := "heapTells", fn := fun _ => fun
  | [d1, d2, d3] => { results := [.lit (.bool true)], args := [d1, d2, d3] }
  | _ => none }
def heapTellsRow : OpenClaim := { program := "ytppmjbnhghaffaa", sum := "c96f167669938eb5a456c2b05b0a965d82409c4044290eb66fc7dce87479fcee", func := "doorman/doormanlaw24.HeapTells", spec := "heapTells", plainKeys := false, apart := false }
def HeapTellsSaid : Prop := heapTellsRow.holds Try.pinned (OpenSpec.ofChange heapTellsSpec)

/-- ITS FALSE NEIGHBOUR: 'it returns false'. Refute it at one input. -/
def heapTellsWrong : ChangeSpec := { name := "heapTells", fn := fun _ => fun
  | [d1, d2, d3] => { results := [.lit (.bool false)], args := [d1, d2, d3] }
  | _ => none }
def HeapTellsWrongFalsely : Prop := heapTellsRow.holds Try.pinned (OpenSpec.ofChange heapTellsWrong)

/-- 'doormanlaw24.HeapPlays': WHATEVER THE INPUT: true; the input reads as it did. -/
def heapPlaysSpec : ChangeSpec := { name := "heapPlays", fn := fun _ => fun
  | [d1, d2, d3] => { results := [.lit (.bool true)], args := [d1, d2, d3] }
  | _ => none }
def heapPlaysRow : OpenClaim := { program := "ytppmjbnhghaffaa", sum := "c96f167669938eb5a456c2b05b0a965d82409c4044290eb66fc7dce87479fcee", func := "doorman/doormanlaw24.HeapPlays", spec := "heapPlays", plainKeys := false, apart := false }
def HeapPlaysSaid : Prop := heapPlaysRow.holds Try.pinned (OpenSpec.ofChange heapPlaysSpec)

/-- ITS FALSE NEIGHBOUR: 'it returns false'. Refute it at one input. -/
def heapPlaysWrong : ChangeSpec := { name := "heapPlays", fn := fun _ => fun
  | [d1, d2, d3] => { results := [.lit (.bool false)], args := [d1, d2, d3] }
  | _ => none }
def HeapPlaysWrongFalsely : Prop := heapPlaysRow.holds Try.pinned (OpenSpec.ofChange heapPlaysWrong)

/-- 'doormanlaw31.ShardTells': WHATEVER THE INPUT: true; the input reads as it did. -/
def shardTellsSpec : ChangeSpec := { name := "shardTells", fn := fun _ => fun
  | [d1, d2, d3] => { results := [.lit (.bool true)], args := [d1, d2, d3] }
  | _ => none }
def shardTellsRow : OpenClaim := { program := "ytppmjbnhghaffaa", sum := "c96f167669938eb5a456c2b05b0a965d82409c4044290eb66fc7dce87479fcee", func := "doorman/doormanlaw31.ShardTells", spec := "shardTells", unfollowed := true, recurses := true, plainKeys := false, apart := false }
def ShardTellsSaid : Prop := shardTellsRow.holds Try.pinned (OpenSpec.ofChange shardTellsSpec)

/-- ITS FALSE NEIGHBOUR: 'it returns false'. Refute it at one input. -/
def shardTellsWrong : ChangeSpec := { name := "shardTells", fn := fun _ => fun
  | [d1, d2, d3] => { results := [.lit (.bool false)], args := [d1, d2, d3] }
  | _ => none }
def ShardTellsWrongFalsely : Prop := shardTellsRow.holds Try.pinned (OpenSpec.ofChange shardTellsWrong)

/-- 'doormanlaw31.ShardBack': WHATEVER THE INPUT: true; the input reads as it did. -/
def shardBackSpec : ChangeSpec := { name := "shardBack", fn := fun _ => fun
  | [d1, d2, d3] => { results := [.lit (.bool true)], args := [d1, d2, d3] }
  | _ => none }
def shardBackRow : OpenClaim := { program := "ytppmjbnhghaffaa", sum := "c96f167669938eb5a456c2b05b0a965d82409c4044290eb66fc7dce87479fcee", func := "doorman/doormanlaw31.ShardBack", spec := "shardBack", unfollowed := true, recurses := true, plainKeys := false, apart := false }
def ShardBackSaid : Prop := shardBackRow.holds Try.pinned (OpenSpec.ofChange shardBackSpec)

/-- ITS FALSE NEIGHBOUR: 'it returns false'. Refute it at one input. -/
def shardBackWrong : ChangeSpec := { name := "shardBack", fn := fun _ => fun
  | [d1, d2, d3] => { results := [.lit (.bool false)], args := [d1, d2, d3] }
  | _ => none }
def ShardBackWrongFalsely : Prop := shardBackRow.holds Try.pinned (OpenSpec.ofChange shardBackWrong)

/-- 'doormanlaw31.ShardWrites': WHATEVER THE INPUT: true; the input reads as it did. -/
def shardWritesSpec : ChangeSpec := { name := "shardWrites", fn := fun _ => fun
  | [d1, d2] => { results := [.lit (.bool true)], args := [d1, d2] }
  | _ => none }
def shardWritesRow : OpenClaim := { program := "ytppmjbnhghaffaa", sum := "c96f167669938eb5a456c2b05b0a965d82409c4044290eb66fc7dce87479fcee", func := "doorman/doormanlaw31.ShardWrites", spec := "shardWrites", unfollowed := true, recurses := true, plainKeys := false, apart := false }
def ShardWritesSaid : Prop := shardWritesRow.holds Try.pinned (OpenSpec.ofChange shardWritesSpec)

/-- ITS FALSE NEIGHBOUR: 'it returns false'. Refute it at one input. -/
def shardWritesWrong : ChangeSpec := { name := "shardWrites", fn := fun _ => fun
  | [d1, d2] => { results := [.lit (.bool false)], args := [d1, d2] }
  | _ => none }
def ShardWritesWrongFalsely : Prop := shardWritesRow.holds Try.pinned (OpenSpec.ofChange shardWritesWrong)

/-- 'doormanlaw30.TableStays': WHATEVER THE INPUT: true; the input reads as it did. -/
def tableStaysSpec : ChangeSpec := { name := "tableStays", fn := fun _ => fun
  | [d1, d2] => { results := [.lit (.bool true)], args := [d1, d2] }
  | _ => none }
def tableStaysRow : OpenClaim := { program := "ytppmjbnhghaffaa", sum := "c96f167669938eb5a456c2b05b0a965d82409c4044290eb66fc7dce87479fcee", func := "doorman/doormanlaw30.TableStays", spec := "tableStays", inPlace := ["slices.overlaps[doorman/api.Peer]"], unfollowed := true, recurses := true, plainKeys := false, apart := false }
def TableStaysSaid : Prop := tableStaysRow.holds Try.pinned (OpenSpec.ofChange tableStaysSpec)

/-- ITS FALSE NEIGHBOUR: 'it returns false'. Refute it at one input. -/
def tableStaysWrong : ChangeSpec := { name := "tableStays", fn := fun _ => fun
  | [d1, d2] => { results := [.lit (.bool false)], args := [d1, d2] }
  | _ => none }
def TableStaysWrongFalsely : Prop := tableStaysRow.holds Try.pinned (OpenSpec.ofChange tableStaysWrong)

/-- 'doormanlaw30.TableTells': WHATEVER THE INPUT: true; the input reads as it did. -/
def tableTellsSpec : ChangeSpec := { name := "tableTells", fn := fun _ => fun
  | [d1, d2, d3] => { results := [.lit (.bool true)], args := [d1, d2, d3] }
  | _ => none }
def tableTellsRow : OpenClaim := { program := "ytppmjbnhghaffaa", sum := "c96f167669938eb5a456c2b05b0a965d82409c4044290eb66fc7dce87479fcee", func := "doorman/doormanlaw30.TableTells", spec := "tableTells", inPlace := ["slices.overlaps[doorman/api.Peer]"], unfollowed := true, recurses := true, plainKeys := false, apart := false }
def TableTellsSaid : Prop := tableTellsRow.holds Try.pinned (OpenSpec.ofChange tableTellsSpec)

/-- ITS FALSE NEIGHBOUR: 'it returns false'. Refute it at one input. -/
def tableTellsWrong : ChangeSpec := { name := "tableTells", fn := fun _ => fun
  | [d1, d2, d3] => { results := [.lit (.bool false)], args := [d1, d2, d3] }
  | _ => none }
def TableTellsWrongFalsely : Prop := tableTellsRow.holds Try.pinned (OpenSpec.ofChange tableTellsWrong)

/-- 'doormanlaw22.SiegeTells': WHATEVER THE INPUT: true; the input reads as it did. -/
def siegeTellsSpec : ChangeSpec := { name := "siegeTells", fn := fun _ => fun
  | [d1, d2, d3] => { results := [.lit (.bool true)], args := [d1, d2, d3] }
  | _ => none }
def siegeTellsRow : OpenClaim := { program := "ytppmjbnhghaffaa", sum := "c96f167669938eb5a456c2b05b0a965d82409c4044290eb66fc7dce87479fcee", func := "doorman/doormanlaw22.SiegeTells", spec := "siegeTells", unfollowed := true, recurses := true, plainKeys := false, apart := false }
def SiegeTellsSaid : Prop := siegeTellsRow.holds Try.pinned (OpenSpec.ofChange siegeTellsSpec)

/-- ITS FALSE NEIGHBOUR: 'it returns false'. Refute it at one input. -/
def siegeTellsWrong : ChangeSpec := { name := "siegeTells", fn := fun _ => fun
  | [d1, d2, d3] => { results := [.lit (.bool false)], args := [d1, d2, d3] }
  | _ => none }
def SiegeTellsWrongFalsely : Prop := siegeTellsRow.holds Try.pinned (OpenSpec.ofChange siegeTellsWrong)

/-- 'doormanlaw22.SiegeStays': WHATEVER THE INPUT: true; the input reads as it did. -/
def siegeStaysSpec : ChangeSpec := { name := "siegeStays", fn := fun _ => fun
  | [d1, d2, d3] => { results := [.lit (.bool true)], args := [d1, d2, d3] }
  | _ => none }
def siegeStaysRow : OpenClaim := { program := "ytppmjbnhghaffaa", sum := "c96f167669938eb5a456c2b05b0a965d82409c4044290eb66fc7dce87479fcee", func := "doorman/doormanlaw22.SiegeStays", spec := "siegeStays", unfollowed := true, recurses := true, plainKeys := false, apart := false }
def SiegeStaysSaid : Prop := siegeStaysRow.holds Try.pinned (OpenSpec.ofChange siegeStaysSpec)

/-- ITS FALSE NEIGHBOUR: 'it returns false'. Refute it at one input. -/
def siegeStaysWrong : ChangeSpec := { name := "siegeStays", fn := fun _ => fun
  | [d1, d2, d3] => { results := [.lit (.bool false)], args := [d1, d2, d3] }
  | _ => none }
def SiegeStaysWrongFalsely : Prop := siegeStaysRow.holds Try.pinned (OpenSpec.ofChange siegeStaysWrong)

/-- 'doormanlaw22.SiegeSlow': WHATEVER THE INPUT: true; the input reads as it did. -/
def siegeSlowSpec : ChangeSpec := { name := "siegeSlow", fn := fun _ => fun
  | [d1, d2, d3] => { results := [.lit (.bool true)], args := [d1, d2, d3] }
  | _ => none }
def siegeSlowRow : OpenClaim := { program := "ytppmjbnhghaffaa", sum := "c96f167669938eb5a456c2b05b0a965d82409c4044290eb66fc7dce87479fcee", func := "doorman/doormanlaw22.SiegeSlow", spec := "siegeSlow", unfollowed := true, recurses := true, plainKeys := false, apart := false }
def SiegeSlowSaid : Prop := siegeSlowRow.holds Try.pinned (OpenSpec.ofChange siegeSlowSpec)

/-- ITS FALSE NEIGHBOUR: 'it returns false'. Refute it at one input. -/
def siegeSlowWrong : ChangeSpec := { name := "siegeSlow", fn := fun _ => fun
  | [d1, d2, d3] => { results := [.lit (.bool false)], args := [d1, d2, d3] }
  | _ => none }
def SiegeSlowWrongFalsely : Prop := siegeSlowRow.holds Try.pinned (OpenSpec.ofChange siegeSlowWrong)

/- THE SECOND FORM. 'bulk': how many values and letters a reading holds, each counted each time it is reached (what is shared counts as often as it is met; a slice's spare places count too). A statement '..UptoSaid' is the law's where the arguments, and the package variables that the reading takes, are together of bulk at most 1048576: NARROWER than '..Said'. Prove '..Said' where nothing that the law and all that it calls make is longer than what came in: it says more and counts as full. Else prove '..UptoSaid'. A law counts once. -/
mutual
def uptoBulk {H : Type} : DataW H → Nat
  | .lit (.string bytes) => bytes.length + 1
  | .lit _ => 1
  | .nil => 1
  | .ptr d => uptoBulk d + 1
  | .slice elems spare => uptoBulkAll elems + uptoBulkAll spare + 1
  | .agg parts => uptoBulkAll parts + 1
  | .iface _ d => uptoBulk d + 1
  | .map entries => uptoBulkEntries entries + 1
  | .held _ => 1
def uptoBulkAll {H : Type} : List (DataW H) → Nat
  | [] => 0
  | d :: r => uptoBulk d + uptoBulkAll r
def uptoBulkEntries {H : Type} : List (Lit × DataW H) → Nat
  | [] => 0
  | x :: r => uptoBulkEntry x + uptoBulkEntries r
def uptoBulkEntry {H : Type} : Lit × DataW H → Nat
  | (.string bytes, d) => bytes.length + uptoBulk d + 1
  | (_, d) => uptoBulk d + 1
 end
def uptoSmall : (H : Type) → List (DataW H) → Bool := fun _ ds => decide (uptoBulkAll ds ≤ 1048576)
def OpenSpec.upto (s : _root_.Go.ChangeSpec) : _root_.Go.OpenSpec := { _root_.Go.OpenSpec.ofChange s with cond := some uptoSmall }

/-- 'doormanlaw32.CodeTells', WHERE WHAT IT READS IS OF BULK AT MOST 1048576: true; the input reads as it did. -/
def codeTellsUptoRow : OpenClaim := { program := "ytppmjbnhghaffaa", sum := "c96f167669938eb5a456c2b05b0a965d82409c4044290eb66fc7dce87479fcee", func := "doorman/doormanlaw32.CodeTells", spec := "codeTells", plainKeys := false, apart := false, narrowed := true }
def CodeTellsUptoSaid : Prop := codeTellsUptoRow.holds Try.pinned (OpenSpec.upto codeTellsSpec)

/-- 'doormanlaw32.CodeBack', WHERE WHAT IT READS IS OF BULK AT MOST 1048576: true; the input reads as it did. -/
def codeBackUptoRow : OpenClaim := { program := "ytppmjbnhghaffaa", sum := "c96f167669938eb5a456c2b05b0a965d82409c4044290eb66fc7dce87479fcee", func := "doorman/doormanlaw32.CodeBack", spec := "codeBack", plainKeys := false, apart := false, narrowed := true }
def CodeBackUptoSaid : Prop := codeBackUptoRow.holds Try.pinned (OpenSpec.upto codeBackSpec)

/-- 'doormanlaw24.HeapTells', WHERE WHAT IT READS IS OF BULK AT MOST 1048576: true; the input reads as it did. -/
def heapTellsUptoRow : OpenClaim := { program := "ytppmjbnhghaffaa", sum := "c96f167669938eb5a456c2b05b0a965d82409c4044290eb66fc7dce87479fcee", func := "doorman/doormanlaw24.HeapTells", spec := "heapTells", plainKeys := false, apart := false, narrowed := true }
def HeapTellsUptoSaid : Prop := heapTellsUptoRow.holds Try.pinned (OpenSpec.upto heapTellsSpec)

/-- 'doormanlaw24.HeapPlays', WHERE WHAT IT READS IS OF BULK AT MOST 1048576: true; the input reads as it did. -/
def heapPlaysUptoRow : OpenClaim := { program := "ytppmjbnhghaffaa", sum := "c96f167669938eb5a456c2b05b0a965d82409c4044290eb66fc7dce87479fcee", func := "doorman/doormanlaw24.HeapPlays", spec := "heapPlays", plainKeys := false, apart := false, narrowed := true }
def HeapPlaysUptoSaid : Prop := heapPlaysUptoRow.holds Try.pinned (OpenSpec.upto heapPlaysSpec)

/-- 'doormanlaw31.ShardTells', WHERE WHAT IT READS IS OF BULK AT MOST 1048576: true; the input reads as it did. -/
def shardTellsUptoRow : OpenClaim := { program := "ytppmjbnhghaffaa", sum := "c96f167669938eb5a456c2b05b0a965d82409c4044290eb66fc7dce87479fcee", func := "doorman/doormanlaw31.ShardTells", spec := "shardTells", unfollowed := true, recurses := true, plainKeys := false, apart := false, narrowed := true }
def ShardTellsUptoSaid : Prop := shardTellsUptoRow.holds Try.pinned (OpenSpec.upto shardTellsSpec)

/-- 'doormanlaw31.ShardBack', WHERE WHAT IT READS IS OF BULK AT MOST 1048576: true; the input reads as it did. -/
def shardBackUptoRow : OpenClaim := { program := "ytppmjbnhghaffaa", sum := "c96f167669938eb5a456c2b05b0a965d82409c4044290eb66fc7dce87479fcee", func := "doorman/doormanlaw31.ShardBack", spec := "shardBack", unfollowed := true, recurses := true, plainKeys := false, apart := false, narrowed := true }
def ShardBackUptoSaid : Prop := shardBackUptoRow.holds Try.pinned (OpenSpec.upto shardBackSpec)

/-- 'doormanlaw31.ShardWrites', WHERE WHAT IT READS IS OF BULK AT MOST 1048576: true; the input reads as it did. -/
def shardWritesUptoRow : OpenClaim := { program := "ytppmjbnhghaffaa", sum := "c96f167669938eb5a456c2b05b0a965d82409c4044290eb66fc7dce87479fcee", func := "doorman/doormanlaw31.ShardWrites", spec := "shardWrites", unfollowed := true, recurses := true, plainKeys := false, apart := false, narrowed := true }
def ShardWritesUptoSaid : Prop := shardWritesUptoRow.holds Try.pinned (OpenSpec.upto shardWritesSpec)

/-- 'doormanlaw30.TableStays', WHERE WHAT IT READS IS OF BULK AT MOST 1048576: true; the input reads as it did. -/
def tableStaysUptoRow : OpenClaim := { program := "ytppmjbnhghaffaa", sum := "c96f167669938eb5a456c2b05b0a965d82409c4044290eb66fc7dce87479fcee", func := "doorman/doormanlaw30.TableStays", spec := "tableStays", inPlace := ["slices.overlaps[doorman/api.Peer]"], unfollowed := true, recurses := true, plainKeys := false, apart := false, narrowed := true }
def TableStaysUptoSaid : Prop := tableStaysUptoRow.holds Try.pinned (OpenSpec.upto tableStaysSpec)

/-- 'doormanlaw30.TableTells', WHERE WHAT IT READS IS OF BULK AT MOST 1048576: true; the input reads as it did. -/
def tableTellsUptoRow : OpenClaim := { program := "ytppmjbnhghaffaa", sum := "c96f167669938eb5a456c2b05b0a965d82409c4044290eb66fc7dce87479fcee", func := "doorman/doormanlaw30.TableTells", spec := "tableTells", inPlace := ["slices.overlaps[doorman/api.Peer]"], unfollowed := true, recurses := true, plainKeys := false, apart := false, narrowed := true }
def TableTellsUptoSaid : Prop := tableTellsUptoRow.holds Try.pinned (OpenSpec.upto tableTellsSpec)

/-- 'doormanlaw22.SiegeTells', WHERE WHAT IT READS IS OF BULK AT MOST 1048576: true; the input reads as it did. -/
def siegeTellsUptoRow : OpenClaim := { program := "ytppmjbnhghaffaa", sum := "c96f167669938eb5a456c2b05b0a965d82409c4044290eb66fc7dce87479fcee", func := "doorman/doormanlaw22.SiegeTells", spec := "siegeTells", unfollowed := true, recurses := true, plainKeys := false, apart := false, narrowed := true }
def SiegeTellsUptoSaid : Prop := siegeTellsUptoRow.holds Try.pinned (OpenSpec.upto siegeTellsSpec)

/-- 'doormanlaw22.SiegeStays', WHERE WHAT IT READS IS OF BULK AT MOST 1048576: true; the input reads as it did. -/
def siegeStaysUptoRow : OpenClaim := { program := "ytppmjbnhghaffaa", sum := "c96f167669938eb5a456c2b05b0a965d82409c4044290eb66fc7dce87479fcee", func := "doorman/doormanlaw22.SiegeStays", spec := "siegeStays", unfollowed := true, recurses := true, plainKeys := false, apart := false, narrowed := true }
def SiegeStaysUptoSaid : Prop := siegeStaysUptoRow.holds Try.pinned (OpenSpec.upto siegeStaysSpec)

/-- 'doormanlaw22.SiegeSlow', WHERE WHAT IT READS IS OF BULK AT MOST 1048576: true; the input reads as it did. -/
def siegeSlowUptoRow : OpenClaim := { program := "ytppmjbnhghaffaa", sum := "c96f167669938eb5a456c2b05b0a965d82409c4044290eb66fc7dce87479fcee", func := "doorman/doormanlaw22.SiegeSlow", spec := "siegeSlow", unfollowed := true, recurses := true, plainKeys := false, apart := false, narrowed := true }
def SiegeSlowUptoSaid : Prop := siegeSlowUptoRow.holds Try.pinned (OpenSpec.upto siegeSlowSpec)

end Rows
end Go.Proofs.Ytppmjbnhghaffaa
