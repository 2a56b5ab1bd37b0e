/-
  No cell of these rows narrows 'for every input' (looked for: loops, veiled, ifaces, maps, wideKeys, modest, calm, conditions, laid).
  DERIVED. THE GIVEN ROWS OF THIS SEAT. 3 by the template 'for every input the law returns true; each argument reads behind the call as it read before'; 0 by the template 'total and deterministic' (their statements: YtdmobgdgeiiicaaTotals.lean).
  GIVEN WITH THE SEED: the statements are not yours to turn. If you find one false, say at which input.
  Laid BY PROGRAM, IN A SANDBOX (cutbox-rows.mjs): the forced cells as the released guide's own fill.sh prints them over the translation 96e75449980e2761… (all of the seat's roots in one cut). By AI agents, Wed Nov 11 2026. No macro, syntax, notation, axiom, sorry.
-/
import Derived.Test.YtdmobgdgeiiicaaChecked
import GoSem.Claim
import GoSem.ClaimJoined
import GoSem.ClaimMapViews
import Derived.JoinedTies
import Derived.KernelRfl
namespace Go.Proofs.Ytdmobgdgeiiicaa
/- THE CELL 'sum', in the pinned program and in every row, IS THE sha256 OF THE DUMP (.gsa) THAT YtdmobgdgeiiicaaProg.lean LOADS. Nothing in Lean hashes anything: it is a label: what it is worth is what the hold of that sum in a sandbox is worth. -/
noncomputable def Try.pinned : Pinned := { name := "ytdmobgdgeiiicaa", sum := "96e75449980e276186c4aa277f91cdaf2f766e4885afd96c932ba2127d90fc2f", checked := Try.checked }
namespace Rows
def none {H : Type} : Left H := { results := [], args := [] }

/-- 'doormanlaw12.BanBack': WHATEVER THE INPUT: true; the input reads as it did. -/
def banBackSpec : ChangeSpec := { name := "banBack", fn := fun _ => fun
  | [d1, d2, d3] => { results := [.lit (.bool true)], args := [d1, d2, d3] }
  | _ => none }
def banBackRow : OpenClaim := { program := "ytdmobgdgeiiicaa", sum := "96e75449980e276186c4aa277f91cdaf2f766e4885afd96c932ba2127d90fc2f", func := "doorman/doormanlaw12.BanBack", spec := "banBack", inPlace := ["internal/abi.NoEscape", "internal/bytealg.MakeNoZero", "internal/bytealg.IndexByteString", "internal/bytealg.IndexString"], named := ["internal/bytealg.MaxLen"], apart := false }
def BanBackSaid : Prop := banBackRow.holds Try.pinned (OpenSpec.ofChange banBackSpec)

/-- ITS FALSE NEIGHBOUR: 'it returns false'. Refute it at one input. -/
def banBackWrong : ChangeSpec := { name := "banBack", fn := fun _ => fun
  | [d1, d2, d3] => { results := [.lit (.bool false)], args := [d1, d2, d3] }
  | _ => none }
def BanBackWrongFalsely : Prop := banBackRow.holds Try.pinned (OpenSpec.ofChange banBackWrong)

/-- 'doormanlaw12.BanTells': WHATEVER THE INPUT: true; the input reads as it did. -/
def banTellsSpec : ChangeSpec := { name := "banTells", fn := fun _ => fun
  | [d1, d2, d3] => { results := [.lit (.bool true)], args := [d1, d2, d3] }
  | _ => none }
def banTellsRow : OpenClaim := { program := "ytdmobgdgeiiicaa", sum := "96e75449980e276186c4aa277f91cdaf2f766e4885afd96c932ba2127d90fc2f", func := "doorman/doormanlaw12.BanTells", spec := "banTells", inPlace := ["internal/bytealg.IndexByteString", "internal/bytealg.IndexString", "internal/abi.NoEscape", "internal/bytealg.MakeNoZero"], recurses := true, named := ["internal/bytealg.MaxLen"], apart := false }
def BanTellsSaid : Prop := banTellsRow.holds Try.pinned (OpenSpec.ofChange banTellsSpec)

/-- ITS FALSE NEIGHBOUR: 'it returns false'. Refute it at one input. -/
def banTellsWrong : ChangeSpec := { name := "banTells", fn := fun _ => fun
  | [d1, d2, d3] => { results := [.lit (.bool false)], args := [d1, d2, d3] }
  | _ => none }
def BanTellsWrongFalsely : Prop := banTellsRow.holds Try.pinned (OpenSpec.ofChange banTellsWrong)

/-- 'doormanlaw14.BanfileBack': WHATEVER THE INPUT: true; the input reads as it did. -/
def banfileBackSpec : ChangeSpec := { name := "banfileBack", fn := fun _ => fun
  | [d1, d2] => { results := [.lit (.bool true)], args := [d1, d2] }
  | _ => none }
def banfileBackRow : OpenClaim := { program := "ytdmobgdgeiiicaa", sum := "96e75449980e276186c4aa277f91cdaf2f766e4885afd96c932ba2127d90fc2f", func := "doorman/doormanlaw14.BanfileBack", spec := "banfileBack", inPlace := ["internal/bytealg.CountString", "internal/bytealg.IndexByteString", "internal/bytealg.IndexString", "internal/abi.NoEscape", "internal/bytealg.MakeNoZero", "slices.overlaps[doorman/api.Ban]"], unfollowed := true, recurses := true, named := ["internal/bytealg.MaxLen"], apart := false }
def BanfileBackSaid : Prop := banfileBackRow.holds Try.pinned (OpenSpec.ofChange banfileBackSpec)

/-- ITS FALSE NEIGHBOUR: 'it returns false'. Refute it at one input. -/
def banfileBackWrong : ChangeSpec := { name := "banfileBack", fn := fun _ => fun
  | [d1, d2] => { results := [.lit (.bool false)], args := [d1, d2] }
  | _ => none }
def BanfileBackWrongFalsely : Prop := banfileBackRow.holds Try.pinned (OpenSpec.ofChange banfileBackWrong)

/- THE SECOND FORM. 'bulk': how many values and letters a reading holds, each counted each time it is reached (what is shared counts as often as it is met; a slice's spare places count too). A statement '..UptoSaid' is the law's where the arguments, and the package variables that the reading takes, are together of bulk at most 1048576: NARROWER than '..Said'. Prove '..Said' where nothing that the law and all that it calls make is longer than what came in: it says more and counts as full. Else prove '..UptoSaid'. A law counts once. -/
mutual
def uptoBulk {H : Type} : DataW H → Nat
  | .lit (.string bytes) => bytes.length + 1
  | .lit _ => 1
  | .nil => 1
  | .ptr d => uptoBulk d + 1
  | .slice elems spare => uptoBulkAll elems + uptoBulkAll spare + 1
  | .agg parts => uptoBulkAll parts + 1
  | .iface _ d => uptoBulk d + 1
  | .map entries => uptoBulkEntries entries + 1
  | .held _ => 1
def uptoBulkAll {H : Type} : List (DataW H) → Nat
  | [] => 0
  | d :: r => uptoBulk d + uptoBulkAll r
def uptoBulkEntries {H : Type} : List (Lit × DataW H) → Nat
  | [] => 0
  | x :: r => uptoBulkEntry x + uptoBulkEntries r
def uptoBulkEntry {H : Type} : Lit × DataW H → Nat
  | (.string bytes, d) => bytes.length + uptoBulk d + 1
  | (_, d) => uptoBulk d + 1
 end
def uptoSmall : (H : Type) → List (DataW H) → Bool := fun _ ds => decide (uptoBulkAll ds ≤ 1048576)
def OpenSpec.upto (s : _root_.Go.ChangeSpec) : _root_.Go.OpenSpec := { _root_.Go.OpenSpec.ofChange s with cond := some uptoSmall }

/-- 'doormanlaw12.BanBack', WHERE WHAT IT READS IS OF BULK AT MOST 1048576: true; the input reads as it did. -/
def banBackUptoRow : OpenClaim := { program := "ytdmobgdgeiiicaa", sum := "96e75449980e276186c4aa277f91cdaf2f766e4885afd96c932ba2127d90fc2f", func := "doorman/doormanlaw12.BanBack", spec := "banBack", inPlace := ["internal/abi.NoEscape", "internal/bytealg.MakeNoZero", "internal/bytealg.IndexByteString", "internal/bytealg.IndexString"], named := ["internal/bytealg.MaxLen"], apart := false, narrowed := true }
def BanBackUptoSaid : Prop := banBackUptoRow.holds Try.pinned (OpenSpec.upto banBackSpec)

/-- 'doormanlaw12.BanTells', WHERE WHAT IT READS IS OF BULK AT MOST 1048576: true; the input reads as it did. -/
def banTellsUptoRow : OpenClaim := { program := "ytdmobgdgeiiicaa", sum := "96e75449980e276186c4aa277f91cdaf2f766e4885afd96c932ba2127d90fc2f", func := "doorman/doormanlaw12.BanTells", spec := "banTells", inPlace := ["internal/bytealg.IndexByteString", "internal/bytealg.IndexString", "internal/abi.NoEscape", "internal/bytealg.MakeNoZero"], recurses := true, named := ["internal/bytealg.MaxLen"], apart := false, narrowed := true }
def BanTellsUptoSaid : Prop := banTellsUptoRow.holds Try.pinned (OpenSpec.upto banTellsSpec)

/-- 'doormanlaw14.BanfileBack', WHERE WHAT IT READS IS OF BULK AT MOST 1048576: true; the input reads as it did. -/
def banfileBackUptoRow : OpenClaim := { program := "ytdmobgdgeiiicaa", sum := "96e75449980e276186c4aa277f91cdaf2f766e4885afd96c932ba2127d90fc2f", func := "doorman/doormanlaw14.BanfileBack", spec := "banfileBack", inPlace := ["internal/bytealg.CountString", "internal/bytealg.IndexByteString", "internal/bytealg.IndexString", "internal/abi.NoEscape", "internal/bytealg.MakeNoZero", "slices.overlaps[doorman/api.Ban]"], unfollowed := true, recurses := true, named := ["internal/bytealg.MaxLen"], apart := false, narrowed := true }
def BanfileBackUptoSaid : Prop := banfileBackUptoRow.holds Try.pinned (OpenSpec.upto banfileBackSpec)

end Rows
end Go.Proofs.Ytdmobgdgeiiicaa
