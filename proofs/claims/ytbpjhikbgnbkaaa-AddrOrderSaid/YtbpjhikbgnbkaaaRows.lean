/-
  No cell of these rows narrows 'for every input' (looked for: loops, veiled, ifaces, maps, wideKeys, modest, calm, conditions, laid).
  DERIVED. THE GIVEN ROWS OF THIS SEAT. 11 by the template 'for every input the law returns true; each argument reads behind the call as it read before'; 0 by the template 'total and deterministic' (their statements: YtbpjhikbgnbkaaaTotals.lean).
  GIVEN WITH THE SEED: the statements are not yours to turn. If you find one false, say at which input.
  Laid BY PROGRAM, IN A SANDBOX (cutbox-rows.mjs): the forced cells as the released guide's own fill.sh prints them over the translation 6a2605deb958bcc3… (all of the seat's roots in one cut). By AI agents, Wed Nov 11 2026. No macro, syntax, notation, axiom, sorry.
-/
import Derived.Test.YtbpjhikbgnbkaaaChecked
import GoSem.Claim
import GoSem.ClaimJoined
import GoSem.ClaimMapViews
import Derived.JoinedTies
import Derived.KernelRfl
namespace Go.Proofs.Ytbpjhikbgnbkaaa
/- THE CELL 'sum', in the pinned program and in every row, IS THE sha256 OF THE DUMP (.gsa) THAT YtbpjhikbgnbkaaaProg.lean LOADS. Nothing in Lean hashes anything: it is a label: what it is worth is what the hold of that sum in a sandbox is worth. -/
noncomputable def Try.pinned : Pinned := { name := "ytbpjhikbgnbkaaa", sum := "6a2605deb958bcc3e1fb17c4203d7e6a6f853ea0d7f0fc34f38ed2ae00e41550", checked := Try.checked }
namespace Rows
def none {H : Type} : Left H := { results := [], args := [] }

/-- 'doormanlaw04.Ipv4Tells': WHATEVER THE INPUT: true; the input reads as it did. -/
def ipv4TellsSpec : ChangeSpec := { name := "ipv4Tells", fn := fun _ => fun
  | [d1, d2] => { results := [.lit (.bool true)], args := [d1, d2] }
  | _ => none }
def ipv4TellsRow : OpenClaim := { program := "ytbpjhikbgnbkaaa", sum := "6a2605deb958bcc3e1fb17c4203d7e6a6f853ea0d7f0fc34f38ed2ae00e41550", func := "doorman/doormanlaw04.Ipv4Tells", spec := "ipv4Tells", inPlace := ["internal/bytealg.IndexByteString", "internal/abi.NoEscape", "internal/bytealg.MakeNoZero"], recurses := true, apart := false }
def Ipv4TellsSaid : Prop := ipv4TellsRow.holds Try.pinned (OpenSpec.ofChange ipv4TellsSpec)

/-- ITS FALSE NEIGHBOUR: 'it returns false'. Refute it at one input. -/
def ipv4TellsWrong : ChangeSpec := { name := "ipv4Tells", fn := fun _ => fun
  | [d1, d2] => { results := [.lit (.bool false)], args := [d1, d2] }
  | _ => none }
def Ipv4TellsWrongFalsely : Prop := ipv4TellsRow.holds Try.pinned (OpenSpec.ofChange ipv4TellsWrong)

/-- 'doormanlaw04.Ipv4Back': WHATEVER THE INPUT: true; the input reads as it did. -/
def ipv4BackSpec : ChangeSpec := { name := "ipv4Back", fn := fun _ => fun
  | [d1, d2] => { results := [.lit (.bool true)], args := [d1, d2] }
  | _ => none }
def ipv4BackRow : OpenClaim := { program := "ytbpjhikbgnbkaaa", sum := "6a2605deb958bcc3e1fb17c4203d7e6a6f853ea0d7f0fc34f38ed2ae00e41550", func := "doorman/doormanlaw04.Ipv4Back", spec := "ipv4Back", inPlace := ["internal/abi.NoEscape", "internal/bytealg.MakeNoZero", "internal/bytealg.IndexByteString"], apart := false }
def Ipv4BackSaid : Prop := ipv4BackRow.holds Try.pinned (OpenSpec.ofChange ipv4BackSpec)

/-- ITS FALSE NEIGHBOUR: 'it returns false'. Refute it at one input. -/
def ipv4BackWrong : ChangeSpec := { name := "ipv4Back", fn := fun _ => fun
  | [d1, d2] => { results := [.lit (.bool false)], args := [d1, d2] }
  | _ => none }
def Ipv4BackWrongFalsely : Prop := ipv4BackRow.holds Try.pinned (OpenSpec.ofChange ipv4BackWrong)

/-- 'doormanlaw03.WordsTells': WHATEVER THE INPUT: true; the input reads as it did. -/
def wordsTellsSpec : ChangeSpec := { name := "wordsTells", fn := fun _ => fun
  | [d1, d2, d3] => { results := [.lit (.bool true)], args := [d1, d2, d3] }
  | _ => none }
def wordsTellsRow : OpenClaim := { program := "ytbpjhikbgnbkaaa", sum := "6a2605deb958bcc3e1fb17c4203d7e6a6f853ea0d7f0fc34f38ed2ae00e41550", func := "doorman/doormanlaw03.WordsTells", spec := "wordsTells", inPlace := ["internal/bytealg.CountString", "internal/bytealg.IndexByteString", "internal/bytealg.IndexString", "internal/abi.NoEscape", "internal/bytealg.MakeNoZero"], named := ["internal/bytealg.MaxLen"], apart := false }
def WordsTellsSaid : Prop := wordsTellsRow.holds Try.pinned (OpenSpec.ofChange wordsTellsSpec)

/-- ITS FALSE NEIGHBOUR: 'it returns false'. Refute it at one input. -/
def wordsTellsWrong : ChangeSpec := { name := "wordsTells", fn := fun _ => fun
  | [d1, d2, d3] => { results := [.lit (.bool false)], args := [d1, d2, d3] }
  | _ => none }
def WordsTellsWrongFalsely : Prop := wordsTellsRow.holds Try.pinned (OpenSpec.ofChange wordsTellsWrong)

/-- 'doormanlaw03.WordsLines': WHATEVER THE INPUT: true; the input reads as it did. -/
def wordsLinesSpec : ChangeSpec := { name := "wordsLines", fn := fun _ => fun
  | [d] => { results := [.lit (.bool true)], args := [d] }
  | _ => none }
def wordsLinesRow : OpenClaim := { program := "ytbpjhikbgnbkaaa", sum := "6a2605deb958bcc3e1fb17c4203d7e6a6f853ea0d7f0fc34f38ed2ae00e41550", func := "doorman/doormanlaw03.WordsLines", spec := "wordsLines", inPlace := ["internal/bytealg.CountString", "internal/bytealg.IndexByteString", "internal/bytealg.IndexString", "internal/abi.NoEscape", "internal/bytealg.MakeNoZero"], named := ["internal/bytealg.MaxLen"], apart := false }
def WordsLinesSaid : Prop := wordsLinesRow.holds Try.pinned (OpenSpec.ofChange wordsLinesSpec)

/-- ITS FALSE NEIGHBOUR: 'it returns false'. Refute it at one input. -/
def wordsLinesWrong : ChangeSpec := { name := "wordsLines", fn := fun _ => fun
  | [d] => { results := [.lit (.bool false)], args := [d] }
  | _ => none }
def WordsLinesWrongFalsely : Prop := wordsLinesRow.holds Try.pinned (OpenSpec.ofChange wordsLinesWrong)

/-- 'doormanlaw03.WordsBack': WHATEVER THE INPUT: true; the input reads as it did. -/
def wordsBackSpec : ChangeSpec := { name := "wordsBack", fn := fun _ => fun
  | [d1, d2, d3] => { results := [.lit (.bool true)], args := [d1, d2, d3] }
  | _ => none }
def wordsBackRow : OpenClaim := { program := "ytbpjhikbgnbkaaa", sum := "6a2605deb958bcc3e1fb17c4203d7e6a6f853ea0d7f0fc34f38ed2ae00e41550", func := "doorman/doormanlaw03.WordsBack", spec := "wordsBack", inPlace := ["internal/bytealg.CountString", "internal/bytealg.IndexByteString", "internal/bytealg.IndexString", "internal/abi.NoEscape", "internal/bytealg.MakeNoZero"], named := ["internal/bytealg.MaxLen"], apart := false }
def WordsBackSaid : Prop := wordsBackRow.holds Try.pinned (OpenSpec.ofChange wordsBackSpec)

/-- ITS FALSE NEIGHBOUR: 'it returns false'. Refute it at one input. -/
def wordsBackWrong : ChangeSpec := { name := "wordsBack", fn := fun _ => fun
  | [d1, d2, d3] => { results := [.lit (.bool false)], args := [d1, d2, d3] }
  | _ => none }
def WordsBackWrongFalsely : Prop := wordsBackRow.holds Try.pinned (OpenSpec.ofChange wordsBackWrong)

/-- 'doormanlaw05.Ipv6Tells': WHATEVER THE INPUT: true; the input reads as it did. -/
def ipv6TellsSpec : ChangeSpec := { name := "ipv6Tells", fn := fun _ => fun
  | [d1, d2, d3] => { results := [.lit (.bool true)], args := [d1, d2, d3] }
  | _ => none }
def ipv6TellsRow : OpenClaim := { program := "ytbpjhikbgnbkaaa", sum := "6a2605deb958bcc3e1fb17c4203d7e6a6f853ea0d7f0fc34f38ed2ae00e41550", func := "doorman/doormanlaw05.Ipv6Tells", spec := "ipv6Tells", inPlace := ["internal/bytealg.IndexByteString", "internal/bytealg.IndexString", "internal/abi.NoEscape", "internal/bytealg.MakeNoZero"], recurses := true, named := ["internal/bytealg.MaxLen"], apart := false }
def Ipv6TellsSaid : Prop := ipv6TellsRow.holds Try.pinned (OpenSpec.ofChange ipv6TellsSpec)

/-- ITS FALSE NEIGHBOUR: 'it returns false'. Refute it at one input. -/
def ipv6TellsWrong : ChangeSpec := { name := "ipv6Tells", fn := fun _ => fun
  | [d1, d2, d3] => { results := [.lit (.bool false)], args := [d1, d2, d3] }
  | _ => none }
def Ipv6TellsWrongFalsely : Prop := ipv6TellsRow.holds Try.pinned (OpenSpec.ofChange ipv6TellsWrong)

/-- 'doormanlaw05.Ipv6Back': WHATEVER THE INPUT: true; the input reads as it did. -/
def ipv6BackSpec : ChangeSpec := { name := "ipv6Back", fn := fun _ => fun
  | [d1, d2] => { results := [.lit (.bool true)], args := [d1, d2] }
  | _ => none }
def ipv6BackRow : OpenClaim := { program := "ytbpjhikbgnbkaaa", sum := "6a2605deb958bcc3e1fb17c4203d7e6a6f853ea0d7f0fc34f38ed2ae00e41550", func := "doorman/doormanlaw05.Ipv6Back", spec := "ipv6Back", inPlace := ["internal/abi.NoEscape", "internal/bytealg.MakeNoZero", "internal/bytealg.IndexByteString", "internal/bytealg.IndexString"], recurses := true, named := ["internal/bytealg.MaxLen"], apart := false }
def Ipv6BackSaid : Prop := ipv6BackRow.holds Try.pinned (OpenSpec.ofChange ipv6BackSpec)

/-- ITS FALSE NEIGHBOUR: 'it returns false'. Refute it at one input. -/
def ipv6BackWrong : ChangeSpec := { name := "ipv6Back", fn := fun _ => fun
  | [d1, d2] => { results := [.lit (.bool false)], args := [d1, d2] }
  | _ => none }
def Ipv6BackWrongFalsely : Prop := ipv6BackRow.holds Try.pinned (OpenSpec.ofChange ipv6BackWrong)

/-- 'doormanlaw05.Ipv6Short': WHATEVER THE INPUT: true; the input reads as it did. -/
def ipv6ShortSpec : ChangeSpec := { name := "ipv6Short", fn := fun _ => fun
  | [d1, d2, d3] => { results := [.lit (.bool true)], args := [d1, d2, d3] }
  | _ => none }
def ipv6ShortRow : OpenClaim := { program := "ytbpjhikbgnbkaaa", sum := "6a2605deb958bcc3e1fb17c4203d7e6a6f853ea0d7f0fc34f38ed2ae00e41550", func := "doorman/doormanlaw05.Ipv6Short", spec := "ipv6Short", inPlace := ["internal/abi.NoEscape", "internal/bytealg.MakeNoZero", "internal/bytealg.IndexByteString", "internal/bytealg.IndexString"], recurses := true, named := ["internal/bytealg.MaxLen"], apart := false }
def Ipv6ShortSaid : Prop := ipv6ShortRow.holds Try.pinned (OpenSpec.ofChange ipv6ShortSpec)

/-- ITS FALSE NEIGHBOUR: 'it returns false'. Refute it at one input. -/
def ipv6ShortWrong : ChangeSpec := { name := "ipv6Short", fn := fun _ => fun
  | [d1, d2, d3] => { results := [.lit (.bool false)], args := [d1, d2, d3] }
  | _ => none }
def Ipv6ShortWrongFalsely : Prop := ipv6ShortRow.holds Try.pinned (OpenSpec.ofChange ipv6ShortWrong)

/-- 'doormanlaw06.AddrTells': WHATEVER THE INPUT: true; the input reads as it did. -/
def addrTellsSpec : ChangeSpec := { name := "addrTells", fn := fun _ => fun
  | [d1, d2, d3] => { results := [.lit (.bool true)], args := [d1, d2, d3] }
  | _ => none }
def addrTellsRow : OpenClaim := { program := "ytbpjhikbgnbkaaa", sum := "6a2605deb958bcc3e1fb17c4203d7e6a6f853ea0d7f0fc34f38ed2ae00e41550", func := "doorman/doormanlaw06.AddrTells", spec := "addrTells", inPlace := ["internal/bytealg.IndexByteString", "internal/bytealg.IndexString", "internal/abi.NoEscape", "internal/bytealg.MakeNoZero"], recurses := true, named := ["internal/bytealg.MaxLen"], apart := false }
def AddrTellsSaid : Prop := addrTellsRow.holds Try.pinned (OpenSpec.ofChange addrTellsSpec)

/-- ITS FALSE NEIGHBOUR: 'it returns false'. Refute it at one input. -/
def addrTellsWrong : ChangeSpec := { name := "addrTells", fn := fun _ => fun
  | [d1, d2, d3] => { results := [.lit (.bool false)], args := [d1, d2, d3] }
  | _ => none }
def AddrTellsWrongFalsely : Prop := addrTellsRow.holds Try.pinned (OpenSpec.ofChange addrTellsWrong)

/-- 'doormanlaw06.AddrBack': WHATEVER THE INPUT: true; the input reads as it did. -/
def addrBackSpec : ChangeSpec := { name := "addrBack", fn := fun _ => fun
  | [d1, d2, d3] => { results := [.lit (.bool true)], args := [d1, d2, d3] }
  | _ => none }
def addrBackRow : OpenClaim := { program := "ytbpjhikbgnbkaaa", sum := "6a2605deb958bcc3e1fb17c4203d7e6a6f853ea0d7f0fc34f38ed2ae00e41550", func := "doorman/doormanlaw06.AddrBack", spec := "addrBack", inPlace := ["internal/bytealg.IndexByteString", "internal/bytealg.IndexString", "internal/abi.NoEscape", "internal/bytealg.MakeNoZero"], named := ["internal/bytealg.MaxLen"], apart := false }
def AddrBackSaid : Prop := addrBackRow.holds Try.pinned (OpenSpec.ofChange addrBackSpec)

/-- ITS FALSE NEIGHBOUR: 'it returns false'. Refute it at one input. -/
def addrBackWrong : ChangeSpec := { name := "addrBack", fn := fun _ => fun
  | [d1, d2, d3] => { results := [.lit (.bool false)], args := [d1, d2, d3] }
  | _ => none }
def AddrBackWrongFalsely : Prop := addrBackRow.holds Try.pinned (OpenSpec.ofChange addrBackWrong)

/-- 'doormanlaw06.AddrOrder': WHATEVER THE INPUT: true; the input reads as it did. -/
def addrOrderSpec : ChangeSpec := { name := "addrOrder", fn := fun _ => fun
  | [d1, d2, d3] => { results := [.lit (.bool true)], args := [d1, d2, d3] }
  | _ => none }
def addrOrderRow : OpenClaim := { program := "ytbpjhikbgnbkaaa", sum := "6a2605deb958bcc3e1fb17c4203d7e6a6f853ea0d7f0fc34f38ed2ae00e41550", func := "doorman/doormanlaw06.AddrOrder", spec := "addrOrder", inPlace := ["internal/bytealg.IndexByteString", "internal/bytealg.IndexString", "internal/abi.NoEscape", "internal/bytealg.MakeNoZero"], named := ["internal/bytealg.MaxLen"], apart := false }
def AddrOrderSaid : Prop := addrOrderRow.holds Try.pinned (OpenSpec.ofChange addrOrderSpec)

/-- ITS FALSE NEIGHBOUR: 'it returns false'. Refute it at one input. -/
def addrOrderWrong : ChangeSpec := { name := "addrOrder", fn := fun _ => fun
  | [d1, d2, d3] => { results := [.lit (.bool false)], args := [d1, d2, d3] }
  | _ => none }
def AddrOrderWrongFalsely : Prop := addrOrderRow.holds Try.pinned (OpenSpec.ofChange addrOrderWrong)

/- THE SECOND FORM. 'bulk': how many values and letters a reading holds, each counted each time it is reached (what is shared counts as often as it is met; a slice's spare places count too). A statement '..UptoSaid' is the law's where the arguments, and the package variables that the reading takes, are together of bulk at most 1048576: NARROWER than '..Said'. Prove '..Said' where nothing that the law and all that it calls make is longer than what came in: it says more and counts as full. Else prove '..UptoSaid'. A law counts once. -/
mutual
def uptoBulk {H : Type} : DataW H → Nat
  | .lit (.string bytes) => bytes.length + 1
  | .lit _ => 1
  | .nil => 1
  | .ptr d => uptoBulk d + 1
  | .slice elems spare => uptoBulkAll elems + uptoBulkAll spare + 1
  | .agg parts => uptoBulkAll parts + 1
  | .iface _ d => uptoBulk d + 1
  | .map entries => uptoBulkEntries entries + 1
  | .held _ => 1
def uptoBulkAll {H : Type} : List (DataW H) → Nat
  | [] => 0
  | d :: r => uptoBulk d + uptoBulkAll r
def uptoBulkEntries {H : Type} : List (Lit × DataW H) → Nat
  | [] => 0
  | x :: r => uptoBulkEntry x + uptoBulkEntries r
def uptoBulkEntry {H : Type} : Lit × DataW H → Nat
  | (.string bytes, d) => bytes.length + uptoBulk d + 1
  | (_, d) => uptoBulk d + 1
 end
def uptoSmall : (H : Type) → List (DataW H) → Bool := fun _ ds => decide (uptoBulkAll ds ≤ 1048576)
def OpenSpec.upto (s : _root_.Go.ChangeSpec) : _root_.Go.OpenSpec := { _root_.Go.OpenSpec.ofChange s with cond := some uptoSmall }

/-- 'doormanlaw04.Ipv4Tells', WHERE WHAT IT READS IS OF BULK AT MOST 1048576: true; the input reads as it did. -/
def ipv4TellsUptoRow : OpenClaim := { program := "ytbpjhikbgnbkaaa", sum := "6a2605deb958bcc3e1fb17c4203d7e6a6f853ea0d7f0fc34f38ed2ae00e41550", func := "doorman/doormanlaw04.Ipv4Tells", spec := "ipv4Tells", inPlace := ["internal/bytealg.IndexByteString", "internal/abi.NoEscape", "internal/bytealg.MakeNoZero"], recurses := true, apart := false, narrowed := true }
def Ipv4TellsUptoSaid : Prop := ipv4TellsUptoRow.holds Try.pinned (OpenSpec.upto ipv4TellsSpec)

/-- 'doormanlaw04.Ipv4Back', WHERE WHAT IT READS IS OF BULK AT MOST 1048576: true; the input reads as it did. -/
def ipv4BackUptoRow : OpenClaim := { program := "ytbpjhikbgnbkaaa", sum := "6a2605deb958bcc3e1fb17c4203d7e6a6f853ea0d7f0fc34f38ed2ae00e41550", func := "doorman/doormanlaw04.Ipv4Back", spec := "ipv4Back", inPlace := ["internal/abi.NoEscape", "internal/bytealg.MakeNoZero", "internal/bytealg.IndexByteString"], apart := false, narrowed := true }
def Ipv4BackUptoSaid : Prop := ipv4BackUptoRow.holds Try.pinned (OpenSpec.upto ipv4BackSpec)

/-- 'doormanlaw03.WordsTells', WHERE WHAT IT READS IS OF BULK AT MOST 1048576: true; the input reads as it did. -/
def wordsTellsUptoRow : OpenClaim := { program := "ytbpjhikbgnbkaaa", sum := "6a2605deb958bcc3e1fb17c4203d7e6a6f853ea0d7f0fc34f38ed2ae00e41550", func := "doorman/doormanlaw03.WordsTells", spec := "wordsTells", inPlace := ["internal/bytealg.CountString", "internal/bytealg.IndexByteString", "internal/bytealg.IndexString", "internal/abi.NoEscape", "internal/bytealg.MakeNoZero"], named := ["internal/bytealg.MaxLen"], apart := false, narrowed := true }
def WordsTellsUptoSaid : Prop := wordsTellsUptoRow.holds Try.pinned (OpenSpec.upto wordsTellsSpec)

/-- 'doormanlaw03.WordsLines', WHERE WHAT IT READS IS OF BULK AT MOST 1048576: true; the input reads as it did. -/
def wordsLinesUptoRow : OpenClaim := { program := "ytbpjhikbgnbkaaa", sum := "6a2605deb958bcc3e1fb17c4203d7e6a6f853ea0d7f0fc34f38ed2ae00e41550", func := "doorman/doormanlaw03.WordsLines", spec := "wordsLines", inPlace := ["internal/bytealg.CountString", "internal/bytealg.IndexByteString", "internal/bytealg.IndexString", "internal/abi.NoEscape", "internal/bytealg.MakeNoZero"], named := ["internal/bytealg.MaxLen"], apart := false, narrowed := true }
def WordsLinesUptoSaid : Prop := wordsLinesUptoRow.holds Try.pinned (OpenSpec.upto wordsLinesSpec)

/-- 'doormanlaw03.WordsBack', WHERE WHAT IT READS IS OF BULK AT MOST 1048576: true; the input reads as it did. -/
def wordsBackUptoRow : OpenClaim := { program := "ytbpjhikbgnbkaaa", sum := "6a2605deb958bcc3e1fb17c4203d7e6a6f853ea0d7f0fc34f38ed2ae00e41550", func := "doorman/doormanlaw03.WordsBack", spec := "wordsBack", inPlace := ["internal/bytealg.CountString", "internal/bytealg.IndexByteString", "internal/bytealg.IndexString", "internal/abi.NoEscape", "internal/bytealg.MakeNoZero"], named := ["internal/bytealg.MaxLen"], apart := false, narrowed := true }
def WordsBackUptoSaid : Prop := wordsBackUptoRow.holds Try.pinned (OpenSpec.upto wordsBackSpec)

/-- 'doormanlaw05.Ipv6Tells', WHERE WHAT IT READS IS OF BULK AT MOST 1048576: true; the input reads as it did. -/
def ipv6TellsUptoRow : OpenClaim := { program := "ytbpjhikbgnbkaaa", sum := "6a2605deb958bcc3e1fb17c4203d7e6a6f853ea0d7f0fc34f38ed2ae00e41550", func := "doorman/doormanlaw05.Ipv6Tells", spec := "ipv6Tells", inPlace := ["internal/bytealg.IndexByteString", "internal/bytealg.IndexString", "internal/abi.NoEscape", "internal/bytealg.MakeNoZero"], recurses := true, named := ["internal/bytealg.MaxLen"], apart := false, narrowed := true }
def Ipv6TellsUptoSaid : Prop := ipv6TellsUptoRow.holds Try.pinned (OpenSpec.upto ipv6TellsSpec)

/-- 'doormanlaw05.Ipv6Back', WHERE WHAT IT READS IS OF BULK AT MOST 1048576: true; the input reads as it did. -/
def ipv6BackUptoRow : OpenClaim := { program := "ytbpjhikbgnbkaaa", sum := "6a2605deb958bcc3e1fb17c4203d7e6a6f853ea0d7f0fc34f38ed2ae00e41550", func := "doorman/doormanlaw05.Ipv6Back", spec := "ipv6Back", inPlace := ["internal/abi.NoEscape", "internal/bytealg.MakeNoZero", "internal/bytealg.IndexByteString", "internal/bytealg.IndexString"], recurses := true, named := ["internal/bytealg.MaxLen"], apart := false, narrowed := true }
def Ipv6BackUptoSaid : Prop := ipv6BackUptoRow.holds Try.pinned (OpenSpec.upto ipv6BackSpec)

/-- 'doormanlaw05.Ipv6Short', WHERE WHAT IT READS IS OF BULK AT MOST 1048576: true; the input reads as it did. -/
def ipv6ShortUptoRow : OpenClaim := { program := "ytbpjhikbgnbkaaa", sum := "6a2605deb958bcc3e1fb17c4203d7e6a6f853ea0d7f0fc34f38ed2ae00e41550", func := "doorman/doormanlaw05.Ipv6Short", spec := "ipv6Short", inPlace := ["internal/abi.NoEscape", "internal/bytealg.MakeNoZero", "internal/bytealg.IndexByteString", "internal/bytealg.IndexString"], recurses := true, named := ["internal/bytealg.MaxLen"], apart := false, narrowed := true }
def Ipv6ShortUptoSaid : Prop := ipv6ShortUptoRow.holds Try.pinned (OpenSpec.upto ipv6ShortSpec)

/-- 'doormanlaw06.AddrTells', WHERE WHAT IT READS IS OF BULK AT MOST 1048576: true; the input reads as it did. -/
def addrTellsUptoRow : OpenClaim := { program := "ytbpjhikbgnbkaaa", sum := "6a2605deb958bcc3e1fb17c4203d7e6a6f853ea0d7f0fc34f38ed2ae00e41550", func := "doorman/doormanlaw06.AddrTells", spec := "addrTells", inPlace := ["internal/bytealg.IndexByteString", "internal/bytealg.IndexString", "internal/abi.NoEscape", "internal/bytealg.MakeNoZero"], recurses := true, named := ["internal/bytealg.MaxLen"], apart := false, narrowed := true }
def AddrTellsUptoSaid : Prop := addrTellsUptoRow.holds Try.pinned (OpenSpec.upto addrTellsSpec)

/-- 'doormanlaw06.AddrBack', WHERE WHAT IT READS IS OF BULK AT MOST 1048576: true; the input reads as it did. -/
def addrBackUptoRow : OpenClaim := { program := "ytbpjhikbgnbkaaa", sum := "6a2605deb958bcc3e1fb17c4203d7e6a6f853ea0d7f0fc34f38ed2ae00e41550", func := "doorman/doormanlaw06.AddrBack", spec := "addrBack", inPlace := ["internal/bytealg.IndexByteString", "internal/bytealg.IndexString", "internal/abi.NoEscape", "internal/bytealg.MakeNoZero"], named := ["internal/bytealg.MaxLen"], apart := false, narrowed := true }
def AddrBackUptoSaid : Prop := addrBackUptoRow.holds Try.pinned (OpenSpec.upto addrBackSpec)

/-- 'doormanlaw06.AddrOrder', WHERE WHAT IT READS IS OF BULK AT MOST 1048576: true; the input reads as it did. -/
def addrOrderUptoRow : OpenClaim := { program := "ytbpjhikbgnbkaaa", sum := "6a2605deb958bcc3e1fb17c4203d7e6a6f853ea0d7f0fc34f38ed2ae00e41550", func := "doorman/doormanlaw06.AddrOrder", spec := "addrOrder", inPlace := ["internal/bytealg.IndexByteString", "internal/bytealg.IndexString", "internal/abi.NoEscape", "internal/bytealg.MakeNoZero"], named := ["internal/bytealg.MaxLen"], apart := false, narrowed := true }
def AddrOrderUptoSaid : Prop := addrOrderUptoRow.holds Try.pinned (OpenSpec.upto addrOrderSpec)

end Rows
end Go.Proofs.Ytbpjhikbgnbkaaa
