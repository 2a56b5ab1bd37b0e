/-
  No cell of these rows narrows 'for every input' (looked for: loops, veiled, ifaces, maps, wideKeys, modest, calm, conditions, laid).
  DERIVED. THE GIVEN ROWS OF THIS SEAT. 11 by the template 'for every input the law returns true; each argument reads behind the call as it read before'; 0 by the template 'total and deterministic' (their statements: YtnohkfbapibmdaaTotals.lean).
  GIVEN WITH THE SEED: the statements are not yours to turn. If you find one false, say at which input.
  Laid BY PROGRAM, IN A SANDBOX (cutbox-rows.mjs): the forced cells as the released guide's own fill.sh prints them over the translation 9ef04e72e657a401… (all of the seat's roots in one cut). By AI agents, Wed Nov 11 2026. No macro, syntax, notation, axiom, sorry.
-/
import Derived.Test.YtnohkfbapibmdaaChecked
import GoSem.Claim
import GoSem.ClaimJoined
import GoSem.ClaimMapViews
import Derived.JoinedTies
import Derived.KernelRfl
namespace Go.Proofs.Ytnohkfbapibmdaa
/- THE CELL 'sum', in the pinned program and in every row, IS THE sha256 OF THE DUMP (.gsa) THAT YtnohkfbapibmdaaProg.lean LOADS. Nothing in Lean hashes anything: it is a label: what it is worth is what the hold of that sum in a sandbox is worth. -/
noncomputable def Try.pinned : Pinned := { name := "ytnohkfbapibmdaa", sum := "9ef04e72e657a40121c4d2e9ef0ea37e06ab4483e09d3b2a45575209e30d696e", checked := Try.checked }
namespace Rows
def none {H : Type} : Left H := { results := [], args := [] }

/-- 'doormanlaw34.ReplyTells': WHATEVER THE INPUT: true; the input reads as it did. -/
def replyTellsSpec : ChangeSpec := { name := "replyTells", fn := fun _ => fun
  | [d] => { results := [.lit (.bool true)], args := [d] }
  | _ => none }
def replyTellsRow : OpenClaim := { program := "ytnohkfbapibmdaa", sum := "9ef04e72e657a40121c4d2e9ef0ea37e06ab4483e09d3b2a45575209e30d696e", func := "doorman/doormanlaw34.ReplyTells", spec := "replyTells", inPlace := ["internal/abi.NoEscape", "internal/bytealg.MakeNoZero"], recurses := true, apart := false }
def ReplyTellsSaid : Prop := replyTellsRow.holds Try.pinned (OpenSpec.ofChange replyTellsSpec)

/-- ITS FALSE NEIGHBOUR: 'it returns false'. Refute it at one input. -/
def replyTellsWrong : ChangeSpec := { name := "replyTells", fn := fun _ => fun
  | [d] => { results := [.lit (.bool false)], args := [d] }
  | _ => none }
def ReplyTellsWrongFalsely : Prop := replyTellsRow.holds Try.pinned (OpenSpec.ofChange replyTellsWrong)

/-- 'doormanlaw34.ReplyOne': WHATEVER THE INPUT: true; the input reads as it did. -/
def replyOneSpec : ChangeSpec := { name := "replyOne", fn := fun _ => fun
  | [d1, d2] => { results := [.lit (.bool true)], args := [d1, d2] }
  | _ => none }
def replyOneRow : OpenClaim := { program := "ytnohkfbapibmdaa", sum := "9ef04e72e657a40121c4d2e9ef0ea37e06ab4483e09d3b2a45575209e30d696e", func := "doorman/doormanlaw34.ReplyOne", spec := "replyOne", inPlace := ["internal/abi.NoEscape", "internal/bytealg.MakeNoZero"], apart := false }
def ReplyOneSaid : Prop := replyOneRow.holds Try.pinned (OpenSpec.ofChange replyOneSpec)

/-- ITS FALSE NEIGHBOUR: 'it returns false'. Refute it at one input. -/
def replyOneWrong : ChangeSpec := { name := "replyOne", fn := fun _ => fun
  | [d1, d2] => { results := [.lit (.bool false)], args := [d1, d2] }
  | _ => none }
def ReplyOneWrongFalsely : Prop := replyOneRow.holds Try.pinned (OpenSpec.ofChange replyOneWrong)

/-- 'doormanlaw17.PeerTells': WHATEVER THE INPUT: true; the input reads as it did. -/
def peerTellsSpec : ChangeSpec := { name := "peerTells", fn := fun _ => fun
  | [d1, d2, d3] => { results := [.lit (.bool true)], args := [d1, d2, d3] }
  | _ => none }
def peerTellsRow : OpenClaim := { program := "ytnohkfbapibmdaa", sum := "9ef04e72e657a40121c4d2e9ef0ea37e06ab4483e09d3b2a45575209e30d696e", func := "doorman/doormanlaw17.PeerTells", spec := "peerTells", inPlace := ["internal/abi.NoEscape", "internal/bytealg.MakeNoZero"], recurses := true, apart := false }
def PeerTellsSaid : Prop := peerTellsRow.holds Try.pinned (OpenSpec.ofChange peerTellsSpec)

/-- ITS FALSE NEIGHBOUR: 'it returns false'. Refute it at one input. -/
def peerTellsWrong : ChangeSpec := { name := "peerTells", fn := fun _ => fun
  | [d1, d2, d3] => { results := [.lit (.bool false)], args := [d1, d2, d3] }
  | _ => none }
def PeerTellsWrongFalsely : Prop := peerTellsRow.holds Try.pinned (OpenSpec.ofChange peerTellsWrong)

/-- 'doormanlaw17.PeerLives': WHATEVER THE INPUT: true; the input reads as it did. -/
def peerLivesSpec : ChangeSpec := { name := "peerLives", fn := fun _ => fun
  | [d1, d2, d3] => { results := [.lit (.bool true)], args := [d1, d2, d3] }
  | _ => none }
def peerLivesRow : OpenClaim := { program := "ytnohkfbapibmdaa", sum := "9ef04e72e657a40121c4d2e9ef0ea37e06ab4483e09d3b2a45575209e30d696e", func := "doorman/doormanlaw17.PeerLives", spec := "peerLives", inPlace := ["internal/abi.NoEscape", "internal/bytealg.MakeNoZero"], apart := false }
def PeerLivesSaid : Prop := peerLivesRow.holds Try.pinned (OpenSpec.ofChange peerLivesSpec)

/-- ITS FALSE NEIGHBOUR: 'it returns false'. Refute it at one input. -/
def peerLivesWrong : ChangeSpec := { name := "peerLives", fn := fun _ => fun
  | [d1, d2, d3] => { results := [.lit (.bool false)], args := [d1, d2, d3] }
  | _ => none }
def PeerLivesWrongFalsely : Prop := peerLivesRow.holds Try.pinned (OpenSpec.ofChange peerLivesWrong)

/-- 'doormanlaw36.OpTells': WHATEVER THE INPUT: true; the input reads as it did. -/
def opTellsSpec : ChangeSpec := { name := "opTells", fn := fun _ => fun
  | [d1, d2] => { results := [.lit (.bool true)], args := [d1, d2] }
  | _ => none }
def opTellsRow : OpenClaim := { program := "ytnohkfbapibmdaa", sum := "9ef04e72e657a40121c4d2e9ef0ea37e06ab4483e09d3b2a45575209e30d696e", func := "doorman/doormanlaw36.OpTells", spec := "opTells", inPlace := ["internal/abi.NoEscape", "internal/bytealg.MakeNoZero"], recurses := true, apart := false }
def OpTellsSaid : Prop := opTellsRow.holds Try.pinned (OpenSpec.ofChange opTellsSpec)

/-- ITS FALSE NEIGHBOUR: 'it returns false'. Refute it at one input. -/
def opTellsWrong : ChangeSpec := { name := "opTells", fn := fun _ => fun
  | [d1, d2] => { results := [.lit (.bool false)], args := [d1, d2] }
  | _ => none }
def OpTellsWrongFalsely : Prop := opTellsRow.holds Try.pinned (OpenSpec.ofChange opTellsWrong)

/-- 'doormanlaw36.OpClean': WHATEVER THE INPUT: true; the input reads as it did. -/
def opCleanSpec : ChangeSpec := { name := "opClean", fn := fun _ => fun
  | [d1, d2] => { results := [.lit (.bool true)], args := [d1, d2] }
  | _ => none }
def opCleanRow : OpenClaim := { program := "ytnohkfbapibmdaa", sum := "9ef04e72e657a40121c4d2e9ef0ea37e06ab4483e09d3b2a45575209e30d696e", func := "doorman/doormanlaw36.OpClean", spec := "opClean", inPlace := ["internal/abi.NoEscape", "internal/bytealg.MakeNoZero"], apart := false }
def OpCleanSaid : Prop := opCleanRow.holds Try.pinned (OpenSpec.ofChange opCleanSpec)

/-- ITS FALSE NEIGHBOUR: 'it returns false'. Refute it at one input. -/
def opCleanWrong : ChangeSpec := { name := "opClean", fn := fun _ => fun
  | [d1, d2] => { results := [.lit (.bool false)], args := [d1, d2] }
  | _ => none }
def OpCleanWrongFalsely : Prop := opCleanRow.holds Try.pinned (OpenSpec.ofChange opCleanWrong)

/-- 'doormanlaw29.ConfTells': WHATEVER THE INPUT: true; the input reads as it did. -/
def confTellsSpec : ChangeSpec := { name := "confTells", fn := fun _ => fun
  | [d1, d2] => { results := [.lit (.bool true)], args := [d1, d2] }
  | _ => none }
def confTellsRow : OpenClaim := { program := "ytnohkfbapibmdaa", sum := "9ef04e72e657a40121c4d2e9ef0ea37e06ab4483e09d3b2a45575209e30d696e", func := "doorman/doormanlaw29.ConfTells", spec := "confTells", inPlace := ["internal/abi.NoEscape", "internal/bytealg.MakeNoZero", "internal/bytealg.CountString", "internal/bytealg.IndexByteString", "internal/bytealg.IndexString"], recurses := true, named := ["internal/bytealg.MaxLen"], apart := false }
def ConfTellsSaid : Prop := confTellsRow.holds Try.pinned (OpenSpec.ofChange confTellsSpec)

/-- ITS FALSE NEIGHBOUR: 'it returns false'. Refute it at one input. -/
def confTellsWrong : ChangeSpec := { name := "confTells", fn := fun _ => fun
  | [d1, d2] => { results := [.lit (.bool false)], args := [d1, d2] }
  | _ => none }
def ConfTellsWrongFalsely : Prop := confTellsRow.holds Try.pinned (OpenSpec.ofChange confTellsWrong)

/-- 'doormanlaw29.ConfBack': WHATEVER THE INPUT: true; the input reads as it did. -/
def confBackSpec : ChangeSpec := { name := "confBack", fn := fun _ => fun
  | [d1, d2] => { results := [.lit (.bool true)], args := [d1, d2] }
  | _ => none }
def confBackRow : OpenClaim := { program := "ytnohkfbapibmdaa", sum := "9ef04e72e657a40121c4d2e9ef0ea37e06ab4483e09d3b2a45575209e30d696e", func := "doorman/doormanlaw29.ConfBack", spec := "confBack", inPlace := ["internal/abi.NoEscape", "internal/bytealg.MakeNoZero", "internal/bytealg.CountString", "internal/bytealg.IndexByteString", "internal/bytealg.IndexString"], named := ["internal/bytealg.MaxLen"], apart := false }
def ConfBackSaid : Prop := confBackRow.holds Try.pinned (OpenSpec.ofChange confBackSpec)

/-- ITS FALSE NEIGHBOUR: 'it returns false'. Refute it at one input. -/
def confBackWrong : ChangeSpec := { name := "confBack", fn := fun _ => fun
  | [d1, d2] => { results := [.lit (.bool false)], args := [d1, d2] }
  | _ => none }
def ConfBackWrongFalsely : Prop := confBackRow.holds Try.pinned (OpenSpec.ofChange confBackWrong)

/-- 'doormanlaw12.BanBack': WHATEVER THE INPUT: true; the input reads as it did. -/
def banBackSpec : ChangeSpec := { name := "banBack", fn := fun _ => fun
  | [d1, d2, d3] => { results := [.lit (.bool true)], args := [d1, d2, d3] }
  | _ => none }
def banBackRow : OpenClaim := { program := "ytnohkfbapibmdaa", sum := "9ef04e72e657a40121c4d2e9ef0ea37e06ab4483e09d3b2a45575209e30d696e", func := "doorman/doormanlaw12.BanBack", spec := "banBack", inPlace := ["internal/abi.NoEscape", "internal/bytealg.MakeNoZero", "internal/bytealg.IndexByteString", "internal/bytealg.IndexString"], named := ["internal/bytealg.MaxLen"], apart := false }
def BanBackSaid : Prop := banBackRow.holds Try.pinned (OpenSpec.ofChange banBackSpec)

/-- ITS FALSE NEIGHBOUR: 'it returns false'. Refute it at one input. -/
def banBackWrong : ChangeSpec := { name := "banBack", fn := fun _ => fun
  | [d1, d2, d3] => { results := [.lit (.bool false)], args := [d1, d2, d3] }
  | _ => none }
def BanBackWrongFalsely : Prop := banBackRow.holds Try.pinned (OpenSpec.ofChange banBackWrong)

/-- 'doormanlaw12.BanTells': WHATEVER THE INPUT: true; the input reads as it did. -/
def banTellsSpec : ChangeSpec := { name := "banTells", fn := fun _ => fun
  | [d1, d2, d3] => { results := [.lit (.bool true)], args := [d1, d2, d3] }
  | _ => none }
def banTellsRow : OpenClaim := { program := "ytnohkfbapibmdaa", sum := "9ef04e72e657a40121c4d2e9ef0ea37e06ab4483e09d3b2a45575209e30d696e", func := "doorman/doormanlaw12.BanTells", spec := "banTells", inPlace := ["internal/bytealg.IndexByteString", "internal/bytealg.IndexString", "internal/abi.NoEscape", "internal/bytealg.MakeNoZero"], recurses := true, named := ["internal/bytealg.MaxLen"], apart := false }
def BanTellsSaid : Prop := banTellsRow.holds Try.pinned (OpenSpec.ofChange banTellsSpec)

/-- ITS FALSE NEIGHBOUR: 'it returns false'. Refute it at one input. -/
def banTellsWrong : ChangeSpec := { name := "banTells", fn := fun _ => fun
  | [d1, d2, d3] => { results := [.lit (.bool false)], args := [d1, d2, d3] }
  | _ => none }
def BanTellsWrongFalsely : Prop := banTellsRow.holds Try.pinned (OpenSpec.ofChange banTellsWrong)

/-- 'doormanlaw33.CallBack': WHATEVER THE INPUT: true; the input reads as it did. -/
def callBackSpec : ChangeSpec := { name := "callBack", fn := fun _ => fun
  | [d1, d2] => { results := [.lit (.bool true)], args := [d1, d2] }
  | _ => none }
def callBackRow : OpenClaim := { program := "ytnohkfbapibmdaa", sum := "9ef04e72e657a40121c4d2e9ef0ea37e06ab4483e09d3b2a45575209e30d696e", func := "doorman/doormanlaw33.CallBack", spec := "callBack", inPlace := ["internal/abi.NoEscape", "internal/bytealg.MakeNoZero", "internal/bytealg.IndexByteString", "internal/bytealg.IndexString"], named := ["internal/bytealg.MaxLen"], apart := false }
def CallBackSaid : Prop := callBackRow.holds Try.pinned (OpenSpec.ofChange callBackSpec)

/-- ITS FALSE NEIGHBOUR: 'it returns false'. Refute it at one input. -/
def callBackWrong : ChangeSpec := { name := "callBack", fn := fun _ => fun
  | [d1, d2] => { results := [.lit (.bool false)], args := [d1, d2] }
  | _ => none }
def CallBackWrongFalsely : Prop := callBackRow.holds Try.pinned (OpenSpec.ofChange callBackWrong)

/- THE SECOND FORM. 'bulk': how many values and letters a reading holds, each counted each time it is reached (what is shared counts as often as it is met; a slice's spare places count too). A statement '..UptoSaid' is the law's where the arguments, and the package variables that the reading takes, are together of bulk at most 1048576: NARROWER than '..Said'. Prove '..Said' where nothing that the law and all that it calls make is longer than what came in: it says more and counts as full. Else prove '..UptoSaid'. A law counts once. -/
mutual
def uptoBulk {H : Type} : DataW H → Nat
  | .lit (.string bytes) => bytes.length + 1
  | .lit _ => 1
  | .nil => 1
  | .ptr d => uptoBulk d + 1
  | .slice elems spare => uptoBulkAll elems + uptoBulkAll spare + 1
  | .agg parts => uptoBulkAll parts + 1
  | .iface _ d => uptoBulk d + 1
  | .map entries => uptoBulkEntries entries + 1
  | .held _ => 1
def uptoBulkAll {H : Type} : List (DataW H) → Nat
  | [] => 0
  | d :: r => uptoBulk d + uptoBulkAll r
def uptoBulkEntries {H : Type} : List (Lit × DataW H) → Nat
  | [] => 0
  | x :: r => uptoBulkEntry x + uptoBulkEntries r
def uptoBulkEntry {H : Type} : Lit × DataW H → Nat
  | (.string bytes, d) => bytes.length + uptoBulk d + 1
  | (_, d) => uptoBulk d + 1
 end
def uptoSmall : (H : Type) → List (DataW H) → Bool := fun _ ds => decide (uptoBulkAll ds ≤ 1048576)
def OpenSpec.upto (s : _root_.Go.ChangeSpec) : _root_.Go.OpenSpec := { _root_.Go.OpenSpec.ofChange s with cond := some uptoSmall }

/-- 'doormanlaw34.ReplyTells', WHERE WHAT IT READS IS OF BULK AT MOST 1048576: true; the input reads as it did. -/
def replyTellsUptoRow : OpenClaim := { program := "ytnohkfbapibmdaa", sum := "9ef04e72e657a40121c4d2e9ef0ea37e06ab4483e09d3b2a45575209e30d696e", func := "doorman/doormanlaw34.ReplyTells", spec := "replyTells", inPlace := ["internal/abi.NoEscape", "internal/bytealg.MakeNoZero"], recurses := true, apart := false, narrowed := true }
def ReplyTellsUptoSaid : Prop := replyTellsUptoRow.holds Try.pinned (OpenSpec.upto replyTellsSpec)

/-- 'doormanlaw34.ReplyOne', WHERE WHAT IT READS IS OF BULK AT MOST 1048576: true; the input reads as it did. -/
def replyOneUptoRow : OpenClaim := { program := "ytnohkfbapibmdaa", sum := "9ef04e72e657a40121c4d2e9ef0ea37e06ab4483e09d3b2a45575209e30d696e", func := "doorman/doormanlaw34.ReplyOne", spec := "replyOne", inPlace := ["internal/abi.NoEscape", "internal/bytealg.MakeNoZero"], apart := false, narrowed := true }
def ReplyOneUptoSaid : Prop := replyOneUptoRow.holds Try.pinned (OpenSpec.upto replyOneSpec)

/-- 'doormanlaw17.PeerTells', WHERE WHAT IT READS IS OF BULK AT MOST 1048576: true; the input reads as it did. -/
def peerTellsUptoRow : OpenClaim := { program := "ytnohkfbapibmdaa", sum := "9ef04e72e657a40121c4d2e9ef0ea37e06ab4483e09d3b2a45575209e30d696e", func := "doorman/doormanlaw17.PeerTells", spec := "peerTells", inPlace := ["internal/abi.NoEscape", "internal/bytealg.MakeNoZero"], recurses := true, apart := false, narrowed := true }
def PeerTellsUptoSaid : Prop := peerTellsUptoRow.holds Try.pinned (OpenSpec.upto peerTellsSpec)

/-- 'doormanlaw17.PeerLives', WHERE WHAT IT READS IS OF BULK AT MOST 1048576: true; the input reads as it did. -/
def peerLivesUptoRow : OpenClaim := { program := "ytnohkfbapibmdaa", sum := "9ef04e72e657a40121c4d2e9ef0ea37e06ab4483e09d3b2a45575209e30d696e", func := "doorman/doormanlaw17.PeerLives", spec := "peerLives", inPlace := ["internal/abi.NoEscape", "internal/bytealg.MakeNoZero"], apart := false, narrowed := true }
def PeerLivesUptoSaid : Prop := peerLivesUptoRow.holds Try.pinned (OpenSpec.upto peerLivesSpec)

/-- 'doormanlaw36.OpTells', WHERE WHAT IT READS IS OF BULK AT MOST 1048576: true; the input reads as it did. -/
def opTellsUptoRow : OpenClaim := { program := "ytnohkfbapibmdaa", sum := "9ef04e72e657a40121c4d2e9ef0ea37e06ab4483e09d3b2a45575209e30d696e", func := "doorman/doormanlaw36.OpTells", spec := "opTells", inPlace := ["internal/abi.NoEscape", "internal/bytealg.MakeNoZero"], recurses := true, apart := false, narrowed := true }
def OpTellsUptoSaid : Prop := opTellsUptoRow.holds Try.pinned (OpenSpec.upto opTellsSpec)

/-- 'doormanlaw36.OpClean', WHERE WHAT IT READS IS OF BULK AT MOST 1048576: true; the input reads as it did. -/
def opCleanUptoRow : OpenClaim := { program := "ytnohkfbapibmdaa", sum := "9ef04e72e657a40121c4d2e9ef0ea37e06ab4483e09d3b2a45575209e30d696e", func := "doorman/doormanlaw36.OpClean", spec := "opClean", inPlace := ["internal/abi.NoEscape", "internal/bytealg.MakeNoZero"], apart := false, narrowed := true }
def OpCleanUptoSaid : Prop := opCleanUptoRow.holds Try.pinned (OpenSpec.upto opCleanSpec)

/-- 'doormanlaw29.ConfTells', WHERE WHAT IT READS IS OF BULK AT MOST 1048576: true; the input reads as it did. -/
def confTellsUptoRow : OpenClaim := { program := "ytnohkfbapibmdaa", sum := "9ef04e72e657a40121c4d2e9ef0ea37e06ab4483e09d3b2a45575209e30d696e", func := "doorman/doormanlaw29.ConfTells", spec := "confTells", inPlace := ["internal/abi.NoEscape", "internal/bytealg.MakeNoZero", "internal/bytealg.CountString", "internal/bytealg.IndexByteString", "internal/bytealg.IndexString"], recurses := true, named := ["internal/bytealg.MaxLen"], apart := false, narrowed := true }
def ConfTellsUptoSaid : Prop := confTellsUptoRow.holds Try.pinned (OpenSpec.upto confTellsSpec)

/-- 'doormanlaw29.ConfBack', WHERE WHAT IT READS IS OF BULK AT MOST 1048576: true; the input reads as it did. -/
def confBackUptoRow : OpenClaim := { program := "ytnohkfbapibmdaa", sum := "9ef04e72e657a40121c4d2e9ef0ea37e06ab4483e09d3b2a45575209e30d696e", func := "doorman/doormanlaw29.ConfBack", spec := "confBack", inPlace := ["internal/abi.NoEscape", "internal/bytealg.MakeNoZero", "internal/bytealg.CountString", "internal/bytealg.IndexByteString", "internal/bytealg.IndexString"], named := ["internal/bytealg.MaxLen"], apart := false, narrowed := true }
def ConfBackUptoSaid : Prop := confBackUptoRow.holds Try.pinned (OpenSpec.upto confBackSpec)

/-- 'doormanlaw12.BanBack', WHERE WHAT IT READS IS OF BULK AT MOST 1048576: true; the input reads as it did. -/
def banBackUptoRow : OpenClaim := { program := "ytnohkfbapibmdaa", sum := "9ef04e72e657a40121c4d2e9ef0ea37e06ab4483e09d3b2a45575209e30d696e", func := "doorman/doormanlaw12.BanBack", spec := "banBack", inPlace := ["internal/abi.NoEscape", "internal/bytealg.MakeNoZero", "internal/bytealg.IndexByteString", "internal/bytealg.IndexString"], named := ["internal/bytealg.MaxLen"], apart := false, narrowed := true }
def BanBackUptoSaid : Prop := banBackUptoRow.holds Try.pinned (OpenSpec.upto banBackSpec)

/-- 'doormanlaw12.BanTells', WHERE WHAT IT READS IS OF BULK AT MOST 1048576: true; the input reads as it did. -/
def banTellsUptoRow : OpenClaim := { program := "ytnohkfbapibmdaa", sum := "9ef04e72e657a40121c4d2e9ef0ea37e06ab4483e09d3b2a45575209e30d696e", func := "doorman/doormanlaw12.BanTells", spec := "banTells", inPlace := ["internal/bytealg.IndexByteString", "internal/bytealg.IndexString", "internal/abi.NoEscape", "internal/bytealg.MakeNoZero"], recurses := true, named := ["internal/bytealg.MaxLen"], apart := false, narrowed := true }
def BanTellsUptoSaid : Prop := banTellsUptoRow.holds Try.pinned (OpenSpec.upto banTellsSpec)

/-- 'doormanlaw33.CallBack', WHERE WHAT IT READS IS OF BULK AT MOST 1048576: true; the input reads as it did. -/
def callBackUptoRow : OpenClaim := { program := "ytnohkfbapibmdaa", sum := "9ef04e72e657a40121c4d2e9ef0ea37e06ab4483e09d3b2a45575209e30d696e", func := "doorman/doormanlaw33.CallBack", spec := "callBack", inPlace := ["internal/abi.NoEscape", "internal/bytealg.MakeNoZero", "internal/bytealg.IndexByteString", "internal/bytealg.IndexString"], named := ["internal/bytealg.MaxLen"], apart := false, narrowed := true }
def CallBackUptoSaid : Prop := callBackUptoRow.holds Try.pinned (OpenSpec.upto callBackSpec)

end Rows
end Go.Proofs.Ytnohkfbapibmdaa
