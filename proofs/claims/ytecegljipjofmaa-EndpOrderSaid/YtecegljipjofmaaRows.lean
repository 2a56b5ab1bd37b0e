/-
  No cell of these rows narrows 'for every input' (looked for: loops, veiled, ifaces, maps, wideKeys, modest, calm, conditions, laid).
  DERIVED. THE GIVEN ROWS OF THIS SEAT. 12 by the template 'for every input the law returns true; each argument reads behind the call as it read before'; 0 by the template 'total and deterministic' (their statements: YtecegljipjofmaaTotals.lean).
  GIVEN WITH THE SEED: the statements are not yours to turn. If you find one false, say at which input.
  Laid BY PROGRAM, IN A SANDBOX (cutbox-rows.mjs): the forced cells as the released guide's own fill.sh prints them over the translation f321069cc7fba28f… (all of the seat's roots in one cut). By AI agents, Wed Nov 11 2026. No macro, syntax, notation, axiom, sorry.
-/
import Derived.Test.YtecegljipjofmaaChecked
import GoSem.Claim
import GoSem.ClaimJoined
import GoSem.ClaimMapViews
import Derived.JoinedTies
import Derived.KernelRfl
namespace Go.Proofs.Ytecegljipjofmaa
/- THE CELL 'sum', in the pinned program and in every row, IS THE sha256 OF THE DUMP (.gsa) THAT YtecegljipjofmaaProg.lean LOADS. Nothing in Lean hashes anything: it is a label: what it is worth is what the hold of that sum in a sandbox is worth. -/
noncomputable def Try.pinned : Pinned := { name := "ytecegljipjofmaa", sum := "f321069cc7fba28f2056a87b7d1f2d023b49664f45d98404858522b6a5ed7d94", checked := Try.checked }
namespace Rows
def none {H : Type} : Left H := { results := [], args := [] }

/-- 'doormanlaw20.CrowdTells': WHATEVER THE INPUT: true; the input reads as it did. -/
def crowdTellsSpec : ChangeSpec := { name := "crowdTells", fn := fun _ => fun
  | [d1, d2] => { results := [.lit (.bool true)], args := [d1, d2] }
  | _ => none }
def crowdTellsRow : OpenClaim := { program := "ytecegljipjofmaa", sum := "f321069cc7fba28f2056a87b7d1f2d023b49664f45d98404858522b6a5ed7d94", func := "doorman/doormanlaw20.CrowdTells", spec := "crowdTells", plainKeys := false, apart := false }
def CrowdTellsSaid : Prop := crowdTellsRow.holds Try.pinned (OpenSpec.ofChange crowdTellsSpec)

/-- ITS FALSE NEIGHBOUR: 'it returns false'. Refute it at one input. -/
def crowdTellsWrong : ChangeSpec := { name := "crowdTells", fn := fun _ => fun
  | [d1, d2] => { results := [.lit (.bool false)], args := [d1, d2] }
  | _ => none }
def CrowdTellsWrongFalsely : Prop := crowdTellsRow.holds Try.pinned (OpenSpec.ofChange crowdTellsWrong)

/-- 'doormanlaw20.CrowdGreatest': WHATEVER THE INPUT: true; the input reads as it did. -/
def crowdGreatestSpec : ChangeSpec := { name := "crowdGreatest", fn := fun _ => fun
  | [d1, d2] => { results := [.lit (.bool true)], args := [d1, d2] }
  | _ => none }
def crowdGreatestRow : OpenClaim := { program := "ytecegljipjofmaa", sum := "f321069cc7fba28f2056a87b7d1f2d023b49664f45d98404858522b6a5ed7d94", func := "doorman/doormanlaw20.CrowdGreatest", spec := "crowdGreatest", plainKeys := false, apart := false }
def CrowdGreatestSaid : Prop := crowdGreatestRow.holds Try.pinned (OpenSpec.ofChange crowdGreatestSpec)

/-- ITS FALSE NEIGHBOUR: 'it returns false'. Refute it at one input. -/
def crowdGreatestWrong : ChangeSpec := { name := "crowdGreatest", fn := fun _ => fun
  | [d1, d2] => { results := [.lit (.bool false)], args := [d1, d2] }
  | _ => none }
def CrowdGreatestWrongFalsely : Prop := crowdGreatestRow.holds Try.pinned (OpenSpec.ofChange crowdGreatestWrong)

/-- 'doormanlaw17.PeerTells': WHATEVER THE INPUT: true; the input reads as it did. -/
def peerTellsSpec : ChangeSpec := { name := "peerTells", fn := fun _ => fun
  | [d1, d2, d3] => { results := [.lit (.bool true)], args := [d1, d2, d3] }
  | _ => none }
def peerTellsRow : OpenClaim := { program := "ytecegljipjofmaa", sum := "f321069cc7fba28f2056a87b7d1f2d023b49664f45d98404858522b6a5ed7d94", func := "doorman/doormanlaw17.PeerTells", spec := "peerTells", inPlace := ["internal/abi.NoEscape", "internal/bytealg.MakeNoZero"], recurses := true, plainKeys := false, apart := false }
def PeerTellsSaid : Prop := peerTellsRow.holds Try.pinned (OpenSpec.ofChange peerTellsSpec)

/-- ITS FALSE NEIGHBOUR: 'it returns false'. Refute it at one input. -/
def peerTellsWrong : ChangeSpec := { name := "peerTells", fn := fun _ => fun
  | [d1, d2, d3] => { results := [.lit (.bool false)], args := [d1, d2, d3] }
  | _ => none }
def PeerTellsWrongFalsely : Prop := peerTellsRow.holds Try.pinned (OpenSpec.ofChange peerTellsWrong)

/-- 'doormanlaw17.PeerLives': WHATEVER THE INPUT: true; the input reads as it did. -/
def peerLivesSpec : ChangeSpec := { name := "peerLives", fn := fun _ => fun
  | [d1, d2, d3] => { results := [.lit (.bool true)], args := [d1, d2, d3] }
  | _ => none }
def peerLivesRow : OpenClaim := { program := "ytecegljipjofmaa", sum := "f321069cc7fba28f2056a87b7d1f2d023b49664f45d98404858522b6a5ed7d94", func := "doorman/doormanlaw17.PeerLives", spec := "peerLives", inPlace := ["internal/abi.NoEscape", "internal/bytealg.MakeNoZero"], plainKeys := false, apart := false }
def PeerLivesSaid : Prop := peerLivesRow.holds Try.pinned (OpenSpec.ofChange peerLivesSpec)

/-- ITS FALSE NEIGHBOUR: 'it returns false'. Refute it at one input. -/
def peerLivesWrong : ChangeSpec := { name := "peerLives", fn := fun _ => fun
  | [d1, d2, d3] => { results := [.lit (.bool false)], args := [d1, d2, d3] }
  | _ => none }
def PeerLivesWrongFalsely : Prop := peerLivesRow.holds Try.pinned (OpenSpec.ofChange peerLivesWrong)

/-- 'doormanlaw08.GroupTells': WHATEVER THE INPUT: true; the input reads as it did. -/
def groupTellsSpec : ChangeSpec := { name := "groupTells", fn := fun _ => fun
  | [d1, d2] => { results := [.lit (.bool true)], args := [d1, d2] }
  | _ => none }
def groupTellsRow : OpenClaim := { program := "ytecegljipjofmaa", sum := "f321069cc7fba28f2056a87b7d1f2d023b49664f45d98404858522b6a5ed7d94", func := "doorman/doormanlaw08.GroupTells", spec := "groupTells", inPlace := ["internal/abi.NoEscape", "internal/bytealg.MakeNoZero"], recurses := true, plainKeys := false, apart := false }
def GroupTellsSaid : Prop := groupTellsRow.holds Try.pinned (OpenSpec.ofChange groupTellsSpec)

/-- ITS FALSE NEIGHBOUR: 'it returns false'. Refute it at one input. -/
def groupTellsWrong : ChangeSpec := { name := "groupTells", fn := fun _ => fun
  | [d1, d2] => { results := [.lit (.bool false)], args := [d1, d2] }
  | _ => none }
def GroupTellsWrongFalsely : Prop := groupTellsRow.holds Try.pinned (OpenSpec.ofChange groupTellsWrong)

/-- 'doormanlaw08.GroupOne': WHATEVER THE INPUT: true; the input reads as it did. -/
def groupOneSpec : ChangeSpec := { name := "groupOne", fn := fun _ => fun
  | [d1, d2] => { results := [.lit (.bool true)], args := [d1, d2] }
  | _ => none }
def groupOneRow : OpenClaim := { program := "ytecegljipjofmaa", sum := "f321069cc7fba28f2056a87b7d1f2d023b49664f45d98404858522b6a5ed7d94", func := "doorman/doormanlaw08.GroupOne", spec := "groupOne", inPlace := ["internal/abi.NoEscape", "internal/bytealg.MakeNoZero"], plainKeys := false, apart := false }
def GroupOneSaid : Prop := groupOneRow.holds Try.pinned (OpenSpec.ofChange groupOneSpec)

/-- ITS FALSE NEIGHBOUR: 'it returns false'. Refute it at one input. -/
def groupOneWrong : ChangeSpec := { name := "groupOne", fn := fun _ => fun
  | [d1, d2] => { results := [.lit (.bool false)], args := [d1, d2] }
  | _ => none }
def GroupOneWrongFalsely : Prop := groupOneRow.holds Try.pinned (OpenSpec.ofChange groupOneWrong)

/-- 'doormanlaw06.AddrBack': WHATEVER THE INPUT: true; the input reads as it did. -/
def addrBackSpec : ChangeSpec := { name := "addrBack", fn := fun _ => fun
  | [d1, d2, d3] => { results := [.lit (.bool true)], args := [d1, d2, d3] }
  | _ => none }
def addrBackRow : OpenClaim := { program := "ytecegljipjofmaa", sum := "f321069cc7fba28f2056a87b7d1f2d023b49664f45d98404858522b6a5ed7d94", func := "doorman/doormanlaw06.AddrBack", spec := "addrBack", inPlace := ["internal/bytealg.IndexByteString", "internal/bytealg.IndexString", "internal/abi.NoEscape", "internal/bytealg.MakeNoZero"], named := ["internal/bytealg.MaxLen"], plainKeys := false, apart := false }
def AddrBackSaid : Prop := addrBackRow.holds Try.pinned (OpenSpec.ofChange addrBackSpec)

/-- ITS FALSE NEIGHBOUR: 'it returns false'. Refute it at one input. -/
def addrBackWrong : ChangeSpec := { name := "addrBack", fn := fun _ => fun
  | [d1, d2, d3] => { results := [.lit (.bool false)], args := [d1, d2, d3] }
  | _ => none }
def AddrBackWrongFalsely : Prop := addrBackRow.holds Try.pinned (OpenSpec.ofChange addrBackWrong)

/-- 'doormanlaw07.CidrTells': WHATEVER THE INPUT: true; the input reads as it did. -/
def cidrTellsSpec : ChangeSpec := { name := "cidrTells", fn := fun _ => fun
  | [d1, d2, d3] => { results := [.lit (.bool true)], args := [d1, d2, d3] }
  | _ => none }
def cidrTellsRow : OpenClaim := { program := "ytecegljipjofmaa", sum := "f321069cc7fba28f2056a87b7d1f2d023b49664f45d98404858522b6a5ed7d94", func := "doorman/doormanlaw07.CidrTells", spec := "cidrTells", inPlace := ["internal/bytealg.IndexByteString", "internal/bytealg.IndexString", "internal/abi.NoEscape", "internal/bytealg.MakeNoZero"], recurses := true, named := ["internal/bytealg.MaxLen"], plainKeys := false, apart := false }
def CidrTellsSaid : Prop := cidrTellsRow.holds Try.pinned (OpenSpec.ofChange cidrTellsSpec)

/-- ITS FALSE NEIGHBOUR: 'it returns false'. Refute it at one input. -/
def cidrTellsWrong : ChangeSpec := { name := "cidrTells", fn := fun _ => fun
  | [d1, d2, d3] => { results := [.lit (.bool false)], args := [d1, d2, d3] }
  | _ => none }
def CidrTellsWrongFalsely : Prop := cidrTellsRow.holds Try.pinned (OpenSpec.ofChange cidrTellsWrong)

/-- 'doormanlaw07.CidrBack': WHATEVER THE INPUT: true; the input reads as it did. -/
def cidrBackSpec : ChangeSpec := { name := "cidrBack", fn := fun _ => fun
  | [d1, d2] => { results := [.lit (.bool true)], args := [d1, d2] }
  | _ => none }
def cidrBackRow : OpenClaim := { program := "ytecegljipjofmaa", sum := "f321069cc7fba28f2056a87b7d1f2d023b49664f45d98404858522b6a5ed7d94", func := "doorman/doormanlaw07.CidrBack", spec := "cidrBack", inPlace := ["internal/abi.NoEscape", "internal/bytealg.MakeNoZero", "internal/bytealg.IndexByteString", "internal/bytealg.IndexString"], recurses := true, named := ["internal/bytealg.MaxLen"], plainKeys := false, apart := false }
def CidrBackSaid : Prop := cidrBackRow.holds Try.pinned (OpenSpec.ofChange cidrBackSpec)

/-- ITS FALSE NEIGHBOUR: 'it returns false'. Refute it at one input. -/
def cidrBackWrong : ChangeSpec := { name := "cidrBack", fn := fun _ => fun
  | [d1, d2] => { results := [.lit (.bool false)], args := [d1, d2] }
  | _ => none }
def CidrBackWrongFalsely : Prop := cidrBackRow.holds Try.pinned (OpenSpec.ofChange cidrBackWrong)

/-- 'doormanlaw09.EndpTells': WHATEVER THE INPUT: true; the input reads as it did. -/
def endpTellsSpec : ChangeSpec := { name := "endpTells", fn := fun _ => fun
  | [d1, d2] => { results := [.lit (.bool true)], args := [d1, d2] }
  | _ => none }
def endpTellsRow : OpenClaim := { program := "ytecegljipjofmaa", sum := "f321069cc7fba28f2056a87b7d1f2d023b49664f45d98404858522b6a5ed7d94", func := "doorman/doormanlaw09.EndpTells", spec := "endpTells", inPlace := ["internal/bytealg.IndexByteString", "internal/bytealg.IndexString", "internal/abi.NoEscape", "internal/bytealg.MakeNoZero"], recurses := true, named := ["internal/bytealg.MaxLen"], plainKeys := false, apart := false }
def EndpTellsSaid : Prop := endpTellsRow.holds Try.pinned (OpenSpec.ofChange endpTellsSpec)

/-- ITS FALSE NEIGHBOUR: 'it returns false'. Refute it at one input. -/
def endpTellsWrong : ChangeSpec := { name := "endpTells", fn := fun _ => fun
  | [d1, d2] => { results := [.lit (.bool false)], args := [d1, d2] }
  | _ => none }
def EndpTellsWrongFalsely : Prop := endpTellsRow.holds Try.pinned (OpenSpec.ofChange endpTellsWrong)

/-- 'doormanlaw09.EndpBack': WHATEVER THE INPUT: true; the input reads as it did. -/
def endpBackSpec : ChangeSpec := { name := "endpBack", fn := fun _ => fun
  | [d1, d2, d3] => { results := [.lit (.bool true)], args := [d1, d2, d3] }
  | _ => none }
def endpBackRow : OpenClaim := { program := "ytecegljipjofmaa", sum := "f321069cc7fba28f2056a87b7d1f2d023b49664f45d98404858522b6a5ed7d94", func := "doorman/doormanlaw09.EndpBack", spec := "endpBack", inPlace := ["internal/abi.NoEscape", "internal/bytealg.MakeNoZero", "internal/bytealg.IndexByteString", "internal/bytealg.IndexString"], named := ["internal/bytealg.MaxLen"], plainKeys := false, apart := false }
def EndpBackSaid : Prop := endpBackRow.holds Try.pinned (OpenSpec.ofChange endpBackSpec)

/-- ITS FALSE NEIGHBOUR: 'it returns false'. Refute it at one input. -/
def endpBackWrong : ChangeSpec := { name := "endpBack", fn := fun _ => fun
  | [d1, d2, d3] => { results := [.lit (.bool false)], args := [d1, d2, d3] }
  | _ => none }
def EndpBackWrongFalsely : Prop := endpBackRow.holds Try.pinned (OpenSpec.ofChange endpBackWrong)

/-- 'doormanlaw09.EndpOrder': WHATEVER THE INPUT: true; the input reads as it did. -/
def endpOrderSpec : ChangeSpec := { name := "endpOrder", fn := fun _ => fun
  | [d1, d2, d3] => { results := [.lit (.bool true)], args := [d1, d2, d3] }
  | _ => none }
def endpOrderRow : OpenClaim := { program := "ytecegljipjofmaa", sum := "f321069cc7fba28f2056a87b7d1f2d023b49664f45d98404858522b6a5ed7d94", func := "doorman/doormanlaw09.EndpOrder", spec := "endpOrder", inPlace := ["internal/bytealg.IndexByteString", "internal/bytealg.IndexString", "internal/abi.NoEscape", "internal/bytealg.MakeNoZero"], named := ["internal/bytealg.MaxLen"], plainKeys := false, apart := false }
def EndpOrderSaid : Prop := endpOrderRow.holds Try.pinned (OpenSpec.ofChange endpOrderSpec)

/-- ITS FALSE NEIGHBOUR: 'it returns false'. Refute it at one input. -/
def endpOrderWrong : ChangeSpec := { name := "endpOrder", fn := fun _ => fun
  | [d1, d2, d3] => { results := [.lit (.bool false)], args := [d1, d2, d3] }
  | _ => none }
def EndpOrderWrongFalsely : Prop := endpOrderRow.holds Try.pinned (OpenSpec.ofChange endpOrderWrong)

/- THE SECOND FORM. 'bulk': how many values and letters a reading holds, each counted each time it is reached (what is shared counts as often as it is met; a slice's spare places count too). A statement '..UptoSaid' is the law's where the arguments, and the package variables that the reading takes, are together of bulk at most 1048576: NARROWER than '..Said'. Prove '..Said' where nothing that the law and all that it calls make is longer than what came in: it says more and counts as full. Else prove '..UptoSaid'. A law counts once. -/
mutual
def uptoBulk {H : Type} : DataW H → Nat
  | .lit (.string bytes) => bytes.length + 1
  | .lit _ => 1
  | .nil => 1
  | .ptr d => uptoBulk d + 1
  | .slice elems spare => uptoBulkAll elems + uptoBulkAll spare + 1
  | .agg parts => uptoBulkAll parts + 1
  | .iface _ d => uptoBulk d + 1
  | .map entries => uptoBulkEntries entries + 1
  | .held _ => 1
def uptoBulkAll {H : Type} : List (DataW H) → Nat
  | [] => 0
  | d :: r => uptoBulk d + uptoBulkAll r
def uptoBulkEntries {H : Type} : List (Lit × DataW H) → Nat
  | [] => 0
  | x :: r => uptoBulkEntry x + uptoBulkEntries r
def uptoBulkEntry {H : Type} : Lit × DataW H → Nat
  | (.string bytes, d) => bytes.length + uptoBulk d + 1
  | (_, d) => uptoBulk d + 1
 end
def uptoSmall : (H : Type) → List (DataW H) → Bool := fun _ ds => decide (uptoBulkAll ds ≤ 1048576)
def OpenSpec.upto (s : _root_.Go.ChangeSpec) : _root_.Go.OpenSpec := { _root_.Go.OpenSpec.ofChange s with cond := some uptoSmall }

/-- 'doormanlaw20.CrowdTells', WHERE WHAT IT READS IS OF BULK AT MOST 1048576: true; the input reads as it did. -/
def crowdTellsUptoRow : OpenClaim := { program := "ytecegljipjofmaa", sum := "f321069cc7fba28f2056a87b7d1f2d023b49664f45d98404858522b6a5ed7d94", func := "doorman/doormanlaw20.CrowdTells", spec := "crowdTells", plainKeys := false, apart := false, narrowed := true }
def CrowdTellsUptoSaid : Prop := crowdTellsUptoRow.holds Try.pinned (OpenSpec.upto crowdTellsSpec)

/-- 'doormanlaw20.CrowdGreatest', WHERE WHAT IT READS IS OF BULK AT MOST 1048576: true; the input reads as it did. -/
def crowdGreatestUptoRow : OpenClaim := { program := "ytecegljipjofmaa", sum := "f321069cc7fba28f2056a87b7d1f2d023b49664f45d98404858522b6a5ed7d94", func := "doorman/doormanlaw20.CrowdGreatest", spec := "crowdGreatest", plainKeys := false, apart := false, narrowed := true }
def CrowdGreatestUptoSaid : Prop := crowdGreatestUptoRow.holds Try.pinned (OpenSpec.upto crowdGreatestSpec)

/-- 'doormanlaw17.PeerTells', WHERE WHAT IT READS IS OF BULK AT MOST 1048576: true; the input reads as it did. -/
def peerTellsUptoRow : OpenClaim := { program := "ytecegljipjofmaa", sum := "f321069cc7fba28f2056a87b7d1f2d023b49664f45d98404858522b6a5ed7d94", func := "doorman/doormanlaw17.PeerTells", spec := "peerTells", inPlace := ["internal/abi.NoEscape", "internal/bytealg.MakeNoZero"], recurses := true, plainKeys := false, apart := false, narrowed := true }
def PeerTellsUptoSaid : Prop := peerTellsUptoRow.holds Try.pinned (OpenSpec.upto peerTellsSpec)

/-- 'doormanlaw17.PeerLives', WHERE WHAT IT READS IS OF BULK AT MOST 1048576: true; the input reads as it did. -/
def peerLivesUptoRow : OpenClaim := { program := "ytecegljipjofmaa", sum := "f321069cc7fba28f2056a87b7d1f2d023b49664f45d98404858522b6a5ed7d94", func := "doorman/doormanlaw17.PeerLives", spec := "peerLives", inPlace := ["internal/abi.NoEscape", "internal/bytealg.MakeNoZero"], plainKeys := false, apart := false, narrowed := true }
def PeerLivesUptoSaid : Prop := peerLivesUptoRow.holds Try.pinned (OpenSpec.upto peerLivesSpec)

/-- 'doormanlaw08.GroupTells', WHERE WHAT IT READS IS OF BULK AT MOST 1048576: true; the input reads as it did. -/
def groupTellsUptoRow : OpenClaim := { program := "ytecegljipjofmaa", sum := "f321069cc7fba28f2056a87b7d1f2d023b49664f45d98404858522b6a5ed7d94", func := "doorman/doormanlaw08.GroupTells", spec := "groupTells", inPlace := ["internal/abi.NoEscape", "internal/bytealg.MakeNoZero"], recurses := true, plainKeys := false, apart := false, narrowed := true }
def GroupTellsUptoSaid : Prop := groupTellsUptoRow.holds Try.pinned (OpenSpec.upto groupTellsSpec)

/-- 'doormanlaw08.GroupOne', WHERE WHAT IT READS IS OF BULK AT MOST 1048576: true; the input reads as it did. -/
def groupOneUptoRow : OpenClaim := { program := "ytecegljipjofmaa", sum := "f321069cc7fba28f2056a87b7d1f2d023b49664f45d98404858522b6a5ed7d94", func := "doorman/doormanlaw08.GroupOne", spec := "groupOne", inPlace := ["internal/abi.NoEscape", "internal/bytealg.MakeNoZero"], plainKeys := false, apart := false, narrowed := true }
def GroupOneUptoSaid : Prop := groupOneUptoRow.holds Try.pinned (OpenSpec.upto groupOneSpec)

/-- 'doormanlaw06.AddrBack', WHERE WHAT IT READS IS OF BULK AT MOST 1048576: true; the input reads as it did. -/
def addrBackUptoRow : OpenClaim := { program := "ytecegljipjofmaa", sum := "f321069cc7fba28f2056a87b7d1f2d023b49664f45d98404858522b6a5ed7d94", func := "doorman/doormanlaw06.AddrBack", spec := "addrBack", inPlace := ["internal/bytealg.IndexByteString", "internal/bytealg.IndexString", "internal/abi.NoEscape", "internal/bytealg.MakeNoZero"], named := ["internal/bytealg.MaxLen"], plainKeys := false, apart := false, narrowed := true }
def AddrBackUptoSaid : Prop := addrBackUptoRow.holds Try.pinned (OpenSpec.upto addrBackSpec)

/-- 'doormanlaw07.CidrTells', WHERE WHAT IT READS IS OF BULK AT MOST 1048576: true; the input reads as it did. -/
def cidrTellsUptoRow : OpenClaim := { program := "ytecegljipjofmaa", sum := "f321069cc7fba28f2056a87b7d1f2d023b49664f45d98404858522b6a5ed7d94", func := "doorman/doormanlaw07.CidrTells", spec := "cidrTells", inPlace := ["internal/bytealg.IndexByteString", "internal/bytealg.IndexString", "internal/abi.NoEscape", "internal/bytealg.MakeNoZero"], recurses := true, named := ["internal/bytealg.MaxLen"], plainKeys := false, apart := false, narrowed := true }
def CidrTellsUptoSaid : Prop := cidrTellsUptoRow.holds Try.pinned (OpenSpec.upto cidrTellsSpec)

/-- 'doormanlaw07.CidrBack', WHERE WHAT IT READS IS OF BULK AT MOST 1048576: true; the input reads as it did. -/
def cidrBackUptoRow : OpenClaim := { program := "ytecegljipjofmaa", sum := "f321069cc7fba28f2056a87b7d1f2d023b49664f45d98404858522b6a5ed7d94", func := "doorman/doormanlaw07.CidrBack", spec := "cidrBack", inPlace := ["internal/abi.NoEscape", "internal/bytealg.MakeNoZero", "internal/bytealg.IndexByteString", "internal/bytealg.IndexString"], recurses := true, named := ["internal/bytealg.MaxLen"], plainKeys := false, apart := false, narrowed := true }
def CidrBackUptoSaid : Prop := cidrBackUptoRow.holds Try.pinned (OpenSpec.upto cidrBackSpec)

/-- 'doormanlaw09.EndpTells', WHERE WHAT IT READS IS OF BULK AT MOST 1048576: true; the input reads as it did. -/
def endpTellsUptoRow : OpenClaim := { program := "ytecegljipjofmaa", sum := "f321069cc7fba28f2056a87b7d1f2d023b49664f45d98404858522b6a5ed7d94", func := "doorman/doormanlaw09.EndpTells", spec := "endpTells", inPlace := ["internal/bytealg.IndexByteString", "internal/bytealg.IndexString", "internal/abi.NoEscape", "internal/bytealg.MakeNoZero"], recurses := true, named := ["internal/bytealg.MaxLen"], plainKeys := false, apart := false, narrowed := true }
def EndpTellsUptoSaid : Prop := endpTellsUptoRow.holds Try.pinned (OpenSpec.upto endpTellsSpec)

/-- 'doormanlaw09.EndpBack', WHERE WHAT IT READS IS OF BULK AT MOST 1048576: true; the input reads as it did. -/
def endpBackUptoRow : OpenClaim := { program := "ytecegljipjofmaa", sum := "f321069cc7fba28f2056a87b7d1f2d023b49664f45d98404858522b6a5ed7d94", func := "doorman/doormanlaw09.EndpBack", spec := "endpBack", inPlace := ["internal/abi.NoEscape", "internal/bytealg.MakeNoZero", "internal/bytealg.IndexByteString", "internal/bytealg.IndexString"], named := ["internal/bytealg.MaxLen"], plainKeys := false, apart := false, narrowed := true }
def EndpBackUptoSaid : Prop := endpBackUptoRow.holds Try.pinned (OpenSpec.upto endpBackSpec)

/-- 'doormanlaw09.EndpOrder', WHERE WHAT IT READS IS OF BULK AT MOST 1048576: true; the input reads as it did. -/
def endpOrderUptoRow : OpenClaim := { program := "ytecegljipjofmaa", sum := "f321069cc7fba28f2056a87b7d1f2d023b49664f45d98404858522b6a5ed7d94", func := "doorman/doormanlaw09.EndpOrder", spec := "endpOrder", inPlace := ["internal/bytealg.IndexByteString", "internal/bytealg.IndexString", "internal/abi.NoEscape", "internal/bytealg.MakeNoZero"], named := ["internal/bytealg.MaxLen"], plainKeys := false, apart := false, narrowed := true }
def EndpOrderUptoSaid : Prop := endpOrderUptoRow.holds Try.pinned (OpenSpec.upto endpOrderSpec)

end Rows
end Go.Proofs.Ytecegljipjofmaa
