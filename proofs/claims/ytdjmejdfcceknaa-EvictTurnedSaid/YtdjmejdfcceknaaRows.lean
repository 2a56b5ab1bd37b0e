/-
  No cell of these rows narrows 'for every input' (looked for: loops, veiled, ifaces, maps, wideKeys, modest, calm, conditions, laid).
  DERIVED. THE GIVEN ROWS OF THIS SEAT. 12 by the template 'for every input the law returns true; each argument reads behind the call as it read before'; 0 by the template 'total and deterministic' (their statements: YtdjmejdfcceknaaTotals.lean).
  GIVEN WITH THE SEED: the statements are not yours to turn. If you find one false, say at which input.
  Laid BY PROGRAM, IN A SANDBOX (cutbox-rows.mjs): the forced cells as the released guide's own fill.sh prints them over the translation babf6232f499c05e… (all of the seat's roots in one cut). By AI agents, Wed Nov 11 2026. No macro, syntax, notation, axiom, sorry.
-/
import Derived.Test.YtdjmejdfcceknaaChecked
import GoSem.Claim
import GoSem.ClaimJoined
import GoSem.ClaimMapViews
import Derived.JoinedTies
import Derived.KernelRfl
namespace Go.Proofs.Ytdjmejdfcceknaa
/- THE CELL 'sum', in the pinned program and in every row, IS THE sha256 OF THE DUMP (.gsa) THAT YtdjmejdfcceknaaProg.lean LOADS. Nothing in Lean hashes anything: it is a label: what it is worth is what the hold of that sum in a sandbox is worth. -/
noncomputable def Try.pinned : Pinned := { name := "ytdjmejdfcceknaa", sum := "babf6232f499c05e65fac9d506795658cfe7ac2864abc43deecc60caeeb0511f", checked := Try.checked }
namespace Rows
def none {H : Type} : Left H := { results := [], args := [] }

/-- 'doormanlaw20.CrowdTells': WHATEVER THE INPUT: true; the input reads as it did. -/
def crowdTellsSpec : ChangeSpec := { name := "crowdTells", fn := fun _ => fun
  | [d1, d2] => { results := [.lit (.bool true)], args := [d1, d2] }
  | _ => none }
def crowdTellsRow : OpenClaim := { program := "ytdjmejdfcceknaa", sum := "babf6232f499c05e65fac9d506795658cfe7ac2864abc43deecc60caeeb0511f", func := "doorman/doormanlaw20.CrowdTells", spec := "crowdTells", plainKeys := false, apart := false }
def CrowdTellsSaid : Prop := crowdTellsRow.holds Try.pinned (OpenSpec.ofChange crowdTellsSpec)

/-- ITS FALSE NEIGHBOUR: 'it returns false'. Refute it at one input. -/
def crowdTellsWrong : ChangeSpec := { name := "crowdTells", fn := fun _ => fun
  | [d1, d2] => { results := [.lit (.bool false)], args := [d1, d2] }
  | _ => none }
def CrowdTellsWrongFalsely : Prop := crowdTellsRow.holds Try.pinned (OpenSpec.ofChange crowdTellsWrong)

/-- 'doormanlaw20.CrowdGreatest': WHATEVER THE INPUT: true; the input reads as it did. -/
def crowdGreatestSpec : ChangeSpec := { name := "crowdGreatest", fn := fun _ => fun
  | [d1, d2] => { results := [.lit (.bool true)], args := [d1, d2] }
  | _ => none }
def crowdGreatestRow : OpenClaim := { program := "ytdjmejdfcceknaa", sum := "babf6232f499c05e65fac9d506795658cfe7ac2864abc43deecc60caeeb0511f", func := "doorman/doormanlaw20.CrowdGreatest", spec := "crowdGreatest", plainKeys := false, apart := false }
def CrowdGreatestSaid : Prop := crowdGreatestRow.holds Try.pinned (OpenSpec.ofChange crowdGreatestSpec)

/-- ITS FALSE NEIGHBOUR: 'it returns false'. Refute it at one input. -/
def crowdGreatestWrong : ChangeSpec := { name := "crowdGreatest", fn := fun _ => fun
  | [d1, d2] => { results := [.lit (.bool false)], args := [d1, d2] }
  | _ => none }
def CrowdGreatestWrongFalsely : Prop := crowdGreatestRow.holds Try.pinned (OpenSpec.ofChange crowdGreatestWrong)

/-- 'doormanlaw17.PeerTells': WHATEVER THE INPUT: true; the input reads as it did. -/
def peerTellsSpec : ChangeSpec := { name := "peerTells", fn := fun _ => fun
  | [d1, d2, d3] => { results := [.lit (.bool true)], args := [d1, d2, d3] }
  | _ => none }
def peerTellsRow : OpenClaim := { program := "ytdjmejdfcceknaa", sum := "babf6232f499c05e65fac9d506795658cfe7ac2864abc43deecc60caeeb0511f", func := "doorman/doormanlaw17.PeerTells", spec := "peerTells", inPlace := ["internal/abi.NoEscape", "internal/bytealg.MakeNoZero"], recurses := true, plainKeys := false, apart := false }
def PeerTellsSaid : Prop := peerTellsRow.holds Try.pinned (OpenSpec.ofChange peerTellsSpec)

/-- ITS FALSE NEIGHBOUR: 'it returns false'. Refute it at one input. -/
def peerTellsWrong : ChangeSpec := { name := "peerTells", fn := fun _ => fun
  | [d1, d2, d3] => { results := [.lit (.bool false)], args := [d1, d2, d3] }
  | _ => none }
def PeerTellsWrongFalsely : Prop := peerTellsRow.holds Try.pinned (OpenSpec.ofChange peerTellsWrong)

/-- 'doormanlaw17.PeerLives': WHATEVER THE INPUT: true; the input reads as it did. -/
def peerLivesSpec : ChangeSpec := { name := "peerLives", fn := fun _ => fun
  | [d1, d2, d3] => { results := [.lit (.bool true)], args := [d1, d2, d3] }
  | _ => none }
def peerLivesRow : OpenClaim := { program := "ytdjmejdfcceknaa", sum := "babf6232f499c05e65fac9d506795658cfe7ac2864abc43deecc60caeeb0511f", func := "doorman/doormanlaw17.PeerLives", spec := "peerLives", inPlace := ["internal/abi.NoEscape", "internal/bytealg.MakeNoZero"], plainKeys := false, apart := false }
def PeerLivesSaid : Prop := peerLivesRow.holds Try.pinned (OpenSpec.ofChange peerLivesSpec)

/-- ITS FALSE NEIGHBOUR: 'it returns false'. Refute it at one input. -/
def peerLivesWrong : ChangeSpec := { name := "peerLives", fn := fun _ => fun
  | [d1, d2, d3] => { results := [.lit (.bool false)], args := [d1, d2, d3] }
  | _ => none }
def PeerLivesWrongFalsely : Prop := peerLivesRow.holds Try.pinned (OpenSpec.ofChange peerLivesWrong)

/-- 'doormanlaw18.RankTells': WHATEVER THE INPUT: true; the input reads as it did. -/
def rankTellsSpec : ChangeSpec := { name := "rankTells", fn := fun _ => fun
  | [d1, d2] => { results := [.lit (.bool true)], args := [d1, d2] }
  | _ => none }
def rankTellsRow : OpenClaim := { program := "ytdjmejdfcceknaa", sum := "babf6232f499c05e65fac9d506795658cfe7ac2864abc43deecc60caeeb0511f", func := "doorman/doormanlaw18.RankTells", spec := "rankTells", unfollowed := true, recurses := true, plainKeys := false, apart := false }
def RankTellsSaid : Prop := rankTellsRow.holds Try.pinned (OpenSpec.ofChange rankTellsSpec)

/-- ITS FALSE NEIGHBOUR: 'it returns false'. Refute it at one input. -/
def rankTellsWrong : ChangeSpec := { name := "rankTells", fn := fun _ => fun
  | [d1, d2] => { results := [.lit (.bool false)], args := [d1, d2] }
  | _ => none }
def RankTellsWrongFalsely : Prop := rankTellsRow.holds Try.pinned (OpenSpec.ofChange rankTellsWrong)

/-- 'doormanlaw18.RankTurned': WHATEVER THE INPUT: true; the input reads as it did. -/
def rankTurnedSpec : ChangeSpec := { name := "rankTurned", fn := fun _ => fun
  | [d1, d2] => { results := [.lit (.bool true)], args := [d1, d2] }
  | _ => none }
def rankTurnedRow : OpenClaim := { program := "ytdjmejdfcceknaa", sum := "babf6232f499c05e65fac9d506795658cfe7ac2864abc43deecc60caeeb0511f", func := "doorman/doormanlaw18.RankTurned", spec := "rankTurned", unfollowed := true, recurses := true, plainKeys := false, apart := false }
def RankTurnedSaid : Prop := rankTurnedRow.holds Try.pinned (OpenSpec.ofChange rankTurnedSpec)

/-- ITS FALSE NEIGHBOUR: 'it returns false'. Refute it at one input. -/
def rankTurnedWrong : ChangeSpec := { name := "rankTurned", fn := fun _ => fun
  | [d1, d2] => { results := [.lit (.bool false)], args := [d1, d2] }
  | _ => none }
def RankTurnedWrongFalsely : Prop := rankTurnedRow.holds Try.pinned (OpenSpec.ofChange rankTurnedWrong)

/-- 'doormanlaw19.ShieldTells': WHATEVER THE INPUT: true; the input reads as it did. -/
def shieldTellsSpec : ChangeSpec := { name := "shieldTells", fn := fun _ => fun
  | [d1, d2, d3] => { results := [.lit (.bool true)], args := [d1, d2, d3] }
  | _ => none }
def shieldTellsRow : OpenClaim := { program := "ytdjmejdfcceknaa", sum := "babf6232f499c05e65fac9d506795658cfe7ac2864abc43deecc60caeeb0511f", func := "doorman/doormanlaw19.ShieldTells", spec := "shieldTells", unfollowed := true, recurses := true, plainKeys := false, apart := false }
def ShieldTellsSaid : Prop := shieldTellsRow.holds Try.pinned (OpenSpec.ofChange shieldTellsSpec)

/-- ITS FALSE NEIGHBOUR: 'it returns false'. Refute it at one input. -/
def shieldTellsWrong : ChangeSpec := { name := "shieldTells", fn := fun _ => fun
  | [d1, d2, d3] => { results := [.lit (.bool false)], args := [d1, d2, d3] }
  | _ => none }
def ShieldTellsWrongFalsely : Prop := shieldTellsRow.holds Try.pinned (OpenSpec.ofChange shieldTellsWrong)

/-- 'doormanlaw19.ShieldInside': WHATEVER THE INPUT: true; the input reads as it did. -/
def shieldInsideSpec : ChangeSpec := { name := "shieldInside", fn := fun _ => fun
  | [d1, d2, d3] => { results := [.lit (.bool true)], args := [d1, d2, d3] }
  | _ => none }
def shieldInsideRow : OpenClaim := { program := "ytdjmejdfcceknaa", sum := "babf6232f499c05e65fac9d506795658cfe7ac2864abc43deecc60caeeb0511f", func := "doorman/doormanlaw19.ShieldInside", spec := "shieldInside", unfollowed := true, recurses := true, plainKeys := false, apart := false }
def ShieldInsideSaid : Prop := shieldInsideRow.holds Try.pinned (OpenSpec.ofChange shieldInsideSpec)

/-- ITS FALSE NEIGHBOUR: 'it returns false'. Refute it at one input. -/
def shieldInsideWrong : ChangeSpec := { name := "shieldInside", fn := fun _ => fun
  | [d1, d2, d3] => { results := [.lit (.bool false)], args := [d1, d2, d3] }
  | _ => none }
def ShieldInsideWrongFalsely : Prop := shieldInsideRow.holds Try.pinned (OpenSpec.ofChange shieldInsideWrong)

/-- 'doormanlaw19.ShieldCounts': WHATEVER THE INPUT: true; the input reads as it did. -/
def shieldCountsSpec : ChangeSpec := { name := "shieldCounts", fn := fun _ => fun
  | [d1, d2, d3] => { results := [.lit (.bool true)], args := [d1, d2, d3] }
  | _ => none }
def shieldCountsRow : OpenClaim := { program := "ytdjmejdfcceknaa", sum := "babf6232f499c05e65fac9d506795658cfe7ac2864abc43deecc60caeeb0511f", func := "doorman/doormanlaw19.ShieldCounts", spec := "shieldCounts", unfollowed := true, recurses := true, plainKeys := false, apart := false }
def ShieldCountsSaid : Prop := shieldCountsRow.holds Try.pinned (OpenSpec.ofChange shieldCountsSpec)

/-- ITS FALSE NEIGHBOUR: 'it returns false'. Refute it at one input. -/
def shieldCountsWrong : ChangeSpec := { name := "shieldCounts", fn := fun _ => fun
  | [d1, d2, d3] => { results := [.lit (.bool false)], args := [d1, d2, d3] }
  | _ => none }
def ShieldCountsWrongFalsely : Prop := shieldCountsRow.holds Try.pinned (OpenSpec.ofChange shieldCountsWrong)

/-- 'doormanlaw21.EvictTells': WHATEVER THE INPUT: true; the input reads as it did. -/
def evictTellsSpec : ChangeSpec := { name := "evictTells", fn := fun _ => fun
  | [d1, d2, d3] => { results := [.lit (.bool true)], args := [d1, d2, d3] }
  | _ => none }
def evictTellsRow : OpenClaim := { program := "ytdjmejdfcceknaa", sum := "babf6232f499c05e65fac9d506795658cfe7ac2864abc43deecc60caeeb0511f", func := "doorman/doormanlaw21.EvictTells", spec := "evictTells", unfollowed := true, recurses := true, plainKeys := false, apart := false }
def EvictTellsSaid : Prop := evictTellsRow.holds Try.pinned (OpenSpec.ofChange evictTellsSpec)

/-- ITS FALSE NEIGHBOUR: 'it returns false'. Refute it at one input. -/
def evictTellsWrong : ChangeSpec := { name := "evictTells", fn := fun _ => fun
  | [d1, d2, d3] => { results := [.lit (.bool false)], args := [d1, d2, d3] }
  | _ => none }
def EvictTellsWrongFalsely : Prop := evictTellsRow.holds Try.pinned (OpenSpec.ofChange evictTellsWrong)

/-- 'doormanlaw21.EvictNever': WHATEVER THE INPUT: true; the input reads as it did. -/
def evictNeverSpec : ChangeSpec := { name := "evictNever", fn := fun _ => fun
  | [d1, d2, d3] => { results := [.lit (.bool true)], args := [d1, d2, d3] }
  | _ => none }
def evictNeverRow : OpenClaim := { program := "ytdjmejdfcceknaa", sum := "babf6232f499c05e65fac9d506795658cfe7ac2864abc43deecc60caeeb0511f", func := "doorman/doormanlaw21.EvictNever", spec := "evictNever", unfollowed := true, recurses := true, plainKeys := false, apart := false }
def EvictNeverSaid : Prop := evictNeverRow.holds Try.pinned (OpenSpec.ofChange evictNeverSpec)

/-- ITS FALSE NEIGHBOUR: 'it returns false'. Refute it at one input. -/
def evictNeverWrong : ChangeSpec := { name := "evictNever", fn := fun _ => fun
  | [d1, d2, d3] => { results := [.lit (.bool false)], args := [d1, d2, d3] }
  | _ => none }
def EvictNeverWrongFalsely : Prop := evictNeverRow.holds Try.pinned (OpenSpec.ofChange evictNeverWrong)

/-- 'doormanlaw21.EvictTurned': WHATEVER THE INPUT: true; the input reads as it did. -/
def evictTurnedSpec : ChangeSpec := { name := "evictTurned", fn := fun _ => fun
  | [d1, d2, d3] => { results := [.lit (.bool true)], args := [d1, d2, d3] }
  | _ => none }
def evictTurnedRow : OpenClaim := { program := "ytdjmejdfcceknaa", sum := "babf6232f499c05e65fac9d506795658cfe7ac2864abc43deecc60caeeb0511f", func := "doorman/doormanlaw21.EvictTurned", spec := "evictTurned", unfollowed := true, recurses := true, plainKeys := false, apart := false }
def EvictTurnedSaid : Prop := evictTurnedRow.holds Try.pinned (OpenSpec.ofChange evictTurnedSpec)

/-- ITS FALSE NEIGHBOUR: 'it returns false'. Refute it at one input. -/
def evictTurnedWrong : ChangeSpec := { name := "evictTurned", fn := fun _ => fun
  | [d1, d2, d3] => { results := [.lit (.bool false)], args := [d1, d2, d3] }
  | _ => none }
def EvictTurnedWrongFalsely : Prop := evictTurnedRow.holds Try.pinned (OpenSpec.ofChange evictTurnedWrong)

/- THE SECOND FORM. 'bulk': how many values and letters a reading holds, each counted each time it is reached (what is shared counts as often as it is met; a slice's spare places count too). A statement '..UptoSaid' is the law's where the arguments, and the package variables that the reading takes, are together of bulk at most 1048576: NARROWER than '..Said'. Prove '..Said' where nothing that the law and all that it calls make is longer than what came in: it says more and counts as full. Else prove '..UptoSaid'. A law counts once. -/
mutual
def uptoBulk {H : Type} : DataW H → Nat
  | .lit (.string bytes) => bytes.length + 1
  | .lit _ => 1
  | .nil => 1
  | .ptr d => uptoBulk d + 1
  | .slice elems spare => uptoBulkAll elems + uptoBulkAll spare + 1
  | .agg parts => uptoBulkAll parts + 1
  | .iface _ d => uptoBulk d + 1
  | .map entries => uptoBulkEntries entries + 1
  | .held _ => 1
def uptoBulkAll {H : Type} : List (DataW H) → Nat
  | [] => 0
  | d :: r => uptoBulk d + uptoBulkAll r
def uptoBulkEntries {H : Type} : List (Lit × DataW H) → Nat
  | [] => 0
  | x :: r => uptoBulkEntry x + uptoBulkEntries r
def uptoBulkEntry {H : Type} : Lit × DataW H → Nat
  | (.string bytes, d) => bytes.length + uptoBulk d + 1
  | (_, d) => uptoBulk d + 1
 end
def uptoSmall : (H : Type) → List (DataW H) → Bool := fun _ ds => decide (uptoBulkAll ds ≤ 1048576)
def OpenSpec.upto (s : _root_.Go.ChangeSpec) : _root_.Go.OpenSpec := { _root_.Go.OpenSpec.ofChange s with cond := some uptoSmall }

/-- 'doormanlaw20.CrowdTells', WHERE WHAT IT READS IS OF BULK AT MOST 1048576: true; the input reads as it did. -/
def crowdTellsUptoRow : OpenClaim := { program := "ytdjmejdfcceknaa", sum := "babf6232f499c05e65fac9d506795658cfe7ac2864abc43deecc60caeeb0511f", func := "doorman/doormanlaw20.CrowdTells", spec := "crowdTells", plainKeys := false, apart := false, narrowed := true }
def CrowdTellsUptoSaid : Prop := crowdTellsUptoRow.holds Try.pinned (OpenSpec.upto crowdTellsSpec)

/-- 'doormanlaw20.CrowdGreatest', WHERE WHAT IT READS IS OF BULK AT MOST 1048576: true; the input reads as it did. -/
def crowdGreatestUptoRow : OpenClaim := { program := "ytdjmejdfcceknaa", sum := "babf6232f499c05e65fac9d506795658cfe7ac2864abc43deecc60caeeb0511f", func := "doorman/doormanlaw20.CrowdGreatest", spec := "crowdGreatest", plainKeys := false, apart := false, narrowed := true }
def CrowdGreatestUptoSaid : Prop := crowdGreatestUptoRow.holds Try.pinned (OpenSpec.upto crowdGreatestSpec)

/-- 'doormanlaw17.PeerTells', WHERE WHAT IT READS IS OF BULK AT MOST 1048576: true; the input reads as it did. -/
def peerTellsUptoRow : OpenClaim := { program := "ytdjmejdfcceknaa", sum := "babf6232f499c05e65fac9d506795658cfe7ac2864abc43deecc60caeeb0511f", func := "doorman/doormanlaw17.PeerTells", spec := "peerTells", inPlace := ["internal/abi.NoEscape", "internal/bytealg.MakeNoZero"], recurses := true, plainKeys := false, apart := false, narrowed := true }
def PeerTellsUptoSaid : Prop := peerTellsUptoRow.holds Try.pinned (OpenSpec.upto peerTellsSpec)

/-- 'doormanlaw17.PeerLives', WHERE WHAT IT READS IS OF BULK AT MOST 1048576: true; the input reads as it did. -/
def peerLivesUptoRow : OpenClaim := { program := "ytdjmejdfcceknaa", sum := "babf6232f499c05e65fac9d506795658cfe7ac2864abc43deecc60caeeb0511f", func := "doorman/doormanlaw17.PeerLives", spec := "peerLives", inPlace := ["internal/abi.NoEscape", "internal/bytealg.MakeNoZero"], plainKeys := false, apart := false, narrowed := true }
def PeerLivesUptoSaid : Prop := peerLivesUptoRow.holds Try.pinned (OpenSpec.upto peerLivesSpec)

/-- 'doormanlaw18.RankTells', WHERE WHAT IT READS IS OF BULK AT MOST 1048576: true; the input reads as it did. -/
def rankTellsUptoRow : OpenClaim := { program := "ytdjmejdfcceknaa", sum := "babf6232f499c05e65fac9d506795658cfe7ac2864abc43deecc60caeeb0511f", func := "doorman/doormanlaw18.RankTells", spec := "rankTells", unfollowed := true, recurses := true, plainKeys := false, apart := false, narrowed := true }
def RankTellsUptoSaid : Prop := rankTellsUptoRow.holds Try.pinned (OpenSpec.upto rankTellsSpec)

/-- 'doormanlaw18.RankTurned', WHERE WHAT IT READS IS OF BULK AT MOST 1048576: true; the input reads as it did. -/
def rankTurnedUptoRow : OpenClaim := { program := "ytdjmejdfcceknaa", sum := "babf6232f499c05e65fac9d506795658cfe7ac2864abc43deecc60caeeb0511f", func := "doorman/doormanlaw18.RankTurned", spec := "rankTurned", unfollowed := true, recurses := true, plainKeys := false, apart := false, narrowed := true }
def RankTurnedUptoSaid : Prop := rankTurnedUptoRow.holds Try.pinned (OpenSpec.upto rankTurnedSpec)

/-- 'doormanlaw19.ShieldTells', WHERE WHAT IT READS IS OF BULK AT MOST 1048576: true; the input reads as it did. -/
def shieldTellsUptoRow : OpenClaim := { program := "ytdjmejdfcceknaa", sum := "babf6232f499c05e65fac9d506795658cfe7ac2864abc43deecc60caeeb0511f", func := "doorman/doormanlaw19.ShieldTells", spec := "shieldTells", unfollowed := true, recurses := true, plainKeys := false, apart := false, narrowed := true }
def ShieldTellsUptoSaid : Prop := shieldTellsUptoRow.holds Try.pinned (OpenSpec.upto shieldTellsSpec)

/-- 'doormanlaw19.ShieldInside', WHERE WHAT IT READS IS OF BULK AT MOST 1048576: true; the input reads as it did. -/
def shieldInsideUptoRow : OpenClaim := { program := "ytdjmejdfcceknaa", sum := "babf6232f499c05e65fac9d506795658cfe7ac2864abc43deecc60caeeb0511f", func := "doorman/doormanlaw19.ShieldInside", spec := "shieldInside", unfollowed := true, recurses := true, plainKeys := false, apart := false, narrowed := true }
def ShieldInsideUptoSaid : Prop := shieldInsideUptoRow.holds Try.pinned (OpenSpec.upto shieldInsideSpec)

/-- 'doormanlaw19.ShieldCounts', WHERE WHAT IT READS IS OF BULK AT MOST 1048576: true; the input reads as it did. -/
def shieldCountsUptoRow : OpenClaim := { program := "ytdjmejdfcceknaa", sum := "babf6232f499c05e65fac9d506795658cfe7ac2864abc43deecc60caeeb0511f", func := "doorman/doormanlaw19.ShieldCounts", spec := "shieldCounts", unfollowed := true, recurses := true, plainKeys := false, apart := false, narrowed := true }
def ShieldCountsUptoSaid : Prop := shieldCountsUptoRow.holds Try.pinned (OpenSpec.upto shieldCountsSpec)

/-- 'doormanlaw21.EvictTells', WHERE WHAT IT READS IS OF BULK AT MOST 1048576: true; the input reads as it did. -/
def evictTellsUptoRow : OpenClaim := { program := "ytdjmejdfcceknaa", sum := "babf6232f499c05e65fac9d506795658cfe7ac2864abc43deecc60caeeb0511f", func := "doorman/doormanlaw21.EvictTells", spec := "evictTells", unfollowed := true, recurses := true, plainKeys := false, apart := false, narrowed := true }
def EvictTellsUptoSaid : Prop := evictTellsUptoRow.holds Try.pinned (OpenSpec.upto evictTellsSpec)

/-- 'doormanlaw21.EvictNever', WHERE WHAT IT READS IS OF BULK AT MOST 1048576: true; the input reads as it did. -/
def evictNeverUptoRow : OpenClaim := { program := "ytdjmejdfcceknaa", sum := "babf6232f499c05e65fac9d506795658cfe7ac2864abc43deecc60caeeb0511f", func := "doorman/doormanlaw21.EvictNever", spec := "evictNever", unfollowed := true, recurses := true, plainKeys := false, apart := false, narrowed := true }
def EvictNeverUptoSaid : Prop := evictNeverUptoRow.holds Try.pinned (OpenSpec.upto evictNeverSpec)

/-- 'doormanlaw21.EvictTurned', WHERE WHAT IT READS IS OF BULK AT MOST 1048576: true; the input reads as it did. -/
def evictTurnedUptoRow : OpenClaim := { program := "ytdjmejdfcceknaa", sum := "babf6232f499c05e65fac9d506795658cfe7ac2864abc43deecc60caeeb0511f", func := "doorman/doormanlaw21.EvictTurned", spec := "evictTurned", unfollowed := true, recurses := true, plainKeys := false, apart := false, narrowed := true }
def EvictTurnedUptoSaid : Prop := evictTurnedUptoRow.holds Try.pinned (OpenSpec.upto evictTurnedSpec)

end Rows
end Go.Proofs.Ytdjmejdfcceknaa
