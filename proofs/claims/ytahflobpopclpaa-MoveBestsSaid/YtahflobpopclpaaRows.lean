/-
  No cell of these rows narrows 'for every input' (looked for: loops, veiled, ifaces, maps, wideKeys, modest, calm, conditions, laid).
  DERIVED. THE GIVEN ROWS OF THIS SEAT. 9 by the template 'for every input the law returns true; each argument reads behind the call as it read before'; 0 by the template 'total and deterministic' (their statements: YtahflobpopclpaaTotals.lean).
  GIVEN WITH THE SEED: the statements are not yours to turn. If you find one false, say at which input.
  Laid BY PROGRAM, IN A SANDBOX (cutbox-rows.mjs): the forced cells as the released guide's own fill.sh prints them over the translation c4d23d35ca38cd33… (all of the seat's roots in one cut). By AI agents, Wed Nov 11 2026. No macro, syntax, notation, axiom, sorry.
-/
import Derived.Test.YtahflobpopclpaaChecked
import GoSem.Claim
import GoSem.ClaimJoined
import GoSem.ClaimMapViews
import Derived.JoinedTies
import Derived.KernelRfl
namespace Go.Proofs.Ytahflobpopclpaa
/- THE CELL 'sum', in the pinned program and in every row, IS THE sha256 OF THE DUMP (.gsa) THAT YtahflobpopclpaaProg.lean LOADS. Nothing in Lean hashes anything: it is a label: what it is worth is what the hold of that sum in a sandbox is worth. -/
noncomputable def Try.pinned : Pinned := { name := "ytahflobpopclpaa", sum := "c4d23d35ca38cd334c11b7bbe044675394dc2aef87bd45fb32d90991a0443e77", checked := Try.checked }
namespace Rows
def none {H : Type} : Left H := { results := [], args := [] }

/-- 'taliklaw08.MoveReach': WHATEVER THE INPUT: true; the input reads as it did. -/
def moveReachSpec : ChangeSpec := { name := "moveReach", fn := fun _ => fun
  | [d1, d2, d3, d4] => { results := [.lit (.bool true)], args := [d1, d2, d3, d4] }
  | _ => none }
def moveReachRow : OpenClaim := { program := "ytahflobpopclpaa", sum := "c4d23d35ca38cd334c11b7bbe044675394dc2aef87bd45fb32d90991a0443e77", func := "talik/taliklaw08.MoveReach", spec := "moveReach", unfollowed := true, recurses := true, plainKeys := false, apart := false }
def MoveReachSaid : Prop := moveReachRow.holds Try.pinned (OpenSpec.ofChange moveReachSpec)

/-- ITS FALSE NEIGHBOUR: 'it returns false'. Refute it at one input. -/
def moveReachWrong : ChangeSpec := { name := "moveReach", fn := fun _ => fun
  | [d1, d2, d3, d4] => { results := [.lit (.bool false)], args := [d1, d2, d3, d4] }
  | _ => none }
def MoveReachWrongFalsely : Prop := moveReachRow.holds Try.pinned (OpenSpec.ofChange moveReachWrong)

/-- 'taliklaw08.MoveExchanges': WHATEVER THE INPUT: true; the input reads as it did. -/
def moveExchangesSpec : ChangeSpec := { name := "moveExchanges", fn := fun _ => fun
  | [d1, d2] => { results := [.lit (.bool true)], args := [d1, d2] }
  | _ => none }
def moveExchangesRow : OpenClaim := { program := "ytahflobpopclpaa", sum := "c4d23d35ca38cd334c11b7bbe044675394dc2aef87bd45fb32d90991a0443e77", func := "talik/taliklaw08.MoveExchanges", spec := "moveExchanges", unfollowed := true, recurses := true, plainKeys := false, apart := false }
def MoveExchangesSaid : Prop := moveExchangesRow.holds Try.pinned (OpenSpec.ofChange moveExchangesSpec)

/-- ITS FALSE NEIGHBOUR: 'it returns false'. Refute it at one input. -/
def moveExchangesWrong : ChangeSpec := { name := "moveExchanges", fn := fun _ => fun
  | [d1, d2] => { results := [.lit (.bool false)], args := [d1, d2] }
  | _ => none }
def MoveExchangesWrongFalsely : Prop := moveExchangesRow.holds Try.pinned (OpenSpec.ofChange moveExchangesWrong)

/-- 'taliklaw08.MoveSettled': WHATEVER THE INPUT: true; the input reads as it did. -/
def moveSettledSpec : ChangeSpec := { name := "moveSettled", fn := fun _ => fun
  | [d1, d2, d3] => { results := [.lit (.bool true)], args := [d1, d2, d3] }
  | _ => none }
def moveSettledRow : OpenClaim := { program := "ytahflobpopclpaa", sum := "c4d23d35ca38cd334c11b7bbe044675394dc2aef87bd45fb32d90991a0443e77", func := "talik/taliklaw08.MoveSettled", spec := "moveSettled", unfollowed := true, recurses := true, plainKeys := false, apart := false }
def MoveSettledSaid : Prop := moveSettledRow.holds Try.pinned (OpenSpec.ofChange moveSettledSpec)

/-- ITS FALSE NEIGHBOUR: 'it returns false'. Refute it at one input. -/
def moveSettledWrong : ChangeSpec := { name := "moveSettled", fn := fun _ => fun
  | [d1, d2, d3] => { results := [.lit (.bool false)], args := [d1, d2, d3] }
  | _ => none }
def MoveSettledWrongFalsely : Prop := moveSettledRow.holds Try.pinned (OpenSpec.ofChange moveSettledWrong)

/-- 'taliklaw08.MoveBests': WHATEVER THE INPUT: true; the input reads as it did. -/
def moveBestsSpec : ChangeSpec := { name := "moveBests", fn := fun _ => fun
  | [d] => { results := [.lit (.bool true)], args := [d] }
  | _ => none }
def moveBestsRow : OpenClaim := { program := "ytahflobpopclpaa", sum := "c4d23d35ca38cd334c11b7bbe044675394dc2aef87bd45fb32d90991a0443e77", func := "talik/taliklaw08.MoveBests", spec := "moveBests", unfollowed := true, recurses := true, plainKeys := false, apart := false }
def MoveBestsSaid : Prop := moveBestsRow.holds Try.pinned (OpenSpec.ofChange moveBestsSpec)

/-- ITS FALSE NEIGHBOUR: 'it returns false'. Refute it at one input. -/
def moveBestsWrong : ChangeSpec := { name := "moveBests", fn := fun _ => fun
  | [d] => { results := [.lit (.bool false)], args := [d] }
  | _ => none }
def MoveBestsWrongFalsely : Prop := moveBestsRow.holds Try.pinned (OpenSpec.ofChange moveBestsWrong)

/-- 'taliklaw08.MoveMore': WHATEVER THE INPUT: true; the input reads as it did. -/
def moveMoreSpec : ChangeSpec := { name := "moveMore", fn := fun _ => fun
  | [d1, d2, d3, d4, d5] => { results := [.lit (.bool true)], args := [d1, d2, d3, d4, d5] }
  | _ => none }
def moveMoreRow : OpenClaim := { program := "ytahflobpopclpaa", sum := "c4d23d35ca38cd334c11b7bbe044675394dc2aef87bd45fb32d90991a0443e77", func := "talik/taliklaw08.MoveMore", spec := "moveMore", unfollowed := true, recurses := true, plainKeys := false, apart := false }
def MoveMoreSaid : Prop := moveMoreRow.holds Try.pinned (OpenSpec.ofChange moveMoreSpec)

/-- ITS FALSE NEIGHBOUR: 'it returns false'. Refute it at one input. -/
def moveMoreWrong : ChangeSpec := { name := "moveMore", fn := fun _ => fun
  | [d1, d2, d3, d4, d5] => { results := [.lit (.bool false)], args := [d1, d2, d3, d4, d5] }
  | _ => none }
def MoveMoreWrongFalsely : Prop := moveMoreRow.holds Try.pinned (OpenSpec.ofChange moveMoreWrong)

/-- 'taliklaw08.MoveRivals': WHATEVER THE INPUT: true; the input reads as it did. -/
def moveRivalsSpec : ChangeSpec := { name := "moveRivals", fn := fun _ => fun
  | [d1, d2] => { results := [.lit (.bool true)], args := [d1, d2] }
  | _ => none }
def moveRivalsRow : OpenClaim := { program := "ytahflobpopclpaa", sum := "c4d23d35ca38cd334c11b7bbe044675394dc2aef87bd45fb32d90991a0443e77", func := "talik/taliklaw08.MoveRivals", spec := "moveRivals", unfollowed := true, recurses := true, plainKeys := false, apart := false }
def MoveRivalsSaid : Prop := moveRivalsRow.holds Try.pinned (OpenSpec.ofChange moveRivalsSpec)

/-- ITS FALSE NEIGHBOUR: 'it returns false'. Refute it at one input. -/
def moveRivalsWrong : ChangeSpec := { name := "moveRivals", fn := fun _ => fun
  | [d1, d2] => { results := [.lit (.bool false)], args := [d1, d2] }
  | _ => none }
def MoveRivalsWrongFalsely : Prop := moveRivalsRow.holds Try.pinned (OpenSpec.ofChange moveRivalsWrong)

/-- 'taliklaw08.MovePleased': WHATEVER THE INPUT: true; the input reads as it did. -/
def movePleasedSpec : ChangeSpec := { name := "movePleased", fn := fun _ => fun
  | [d1, d2] => { results := [.lit (.bool true)], args := [d1, d2] }
  | _ => none }
def movePleasedRow : OpenClaim := { program := "ytahflobpopclpaa", sum := "c4d23d35ca38cd334c11b7bbe044675394dc2aef87bd45fb32d90991a0443e77", func := "talik/taliklaw08.MovePleased", spec := "movePleased", unfollowed := true, recurses := true, plainKeys := false, apart := false }
def MovePleasedSaid : Prop := movePleasedRow.holds Try.pinned (OpenSpec.ofChange movePleasedSpec)

/-- ITS FALSE NEIGHBOUR: 'it returns false'. Refute it at one input. -/
def movePleasedWrong : ChangeSpec := { name := "movePleased", fn := fun _ => fun
  | [d1, d2] => { results := [.lit (.bool false)], args := [d1, d2] }
  | _ => none }
def MovePleasedWrongFalsely : Prop := movePleasedRow.holds Try.pinned (OpenSpec.ofChange movePleasedWrong)

/-- 'taliklaw08.MoveWays': WHATEVER THE INPUT: true; the input reads as it did. -/
def moveWaysSpec : ChangeSpec := { name := "moveWays", fn := fun _ => fun
  | [d1, d2, d3] => { results := [.lit (.bool true)], args := [d1, d2, d3] }
  | _ => none }
def moveWaysRow : OpenClaim := { program := "ytahflobpopclpaa", sum := "c4d23d35ca38cd334c11b7bbe044675394dc2aef87bd45fb32d90991a0443e77", func := "talik/taliklaw08.MoveWays", spec := "moveWays", unfollowed := true, recurses := true, plainKeys := false, apart := false }
def MoveWaysSaid : Prop := moveWaysRow.holds Try.pinned (OpenSpec.ofChange moveWaysSpec)

/-- ITS FALSE NEIGHBOUR: 'it returns false'. Refute it at one input. -/
def moveWaysWrong : ChangeSpec := { name := "moveWays", fn := fun _ => fun
  | [d1, d2, d3] => { results := [.lit (.bool false)], args := [d1, d2, d3] }
  | _ => none }
def MoveWaysWrongFalsely : Prop := moveWaysRow.holds Try.pinned (OpenSpec.ofChange moveWaysWrong)

/-- 'taliklaw08.MoveFaults': WHATEVER THE INPUT: true; the input reads as it did. -/
def moveFaultsSpec : ChangeSpec := { name := "moveFaults", fn := fun _ => fun
  | [d1, d2] => { results := [.lit (.bool true)], args := [d1, d2] }
  | _ => none }
def moveFaultsRow : OpenClaim := { program := "ytahflobpopclpaa", sum := "c4d23d35ca38cd334c11b7bbe044675394dc2aef87bd45fb32d90991a0443e77", func := "talik/taliklaw08.MoveFaults", spec := "moveFaults", unfollowed := true, recurses := true, plainKeys := false, apart := false }
def MoveFaultsSaid : Prop := moveFaultsRow.holds Try.pinned (OpenSpec.ofChange moveFaultsSpec)

/-- ITS FALSE NEIGHBOUR: 'it returns false'. Refute it at one input. -/
def moveFaultsWrong : ChangeSpec := { name := "moveFaults", fn := fun _ => fun
  | [d1, d2] => { results := [.lit (.bool false)], args := [d1, d2] }
  | _ => none }
def MoveFaultsWrongFalsely : Prop := moveFaultsRow.holds Try.pinned (OpenSpec.ofChange moveFaultsWrong)

/- THE SECOND FORM. 'bulk': how many values and letters a reading holds, each counted each time it is reached (what is shared counts as often as it is met; a slice's spare places count too). A statement '..UptoSaid' is the law's where the arguments, and the package variables that the reading takes, are together of bulk at most 1048576: NARROWER than '..Said'. Prove '..Said' where nothing that the law and all that it calls make is longer than what came in: it says more and counts as full. Else prove '..UptoSaid'. A law counts once. -/
mutual
def uptoBulk {H : Type} : DataW H → Nat
  | .lit (.string bytes) => bytes.length + 1
  | .lit _ => 1
  | .nil => 1
  | .ptr d => uptoBulk d + 1
  | .slice elems spare => uptoBulkAll elems + uptoBulkAll spare + 1
  | .agg parts => uptoBulkAll parts + 1
  | .iface _ d => uptoBulk d + 1
  | .map entries => uptoBulkEntries entries + 1
  | .held _ => 1
def uptoBulkAll {H : Type} : List (DataW H) → Nat
  | [] => 0
  | d :: r => uptoBulk d + uptoBulkAll r
def uptoBulkEntries {H : Type} : List (Lit × DataW H) → Nat
  | [] => 0
  | x :: r => uptoBulkEntry x + uptoBulkEntries r
def uptoBulkEntry {H : Type} : Lit × DataW H → Nat
  | (.string bytes, d) => bytes.length + uptoBulk d + 1
  | (_, d) => uptoBulk d + 1
 end
def uptoSmall : (H : Type) → List (DataW H) → Bool := fun _ ds => decide (uptoBulkAll ds ≤ 1048576)
def OpenSpec.upto (s : _root_.Go.ChangeSpec) : _root_.Go.OpenSpec := { _root_.Go.OpenSpec.ofChange s with cond := some uptoSmall }

/-- 'taliklaw08.MoveReach', WHERE WHAT IT READS IS OF BULK AT MOST 1048576: true; the input reads as it did. -/
def moveReachUptoRow : OpenClaim := { program := "ytahflobpopclpaa", sum := "c4d23d35ca38cd334c11b7bbe044675394dc2aef87bd45fb32d90991a0443e77", func := "talik/taliklaw08.MoveReach", spec := "moveReach", unfollowed := true, recurses := true, plainKeys := false, apart := false, narrowed := true }
def MoveReachUptoSaid : Prop := moveReachUptoRow.holds Try.pinned (OpenSpec.upto moveReachSpec)

/-- 'taliklaw08.MoveExchanges', WHERE WHAT IT READS IS OF BULK AT MOST 1048576: true; the input reads as it did. -/
def moveExchangesUptoRow : OpenClaim := { program := "ytahflobpopclpaa", sum := "c4d23d35ca38cd334c11b7bbe044675394dc2aef87bd45fb32d90991a0443e77", func := "talik/taliklaw08.MoveExchanges", spec := "moveExchanges", unfollowed := true, recurses := true, plainKeys := false, apart := false, narrowed := true }
def MoveExchangesUptoSaid : Prop := moveExchangesUptoRow.holds Try.pinned (OpenSpec.upto moveExchangesSpec)

/-- 'taliklaw08.MoveSettled', WHERE WHAT IT READS IS OF BULK AT MOST 1048576: true; the input reads as it did. -/
def moveSettledUptoRow : OpenClaim := { program := "ytahflobpopclpaa", sum := "c4d23d35ca38cd334c11b7bbe044675394dc2aef87bd45fb32d90991a0443e77", func := "talik/taliklaw08.MoveSettled", spec := "moveSettled", unfollowed := true, recurses := true, plainKeys := false, apart := false, narrowed := true }
def MoveSettledUptoSaid : Prop := moveSettledUptoRow.holds Try.pinned (OpenSpec.upto moveSettledSpec)

/-- 'taliklaw08.MoveBests', WHERE WHAT IT READS IS OF BULK AT MOST 1048576: true; the input reads as it did. -/
def moveBestsUptoRow : OpenClaim := { program := "ytahflobpopclpaa", sum := "c4d23d35ca38cd334c11b7bbe044675394dc2aef87bd45fb32d90991a0443e77", func := "talik/taliklaw08.MoveBests", spec := "moveBests", unfollowed := true, recurses := true, plainKeys := false, apart := false, narrowed := true }
def MoveBestsUptoSaid : Prop := moveBestsUptoRow.holds Try.pinned (OpenSpec.upto moveBestsSpec)

/-- 'taliklaw08.MoveMore', WHERE WHAT IT READS IS OF BULK AT MOST 1048576: true; the input reads as it did. -/
def moveMoreUptoRow : OpenClaim := { program := "ytahflobpopclpaa", sum := "c4d23d35ca38cd334c11b7bbe044675394dc2aef87bd45fb32d90991a0443e77", func := "talik/taliklaw08.MoveMore", spec := "moveMore", unfollowed := true, recurses := true, plainKeys := false, apart := false, narrowed := true }
def MoveMoreUptoSaid : Prop := moveMoreUptoRow.holds Try.pinned (OpenSpec.upto moveMoreSpec)

/-- 'taliklaw08.MoveRivals', WHERE WHAT IT READS IS OF BULK AT MOST 1048576: true; the input reads as it did. -/
def moveRivalsUptoRow : OpenClaim := { program := "ytahflobpopclpaa", sum := "c4d23d35ca38cd334c11b7bbe044675394dc2aef87bd45fb32d90991a0443e77", func := "talik/taliklaw08.MoveRivals", spec := "moveRivals", unfollowed := true, recurses := true, plainKeys := false, apart := false, narrowed := true }
def MoveRivalsUptoSaid : Prop := moveRivalsUptoRow.holds Try.pinned (OpenSpec.upto moveRivalsSpec)

/-- 'taliklaw08.MovePleased', WHERE WHAT IT READS IS OF BULK AT MOST 1048576: true; the input reads as it did. -/
def movePleasedUptoRow : OpenClaim := { program := "ytahflobpopclpaa", sum := "c4d23d35ca38cd334c11b7bbe044675394dc2aef87bd45fb32d90991a0443e77", func := "talik/taliklaw08.MovePleased", spec := "movePleased", unfollowed := true, recurses := true, plainKeys := false, apart := false, narrowed := true }
def MovePleasedUptoSaid : Prop := movePleasedUptoRow.holds Try.pinned (OpenSpec.upto movePleasedSpec)

/-- 'taliklaw08.MoveWays', WHERE WHAT IT READS IS OF BULK AT MOST 1048576: true; the input reads as it did. -/
def moveWaysUptoRow : OpenClaim := { program := "ytahflobpopclpaa", sum := "c4d23d35ca38cd334c11b7bbe044675394dc2aef87bd45fb32d90991a0443e77", func := "talik/taliklaw08.MoveWays", spec := "moveWays", unfollowed := true, recurses := true, plainKeys := false, apart := false, narrowed := true }
def MoveWaysUptoSaid : Prop := moveWaysUptoRow.holds Try.pinned (OpenSpec.upto moveWaysSpec)

/-- 'taliklaw08.MoveFaults', WHERE WHAT IT READS IS OF BULK AT MOST 1048576: true; the input reads as it did. -/
def moveFaultsUptoRow : OpenClaim := { program := "ytahflobpopclpaa", sum := "c4d23d35ca38cd334c11b7bbe044675394dc2aef87bd45fb32d90991a0443e77", func := "talik/taliklaw08.MoveFaults", spec := "moveFaults", unfollowed := true, recurses := true, plainKeys := false, apart := false, narrowed := true }
def MoveFaultsUptoSaid : Prop := moveFaultsUptoRow.holds Try.pinned (OpenSpec.upto moveFaultsSpec)

end Rows
end Go.Proofs.Ytahflobpopclpaa
