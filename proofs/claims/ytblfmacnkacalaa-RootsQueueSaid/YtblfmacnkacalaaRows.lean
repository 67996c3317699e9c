/-
  No cell of these rows narrows 'for every input' (looked for: loops, veiled, ifaces, maps, wideKeys, modest, calm, conditions, laid).
  DERIVED. THE GIVEN ROWS OF THIS SEAT. 8 by the template 'for every input the law returns true; each argument reads behind the call as it read before'; 0 by the template 'total and deterministic' (their statements: YtblfmacnkacalaaTotals.lean).
  GIVEN WITH THE SEED: the statements are not yours to turn. If you find one false, say at which input.
  Laid BY PROGRAM, IN A SANDBOX (cutbox-rows.mjs): the forced cells as the released guide's own fill.sh prints them over the translation 853c7a6c0f796e23… (all of the seat's roots in one cut). By AI agents, Wed Nov 11 2026. No macro, syntax, notation, axiom, sorry.
-/
import Derived.Test.YtblfmacnkacalaaChecked
import GoSem.Claim
import GoSem.ClaimJoined
import GoSem.ClaimMapViews
import Derived.JoinedTies
import Derived.KernelRfl
namespace Go.Proofs.Ytblfmacnkacalaa
/- THE CELL 'sum', in the pinned program and in every row, IS THE sha256 OF THE DUMP (.gsa) THAT YtblfmacnkacalaaProg.lean LOADS. Nothing in Lean hashes anything: it is a label: what it is worth is what the hold of that sum in a sandbox is worth. -/
noncomputable def Try.pinned : Pinned := { name := "ytblfmacnkacalaa", sum := "853c7a6c0f796e23c27343f7f16414fcb13c6d782d7021fd4e5c7f65308f3964", checked := Try.checked }
namespace Rows
def none {H : Type} : Left H := { results := [], args := [] }

/-- 'dustcartlaw03.RootsPlaces': WHATEVER THE INPUT: true; the input reads as it did. -/
def rootsPlacesSpec : ChangeSpec := { name := "rootsPlaces", fn := fun _ => fun
  | [d1, d2, d3, d4] => { results := [.lit (.bool true)], args := [d1, d2, d3, d4] }
  | _ => none }
def rootsPlacesRow : OpenClaim := { program := "ytblfmacnkacalaa", sum := "853c7a6c0f796e23c27343f7f16414fcb13c6d782d7021fd4e5c7f65308f3964", func := "dustcart/dustcartlaw03.RootsPlaces", spec := "rootsPlaces", unfollowed := true, recurses := true, apart := false }
def RootsPlacesSaid : Prop := rootsPlacesRow.holds Try.pinned (OpenSpec.ofChange rootsPlacesSpec)

/-- ITS FALSE NEIGHBOUR: 'it returns false'. Refute it at one input. -/
def rootsPlacesWrong : ChangeSpec := { name := "rootsPlaces", fn := fun _ => fun
  | [d1, d2, d3, d4] => { results := [.lit (.bool false)], args := [d1, d2, d3, d4] }
  | _ => none }
def RootsPlacesWrongFalsely : Prop := rootsPlacesRow.holds Try.pinned (OpenSpec.ofChange rootsPlacesWrong)

/-- 'dustcartlaw03.RootsLeads': WHATEVER THE INPUT: true; the input reads as it did. -/
def rootsLeadsSpec : ChangeSpec := { name := "rootsLeads", fn := fun _ => fun
  | [d1, d2] => { results := [.lit (.bool true)], args := [d1, d2] }
  | _ => none }
def rootsLeadsRow : OpenClaim := { program := "ytblfmacnkacalaa", sum := "853c7a6c0f796e23c27343f7f16414fcb13c6d782d7021fd4e5c7f65308f3964", func := "dustcart/dustcartlaw03.RootsLeads", spec := "rootsLeads", unfollowed := true, recurses := true, apart := false }
def RootsLeadsSaid : Prop := rootsLeadsRow.holds Try.pinned (OpenSpec.ofChange rootsLeadsSpec)

/-- ITS FALSE NEIGHBOUR: 'it returns false'. Refute it at one input. -/
def rootsLeadsWrong : ChangeSpec := { name := "rootsLeads", fn := fun _ => fun
  | [d1, d2] => { results := [.lit (.bool false)], args := [d1, d2] }
  | _ => none }
def RootsLeadsWrongFalsely : Prop := rootsLeadsRow.holds Try.pinned (OpenSpec.ofChange rootsLeadsWrong)

/-- 'dustcartlaw03.RootsReplaced': WHATEVER THE INPUT: true; the input reads as it did. -/
def rootsReplacedSpec : ChangeSpec := { name := "rootsReplaced", fn := fun _ => fun
  | [d1, d2, d3, d4] => { results := [.lit (.bool true)], args := [d1, d2, d3, d4] }
  | _ => none }
def rootsReplacedRow : OpenClaim := { program := "ytblfmacnkacalaa", sum := "853c7a6c0f796e23c27343f7f16414fcb13c6d782d7021fd4e5c7f65308f3964", func := "dustcart/dustcartlaw03.RootsReplaced", spec := "rootsReplaced", unfollowed := true, recurses := true, apart := false }
def RootsReplacedSaid : Prop := rootsReplacedRow.holds Try.pinned (OpenSpec.ofChange rootsReplacedSpec)

/-- ITS FALSE NEIGHBOUR: 'it returns false'. Refute it at one input. -/
def rootsReplacedWrong : ChangeSpec := { name := "rootsReplaced", fn := fun _ => fun
  | [d1, d2, d3, d4] => { results := [.lit (.bool false)], args := [d1, d2, d3, d4] }
  | _ => none }
def RootsReplacedWrongFalsely : Prop := rootsReplacedRow.holds Try.pinned (OpenSpec.ofChange rootsReplacedWrong)

/-- 'dustcartlaw03.RootsQueue': WHATEVER THE INPUT: true; the input reads as it did. -/
def rootsQueueSpec : ChangeSpec := { name := "rootsQueue", fn := fun _ => fun
  | [d1, d2] => { results := [.lit (.bool true)], args := [d1, d2] }
  | _ => none }
def rootsQueueRow : OpenClaim := { program := "ytblfmacnkacalaa", sum := "853c7a6c0f796e23c27343f7f16414fcb13c6d782d7021fd4e5c7f65308f3964", func := "dustcart/dustcartlaw03.RootsQueue", spec := "rootsQueue", unfollowed := true, recurses := true, apart := false }
def RootsQueueSaid : Prop := rootsQueueRow.holds Try.pinned (OpenSpec.ofChange rootsQueueSpec)

/-- ITS FALSE NEIGHBOUR: 'it returns false'. Refute it at one input. -/
def rootsQueueWrong : ChangeSpec := { name := "rootsQueue", fn := fun _ => fun
  | [d1, d2] => { results := [.lit (.bool false)], args := [d1, d2] }
  | _ => none }
def RootsQueueWrongFalsely : Prop := rootsQueueRow.holds Try.pinned (OpenSpec.ofChange rootsQueueWrong)

/-- 'dustcartlaw03.RootsRefused': WHATEVER THE INPUT: true; the input reads as it did. -/
def rootsRefusedSpec : ChangeSpec := { name := "rootsRefused", fn := fun _ => fun
  | [d1, d2, d3] => { results := [.lit (.bool true)], args := [d1, d2, d3] }
  | _ => none }
def rootsRefusedRow : OpenClaim := { program := "ytblfmacnkacalaa", sum := "853c7a6c0f796e23c27343f7f16414fcb13c6d782d7021fd4e5c7f65308f3964", func := "dustcart/dustcartlaw03.RootsRefused", spec := "rootsRefused", unfollowed := true, recurses := true, apart := false }
def RootsRefusedSaid : Prop := rootsRefusedRow.holds Try.pinned (OpenSpec.ofChange rootsRefusedSpec)

/-- ITS FALSE NEIGHBOUR: 'it returns false'. Refute it at one input. -/
def rootsRefusedWrong : ChangeSpec := { name := "rootsRefused", fn := fun _ => fun
  | [d1, d2, d3] => { results := [.lit (.bool false)], args := [d1, d2, d3] }
  | _ => none }
def RootsRefusedWrongFalsely : Prop := rootsRefusedRow.holds Try.pinned (OpenSpec.ofChange rootsRefusedWrong)

/-- 'dustcartlaw03.RootsPlays': WHATEVER THE INPUT: true; the input reads as it did. -/
def rootsPlaysSpec : ChangeSpec := { name := "rootsPlays", fn := fun _ => fun
  | [d1, d2] => { results := [.lit (.bool true)], args := [d1, d2] }
  | _ => none }
def rootsPlaysRow : OpenClaim := { program := "ytblfmacnkacalaa", sum := "853c7a6c0f796e23c27343f7f16414fcb13c6d782d7021fd4e5c7f65308f3964", func := "dustcart/dustcartlaw03.RootsPlays", spec := "rootsPlays", unfollowed := true, recurses := true, apart := false }
def RootsPlaysSaid : Prop := rootsPlaysRow.holds Try.pinned (OpenSpec.ofChange rootsPlaysSpec)

/-- ITS FALSE NEIGHBOUR: 'it returns false'. Refute it at one input. -/
def rootsPlaysWrong : ChangeSpec := { name := "rootsPlays", fn := fun _ => fun
  | [d1, d2] => { results := [.lit (.bool false)], args := [d1, d2] }
  | _ => none }
def RootsPlaysWrongFalsely : Prop := rootsPlaysRow.holds Try.pinned (OpenSpec.ofChange rootsPlaysWrong)

/-- 'dustcartlaw03.RootsNone': WHATEVER THE INPUT: true; the input reads as it did. -/
def rootsNoneSpec : ChangeSpec := { name := "rootsNone", fn := fun _ => fun
  | [d] => { results := [.lit (.bool true)], args := [d] }
  | _ => none }
def rootsNoneRow : OpenClaim := { program := "ytblfmacnkacalaa", sum := "853c7a6c0f796e23c27343f7f16414fcb13c6d782d7021fd4e5c7f65308f3964", func := "dustcart/dustcartlaw03.RootsNone", spec := "rootsNone", unfollowed := true, recurses := true, apart := false }
def RootsNoneSaid : Prop := rootsNoneRow.holds Try.pinned (OpenSpec.ofChange rootsNoneSpec)

/-- ITS FALSE NEIGHBOUR: 'it returns false'. Refute it at one input. -/
def rootsNoneWrong : ChangeSpec := { name := "rootsNone", fn := fun _ => fun
  | [d] => { results := [.lit (.bool false)], args := [d] }
  | _ => none }
def RootsNoneWrongFalsely : Prop := rootsNoneRow.holds Try.pinned (OpenSpec.ofChange rootsNoneWrong)

/-- 'dustcartlaw03.RootsClones': WHATEVER THE INPUT: true; the input reads as it did. -/
def rootsClonesSpec : ChangeSpec := { name := "rootsClones", fn := fun _ => fun
  | [d1, d2, d3, d4] => { results := [.lit (.bool true)], args := [d1, d2, d3, d4] }
  | _ => none }
def rootsClonesRow : OpenClaim := { program := "ytblfmacnkacalaa", sum := "853c7a6c0f796e23c27343f7f16414fcb13c6d782d7021fd4e5c7f65308f3964", func := "dustcart/dustcartlaw03.RootsClones", spec := "rootsClones", unfollowed := true, recurses := true, apart := false }
def RootsClonesSaid : Prop := rootsClonesRow.holds Try.pinned (OpenSpec.ofChange rootsClonesSpec)

/-- ITS FALSE NEIGHBOUR: 'it returns false'. Refute it at one input. -/
def rootsClonesWrong : ChangeSpec := { name := "rootsClones", fn := fun _ => fun
  | [d1, d2, d3, d4] => { results := [.lit (.bool false)], args := [d1, d2, d3, d4] }
  | _ => none }
def RootsClonesWrongFalsely : Prop := rootsClonesRow.holds Try.pinned (OpenSpec.ofChange rootsClonesWrong)

/- THE SECOND FORM. 'bulk': how many values and letters a reading holds, each counted each time it is reached (what is shared counts as often as it is met; a slice's spare places count too). A statement '..UptoSaid' is the law's where the arguments, and the package variables that the reading takes, are together of bulk at most 1048576: NARROWER than '..Said'. Prove '..Said' where nothing that the law and all that it calls make is longer than what came in: it says more and counts as full. Else prove '..UptoSaid'. A law counts once. -/
mutual
def uptoBulk {H : Type} : DataW H → Nat
  | .lit (.string bytes) => bytes.length + 1
  | .lit _ => 1
  | .nil => 1
  | .ptr d => uptoBulk d + 1
  | .slice elems spare => uptoBulkAll elems + uptoBulkAll spare + 1
  | .agg parts => uptoBulkAll parts + 1
  | .iface _ d => uptoBulk d + 1
  | .map entries => uptoBulkEntries entries + 1
  | .held _ => 1
def uptoBulkAll {H : Type} : List (DataW H) → Nat
  | [] => 0
  | d :: r => uptoBulk d + uptoBulkAll r
def uptoBulkEntries {H : Type} : List (Lit × DataW H) → Nat
  | [] => 0
  | x :: r => uptoBulkEntry x + uptoBulkEntries r
def uptoBulkEntry {H : Type} : Lit × DataW H → Nat
  | (.string bytes, d) => bytes.length + uptoBulk d + 1
  | (_, d) => uptoBulk d + 1
 end
def uptoSmall : (H : Type) → List (DataW H) → Bool := fun _ ds => decide (uptoBulkAll ds ≤ 1048576)
def OpenSpec.upto (s : _root_.Go.ChangeSpec) : _root_.Go.OpenSpec := { _root_.Go.OpenSpec.ofChange s with cond := some uptoSmall }

/-- 'dustcartlaw03.RootsPlaces', WHERE WHAT IT READS IS OF BULK AT MOST 1048576: true; the input reads as it did. -/
def rootsPlacesUptoRow : OpenClaim := { program := "ytblfmacnkacalaa", sum := "853c7a6c0f796e23c27343f7f16414fcb13c6d782d7021fd4e5c7f65308f3964", func := "dustcart/dustcartlaw03.RootsPlaces", spec := "rootsPlaces", unfollowed := true, recurses := true, apart := false, narrowed := true }
def RootsPlacesUptoSaid : Prop := rootsPlacesUptoRow.holds Try.pinned (OpenSpec.upto rootsPlacesSpec)

/-- 'dustcartlaw03.RootsLeads', WHERE WHAT IT READS IS OF BULK AT MOST 1048576: true; the input reads as it did. -/
def rootsLeadsUptoRow : OpenClaim := { program := "ytblfmacnkacalaa", sum := "853c7a6c0f796e23c27343f7f16414fcb13c6d782d7021fd4e5c7f65308f3964", func := "dustcart/dustcartlaw03.RootsLeads", spec := "rootsLeads", unfollowed := true, recurses := true, apart := false, narrowed := true }
def RootsLeadsUptoSaid : Prop := rootsLeadsUptoRow.holds Try.pinned (OpenSpec.upto rootsLeadsSpec)

/-- 'dustcartlaw03.RootsReplaced', WHERE WHAT IT READS IS OF BULK AT MOST 1048576: true; the input reads as it did. -/
def rootsReplacedUptoRow : OpenClaim := { program := "ytblfmacnkacalaa", sum := "853c7a6c0f796e23c27343f7f16414fcb13c6d782d7021fd4e5c7f65308f3964", func := "dustcart/dustcartlaw03.RootsReplaced", spec := "rootsReplaced", unfollowed := true, recurses := true, apart := false, narrowed := true }
def RootsReplacedUptoSaid : Prop := rootsReplacedUptoRow.holds Try.pinned (OpenSpec.upto rootsReplacedSpec)

/-- 'dustcartlaw03.RootsQueue', WHERE WHAT IT READS IS OF BULK AT MOST 1048576: true; the input reads as it did. -/
def rootsQueueUptoRow : OpenClaim := { program := "ytblfmacnkacalaa", sum := "853c7a6c0f796e23c27343f7f16414fcb13c6d782d7021fd4e5c7f65308f3964", func := "dustcart/dustcartlaw03.RootsQueue", spec := "rootsQueue", unfollowed := true, recurses := true, apart := false, narrowed := true }
def RootsQueueUptoSaid : Prop := rootsQueueUptoRow.holds Try.pinned (OpenSpec.upto rootsQueueSpec)

/-- 'dustcartlaw03.RootsRefused', WHERE WHAT IT READS IS OF BULK AT MOST 1048576: true; the input reads as it did. -/
def rootsRefusedUptoRow : OpenClaim := { program := "ytblfmacnkacalaa", sum := "853c7a6c0f796e23c27343f7f16414fcb13c6d782d7021fd4e5c7f65308f3964", func := "dustcart/dustcartlaw03.RootsRefused", spec := "rootsRefused", unfollowed := true, recurses := true, apart := false, narrowed := true }
def RootsRefusedUptoSaid : Prop := rootsRefusedUptoRow.holds Try.pinned (OpenSpec.upto rootsRefusedSpec)

/-- 'dustcartlaw03.RootsPlays', WHERE WHAT IT READS IS OF BULK AT MOST 1048576: true; the input reads as it did. -/
def rootsPlaysUptoRow : OpenClaim := { program := "ytblfmacnkacalaa", sum := "853c7a6c0f796e23c27343f7f16414fcb13c6d782d7021fd4e5c7f65308f3964", func := "dustcart/dustcartlaw03.RootsPlays", spec := "rootsPlays", unfollowed := true, recurses := true, apart := false, narrowed := true }
def RootsPlaysUptoSaid : Prop := rootsPlaysUptoRow.holds Try.pinned (OpenSpec.upto rootsPlaysSpec)

/-- 'dustcartlaw03.RootsNone', WHERE WHAT IT READS IS OF BULK AT MOST 1048576: true; the input reads as it did. -/
def rootsNoneUptoRow : OpenClaim := { program := "ytblfmacnkacalaa", sum := "853c7a6c0f796e23c27343f7f16414fcb13c6d782d7021fd4e5c7f65308f3964", func := "dustcart/dustcartlaw03.RootsNone", spec := "rootsNone", unfollowed := true, recurses := true, apart := false, narrowed := true }
def RootsNoneUptoSaid : Prop := rootsNoneUptoRow.holds Try.pinned (OpenSpec.upto rootsNoneSpec)

/-- 'dustcartlaw03.RootsClones', WHERE WHAT IT READS IS OF BULK AT MOST 1048576: true; the input reads as it did. -/
def rootsClonesUptoRow : OpenClaim := { program := "ytblfmacnkacalaa", sum := "853c7a6c0f796e23c27343f7f16414fcb13c6d782d7021fd4e5c7f65308f3964", func := "dustcart/dustcartlaw03.RootsClones", spec := "rootsClones", unfollowed := true, recurses := true, apart := false, narrowed := true }
def RootsClonesUptoSaid : Prop := rootsClonesUptoRow.holds Try.pinned (OpenSpec.upto rootsClonesSpec)

end Rows
end Go.Proofs.Ytblfmacnkacalaa
