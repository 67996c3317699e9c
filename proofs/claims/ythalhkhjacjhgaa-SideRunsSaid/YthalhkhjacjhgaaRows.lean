/-
  No cell of these rows narrows 'for every input' (looked for: loops, veiled, ifaces, maps, wideKeys, modest, calm, conditions, laid).
  DERIVED. THE GIVEN ROWS OF THIS SEAT. 10 by the template 'for every input the law returns true; each argument reads behind the call as it read before'; 0 by the template 'total and deterministic' (their statements: YthalhkhjacjhgaaTotals.lean).
  GIVEN WITH THE SEED: the statements are not yours to turn. If you find one false, say at which input.
  Laid BY PROGRAM, IN A SANDBOX (cutbox-rows.mjs): the forced cells as the released guide's own fill.sh prints them over the translation 03937120e83e56c5… (all of the seat's roots in one cut). By AI agents, Wed Nov 11 2026. No macro, syntax, notation, axiom, sorry.
-/
import Derived.Test.YthalhkhjacjhgaaChecked
import GoSem.Claim
import GoSem.ClaimJoined
import GoSem.ClaimMapViews
import Derived.JoinedTies
import Derived.KernelRfl
namespace Go.Proofs.Ythalhkhjacjhgaa
/- THE CELL 'sum', in the pinned program and in every row, IS THE sha256 OF THE DUMP (.gsa) THAT YthalhkhjacjhgaaProg.lean LOADS. Nothing in Lean hashes anything: it is a label: what it is worth is what the hold of that sum in a sandbox is worth. -/
noncomputable def Try.pinned : Pinned := { name := "ythalhkhjacjhgaa", sum := "03937120e83e56c5d2401db7b6330812a03d3af565908d891f1615017952b8ad", checked := Try.checked }
namespace Rows
def none {H : Type} : Left H := { results := [], args := [] }

/-- 'dustcartlaw01.SideEntries': WHATEVER THE INPUT: true; the input reads as it did. -/
def sideEntriesSpec : ChangeSpec := { name := "sideEntries", fn := fun _ => fun
  | [d1, d2, d3, d4, d5, d6] => { results := [.lit (.bool true)], args := [d1, d2, d3, d4, d5, d6] }
  | _ => none }
def sideEntriesRow : OpenClaim := { program := "ythalhkhjacjhgaa", sum := "03937120e83e56c5d2401db7b6330812a03d3af565908d891f1615017952b8ad", func := "dustcart/dustcartlaw01.SideEntries", spec := "sideEntries", unfollowed := true, recurses := true, apart := false }
def SideEntriesSaid : Prop := sideEntriesRow.holds Try.pinned (OpenSpec.ofChange sideEntriesSpec)

/-- ITS FALSE NEIGHBOUR: 'it returns false'. Refute it at one input. -/
def sideEntriesWrong : ChangeSpec := { name := "sideEntries", fn := fun _ => fun
  | [d1, d2, d3, d4, d5, d6] => { results := [.lit (.bool false)], args := [d1, d2, d3, d4, d5, d6] }
  | _ => none }
def SideEntriesWrongFalsely : Prop := sideEntriesRow.holds Try.pinned (OpenSpec.ofChange sideEntriesWrong)

/-- 'dustcartlaw01.SideRuns': WHATEVER THE INPUT: true; the input reads as it did. -/
def sideRunsSpec : ChangeSpec := { name := "sideRuns", fn := fun _ => fun
  | [d1, d2, d3, d4] => { results := [.lit (.bool true)], args := [d1, d2, d3, d4] }
  | _ => none }
def sideRunsRow : OpenClaim := { program := "ythalhkhjacjhgaa", sum := "03937120e83e56c5d2401db7b6330812a03d3af565908d891f1615017952b8ad", func := "dustcart/dustcartlaw01.SideRuns", spec := "sideRuns", unfollowed := true, recurses := true, apart := false }
def SideRunsSaid : Prop := sideRunsRow.holds Try.pinned (OpenSpec.ofChange sideRunsSpec)

/-- ITS FALSE NEIGHBOUR: 'it returns false'. Refute it at one input. -/
def sideRunsWrong : ChangeSpec := { name := "sideRuns", fn := fun _ => fun
  | [d1, d2, d3, d4] => { results := [.lit (.bool false)], args := [d1, d2, d3, d4] }
  | _ => none }
def SideRunsWrongFalsely : Prop := sideRunsRow.holds Try.pinned (OpenSpec.ofChange sideRunsWrong)

/-- 'dustcartlaw01.SideFound': WHATEVER THE INPUT: true; the input reads as it did. -/
def sideFoundSpec : ChangeSpec := { name := "sideFound", fn := fun _ => fun
  | [d1, d2, d3, d4, d5] => { results := [.lit (.bool true)], args := [d1, d2, d3, d4, d5] }
  | _ => none }
def sideFoundRow : OpenClaim := { program := "ythalhkhjacjhgaa", sum := "03937120e83e56c5d2401db7b6330812a03d3af565908d891f1615017952b8ad", func := "dustcart/dustcartlaw01.SideFound", spec := "sideFound", unfollowed := true, recurses := true, apart := false }
def SideFoundSaid : Prop := sideFoundRow.holds Try.pinned (OpenSpec.ofChange sideFoundSpec)

/-- ITS FALSE NEIGHBOUR: 'it returns false'. Refute it at one input. -/
def sideFoundWrong : ChangeSpec := { name := "sideFound", fn := fun _ => fun
  | [d1, d2, d3, d4, d5] => { results := [.lit (.bool false)], args := [d1, d2, d3, d4, d5] }
  | _ => none }
def SideFoundWrongFalsely : Prop := sideFoundRow.holds Try.pinned (OpenSpec.ofChange sideFoundWrong)

/-- 'dustcartlaw01.SideRefused': WHATEVER THE INPUT: true; the input reads as it did. -/
def sideRefusedSpec : ChangeSpec := { name := "sideRefused", fn := fun _ => fun
  | [d1, d2, d3, d4] => { results := [.lit (.bool true)], args := [d1, d2, d3, d4] }
  | _ => none }
def sideRefusedRow : OpenClaim := { program := "ythalhkhjacjhgaa", sum := "03937120e83e56c5d2401db7b6330812a03d3af565908d891f1615017952b8ad", func := "dustcart/dustcartlaw01.SideRefused", spec := "sideRefused", unfollowed := true, recurses := true, apart := false }
def SideRefusedSaid : Prop := sideRefusedRow.holds Try.pinned (OpenSpec.ofChange sideRefusedSpec)

/-- ITS FALSE NEIGHBOUR: 'it returns false'. Refute it at one input. -/
def sideRefusedWrong : ChangeSpec := { name := "sideRefused", fn := fun _ => fun
  | [d1, d2, d3, d4] => { results := [.lit (.bool false)], args := [d1, d2, d3, d4] }
  | _ => none }
def SideRefusedWrongFalsely : Prop := sideRefusedRow.holds Try.pinned (OpenSpec.ofChange sideRefusedWrong)

/-- 'dustcartlaw01.SideStuck': WHATEVER THE INPUT: true; the input reads as it did. -/
def sideStuckSpec : ChangeSpec := { name := "sideStuck", fn := fun _ => fun
  | [d1, d2, d3, d4, d5] => { results := [.lit (.bool true)], args := [d1, d2, d3, d4, d5] }
  | _ => none }
def sideStuckRow : OpenClaim := { program := "ythalhkhjacjhgaa", sum := "03937120e83e56c5d2401db7b6330812a03d3af565908d891f1615017952b8ad", func := "dustcart/dustcartlaw01.SideStuck", spec := "sideStuck", unfollowed := true, recurses := true, apart := false }
def SideStuckSaid : Prop := sideStuckRow.holds Try.pinned (OpenSpec.ofChange sideStuckSpec)

/-- ITS FALSE NEIGHBOUR: 'it returns false'. Refute it at one input. -/
def sideStuckWrong : ChangeSpec := { name := "sideStuck", fn := fun _ => fun
  | [d1, d2, d3, d4, d5] => { results := [.lit (.bool false)], args := [d1, d2, d3, d4, d5] }
  | _ => none }
def SideStuckWrongFalsely : Prop := sideStuckRow.holds Try.pinned (OpenSpec.ofChange sideStuckWrong)

/-- 'dustcartlaw01.SideClones': WHATEVER THE INPUT: true; the input reads as it did. -/
def sideClonesSpec : ChangeSpec := { name := "sideClones", fn := fun _ => fun
  | [d1, d2, d3, d4, d5] => { results := [.lit (.bool true)], args := [d1, d2, d3, d4, d5] }
  | _ => none }
def sideClonesRow : OpenClaim := { program := "ythalhkhjacjhgaa", sum := "03937120e83e56c5d2401db7b6330812a03d3af565908d891f1615017952b8ad", func := "dustcart/dustcartlaw01.SideClones", spec := "sideClones", unfollowed := true, recurses := true, apart := false }
def SideClonesSaid : Prop := sideClonesRow.holds Try.pinned (OpenSpec.ofChange sideClonesSpec)

/-- ITS FALSE NEIGHBOUR: 'it returns false'. Refute it at one input. -/
def sideClonesWrong : ChangeSpec := { name := "sideClones", fn := fun _ => fun
  | [d1, d2, d3, d4, d5] => { results := [.lit (.bool false)], args := [d1, d2, d3, d4, d5] }
  | _ => none }
def SideClonesWrongFalsely : Prop := sideClonesRow.holds Try.pinned (OpenSpec.ofChange sideClonesWrong)

/-- 'dustcartlaw01.SidePlays': WHATEVER THE INPUT: true; the input reads as it did. -/
def sidePlaysSpec : ChangeSpec := { name := "sidePlays", fn := fun _ => fun
  | [d1, d2, d3] => { results := [.lit (.bool true)], args := [d1, d2, d3] }
  | _ => none }
def sidePlaysRow : OpenClaim := { program := "ythalhkhjacjhgaa", sum := "03937120e83e56c5d2401db7b6330812a03d3af565908d891f1615017952b8ad", func := "dustcart/dustcartlaw01.SidePlays", spec := "sidePlays", unfollowed := true, recurses := true, apart := false }
def SidePlaysSaid : Prop := sidePlaysRow.holds Try.pinned (OpenSpec.ofChange sidePlaysSpec)

/-- ITS FALSE NEIGHBOUR: 'it returns false'. Refute it at one input. -/
def sidePlaysWrong : ChangeSpec := { name := "sidePlays", fn := fun _ => fun
  | [d1, d2, d3] => { results := [.lit (.bool false)], args := [d1, d2, d3] }
  | _ => none }
def SidePlaysWrongFalsely : Prop := sidePlaysRow.holds Try.pinned (OpenSpec.ofChange sidePlaysWrong)

/-- 'dustcartlaw01.SideMerged': WHATEVER THE INPUT: true; the input reads as it did. -/
def sideMergedSpec : ChangeSpec := { name := "sideMerged", fn := fun _ => fun
  | [d1, d2, d3, d4, d5] => { results := [.lit (.bool true)], args := [d1, d2, d3, d4, d5] }
  | _ => none }
def sideMergedRow : OpenClaim := { program := "ythalhkhjacjhgaa", sum := "03937120e83e56c5d2401db7b6330812a03d3af565908d891f1615017952b8ad", func := "dustcart/dustcartlaw01.SideMerged", spec := "sideMerged", unfollowed := true, recurses := true, apart := false }
def SideMergedSaid : Prop := sideMergedRow.holds Try.pinned (OpenSpec.ofChange sideMergedSpec)

/-- ITS FALSE NEIGHBOUR: 'it returns false'. Refute it at one input. -/
def sideMergedWrong : ChangeSpec := { name := "sideMerged", fn := fun _ => fun
  | [d1, d2, d3, d4, d5] => { results := [.lit (.bool false)], args := [d1, d2, d3, d4, d5] }
  | _ => none }
def SideMergedWrongFalsely : Prop := sideMergedRow.holds Try.pinned (OpenSpec.ofChange sideMergedWrong)

/-- 'dustcartlaw01.SideNone': WHATEVER THE INPUT: true; the input reads as it did. -/
def sideNoneSpec : ChangeSpec := { name := "sideNone", fn := fun _ => fun
  | [d] => { results := [.lit (.bool true)], args := [d] }
  | _ => none }
def sideNoneRow : OpenClaim := { program := "ythalhkhjacjhgaa", sum := "03937120e83e56c5d2401db7b6330812a03d3af565908d891f1615017952b8ad", func := "dustcart/dustcartlaw01.SideNone", spec := "sideNone", unfollowed := true, recurses := true, apart := false }
def SideNoneSaid : Prop := sideNoneRow.holds Try.pinned (OpenSpec.ofChange sideNoneSpec)

/-- ITS FALSE NEIGHBOUR: 'it returns false'. Refute it at one input. -/
def sideNoneWrong : ChangeSpec := { name := "sideNone", fn := fun _ => fun
  | [d] => { results := [.lit (.bool false)], args := [d] }
  | _ => none }
def SideNoneWrongFalsely : Prop := sideNoneRow.holds Try.pinned (OpenSpec.ofChange sideNoneWrong)

/-- 'dustcartlaw01.SideMerges': WHATEVER THE INPUT: true; the input reads as it did. -/
def sideMergesSpec : ChangeSpec := { name := "sideMerges", fn := fun _ => fun
  | [d1, d2, d3, d4, d5, d6, d7] => { results := [.lit (.bool true)], args := [d1, d2, d3, d4, d5, d6, d7] }
  | _ => none }
def sideMergesRow : OpenClaim := { program := "ythalhkhjacjhgaa", sum := "03937120e83e56c5d2401db7b6330812a03d3af565908d891f1615017952b8ad", func := "dustcart/dustcartlaw01.SideMerges", spec := "sideMerges", unfollowed := true, recurses := true, apart := false }
def SideMergesSaid : Prop := sideMergesRow.holds Try.pinned (OpenSpec.ofChange sideMergesSpec)

/-- ITS FALSE NEIGHBOUR: 'it returns false'. Refute it at one input. -/
def sideMergesWrong : ChangeSpec := { name := "sideMerges", fn := fun _ => fun
  | [d1, d2, d3, d4, d5, d6, d7] => { results := [.lit (.bool false)], args := [d1, d2, d3, d4, d5, d6, d7] }
  | _ => none }
def SideMergesWrongFalsely : Prop := sideMergesRow.holds Try.pinned (OpenSpec.ofChange sideMergesWrong)

/- THE SECOND FORM. 'bulk': how many values and letters a reading holds, each counted each time it is reached (what is shared counts as often as it is met; a slice's spare places count too). A statement '..UptoSaid' is the law's where the arguments, and the package variables that the reading takes, are together of bulk at most 1048576: NARROWER than '..Said'. Prove '..Said' where nothing that the law and all that it calls make is longer than what came in: it says more and counts as full. Else prove '..UptoSaid'. A law counts once. -/
mutual
def uptoBulk {H : Type} : DataW H → Nat
  | .lit (.string bytes) => bytes.length + 1
  | .lit _ => 1
  | .nil => 1
  | .ptr d => uptoBulk d + 1
  | .slice elems spare => uptoBulkAll elems + uptoBulkAll spare + 1
  | .agg parts => uptoBulkAll parts + 1
  | .iface _ d => uptoBulk d + 1
  | .map entries => uptoBulkEntries entries + 1
  | .held _ => 1
def uptoBulkAll {H : Type} : List (DataW H) → Nat
  | [] => 0
  | d :: r => uptoBulk d + uptoBulkAll r
def uptoBulkEntries {H : Type} : List (Lit × DataW H) → Nat
  | [] => 0
  | x :: r => uptoBulkEntry x + uptoBulkEntries r
def uptoBulkEntry {H : Type} : Lit × DataW H → Nat
  | (.string bytes, d) => bytes.length + uptoBulk d + 1
  | (_, d) => uptoBulk d + 1
 end
def uptoSmall : (H : Type) → List (DataW H) → Bool := fun _ ds => decide (uptoBulkAll ds ≤ 1048576)
def OpenSpec.upto (s : _root_.Go.ChangeSpec) : _root_.Go.OpenSpec := { _root_.Go.OpenSpec.ofChange s with cond := some uptoSmall }

/-- 'dustcartlaw01.SideEntries', WHERE WHAT IT READS IS OF BULK AT MOST 1048576: true; the input reads as it did. -/
def sideEntriesUptoRow : OpenClaim := { program := "ythalhkhjacjhgaa", sum := "03937120e83e56c5d2401db7b6330812a03d3af565908d891f1615017952b8ad", func := "dustcart/dustcartlaw01.SideEntries", spec := "sideEntries", unfollowed := true, recurses := true, apart := false, narrowed := true }
def SideEntriesUptoSaid : Prop := sideEntriesUptoRow.holds Try.pinned (OpenSpec.upto sideEntriesSpec)

/-- 'dustcartlaw01.SideRuns', WHERE WHAT IT READS IS OF BULK AT MOST 1048576: true; the input reads as it did. -/
def sideRunsUptoRow : OpenClaim := { program := "ythalhkhjacjhgaa", sum := "03937120e83e56c5d2401db7b6330812a03d3af565908d891f1615017952b8ad", func := "dustcart/dustcartlaw01.SideRuns", spec := "sideRuns", unfollowed := true, recurses := true, apart := false, narrowed := true }
def SideRunsUptoSaid : Prop := sideRunsUptoRow.holds Try.pinned (OpenSpec.upto sideRunsSpec)

/-- 'dustcartlaw01.SideFound', WHERE WHAT IT READS IS OF BULK AT MOST 1048576: true; the input reads as it did. -/
def sideFoundUptoRow : OpenClaim := { program := "ythalhkhjacjhgaa", sum := "03937120e83e56c5d2401db7b6330812a03d3af565908d891f1615017952b8ad", func := "dustcart/dustcartlaw01.SideFound", spec := "sideFound", unfollowed := true, recurses := true, apart := false, narrowed := true }
def SideFoundUptoSaid : Prop := sideFoundUptoRow.holds Try.pinned (OpenSpec.upto sideFoundSpec)

/-- 'dustcartlaw01.SideRefused', WHERE WHAT IT READS IS OF BULK AT MOST 1048576: true; the input reads as it did. -/
def sideRefusedUptoRow : OpenClaim := { program := "ythalhkhjacjhgaa", sum := "03937120e83e56c5d2401db7b6330812a03d3af565908d891f1615017952b8ad", func := "dustcart/dustcartlaw01.SideRefused", spec := "sideRefused", unfollowed := true, recurses := true, apart := false, narrowed := true }
def SideRefusedUptoSaid : Prop := sideRefusedUptoRow.holds Try.pinned (OpenSpec.upto sideRefusedSpec)

/-- 'dustcartlaw01.SideStuck', WHERE WHAT IT READS IS OF BULK AT MOST 1048576: true; the input reads as it did. -/
def sideStuckUptoRow : OpenClaim := { program := "ythalhkhjacjhgaa", sum := "03937120e83e56c5d2401db7b6330812a03d3af565908d891f1615017952b8ad", func := "dustcart/dustcartlaw01.SideStuck", spec := "sideStuck", unfollowed := true, recurses := true, apart := false, narrowed := true }
def SideStuckUptoSaid : Prop := sideStuckUptoRow.holds Try.pinned (OpenSpec.upto sideStuckSpec)

/-- 'dustcartlaw01.SideClones', WHERE WHAT IT READS IS OF BULK AT MOST 1048576: true; the input reads as it did. -/
def sideClonesUptoRow : OpenClaim := { program := "ythalhkhjacjhgaa", sum := "03937120e83e56c5d2401db7b6330812a03d3af565908d891f1615017952b8ad", func := "dustcart/dustcartlaw01.SideClones", spec := "sideClones", unfollowed := true, recurses := true, apart := false, narrowed := true }
def SideClonesUptoSaid : Prop := sideClonesUptoRow.holds Try.pinned (OpenSpec.upto sideClonesSpec)

/-- 'dustcartlaw01.SidePlays', WHERE WHAT IT READS IS OF BULK AT MOST 1048576: true; the input reads as it did. -/
def sidePlaysUptoRow : OpenClaim := { program := "ythalhkhjacjhgaa", sum := "03937120e83e56c5d2401db7b6330812a03d3af565908d891f1615017952b8ad", func := "dustcart/dustcartlaw01.SidePlays", spec := "sidePlays", unfollowed := true, recurses := true, apart := false, narrowed := true }
def SidePlaysUptoSaid : Prop := sidePlaysUptoRow.holds Try.pinned (OpenSpec.upto sidePlaysSpec)

/-- 'dustcartlaw01.SideMerged', WHERE WHAT IT READS IS OF BULK AT MOST 1048576: true; the input reads as it did. -/
def sideMergedUptoRow : OpenClaim := { program := "ythalhkhjacjhgaa", sum := "03937120e83e56c5d2401db7b6330812a03d3af565908d891f1615017952b8ad", func := "dustcart/dustcartlaw01.SideMerged", spec := "sideMerged", unfollowed := true, recurses := true, apart := false, narrowed := true }
def SideMergedUptoSaid : Prop := sideMergedUptoRow.holds Try.pinned (OpenSpec.upto sideMergedSpec)

/-- 'dustcartlaw01.SideNone', WHERE WHAT IT READS IS OF BULK AT MOST 1048576: true; the input reads as it did. -/
def sideNoneUptoRow : OpenClaim := { program := "ythalhkhjacjhgaa", sum := "03937120e83e56c5d2401db7b6330812a03d3af565908d891f1615017952b8ad", func := "dustcart/dustcartlaw01.SideNone", spec := "sideNone", unfollowed := true, recurses := true, apart := false, narrowed := true }
def SideNoneUptoSaid : Prop := sideNoneUptoRow.holds Try.pinned (OpenSpec.upto sideNoneSpec)

/-- 'dustcartlaw01.SideMerges', WHERE WHAT IT READS IS OF BULK AT MOST 1048576: true; the input reads as it did. -/
def sideMergesUptoRow : OpenClaim := { program := "ythalhkhjacjhgaa", sum := "03937120e83e56c5d2401db7b6330812a03d3af565908d891f1615017952b8ad", func := "dustcart/dustcartlaw01.SideMerges", spec := "sideMerges", unfollowed := true, recurses := true, apart := false, narrowed := true }
def SideMergesUptoSaid : Prop := sideMergesUptoRow.holds Try.pinned (OpenSpec.upto sideMergesSpec)

end Rows
end Go.Proofs.Ythalhkhjacjhgaa
