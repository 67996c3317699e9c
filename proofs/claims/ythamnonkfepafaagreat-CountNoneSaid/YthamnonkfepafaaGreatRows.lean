/-
  No cell of these rows narrows 'for every input' (looked for: loops, veiled, ifaces, maps, wideKeys, modest, calm, conditions, laid).
  DERIVED. THE GIVEN ROWS OF THIS SEAT. 12 by the template 'for every input the law returns true; each argument reads behind the call as it read before'; 0 by the template 'total and deterministic' (their statements: YthamnonkfepafaaGreatTotals.lean).
  GIVEN WITH THE SEED: the statements are not yours to turn. If you find one false, say at which input.
  Laid BY PROGRAM, IN A SANDBOX (cutbox-rows.mjs): the forced cells as the released guide's own fill.sh prints them over the translation c03bde2116791c5e… (all of the seat's roots in one cut). By AI agents, Wed Nov 11 2026. No macro, syntax, notation, axiom, sorry.
-/
import Derived.Test.YthamnonkfepafaaGreatChecked
import GoSem.Claim
import GoSem.ClaimJoined
import GoSem.ClaimMapViews
import Derived.JoinedTies
import Derived.KernelRfl
namespace Go.Proofs.YthamnonkfepafaaGreat
/- THE CELL 'sum', in the pinned program and in every row, IS THE sha256 OF THE DUMP (.gsa) THAT YthamnonkfepafaaGreatProg.lean LOADS. Nothing in Lean hashes anything: it is a label: what it is worth is what the hold of that sum in a sandbox is worth. -/
noncomputable def Tryz.pinned : Pinned := { name := "ythamnonkfepafaagreat", sum := "c03bde2116791c5ec27c66db98c4e5c76fc177eaf1b5ebd11c3ce3f7580aa917", checked := Tryz.checked }
namespace Rows
def none {H : Type} : Left H := { results := [], args := [] }

/-- 'dustcartlaw20.FinalNoneLeft': WHATEVER THE INPUT: true; the input reads as it did. -/
def finalNoneLeftSpec : ChangeSpec := { name := "finalNoneLeft", fn := fun _ => fun
  | [d1, d2] => { results := [.lit (.bool true)], args := [d1, d2] }
  | _ => none }
def finalNoneLeftRow : OpenClaim := { program := "ythamnonkfepafaagreat", sum := "c03bde2116791c5ec27c66db98c4e5c76fc177eaf1b5ebd11c3ce3f7580aa917", func := "dustcart/dustcartlaw20.FinalNoneLeft", spec := "finalNoneLeft", unfollowed := true, recurses := true, apart := false }
def FinalNoneLeftSaid : Prop := finalNoneLeftRow.holds Tryz.pinned (OpenSpec.ofChange finalNoneLeftSpec)

/-- ITS FALSE NEIGHBOUR: 'it returns false'. Refute it at one input. -/
def finalNoneLeftWrong : ChangeSpec := { name := "finalNoneLeft", fn := fun _ => fun
  | [d1, d2] => { results := [.lit (.bool false)], args := [d1, d2] }
  | _ => none }
def FinalNoneLeftWrongFalsely : Prop := finalNoneLeftRow.holds Tryz.pinned (OpenSpec.ofChange finalNoneLeftWrong)

/-- 'dustcartlaw12.BarrierPlays': WHATEVER THE INPUT: true; the input reads as it did. -/
def barrierPlaysSpec : ChangeSpec := { name := "barrierPlays", fn := fun _ => fun
  | [d1, d2, d3, d4] => { results := [.lit (.bool true)], args := [d1, d2, d3, d4] }
  | _ => none }
def barrierPlaysRow : OpenClaim := { program := "ythamnonkfepafaagreat", sum := "c03bde2116791c5ec27c66db98c4e5c76fc177eaf1b5ebd11c3ce3f7580aa917", func := "dustcart/dustcartlaw12.BarrierPlays", spec := "barrierPlays", inPlace := ["maps.clone"], unfollowed := true, recurses := true, apart := false }
def BarrierPlaysSaid : Prop := barrierPlaysRow.holds Tryz.pinned (OpenSpec.ofChange barrierPlaysSpec)

/-- ITS FALSE NEIGHBOUR: 'it returns false'. Refute it at one input. -/
def barrierPlaysWrong : ChangeSpec := { name := "barrierPlays", fn := fun _ => fun
  | [d1, d2, d3, d4] => { results := [.lit (.bool false)], args := [d1, d2, d3, d4] }
  | _ => none }
def BarrierPlaysWrongFalsely : Prop := barrierPlaysRow.holds Tryz.pinned (OpenSpec.ofChange barrierPlaysWrong)

/-- 'dustcartlaw20.FinalPlays': WHATEVER THE INPUT: true; the input reads as it did. -/
def finalPlaysSpec : ChangeSpec := { name := "finalPlays", fn := fun _ => fun
  | [d1, d2] => { results := [.lit (.bool true)], args := [d1, d2] }
  | _ => none }
def finalPlaysRow : OpenClaim := { program := "ythamnonkfepafaagreat", sum := "c03bde2116791c5ec27c66db98c4e5c76fc177eaf1b5ebd11c3ce3f7580aa917", func := "dustcart/dustcartlaw20.FinalPlays", spec := "finalPlays", inPlace := ["maps.clone"], unfollowed := true, recurses := true, apart := false }
def FinalPlaysSaid : Prop := finalPlaysRow.holds Tryz.pinned (OpenSpec.ofChange finalPlaysSpec)

/-- ITS FALSE NEIGHBOUR: 'it returns false'. Refute it at one input. -/
def finalPlaysWrong : ChangeSpec := { name := "finalPlays", fn := fun _ => fun
  | [d1, d2] => { results := [.lit (.bool false)], args := [d1, d2] }
  | _ => none }
def FinalPlaysWrongFalsely : Prop := finalPlaysRow.holds Tryz.pinned (OpenSpec.ofChange finalPlaysWrong)

/-- 'dustcartlaw14.CountRight': WHATEVER THE INPUT: true; the input reads as it did. -/
def countRightSpec : ChangeSpec := { name := "countRight", fn := fun _ => fun
  | [d1, d2, d3, d4] => { results := [.lit (.bool true)], args := [d1, d2, d3, d4] }
  | _ => none }
def countRightRow : OpenClaim := { program := "ythamnonkfepafaagreat", sum := "c03bde2116791c5ec27c66db98c4e5c76fc177eaf1b5ebd11c3ce3f7580aa917", func := "dustcart/dustcartlaw14.CountRight", spec := "countRight", unfollowed := true, recurses := true, apart := false }
def CountRightSaid : Prop := countRightRow.holds Tryz.pinned (OpenSpec.ofChange countRightSpec)

/-- ITS FALSE NEIGHBOUR: 'it returns false'. Refute it at one input. -/
def countRightWrong : ChangeSpec := { name := "countRight", fn := fun _ => fun
  | [d1, d2, d3, d4] => { results := [.lit (.bool false)], args := [d1, d2, d3, d4] }
  | _ => none }
def CountRightWrongFalsely : Prop := countRightRow.holds Tryz.pinned (OpenSpec.ofChange countRightWrong)

/-- 'dustcartlaw14.CountWeak': WHATEVER THE INPUT: true; the input reads as it did. -/
def countWeakSpec : ChangeSpec := { name := "countWeak", fn := fun _ => fun
  | [d1, d2, d3, d4, d5] => { results := [.lit (.bool true)], args := [d1, d2, d3, d4, d5] }
  | _ => none }
def countWeakRow : OpenClaim := { program := "ythamnonkfepafaagreat", sum := "c03bde2116791c5ec27c66db98c4e5c76fc177eaf1b5ebd11c3ce3f7580aa917", func := "dustcart/dustcartlaw14.CountWeak", spec := "countWeak", unfollowed := true, recurses := true, apart := false }
def CountWeakSaid : Prop := countWeakRow.holds Tryz.pinned (OpenSpec.ofChange countWeakSpec)

/-- ITS FALSE NEIGHBOUR: 'it returns false'. Refute it at one input. -/
def countWeakWrong : ChangeSpec := { name := "countWeak", fn := fun _ => fun
  | [d1, d2, d3, d4, d5] => { results := [.lit (.bool false)], args := [d1, d2, d3, d4, d5] }
  | _ => none }
def CountWeakWrongFalsely : Prop := countWeakRow.holds Tryz.pinned (OpenSpec.ofChange countWeakWrong)

/-- 'dustcartlaw14.CountKept': WHATEVER THE INPUT: true; the input reads as it did. -/
def countKeptSpec : ChangeSpec := { name := "countKept", fn := fun _ => fun
  | [d1, d2, d3, d4, d5] => { results := [.lit (.bool true)], args := [d1, d2, d3, d4, d5] }
  | _ => none }
def countKeptRow : OpenClaim := { program := "ythamnonkfepafaagreat", sum := "c03bde2116791c5ec27c66db98c4e5c76fc177eaf1b5ebd11c3ce3f7580aa917", func := "dustcart/dustcartlaw14.CountKept", spec := "countKept", unfollowed := true, recurses := true, apart := false }
def CountKeptSaid : Prop := countKeptRow.holds Tryz.pinned (OpenSpec.ofChange countKeptSpec)

/-- ITS FALSE NEIGHBOUR: 'it returns false'. Refute it at one input. -/
def countKeptWrong : ChangeSpec := { name := "countKept", fn := fun _ => fun
  | [d1, d2, d3, d4, d5] => { results := [.lit (.bool false)], args := [d1, d2, d3, d4, d5] }
  | _ => none }
def CountKeptWrongFalsely : Prop := countKeptRow.holds Tryz.pinned (OpenSpec.ofChange countKeptWrong)

/-- 'dustcartlaw14.CountTrees': WHATEVER THE INPUT: true; the input reads as it did. -/
def countTreesSpec : ChangeSpec := { name := "countTrees", fn := fun _ => fun
  | [d1, d2, d3, d4] => { results := [.lit (.bool true)], args := [d1, d2, d3, d4] }
  | _ => none }
def countTreesRow : OpenClaim := { program := "ythamnonkfepafaagreat", sum := "c03bde2116791c5ec27c66db98c4e5c76fc177eaf1b5ebd11c3ce3f7580aa917", func := "dustcart/dustcartlaw14.CountTrees", spec := "countTrees", unfollowed := true, recurses := true, apart := false }
def CountTreesSaid : Prop := countTreesRow.holds Tryz.pinned (OpenSpec.ofChange countTreesSpec)

/-- ITS FALSE NEIGHBOUR: 'it returns false'. Refute it at one input. -/
def countTreesWrong : ChangeSpec := { name := "countTrees", fn := fun _ => fun
  | [d1, d2, d3, d4] => { results := [.lit (.bool false)], args := [d1, d2, d3, d4] }
  | _ => none }
def CountTreesWrongFalsely : Prop := countTreesRow.holds Tryz.pinned (OpenSpec.ofChange countTreesWrong)

/-- 'dustcartlaw14.CountRecounted': WHATEVER THE INPUT: true; the input reads as it did. -/
def countRecountedSpec : ChangeSpec := { name := "countRecounted", fn := fun _ => fun
  | [d1, d2, d3, d4, d5] => { results := [.lit (.bool true)], args := [d1, d2, d3, d4, d5] }
  | _ => none }
def countRecountedRow : OpenClaim := { program := "ythamnonkfepafaagreat", sum := "c03bde2116791c5ec27c66db98c4e5c76fc177eaf1b5ebd11c3ce3f7580aa917", func := "dustcart/dustcartlaw14.CountRecounted", spec := "countRecounted", unfollowed := true, recurses := true, apart := false }
def CountRecountedSaid : Prop := countRecountedRow.holds Tryz.pinned (OpenSpec.ofChange countRecountedSpec)

/-- ITS FALSE NEIGHBOUR: 'it returns false'. Refute it at one input. -/
def countRecountedWrong : ChangeSpec := { name := "countRecounted", fn := fun _ => fun
  | [d1, d2, d3, d4, d5] => { results := [.lit (.bool false)], args := [d1, d2, d3, d4, d5] }
  | _ => none }
def CountRecountedWrongFalsely : Prop := countRecountedRow.holds Tryz.pinned (OpenSpec.ofChange countRecountedWrong)

/-- 'dustcartlaw14.CountCoalesced': WHATEVER THE INPUT: true; the input reads as it did. -/
def countCoalescedSpec : ChangeSpec := { name := "countCoalesced", fn := fun _ => fun
  | [d1, d2, d3] => { results := [.lit (.bool true)], args := [d1, d2, d3] }
  | _ => none }
def countCoalescedRow : OpenClaim := { program := "ythamnonkfepafaagreat", sum := "c03bde2116791c5ec27c66db98c4e5c76fc177eaf1b5ebd11c3ce3f7580aa917", func := "dustcart/dustcartlaw14.CountCoalesced", spec := "countCoalesced", unfollowed := true, recurses := true, apart := false }
def CountCoalescedSaid : Prop := countCoalescedRow.holds Tryz.pinned (OpenSpec.ofChange countCoalescedSpec)

/-- ITS FALSE NEIGHBOUR: 'it returns false'. Refute it at one input. -/
def countCoalescedWrong : ChangeSpec := { name := "countCoalesced", fn := fun _ => fun
  | [d1, d2, d3] => { results := [.lit (.bool false)], args := [d1, d2, d3] }
  | _ => none }
def CountCoalescedWrongFalsely : Prop := countCoalescedRow.holds Tryz.pinned (OpenSpec.ofChange countCoalescedWrong)

/-- 'dustcartlaw14.CountStuck': WHATEVER THE INPUT: true; the input reads as it did. -/
def countStuckSpec : ChangeSpec := { name := "countStuck", fn := fun _ => fun
  | [d] => { results := [.lit (.bool true)], args := [d] }
  | _ => none }
def countStuckRow : OpenClaim := { program := "ythamnonkfepafaagreat", sum := "c03bde2116791c5ec27c66db98c4e5c76fc177eaf1b5ebd11c3ce3f7580aa917", func := "dustcart/dustcartlaw14.CountStuck", spec := "countStuck", unfollowed := true, recurses := true, apart := false }
def CountStuckSaid : Prop := countStuckRow.holds Tryz.pinned (OpenSpec.ofChange countStuckSpec)

/-- ITS FALSE NEIGHBOUR: 'it returns false'. Refute it at one input. -/
def countStuckWrong : ChangeSpec := { name := "countStuck", fn := fun _ => fun
  | [d] => { results := [.lit (.bool false)], args := [d] }
  | _ => none }
def CountStuckWrongFalsely : Prop := countStuckRow.holds Tryz.pinned (OpenSpec.ofChange countStuckWrong)

/-- 'dustcartlaw14.CountNone': WHATEVER THE INPUT: true; the input reads as it did. -/
def countNoneSpec : ChangeSpec := { name := "countNone", fn := fun _ => fun
  | [d1, d2, d3, d4] => { results := [.lit (.bool true)], args := [d1, d2, d3, d4] }
  | _ => none }
def countNoneRow : OpenClaim := { program := "ythamnonkfepafaagreat", sum := "c03bde2116791c5ec27c66db98c4e5c76fc177eaf1b5ebd11c3ce3f7580aa917", func := "dustcart/dustcartlaw14.CountNone", spec := "countNone", inPlace := ["maps.clone"], unfollowed := true, recurses := true, apart := false }
def CountNoneSaid : Prop := countNoneRow.holds Tryz.pinned (OpenSpec.ofChange countNoneSpec)

/-- ITS FALSE NEIGHBOUR: 'it returns false'. Refute it at one input. -/
def countNoneWrong : ChangeSpec := { name := "countNone", fn := fun _ => fun
  | [d1, d2, d3, d4] => { results := [.lit (.bool false)], args := [d1, d2, d3, d4] }
  | _ => none }
def CountNoneWrongFalsely : Prop := countNoneRow.holds Tryz.pinned (OpenSpec.ofChange countNoneWrong)

/-- 'dustcartlaw14.CountPlays': WHATEVER THE INPUT: true; the input reads as it did. -/
def countPlaysSpec : ChangeSpec := { name := "countPlays", fn := fun _ => fun
  | [d1, d2, d3, d4] => { results := [.lit (.bool true)], args := [d1, d2, d3, d4] }
  | _ => none }
def countPlaysRow : OpenClaim := { program := "ythamnonkfepafaagreat", sum := "c03bde2116791c5ec27c66db98c4e5c76fc177eaf1b5ebd11c3ce3f7580aa917", func := "dustcart/dustcartlaw14.CountPlays", spec := "countPlays", inPlace := ["maps.clone"], unfollowed := true, recurses := true, apart := false }
def CountPlaysSaid : Prop := countPlaysRow.holds Tryz.pinned (OpenSpec.ofChange countPlaysSpec)

/-- ITS FALSE NEIGHBOUR: 'it returns false'. Refute it at one input. -/
def countPlaysWrong : ChangeSpec := { name := "countPlays", fn := fun _ => fun
  | [d1, d2, d3, d4] => { results := [.lit (.bool false)], args := [d1, d2, d3, d4] }
  | _ => none }
def CountPlaysWrongFalsely : Prop := countPlaysRow.holds Tryz.pinned (OpenSpec.ofChange countPlaysWrong)

/- THE SECOND FORM. 'bulk': how many values and letters a reading holds, each counted each time it is reached (what is shared counts as often as it is met; a slice's spare places count too). A statement '..UptoSaid' is the law's where the arguments, and the package variables that the reading takes, are together of bulk at most 1048576: NARROWER than '..Said'. Prove '..Said' where nothing that the law and all that it calls make is longer than what came in: it says more and counts as full. Else prove '..UptoSaid'. A law counts once. -/
mutual
def uptoBulk {H : Type} : DataW H → Nat
  | .lit (.string bytes) => bytes.length + 1
  | .lit _ => 1
  | .nil => 1
  | .ptr d => uptoBulk d + 1
  | .slice elems spare => uptoBulkAll elems + uptoBulkAll spare + 1
  | .agg parts => uptoBulkAll parts + 1
  | .iface _ d => uptoBulk d + 1
  | .map entries => uptoBulkEntries entries + 1
  | .held _ => 1
def uptoBulkAll {H : Type} : List (DataW H) → Nat
  | [] => 0
  | d :: r => uptoBulk d + uptoBulkAll r
def uptoBulkEntries {H : Type} : List (Lit × DataW H) → Nat
  | [] => 0
  | x :: r => uptoBulkEntry x + uptoBulkEntries r
def uptoBulkEntry {H : Type} : Lit × DataW H → Nat
  | (.string bytes, d) => bytes.length + uptoBulk d + 1
  | (_, d) => uptoBulk d + 1
 end
def uptoSmall : (H : Type) → List (DataW H) → Bool := fun _ ds => decide (uptoBulkAll ds ≤ 1048576)
def OpenSpec.upto (s : _root_.Go.ChangeSpec) : _root_.Go.OpenSpec := { _root_.Go.OpenSpec.ofChange s with cond := some uptoSmall }

/-- 'dustcartlaw20.FinalNoneLeft', WHERE WHAT IT READS IS OF BULK AT MOST 1048576: true; the input reads as it did. -/
def finalNoneLeftUptoRow : OpenClaim := { program := "ythamnonkfepafaagreat", sum := "c03bde2116791c5ec27c66db98c4e5c76fc177eaf1b5ebd11c3ce3f7580aa917", func := "dustcart/dustcartlaw20.FinalNoneLeft", spec := "finalNoneLeft", unfollowed := true, recurses := true, apart := false, narrowed := true }
def FinalNoneLeftUptoSaid : Prop := finalNoneLeftUptoRow.holds Tryz.pinned (OpenSpec.upto finalNoneLeftSpec)

/-- 'dustcartlaw12.BarrierPlays', WHERE WHAT IT READS IS OF BULK AT MOST 1048576: true; the input reads as it did. -/
def barrierPlaysUptoRow : OpenClaim := { program := "ythamnonkfepafaagreat", sum := "c03bde2116791c5ec27c66db98c4e5c76fc177eaf1b5ebd11c3ce3f7580aa917", func := "dustcart/dustcartlaw12.BarrierPlays", spec := "barrierPlays", inPlace := ["maps.clone"], unfollowed := true, recurses := true, apart := false, narrowed := true }
def BarrierPlaysUptoSaid : Prop := barrierPlaysUptoRow.holds Tryz.pinned (OpenSpec.upto barrierPlaysSpec)

/-- 'dustcartlaw20.FinalPlays', WHERE WHAT IT READS IS OF BULK AT MOST 1048576: true; the input reads as it did. -/
def finalPlaysUptoRow : OpenClaim := { program := "ythamnonkfepafaagreat", sum := "c03bde2116791c5ec27c66db98c4e5c76fc177eaf1b5ebd11c3ce3f7580aa917", func := "dustcart/dustcartlaw20.FinalPlays", spec := "finalPlays", inPlace := ["maps.clone"], unfollowed := true, recurses := true, apart := false, narrowed := true }
def FinalPlaysUptoSaid : Prop := finalPlaysUptoRow.holds Tryz.pinned (OpenSpec.upto finalPlaysSpec)

/-- 'dustcartlaw14.CountRight', WHERE WHAT IT READS IS OF BULK AT MOST 1048576: true; the input reads as it did. -/
def countRightUptoRow : OpenClaim := { program := "ythamnonkfepafaagreat", sum := "c03bde2116791c5ec27c66db98c4e5c76fc177eaf1b5ebd11c3ce3f7580aa917", func := "dustcart/dustcartlaw14.CountRight", spec := "countRight", unfollowed := true, recurses := true, apart := false, narrowed := true }
def CountRightUptoSaid : Prop := countRightUptoRow.holds Tryz.pinned (OpenSpec.upto countRightSpec)

/-- 'dustcartlaw14.CountWeak', WHERE WHAT IT READS IS OF BULK AT MOST 1048576: true; the input reads as it did. -/
def countWeakUptoRow : OpenClaim := { program := "ythamnonkfepafaagreat", sum := "c03bde2116791c5ec27c66db98c4e5c76fc177eaf1b5ebd11c3ce3f7580aa917", func := "dustcart/dustcartlaw14.CountWeak", spec := "countWeak", unfollowed := true, recurses := true, apart := false, narrowed := true }
def CountWeakUptoSaid : Prop := countWeakUptoRow.holds Tryz.pinned (OpenSpec.upto countWeakSpec)

/-- 'dustcartlaw14.CountKept', WHERE WHAT IT READS IS OF BULK AT MOST 1048576: true; the input reads as it did. -/
def countKeptUptoRow : OpenClaim := { program := "ythamnonkfepafaagreat", sum := "c03bde2116791c5ec27c66db98c4e5c76fc177eaf1b5ebd11c3ce3f7580aa917", func := "dustcart/dustcartlaw14.CountKept", spec := "countKept", unfollowed := true, recurses := true, apart := false, narrowed := true }
def CountKeptUptoSaid : Prop := countKeptUptoRow.holds Tryz.pinned (OpenSpec.upto countKeptSpec)

/-- 'dustcartlaw14.CountTrees', WHERE WHAT IT READS IS OF BULK AT MOST 1048576: true; the input reads as it did. -/
def countTreesUptoRow : OpenClaim := { program := "ythamnonkfepafaagreat", sum := "c03bde2116791c5ec27c66db98c4e5c76fc177eaf1b5ebd11c3ce3f7580aa917", func := "dustcart/dustcartlaw14.CountTrees", spec := "countTrees", unfollowed := true, recurses := true, apart := false, narrowed := true }
def CountTreesUptoSaid : Prop := countTreesUptoRow.holds Tryz.pinned (OpenSpec.upto countTreesSpec)

/-- 'dustcartlaw14.CountRecounted', WHERE WHAT IT READS IS OF BULK AT MOST 1048576: true; the input reads as it did. -/
def countRecountedUptoRow : OpenClaim := { program := "ythamnonkfepafaagreat", sum := "c03bde2116791c5ec27c66db98c4e5c76fc177eaf1b5ebd11c3ce3f7580aa917", func := "dustcart/dustcartlaw14.CountRecounted", spec := "countRecounted", unfollowed := true, recurses := true, apart := false, narrowed := true }
def CountRecountedUptoSaid : Prop := countRecountedUptoRow.holds Tryz.pinned (OpenSpec.upto countRecountedSpec)

/-- 'dustcartlaw14.CountCoalesced', WHERE WHAT IT READS IS OF BULK AT MOST 1048576: true; the input reads as it did. -/
def countCoalescedUptoRow : OpenClaim := { program := "ythamnonkfepafaagreat", sum := "c03bde2116791c5ec27c66db98c4e5c76fc177eaf1b5ebd11c3ce3f7580aa917", func := "dustcart/dustcartlaw14.CountCoalesced", spec := "countCoalesced", unfollowed := true, recurses := true, apart := false, narrowed := true }
def CountCoalescedUptoSaid : Prop := countCoalescedUptoRow.holds Tryz.pinned (OpenSpec.upto countCoalescedSpec)

/-- 'dustcartlaw14.CountStuck', WHERE WHAT IT READS IS OF BULK AT MOST 1048576: true; the input reads as it did. -/
def countStuckUptoRow : OpenClaim := { program := "ythamnonkfepafaagreat", sum := "c03bde2116791c5ec27c66db98c4e5c76fc177eaf1b5ebd11c3ce3f7580aa917", func := "dustcart/dustcartlaw14.CountStuck", spec := "countStuck", unfollowed := true, recurses := true, apart := false, narrowed := true }
def CountStuckUptoSaid : Prop := countStuckUptoRow.holds Tryz.pinned (OpenSpec.upto countStuckSpec)

/-- 'dustcartlaw14.CountNone', WHERE WHAT IT READS IS OF BULK AT MOST 1048576: true; the input reads as it did. -/
def countNoneUptoRow : OpenClaim := { program := "ythamnonkfepafaagreat", sum := "c03bde2116791c5ec27c66db98c4e5c76fc177eaf1b5ebd11c3ce3f7580aa917", func := "dustcart/dustcartlaw14.CountNone", spec := "countNone", inPlace := ["maps.clone"], unfollowed := true, recurses := true, apart := false, narrowed := true }
def CountNoneUptoSaid : Prop := countNoneUptoRow.holds Tryz.pinned (OpenSpec.upto countNoneSpec)

/-- 'dustcartlaw14.CountPlays', WHERE WHAT IT READS IS OF BULK AT MOST 1048576: true; the input reads as it did. -/
def countPlaysUptoRow : OpenClaim := { program := "ythamnonkfepafaagreat", sum := "c03bde2116791c5ec27c66db98c4e5c76fc177eaf1b5ebd11c3ce3f7580aa917", func := "dustcart/dustcartlaw14.CountPlays", spec := "countPlays", inPlace := ["maps.clone"], unfollowed := true, recurses := true, apart := false, narrowed := true }
def CountPlaysUptoSaid : Prop := countPlaysUptoRow.holds Tryz.pinned (OpenSpec.upto countPlaysSpec)

end Rows
end Go.Proofs.YthamnonkfepafaaGreat
