/-
  No cell of these rows narrows 'for every input' (looked for: loops, veiled, ifaces, maps, wideKeys, modest, calm, conditions, laid).
  DERIVED. THE GIVEN ROWS OF THIS SEAT. 8 by the template 'for every input the law returns true; each argument reads behind the call as it read before'; 0 by the template 'total and deterministic' (their statements: YtgcofabdialaaaaGreatTotals.lean).
  GIVEN WITH THE SEED: the statements are not yours to turn. If you find one false, say at which input.
  Laid BY PROGRAM, IN A SANDBOX (cutbox-rows.mjs): the forced cells as the released guide's own fill.sh prints them over the translation 135bec03520d8e11… (all of the seat's roots in one cut). By AI agents, Wed Nov 11 2026. No macro, syntax, notation, axiom, sorry.
-/
import Derived.Test.YtgcofabdialaaaaGreatChecked
import GoSem.Claim
import GoSem.ClaimJoined
import GoSem.ClaimMapViews
import Derived.JoinedTies
import Derived.KernelRfl
namespace Go.Proofs.YtgcofabdialaaaaGreat
/- THE CELL 'sum', in the pinned program and in every row, IS THE sha256 OF THE DUMP (.gsa) THAT YtgcofabdialaaaaGreatProg.lean LOADS. Nothing in Lean hashes anything: it is a label: what it is worth is what the hold of that sum in a sandbox is worth. -/
noncomputable def Tryz.pinned : Pinned := { name := "ytgcofabdialaaaagreat", sum := "135bec03520d8e112b7aaa7b27e021d7295ffd7f69af43f9ef9015ba187010e0", checked := Tryz.checked }
namespace Rows
def none {H : Type} : Left H := { results := [], args := [] }

/-- 'dustcartlaw12.BarrierCards': WHATEVER THE INPUT: true; the input reads as it did. -/
def barrierCardsSpec : ChangeSpec := { name := "barrierCards", fn := fun _ => fun
  | [d1, d2, d3] => { results := [.lit (.bool true)], args := [d1, d2, d3] }
  | _ => none }
def barrierCardsRow : OpenClaim := { program := "ytgcofabdialaaaagreat", sum := "135bec03520d8e112b7aaa7b27e021d7295ffd7f69af43f9ef9015ba187010e0", func := "dustcart/dustcartlaw12.BarrierCards", spec := "barrierCards", unfollowed := true, recurses := true, apart := false }
def BarrierCardsSaid : Prop := barrierCardsRow.holds Tryz.pinned (OpenSpec.ofChange barrierCardsSpec)

/-- ITS FALSE NEIGHBOUR: 'it returns false'. Refute it at one input. -/
def barrierCardsWrong : ChangeSpec := { name := "barrierCards", fn := fun _ => fun
  | [d1, d2, d3] => { results := [.lit (.bool false)], args := [d1, d2, d3] }
  | _ => none }
def BarrierCardsWrongFalsely : Prop := barrierCardsRow.holds Tryz.pinned (OpenSpec.ofChange barrierCardsWrong)

/-- 'dustcartlaw12.BarrierOld': WHATEVER THE INPUT: true; the input reads as it did. -/
def barrierOldSpec : ChangeSpec := { name := "barrierOld", fn := fun _ => fun
  | [d1, d2, d3, d4] => { results := [.lit (.bool true)], args := [d1, d2, d3, d4] }
  | _ => none }
def barrierOldRow : OpenClaim := { program := "ytgcofabdialaaaagreat", sum := "135bec03520d8e112b7aaa7b27e021d7295ffd7f69af43f9ef9015ba187010e0", func := "dustcart/dustcartlaw12.BarrierOld", spec := "barrierOld", unfollowed := true, recurses := true, apart := false }
def BarrierOldSaid : Prop := barrierOldRow.holds Tryz.pinned (OpenSpec.ofChange barrierOldSpec)

/-- ITS FALSE NEIGHBOUR: 'it returns false'. Refute it at one input. -/
def barrierOldWrong : ChangeSpec := { name := "barrierOld", fn := fun _ => fun
  | [d1, d2, d3, d4] => { results := [.lit (.bool false)], args := [d1, d2, d3, d4] }
  | _ => none }
def BarrierOldWrongFalsely : Prop := barrierOldRow.holds Tryz.pinned (OpenSpec.ofChange barrierOldWrong)

/-- 'dustcartlaw12.BarrierInsert': WHATEVER THE INPUT: true; the input reads as it did. -/
def barrierInsertSpec : ChangeSpec := { name := "barrierInsert", fn := fun _ => fun
  | [d1, d2, d3] => { results := [.lit (.bool true)], args := [d1, d2, d3] }
  | _ => none }
def barrierInsertRow : OpenClaim := { program := "ytgcofabdialaaaagreat", sum := "135bec03520d8e112b7aaa7b27e021d7295ffd7f69af43f9ef9015ba187010e0", func := "dustcart/dustcartlaw12.BarrierInsert", spec := "barrierInsert", unfollowed := true, recurses := true, apart := false }
def BarrierInsertSaid : Prop := barrierInsertRow.holds Tryz.pinned (OpenSpec.ofChange barrierInsertSpec)

/-- ITS FALSE NEIGHBOUR: 'it returns false'. Refute it at one input. -/
def barrierInsertWrong : ChangeSpec := { name := "barrierInsert", fn := fun _ => fun
  | [d1, d2, d3] => { results := [.lit (.bool false)], args := [d1, d2, d3] }
  | _ => none }
def BarrierInsertWrongFalsely : Prop := barrierInsertRow.holds Tryz.pinned (OpenSpec.ofChange barrierInsertWrong)

/-- 'dustcartlaw12.BarrierSnapshot': WHATEVER THE INPUT: true; the input reads as it did. -/
def barrierSnapshotSpec : ChangeSpec := { name := "barrierSnapshot", fn := fun _ => fun
  | [d1, d2, d3, d4] => { results := [.lit (.bool true)], args := [d1, d2, d3, d4] }
  | _ => none }
def barrierSnapshotRow : OpenClaim := { program := "ytgcofabdialaaaagreat", sum := "135bec03520d8e112b7aaa7b27e021d7295ffd7f69af43f9ef9015ba187010e0", func := "dustcart/dustcartlaw12.BarrierSnapshot", spec := "barrierSnapshot", unfollowed := true, recurses := true, apart := false }
def BarrierSnapshotSaid : Prop := barrierSnapshotRow.holds Tryz.pinned (OpenSpec.ofChange barrierSnapshotSpec)

/-- ITS FALSE NEIGHBOUR: 'it returns false'. Refute it at one input. -/
def barrierSnapshotWrong : ChangeSpec := { name := "barrierSnapshot", fn := fun _ => fun
  | [d1, d2, d3, d4] => { results := [.lit (.bool false)], args := [d1, d2, d3, d4] }
  | _ => none }
def BarrierSnapshotWrongFalsely : Prop := barrierSnapshotRow.holds Tryz.pinned (OpenSpec.ofChange barrierSnapshotWrong)

/-- 'dustcartlaw12.BarrierFewer': WHATEVER THE INPUT: true; the input reads as it did. -/
def barrierFewerSpec : ChangeSpec := { name := "barrierFewer", fn := fun _ => fun
  | [d1, d2, d3, d4] => { results := [.lit (.bool true)], args := [d1, d2, d3, d4] }
  | _ => none }
def barrierFewerRow : OpenClaim := { program := "ytgcofabdialaaaagreat", sum := "135bec03520d8e112b7aaa7b27e021d7295ffd7f69af43f9ef9015ba187010e0", func := "dustcart/dustcartlaw12.BarrierFewer", spec := "barrierFewer", unfollowed := true, recurses := true, apart := false }
def BarrierFewerSaid : Prop := barrierFewerRow.holds Tryz.pinned (OpenSpec.ofChange barrierFewerSpec)

/-- ITS FALSE NEIGHBOUR: 'it returns false'. Refute it at one input. -/
def barrierFewerWrong : ChangeSpec := { name := "barrierFewer", fn := fun _ => fun
  | [d1, d2, d3, d4] => { results := [.lit (.bool false)], args := [d1, d2, d3, d4] }
  | _ => none }
def BarrierFewerWrongFalsely : Prop := barrierFewerRow.holds Tryz.pinned (OpenSpec.ofChange barrierFewerWrong)

/-- 'dustcartlaw12.BarrierLog': WHATEVER THE INPUT: true; the input reads as it did. -/
def barrierLogSpec : ChangeSpec := { name := "barrierLog", fn := fun _ => fun
  | [d1, d2, d3] => { results := [.lit (.bool true)], args := [d1, d2, d3] }
  | _ => none }
def barrierLogRow : OpenClaim := { program := "ytgcofabdialaaaagreat", sum := "135bec03520d8e112b7aaa7b27e021d7295ffd7f69af43f9ef9015ba187010e0", func := "dustcart/dustcartlaw12.BarrierLog", spec := "barrierLog", unfollowed := true, recurses := true, apart := false }
def BarrierLogSaid : Prop := barrierLogRow.holds Tryz.pinned (OpenSpec.ofChange barrierLogSpec)

/-- ITS FALSE NEIGHBOUR: 'it returns false'. Refute it at one input. -/
def barrierLogWrong : ChangeSpec := { name := "barrierLog", fn := fun _ => fun
  | [d1, d2, d3] => { results := [.lit (.bool false)], args := [d1, d2, d3] }
  | _ => none }
def BarrierLogWrongFalsely : Prop := barrierLogRow.holds Tryz.pinned (OpenSpec.ofChange barrierLogWrong)

/-- 'dustcartlaw12.BarrierNone': WHATEVER THE INPUT: true; the input reads as it did. -/
def barrierNoneSpec : ChangeSpec := { name := "barrierNone", fn := fun _ => fun
  | [d1, d2, d3, d4, d5, d6] => { results := [.lit (.bool true)], args := [d1, d2, d3, d4, d5, d6] }
  | _ => none }
def barrierNoneRow : OpenClaim := { program := "ytgcofabdialaaaagreat", sum := "135bec03520d8e112b7aaa7b27e021d7295ffd7f69af43f9ef9015ba187010e0", func := "dustcart/dustcartlaw12.BarrierNone", spec := "barrierNone", inPlace := ["maps.clone"], unfollowed := true, recurses := true, apart := false }
def BarrierNoneSaid : Prop := barrierNoneRow.holds Tryz.pinned (OpenSpec.ofChange barrierNoneSpec)

/-- ITS FALSE NEIGHBOUR: 'it returns false'. Refute it at one input. -/
def barrierNoneWrong : ChangeSpec := { name := "barrierNone", fn := fun _ => fun
  | [d1, d2, d3, d4, d5, d6] => { results := [.lit (.bool false)], args := [d1, d2, d3, d4, d5, d6] }
  | _ => none }
def BarrierNoneWrongFalsely : Prop := barrierNoneRow.holds Tryz.pinned (OpenSpec.ofChange barrierNoneWrong)

/-- 'dustcartlaw12.BarrierPlays': WHATEVER THE INPUT: true; the input reads as it did. -/
def barrierPlaysSpec : ChangeSpec := { name := "barrierPlays", fn := fun _ => fun
  | [d1, d2, d3, d4] => { results := [.lit (.bool true)], args := [d1, d2, d3, d4] }
  | _ => none }
def barrierPlaysRow : OpenClaim := { program := "ytgcofabdialaaaagreat", sum := "135bec03520d8e112b7aaa7b27e021d7295ffd7f69af43f9ef9015ba187010e0", func := "dustcart/dustcartlaw12.BarrierPlays", spec := "barrierPlays", inPlace := ["maps.clone"], unfollowed := true, recurses := true, apart := false }
def BarrierPlaysSaid : Prop := barrierPlaysRow.holds Tryz.pinned (OpenSpec.ofChange barrierPlaysSpec)

/-- ITS FALSE NEIGHBOUR: 'it returns false'. Refute it at one input. -/
def barrierPlaysWrong : ChangeSpec := { name := "barrierPlays", fn := fun _ => fun
  | [d1, d2, d3, d4] => { results := [.lit (.bool false)], args := [d1, d2, d3, d4] }
  | _ => none }
def BarrierPlaysWrongFalsely : Prop := barrierPlaysRow.holds Tryz.pinned (OpenSpec.ofChange barrierPlaysWrong)

/- THE SECOND FORM. 'bulk': how many values and letters a reading holds, each counted each time it is reached (what is shared counts as often as it is met; a slice's spare places count too). A statement '..UptoSaid' is the law's where the arguments, and the package variables that the reading takes, are together of bulk at most 1048576: NARROWER than '..Said'. Prove '..Said' where nothing that the law and all that it calls make is longer than what came in: it says more and counts as full. Else prove '..UptoSaid'. A law counts once. -/
mutual
def uptoBulk {H : Type} : DataW H → Nat
  | .lit (.string bytes) => bytes.length + 1
  | .lit _ => 1
  | .nil => 1
  | .ptr d => uptoBulk d + 1
  | .slice elems spare => uptoBulkAll elems + uptoBulkAll spare + 1
  | .agg parts => uptoBulkAll parts + 1
  | .iface _ d => uptoBulk d + 1
  | .map entries => uptoBulkEntries entries + 1
  | .held _ => 1
def uptoBulkAll {H : Type} : List (DataW H) → Nat
  | [] => 0
  | d :: r => uptoBulk d + uptoBulkAll r
def uptoBulkEntries {H : Type} : List (Lit × DataW H) → Nat
  | [] => 0
  | x :: r => uptoBulkEntry x + uptoBulkEntries r
def uptoBulkEntry {H : Type} : Lit × DataW H → Nat
  | (.string bytes, d) => bytes.length + uptoBulk d + 1
  | (_, d) => uptoBulk d + 1
 end
def uptoSmall : (H : Type) → List (DataW H) → Bool := fun _ ds => decide (uptoBulkAll ds ≤ 1048576)
def OpenSpec.upto (s : _root_.Go.ChangeSpec) : _root_.Go.OpenSpec := { _root_.Go.OpenSpec.ofChange s with cond := some uptoSmall }

/-- 'dustcartlaw12.BarrierCards', WHERE WHAT IT READS IS OF BULK AT MOST 1048576: true; the input reads as it did. -/
def barrierCardsUptoRow : OpenClaim := { program := "ytgcofabdialaaaagreat", sum := "135bec03520d8e112b7aaa7b27e021d7295ffd7f69af43f9ef9015ba187010e0", func := "dustcart/dustcartlaw12.BarrierCards", spec := "barrierCards", unfollowed := true, recurses := true, apart := false, narrowed := true }
def BarrierCardsUptoSaid : Prop := barrierCardsUptoRow.holds Tryz.pinned (OpenSpec.upto barrierCardsSpec)

/-- 'dustcartlaw12.BarrierOld', WHERE WHAT IT READS IS OF BULK AT MOST 1048576: true; the input reads as it did. -/
def barrierOldUptoRow : OpenClaim := { program := "ytgcofabdialaaaagreat", sum := "135bec03520d8e112b7aaa7b27e021d7295ffd7f69af43f9ef9015ba187010e0", func := "dustcart/dustcartlaw12.BarrierOld", spec := "barrierOld", unfollowed := true, recurses := true, apart := false, narrowed := true }
def BarrierOldUptoSaid : Prop := barrierOldUptoRow.holds Tryz.pinned (OpenSpec.upto barrierOldSpec)

/-- 'dustcartlaw12.BarrierInsert', WHERE WHAT IT READS IS OF BULK AT MOST 1048576: true; the input reads as it did. -/
def barrierInsertUptoRow : OpenClaim := { program := "ytgcofabdialaaaagreat", sum := "135bec03520d8e112b7aaa7b27e021d7295ffd7f69af43f9ef9015ba187010e0", func := "dustcart/dustcartlaw12.BarrierInsert", spec := "barrierInsert", unfollowed := true, recurses := true, apart := false, narrowed := true }
def BarrierInsertUptoSaid : Prop := barrierInsertUptoRow.holds Tryz.pinned (OpenSpec.upto barrierInsertSpec)

/-- 'dustcartlaw12.BarrierSnapshot', WHERE WHAT IT READS IS OF BULK AT MOST 1048576: true; the input reads as it did. -/
def barrierSnapshotUptoRow : OpenClaim := { program := "ytgcofabdialaaaagreat", sum := "135bec03520d8e112b7aaa7b27e021d7295ffd7f69af43f9ef9015ba187010e0", func := "dustcart/dustcartlaw12.BarrierSnapshot", spec := "barrierSnapshot", unfollowed := true, recurses := true, apart := false, narrowed := true }
def BarrierSnapshotUptoSaid : Prop := barrierSnapshotUptoRow.holds Tryz.pinned (OpenSpec.upto barrierSnapshotSpec)

/-- 'dustcartlaw12.BarrierFewer', WHERE WHAT IT READS IS OF BULK AT MOST 1048576: true; the input reads as it did. -/
def barrierFewerUptoRow : OpenClaim := { program := "ytgcofabdialaaaagreat", sum := "135bec03520d8e112b7aaa7b27e021d7295ffd7f69af43f9ef9015ba187010e0", func := "dustcart/dustcartlaw12.BarrierFewer", spec := "barrierFewer", unfollowed := true, recurses := true, apart := false, narrowed := true }
def BarrierFewerUptoSaid : Prop := barrierFewerUptoRow.holds Tryz.pinned (OpenSpec.upto barrierFewerSpec)

/-- 'dustcartlaw12.BarrierLog', WHERE WHAT IT READS IS OF BULK AT MOST 1048576: true; the input reads as it did. -/
def barrierLogUptoRow : OpenClaim := { program := "ytgcofabdialaaaagreat", sum := "135bec03520d8e112b7aaa7b27e021d7295ffd7f69af43f9ef9015ba187010e0", func := "dustcart/dustcartlaw12.BarrierLog", spec := "barrierLog", unfollowed := true, recurses := true, apart := false, narrowed := true }
def BarrierLogUptoSaid : Prop := barrierLogUptoRow.holds Tryz.pinned (OpenSpec.upto barrierLogSpec)

/-- 'dustcartlaw12.BarrierNone', WHERE WHAT IT READS IS OF BULK AT MOST 1048576: true; the input reads as it did. -/
def barrierNoneUptoRow : OpenClaim := { program := "ytgcofabdialaaaagreat", sum := "135bec03520d8e112b7aaa7b27e021d7295ffd7f69af43f9ef9015ba187010e0", func := "dustcart/dustcartlaw12.BarrierNone", spec := "barrierNone", inPlace := ["maps.clone"], unfollowed := true, recurses := true, apart := false, narrowed := true }
def BarrierNoneUptoSaid : Prop := barrierNoneUptoRow.holds Tryz.pinned (OpenSpec.upto barrierNoneSpec)

/-- 'dustcartlaw12.BarrierPlays', WHERE WHAT IT READS IS OF BULK AT MOST 1048576: true; the input reads as it did. -/
def barrierPlaysUptoRow : OpenClaim := { program := "ytgcofabdialaaaagreat", sum := "135bec03520d8e112b7aaa7b27e021d7295ffd7f69af43f9ef9015ba187010e0", func := "dustcart/dustcartlaw12.BarrierPlays", spec := "barrierPlays", inPlace := ["maps.clone"], unfollowed := true, recurses := true, apart := false, narrowed := true }
def BarrierPlaysUptoSaid : Prop := barrierPlaysUptoRow.holds Tryz.pinned (OpenSpec.upto barrierPlaysSpec)

end Rows
end Go.Proofs.YtgcofabdialaaaaGreat
