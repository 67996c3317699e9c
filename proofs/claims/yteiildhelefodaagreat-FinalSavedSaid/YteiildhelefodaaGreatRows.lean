/-
  No cell of these rows narrows 'for every input' (looked for: loops, veiled, ifaces, maps, wideKeys, modest, calm, conditions, laid).
  DERIVED. THE GIVEN ROWS OF THIS SEAT. 6 by the template 'for every input the law returns true; each argument reads behind the call as it read before'; 0 by the template 'total and deterministic' (their statements: YteiildhelefodaaGreatTotals.lean).
  GIVEN WITH THE SEED: the statements are not yours to turn. If you find one false, say at which input.
  Laid BY PROGRAM, IN A SANDBOX (cutbox-rows.mjs): the forced cells as the released guide's own fill.sh prints them over the translation 0d7cd963d1391971… (all of the seat's roots in one cut). By AI agents, Wed Nov 11 2026. No macro, syntax, notation, axiom, sorry.
-/
import Derived.Test.YteiildhelefodaaGreatChecked
import GoSem.Claim
import GoSem.ClaimJoined
import GoSem.ClaimMapViews
import Derived.JoinedTies
import Derived.KernelRfl
namespace Go.Proofs.YteiildhelefodaaGreat
/- THE CELL 'sum', in the pinned program and in every row, IS THE sha256 OF THE DUMP (.gsa) THAT YteiildhelefodaaGreatProg.lean LOADS. Nothing in Lean hashes anything: it is a label: what it is worth is what the hold of that sum in a sandbox is worth. -/
noncomputable def Tryz.pinned : Pinned := { name := "yteiildhelefodaagreat", sum := "0d7cd963d13919712ba069a626c3281850460ce0124d58be452141ea2cb7d20b", checked := Tryz.checked }
namespace Rows
def none {H : Type} : Left H := { results := [], args := [] }

/-- 'dustcartlaw20.FinalOldest': WHATEVER THE INPUT: true; the input reads as it did. -/
def finalOldestSpec : ChangeSpec := { name := "finalOldest", fn := fun _ => fun
  | [d1, d2] => { results := [.lit (.bool true)], args := [d1, d2] }
  | _ => none }
def finalOldestRow : OpenClaim := { program := "yteiildhelefodaagreat", sum := "0d7cd963d13919712ba069a626c3281850460ce0124d58be452141ea2cb7d20b", func := "dustcart/dustcartlaw20.FinalOldest", spec := "finalOldest", unfollowed := true, recurses := true, apart := false }
def FinalOldestSaid : Prop := finalOldestRow.holds Tryz.pinned (OpenSpec.ofChange finalOldestSpec)

/-- ITS FALSE NEIGHBOUR: 'it returns false'. Refute it at one input. -/
def finalOldestWrong : ChangeSpec := { name := "finalOldest", fn := fun _ => fun
  | [d1, d2] => { results := [.lit (.bool false)], args := [d1, d2] }
  | _ => none }
def FinalOldestWrongFalsely : Prop := finalOldestRow.holds Tryz.pinned (OpenSpec.ofChange finalOldestWrong)

/-- 'dustcartlaw20.FinalOrder': WHATEVER THE INPUT: true; the input reads as it did. -/
def finalOrderSpec : ChangeSpec := { name := "finalOrder", fn := fun _ => fun
  | [d1, d2] => { results := [.lit (.bool true)], args := [d1, d2] }
  | _ => none }
def finalOrderRow : OpenClaim := { program := "yteiildhelefodaagreat", sum := "0d7cd963d13919712ba069a626c3281850460ce0124d58be452141ea2cb7d20b", func := "dustcart/dustcartlaw20.FinalOrder", spec := "finalOrder", unfollowed := true, recurses := true, apart := false }
def FinalOrderSaid : Prop := finalOrderRow.holds Tryz.pinned (OpenSpec.ofChange finalOrderSpec)

/-- ITS FALSE NEIGHBOUR: 'it returns false'. Refute it at one input. -/
def finalOrderWrong : ChangeSpec := { name := "finalOrder", fn := fun _ => fun
  | [d1, d2] => { results := [.lit (.bool false)], args := [d1, d2] }
  | _ => none }
def FinalOrderWrongFalsely : Prop := finalOrderRow.holds Tryz.pinned (OpenSpec.ofChange finalOrderWrong)

/-- 'dustcartlaw20.FinalNoneLeft': WHATEVER THE INPUT: true; the input reads as it did. -/
def finalNoneLeftSpec : ChangeSpec := { name := "finalNoneLeft", fn := fun _ => fun
  | [d1, d2] => { results := [.lit (.bool true)], args := [d1, d2] }
  | _ => none }
def finalNoneLeftRow : OpenClaim := { program := "yteiildhelefodaagreat", sum := "0d7cd963d13919712ba069a626c3281850460ce0124d58be452141ea2cb7d20b", func := "dustcart/dustcartlaw20.FinalNoneLeft", spec := "finalNoneLeft", unfollowed := true, recurses := true, apart := false }
def FinalNoneLeftSaid : Prop := finalNoneLeftRow.holds Tryz.pinned (OpenSpec.ofChange finalNoneLeftSpec)

/-- ITS FALSE NEIGHBOUR: 'it returns false'. Refute it at one input. -/
def finalNoneLeftWrong : ChangeSpec := { name := "finalNoneLeft", fn := fun _ => fun
  | [d1, d2] => { results := [.lit (.bool false)], args := [d1, d2] }
  | _ => none }
def FinalNoneLeftWrongFalsely : Prop := finalNoneLeftRow.holds Tryz.pinned (OpenSpec.ofChange finalNoneLeftWrong)

/-- 'dustcartlaw20.FinalNone': WHATEVER THE INPUT: true; the input reads as it did. -/
def finalNoneSpec : ChangeSpec := { name := "finalNone", fn := fun _ => fun
  | [d] => { results := [.lit (.bool true)], args := [d] }
  | _ => none }
def finalNoneRow : OpenClaim := { program := "yteiildhelefodaagreat", sum := "0d7cd963d13919712ba069a626c3281850460ce0124d58be452141ea2cb7d20b", func := "dustcart/dustcartlaw20.FinalNone", spec := "finalNone", unfollowed := true, recurses := true, apart := false }
def FinalNoneSaid : Prop := finalNoneRow.holds Tryz.pinned (OpenSpec.ofChange finalNoneSpec)

/-- ITS FALSE NEIGHBOUR: 'it returns false'. Refute it at one input. -/
def finalNoneWrong : ChangeSpec := { name := "finalNone", fn := fun _ => fun
  | [d] => { results := [.lit (.bool false)], args := [d] }
  | _ => none }
def FinalNoneWrongFalsely : Prop := finalNoneRow.holds Tryz.pinned (OpenSpec.ofChange finalNoneWrong)

/-- 'dustcartlaw20.FinalSaved': WHATEVER THE INPUT: true; the input reads as it did. -/
def finalSavedSpec : ChangeSpec := { name := "finalSaved", fn := fun _ => fun
  | [d1, d2] => { results := [.lit (.bool true)], args := [d1, d2] }
  | _ => none }
def finalSavedRow : OpenClaim := { program := "yteiildhelefodaagreat", sum := "0d7cd963d13919712ba069a626c3281850460ce0124d58be452141ea2cb7d20b", func := "dustcart/dustcartlaw20.FinalSaved", spec := "finalSaved", unfollowed := true, recurses := true, apart := false }
def FinalSavedSaid : Prop := finalSavedRow.holds Tryz.pinned (OpenSpec.ofChange finalSavedSpec)

/-- ITS FALSE NEIGHBOUR: 'it returns false'. Refute it at one input. -/
def finalSavedWrong : ChangeSpec := { name := "finalSaved", fn := fun _ => fun
  | [d1, d2] => { results := [.lit (.bool false)], args := [d1, d2] }
  | _ => none }
def FinalSavedWrongFalsely : Prop := finalSavedRow.holds Tryz.pinned (OpenSpec.ofChange finalSavedWrong)

/-- 'dustcartlaw20.FinalPlays': WHATEVER THE INPUT: true; the input reads as it did. -/
def finalPlaysSpec : ChangeSpec := { name := "finalPlays", fn := fun _ => fun
  | [d1, d2] => { results := [.lit (.bool true)], args := [d1, d2] }
  | _ => none }
def finalPlaysRow : OpenClaim := { program := "yteiildhelefodaagreat", sum := "0d7cd963d13919712ba069a626c3281850460ce0124d58be452141ea2cb7d20b", func := "dustcart/dustcartlaw20.FinalPlays", spec := "finalPlays", inPlace := ["maps.clone"], unfollowed := true, recurses := true, apart := false }
def FinalPlaysSaid : Prop := finalPlaysRow.holds Tryz.pinned (OpenSpec.ofChange finalPlaysSpec)

/-- ITS FALSE NEIGHBOUR: 'it returns false'. Refute it at one input. -/
def finalPlaysWrong : ChangeSpec := { name := "finalPlays", fn := fun _ => fun
  | [d1, d2] => { results := [.lit (.bool false)], args := [d1, d2] }
  | _ => none }
def FinalPlaysWrongFalsely : Prop := finalPlaysRow.holds Tryz.pinned (OpenSpec.ofChange finalPlaysWrong)

/- THE SECOND FORM. 'bulk': how many values and letters a reading holds, each counted each time it is reached (what is shared counts as often as it is met; a slice's spare places count too). A statement '..UptoSaid' is the law's where the arguments, and the package variables that the reading takes, are together of bulk at most 1048576: NARROWER than '..Said'. Prove '..Said' where nothing that the law and all that it calls make is longer than what came in: it says more and counts as full. Else prove '..UptoSaid'. A law counts once. -/
mutual
def uptoBulk {H : Type} : DataW H → Nat
  | .lit (.string bytes) => bytes.length + 1
  | .lit _ => 1
  | .nil => 1
  | .ptr d => uptoBulk d + 1
  | .slice elems spare => uptoBulkAll elems + uptoBulkAll spare + 1
  | .agg parts => uptoBulkAll parts + 1
  | .iface _ d => uptoBulk d + 1
  | .map entries => uptoBulkEntries entries + 1
  | .held _ => 1
def uptoBulkAll {H : Type} : List (DataW H) → Nat
  | [] => 0
  | d :: r => uptoBulk d + uptoBulkAll r
def uptoBulkEntries {H : Type} : List (Lit × DataW H) → Nat
  | [] => 0
  | x :: r => uptoBulkEntry x + uptoBulkEntries r
def uptoBulkEntry {H : Type} : Lit × DataW H → Nat
  | (.string bytes, d) => bytes.length + uptoBulk d + 1
  | (_, d) => uptoBulk d + 1
 end
def uptoSmall : (H : Type) → List (DataW H) → Bool := fun _ ds => decide (uptoBulkAll ds ≤ 1048576)
def OpenSpec.upto (s : _root_.Go.ChangeSpec) : _root_.Go.OpenSpec := { _root_.Go.OpenSpec.ofChange s with cond := some uptoSmall }

/-- 'dustcartlaw20.FinalOldest', WHERE WHAT IT READS IS OF BULK AT MOST 1048576: true; the input reads as it did. -/
def finalOldestUptoRow : OpenClaim := { program := "yteiildhelefodaagreat", sum := "0d7cd963d13919712ba069a626c3281850460ce0124d58be452141ea2cb7d20b", func := "dustcart/dustcartlaw20.FinalOldest", spec := "finalOldest", unfollowed := true, recurses := true, apart := false, narrowed := true }
def FinalOldestUptoSaid : Prop := finalOldestUptoRow.holds Tryz.pinned (OpenSpec.upto finalOldestSpec)

/-- 'dustcartlaw20.FinalOrder', WHERE WHAT IT READS IS OF BULK AT MOST 1048576: true; the input reads as it did. -/
def finalOrderUptoRow : OpenClaim := { program := "yteiildhelefodaagreat", sum := "0d7cd963d13919712ba069a626c3281850460ce0124d58be452141ea2cb7d20b", func := "dustcart/dustcartlaw20.FinalOrder", spec := "finalOrder", unfollowed := true, recurses := true, apart := false, narrowed := true }
def FinalOrderUptoSaid : Prop := finalOrderUptoRow.holds Tryz.pinned (OpenSpec.upto finalOrderSpec)

/-- 'dustcartlaw20.FinalNoneLeft', WHERE WHAT IT READS IS OF BULK AT MOST 1048576: true; the input reads as it did. -/
def finalNoneLeftUptoRow : OpenClaim := { program := "yteiildhelefodaagreat", sum := "0d7cd963d13919712ba069a626c3281850460ce0124d58be452141ea2cb7d20b", func := "dustcart/dustcartlaw20.FinalNoneLeft", spec := "finalNoneLeft", unfollowed := true, recurses := true, apart := false, narrowed := true }
def FinalNoneLeftUptoSaid : Prop := finalNoneLeftUptoRow.holds Tryz.pinned (OpenSpec.upto finalNoneLeftSpec)

/-- 'dustcartlaw20.FinalNone', WHERE WHAT IT READS IS OF BULK AT MOST 1048576: true; the input reads as it did. -/
def finalNoneUptoRow : OpenClaim := { program := "yteiildhelefodaagreat", sum := "0d7cd963d13919712ba069a626c3281850460ce0124d58be452141ea2cb7d20b", func := "dustcart/dustcartlaw20.FinalNone", spec := "finalNone", unfollowed := true, recurses := true, apart := false, narrowed := true }
def FinalNoneUptoSaid : Prop := finalNoneUptoRow.holds Tryz.pinned (OpenSpec.upto finalNoneSpec)

/-- 'dustcartlaw20.FinalSaved', WHERE WHAT IT READS IS OF BULK AT MOST 1048576: true; the input reads as it did. -/
def finalSavedUptoRow : OpenClaim := { program := "yteiildhelefodaagreat", sum := "0d7cd963d13919712ba069a626c3281850460ce0124d58be452141ea2cb7d20b", func := "dustcart/dustcartlaw20.FinalSaved", spec := "finalSaved", unfollowed := true, recurses := true, apart := false, narrowed := true }
def FinalSavedUptoSaid : Prop := finalSavedUptoRow.holds Tryz.pinned (OpenSpec.upto finalSavedSpec)

/-- 'dustcartlaw20.FinalPlays', WHERE WHAT IT READS IS OF BULK AT MOST 1048576: true; the input reads as it did. -/
def finalPlaysUptoRow : OpenClaim := { program := "yteiildhelefodaagreat", sum := "0d7cd963d13919712ba069a626c3281850460ce0124d58be452141ea2cb7d20b", func := "dustcart/dustcartlaw20.FinalPlays", spec := "finalPlays", inPlace := ["maps.clone"], unfollowed := true, recurses := true, apart := false, narrowed := true }
def FinalPlaysUptoSaid : Prop := finalPlaysUptoRow.holds Tryz.pinned (OpenSpec.upto finalPlaysSpec)

end Rows
end Go.Proofs.YteiildhelefodaaGreat
