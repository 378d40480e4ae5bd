/-
  No cell of these rows narrows 'for every input' (looked for: loops, veiled, ifaces, maps, wideKeys, modest, calm, conditions, laid).
  DERIVED. THE GIVEN ROWS OF THIS SEAT. 3 by the template 'for every input the law returns true; each argument reads behind the call as it read before'; 0 by the template 'total and deterministic' (their statements: YtidomomdfdkphaaTotals.lean).
  GIVEN WITH THE SEED: the statements are not yours to turn. If you find one false, say at which input.
  Laid BY PROGRAM, IN A SANDBOX (cutbox-rows.mjs): the forced cells as the released guide's own fill.sh prints them over the translation d1901fcf5c1b3d34… (all of the seat's roots in one cut). By AI agents, Wed Nov 11 2026. No macro, syntax, notation, axiom, sorry.
-/
import Derived.Test.YtidomomdfdkphaaChecked
import GoSem.Claim
import GoSem.ClaimJoined
import GoSem.ClaimMapViews
import Derived.JoinedTies
import Derived.KernelRfl
namespace Go.Proofs.Ytidomomdfdkphaa
/- THE CELL 'sum', in the pinned program and in every row, IS THE sha256 OF THE DUMP (.gsa) THAT YtidomomdfdkphaaProg.lean LOADS. Nothing in Lean hashes anything: it is a label: what it is worth is what the hold of that sum in a sandbox is worth. -/
noncomputable def Try.pinned : Pinned := { name := "ytidomomdfdkphaa", sum := "d1901fcf5c1b3d34279fedbb9064babd29fa511f718e2caec3d5e82b44f72214", checked := Try.checked }
namespace Rows
def none {H : Type} : Left H := { results := [], args := [] }

/-- 'dactyllaw16.GapNone': WHATEVER THE INPUT: true; the input reads as it did. -/
def gapNoneSpec : ChangeSpec := { name := "gapNone", fn := fun _ => fun
  | [d1, d2] => { results := [.lit (.bool true)], args := [d1, d2] }
  | _ => none }
def gapNoneRow : OpenClaim := { program := "ytidomomdfdkphaa", sum := "d1901fcf5c1b3d34279fedbb9064babd29fa511f718e2caec3d5e82b44f72214", func := "dactyl/dactyllaw16.GapNone", spec := "gapNone", unfollowed := true, recurses := true, apart := false }
def GapNoneSaid : Prop := gapNoneRow.holds Try.pinned (OpenSpec.ofChange gapNoneSpec)

/-- ITS FALSE NEIGHBOUR: 'it returns false'. Refute it at one input. -/
def gapNoneWrong : ChangeSpec := { name := "gapNone", fn := fun _ => fun
  | [d1, d2] => { results := [.lit (.bool false)], args := [d1, d2] }
  | _ => none }
def GapNoneWrongFalsely : Prop := gapNoneRow.holds Try.pinned (OpenSpec.ofChange gapNoneWrong)

/-- 'dactyllaw16.GapFull': WHATEVER THE INPUT: true; the input reads as it did. -/
def gapFullSpec : ChangeSpec := { name := "gapFull", fn := fun _ => fun
  | [d1, d2] => { results := [.lit (.bool true)], args := [d1, d2] }
  | _ => none }
def gapFullRow : OpenClaim := { program := "ytidomomdfdkphaa", sum := "d1901fcf5c1b3d34279fedbb9064babd29fa511f718e2caec3d5e82b44f72214", func := "dactyl/dactyllaw16.GapFull", spec := "gapFull", unfollowed := true, recurses := true, apart := false }
def GapFullSaid : Prop := gapFullRow.holds Try.pinned (OpenSpec.ofChange gapFullSpec)

/-- ITS FALSE NEIGHBOUR: 'it returns false'. Refute it at one input. -/
def gapFullWrong : ChangeSpec := { name := "gapFull", fn := fun _ => fun
  | [d1, d2] => { results := [.lit (.bool false)], args := [d1, d2] }
  | _ => none }
def GapFullWrongFalsely : Prop := gapFullRow.holds Try.pinned (OpenSpec.ofChange gapFullWrong)

/-- 'dactyllaw16.GapDoes': WHATEVER THE INPUT: true; the input reads as it did. -/
def gapDoesSpec : ChangeSpec := { name := "gapDoes", fn := fun _ => fun
  | [d1, d2] => { results := [.lit (.bool true)], args := [d1, d2] }
  | _ => none }
def gapDoesRow : OpenClaim := { program := "ytidomomdfdkphaa", sum := "d1901fcf5c1b3d34279fedbb9064babd29fa511f718e2caec3d5e82b44f72214", func := "dactyl/dactyllaw16.GapDoes", spec := "gapDoes", unfollowed := true, recurses := true, apart := false }
def GapDoesSaid : Prop := gapDoesRow.holds Try.pinned (OpenSpec.ofChange gapDoesSpec)

/-- ITS FALSE NEIGHBOUR: 'it returns false'. Refute it at one input. -/
def gapDoesWrong : ChangeSpec := { name := "gapDoes", fn := fun _ => fun
  | [d1, d2] => { results := [.lit (.bool false)], args := [d1, d2] }
  | _ => none }
def GapDoesWrongFalsely : Prop := gapDoesRow.holds Try.pinned (OpenSpec.ofChange gapDoesWrong)

/- THE SECOND FORM. 'bulk': how many values and letters a reading holds, each counted each time it is reached (what is shared counts as often as it is met; a slice's spare places count too). A statement '..UptoSaid' is the law's where the arguments, and the package variables that the reading takes, are together of bulk at most 1048576: NARROWER than '..Said'. Prove '..Said' where nothing that the law and all that it calls make is longer than what came in: it says more and counts as full. Else prove '..UptoSaid'. A law counts once. -/
mutual
def uptoBulk {H : Type} : DataW H → Nat
  | .lit (.string bytes) => bytes.length + 1
  | .lit _ => 1
  | .nil => 1
  | .ptr d => uptoBulk d + 1
  | .slice elems spare => uptoBulkAll elems + uptoBulkAll spare + 1
  | .agg parts => uptoBulkAll parts + 1
  | .iface _ d => uptoBulk d + 1
  | .map entries => uptoBulkEntries entries + 1
  | .held _ => 1
def uptoBulkAll {H : Type} : List (DataW H) → Nat
  | [] => 0
  | d :: r => uptoBulk d + uptoBulkAll r
def uptoBulkEntries {H : Type} : List (Lit × DataW H) → Nat
  | [] => 0
  | x :: r => uptoBulkEntry x + uptoBulkEntries r
def uptoBulkEntry {H : Type} : Lit × DataW H → Nat
  | (.string bytes, d) => bytes.length + uptoBulk d + 1
  | (_, d) => uptoBulk d + 1
 end
def uptoSmall : (H : Type) → List (DataW H) → Bool := fun _ ds => decide (uptoBulkAll ds ≤ 1048576)
def OpenSpec.upto (s : _root_.Go.ChangeSpec) : _root_.Go.OpenSpec := { _root_.Go.OpenSpec.ofChange s with cond := some uptoSmall }

/-- 'dactyllaw16.GapNone', WHERE WHAT IT READS IS OF BULK AT MOST 1048576: true; the input reads as it did. -/
def gapNoneUptoRow : OpenClaim := { program := "ytidomomdfdkphaa", sum := "d1901fcf5c1b3d34279fedbb9064babd29fa511f718e2caec3d5e82b44f72214", func := "dactyl/dactyllaw16.GapNone", spec := "gapNone", unfollowed := true, recurses := true, apart := false, narrowed := true }
def GapNoneUptoSaid : Prop := gapNoneUptoRow.holds Try.pinned (OpenSpec.upto gapNoneSpec)

/-- 'dactyllaw16.GapFull', WHERE WHAT IT READS IS OF BULK AT MOST 1048576: true; the input reads as it did. -/
def gapFullUptoRow : OpenClaim := { program := "ytidomomdfdkphaa", sum := "d1901fcf5c1b3d34279fedbb9064babd29fa511f718e2caec3d5e82b44f72214", func := "dactyl/dactyllaw16.GapFull", spec := "gapFull", unfollowed := true, recurses := true, apart := false, narrowed := true }
def GapFullUptoSaid : Prop := gapFullUptoRow.holds Try.pinned (OpenSpec.upto gapFullSpec)

/-- 'dactyllaw16.GapDoes', WHERE WHAT IT READS IS OF BULK AT MOST 1048576: true; the input reads as it did. -/
def gapDoesUptoRow : OpenClaim := { program := "ytidomomdfdkphaa", sum := "d1901fcf5c1b3d34279fedbb9064babd29fa511f718e2caec3d5e82b44f72214", func := "dactyl/dactyllaw16.GapDoes", spec := "gapDoes", unfollowed := true, recurses := true, apart := false, narrowed := true }
def GapDoesUptoSaid : Prop := gapDoesUptoRow.holds Try.pinned (OpenSpec.upto gapDoesSpec)

end Rows
end Go.Proofs.Ytidomomdfdkphaa
