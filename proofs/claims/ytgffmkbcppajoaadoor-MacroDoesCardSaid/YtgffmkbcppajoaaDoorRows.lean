/-
  NARROWER THAN 'FOR EVERY INPUT', by the rows' own cells (each row's printed sentence says how): MacroDoes: laid.
  DERIVED. THE GIVEN ROWS OF THIS SEAT. 1 by the template 'for every input the law returns true; each argument reads behind the call as it read before'; 0 by the template 'total and deterministic' (their statements: YtgffmkbcppajoaaDoorTotals.lean).
  GIVEN WITH THE SEED: the statements are not yours to turn. If you find one false, say at which input.
  Laid BY PROGRAM, IN A SANDBOX (cutbox-rows.mjs): the forced cells as the released guide's own fill.sh prints them over the translation 5bf9b41471aa193c… (all of the seat's roots in one cut). By AI agents, Wed Nov 11 2026. No macro, syntax, notation, axiom, sorry.
-/
import Derived.Test.YtgffmkbcppajoaaDoorChecked
import GoSem.Claim
import GoSem.ClaimJoined
import GoSem.ClaimMapViews
import Derived.JoinedTies
import Derived.KernelRfl
namespace Go.Proofs.YtgffmkbcppajoaaDoor
/- THE CELL 'sum', in the pinned program and in every row, IS THE sha256 OF THE DUMP (.gsa) THAT YtgffmkbcppajoaaDoorProg.lean LOADS. Nothing in Lean hashes anything: it is a label: what it is worth is what the hold of that sum in a sandbox is worth. -/
noncomputable def Tryd.pinned : Pinned := { name := "ytgffmkbcppajoaadoor", sum := "5bf9b41471aa193c91e7a5b654f71317d14876504879b60beacfe8a599dd7941", checked := Tryd.checked }
namespace Rows
def none {H : Type} : Left H := { results := [], args := [] }

/- WHAT THE LISTED PACKAGE-LEVEL VARIABLES READ AS WHEN THE CALL BEGINS. Each datum BY PROGRAM (the guide's laid-datum.mjs) off the statement by which the dump's own 'gosem.cut.vars' lays the variable. In a bare row this is a premise. The card (YtgffmkbcppajoaaDoorCards.lean) ties it to the program's text. -/
def laid_dactyl_key_named {H : Type} : DataW H := .agg [.agg [.lit (.int .i64 4), .lit (.int .i64 13), .lit (.string [82, 69, 84]), .lit (.string [13])], .agg [.lit (.int .i64 4), .lit (.int .i64 10), .lit (.string [76, 70, 68]), .lit (.string [10])], .agg [.lit (.int .i64 5), .lit (.int .i64 0), .lit (.string [69, 83, 67]), .lit (.string [27])], .agg [.lit (.int .i64 6), .lit (.int .i64 0), .lit (.string [68, 69, 76]), .lit (.string [127])], .agg [.lit (.int .i64 7), .lit (.int .i64 0), .lit (.string [85, 80]), .lit (.string [27, 91, 65])], .agg [.lit (.int .i64 8), .lit (.int .i64 0), .lit (.string [68, 79, 87, 78]), .lit (.string [27, 91, 66])], .agg [.lit (.int .i64 9), .lit (.int .i64 0), .lit (.string [82, 73, 71, 72, 84]), .lit (.string [27, 91, 67])], .agg [.lit (.int .i64 10), .lit (.int .i64 0), .lit (.string [76, 69, 70, 84]), .lit (.string [27, 91, 68])], .agg [.lit (.int .i64 11), .lit (.int .i64 0), .lit (.string [72, 79, 77, 69]), .lit (.string [27, 91, 72])], .agg [.lit (.int .i64 12), .lit (.int .i64 0), .lit (.string [69, 78, 68]), .lit (.string [27, 91, 70])], .agg [.lit (.int .i64 13), .lit (.int .i64 0), .lit (.string [68, 69, 76, 69, 84, 69]), .lit (.string [27, 91, 51, 126])], .agg [.lit (.int .i64 14), .lit (.int .i64 0), .lit (.string [80, 71, 85, 80]), .lit (.string [27, 91, 53, 126])], .agg [.lit (.int .i64 14), .lit (.int .i64 1), .lit (.string [80, 71, 68, 78]), .lit (.string [27, 91, 54, 126])]]

/-- 'dactyllaw42.MacroDoes': WHATEVER THE INPUT: true; the input reads as it did. -/
def macroDoesSpec : ChangeSpec := { name := "macroDoes", fn := fun _ => fun
  | [d1, d2] => { results := [.lit (.bool true)], args := [d1, d2] }
  | _ => none }
def macroDoesRow : OpenClaim := { program := "ytgffmkbcppajoaadoor", sum := "5bf9b41471aa193c91e7a5b654f71317d14876504879b60beacfe8a599dd7941", func := "dactyl/dactyllaw42.MacroDoes", spec := "macroDoes", unfollowed := true, recurses := true, named := ["dactyl/key.named"], apart := false, laid := [("dactyl/key.named", laid_dactyl_key_named)] }
def MacroDoesSaid : Prop := macroDoesRow.holds Tryd.pinned (OpenSpec.ofChange macroDoesSpec)

/-- ITS FALSE NEIGHBOUR: 'it returns false'. Refute it at one input. -/
def macroDoesWrong : ChangeSpec := { name := "macroDoes", fn := fun _ => fun
  | [d1, d2] => { results := [.lit (.bool false)], args := [d1, d2] }
  | _ => none }
def MacroDoesWrongFalsely : Prop := macroDoesRow.holds Tryd.pinned (OpenSpec.ofChange macroDoesWrong)

/- THE SECOND FORM. 'bulk': how many values and letters a reading holds, each counted each time it is reached (what is shared counts as often as it is met; a slice's spare places count too). A statement '..UptoSaid' is the law's where the arguments, and the package variables that the reading takes, are together of bulk at most 1048576: NARROWER than '..Said'. Prove '..Said' where nothing that the law and all that it calls make is longer than what came in: it says more and counts as full. Else prove '..UptoSaid'. A law counts once. -/
mutual
def uptoBulk {H : Type} : DataW H → Nat
  | .lit (.string bytes) => bytes.length + 1
  | .lit _ => 1
  | .nil => 1
  | .ptr d => uptoBulk d + 1
  | .slice elems spare => uptoBulkAll elems + uptoBulkAll spare + 1
  | .agg parts => uptoBulkAll parts + 1
  | .iface _ d => uptoBulk d + 1
  | .map entries => uptoBulkEntries entries + 1
  | .held _ => 1
def uptoBulkAll {H : Type} : List (DataW H) → Nat
  | [] => 0
  | d :: r => uptoBulk d + uptoBulkAll r
def uptoBulkEntries {H : Type} : List (Lit × DataW H) → Nat
  | [] => 0
  | x :: r => uptoBulkEntry x + uptoBulkEntries r
def uptoBulkEntry {H : Type} : Lit × DataW H → Nat
  | (.string bytes, d) => bytes.length + uptoBulk d + 1
  | (_, d) => uptoBulk d + 1
 end
def uptoSmall : (H : Type) → List (DataW H) → Bool := fun _ ds => decide (uptoBulkAll ds ≤ 1048576)
def OpenSpec.upto (s : _root_.Go.ChangeSpec) : _root_.Go.OpenSpec := { _root_.Go.OpenSpec.ofChange s with cond := some uptoSmall }

/-- 'dactyllaw42.MacroDoes', WHERE WHAT IT READS IS OF BULK AT MOST 1048576: true; the input reads as it did. -/
def macroDoesUptoRow : OpenClaim := { program := "ytgffmkbcppajoaadoor", sum := "5bf9b41471aa193c91e7a5b654f71317d14876504879b60beacfe8a599dd7941", func := "dactyl/dactyllaw42.MacroDoes", spec := "macroDoes", unfollowed := true, recurses := true, named := ["dactyl/key.named"], apart := false, laid := [("dactyl/key.named", laid_dactyl_key_named)], narrowed := true }
def MacroDoesUptoSaid : Prop := macroDoesUptoRow.holds Tryd.pinned (OpenSpec.upto macroDoesSpec)

end Rows
end Go.Proofs.YtgffmkbcppajoaaDoor
