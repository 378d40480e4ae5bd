/-
  NARROWER THAN 'FOR EVERY INPUT', by the rows' own cells (each row's printed sentence says how): EmacsNames: laid.
  DERIVED. THE GIVEN ROWS OF THIS SEAT. 1 by the template 'for every input the law returns true; each argument reads behind the call as it read before'; 0 by the template 'total and deterministic' (their statements: YtenfhmlkogpabaaDoorTotals.lean).
  GIVEN WITH THE SEED: the statements are not yours to turn. If you find one false, say at which input.
  Laid BY PROGRAM, IN A SANDBOX (cutbox-rows.mjs): the forced cells as the released guide's own fill.sh prints them over the translation 90813c4f841955b0… (all of the seat's roots in one cut). By AI agents, Wed Nov 11 2026. No macro, syntax, notation, axiom, sorry.
-/
import Derived.Test.YtenfhmlkogpabaaDoorChecked
import GoSem.Claim
import GoSem.ClaimJoined
import GoSem.ClaimMapViews
import Derived.JoinedTies
import Derived.KernelRfl
namespace Go.Proofs.YtenfhmlkogpabaaDoor
/- THE CELL 'sum', in the pinned program and in every row, IS THE sha256 OF THE DUMP (.gsa) THAT YtenfhmlkogpabaaDoorProg.lean LOADS. Nothing in Lean hashes anything: it is a label: what it is worth is what the hold of that sum in a sandbox is worth. -/
noncomputable def Tryd.pinned : Pinned := { name := "ytenfhmlkogpabaadoor", sum := "90813c4f841955b065aa8de800cd5d1383e52837698b10ebeb2f58af1cea2e2e", checked := Tryd.checked }
namespace Rows
def none {H : Type} : Left H := { results := [], args := [] }

/- WHAT THE LISTED PACKAGE-LEVEL VARIABLES READ AS WHEN THE CALL BEGINS. Each datum BY PROGRAM (the guide's laid-datum.mjs) off the statement by which the dump's own 'gosem.cut.vars' lays the variable. In a bare row this is a premise. The card (YtenfhmlkogpabaaDoorCards.lean) ties it to the program's text. -/
def laid_dactyl_key_named {H : Type} : DataW H := .agg [.agg [.lit (.int .i64 4), .lit (.int .i64 13), .lit (.string [82, 69, 84]), .lit (.string [13])], .agg [.lit (.int .i64 4), .lit (.int .i64 10), .lit (.string [76, 70, 68]), .lit (.string [10])], .agg [.lit (.int .i64 5), .lit (.int .i64 0), .lit (.string [69, 83, 67]), .lit (.string [27])], .agg [.lit (.int .i64 6), .lit (.int .i64 0), .lit (.string [68, 69, 76]), .lit (.string [127])], .agg [.lit (.int .i64 7), .lit (.int .i64 0), .lit (.string [85, 80]), .lit (.string [27, 91, 65])], .agg [.lit (.int .i64 8), .lit (.int .i64 0), .lit (.string [68, 79, 87, 78]), .lit (.string [27, 91, 66])], .agg [.lit (.int .i64 9), .lit (.int .i64 0), .lit (.string [82, 73, 71, 72, 84]), .lit (.string [27, 91, 67])], .agg [.lit (.int .i64 10), .lit (.int .i64 0), .lit (.string [76, 69, 70, 84]), .lit (.string [27, 91, 68])], .agg [.lit (.int .i64 11), .lit (.int .i64 0), .lit (.string [72, 79, 77, 69]), .lit (.string [27, 91, 72])], .agg [.lit (.int .i64 12), .lit (.int .i64 0), .lit (.string [69, 78, 68]), .lit (.string [27, 91, 70])], .agg [.lit (.int .i64 13), .lit (.int .i64 0), .lit (.string [68, 69, 76, 69, 84, 69]), .lit (.string [27, 91, 51, 126])], .agg [.lit (.int .i64 14), .lit (.int .i64 0), .lit (.string [80, 71, 85, 80]), .lit (.string [27, 91, 53, 126])], .agg [.lit (.int .i64 14), .lit (.int .i64 1), .lit (.string [80, 71, 68, 78]), .lit (.string [27, 91, 54, 126])]]
def laid_dactyl_emacs_controls {H : Type} : DataW H := .agg [.agg [.lit (.int .u8 2), .lit (.int .u8 1), .lit (.int .u8 6)], .agg [.lit (.int .u8 2), .lit (.int .u8 2), .lit (.int .u8 2)], .agg [.lit (.int .u8 2), .lit (.int .u8 3), .lit (.int .u8 35)], .agg [.lit (.int .u8 2), .lit (.int .u8 4), .lit (.int .u8 37)], .agg [.lit (.int .u8 2), .lit (.int .u8 5), .lit (.int .u8 7)], .agg [.lit (.int .u8 2), .lit (.int .u8 6), .lit (.int .u8 3)], .agg [.lit (.int .u8 2), .lit (.int .u8 7), .lit (.int .u8 35)], .agg [.lit (.int .u8 2), .lit (.int .u8 8), .lit (.int .u8 9)], .agg [.lit (.int .u8 2), .lit (.int .u8 9), .lit (.int .u8 32)], .agg [.lit (.int .u8 2), .lit (.int .u8 11), .lit (.int .u8 10)], .agg [.lit (.int .u8 2), .lit (.int .u8 12), .lit (.int .u8 36)], .agg [.lit (.int .u8 2), .lit (.int .u8 14), .lit (.int .u8 27)], .agg [.lit (.int .u8 2), .lit (.int .u8 16), .lit (.int .u8 26)], .agg [.lit (.int .u8 2), .lit (.int .u8 17), .lit (.int .u8 34)], .agg [.lit (.int .u8 2), .lit (.int .u8 18), .lit (.int .u8 31)], .agg [.lit (.int .u8 2), .lit (.int .u8 20), .lit (.int .u8 17)], .agg [.lit (.int .u8 2), .lit (.int .u8 21), .lit (.int .u8 11)], .agg [.lit (.int .u8 2), .lit (.int .u8 22), .lit (.int .u8 34)], .agg [.lit (.int .u8 2), .lit (.int .u8 23), .lit (.int .u8 13)], .agg [.lit (.int .u8 2), .lit (.int .u8 25), .lit (.int .u8 15)], .agg [.lit (.int .u8 2), .lit (.int .u8 0), .lit (.int .u8 24)], .agg [.lit (.int .u8 2), .lit (.int .u8 31), .lit (.int .u8 22)]]
def laid_dactyl_emacs_others {H : Type} : DataW H := .agg [.agg [.lit (.int .u8 3), .lit (.int .u8 102), .lit (.int .u8 5)], .agg [.lit (.int .u8 3), .lit (.int .u8 98), .lit (.int .u8 4)], .agg [.lit (.int .u8 3), .lit (.int .u8 100), .lit (.int .u8 12)], .agg [.lit (.int .u8 3), .lit (.int .u8 127), .lit (.int .u8 13)], .agg [.lit (.int .u8 3), .lit (.int .u8 8), .lit (.int .u8 13)], .agg [.lit (.int .u8 3), .lit (.int .u8 121), .lit (.int .u8 16)], .agg [.lit (.int .u8 3), .lit (.int .u8 116), .lit (.int .u8 18)], .agg [.lit (.int .u8 3), .lit (.int .u8 117), .lit (.int .u8 19)], .agg [.lit (.int .u8 3), .lit (.int .u8 108), .lit (.int .u8 20)], .agg [.lit (.int .u8 3), .lit (.int .u8 99), .lit (.int .u8 21)], .agg [.lit (.int .u8 3), .lit (.int .u8 60), .lit (.int .u8 28)], .agg [.lit (.int .u8 3), .lit (.int .u8 62), .lit (.int .u8 29)], .agg [.lit (.int .u8 3), .lit (.int .u8 112), .lit (.int .u8 30)], .agg [.lit (.int .u8 3), .lit (.int .u8 119), .lit (.int .u8 40)], .agg [.lit (.int .u8 3), .lit (.int .u8 107), .lit (.int .u8 41)], .agg [.lit (.int .u8 3), .lit (.int .u8 120), .lit (.int .u8 25)], .agg [.lit (.int .u8 3), .lit (.int .u8 114), .lit (.int .u8 23)], .agg [.lit (.int .u8 3), .lit (.int .u8 97), .lit (.int .u8 14)], .agg [.lit (.int .u8 4), .lit (.int .u8 13), .lit (.int .u8 33)], .agg [.lit (.int .u8 4), .lit (.int .u8 10), .lit (.int .u8 33)], .agg [.lit (.int .u8 5), .lit (.int .u8 0), .lit (.int .u8 35)], .agg [.lit (.int .u8 6), .lit (.int .u8 0), .lit (.int .u8 9)], .agg [.lit (.int .u8 7), .lit (.int .u8 0), .lit (.int .u8 26)], .agg [.lit (.int .u8 8), .lit (.int .u8 0), .lit (.int .u8 27)], .agg [.lit (.int .u8 9), .lit (.int .u8 0), .lit (.int .u8 3)], .agg [.lit (.int .u8 10), .lit (.int .u8 0), .lit (.int .u8 2)], .agg [.lit (.int .u8 11), .lit (.int .u8 0), .lit (.int .u8 6)], .agg [.lit (.int .u8 12), .lit (.int .u8 0), .lit (.int .u8 7)], .agg [.lit (.int .u8 13), .lit (.int .u8 0), .lit (.int .u8 8)], .agg [.lit (.int .u8 14), .lit (.int .u8 0), .lit (.int .u8 28)], .agg [.lit (.int .u8 14), .lit (.int .u8 1), .lit (.int .u8 29)]]
def laid_dactyl_emacs_names {H : Type} : DataW H := .agg [.lit (.string [110, 111, 110, 101]), .lit (.string [115, 101, 108, 102]), .lit (.string [108, 101, 102, 116]), .lit (.string [114, 105, 103, 104, 116]), .lit (.string [119, 111, 114, 100, 45, 108, 101, 102, 116]), .lit (.string [119, 111, 114, 100, 45, 114, 105, 103, 104, 116]), .lit (.string [104, 111, 109, 101]), .lit (.string [101, 110, 100]), .lit (.string [100, 101, 108, 101, 116, 101]), .lit (.string [98, 97, 99, 107]), .lit (.string [107, 105, 108, 108, 45, 101, 110, 100]), .lit (.string [107, 105, 108, 108, 45, 104, 111, 109, 101]), .lit (.string [107, 105, 108, 108, 45, 119, 111, 114, 100]), .lit (.string [107, 105, 108, 108, 45, 98, 97, 99, 107]), .lit (.string [107, 105, 108, 108, 45, 97, 108, 108]), .lit (.string [121, 97, 110, 107]), .lit (.string [112, 111, 112]), .lit (.string [115, 119, 97, 112]), .lit (.string [115, 119, 97, 112, 45, 119, 111, 114, 100, 115]), .lit (.string [117, 112, 112, 101, 114]), .lit (.string [108, 111, 119, 101, 114]), .lit (.string [99, 97, 112]), .lit (.string [117, 110, 100, 111]), .lit (.string [114, 101, 100, 111]), .lit (.string [109, 97, 114, 107]), .lit (.string [101, 120, 99, 104, 97, 110, 103, 101]), .lit (.string [117, 112]), .lit (.string [100, 111, 119, 110]), .lit (.string [102, 105, 114, 115, 116]), .lit (.string [108, 97, 115, 116]), .lit (.string [112, 114, 101, 102, 105, 120]), .lit (.string [115, 101, 101, 107]), .lit (.string [99, 111, 109, 112, 108, 101, 116, 101]), .lit (.string [101, 110, 116, 101, 114]), .lit (.string [113, 117, 111, 116, 101]), .lit (.string [99, 97, 110, 99, 101, 108]), .lit (.string [101, 114, 97, 115, 101]), .lit (.string [101, 111, 102]), .lit (.string [112, 97, 115, 116, 101]), .lit (.string [101, 115, 99]), .lit (.string [99, 111, 112, 121]), .lit (.string [107, 105, 108, 108, 45, 109, 97, 114, 107])]

/-- 'dactyllaw27.EmacsNames': WHATEVER THE INPUT: true; the input reads as it did. -/
def emacsNamesSpec : ChangeSpec := { name := "emacsNames", fn := fun _ => fun
  | [d1, d2] => { results := [.lit (.bool true)], args := [d1, d2] }
  | _ => none }
def emacsNamesRow : OpenClaim := { program := "ytenfhmlkogpabaadoor", sum := "90813c4f841955b065aa8de800cd5d1383e52837698b10ebeb2f58af1cea2e2e", func := "dactyl/dactyllaw27.EmacsNames", spec := "emacsNames", unfollowed := true, recurses := true, named := ["dactyl/emacs.names", "dactyl/emacs.controls", "dactyl/emacs.others", "dactyl/key.named"], apart := false, laid := [("dactyl/key.named", laid_dactyl_key_named), ("dactyl/emacs.controls", laid_dactyl_emacs_controls), ("dactyl/emacs.others", laid_dactyl_emacs_others), ("dactyl/emacs.names", laid_dactyl_emacs_names)] }
def EmacsNamesSaid : Prop := emacsNamesRow.holds Tryd.pinned (OpenSpec.ofChange emacsNamesSpec)

/-- ITS FALSE NEIGHBOUR: 'it returns false'. Refute it at one input. -/
def emacsNamesWrong : ChangeSpec := { name := "emacsNames", fn := fun _ => fun
  | [d1, d2] => { results := [.lit (.bool false)], args := [d1, d2] }
  | _ => none }
def EmacsNamesWrongFalsely : Prop := emacsNamesRow.holds Tryd.pinned (OpenSpec.ofChange emacsNamesWrong)

/- THE SECOND FORM. 'bulk': how many values and letters a reading holds, each counted each time it is reached (what is shared counts as often as it is met; a slice's spare places count too). A statement '..UptoSaid' is the law's where the arguments, and the package variables that the reading takes, are together of bulk at most 1048576: NARROWER than '..Said'. Prove '..Said' where nothing that the law and all that it calls make is longer than what came in: it says more and counts as full. Else prove '..UptoSaid'. A law counts once. -/
mutual
def uptoBulk {H : Type} : DataW H → Nat
  | .lit (.string bytes) => bytes.length + 1
  | .lit _ => 1
  | .nil => 1
  | .ptr d => uptoBulk d + 1
  | .slice elems spare => uptoBulkAll elems + uptoBulkAll spare + 1
  | .agg parts => uptoBulkAll parts + 1
  | .iface _ d => uptoBulk d + 1
  | .map entries => uptoBulkEntries entries + 1
  | .held _ => 1
def uptoBulkAll {H : Type} : List (DataW H) → Nat
  | [] => 0
  | d :: r => uptoBulk d + uptoBulkAll r
def uptoBulkEntries {H : Type} : List (Lit × DataW H) → Nat
  | [] => 0
  | x :: r => uptoBulkEntry x + uptoBulkEntries r
def uptoBulkEntry {H : Type} : Lit × DataW H → Nat
  | (.string bytes, d) => bytes.length + uptoBulk d + 1
  | (_, d) => uptoBulk d + 1
 end
def uptoSmall : (H : Type) → List (DataW H) → Bool := fun _ ds => decide (uptoBulkAll ds ≤ 1048576)
def OpenSpec.upto (s : _root_.Go.ChangeSpec) : _root_.Go.OpenSpec := { _root_.Go.OpenSpec.ofChange s with cond := some uptoSmall }

/-- 'dactyllaw27.EmacsNames', WHERE WHAT IT READS IS OF BULK AT MOST 1048576: true; the input reads as it did. -/
def emacsNamesUptoRow : OpenClaim := { program := "ytenfhmlkogpabaadoor", sum := "90813c4f841955b065aa8de800cd5d1383e52837698b10ebeb2f58af1cea2e2e", func := "dactyl/dactyllaw27.EmacsNames", spec := "emacsNames", unfollowed := true, recurses := true, named := ["dactyl/emacs.names", "dactyl/emacs.controls", "dactyl/emacs.others", "dactyl/key.named"], apart := false, laid := [("dactyl/key.named", laid_dactyl_key_named), ("dactyl/emacs.controls", laid_dactyl_emacs_controls), ("dactyl/emacs.others", laid_dactyl_emacs_others), ("dactyl/emacs.names", laid_dactyl_emacs_names)], narrowed := true }
def EmacsNamesUptoSaid : Prop := emacsNamesUptoRow.holds Tryd.pinned (OpenSpec.upto emacsNamesSpec)

end Rows
end Go.Proofs.YtenfhmlkogpabaaDoor
