/-
  DERIVED. GIVEN WITH THE SEED: THE PROGRAM's TIES (one call each: nine closed facts by the kernel) AND EACH ROW's TIE, after the 31st guide's Derived/Test/Toyas{Tie, Card}.lean. No idea stands in it: it is a product of the set-up. Laid BY PROGRAM, IN A SANDBOX (cutbox-door.mjs). By AI agents, Wed Nov 11 2026. No macro, syntax, notation, axiom, sorry.
-/
import Derived.Test.YtenfhmlkogpabaaDoorRows
import Derived.LaidByTextLater
import Derived.SevenTiedAt
import Derived.LaidSub
import Derived.LaidOnce
namespace Go.Proofs.YtenfhmlkogpabaaDoor
open Go
set_option maxRecDepth 100000
theorem seatTie1 : Tryd.prog.laidByTextLater [("dactyl/key.named", Rows.laid_dactyl_key_named), ("dactyl/emacs.controls", Rows.laid_dactyl_emacs_controls), ("dactyl/emacs.others", Rows.laid_dactyl_emacs_others), ("dactyl/emacs.names", Rows.laid_dactyl_emacs_names)] [.data, .data, .data, .data] true :=
  Program.laidByTextLater_by_one 95 8 94 (by kernel_rfl) (by kernel_rfl) (by kernel_rfl) (by kernel_rfl) (by kernel_rfl) (by kernel_rfl) (fun _ _ => by kernel_rfl)
theorem noOwnUnsafe : Tryd.pinned.checked.prog.headLifts.contains "ownunsafe" = false := by kernel_rfl
theorem tie : Tryd.prog.laidByTextLater [("dactyl/key.named", Rows.laid_dactyl_key_named), ("dactyl/emacs.controls", Rows.laid_dactyl_emacs_controls), ("dactyl/emacs.others", Rows.laid_dactyl_emacs_others), ("dactyl/emacs.names", Rows.laid_dactyl_emacs_names)] [.data, .data, .data, .data] true :=
  Program.laidByTextLater.sub seatTie1 ["dactyl/key.named", "dactyl/emacs.controls", "dactyl/emacs.others", "dactyl/emacs.names"] (by kernel_rfl) (by kernel_rfl)
theorem emacsNames_row_tie : Rows.emacsNamesRow.laidByTextAt .later Tryd.pinned [.data, .data, .data, .data] true :=
  OpenClaim.laidByTextAt_later rfl rfl tie noOwnUnsafe
theorem emacsNamesUpto_row_tie : Rows.emacsNamesUptoRow.laidByTextAt .later Tryd.pinned [.data, .data, .data, .data] true :=
  OpenClaim.laidByTextAt_later rfl rfl tie noOwnUnsafe
end Go.Proofs.YtenfhmlkogpabaaDoor
