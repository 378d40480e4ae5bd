/- The two tables of unicode/utf8, out of what the rows say of them; a world for the witness. -/
import Derived.Test.YtipekkddhelhmaaDoorCards
import Derived.Test.YtipekkddhelhmaaDoorTie
import Derived.Test.YtipekkddhelhmaaDoorU19
import Derived.Test.YtipekkddhelhmaaDoorTab
import Derived.Test.YtipekkddhelhmaaDoorLaw
import Derived.ChangeMaps5
import Derived.WalkKit
import Derived.ProofKit
import Derived.OpenShut
import Derived.Deep.DeepHandedRow
import Derived.Lib.LaidTab
namespace Go.Proofs.YtipekkddhelhmaaDoor
open Go.ChangeShapes Go.WideShapes Go.ChangeAt Go.RowKit

theorem own : ownKnob Tryd.prog.godebug = none := by kernel_rfl
theorem gFirst : Tryd.prog.globalNamed "unicode/utf8.first" = some 0 := by kernel_rfl
theorem gFirstType : (Tryd.prog.globals[0]?).map (·.type) = some 42 := by kernel_rfl
theorem gAcc : Tryd.prog.globalNamed "unicode/utf8.acceptRanges" = some 1 := by kernel_rfl
theorem gAccType : (Tryd.prog.globals[1]?).map (·.type) = some 45 := by kernel_rfl
theorem cells44 : Tryd.prog.cellsOf 44 = 2 := by kernel_rfl
theorem cells5 : Tryd.prog.cellsOf 5 = 1 := by kernel_rfl
def accRows : List (Nat × Nat) := [(128, 191), (160, 191), (128, 159), (144, 191), (128, 143)] ++ List.replicate 11 (0, 0)
def accData : List (List (DataW Unit)) := accRows.map fun r => [.lit (.int .u8 r.1), .lit (.int .u8 r.2)]
theorem acc_at (i : Nat) (h : i < 5) : accData[i]? = some [.lit (.int .u8 (lowN i)), .lit (.int .u8 (highN i))] := by
  match i, h with
  | 0, _ => rfl
  | 1, _ => rfl
  | 2, _ => rfl
  | 3, _ => rfl
  | 4, _ => rfl
theorem firstZ : ((List.range 256).all fun i => Go.Pinned.utf8FirstZ[i]? == some (firstN i)) = true := by decide +kernel
theorem laid_tail {P : Program} {W : World} {x : String × DataW Unit} {rest : List (String × DataW Unit)} (h : laidMet P (x :: rest) W) : laidMet P rest W := by
  obtain ⟨ps, ⟨g', t', cs, fuel, p, q, hg', ht', hvar, hd, hrest, hps⟩, hnod, hcell⟩ := h
  subst hps
  exact ⟨q, hrest, (List.nodup_append.1 hnod).2.1, fun b off hm => hcell b off (by simp [hm])⟩
theorem tabs_of {W : World} (h : laidMet Tryd.prog [("unicode/utf8.acceptRanges", .agg (accData.map .agg)), ("unicode/utf8.first", Go.Pinned.utf8First)] W) : UtfTabs W := by
  have hc := table_cells gAcc gAccType Tryd.underlying45 Tryd.underlying44 cells44 rfl (by kernel_rfl) h
  have h2 := laid_tail h
  have hp := table_plain (rows := Go.Pinned.numbers .u8 Go.Pinned.utf8FirstZ) gFirst gFirstType Tryd.underlying42 cells5 (by kernel_rfl) h2
  have h5 : ∀ i, i < 5 → W.cell? ⟨1, i * 2, none⟩ = some (.int .u8 (lowN i)) ∧ W.cell? ⟨1, i * 2 + 1, none⟩ = some (.int .u8 (highN i)) := fun i hi =>
    ⟨hc i _ (acc_at i hi) 0 _ rfl, hc i _ (acc_at i hi) 1 _ rfl⟩
  refine ⟨World.block_lt_of_cell? (a := ⟨1, 0, none⟩) W (h5 0 (by omega)).1, fun i hi => ?_, h5⟩
  have := List.all_eq_true.1 firstZ i (by simpa using hi)
  rw [beq_iff_eq] at this
  exact hp i (.lit (.int .u8 (firstN i))) (by simp [Go.Pinned.numbers, this])
def accCells : Array Value := (accRows.flatMap fun r => [.int .u8 r.1, .int .u8 r.2]).toArray
def firstCells : Array Value := (Go.Pinned.utf8FirstZ.map fun (n : Nat) => Value.int .u8 n).toArray
def putCells (cs : Array Value) : Obj → Obj
  | .cells _ t frozen => .cells cs t frozen
  | o => o
/-- A WORLD FOR THE WITNESS. -/
noncomputable def laidWorld (os : Os) : World :=
  { World.holding Tryd.prog os ⟨#[], #[], []⟩ with heap := ((World.holding Tryd.prog os ⟨#[], #[], []⟩).heap.modify 0 (putCells firstCells)).modify 1 (putCells accCells) }
theorem laidOut : laidOutB Tryd.prog = true := by kernel_rfl
end Go.Proofs.YtipekkddhelhmaaDoor
