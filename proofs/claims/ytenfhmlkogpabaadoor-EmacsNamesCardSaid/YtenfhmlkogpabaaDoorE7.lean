/- The card of EmacsNames: for every number and every text the law answers true; the four tables are tied to the program's text. -/
import Derived.Test.YtenfhmlkogpabaaDoorCards
import Derived.Test.YtenfhmlkogpabaaDoorTie
import Derived.Test.YtenfhmlkogpabaaDoorE6
import Derived.Test.YtenfhmlkogpabaaDoorLaw
import Derived.ChangeMaps5
import Derived.WalkKit
import Derived.ProofKit
import Derived.OpenShut
import Derived.Deep.DeepHandedRow
import Derived.Lib.LaidTab
namespace Go.Proofs.YtenfhmlkogpabaaDoor
open Go.ChangeShapes Go.WideShapes Go.ChangeAt Go.RowKit
theorem own : ownKnob Tryd.prog.godebug = none := by kernel_rfl
theorem gKey : Tryd.prog.globalNamed "dactyl/key.named" = some 3 := by kernel_rfl
theorem gKeyType : (Tryd.prog.globals[3]?).map (·.type) = some 51 := by kernel_rfl
theorem cellsKey : Tryd.prog.cellsOf 45 = 4 := by kernel_rfl
theorem gCtl : Tryd.prog.globalNamed "dactyl/emacs.controls" = some 1 := by kernel_rfl
theorem gCtlType : (Tryd.prog.globals[1]?).map (·.type) = some 40 := by kernel_rfl
theorem gOth : Tryd.prog.globalNamed "dactyl/emacs.others" = some 2 := by kernel_rfl
theorem gOthType : (Tryd.prog.globals[2]?).map (·.type) = some 41 := by kernel_rfl
theorem gNames : Tryd.prog.globalNamed "dactyl/emacs.names" = some 0 := by kernel_rfl
theorem gNamesType : (Tryd.prog.globals[0]?).map (·.type) = some 34 := by kernel_rfl
theorem cells39 : Tryd.prog.cellsOf 39 = 3 := by kernel_rfl
theorem cells9 : Tryd.prog.cellsOf 9 = 1 := by kernel_rfl
theorem cells40 : Tryd.prog.cellsOf 40 = 66 := by kernel_rfl
theorem cells41 : Tryd.prog.cellsOf 41 = 93 := by kernel_rfl
theorem cells34 : Tryd.prog.cellsOf 34 = 42 := by kernel_rfl
def keyData : List (List (DataW Unit)) := keyRows.map fun r => [.lit (.int .i64 r.1), .lit (.int .i64 r.2.1), .lit (.string r.2.2.1), .lit (.string r.2.2.2)]
theorem keyData_at (i : Nat) (h : i < 13) : keyData[i]? = some [.lit (.int .i64 (kK i)), .lit (.int .i64 (kV i)), .lit (.string (keyRows.getD i default).2.2.1), .lit (.string (keyRows.getD i default).2.2.2)] := by
  have hl : keyRows.length = 13 := by decide
  unfold keyData kK kV
  rw [List.getElem?_map, List.getElem?_eq_getElem (by omega)]
  simp [List.getD, List.getElem?_eq_getElem (show i < keyRows.length by omega)]
def rowData (l : List (Nat × Nat × Nat)) : List (List (DataW Unit)) := l.map fun r => [.lit (.int .u8 r.1), .lit (.int .u8 r.2.1), .lit (.int .u8 r.2.2)]
theorem rowData_at (l : List (Nat × Nat × Nat)) (i : Nat) (h : i < l.length) : (rowData l)[i]? = some [.lit (.int .u8 (rK l i)), .lit (.int .u8 (rV l i)), .lit (.int .u8 (rC l i))] := by
  unfold rowData rK rV rC
  rw [List.getElem?_map, List.getElem?_eq_getElem h]
  simp [List.getD, h]
def nameData : List (DataW Unit) := names.map fun r => .lit (.string r)
theorem rows_of {W : World} {name : String} {g t : Nat} {l : List (Nat × Nat × Nat)} {n : Nat} {rest : List (String × DataW Unit)} (hg : Tryd.prog.globalNamed name = some g) (hty : (Tryd.prog.globals[g]?).map (·.type) = some t)
    (ht : Tryd.prog.underlying t = some (.array n 39)) (hct : Tryd.prog.cellsOf t = l.length * 3) (h : laidMet Tryd.prog ((name, .agg ((rowData l).map .agg)) :: rest) W) : RowTab W g l := by
  obtain ⟨cs, t', fr, hh, hsz⟩ := laid_block hg hty ht h
  have hc := table_cells hg hty ht Tryd.underlying39 cells39 rfl (by kernel_rfl) h
  refine ⟨cs, t', fr, hh, by rw [hsz, hct], fun i hi => ?_⟩
  have h0 := hc i _ (rowData_at l i hi) 0 _ rfl
  have h1 := hc i _ (rowData_at l i hi) 1 _ rfl
  have h2 := hc i _ (rowData_at l i hi) 2 _ rfl
  rw [cell_of_row W g _ cs t' fr hh] at h0 h1 h2
  exact ⟨h0, h1, h2⟩
theorem tabs_of {W : World} (h : laidMet Tryd.prog [("dactyl/key.named", .agg (keyData.map .agg)), ("dactyl/emacs.controls", .agg ((rowData ctl).map .agg)), ("dactyl/emacs.others", .agg ((rowData oth).map .agg)), ("dactyl/emacs.names", .agg nameData)] W) : EmTabs W := by
  have hc := table_cells gKey gKeyType Tryd.underlying51 Tryd.underlying45 cellsKey rfl (by kernel_rfl) h
  have h4 : ∀ i, i < 13 → W.cell? ⟨3, i * 4, none⟩ = some (.int .i64 (kK i)) ∧ W.cell? ⟨3, i * 4 + 1, none⟩ = some (.int .i64 (kV i)) ∧ W.cell? ⟨3, i * 4 + 2, none⟩ = some (.string (kN i)) ∧ W.cell? ⟨3, i * 4 + 3, none⟩ = some (.string (kB i)) := fun i hi =>
    ⟨hc i _ (keyData_at i hi) 0 _ rfl, hc i _ (keyData_at i hi) 1 _ rfl, hc i _ (keyData_at i hi) 2 _ rfl, hc i _ (keyData_at i hi) 3 _ rfl⟩
  have l1 := laid_tail h
  have l2 := laid_tail l1
  have l3 := laid_tail l2
  refine ⟨⟨World.block_lt_of_cell? (a := ⟨3, 0, none⟩) W (h4 0 (by omega)).1, h4⟩, rows_of gCtl gCtlType Tryd.underlying40 (by rw [cells40, ctl_len]) l1, rows_of gOth gOthType Tryd.underlying41 (by rw [cells41, oth_len]) l2, ?_⟩
  obtain ⟨cs, t', fr, hh, hsz⟩ := laid_block gNames gNamesType Tryd.underlying34 l3
  have hp := table_plain gNames gNamesType Tryd.underlying34 cells9 (by kernel_rfl) l3
  refine ⟨cs, t', fr, hh, by rw [hsz, cells34], fun i hi => ?_⟩
  have hi' : i < names.length := by rw [names_len]; exact hi
  have := hp i (.lit (.string (names.getD i []))) (by simp [nameData, List.getD, hi'])
  rw [cell_of_row W 0 i cs t' fr hh] at this
  exact this
def keyCells : Array Value := (keyRows.flatMap fun r => [.int .i64 r.1, .int .i64 r.2.1, .string ⟨r.2.2.1.toArray⟩, .string ⟨r.2.2.2.toArray⟩]).toArray
def rowCells (l : List (Nat × Nat × Nat)) : Array Value := (l.flatMap fun r => [.int .u8 r.1, .int .u8 r.2.1, .int .u8 r.2.2]).toArray
def nameCells : Array Value := (names.map fun r => Value.string ⟨r.toArray⟩).toArray
def putCells (cs : Array Value) : Obj → Obj
  | .cells _ t frozen => .cells cs t frozen
  | o => o
/-- A WORLD FOR THE WITNESS. -/
noncomputable def laidWorld (os : Os) : World :=
  { World.holding Tryd.prog os ⟨#[], #[], []⟩ with heap := ((((World.holding Tryd.prog os ⟨#[], #[], []⟩).heap.modify 3 (putCells keyCells)).modify 1 (putCells (rowCells ctl))).modify 2 (putCells (rowCells oth))).modify 0 (putCells nameCells) }
theorem laidOut : laidOutB Tryd.prog = true := by kernel_rfl
namespace emacsNames
theorem params_ok : ∀ t ∈ Tryd.f3.params.toList, Tryd.prog.readableRec t = true ∧ t < Tryd.prog.types.size := by
  intro t ht
  rw [Tryd.params3] at ht
  obtain rfl | rfl : t = 3 ∨ t = 9 := by simpa using ht
  · exact ⟨by kernel_rfl, of_decide_eq_true (by kernel_rfl)⟩
  · exact ⟨by kernel_rfl, of_decide_eq_true (by kernel_rfl)⟩
theorem contract (H : Type) (enc : TypeId × Value → H) (W : World) (base : Nat) (args : Array Value) (ds gs : List (DataW H)) (before : List MemPlace)
    (hval : ∀ (j : Nat) t v, Tryd.f3.params[j]? = some t → args[j]? = some v → Value.okWide Tryd.prog W .any base t v)
    (hW : DataW.Whole enc Tryd.prog Tryd.f3.params.toList Rows.emacsNamesSpec.vars false W args.toList ds gs before) (hL : laidMetH Tryd.prog Rows.emacsNamesRow.laid W) :
    Calls Tryd.prog 3 args W fun e W' => ∃ v, e = .returned v ∧ Rows.emacsNamesSpec.post enc Tryd.prog Tryd.f3 false true false false W args v W' := by
  have hW' := hW
  obtain ⟨p, q, hA0, hV, rfl, hfz, hnd⟩ := hW
  have hA : DataW.TrodAll enc Tryd.prog W 0 (fun _ => true) true Tryd.f3.params.toList args.toList ds p := hA0
  rw [Tryd.params3] at hA hval
  obtain ⟨v0, vs0, d0, ds0, p0, q0, hargs, rfl, rfl, h0, r0⟩ := trodAll_cons hA
  obtain ⟨v1, vs1, d1, ds1, p1, q1, rfl, rfl, rfl, h1, r1⟩ := trodAll_cons r0
  obtain ⟨rfl, rfl, rfl⟩ := trodAll_nil r1
  obtain rfl : args = #[v0, v1] := by cases args; simp_all
  obtain ⟨n, rfl, rfl, rfl, wn⟩ := open_int Tryd.underlying3 (hval 0 3 v0 rfl rfl) h0
  obtain ⟨s, rfl, rfl, rfl, hs⟩ := Go.ChangeMaps.open_string Tryd.underlying9 (hval 1 9 v1 rfl rfl) h1
  unfold maxLen at hs
  refine (emacsNames_any n s (by omega) W (tabs_of hL)).mono fun e W' ⟨he, hg⟩ => ?_
  subst he
  exact ⟨_, rfl, law_post laidOut params_ok rfl hW' hg (by kernel_rfl) Tryd.underlying4 ⟨rfl, rfl, rfl⟩⟩
theorem laid_met (os : Os) : laidMet Tryd.prog Rows.emacsNamesRow.laid ((laidWorld os).forCall (fun _ _ => 0) ⟨#[], #[.int .i64 0, .string ⟨#[]⟩], []⟩).memory :=
  laidMet_of_run' 8 (by kernel_rfl) (by kernel_rfl)
theorem reads (os : Os) {H : Type} (enc : TypeId × Value → H) : ∃ places, DataW.whole enc Tryd.prog ((laidWorld os).forCall (fun _ _ => 0) ⟨#[], #[.int .i64 0, .string ⟨#[]⟩], []⟩).memory Tryd.f3.params.toList Rows.emacsNamesSpec.vars false #[Value.int .i64 0, Value.string ⟨#[]⟩].toList 8 = some ([.lit (.int .i64 0), .lit (.string [])], [], places) :=
  ⟨[], by kernel_rfl⟩
set_option maxRecDepth 100000 in
theorem lifted (os : Os) (started : os.Started) (H : Type) (enc : TypeId × Value → H) (F : Stop.Interp) :
    ReturnsInHanded {} Tryd.checked os 3 .any ((OpenSpec.ofChange Rows.emacsNamesSpec).preRow enc Tryd.prog Tryd.f3 Rows.emacsNamesRow.domain false Rows.emacsNamesRow.laid) (((OpenSpec.ofChange Rows.emacsNamesSpec).at F).post enc Tryd.prog Tryd.f3 false true false false) := by
  obtain ⟨places, hx⟩ := reads os enc
  refine returnsInHanded_of_row (C := Tryd.checked) (s := OpenSpec.ofChange Rows.emacsNamesSpec) own started (by kernel_rfl) Tryd.func3
    (witness_row_at (enc := enc) (C := Tryd.checked) false (laidWorld os) #[.int .i64 0, .string ⟨#[]⟩] rfl (by kernel_rfl) (by kernel_rfl) (by kernel_rfl)
      (OpenSpec.preRow_of_cond 8 hx (by kernel_rfl) (fun k hk => by cases hk) (by kernel_rfl) (laid_met os))) ?_
  intro W base args ds gs before hval hW _ _ _ hL _ _
  exact contract H enc W base args ds gs before hval hW hL
theorem said : Rows.EmacsNamesSaid :=
  OpenClaim.holds_of_cond 3 Tryd.f3 rfl rfl rfl rfl rfl rfl rfl ⟨rfl, rfl, rfl, rfl, rfl⟩ rfl rfl rfl rfl rfl (by kernel_rfl) Tryd.func3 (by kernel_rfl)
    (of_decide_eq_true (by kernel_rfl)) (by unfold Func.isWrapper; first | (rw [if_pos (by decide +kernel)]; kernel_rfl) | (rw [if_neg (by decide +kernel)]; exact ⟨rfl, rfl⟩))
    (fun os started H enc _ F => by rw [OpenClaim.pre_eq_preRow]; exact lifted os started H enc F)
theorem plain (f : FuncId) (fn : Func) (hf : Tryd.pinned.checked.prog.funcNamed "dactyl/dactyllaw27.EmacsNames" = some f) (hfn : Tryd.pinned.checked.prog.funcs[f]? = some fn) :
    false = Tryd.pinned.checked.prog.looks [] ∧ ∀ (j : Nat) t, fn.params[j]? = some t → Tryd.pinned.checked.prog.wantsStandIn t = false := by
  obtain rfl : f = 3 := Option.some.inj ((show Tryd.prog.funcNamed "dactyl/dactyllaw27.EmacsNames" = some 3 by kernel_rfl).symm.trans hf) |>.symm
  obtain rfl : fn = Tryd.f3 := (Option.some.inj (Tryd.func3.symm.trans hfn)).symm
  refine ⟨by kernel_rfl, fun j t ht => ?_⟩
  rw [Tryd.params3] at ht
  obtain rfl | rfl : t = 3 ∨ t = 9 := by simpa using Array.mem_of_getElem? ht
  · exact (show Tryd.prog.wantsStandIn 3 = false by kernel_rfl)
  · exact (show Tryd.prog.wantsStandIn 9 = false by kernel_rfl)
theorem card : Rows.EmacsNamesCardSaid :=
  Claim7.holds_tied_plain_at .later [] _ _ _ _ said (fun _ h => by cases h) (by kernel_rfl) (fun _ h => by cases h) emacsNames_row_tie rfl ⟨rfl, rfl⟩ (by kernel_rfl) rfl plain (by kernel_rfl)
#print axioms card
end emacsNames
end Go.Proofs.YtenfhmlkogpabaaDoor
