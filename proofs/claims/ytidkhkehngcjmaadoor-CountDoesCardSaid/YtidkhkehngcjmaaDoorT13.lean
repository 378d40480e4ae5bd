/- The card of CountTells: for every uint16 the law answers true; the key table is tied to the program text. -/
import Derived.Test.YtidkhkehngcjmaaDoorCards
import Derived.Test.YtidkhkehngcjmaaDoorTie
import Derived.Test.YtidkhkehngcjmaaDoorT12
import Derived.Test.YtidkhkehngcjmaaDoorLaw
import Derived.WalkKit
import Derived.ProofKit
import Derived.OpenShut
import Derived.Deep.DeepHandedRow
import Derived.Lib.LaidTab
namespace Go.Proofs.YtidkhkehngcjmaaDoor
open Go.ChangeShapes Go.WideShapes Go.ChangeAt Go.RowKit

theorem own : ownKnob Tryd.prog.godebug = none := by kernel_rfl
theorem gTab : Tryd.prog.globalNamed "dactyl/key.named" = some 0 := by kernel_rfl
theorem gTabType : (Tryd.prog.globals[0]?).map (·.type) = some 56 := by kernel_rfl
theorem cells50 : Tryd.prog.cellsOf 50 = 4 := by kernel_rfl
def keyData : List (List (DataW Unit)) := keyRows.map fun r => [.lit (.int .i64 r.1), .lit (.int .i64 r.2.1), .lit (.string r.2.2.1), .lit (.string r.2.2.2)]
theorem keyData_at (i : Nat) (h : i < 13) : keyData[i]? = some [.lit (.int .i64 (kK i)), .lit (.int .i64 (kV i)), .lit (.string (keyRows.getD i default).2.2.1), .lit (.string (keyRows.getD i default).2.2.2)] := by
  have hl : keyRows.length = 13 := by decide
  unfold keyData kK kV
  rw [List.getElem?_map, List.getElem?_eq_getElem (by omega)]
  simp [List.getD, List.getElem?_eq_getElem (show i < keyRows.length by omega)]
theorem keyTab_of {W : World} {rest : List (String × DataW Unit)} (h : laidMet Tryd.prog (("dactyl/key.named", .agg (keyData.map .agg)) :: rest) W) : KeyTab W := by
  have hc := table_cells gTab gTabType Tryd.underlying56 Tryd.underlying50 cells50 rfl (by kernel_rfl) h
  have h4 : ∀ i, i < 13 → W.cell? ⟨0, i * 4, none⟩ = some (.int .i64 (kK i)) ∧ W.cell? ⟨0, i * 4 + 1, none⟩ = some (.int .i64 (kV i)) ∧ W.cell? ⟨0, i * 4 + 2, none⟩ = some (.string (kN i)) ∧ W.cell? ⟨0, i * 4 + 3, none⟩ = some (.string (kB i)) := fun i hi =>
    ⟨hc i _ (keyData_at i hi) 0 _ rfl, hc i _ (keyData_at i hi) 1 _ rfl, hc i _ (keyData_at i hi) 2 _ rfl, hc i _ (keyData_at i hi) 3 _ rfl⟩
  exact ⟨World.block_lt_of_cell? (a := ⟨0, 0, none⟩) W (h4 0 (by omega)).1, h4⟩
def keyCells : Array Value := (keyRows.flatMap fun r => [.int .i64 r.1, .int .i64 r.2.1, .string ⟨r.2.2.1.toArray⟩, .string ⟨r.2.2.2.toArray⟩]).toArray
/-- A WORLD FOR THE WITNESS. -/
noncomputable def laidWorld (os : Os) : World :=
  { World.holding Tryd.prog os ⟨#[], #[], []⟩ with heap := (World.holding Tryd.prog os ⟨#[], #[], []⟩).heap.modify 0 fun
      | .cells _ t frozen => .cells keyCells t frozen
      | o => o }

theorem laidOut : laidOutB Tryd.prog = true := by kernel_rfl
namespace tells
theorem params_ok4 : ∀ t ∈ Tryd.f4.params.toList, Tryd.prog.readableRec t = true ∧ t < Tryd.prog.types.size := by
  intro t ht
  rw [Tryd.params4] at ht
  obtain rfl : t = 37 := by simpa using ht
  exact ⟨by kernel_rfl, of_decide_eq_true (by kernel_rfl)⟩
theorem contract (H : Type) (enc : TypeId × Value → H) (W : World) (base : Nat) (args : Array Value) (ds gs : List (DataW H)) (before : List MemPlace)
    (hval : ∀ (j : Nat) t v, Tryd.f4.params[j]? = some t → args[j]? = some v → Value.okWide Tryd.prog W .any base t v)
    (hW : DataW.Whole enc Tryd.prog Tryd.f4.params.toList Rows.countTellsSpec.vars false W args.toList ds gs before) (hL : laidMetH Tryd.prog Rows.countTellsRow.laid W) :
    Calls Tryd.prog 4 args W fun e W' => ∃ v, e = .returned v ∧ Rows.countTellsSpec.post enc Tryd.prog Tryd.f4 false true false false W args v W' := by
  have hW' := hW
  obtain ⟨p, q, hA0, hV, rfl, hfz, hnd⟩ := hW
  have hA : DataW.TrodAll enc Tryd.prog W 0 (fun _ => true) true Tryd.f4.params.toList args.toList ds p := hA0
  rw [Tryd.params4] at hA hval
  obtain ⟨v0, vs0, d0, ds0, p0, q0, hargs, rfl, rfl, h0, r0⟩ := trodAll_cons hA
  obtain ⟨rfl, rfl, rfl⟩ := trodAll_nil r0
  obtain rfl : args = #[v0] := by cases args; simp_all
  obtain ⟨rfl, rfl⟩ := trodVars_none hV
  obtain ⟨n, rfl, rfl, rfl, wn⟩ := open_int Tryd.underlying37 (hval 0 37 v0 rfl rfl) h0
  clear hA0
  simp only [List.append_nil] at hW'
  have hb := wn
  simp only [Lit.wf, Bool.and_eq_true, decide_eq_true_eq] at hb
  refine (tells_any n hb.1 hb.2 W (keyTab_of (rest := []) hL)).mono fun e W' ⟨he, hg⟩ => ?_
  subst he
  exact ⟨_, rfl, law_post laidOut params_ok4 rfl hW' hg (by kernel_rfl) Tryd.underlying4 ⟨rfl, rfl, rfl⟩⟩
theorem laid_met (os : Os) : laidMet Tryd.prog Rows.countTellsRow.laid ((laidWorld os).forCall (fun _ _ => 0) ⟨#[], #[.int .u16 0], []⟩).memory :=
  laidMet_of_run' 8 (by kernel_rfl) (by kernel_rfl)
theorem reads (os : Os) {H : Type} (enc : TypeId × Value → H) : ∃ places, DataW.whole enc Tryd.prog ((laidWorld os).forCall (fun _ _ => 0) ⟨#[], #[.int .u16 0], []⟩).memory Tryd.f4.params.toList Rows.countTellsSpec.vars false #[Value.int .u16 0].toList 8 = some ([.lit (.int .u16 0)], [], places) :=
  ⟨[], by kernel_rfl⟩
set_option maxRecDepth 100000 in
theorem lifted (os : Os) (started : os.Started) (H : Type) (enc : TypeId × Value → H) (F : Stop.Interp) :
    ReturnsInHanded {} Tryd.checked os 4 .any ((OpenSpec.ofChange Rows.countTellsSpec).preRow enc Tryd.prog Tryd.f4 Rows.countTellsRow.domain false Rows.countTellsRow.laid) (((OpenSpec.ofChange Rows.countTellsSpec).at F).post enc Tryd.prog Tryd.f4 false true false false) := by
  obtain ⟨places, hx⟩ := reads os enc
  refine returnsInHanded_of_row (C := Tryd.checked) (s := OpenSpec.ofChange Rows.countTellsSpec) own started (by kernel_rfl) Tryd.func4
    (witness_row_at (enc := enc) (C := Tryd.checked) false (laidWorld os) #[.int .u16 0] rfl (by kernel_rfl) (by kernel_rfl) (by kernel_rfl)
      (OpenSpec.preRow_of_cond 8 hx (by kernel_rfl) (fun k hk => by cases hk) (by kernel_rfl) (laid_met os))) ?_
  intro W base args ds gs before hval hW _ _ _ hL _ _
  exact contract H enc W base args ds gs before hval hW hL
theorem said : Rows.CountTellsSaid :=
  OpenClaim.holds_of_cond 4 Tryd.f4 rfl rfl rfl rfl rfl rfl rfl ⟨rfl, rfl, rfl, rfl, rfl⟩ rfl rfl rfl rfl rfl (by kernel_rfl) Tryd.func4 (by kernel_rfl)
    (of_decide_eq_true (by kernel_rfl)) (by unfold Func.isWrapper; first | (rw [if_pos (by decide +kernel)]; kernel_rfl) | (rw [if_neg (by decide +kernel)]; exact ⟨rfl, rfl⟩))
    (fun os started H enc _ F => by rw [OpenClaim.pre_eq_preRow]; exact lifted os started H enc F)
theorem plain (f : FuncId) (fn : Func) (hf : Tryd.pinned.checked.prog.funcNamed "dactyl/dactyllaw29.CountTells" = some f) (hfn : Tryd.pinned.checked.prog.funcs[f]? = some fn) :
    false = Tryd.pinned.checked.prog.looks [] ∧ ∀ (j : Nat) t, fn.params[j]? = some t → Tryd.pinned.checked.prog.wantsStandIn t = false := by
  obtain rfl : f = 4 := Option.some.inj ((show Tryd.prog.funcNamed "dactyl/dactyllaw29.CountTells" = some 4 by kernel_rfl).symm.trans hf) |>.symm
  obtain rfl : fn = Tryd.f4 := (Option.some.inj (Tryd.func4.symm.trans hfn)).symm
  refine ⟨by kernel_rfl, fun j t ht => ?_⟩
  rw [Tryd.params4] at ht
  obtain rfl : t = 37 := by simpa using Array.mem_of_getElem? ht
  exact (show Tryd.prog.wantsStandIn 37 = false by kernel_rfl)
theorem card : Rows.CountTellsCardSaid :=
  Claim7.holds_tied_plain_at .later [] _ _ _ _ said (fun _ h => by cases h) (by kernel_rfl) (fun _ h => by cases h) countTells_row_tie rfl ⟨rfl, rfl⟩ (by kernel_rfl) rfl plain (by kernel_rfl)
#print axioms card
end tells
end Go.Proofs.YtidkhkehngcjmaaDoor
