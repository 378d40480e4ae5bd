/- The card of MacroDoes: for every number and every list of calls the law answers true; the key table is tied to the program text. -/
import Derived.Test.YtgffmkbcppajoaaDoorCards
import Derived.Test.YtgffmkbcppajoaaDoorTie
import Derived.Test.YtgffmkbcppajoaaDoorMC
import Derived.Test.YtgffmkbcppajoaaDoorLaw
import Derived.Test.YtgffmkbcppajoaaDoorOpen
import Derived.WalkKit
import Derived.ProofKit
import Derived.OpenShut
import Derived.Deep.DeepHandedRow
import Derived.Lib.LaidTab
namespace Go.Proofs.YtgffmkbcppajoaaDoor
open Go.ChangeShapes Go.WideShapes Go.ChangeAt Go.RowKit
theorem own : ownKnob Tryd.prog.godebug = none := by kernel_rfl
theorem gTab : Tryd.prog.globalNamed "dactyl/key.named" = some 0 := by kernel_rfl
theorem gTabType : (Tryd.prog.globals[0]?).map (·.type) = some 58 := by kernel_rfl
theorem cells52 : Tryd.prog.cellsOf 52 = 4 := by kernel_rfl
def keyData : List (List (DataW Unit)) := keyRows.map fun r => [.lit (.int .i64 r.1), .lit (.int .i64 r.2.1), .lit (.string r.2.2.1), .lit (.string r.2.2.2)]
theorem keyData_at (i : Nat) (h : i < 13) : keyData[i]? = some [.lit (.int .i64 (kK i)), .lit (.int .i64 (kV i)), .lit (.string (keyRows.getD i default).2.2.1), .lit (.string (keyRows.getD i default).2.2.2)] := by
  have hl : keyRows.length = 13 := by decide
  unfold keyData kK kV
  rw [List.getElem?_map, List.getElem?_eq_getElem (by omega)]
  simp [List.getD, List.getElem?_eq_getElem (show i < keyRows.length by omega)]
theorem keyTab_of {W : World} {rest : List (String × DataW Unit)} (h : laidMet Tryd.prog (("dactyl/key.named", .agg (keyData.map .agg)) :: rest) W) : KeyTab W := by
  have hc := table_cells gTab gTabType Tryd.underlying58 Tryd.underlying52 cells52 rfl (by kernel_rfl) h
  have h4 : ∀ i, i < 13 → W.cell? ⟨0, i * 4, none⟩ = some (.int .i64 (kK i)) ∧ W.cell? ⟨0, i * 4 + 1, none⟩ = some (.int .i64 (kV i)) ∧ W.cell? ⟨0, i * 4 + 2, none⟩ = some (.string (kN i)) ∧ W.cell? ⟨0, i * 4 + 3, none⟩ = some (.string (kB i)) := fun i hi =>
    ⟨hc i _ (keyData_at i hi) 0 _ rfl, hc i _ (keyData_at i hi) 1 _ rfl, hc i _ (keyData_at i hi) 2 _ rfl, hc i _ (keyData_at i hi) 3 _ rfl⟩
  exact ⟨World.block_lt_of_cell? (a := ⟨0, 0, none⟩) W (h4 0 (by omega)).1, h4⟩
def keyCells : Array Value := (keyRows.flatMap fun r => [.int .i64 r.1, .int .i64 r.2.1, .string ⟨r.2.2.1.toArray⟩, .string ⟨r.2.2.2.toArray⟩]).toArray
/-- A WORLD FOR THE WITNESS. -/
noncomputable def laidWorld (os : Os) : World :=
  { World.holding Tryd.prog os ⟨#[], #[], []⟩ with heap := (World.holding Tryd.prog os ⟨#[], #[], []⟩).heap.modify 0 fun
      | .cells _ t frozen => .cells keyCells t frozen
      | o => o }
theorem laidOut : laidOutB Tryd.prog = true := by kernel_rfl
theorem cells34 : Tryd.prog.cellsOf 34 = 6 := by kernel_rfl
theorem cells32' : Tryd.prog.cellsOf 32 = 4 := by kernel_rfl
/-- A field of a struct, out of the struct's reading. -/
theorem trod_field {H : Type} {enc : TypeId × Value → H} {P : Program} {w : World} {base : Nat} {spare : Nat → Bool} {held : Bool} {fuel : Nat} {e : TypeId} {fs : Array Field} {cs : List Value} {x : DataW H × List MemPlace} (he : P.underlying e = some (.struct fs))
    (h : DataW.trod enc P w base spare held fuel e cs = some x) (j : Nat) (f : Field) (hj : fs[j]? = some f) : ∃ n y, DataW.trod enc P w base spare held n f.type ((cs.drop f.offset).take (P.cellsOf f.type)) = some y := by
  obtain ⟨xs, n, _, _, hl, hxl, hall⟩ := DataW.trod_struct he h
  have hjl : j < fs.size := (Array.getElem?_eq_some_iff.1 hj).1
  have h2 := hall j f hj
  have hx : xs[j]? = some (xs[j]'(by omega)) := List.getElem?_eq_getElem (by omega)
  rw [hx] at h2
  exact ⟨n, _, h2⟩
theorem one_of {cs : List Value} {o c : Nat} {v : Value} (h : (cs.drop o).take c = [v]) : cs[o]? = some v := by
  have := congrArg (·[0]?) h
  simp only [List.getElem?_take, List.getElem?_drop] at this
  split at this
  · simpa using this
  · simp at this
theorem in_of {cs : List Value} {o c j : Nat} {v : Value} (h : ((cs.drop o).take c)[j]? = some v) : cs[o + j]? = some v := by
  simp only [List.getElem?_take, List.getElem?_drop] at h
  split at h
  · exact h
  · cases h
namespace does
theorem params_ok : ∀ t ∈ Tryd.f3.params.toList, Tryd.prog.readableRec t = true ∧ t < Tryd.prog.types.size := by
  intro t ht
  rw [Tryd.params3] at ht
  obtain rfl | rfl : t = 3 ∨ t = 22 := by simpa using ht
  · exact ⟨by kernel_rfl, of_decide_eq_true (by kernel_rfl)⟩
  · exact ⟨by kernel_rfl, of_decide_eq_true (by kernel_rfl)⟩
/-- The calls, out of the reading of a slice of them. -/
theorem calls_of {H : Type} {enc : TypeId × Value → H} {W : World} {fuel : Nat} {cs : List Value} {x : DataW H × List MemPlace} (h : DataW.trod enc Tryd.prog W 0 (fun _ => true) true fuel 22 cs = some x) :
    ∃ (ao : Option Addr) (len cap : Nat) (CK N : Nat → Int) (KY : Nat → KV), cs = [.slice ao len cap] ∧ len ≤ cap ∧ cap ≤ maxLen ∧
      (0 < len → ∃ b off, ao = some ⟨b, off, none⟩ ∧ CallsAt W b off len CK N KY) := by
  obtain ⟨ao, len, cap, E, rfl, hl, hm, hc, _, hE⟩ := open_rows Tryd.underlying22 cells34 (by decide) h
  have hrow : ∀ i, ∃ (ck n : Int) (k : KV), i < len → k.tx.size ≤ maxLen ∧ (E i)[0]? = some (.int .i64 ck) ∧ (E i)[1]? = some (.int .i64 n) ∧ (E i)[2]? = some (.int .i64 k.kd) ∧ (E i)[3]? = some (.int .i64 k.v) ∧ (E i)[4]? = some (.string k.tx) ∧ (E i)[5]? = some (.bool k.ct) := by
    intro i
    by_cases hi : i < len
    · obtain ⟨n, y, _, hy⟩ := hE i hi
      obtain ⟨_, _, g0⟩ := trod_field Tryd.underlying34 hy 0 _ rfl
      obtain ⟨_, _, g1⟩ := trod_field Tryd.underlying34 hy 1 _ rfl
      obtain ⟨_, _, g2⟩ := trod_field Tryd.underlying34 hy 2 _ rfl
      obtain ⟨v0, h0, f0⟩ := trod_fits (by kernel_rfl) g0
      obtain ⟨v1, h1, f1⟩ := trod_fits (by kernel_rfl) g1
      have hr := trod_row Tryd.underlying32 (by kernel_rfl) g2
      obtain ⟨v2, h2, f2⟩ := hr 0 _ rfl
      obtain ⟨v3, h3, f3⟩ := hr 1 _ rfl
      obtain ⟨v4, h4, f4⟩ := hr 2 _ rfl
      obtain ⟨v5, h5, f5⟩ := hr 3 _ rfl
      obtain ⟨ck, rfl, _⟩ := f0.int Tryd.underlying3
      obtain ⟨nn, rfl, _⟩ := f1.int Tryd.underlying3
      obtain ⟨kd, rfl, _⟩ := f2.int Tryd.underlying3
      obtain ⟨v, rfl, _⟩ := f3.int Tryd.underlying3
      obtain ⟨tx, rfl, hs⟩ := f4.str Tryd.underlying9
      obtain ⟨ct, rfl⟩ := f5.bool Tryd.underlying4
      exact ⟨ck, nn, ⟨kd, v, tx, ct⟩, fun _ => ⟨hs, one_of h0, one_of h1, in_of h2, in_of h3, in_of h4, in_of h5⟩⟩
    · exact ⟨0, 0, ⟨0, 0, ⟨#[]⟩, false⟩, fun h => absurd h hi⟩
  refine ⟨ao, len, cap, fun i => (hrow i).choose, fun i => (hrow i).choose_spec.choose, fun i => (hrow i).choose_spec.choose_spec.choose, rfl, hl, hm, fun h0 => ?_⟩
  obtain ⟨b, off, ha, hb, hcell⟩ := hc h0
  refine ⟨b, off, ha, hb, fun i hi => ?_⟩
  obtain ⟨hs, e0, e1, e2, e3, e4, e5⟩ := (hrow i).choose_spec.choose_spec.choose_spec hi
  exact ⟨hcell i hi 0 _ e0, hcell i hi 1 _ e1, hcell i hi 2 _ e2, hcell i hi 3 _ e3, hcell i hi 4 _ e4, hcell i hi 5 _ e5, Nat.le_trans hs (by decide)⟩
theorem does_any (most : Int) (ao1 : Option Addr) (len cap1 : Nat) (hlen : len ≤ 9223372036854775807) (CK N : Nat → Int) (KY : Nat → KV) (w : World) (ht : KeyTab w) (hc : 0 < len → ∃ c off, ao1 = some ⟨c, off, none⟩ ∧ CallsAt w c off len CK N KY) :
   Calls Tryd.prog 3 #[.int .i64 most, .slice ao1 len cap1] w fun e w' => e = .returned (.bool true) ∧ Below w.heap.size w w' := by
  by_cases h : most < 1 ∨ 9999 < most
  · exact does_range most _ w ht h
  · obtain ⟨n, rfl⟩ : ∃ n : Nat, most = n := ⟨most.toNat, by omega⟩
    exact does_ok n (by omega) (by omega) ao1 len cap1 hlen CK N KY w ht hc
theorem contract (H : Type) (enc : TypeId × Value → H) (W : World) (base : Nat) (args : Array Value) (ds gs : List (DataW H)) (before : List MemPlace)
    (hval : ∀ (j : Nat) t v, Tryd.f3.params[j]? = some t → args[j]? = some v → Value.okWide Tryd.prog W .any base t v)
    (hW : DataW.Whole enc Tryd.prog Tryd.f3.params.toList Rows.macroDoesSpec.vars false W args.toList ds gs before) (hL : laidMetH Tryd.prog Rows.macroDoesRow.laid W) :
    Calls Tryd.prog 3 args W fun e W' => ∃ v, e = .returned v ∧ Rows.macroDoesSpec.post enc Tryd.prog Tryd.f3 false true false false W args v W' := by
  have hW' := hW
  obtain ⟨p, q, hA0, hV, rfl, hfz, hnd⟩ := hW
  have hA : DataW.TrodAll enc Tryd.prog W 0 (fun _ => true) true Tryd.f3.params.toList args.toList ds p := hA0
  rw [Tryd.params3] at hA hval
  obtain ⟨v0, vs0, d0, ds0, p0, q0, hargs, rfl, rfl, h0, r0⟩ := trodAll_cons hA
  obtain ⟨v1, vs1, d1, ds1, p1, q1, rfl, rfl, rfl, h1, r1⟩ := trodAll_cons r0
  obtain ⟨rfl, rfl, rfl⟩ := trodAll_nil r1
  obtain rfl : args = #[v0, v1] := by cases args; simp_all
  obtain ⟨n, rfl, rfl, rfl, wn⟩ := open_int Tryd.underlying3 (hval 0 3 v0 rfl rfl) h0
  obtain ⟨a1, l1, c1, rfl⟩ := okWide_slice Tryd.underlying22 (hval 1 22 v1 rfl rfl)
  obtain ⟨f1, h1⟩ := h1
  obtain ⟨ao, len, cap, CK, N, KY, e0, hl, hm, ha⟩ := calls_of h1
  simp [Value.cells] at e0
  obtain ⟨rfl, rfl, rfl⟩ := e0
  unfold maxLen at hm
  refine (does_any n _ _ _ (by omega) CK N KY W (keyTab_of (rest := []) hL) ha).mono fun e W' ⟨he, hg⟩ => ?_
  subst he
  exact ⟨_, rfl, law_post laidOut params_ok rfl hW' hg (by kernel_rfl) Tryd.underlying4 ⟨rfl, rfl, rfl⟩⟩
theorem laid_met (os : Os) : laidMet Tryd.prog Rows.macroDoesRow.laid ((laidWorld os).forCall (fun _ _ => 0) ⟨#[], #[.int .i64 0, .slice none 0 0], []⟩).memory :=
  laidMet_of_run' 8 (by kernel_rfl) (by kernel_rfl)
theorem reads (os : Os) {H : Type} (enc : TypeId × Value → H) : ∃ places, DataW.whole enc Tryd.prog ((laidWorld os).forCall (fun _ _ => 0) ⟨#[], #[.int .i64 0, .slice none 0 0], []⟩).memory Tryd.f3.params.toList Rows.macroDoesSpec.vars false #[Value.int .i64 0, Value.slice none 0 0].toList 8 = some ([.lit (.int .i64 0), .nil], [], places) :=
  ⟨[], by kernel_rfl⟩
set_option maxRecDepth 100000 in
theorem lifted (os : Os) (started : os.Started) (H : Type) (enc : TypeId × Value → H) (F : Stop.Interp) :
    ReturnsInHanded {} Tryd.checked os 3 .any ((OpenSpec.ofChange Rows.macroDoesSpec).preRow enc Tryd.prog Tryd.f3 Rows.macroDoesRow.domain false Rows.macroDoesRow.laid) (((OpenSpec.ofChange Rows.macroDoesSpec).at F).post enc Tryd.prog Tryd.f3 false true false false) := by
  obtain ⟨places, hx⟩ := reads os enc
  refine returnsInHanded_of_row (C := Tryd.checked) (s := OpenSpec.ofChange Rows.macroDoesSpec) own started (by kernel_rfl) Tryd.func3
    (witness_row_at (enc := enc) (C := Tryd.checked) false (laidWorld os) #[.int .i64 0, .slice none 0 0] rfl (by kernel_rfl) (by kernel_rfl) (by kernel_rfl)
      (OpenSpec.preRow_of_cond 8 hx (by kernel_rfl) (fun k hk => by cases hk) (by kernel_rfl) (laid_met os))) ?_
  intro W base args ds gs before hval hW _ _ _ hL _ _
  exact contract H enc W base args ds gs before hval hW hL
theorem said : Rows.MacroDoesSaid :=
  OpenClaim.holds_of_cond 3 Tryd.f3 rfl rfl rfl rfl rfl rfl rfl ⟨rfl, rfl, rfl, rfl, rfl⟩ rfl rfl rfl rfl rfl (by kernel_rfl) Tryd.func3 (by kernel_rfl)
    (of_decide_eq_true (by kernel_rfl)) (by unfold Func.isWrapper; first | (rw [if_pos (by decide +kernel)]; kernel_rfl) | (rw [if_neg (by decide +kernel)]; exact ⟨rfl, rfl⟩))
    (fun os started H enc _ F => by rw [OpenClaim.pre_eq_preRow]; exact lifted os started H enc F)
theorem plain (f : FuncId) (fn : Func) (hf : Tryd.pinned.checked.prog.funcNamed "dactyl/dactyllaw42.MacroDoes" = some f) (hfn : Tryd.pinned.checked.prog.funcs[f]? = some fn) :
    false = Tryd.pinned.checked.prog.looks [] ∧ ∀ (j : Nat) t, fn.params[j]? = some t → Tryd.pinned.checked.prog.wantsStandIn t = false := by
  obtain rfl : f = 3 := Option.some.inj ((show Tryd.prog.funcNamed "dactyl/dactyllaw42.MacroDoes" = some 3 by kernel_rfl).symm.trans hf) |>.symm
  obtain rfl : fn = Tryd.f3 := (Option.some.inj (Tryd.func3.symm.trans hfn)).symm
  refine ⟨by kernel_rfl, fun j t ht => ?_⟩
  rw [Tryd.params3] at ht
  obtain rfl | rfl : t = 3 ∨ t = 22 := by simpa using Array.mem_of_getElem? ht
  · exact (show Tryd.prog.wantsStandIn 3 = false by kernel_rfl)
  · exact (show Tryd.prog.wantsStandIn 22 = false by kernel_rfl)
theorem card : Rows.MacroDoesCardSaid :=
  Claim7.holds_tied_plain_at .later [] _ _ _ _ said (fun _ h => by cases h) (by kernel_rfl) (fun _ h => by cases h) macroDoes_row_tie rfl ⟨rfl, rfl⟩ (by kernel_rfl) rfl plain (by kernel_rfl)
#print axioms card
end does
end Go.Proofs.YtgffmkbcppajoaaDoor
