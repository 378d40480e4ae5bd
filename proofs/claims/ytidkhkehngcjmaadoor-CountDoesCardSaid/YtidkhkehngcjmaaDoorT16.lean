/- The card of CountDoes: for every list of keys and every list of bools the law answers true; the key table is tied to the program text. -/
import Derived.Test.YtidkhkehngcjmaaDoorT13
import Derived.Test.YtidkhkehngcjmaaDoorT15
import Derived.Test.YtidkhkehngcjmaaDoorOpen
namespace Go.Proofs.YtidkhkehngcjmaaDoor
open Go.ChangeShapes Go.WideShapes Go.ChangeAt Go.RowKit
namespace does
theorem params_ok : ∀ t ∈ Tryd.f3.params.toList, Tryd.prog.readableRec t = true ∧ t < Tryd.prog.types.size := by
  intro t ht
  rw [Tryd.params3] at ht
  obtain rfl | rfl : t = 22 ∨ t = 23 := by simpa using ht
  · exact ⟨by kernel_rfl, of_decide_eq_true (by kernel_rfl)⟩
  · exact ⟨by kernel_rfl, of_decide_eq_true (by kernel_rfl)⟩
theorem cells32 : Tryd.prog.cellsOf 32 = 4 := by kernel_rfl
theorem cells4 : Tryd.prog.cellsOf 4 = 1 := by kernel_rfl
/-- The keys, out of the reading of a slice of them. -/
theorem keys_of {H : Type} {enc : TypeId × Value → H} {W : World} {fuel : Nat} {cs : List Value} {x : DataW H × List MemPlace} (h : DataW.trod enc Tryd.prog W 0 (fun _ => true) true fuel 22 cs = some x) :
    ∃ (ao : Option Addr) (len cap : Nat) (kd v : Nat → Int) (tx : Nat → ByteArray) (ct : Nat → Bool), cs = [.slice ao len cap] ∧ len ≤ cap ∧ cap ≤ maxLen ∧ (∀ i, (tx i).size ≤ maxLen) ∧
      (0 < len → ∃ b off, ao = some ⟨b, off, none⟩ ∧ KeysAt W b off len kd v tx ct) := by
  obtain ⟨ao, len, cap, E, rfl, hl, hm, hc, _, hE⟩ := open_rows Tryd.underlying22 cells32 (by decide) h
  have hrow : ∀ i, ∃ (kd v : Int) (tx : ByteArray) (ct : Bool), tx.size ≤ maxLen ∧ (i < len → (E i)[0]? = some (.int .i64 kd) ∧ (E i)[1]? = some (.int .i64 v) ∧ (E i)[2]? = some (.string tx) ∧ (E i)[3]? = some (.bool ct)) := by
    intro i
    by_cases hi : i < len
    · obtain ⟨n, y, _, hy⟩ := hE i hi
      have hr := trod_row Tryd.underlying32 (by kernel_rfl) hy
      obtain ⟨v0, h0, f0⟩ := hr 0 _ rfl
      obtain ⟨v1, h1, f1⟩ := hr 1 _ rfl
      obtain ⟨v2, h2, f2⟩ := hr 2 _ rfl
      obtain ⟨v3, h3, f3⟩ := hr 3 _ rfl
      obtain ⟨kd, rfl, _⟩ := f0.int Tryd.underlying3
      obtain ⟨v, rfl, _⟩ := f1.int Tryd.underlying3
      obtain ⟨tx, rfl, hs⟩ := f2.str Tryd.underlying9
      obtain ⟨ct, rfl⟩ := f3.bool Tryd.underlying4
      exact ⟨kd, v, tx, ct, hs, fun _ => ⟨h0, h1, h2, h3⟩⟩
    · exact ⟨0, 0, ⟨#[]⟩, false, by decide, fun h => absurd h hi⟩
  refine ⟨ao, len, cap, fun i => (hrow i).choose, fun i => (hrow i).choose_spec.choose, fun i => (hrow i).choose_spec.choose_spec.choose, fun i => (hrow i).choose_spec.choose_spec.choose_spec.choose, rfl, hl, hm, fun i => (hrow i).choose_spec.choose_spec.choose_spec.choose_spec.1, fun h0 => ?_⟩
  obtain ⟨b, off, ha, hb, hcell⟩ := hc h0
  refine ⟨b, off, ha, hb, fun i hi => ?_⟩
  obtain ⟨e0, e1, e2, e3⟩ := (hrow i).choose_spec.choose_spec.choose_spec.choose_spec.2 hi
  exact ⟨hcell i hi 0 _ e0, hcell i hi 1 _ e1, hcell i hi 2 _ e2, hcell i hi 3 _ e3⟩
theorem bools_of {H : Type} {enc : TypeId × Value → H} {W : World} {fuel : Nat} {cs : List Value} {x : DataW H × List MemPlace} (h : DataW.trod enc Tryd.prog W 0 (fun _ => true) true fuel 23 cs = some x) :
    ∃ (ao : Option Addr) (len cap : Nat) (tk : Nat → Bool), cs = [.slice ao len cap] ∧ len ≤ cap ∧ cap ≤ maxLen ∧
      (0 < len → ∃ b off, ao = some ⟨b, off, none⟩ ∧ b < W.heap.size ∧ ∀ i, i < len → W.cell? ⟨b, off + i, none⟩ = some (.bool (tk i))) := by
  obtain ⟨ao, len, cap, E, rfl, hl, hm, hc, _, hE⟩ := open_rows Tryd.underlying23 cells4 (by decide) h
  have hrow : ∀ i, ∃ tk : Bool, i < len → (E i)[0]? = some (.bool tk) := by
    intro i
    by_cases hi : i < len
    · obtain ⟨n, y, _, hy⟩ := hE i hi
      obtain ⟨v, hv, f⟩ := trod_fits (by kernel_rfl) hy
      obtain ⟨tk, rfl⟩ := f.bool Tryd.underlying4
      exact ⟨tk, fun _ => by rw [hv]; rfl⟩
    · exact ⟨false, fun h => absurd h hi⟩
  refine ⟨ao, len, cap, fun i => (hrow i).choose, rfl, hl, hm, fun h0 => ?_⟩
  obtain ⟨b, off, ha, hb, hcell⟩ := hc h0
  refine ⟨b, off, ha, hb, fun i hi => ?_⟩
  have := hcell i hi 0 _ ((hrow i).choose_spec hi)
  simpa using this
theorem contract (H : Type) (enc : TypeId × Value → H) (W : World) (base : Nat) (args : Array Value) (ds gs : List (DataW H)) (before : List MemPlace)
    (hval : ∀ (j : Nat) t v, Tryd.f3.params[j]? = some t → args[j]? = some v → Value.okWide Tryd.prog W .any base t v)
    (hW : DataW.Whole enc Tryd.prog Tryd.f3.params.toList Rows.countDoesSpec.vars false W args.toList ds gs before) (hL : laidMetH Tryd.prog Rows.countDoesRow.laid W) :
    Calls Tryd.prog 3 args W fun e W' => ∃ v, e = .returned v ∧ Rows.countDoesSpec.post enc Tryd.prog Tryd.f3 false true false false W args v W' := by
  have hW' := hW
  obtain ⟨p, q, hA0, hV, rfl, hfz, hnd⟩ := hW
  have hA : DataW.TrodAll enc Tryd.prog W 0 (fun _ => true) true Tryd.f3.params.toList args.toList ds p := hA0
  rw [Tryd.params3] at hA hval
  obtain ⟨v0, vs0, d0, ds0, p0, q0, hargs, rfl, rfl, h0, r0⟩ := trodAll_cons hA
  obtain ⟨v1, vs1, d1, ds1, p1, q1, rfl, rfl, rfl, h1, r1⟩ := trodAll_cons r0
  obtain ⟨rfl, rfl, rfl⟩ := trodAll_nil r1
  obtain rfl : args = #[v0, v1] := by cases args; simp_all
  obtain ⟨a0, l0, c0, rfl⟩ := okWide_slice Tryd.underlying22 (hval 0 22 v0 rfl rfl)
  obtain ⟨a1, l1, c1, rfl⟩ := okWide_slice Tryd.underlying23 (hval 1 23 v1 rfl rfl)
  obtain ⟨f0, h0⟩ := h0
  obtain ⟨f1, h1⟩ := h1
  obtain ⟨ao, len, cap, kd, v, tx, ct, e0, hl, hm, hs, ha⟩ := keys_of h0
  obtain ⟨bo, tlen, tcap, tk, e1, htl, htm, hb⟩ := bools_of h1
  simp [Value.cells] at e0 e1
  obtain ⟨rfl, rfl, rfl⟩ := e0
  obtain ⟨rfl, rfl, rfl⟩ := e1
  unfold maxLen at hm htm hs
  refine (does_any _ _ _ _ _ _ kd v tx ct tk W (keyTab_of (rest := []) hL) (by omega) (by omega) (fun i => by have := hs i; omega) ha hb).mono fun e W' ⟨he, hg⟩ => ?_
  subst he
  exact ⟨_, rfl, law_post laidOut params_ok rfl hW' hg (by kernel_rfl) Tryd.underlying4 ⟨rfl, rfl, rfl⟩⟩
theorem laid_met (os : Os) : laidMet Tryd.prog Rows.countDoesRow.laid ((laidWorld os).forCall (fun _ _ => 0) ⟨#[], #[.slice none 0 0, .slice none 0 0], []⟩).memory :=
  laidMet_of_run' 8 (by kernel_rfl) (by kernel_rfl)
theorem reads (os : Os) {H : Type} (enc : TypeId × Value → H) : ∃ places, DataW.whole enc Tryd.prog ((laidWorld os).forCall (fun _ _ => 0) ⟨#[], #[.slice none 0 0, .slice none 0 0], []⟩).memory Tryd.f3.params.toList Rows.countDoesSpec.vars false #[Value.slice none 0 0, Value.slice none 0 0].toList 8 = some ([.nil, .nil], [], places) :=
  ⟨[], by kernel_rfl⟩
set_option maxRecDepth 100000 in
theorem lifted (os : Os) (started : os.Started) (H : Type) (enc : TypeId × Value → H) (F : Stop.Interp) :
    ReturnsInHanded {} Tryd.checked os 3 .any ((OpenSpec.ofChange Rows.countDoesSpec).preRow enc Tryd.prog Tryd.f3 Rows.countDoesRow.domain false Rows.countDoesRow.laid) (((OpenSpec.ofChange Rows.countDoesSpec).at F).post enc Tryd.prog Tryd.f3 false true false false) := by
  obtain ⟨places, hx⟩ := reads os enc
  refine returnsInHanded_of_row (C := Tryd.checked) (s := OpenSpec.ofChange Rows.countDoesSpec) own started (by kernel_rfl) Tryd.func3
    (witness_row_at (enc := enc) (C := Tryd.checked) false (laidWorld os) #[.slice none 0 0, .slice none 0 0] rfl (by kernel_rfl) (by kernel_rfl) (by kernel_rfl)
      (OpenSpec.preRow_of_cond 8 hx (by kernel_rfl) (fun k hk => by cases hk) (by kernel_rfl) (laid_met os))) ?_
  intro W base args ds gs before hval hW _ _ _ hL _ _
  exact contract H enc W base args ds gs before hval hW hL
theorem said : Rows.CountDoesSaid :=
  OpenClaim.holds_of_cond 3 Tryd.f3 rfl rfl rfl rfl rfl rfl rfl ⟨rfl, rfl, rfl, rfl, rfl⟩ rfl rfl rfl rfl rfl (by kernel_rfl) Tryd.func3 (by kernel_rfl)
    (of_decide_eq_true (by kernel_rfl)) (by unfold Func.isWrapper; first | (rw [if_pos (by decide +kernel)]; kernel_rfl) | (rw [if_neg (by decide +kernel)]; exact ⟨rfl, rfl⟩))
    (fun os started H enc _ F => by rw [OpenClaim.pre_eq_preRow]; exact lifted os started H enc F)
theorem plain (f : FuncId) (fn : Func) (hf : Tryd.pinned.checked.prog.funcNamed "dactyl/dactyllaw29.CountDoes" = some f) (hfn : Tryd.pinned.checked.prog.funcs[f]? = some fn) :
    false = Tryd.pinned.checked.prog.looks [] ∧ ∀ (j : Nat) t, fn.params[j]? = some t → Tryd.pinned.checked.prog.wantsStandIn t = false := by
  obtain rfl : f = 3 := Option.some.inj ((show Tryd.prog.funcNamed "dactyl/dactyllaw29.CountDoes" = some 3 by kernel_rfl).symm.trans hf) |>.symm
  obtain rfl : fn = Tryd.f3 := (Option.some.inj (Tryd.func3.symm.trans hfn)).symm
  refine ⟨by kernel_rfl, fun j t ht => ?_⟩
  rw [Tryd.params3] at ht
  obtain rfl | rfl : t = 22 ∨ t = 23 := by simpa using Array.mem_of_getElem? ht
  · exact (show Tryd.prog.wantsStandIn 22 = false by kernel_rfl)
  · exact (show Tryd.prog.wantsStandIn 23 = false by kernel_rfl)
theorem card : Rows.CountDoesCardSaid :=
  Claim7.holds_tied_plain_at .later [] _ _ _ _ said (fun _ h => by cases h) (by kernel_rfl) (fun _ h => by cases h) countDoes_row_tie rfl ⟨rfl, rfl⟩ (by kernel_rfl) rfl plain (by kernel_rfl)
#print axioms card
end does
end Go.Proofs.YtidkhkehngcjmaaDoor
