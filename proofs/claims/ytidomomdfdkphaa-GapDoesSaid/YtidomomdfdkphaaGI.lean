/- GapDoes: for every cap and every script of calls the law answers true. -/
import Derived.Test.YtidomomdfdkphaaGE
import Derived.Test.YtidomomdfdkphaaGH
namespace Go.Proofs.Ytidomomdfdkphaa
open Go.ChangeShapes Go.WideShapes Go.ChangeAt Go.RowKit
namespace gdoes
theorem cells49 : Try.prog.cellsOf 49 = 3 := by kernel_rfl
theorem cells3 : Try.prog.cellsOf 3 = 1 := by kernel_rfl
theorem cells22 : Try.prog.cellsOf 22 = 1 := by kernel_rfl
/-- A script that came in. -/
theorem calls_of {H : Type} {enc : TypeId × Value → H} {W : World} {base : Nat} {spare : Nat → Bool} {held : Bool} {fuel : Nat} {cs : List Value} {x : DataW H × List MemPlace} (h : DataW.trod enc Try.prog W base spare held fuel 47 cs = some x) :
    ∃ (ao : Option Addr) (len cap : Nat) (K N : Nat → Int) (L : Nat → List (Int × Int)) (AO : Nat → Option Addr) (CP BB : Nat → Nat), cs = [.slice ao len cap] ∧ len ≤ maxLen ∧ (0 < len → ∃ c off, ao = some ⟨c, off, none⟩ ∧ CallsAt W c off len K N L AO CP BB) := by
  obtain ⟨ao, len, cap, E, rfl, hl, hm, hc, hn, hE⟩ := open_rows Try.underlying47 cells49 (by decide) h
  have hrow : ∀ i, ∃ (k n : Int) (l : List (Int × Int)) (a : Option Addr) (c b : Nat), i < len → (E i)[0]? = some (.int .i64 k) ∧ (E i)[1]? = some (.int .i64 n) ∧ (E i)[2]? = some (.slice a l.length c) ∧ Sv W b a c l := by
    intro i
    by_cases hi : i < len
    · obtain ⟨n, y, hlE, hy⟩ := hE i hi
      obtain ⟨xs, m, _, _, hl0, hxl, hall⟩ := DataW.trod_struct Try.underlying49 hy
      obtain ⟨a0, a1, a2, hEi⟩ : ∃ a0 a1 a2, E i = [a0, a1, a2] := by
        match hE' : E i, hlE with
        | [a0, a1, a2], _ => exact ⟨a0, a1, a2, rfl⟩
      have hx : ∀ j, j < 3 → ∃ z, xs[j]? = some z := fun j hj => ⟨_, List.getElem?_eq_getElem (by rw [hxl]; exact hj)⟩
      obtain ⟨z0, hz0⟩ := hx 0 (by omega)
      obtain ⟨z1, hz1⟩ := hx 1 (by omega)
      obtain ⟨z2, hz2⟩ := hx 2 (by omega)
      have g0 : DataW.trod enc Try.prog W base spare held m 3 (List.take (Try.prog.cellsOf 3) (List.drop 0 (E i))) = some z0 := (hall 0 _ rfl).trans hz0
      have g1 : DataW.trod enc Try.prog W base spare held m 3 (List.take (Try.prog.cellsOf 3) (List.drop 1 (E i))) = some z1 := (hall 1 _ rfl).trans hz1
      have g2 : DataW.trod enc Try.prog W base spare held m 22 (List.take (Try.prog.cellsOf 22) (List.drop 2 (E i))) = some z2 := (hall 2 _ rfl).trans hz2
      rw [hEi] at g0 g1 g2 ⊢
      simp only [cells3, cells22, List.drop_zero, List.drop_succ_cons, List.take_succ_cons, List.take_zero] at g0 g1 g2
      obtain ⟨k, e0, _, _⟩ := DataW.trod_int Try.underlying3 g0
      obtain ⟨n', e1, _, _⟩ := DataW.trod_int Try.underlying3 g1
      obtain ⟨a, c, b, l, e2, hs⟩ := signs_of g2
      obtain rfl := (List.cons.inj e0).1
      obtain rfl := (List.cons.inj e1).1
      obtain rfl := (List.cons.inj e2).1
      exact ⟨k, n', l, a, c, b, fun _ => ⟨rfl, rfl, rfl, hs⟩⟩
    · exact ⟨0, 0, [], none, 0, 0, fun h => absurd h hi⟩
  refine ⟨ao, len, cap, fun i => (hrow i).choose, fun i => (hrow i).choose_spec.choose, fun i => (hrow i).choose_spec.choose_spec.choose, fun i => (hrow i).choose_spec.choose_spec.choose_spec.choose, fun i => (hrow i).choose_spec.choose_spec.choose_spec.choose_spec.choose, fun i => (hrow i).choose_spec.choose_spec.choose_spec.choose_spec.choose_spec.choose, rfl, Nat.le_trans hl hm, fun h0 => ?_⟩
  obtain ⟨b, off, ha, hb, hcell⟩ := hc h0
  refine ⟨b, off, ha, hb, fun i hi => ?_⟩
  obtain ⟨e0, e1, e2, hs⟩ := (hrow i).choose_spec.choose_spec.choose_spec.choose_spec.choose_spec.choose_spec hi
  exact ⟨hcell i hi 0 _ e0, hcell i hi 1 _ e1, hcell i hi 2 _ e2, hs⟩
theorem params_ok : ∀ t ∈ Try.f5.params.toList, Try.prog.readableRec t = true ∧ t < Try.prog.types.size := by
  intro t ht
  rw [Try.params5] at ht
  simp only [List.mem_cons, List.not_mem_nil, or_false] at ht
  rcases ht with rfl | rfl
  · exact ⟨by kernel_rfl, of_decide_eq_true (by kernel_rfl)⟩
  · exact ⟨by kernel_rfl, of_decide_eq_true (by kernel_rfl)⟩
theorem contract (H : Type) (enc : TypeId × Value → H) (W : World) (base : Nat) (args : Array Value) (ds gs : List (DataW H)) (before : List MemPlace)
    (hval : ∀ (j : Nat) t v, Try.f5.params[j]? = some t → args[j]? = some v → Value.okWide Try.prog W .any base t v)
    (hW : DataW.Whole enc Try.prog Try.f5.params.toList Rows.gapDoesSpec.vars false W args.toList ds gs before) :
    Calls Try.prog 5 args W fun e W' => ∃ v, e = .returned v ∧ Rows.gapDoesSpec.post enc Try.prog Try.f5 false true false false W args v W' := by
  have hW' := hW
  obtain ⟨p, q, hA0, hV, rfl, hfz, hnd⟩ := hW
  have hA : DataW.TrodAll enc Try.prog W 0 (fun _ => true) true Try.f5.params.toList args.toList ds p := hA0
  rw [Try.params5] at hA hval
  obtain ⟨v0, vs0, d0, ds0, p0, q0, hargs, rfl, rfl, h0, r0⟩ := trodAll_cons hA
  obtain ⟨v1, vs1, d1, ds1, p1, q1, rfl, rfl, rfl, h1, r1⟩ := trodAll_cons r0
  obtain ⟨rfl, rfl, rfl⟩ := trodAll_nil r1
  obtain rfl : args = #[v0, v1] := by cases args; simp_all
  obtain ⟨rfl, rfl⟩ := trodVars_none hV
  obtain ⟨n, rfl, rfl, rfl, wn⟩ := open_int Try.underlying3 (hval 0 3 v0 rfl rfl) h0
  obtain ⟨a1, l1, c1, rfl⟩ := okWide_slice Try.underlying47 (hval 1 47 v1 rfl rfl)
  obtain ⟨f1, h1⟩ := h1
  obtain ⟨ao, len, cap, K, N, L, AO, CP, BB, e1, hl, hc⟩ := calls_of h1
  simp [Value.cells] at e1
  obtain ⟨rfl, rfl, rfl⟩ := e1
  have fin : ∀ (e : Ending) (W' : World), (e = .returned (.bool true) ∧ Below W.heap.size W W') → ∃ v, e = .returned v ∧ Rows.gapDoesSpec.post enc Try.prog Try.f5 false true false false W #[.int .i64 n, .slice a1 l1 c1] v W' := by
    intro e W' ⟨he, hg⟩
    subst he
    exact ⟨_, rfl, law_post laidOut params_ok rfl hW' hg (by kernel_rfl) Try.underlying4 ⟨rfl, rfl, rfl⟩⟩
  by_cases hn : 1 ≤ n ∧ n ≤ 65536
  · obtain ⟨m, rfl⟩ := Int.eq_ofNat_of_zero_le (show 0 ≤ n by omega)
    unfold maxLen at hl
    exact (does_ok m (by omega) (by omega) a1 l1 c1 (by omega) K N L AO CP BB W hc).mono fin
  · exact (does_range n _ W (by omega)).mono fin
theorem reads (os : Os) {H : Type} (enc : TypeId × Value → H) : ∃ places, DataW.whole enc Try.prog ((World.holding Try.prog os ⟨#[], #[], []⟩).forCall (fun _ _ => 0) ⟨#[], #[.int .i64 0, .slice none 0 0], []⟩).memory Try.f5.params.toList Rows.gapDoesSpec.vars false #[Value.int .i64 0, .slice none 0 0].toList 8 = some ([.lit (.int .i64 0), .nil], [], places) :=
  ⟨[], by kernel_rfl⟩
set_option maxRecDepth 100000 in
theorem lifted (os : Os) (started : os.Started) (H : Type) (enc : TypeId × Value → H) (F : Stop.Interp) :
    ReturnsInHanded {} Try.checked os 5 .any ((OpenSpec.ofChange Rows.gapDoesSpec).preRow enc Try.prog Try.f5 Rows.gapDoesRow.domain false Rows.gapDoesRow.laid) (((OpenSpec.ofChange Rows.gapDoesSpec).at F).post enc Try.prog Try.f5 false true false false) := by
  obtain ⟨places, hx⟩ := reads os enc
  refine returnsInHanded_of_row (C := Try.checked) (s := OpenSpec.ofChange Rows.gapDoesSpec) own started (by kernel_rfl) Try.func5
    (witness_row_at (enc := enc) (C := Try.checked) false (World.holding Try.prog os ⟨#[], #[], []⟩) #[.int .i64 0, .slice none 0 0] rfl (by kernel_rfl) (by kernel_rfl) (by kernel_rfl)
      (OpenSpec.preRow_of_cond 8 hx (by kernel_rfl) (fun k hk => by cases hk) (by kernel_rfl) ⟨[], rfl, List.nodup_nil, fun _ _ h => by simp at h⟩)) ?_
  intro W base args ds gs before hval hW _ _ _ _ _ _
  exact contract H enc W base args ds gs before hval hW
theorem said : Rows.GapDoesSaid :=
  OpenClaim.holds_of_cond 5 Try.f5 rfl rfl rfl rfl rfl rfl rfl ⟨rfl, rfl, rfl, rfl, rfl⟩ rfl rfl rfl rfl rfl (by kernel_rfl) Try.func5 (by kernel_rfl)
    (of_decide_eq_true (by kernel_rfl)) (by unfold Func.isWrapper; first | (rw [if_pos (by decide +kernel)]; kernel_rfl) | (rw [if_neg (by decide +kernel)]; exact ⟨rfl, rfl⟩))
    (fun os started H enc _ F => by rw [OpenClaim.pre_eq_preRow]; exact lifted os started H enc F)
#print axioms said
end gdoes
end Go.Proofs.Ytidomomdfdkphaa
