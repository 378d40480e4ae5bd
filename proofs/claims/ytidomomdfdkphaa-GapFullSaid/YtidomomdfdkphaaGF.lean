/- GapFull: for every number of two bytes and every sign the law answers true. -/
import Derived.Test.YtidomomdfdkphaaGE
import Derived.Test.YtidomomdfdkphaaGD
namespace Go.Proofs.Ytidomomdfdkphaa
open Go.ChangeShapes Go.WideShapes Go.ChangeAt Go.RowKit
namespace gfull
theorem walk (x : Int × Int) (n : Nat) (hn : n ≤ 65535) (w : World) : Calls Try.prog 4 #[.int .u16 n, .agg #[.int .i64 x.1, .int .i64 x.2]] w fun e w' => e = .returned (.bool true) ∧ Below w.heap.size w w' := by
  cases hr : rs x
  · exact full_bad x n w hr
  · exact full_ok x n hn w hr
theorem params_ok : ∀ t ∈ Try.f4.params.toList, Try.prog.readableRec t = true ∧ t < Try.prog.types.size := by
  intro t ht
  rw [Try.params4] at ht
  simp only [List.mem_cons, List.not_mem_nil, or_false] at ht
  rcases ht with rfl | rfl
  · exact ⟨by kernel_rfl, of_decide_eq_true (by kernel_rfl)⟩
  · exact ⟨by kernel_rfl, of_decide_eq_true (by kernel_rfl)⟩
theorem contract (H : Type) (enc : TypeId × Value → H) (W : World) (base : Nat) (args : Array Value) (ds gs : List (DataW H)) (before : List MemPlace)
    (hval : ∀ (j : Nat) t v, Try.f4.params[j]? = some t → args[j]? = some v → Value.okWide Try.prog W .any base t v)
    (hW : DataW.Whole enc Try.prog Try.f4.params.toList Rows.gapFullSpec.vars false W args.toList ds gs before) :
    Calls Try.prog 4 args W fun e W' => ∃ v, e = .returned v ∧ Rows.gapFullSpec.post enc Try.prog Try.f4 false true false false W args v W' := by
  have hW' := hW
  obtain ⟨p, q, hA0, hV, rfl, hfz, hnd⟩ := hW
  have hA : DataW.TrodAll enc Try.prog W 0 (fun _ => true) true Try.f4.params.toList args.toList ds p := hA0
  rw [Try.params4] at hA hval
  obtain ⟨v0, vs0, d0, ds0, p0, q0, hargs, rfl, rfl, h0, r0⟩ := trodAll_cons hA
  obtain ⟨v1, vs1, d1, ds1, p1, q1, rfl, rfl, rfl, h1, r1⟩ := trodAll_cons r0
  obtain ⟨rfl, rfl, rfl⟩ := trodAll_nil r1
  obtain rfl : args = #[v0, v1] := by cases args; simp_all
  obtain ⟨rfl, rfl⟩ := trodVars_none hV
  obtain ⟨n, rfl, rfl, rfl, wn⟩ := open_int Try.underlying44 (hval 0 44 v0 rfl rfl) h0
  have hb := wn
  simp only [Lit.wf, Bool.and_eq_true, decide_eq_true_eq] at hb
  obtain ⟨cs, rfl, hsz⟩ := okWide_struct Try.underlying28 (hval 1 28 v1 rfl rfl)
  rw [cells28] at hsz
  obtain ⟨f1, h1⟩ := h1
  have hr := trod_row Try.underlying28 (by kernel_rfl) h1
  obtain ⟨u0, e0, g0⟩ := hr 0 _ rfl
  obtain ⟨u1, e1, g1⟩ := hr 1 _ rfl
  obtain ⟨a, rfl, _⟩ := g0.int Try.underlying3
  obtain ⟨b, rfl, _⟩ := g1.int Try.underlying3
  obtain rfl : cs = #[.int .i64 a, .int .i64 b] := by
    apply Array.ext_getElem?
    intro i
    match i with
    | 0 => simpa [Value.cells] using e0
    | 1 => simpa [Value.cells] using e1
    | i + 2 => simp [hsz]
  obtain ⟨m, rfl⟩ := Int.eq_ofNat_of_zero_le hb.1
  refine (walk (a, b) m (by have h2 : (m : Int) ≤ 65535 := hb.2; omega) W).mono fun e W' ⟨he, hg⟩ => ?_
  subst he
  exact ⟨_, rfl, law_post laidOut params_ok rfl hW' hg (by kernel_rfl) Try.underlying4 ⟨rfl, rfl, rfl⟩⟩
theorem reads (os : Os) {H : Type} (enc : TypeId × Value → H) : ∃ places, DataW.whole enc Try.prog ((World.holding Try.prog os ⟨#[], #[], []⟩).forCall (fun _ _ => 0) ⟨#[], #[.int .u16 0, .agg #[.int .i64 0, .int .i64 0]], []⟩).memory Try.f4.params.toList Rows.gapFullSpec.vars false #[Value.int .u16 0, .agg #[.int .i64 0, .int .i64 0]].toList 8 = some ([.lit (.int .u16 0), .agg [.lit (.int .i64 0), .lit (.int .i64 0)]], [], places) :=
  ⟨[], by kernel_rfl⟩
set_option maxRecDepth 100000 in
theorem lifted (os : Os) (started : os.Started) (H : Type) (enc : TypeId × Value → H) (F : Stop.Interp) :
    ReturnsInHanded {} Try.checked os 4 .any ((OpenSpec.ofChange Rows.gapFullSpec).preRow enc Try.prog Try.f4 Rows.gapFullRow.domain false Rows.gapFullRow.laid) (((OpenSpec.ofChange Rows.gapFullSpec).at F).post enc Try.prog Try.f4 false true false false) := by
  obtain ⟨places, hx⟩ := reads os enc
  refine returnsInHanded_of_row (C := Try.checked) (s := OpenSpec.ofChange Rows.gapFullSpec) own started (by kernel_rfl) Try.func4
    (witness_row_at (enc := enc) (C := Try.checked) false (World.holding Try.prog os ⟨#[], #[], []⟩) #[.int .u16 0, .agg #[.int .i64 0, .int .i64 0]] rfl (by kernel_rfl) (by kernel_rfl) (by kernel_rfl)
      (OpenSpec.preRow_of_cond 8 hx (by kernel_rfl) (fun k hk => by cases hk) (by kernel_rfl) ⟨[], rfl, List.nodup_nil, fun _ _ h => by simp at h⟩)) ?_
  intro W base args ds gs before hval hW _ _ _ _ _ _
  exact contract H enc W base args ds gs before hval hW
theorem said : Rows.GapFullSaid :=
  OpenClaim.holds_of_cond 4 Try.f4 rfl rfl rfl rfl rfl rfl rfl ⟨rfl, rfl, rfl, rfl, rfl⟩ rfl rfl rfl rfl rfl (by kernel_rfl) Try.func4 (by kernel_rfl)
    (of_decide_eq_true (by kernel_rfl)) (by unfold Func.isWrapper; first | (rw [if_pos (by decide +kernel)]; kernel_rfl) | (rw [if_neg (by decide +kernel)]; exact ⟨rfl, rfl⟩))
    (fun os started H enc _ F => by rw [OpenClaim.pre_eq_preRow]; exact lifted os started H enc F)
#print axioms said
end gfull
end Go.Proofs.Ytidomomdfdkphaa
