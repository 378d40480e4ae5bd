/- StatDistances: for every three lists of signs the law answers true. -/
import Derived.Test.YtoblaooomphdoaaRows
import Derived.Test.YtoblaooomphdoaaDD
import Derived.Test.YtoblaooomphdoaaLaw
import Derived.Test.YtoblaooomphdoaaOpen
import Derived.WalkKit
import Derived.ProofKit
import Derived.OpenShut
import Derived.Deep.DeepHandedRow
namespace Go.Proofs.Ytoblaooomphdoaa
open Go.ChangeShapes Go.WideShapes Go.ChangeAt Go.RowKit
theorem own : ownKnob Try.prog.godebug = none := by kernel_rfl
theorem laidOut : laidOutB Try.prog = true := by kernel_rfl
theorem cells43 : Try.prog.cellsOf 43 = 2 := by kernel_rfl
theorem cells_sg {w : World} {b off : Nat} {l : List (Int × Int)} (h : ∀ (i : Nat) (hi : i < l.length), w.cell? ⟨b, off + i * 2, none⟩ = some (.int .i64 l[i].1) ∧ w.cell? ⟨b, off + (i * 2 + 1), none⟩ = some (.int .i64 l[i].2)) :
    ∀ j u, (sg l)[j]? = some u → w.cell? ⟨b, off + j, none⟩ = some u := by
  intro j u hj
  have hjl := (List.getElem?_eq_some_iff.1 hj).1
  rw [sg_len] at hjl
  obtain ⟨a, c⟩ := sg_at l (j / 2) (by omega)
  obtain ⟨d, e⟩ := h (j / 2) (by omega)
  rcases (by omega : j = j / 2 * 2 ∨ j = j / 2 * 2 + 1) with hj2 | hj2
  · rw [hj2] at hj ⊢
    rw [d]; rw [a] at hj; exact hj
  · rw [hj2] at hj ⊢
    rw [e]; rw [c] at hj; exact hj
/-- A slice of signs that came in. -/
theorem signs_of {H : Type} {enc : TypeId × Value → H} {W : World} {base : Nat} {spare : Nat → Bool} {held : Bool} {fuel : Nat} {cs : List Value} {x : DataW H × List MemPlace} (h : DataW.trod enc Try.prog W base spare held fuel 22 cs = some x) :
    ∃ (ao : Option Addr) (cap b : Nat) (l : List (Int × Int)), cs = [.slice ao l.length cap] ∧ Sv W b ao cap l := by
  obtain ⟨ao, len, cap, E, rfl, hl, hm, hc, hn, hE⟩ := open_rows Try.underlying22 cells43 (by decide) h
  have hrow : ∀ i, ∃ s : Int × Int, i < len → (E i)[0]? = some (.int .i64 s.1) ∧ (E i)[1]? = some (.int .i64 s.2) := by
    intro i
    by_cases hi : i < len
    · obtain ⟨n, y, _, hy⟩ := hE i hi
      have hr := trod_row Try.underlying43 (by kernel_rfl) hy
      obtain ⟨v0, h0, f0⟩ := hr 0 _ rfl
      obtain ⟨v1, h1, f1⟩ := hr 1 _ rfl
      obtain ⟨a, rfl, _⟩ := f0.int Try.underlying3
      obtain ⟨b, rfl, _⟩ := f1.int Try.underlying3
      exact ⟨(a, b), fun _ => ⟨h0, h1⟩⟩
    · exact ⟨(0, 0), fun h => absurd h hi⟩
  have hlen : ((List.range len).map fun i => (hrow i).choose).length = len := by simp
  by_cases h0 : 0 < len
  · obtain ⟨b, off, ha, hb, hcell⟩ := hc h0
    refine ⟨ao, cap, b, (List.range len).map fun i => (hrow i).choose, by rw [hlen], by rw [hlen]; exact hl, hm, fun h => (hn h).2, fun _ => ⟨hb, off, ha, cells_sg fun i hi => ?_⟩⟩
    have hi' : i < len := by simpa using hi
    obtain ⟨e0, e1⟩ := (hrow i).choose_spec hi'
    simp only [List.getElem_map, List.getElem_range]
    have d0 := hcell i hi' 0 _ e0
    exact ⟨d0, hcell i hi' 1 _ e1⟩
  · refine ⟨ao, cap, 0, (List.range len).map fun i => (hrow i).choose, by rw [hlen], by rw [hlen]; exact hl, hm, fun h => (hn h).2, fun h1 => ?_⟩
    rw [hlen] at h1; omega
namespace dists
theorem walk (b1 b2 b3 : Nat) (a1 a2 a3 : Option Addr) (c1 c2 c3 : Nat) (l m n : List (Int × Int)) (w : World) (h1 : Sv w b1 a1 c1 l) (h2 : Sv w b2 a2 c2 m) (h3 : Sv w b3 a3 c3 n) :
   Calls Try.prog 3 #[.slice a1 l.length c1, .slice a2 m.length c2, .slice a3 n.length c3] w fun e w' => e = .returned (.bool true) ∧ Below w.heap.size w w' := by
  by_cases h : l.length ≤ 40 ∧ m.length ≤ 40 ∧ n.length ≤ 40
  · exact dists_any b1 b2 b3 a1 a2 a3 c1 c2 c3 l m n w h1 h2 h3 h.1 h.2.1 h.2.2
  · exact dists_big a1 a2 a3 _ _ _ c1 c2 c3 w (by omega)
theorem params_ok : ∀ t ∈ Try.f3.params.toList, Try.prog.readableRec t = true ∧ t < Try.prog.types.size := by
  intro t ht
  rw [Try.params3] at ht
  simp only [List.mem_cons, List.not_mem_nil, or_false] at ht
  obtain rfl : t = 22 := by simpa using ht
  exact ⟨by kernel_rfl, of_decide_eq_true (by kernel_rfl)⟩
theorem contract (H : Type) (enc : TypeId × Value → H) (W : World) (base : Nat) (args : Array Value) (ds gs : List (DataW H)) (before : List MemPlace)
    (hval : ∀ (j : Nat) t v, Try.f3.params[j]? = some t → args[j]? = some v → Value.okWide Try.prog W .any base t v)
    (hW : DataW.Whole enc Try.prog Try.f3.params.toList Rows.statDistancesSpec.vars false W args.toList ds gs before) :
    Calls Try.prog 3 args W fun e W' => ∃ v, e = .returned v ∧ Rows.statDistancesSpec.post enc Try.prog Try.f3 false true false false W args v W' := by
  have hW' := hW
  obtain ⟨p, q, hA0, hV, rfl, hfz, hnd⟩ := hW
  have hA : DataW.TrodAll enc Try.prog W 0 (fun _ => true) true Try.f3.params.toList args.toList ds p := hA0
  rw [Try.params3] at hA hval
  obtain ⟨v0, vs0, d0, ds0, p0, q0, hargs, rfl, rfl, h0, r0⟩ := trodAll_cons hA
  obtain ⟨v1, vs1, d1, ds1, p1, q1, rfl, rfl, rfl, h1, r1⟩ := trodAll_cons r0
  obtain ⟨v2, vs2, d2, ds2, p2, q2, rfl, rfl, rfl, h2, r2⟩ := trodAll_cons r1
  obtain ⟨rfl, rfl, rfl⟩ := trodAll_nil r2
  obtain rfl : args = #[v0, v1, v2] := by cases args; simp_all
  obtain ⟨rfl, rfl⟩ := trodVars_none hV
  obtain ⟨a0, l0, c0, rfl⟩ := okWide_slice Try.underlying22 (hval 0 22 v0 rfl rfl)
  obtain ⟨a1, l1, c1, rfl⟩ := okWide_slice Try.underlying22 (hval 1 22 v1 rfl rfl)
  obtain ⟨a2, l2, c2, rfl⟩ := okWide_slice Try.underlying22 (hval 2 22 v2 rfl rfl)
  obtain ⟨f0, h0⟩ := h0
  obtain ⟨f1, h1⟩ := h1
  obtain ⟨f2, h2⟩ := h2
  obtain ⟨ao0, cap0, b0, L0, e0, hs0⟩ := signs_of h0
  obtain ⟨ao1, cap1, b1, L1, e1, hs1⟩ := signs_of h1
  obtain ⟨ao2, cap2, b2, L2, e2, hs2⟩ := signs_of h2
  simp [Value.cells] at e0 e1 e2
  obtain ⟨rfl, rfl, rfl⟩ := e0
  obtain ⟨rfl, rfl, rfl⟩ := e1
  obtain ⟨rfl, rfl, rfl⟩ := e2
  refine (walk b0 b1 b2 _ _ _ _ _ _ L0 L1 L2 W hs0 hs1 hs2).mono fun e W' ⟨he, hg⟩ => ?_
  subst he
  exact ⟨_, rfl, law_post laidOut params_ok rfl hW' hg (by kernel_rfl) Try.underlying4 ⟨rfl, rfl, rfl⟩⟩
theorem reads (os : Os) {H : Type} (enc : TypeId × Value → H) : ∃ places, DataW.whole enc Try.prog ((World.holding Try.prog os ⟨#[], #[], []⟩).forCall (fun _ _ => 0) ⟨#[], #[.slice none 0 0, .slice none 0 0, .slice none 0 0], []⟩).memory Try.f3.params.toList Rows.statDistancesSpec.vars false #[Value.slice none 0 0, .slice none 0 0, .slice none 0 0].toList 8 = some ([.nil, .nil, .nil], [], places) :=
  ⟨[], by kernel_rfl⟩
set_option maxRecDepth 100000 in
theorem lifted (os : Os) (started : os.Started) (H : Type) (enc : TypeId × Value → H) (F : Stop.Interp) :
    ReturnsInHanded {} Try.checked os 3 .any ((OpenSpec.ofChange Rows.statDistancesSpec).preRow enc Try.prog Try.f3 Rows.statDistancesRow.domain false Rows.statDistancesRow.laid) (((OpenSpec.ofChange Rows.statDistancesSpec).at F).post enc Try.prog Try.f3 false true false false) := by
  obtain ⟨places, hx⟩ := reads os enc
  refine returnsInHanded_of_row (C := Try.checked) (s := OpenSpec.ofChange Rows.statDistancesSpec) own started (by kernel_rfl) Try.func3
    (witness_row_at (enc := enc) (C := Try.checked) false (World.holding Try.prog os ⟨#[], #[], []⟩) #[.slice none 0 0, .slice none 0 0, .slice none 0 0] rfl (by kernel_rfl) (by kernel_rfl) (by kernel_rfl)
      (OpenSpec.preRow_of_cond 8 hx (by kernel_rfl) (fun k hk => by cases hk) (by kernel_rfl) ⟨[], rfl, List.nodup_nil, fun _ _ h => by simp at h⟩)) ?_
  intro W base args ds gs before hval hW _ _ _ _ _ _
  exact contract H enc W base args ds gs before hval hW
theorem said : Rows.StatDistancesSaid :=
  OpenClaim.holds_of_cond 3 Try.f3 rfl rfl rfl rfl rfl rfl rfl ⟨rfl, rfl, rfl, rfl, rfl⟩ rfl rfl rfl rfl rfl (by kernel_rfl) Try.func3 (by kernel_rfl)
    (of_decide_eq_true (by kernel_rfl)) (by unfold Func.isWrapper; first | (rw [if_pos (by decide +kernel)]; kernel_rfl) | (rw [if_neg (by decide +kernel)]; exact ⟨rfl, rfl⟩))
    (fun os started H enc _ F => by rw [OpenClaim.pre_eq_preRow]; exact lifted os started H enc F)
#print axioms said
end dists
end Go.Proofs.Ytoblaooomphdoaa
