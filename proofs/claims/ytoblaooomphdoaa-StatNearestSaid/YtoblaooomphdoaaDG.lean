/- StatNearest: for every list of signs and every list of lists of signs the law answers true. -/
import Derived.Test.YtoblaooomphdoaaDF
import Derived.Test.YtoblaooomphdoaaDE
import Derived.SizedLaws
namespace Go.Proofs.Ytoblaooomphdoaa
open Go.ChangeShapes Go.WideShapes Go.ChangeAt Go.RowKit Go.Deep
theorem bytes43 : Try.prog.bytesOf 43 = 16 := by kernel_rfl
theorem cells22 : Try.prog.cellsOf 22 = 1 := by kernel_rfl
theorem mem_weightsAll {H : Type} {P : Program} {e : TypeId} {d : DataW H} {k : Nat} (hk : k ∈ d.weights P e) : ∀ {l : List (DataW H)}, d ∈ l → k ∈ DataW.weightsAll P e l
  | x :: r, h => by
    simp only [DataW.weightsAll, List.mem_append]
    rcases List.mem_cons.1 h with rfl | h
    · exact .inl hk
    · exact .inr (mem_weightsAll hk h)
/-- How long a slice of signs is that came in. -/
theorem signs_len {H : Type} {enc : TypeId × Value → H} {W : World} {base : Nat} {spare : Nat → Bool} {held : Bool} {fuel : Nat} {cs : List Value} {x : DataW H × List MemPlace} (h : DataW.trod enc Try.prog W base spare held fuel 22 cs = some x)
    {ao : Option Addr} {n cap : Nat} (hcs : cs = [.slice ao n cap]) (hw : ∀ k ∈ x.1.weights Try.prog 22, k ≤ reachBytes) : n ≤ 35184372088830 := by
  rcases open_slice Try.underlying22 h with ⟨e, _⟩ | ⟨a, len, cap', m, nn, D, Pl, e, _, _, _, _, hx, _⟩
  · rw [hcs] at e
    simp at e
    omega
  · rw [hcs] at e
    simp at e
    obtain ⟨_, rfl, _⟩ := e
    rw [hx] at hw
    have := hw ((n + (m - n)) * Try.prog.bytesOf 43) (by simp [DataW.weights, Try.underlying22])
    rw [bytes43] at this
    unfold reachBytes at this
    omega
/-- A slice of slices of signs that came in. -/
theorem lists_of {H : Type} {enc : TypeId × Value → H} {W : World} {base : Nat} {spare : Nat → Bool} {held : Bool} {fuel : Nat} {cs : List Value} {x : DataW H × List MemPlace} (h : DataW.trod enc Try.prog W base spare held fuel 34 cs = some x)
    (hw : ∀ k ∈ x.1.weights Try.prog 34, k ≤ reachBytes) : ∃ (ao : Option Addr) (len cap : Nat) (L : Nat → List (Int × Int)), cs = [.slice ao len cap] ∧ len ≤ maxLen ∧ Lists W ao len L := by
  rcases open_slice Try.underlying34 h with ⟨e, _⟩ | ⟨a, len, cap, m, n, D, Pl, e, hb, hl, hm, hmm, hx, hi⟩
  · exact ⟨none, 0, 0, fun _ => [], e, Nat.zero_le _, fun h => by omega⟩
  · have hlm : len ≤ m := by rw [hmm]; split <;> omega
    have hrow : ∀ i, ∃ l : List (Int × Int), i < len → ∃ (aa : Option Addr) (cc bb : Nat), W.cell? (a.add i) = some (.slice aa l.length cc) ∧ Sv W bb aa cc l ∧ l.length ≤ 35184372088830 := by
      intro i
      by_cases hlt : i < len
      · obtain ⟨c, h1, h2⟩ := hi i (by omega)
        obtain ⟨aa, cc, bb, l, hcs, hs⟩ := signs_of h2
        have hk : ∀ k ∈ (D i).weights Try.prog 22, k ≤ reachBytes := by
          intro k hk
          refine hw k ?_
          rw [hx]
          simp only [DataW.weights, Try.underlying34, List.mem_cons, List.mem_append]
          exact .inr (.inl (mem_weightsAll hk (List.mem_map.2 ⟨i, by simpa using hlt, rfl⟩)))
        have hlen := signs_len h2 hcs hk
        obtain ⟨_, _, hat⟩ := World.cells?_some h1
        have h00 := hat 0 (by rw [cells22]; decide)
        rw [hcs, cells22, Nat.mul_one] at h00
        have e0 : (a.add i).add 0 = a.add i := by
          obtain ⟨b, o, s⟩ := a
          unfold Addr.add; split <;> simp_all
        rw [e0] at h00
        exact ⟨l, fun _ => ⟨aa, cc, bb, h00, hs, hlen⟩⟩
      · exact ⟨[], fun h => absurd h hlt⟩
    refine ⟨some a, len, cap, fun i => (hrow i).choose, e, by omega, fun h0 => ?_⟩
    obtain ⟨aa, cc, bb, g0, _, _⟩ := (hrow 0).choose_spec h0
    obtain ⟨b, off, spot⟩ := a
    have hspot : spot = none := by simpa [Addr.add] using World.cell?_spot g0
    subst hspot
    have hbl := World.block_lt_of_cell? W _ g0
    refine ⟨b, off, rfl, by simpa [Addr.add] using hbl, fun i hlt => ?_⟩
    obtain ⟨aa, cc, bb, g1, g2, g3⟩ := (hrow i).choose_spec hlt
    exact ⟨aa, cc, bb, (congrArg W.cell? (addr_add b off i).symm).trans g1, g2, g3⟩
namespace nearest
theorem walk (b1 : Nat) (a1 ao : Option Addr) (c1 cap len : Nat) (x : List (Int × Int)) (L : Nat → List (Int × Int)) (w : World) (h1 : Sv w b1 a1 c1 x) (h2 : Lists w ao len L) :
   Calls Try.prog 4 #[.slice a1 x.length c1, .slice ao len cap] w fun e w' => e = .returned (.bool true) ∧ Below w.heap.size w w' := by
  by_cases h : x.length ≤ 30 ∧ len ≤ 12
  · exact near_any b1 a1 ao c1 cap len x L w h1 h2 h.1 h.2
  · exact near_big a1 ao _ _ c1 cap w (by omega)
theorem params_ok : ∀ t ∈ Try.f4.params.toList, Try.prog.readableRec t = true ∧ t < Try.prog.types.size := by
  intro t ht
  rw [Try.params4] at ht
  simp only [List.mem_cons, List.not_mem_nil, or_false] at ht
  rcases ht with rfl | rfl
  · exact ⟨by kernel_rfl, of_decide_eq_true (by kernel_rfl)⟩
  · exact ⟨by kernel_rfl, of_decide_eq_true (by kernel_rfl)⟩
theorem contract (H : Type) (enc : TypeId × Value → H) (W : World) (base : Nat) (args : Array Value) (ds gs : List (DataW H)) (before : List MemPlace)
    (hval : ∀ (j : Nat) t v, Try.f4.params[j]? = some t → args[j]? = some v → Value.okWide Try.prog W .any base t v)
    (hW : DataW.Whole enc Try.prog Try.f4.params.toList Rows.statNearestSpec.vars false W args.toList ds gs before)
    (hsz : ∀ (j : Nat) (t : TypeId) (d : DataW H), Try.f4.params.toList[j]? = some t → ds[j]? = some d → ∀ k ∈ d.weights Try.prog t, k ≤ reachBytes) :
    Calls Try.prog 4 args W fun e W' => ∃ v, e = .returned v ∧ Rows.statNearestSpec.post enc Try.prog Try.f4 false true false false W args v W' := by
  have hW' := hW
  obtain ⟨p, q, hA0, hV, rfl, hfz, hnd⟩ := hW
  have hA : DataW.TrodAll enc Try.prog W 0 (fun _ => true) true Try.f4.params.toList args.toList ds p := hA0
  rw [Try.params4] at hA hval hsz
  obtain ⟨v0, vs0, d0, ds0, p0, q0, hargs, rfl, rfl, h0, r0⟩ := trodAll_cons hA
  obtain ⟨v1, vs1, d1, ds1, p1, q1, rfl, rfl, rfl, h1, r1⟩ := trodAll_cons r0
  obtain ⟨rfl, rfl, rfl⟩ := trodAll_nil r1
  obtain rfl : args = #[v0, v1] := by cases args; simp_all
  obtain ⟨rfl, rfl⟩ := trodVars_none hV
  obtain ⟨a0, l0, c0, rfl⟩ := okWide_slice Try.underlying22 (hval 0 22 v0 rfl rfl)
  obtain ⟨a1, l1, c1, rfl⟩ := okWide_slice Try.underlying34 (hval 1 34 v1 rfl rfl)
  obtain ⟨f0, h0⟩ := h0
  obtain ⟨f1, h1⟩ := h1
  obtain ⟨ao0, cap0, b0, L0, e0, hs0⟩ := signs_of h0
  obtain ⟨ao1, len1, cap1, L1, e1, _, hs1⟩ := lists_of h1 (hsz 1 34 d1 rfl rfl)
  simp [Value.cells] at e0 e1
  obtain ⟨rfl, rfl, rfl⟩ := e0
  obtain ⟨rfl, rfl, rfl⟩ := e1
  refine (walk b0 _ _ _ _ _ L0 L1 W hs0 hs1).mono fun e W' ⟨he, hg⟩ => ?_
  subst he
  exact ⟨_, rfl, law_post laidOut params_ok rfl hW' hg (by kernel_rfl) Try.underlying4 ⟨rfl, rfl, rfl⟩⟩
theorem reads (os : Os) {H : Type} (enc : TypeId × Value → H) : ∃ places, DataW.whole enc Try.prog ((World.holding Try.prog os ⟨#[], #[], []⟩).forCall (fun _ _ => 0) ⟨#[], #[.slice none 0 0, .slice none 0 0], []⟩).memory Try.f4.params.toList Rows.statNearestSpec.vars false #[Value.slice none 0 0, .slice none 0 0].toList 8 = some ([.nil, .nil], [], places) :=
  ⟨[], by kernel_rfl⟩
set_option maxRecDepth 100000 in
theorem lifted (os : Os) (started : os.Started) (H : Type) (enc : TypeId × Value → H) (F : Stop.Interp) :
    ReturnsInHanded {} Try.checked os 4 .any ((OpenSpec.ofChange Rows.statNearestSpec).preRow enc Try.prog Try.f4 Rows.statNearestRow.domain false Rows.statNearestRow.laid) (((OpenSpec.ofChange Rows.statNearestSpec).at F).post enc Try.prog Try.f4 false true false false) := by
  obtain ⟨places, hx⟩ := reads os enc
  refine returnsInHanded_of_row (C := Try.checked) (s := OpenSpec.ofChange Rows.statNearestSpec) own started (by kernel_rfl) Try.func4
    (witness_row_at (enc := enc) (C := Try.checked) false (World.holding Try.prog os ⟨#[], #[], []⟩) #[.slice none 0 0, .slice none 0 0] rfl (by kernel_rfl) (by kernel_rfl) (by kernel_rfl)
      (OpenSpec.preRow_of_cond 8 hx (by kernel_rfl) (fun k hk => by cases hk) (by kernel_rfl) ⟨[], rfl, List.nodup_nil, fun _ _ h => by simp at h⟩)) ?_
  intro W base args ds gs before hval hW _ _ hsz _ _ _
  refine contract H enc W base args ds gs before hval hW fun j t d ht hd k hk => ?_
  have hj : j < Try.f4.params.toList.length := (List.getElem?_eq_some_iff.1 ht).1
  have hj' : j < ds.length := (List.getElem?_eq_some_iff.1 hd).1
  have := List.all_eq_true.1 hsz k (DataW.weights_mem_each (j := j) (t := t) (d := d) (by rw [List.getElem?_append_left hj]; exact ht) (by rw [List.getElem?_append_left hj']; exact hd) k hk)
  simpa using this
theorem said : Rows.StatNearestSaid :=
  OpenClaim.holds_of_cond 4 Try.f4 rfl rfl rfl rfl rfl rfl rfl ⟨rfl, rfl, rfl, rfl, rfl⟩ rfl rfl rfl rfl rfl (by kernel_rfl) Try.func4 (by kernel_rfl)
    (of_decide_eq_true (by kernel_rfl)) (by unfold Func.isWrapper; first | (rw [if_pos (by decide +kernel)]; kernel_rfl) | (rw [if_neg (by decide +kernel)]; exact ⟨rfl, rfl⟩))
    (fun os started H enc _ F => by rw [OpenClaim.pre_eq_preRow]; exact lifted os started H enc F)
#print axioms said
end nearest
end Go.Proofs.Ytoblaooomphdoaa
