/- Arguments opened, of no program: a slice of structs of plain fields, or of plain elements, as cells. -/
import Derived.Test.YtoblaooomphdoaaTab
import Derived.Deep.Slices
import Derived.Deep.Fields
import Derived.ChangeSame
namespace Go.Proofs.Ytoblaooomphdoaa
open Go.ChangeShapes Go.WideShapes Go.Deep Go.RowKit
section
variable {H : Type} {enc : TypeId × Value → H} {P : Program} {w : World} {base : Nat} {spare : Nat → Bool} {held : Bool}
/-- A value of a plain type. -/
def Fits (P : Program) (t : TypeId) (v : Value) : Prop :=
  (∃ k n, P.underlying t = some (.int k) ∧ v = .int k n ∧ (Lit.int k n).wf = true) ∨ (∃ s, P.underlying t = some .string ∧ v = .string s ∧ s.size ≤ maxLen) ∨ (∃ b, P.underlying t = some .bool ∧ v = .bool b)
theorem Fits.int {P : Program} {t : TypeId} {v : Value} {k : IntKind} (h : Fits P t v) (ht : P.underlying t = some (.int k)) : ∃ n, v = .int k n ∧ (Lit.int k n).wf = true := by
  rcases h with ⟨k', n, h1, h2, h3⟩ | ⟨s, h1, _⟩ | ⟨b, h1, _⟩
  · rw [ht] at h1; cases h1; exact ⟨n, h2, h3⟩
  · rw [ht] at h1; cases h1
  · rw [ht] at h1; cases h1
theorem Fits.str {P : Program} {t : TypeId} {v : Value} (h : Fits P t v) (ht : P.underlying t = some .string) : ∃ s, v = .string s ∧ s.size ≤ maxLen := by
  rcases h with ⟨k', n, h1, h2, h3⟩ | ⟨s, h1, h2, h3⟩ | ⟨b, h1, _⟩
  · rw [ht] at h1; cases h1
  · exact ⟨s, h2, h3⟩
  · rw [ht] at h1; cases h1
theorem Fits.bool {P : Program} {t : TypeId} {v : Value} (h : Fits P t v) (ht : P.underlying t = some .bool) : ∃ b, v = .bool b := by
  rcases h with ⟨k', n, h1, h2, h3⟩ | ⟨s, h1, _⟩ | ⟨b, h1, h2⟩
  · rw [ht] at h1; cases h1
  · rw [ht] at h1; cases h1
  · exact ⟨b, h2⟩
theorem trod_fits {fuel : Nat} {t : TypeId} {cs : List Value} {x : DataW H × List MemPlace} (ht : plainT P t = true) (h : DataW.trod enc P w base spare held fuel t cs = some x) : ∃ v, cs = [v] ∧ Fits P t v := by
  unfold plainT at ht
  split at ht
  · rename_i k hk
    obtain ⟨n, rfl, _, hw⟩ := DataW.trod_int hk h
    exact ⟨_, rfl, .inl ⟨k, n, hk, rfl, hw⟩⟩
  · rename_i hk
    obtain ⟨s, rfl, _, hs⟩ := DataW.trod_string hk h
    exact ⟨_, rfl, .inr (.inl ⟨s, hk, rfl, hs⟩)⟩
  · rename_i hk
    obtain ⟨b, rfl, _⟩ := DataW.trod_bool hk h
    exact ⟨_, rfl, .inr (.inr ⟨b, hk, rfl⟩)⟩
  · cases ht
/-- A struct of plain fields of one cell each. -/
def plainFs (P : Program) (fs : Array Field) : Bool := (List.range fs.size).all fun j => match fs[j]? with | some f => f.offset == j && (P.cellsOf f.type == 1) && plainT P f.type | none => false
theorem trod_row {fuel : Nat} {e : TypeId} {fs : Array Field} {cs : List Value} {x : DataW H × List MemPlace} (he : P.underlying e = some (.struct fs)) (hf : plainFs P fs = true)
    (h : DataW.trod enc P w base spare held fuel e cs = some x) : ∀ (j : Nat) (f : Field), fs[j]? = some f → ∃ v, cs[j]? = some v ∧ Fits P f.type v := by
  intro j f hj
  obtain ⟨xs, n, _, _, hl, hxl, hall⟩ := DataW.trod_struct he h
  have hjl : j < fs.size := (Array.getElem?_eq_some_iff.1 hj).1
  have h1 := List.all_eq_true.1 hf j (by simpa using hjl)
  rw [hj] at h1
  simp only [Bool.and_eq_true, beq_iff_eq] at h1
  obtain ⟨⟨ho, hc1⟩, hpl⟩ := h1
  have h2 := hall j f hj
  have hx : xs[j]? = some (xs[j]'(by omega)) := List.getElem?_eq_getElem (by omega)
  rw [hx] at h2
  obtain ⟨v, hv, hfit⟩ := trod_fits hpl h2
  rw [hc1, ho] at hv
  refine ⟨v, ?_, hfit⟩
  have := congrArg (·[0]?) hv
  simp only [List.getElem?_take, List.getElem?_drop] at this
  simpa using this
/-- A SLICE OF ROWS: its elements' cells. 'k': the cells of an element. -/
theorem open_rows {fuel : Nat} {t e : TypeId} {k : Nat} {cs : List Value} {x : DataW H × List MemPlace} (ht : P.underlying t = some (.slice e)) (hk : P.cellsOf e = k) (hk0 : 0 < k)
    (h : DataW.trod enc P w base spare held fuel t cs = some x) :
    ∃ (ao : Option Addr) (len cap : Nat) (E : Nat → List Value), cs = [.slice ao len cap] ∧ len ≤ cap ∧ cap ≤ maxLen ∧
      (0 < len → ∃ b off, ao = some ⟨b, off, none⟩ ∧ b < w.heap.size ∧ ∀ i, i < len → ∀ j u, (E i)[j]? = some u → w.cell? ⟨b, off + (i * k + j), none⟩ = some u) ∧
      (ao = none → len = 0 ∧ cap = 0) ∧
      ∀ i, i < len → ∃ (n : Nat) (y : DataW H × List MemPlace), (E i).length = k ∧ DataW.trod enc P w base spare held n e (E i) = some y := by
  rcases open_slice ht h with ⟨rfl, _⟩ | ⟨a, len, cap, m, n, D, Pl, rfl, hb, hl, hm, hmm, _, hi⟩
  · exact ⟨none, 0, 0, fun _ => [], rfl, Nat.le_refl _, Nat.zero_le _, fun h => by omega, fun _ => ⟨rfl, rfl⟩, fun i h => by omega⟩
  · have hlm : len ≤ m := by rw [hmm]; split <;> omega
    have hE : ∀ i, ∃ c : List Value, i < len → w.cells? base (a.add (i * P.cellsOf e)) (P.cellsOf e) = some c ∧ DataW.trod enc P w base spare held n e c = some (D i, Pl i) := by
      intro i
      by_cases h : i < len
      · obtain ⟨c, h1, h2⟩ := hi i (by omega)
        exact ⟨c, fun _ => ⟨h1, h2⟩⟩
      · exact ⟨[], fun h' => absurd h' h⟩
    obtain ⟨E, hE⟩ : ∃ E : Nat → List Value, ∀ i, i < len → w.cells? base (a.add (i * P.cellsOf e)) (P.cellsOf e) = some (E i) ∧ DataW.trod enc P w base spare held n e (E i) = some (D i, Pl i) :=
      ⟨fun i => Classical.choose (hE i), fun i => Classical.choose_spec (hE i)⟩
    refine ⟨some a, len, cap, E, rfl, hl, hm, fun h0 => ?_, (fun h => by cases h), fun i hlt => ?_⟩
    · obtain ⟨c1, _⟩ := hE 0 h0
      obtain ⟨_, hcl, hat⟩ := World.cells?_some c1
      have h00 := hat 0 (by omega)
      have hv : (E 0)[0]? = some ((E 0)[0]'(by omega)) := List.getElem?_eq_getElem (by omega)
      rw [hv] at h00
      obtain ⟨b, off, spot⟩ := a
      have hspot : spot = none := by simpa [Addr.add] using World.cell?_spot h00
      subst hspot
      refine ⟨b, off, rfl, ?_, ?_⟩
      · have := World.block_lt_of_cell? w _ h00
        simpa [Addr.add] using this
      · intro i hlt j u hu
        obtain ⟨c2, _⟩ := hE i hlt
        obtain ⟨_, hcl2, hat2⟩ := World.cells?_some c2
        have hj : j < k := by
          have := (List.getElem?_eq_some_iff.1 hu).1
          omega
        have := hat2 j (by omega)
        rw [hu, hk] at this
        rw [← this, add_plain, add_plain]
        congr 2
        all_goals (try omega)
    · obtain ⟨c2, h2⟩ := hE i hlt
      obtain ⟨_, hcl2, _⟩ := World.cells?_some c2
      exact ⟨n, _, by omega, h2⟩
end
end Go.Proofs.Ytoblaooomphdoaa
