/- Small plain lemmas of this seat, of no program: the cells of a package-level table of rows of plain fields, out of what a row's list says of it; facts on worlds that grow. -/
import Derived.Below
import Derived.OneCell
import Derived.LaidLaws
import Derived.ChangeArms
import Derived.OpenShut
import Derived.Lib.LaidTab
import Derived.Lib.Hide
namespace Go.Proofs.Ytoblaooomphdoaa
open Go.RowKit

/-- The one cell of a plain datum. -/
def litVal {H : Type} : DataW H → Value
  | .lit (.int k n) => .int k n
  | .lit (.string b) => .string ⟨b.toArray⟩
  | .lit (.bool b) => .bool b
  | _ => undef

/-- A type of one plain cell. -/
def plainT (P : Program) (t : TypeId) : Bool :=
  match P.underlying t with
  | some (.int _) => true
  | some .string => true
  | some .bool => true
  | _ => false

theorem trod_plain {H : Type} {enc : TypeId × Value → H} {P : Program} {w : World} {base : Nat} {sp : Nat → Bool} {held : Bool} {fuel : Nat} {t : TypeId} {cs : List Value} {x : DataW H × List MemPlace}
    (ht : plainT P t = true) (h : DataW.trod enc P w base sp held fuel t cs = some x) : cs = [litVal x.1] := by
  unfold plainT at ht
  split at ht
  · rename_i k hk
    obtain ⟨n, rfl, rfl, _⟩ := DataW.trod_int hk h
    rfl
  · rename_i hk
    obtain ⟨s, rfl, rfl, _⟩ := DataW.trod_string hk h
    simp [litVal]
  · rename_i hk
    obtain ⟨n, rfl, rfl⟩ := DataW.trod_bool hk h
    rfl
  · cases ht

/-- A TABLE OF ROWS OF PLAIN FIELDS: cell j of row i holds what the row's list says. -/
theorem table_cells {P : Program} {W : World} {name : String} {g : Nat} {t e : TypeId} {n k : Nat} {fs : Array Field} {rows : List (List (DataW Unit))} {rest : List (String × DataW Unit)}
    (hg : P.globalNamed name = some g) (hty : (P.globals[g]?).map (·.type) = some t) (ht : P.underlying t = some (.array n e)) (he : P.underlying e = some (.struct fs)) (hce : P.cellsOf e = k) (hkf : fs.size = k)
    (hf : (List.range k).all (fun j => match fs[j]? with | some f => f.offset == j && (P.cellsOf f.type == 1) && plainT P f.type | none => false) = true)
    (h : laidMet P ((name, .agg (rows.map .agg)) :: rest) W) :
    ∀ (i : Nat) (r : List (DataW Unit)), rows[i]? = some r → ∀ (j : Nat) (d : DataW Unit), r[j]? = some d → W.cell? ⟨g, i * k + j, none⟩ = some (litVal d) := by
  obtain ⟨ps, ⟨g', t', cs, fuel, p, q, hg', ht', hvar, hd, _, _⟩, _⟩ := h
  obtain rfl := Option.some.inj (hg.symm.trans hg')
  obtain rfl := Option.some.inj (hty.symm.trans ht')
  obtain ⟨xs, m, _, hx, hlen, hxn, hall⟩ := DataW.trod_array ht hd
  have hxs : xs.map (·.1) = rows.map .agg := by
    have := congrArg Prod.fst hx
    simpa using this.symm
  intro i r hr j d hdj
  have hrn : rows.length = n := by have := congrArg List.length hxs; simp at this; omega
  have hin : i < n := by have := (List.getElem?_eq_some_iff.1 hr).1; omega
  have h1 := hall i hin
  have hxi : (xs.map (·.1))[i]? = some (.agg r) := by rw [hxs]; simp [hr]
  rw [List.getElem?_map] at hxi
  obtain ⟨y, hy, hy1⟩ := Option.map_eq_some_iff.1 hxi
  rw [hy] at h1
  obtain ⟨ys, m', _, hy2, hl2, hyn, hall2⟩ := DataW.trod_struct he h1
  have hys : ys.map (·.1) = r := by
    have := congrArg Prod.fst hy2
    rw [hy1] at this
    simpa using this.symm
  have hjk : j < k := by
    have := (List.getElem?_eq_some_iff.1 hdj).1
    have h3 := congrArg List.length hys
    simp at h3; omega
  have hfj := List.all_eq_true.1 hf j (by simpa using hjk)
  split at hfj
  · rename_i f hff
    simp only [Bool.and_eq_true, beq_iff_eq] at hfj
    obtain ⟨⟨ho, hc1⟩, hpl⟩ := hfj
    have h4 := hall2 j f hff
    have hyj : (ys.map (·.1))[j]? = some d := by rw [hys]; exact hdj
    rw [List.getElem?_map] at hyj
    obtain ⟨z, hz, hz1⟩ := Option.map_eq_some_iff.1 hyj
    rw [hz] at h4
    have h5 := trod_plain hpl h4
    rw [hc1, ho, hce] at h5
    have h6 : cs.toList[i * k + j]? = some (litVal z.1) := by
      have := congrArg (·[0]?) h5
      simp only [List.getElem?_take, List.getElem?_drop] at this
      simpa [hjk] using this
    rw [hz1] at h6
    exact (World.var?_cell hg hvar (i * k + j)).trans (by rw [← Array.getElem?_toList]; exact h6)
  · cases hfj

/-- A TABLE OF PLAIN ELEMENTS: cell i holds what the row's list says. -/
theorem table_plain {P : Program} {W : World} {name : String} {g : Nat} {t e : TypeId} {n : Nat} {rows : List (DataW Unit)} {rest : List (String × DataW Unit)}
    (hg : P.globalNamed name = some g) (hty : (P.globals[g]?).map (·.type) = some t) (ht : P.underlying t = some (.array n e)) (hce : P.cellsOf e = 1) (hpl : plainT P e = true)
    (h : laidMet P ((name, .agg rows) :: rest) W) : ∀ (i : Nat) (d : DataW Unit), rows[i]? = some d → W.cell? ⟨g, i, none⟩ = some (litVal d) := by
  obtain ⟨ps, ⟨g', t', cs, fuel, p, q, hg', ht', hvar, hd, _, _⟩, _⟩ := h
  obtain rfl := Option.some.inj (hg.symm.trans hg')
  obtain rfl := Option.some.inj (hty.symm.trans ht')
  obtain ⟨xs, m, _, hx, hlen, hxn, hall⟩ := DataW.trod_array ht hd
  have hxs : xs.map (·.1) = rows := by
    have := congrArg Prod.fst hx
    simpa using this.symm
  intro i d hr
  have hrn : rows.length = n := by have := congrArg List.length hxs; simp at this; omega
  have hin : i < n := by have := (List.getElem?_eq_some_iff.1 hr).1; omega
  have h1 := hall i hin
  have hxi : (xs.map (·.1))[i]? = some d := by rw [hxs]; exact hr
  rw [List.getElem?_map] at hxi
  obtain ⟨y, hy, hy1⟩ := Option.map_eq_some_iff.1 hxi
  rw [hy] at h1
  have h5 := trod_plain hpl h1
  rw [hce, Nat.mul_one] at h5
  have h6 : cs.toList[i]? = some (litVal y.1) := by
    have := congrArg (·[0]?) h5
    simp only [List.getElem?_take, List.getElem?_drop] at this
    simpa using this
  rw [hy1] at h6
  exact (World.var?_cell hg hvar i).trans (by rw [← Array.getElem?_toList]; exact h6)
end Go.Proofs.Ytoblaooomphdoaa
