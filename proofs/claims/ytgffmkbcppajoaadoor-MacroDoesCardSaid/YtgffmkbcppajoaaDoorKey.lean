/- The contract of key.Check, for every key: the functions that it reaches are walked, each once. -/
import Derived.Test.YtgffmkbcppajoaaDoorProg
import Derived.Test.YtgffmkbcppajoaaDoorTab
import Derived.Handy
import Derived.WalkSpells
import Derived.WalkLawsBesides
import Derived.Outline
namespace Go.Proofs.YtgffmkbcppajoaaDoor
open Go.RowKit
def rightB (v : Int) : Bool := if 0 ≤ v ∧ v ≤ 1114111 then decide (v < 55296) || decide (57343 < v) else decide (1114240 ≤ v) && decide (v ≤ 1114367)
set_option maxHeartbeats 400000 in
theorem right_any (v : Int) (w : World) : Calls Tryd.prog 24 #[.int .i64 v] w fun e w' => e = .returned (.bool (rightB v)) ∧ w = w' := by
  by_cases h1 : 0 ≤ v <;> by_cases h2 : v ≤ 1114111 <;> by_cases h3 : v < 55296 <;> by_cases h4 : 57343 < v <;> by_cases h5 : 1114240 ≤ v <;> by_cases h6 : v ≤ 1114367 <;> first | (exfalso; omega) | skip
  all_goals
    go_enter Tryd.func24, Tryd.ntmps24
    go_wp2
    go_ret
    exact ⟨by simp [rightB, *], rfl⟩
def keyRows : List (Int × Int × List UInt8 × List UInt8) := [(4, 13, [82, 69, 84], [13]), (4, 10, [76, 70, 68], [10]), (5, 0, [69, 83, 67], [27]), (6, 0, [68, 69, 76], [127]), (7, 0, [85, 80], [27, 91, 65]), (8, 0, [68, 79, 87, 78], [27, 91, 66]), (9, 0, [82, 73, 71, 72, 84], [27, 91, 67]), (10, 0, [76, 69, 70, 84], [27, 91, 68]), (11, 0, [72, 79, 77, 69], [27, 91, 72]), (12, 0, [69, 78, 68], [27, 91, 70]), (13, 0, [68, 69, 76, 69, 84, 69], [27, 91, 51, 126]), (14, 0, [80, 71, 85, 80], [27, 91, 53, 126]), (14, 1, [80, 71, 68, 78], [27, 91, 54, 126])]
def kK (i : Nat) : Int := (keyRows.getD i default).1
def kV (i : Nat) : Int := (keyRows.getD i default).2.1
def kN (i : Nat) : ByteArray := ⟨(keyRows.getD i default).2.2.1.toArray⟩
def kB (i : Nat) : ByteArray := ⟨(keyRows.getD i default).2.2.2.toArray⟩
/-- The table of the keys that have names lies in memory. -/
def KeyTab (w : World) : Prop := 0 < w.heap.size ∧ ∀ i, i < 13 → w.cell? ⟨0, i * 4, none⟩ = some (.int .i64 (kK i)) ∧ w.cell? ⟨0, i * 4 + 1, none⟩ = some (.int .i64 (kV i)) ∧ w.cell? ⟨0, i * 4 + 2, none⟩ = some (.string (kN i)) ∧ w.cell? ⟨0, i * 4 + 3, none⟩ = some (.string (kB i))
theorem KeyTab.below {w w' : World} (h : KeyTab w) (hb : Below w.heap.size w w') : KeyTab w' :=
  ⟨Nat.lt_of_lt_of_le h.1 hb.size, fun i hi => by
    obtain ⟨a, b, c, d⟩ := h.2 i hi
    exact ⟨(hb.cell h.1).trans a, (hb.cell h.1).trans b, (hb.cell h.1).trans c, (hb.cell h.1).trans d⟩⟩

theorem own1_any (a b : Int) (nm by' : ByteArray) (kb : Nat) (v : Int) (w : World) (hkb : kb < w.heap.size)
   (h1 : w.cell? ⟨kb, 1, none⟩ = some (.int .i64 v)) :
   Calls Tryd.prog 27 #[.agg #[.int .i64 a, .int .i64 b, .string nm, .string by'], .pointer (some ⟨kb, 0, none⟩)] w fun e w' => e = .returned (.bool (b == v)) ∧ Below w.heap.size w w' := by
  go_enter Tryd.func27, Tryd.ntmps27
  go_wp2
  go_ret
  exact ⟨rfl, by go_grown⟩
theorem cellsBelow {B : Nat} {w w' : World} (h : Below B w w') : ∀ b o, b < B → w'.cell? ⟨b, o, none⟩ = w.cell? ⟨b, o, none⟩ := fun b o hb => h.cell (p := ⟨b, o, none⟩) hb
theorem frozenBelow {B : Nat} {w w' : World} (h : Below B w w') : ∀ b o, b < B → w'.frozen? ⟨b, o, none⟩ = w.frozen? ⟨b, o, none⟩ := fun b o hb => h.frozen (p := ⟨b, o, none⟩) hb
def ownB (n : Nat) (kd v : Int) : Bool := (List.range n).any fun i => kK i == kd && kV i == v
theorem ownB_succ (n : Nat) (kd v : Int) : ownB (n + 1) kd v = (ownB n kd v || (kK n == kd && kV n == v)) := by
  simp [ownB, List.range_succ]
theorem ownB_at (k : Nat) (kd v : Int) (h : k < 13) (hm : (kK k == kd && kV k == v) = true) : ownB 13 kd v = true := by
  unfold ownB; rw [List.any_eq_true]; exact ⟨k, by simpa using h, hm⟩
def Found (kd v : Int) (w : World) (e : Ending) (w' : World) : Prop := ∃ (a b : Int) (c d : ByteArray), e = .returned (.tuple #[.agg #[.int .i64 a, .int .i64 b, .string c, .string d], .bool (ownB 13 kd v)]) ∧ Below w.heap.size w w'
theorem found_mk {kd v : Int} {w w' : World} {x : Bool} (a b : Int) (c d : ByteArray) (h : ownB 13 kd v = x) (hb : Below w.heap.size w w') : Found kd v w (.returned (.tuple #[.agg #[.int .i64 a, .int .i64 b, .string c, .string d], .bool x])) w' := ⟨a, b, c, d, by rw [h], hb⟩
set_option maxHeartbeats 1000000 in
theorem finder1_any (ab kb : Nat) (kd v : Int) (w : World) (hab : ab < w.heap.size) (hkb : kb < w.heap.size) (ht : KeyTab w)
   (h1 : w.cell? ⟨ab, 1, none⟩ = some (.int .i64 v)) (h2 : w.cell? ⟨kb, 0, none⟩ = some (.int .i64 kd)) :
   Calls Tryd.prog 28 #[.func (.func 27) #[] #[.pointer (some ⟨ab, 0, none⟩)], .pointer (some ⟨kb, 0, none⟩)] w (Found kd v w) := by
  have h0 := ht.1
  have HT := Lib.hid ht.2
  clear ht
  go_enter Tryd.func28, Tryd.ntmps28
  go_wp2
  obtain ⟨w1, hw1⟩ : ∃ w1, w1 = w.alloc (Obj.cells #[Value.int IntKind.i64 0, Value.int IntKind.i64 0, Value.string { data := #[] }, Value.string { data := #[] }] 52) := ⟨_, rfl⟩
  rw [← hw1]
  have hs1 : w.heap.size + 1 = w1.heap.size := by rw [hw1]; simp
  have hb1 : Below w.heap.size w w1 := by rw [hw1]; go_grown
  have H1 := Lib.hid hb1
  have x0 : w1.cell? ⟨w.heap.size, 0, none⟩ = some (.int .i64 0) := by rw [hw1]; simp
  have x1 : w1.cell? ⟨w.heap.size, 1, none⟩ = some (.int .i64 0) := by rw [hw1]; simp
  have x2 : w1.cell? ⟨w.heap.size, 2, none⟩ = some (.string ⟨#[]⟩) := by rw [hw1]; simp
  have x3 : w1.cell? ⟨w.heap.size, 3, none⟩ = some (.string ⟨#[]⟩) := by rw [hw1]; simp
  have xf : ∀ j, w1.frozen? ⟨w.heap.size, j, none⟩ = false := by intro j; rw [hw1]; simp
  clear hb1 hw1
  have H3 := Lib.hid (And.intro h1 (And.intro x0 (And.intro x1 (And.intro x2 (And.intro x3 xf)))))
  clear h1 x0 x1 x2 x3 xf
  go_loopw [7] (fun i wr => ∃ k : Nat, k ≤ 13 ∧ i = .int .i64 k ∧ Hid (ownB k kd v = false) ∧ Below w1.heap.size w1 wr) (fun i _ => 13 - (intOf i).toNat)
  case atStart => exact ⟨0, by omega, rfl, rfl, Below.refl _ _⟩
  case round =>
    obtain ⟨k, hk, rfl, hno, hbel⟩ := hrel
    have hsz := hbel.size
    have hkr : kb < wr.heap.size := by omega
    have har : ab < wr.heap.size := by omega
    have hBr : w.heap.size < wr.heap.size := by omega
    obtain ⟨y1, y2, y3, y4, y5, y6⟩ := H3.out
    have z1 := (hbel.cell (p := ⟨ab, 1, none⟩) (by show ab < _; omega)).trans ((H1.out.cell (p := ⟨ab, 1, none⟩) hab).trans y1)
    have z2 := (hbel.cell (p := ⟨w.heap.size, 0, none⟩) (by show w.heap.size < _; omega)).trans y2
    have z3 := (hbel.cell (p := ⟨w.heap.size, 1, none⟩) (by show w.heap.size < _; omega)).trans y3
    have z4 := (hbel.cell (p := ⟨w.heap.size, 2, none⟩) (by show w.heap.size < _; omega)).trans y4
    have z5 := (hbel.cell (p := ⟨w.heap.size, 3, none⟩) (by show w.heap.size < _; omega)).trans y5
    have z6 : ∀ j, wr.frozen? ⟨w.heap.size, j, none⟩ = false := fun j => (hbel.frozen (p := ⟨w.heap.size, j, none⟩) (by show w.heap.size < _; omega)).trans (y6 j)
    clear y1 y2 y3 y4 y5 y6
    have HB := Lib.hid hbel
    by_cases hlt : k < 13
    · obtain ⟨c0, c1, c2, c3⟩ := HT.out k hlt
      have d0 := (hbel.cell (p := ⟨0, k * 4, none⟩) (by show 0 < _; omega)).trans ((H1.out.cell (p := ⟨0, k * 4, none⟩) h0).trans c0)
      have d1 := (hbel.cell (p := ⟨0, k * 4 + 1, none⟩) (by show 0 < _; omega)).trans ((H1.out.cell (p := ⟨0, k * 4 + 1, none⟩) h0).trans c1)
      have d2 := (hbel.cell (p := ⟨0, k * 4 + 2, none⟩) (by show 0 < _; omega)).trans ((H1.out.cell (p := ⟨0, k * 4 + 2, none⟩) h0).trans c2)
      have d3 := (hbel.cell (p := ⟨0, k * 4 + 3, none⟩) (by show 0 < _; omega)).trans ((H1.out.cell (p := ⟨0, k * 4 + 3, none⟩) h0).trans c3)
      have e2 := (hbel.cell (p := ⟨kb, 0, none⟩) (by show kb < _; omega)).trans ((H1.out.cell (p := ⟨kb, 0, none⟩) hkb).trans h2)
      clear c0 c1 c2 c3 hbel
      cases hkk : (kK k == kd)
      · go_wp2_with fail
        go_roundw
        case rel => exact ⟨k + 1, by omega, by go_num, by show _ = _; rw [ownB_succ, hkk, hno.out]; rfl, HB.out.alloc (by omega) _⟩
        case measure => simp [intOf]; omega
      · go_wp2_with fail
        refine (own1_any _ _ _ _ _ v _ (by simp; omega) (by rw [World.cell?_alloc_past _ _ _ har]; exact z1)).mono ?_
        rintro e w2 ⟨rfl, hb2⟩
        have hc := cellsBelow hb2
        have hf := frozenBelow hb2
        have hz := hb2.size
        simp only [World.size_alloc] at hz
        have hz1 : wr.heap.size < w2.heap.size := by omega
        have hz2 : w.heap.size < w2.heap.size := by omega
        cases hvv : (kV k == v)
        · go_wp2_with fail
          go_roundw
          case rel => exact ⟨k + 1, by omega, by go_num, by show _ = _; rw [ownB_succ, hkk, hvv, hno.out]; rfl, (HB.out.alloc (by omega) _).trans (hb2.mono (by simp; omega))⟩
          case measure => simp [intOf]; omega
        · have q2 := (hc w.heap.size 0 (by simp; omega)).trans ((World.cell?_alloc_past _ _ _ hBr).trans z2)
          have q3 := (hc w.heap.size 1 (by simp; omega)).trans ((World.cell?_alloc_past _ _ _ hBr).trans z3)
          have q4 := (hc w.heap.size 2 (by simp; omega)).trans ((World.cell?_alloc_past _ _ _ hBr).trans z4)
          have q5 := (hc w.heap.size 3 (by simp; omega)).trans ((World.cell?_alloc_past _ _ _ hBr).trans z5)
          go_wp2_with fail
          refine bodyPost_ret (v := .tuple #[.agg #[.int .i64 (kK k), .int .i64 (kV k), .string (kN k), .string (kB k)], .bool true]) (by simp only [results, Tryd.results28]; go_simp) rfl (found_mk _ _ _ _ (ownB_at k kd v hlt (by simp [hkk, hvv])) ?_)
          exact (((((((H1.out.trans (HB.out.mono (by omega))).alloc (by omega) _).trans (hb2.mono (by simp; omega))).setCell (by simp) _).setCell (by simp) _).setCell (by simp) _).setCell (by simp) _)
    · have : k = 13 := by omega
      subst this
      go_wp2_with fail
      refine bodyPost_ret (v := .tuple #[.agg #[.int .i64 0, .int .i64 0, .string ⟨#[]⟩, .string ⟨#[]⟩], .bool false]) (by simp only [results, Tryd.results28]; go_simp) rfl (found_mk _ _ _ _ hno.out ?_)
      exact ((((((H1.out.trans (HB.out.mono (by omega)))).setCell (by simp) _).setCell (by simp) _).setCell (by simp) _).setCell (by simp) _)
end Go.Proofs.YtgffmkbcppajoaaDoor
