/- Slices of ints: what they read as; the reference comparison of two of them. -/
import Derived.Test.YtipekkddhelhmaaDoorU4
import Derived.Deep.QuietTactic
import Derived.BigQuiet
namespace Go.Proofs.YtipekkddhelhmaaDoor
open Go.RowKit
/-- A slice of n ints, and what each is, in a world. -/
def SlI (w : World) (v : Value) (n : Nat) (f : Nat → Int) : Prop :=
  ∃ ao cap, v = .slice ao n cap ∧ n ≤ maxLen ∧ (0 < n → ∃ b off, ao = some ⟨b, off, none⟩ ∧ b < w.heap.size ∧ ∀ i, i < n → w.cell? ⟨b, off + i, none⟩ = some (.int .i64 (f i)))
theorem SlI.below {w w' : World} {v : Value} {n : Nat} {f : Nat → Int} (h : SlI w v n f) (hb : Below w.heap.size w w') : SlI w' v n f := by
  obtain ⟨ao, cap, rfl, hm, hc⟩ := h
  refine ⟨ao, cap, rfl, hm, fun h0 => ?_⟩
  obtain ⟨b, off, rfl, hlt, hcell⟩ := hc h0
  exact ⟨b, off, rfl, Nat.lt_of_lt_of_le hlt hb.size, fun i hi => (hb.cell (p := ⟨b, off + i, none⟩) hlt).trans (hcell i hi)⟩
def natsAt (l : List Nat) (i : Nat) : Int := (l.getD i 0 : Nat)
theorem own_sl {w : World} {base n : Nat} {v : Value} {l : List Nat} (h : w.ownsRow base 3 1 v n (ints l)) : n = l.length ∧ SlI w v n (natsAt l) := by
  have hn : n = l.length := by have := h.1; rw [ints_len] at this; omega
  refine ⟨hn, ?_⟩
  rcases h.2 with ⟨rfl, h0⟩ | ⟨g, cap, cur, rfl, hb, hg, h1, h2, h3, h4⟩
  · exact ⟨none, 0, by rw [h0], by omega, fun h => by omega⟩
  · refine ⟨_, cap, rfl, by omega, fun h0 => ⟨g, 0, rfl, (Array.getElem?_eq_some_iff.1 hg).1, fun i hi => ?_⟩⟩
    have hc := h.cellAt i (by omega)
    rw [Nat.zero_add, hc]
    simp [ints, natsAt, List.getD, hn ▸ hi]
def sameB (n m : Nat) (f g : Nat → Int) : Bool := decide (n = m ∧ ∀ i, i < n → f i = g i)
set_option maxHeartbeats 1000000 in
theorem same_any (v u : Value) (n m : Nat) (f g : Nat → Int) (w : World) (hv : SlI w v n f) (hu : SlI w u m g) :
   Calls Tryd.prog 9 #[v, u] w fun e w' => e = .returned (.bool (sameB n m f g)) ∧ Below w.heap.size w w' := by
  obtain ⟨ao, cap, rfl, hm, hc⟩ := hv
  obtain ⟨bo, cap2, rfl, hm2, hc2⟩ := hu
  unfold maxLen at hm hm2
  have HC := Lib.hid hc
  have HD := Lib.hid hc2
  clear hc hc2
  by_cases hnm : n = m
  · subst hnm
    go_enter Tryd.func9, Tryd.ntmps9
    go_wp2_with fail
    go_loopw [5] (fun i wr => ∃ k : Nat, k ≤ n ∧ i = .int .i64 k ∧ (∀ j, j < k → f j = g j) ∧ Below w.heap.size w wr) (fun i _ => n - (intOf i).toNat)
    case atStart => exact ⟨0, by omega, rfl, fun j h => by omega, Below.refl _ _⟩
    case round =>
      obtain ⟨k, hk, rfl, hall, hb⟩ := hrel
      have HB := Lib.hid hb
      have HALL := Lib.hid hall
      clear hb hall
      by_cases hlt : k < n
      · obtain ⟨b, off, rfl, hbl, hcell⟩ := HC.out (by omega)
        obtain ⟨b2, off2, rfl, hbl2, hcell2⟩ := HD.out (by omega)
        have d1 := (HB.out.cell (p := ⟨b, off + k, none⟩) hbl).trans (hcell k hlt)
        have d2 := (HB.out.cell (p := ⟨b2, off2 + k, none⟩) hbl2).trans (hcell2 k hlt)
        clear hcell hcell2
        by_cases he : f k = g k
        · have hq : ((f k : Int) != g k) = false := by simp [he]
          have HE := Lib.hid he
          clear he
          go_wp2_with fail
          go_quiet (fail)
          go_wp2_with fail
          go_roundw
          case rel => exact ⟨k + 1, by omega, by go_num, fun j hj => by rcases Nat.lt_succ_iff_lt_or_eq.1 hj with h | rfl; exact HALL.out j h; exact HE.out, below_drewN HB.out _⟩
          case measure => simp [intOf]; omega
        · have hq : ((f k : Int) != g k) = true := by simp [he]
          have HE := Lib.hid he
          clear he
          go_wp2_with fail
          go_quiet (fail)
          go_wp2_with fail
          go_ret
          exact ⟨by rw [show sameB n n f g = false by simp only [sameB, decide_eq_false_iff_not]; exact fun h => HE.out (h.2 k hlt)]; rfl, below_drewN HB.out _⟩
      · go_wp2_with fail
        go_ret
        exact ⟨by rw [show sameB n n f g = true by simp only [sameB, decide_eq_true_eq]; exact ⟨trivial, fun i hi => HALL.out i (by omega)⟩]; rfl, HB.out⟩
  · have hq : (((n : Nat) : Int) != ((m : Nat) : Int)) = true := by rw [bne_iff_ne]; omega
    have HE := Lib.hid hnm
    clear hnm
    go_enter Tryd.func9, Tryd.ntmps9
    go_wp2_with fail
    go_ret
    exact ⟨by rw [show sameB n m f g = false by simp only [sameB, decide_eq_false_iff_not]; exact fun h => HE.out h.1]; rfl, Below.refl _ _⟩
end Go.Proofs.YtipekkddhelhmaaDoor
