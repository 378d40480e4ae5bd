/- The macro's Play: its keys. -/
import Derived.Test.YtgffmkbcppajoaaDoorM6
import Derived.Deep.Onto
namespace Go.Proofs.YtgffmkbcppajoaaDoor
open Go.RowKit
set_option maxHeartbeats 1000000 in
theorem play_yes {B m rb most : Nat} {w : World} {keys begun : List KV} (n : Nat) (h0 : 0 < keys.length) (hn : 1 ≤ n) (hq : n * keys.length ≤ 9999) (h : Mc B m rb w most keys begun false) :
   Calls Tryd.prog 12 #[.pointer (some ⟨m, 0, none⟩), .int .i64 n] w fun e w' => ∃ v, e = .returned (.tuple #[v, .int .i64 0]) ∧ w'.ownsRow w.heap.size 32 4 v (n * keys.length) (kg (rep n keys)) ∧ Below w.heap.size w w' := by
  have hlt := h.lt
  obtain ⟨_, _, _, _, a5, _, ak, ck, bk, ab, cb, h1, h2, _⟩ := h
  have H1 := Lib.hid h1
  have H2 := Lib.hid h2
  have c3 := h1.cell 3
  have c1 := h1.cell 1
  have hz : ((keys.length : Int) == 0) = false := by rw [beq_eq_false_iff_ne]; omega
  have hne : ¬ (keys.length : Int) = 0 := by omega
  have hne2 : ¬ keys.length = 0 := by omega
  have hd0 : (0 : Int) ≤ 9999 / (keys.length : Int) := Int.ediv_nonneg (by omega) (by omega)
  have hd1 : (9999 : Int) / (keys.length : Int) ≤ 9999 := Int.ediv_le_self _ (by omega)
  have hge : ¬ (9999 : Int) / (keys.length : Int) < (n : Int) := by
    have : (n : Int) ≤ 9999 / (keys.length : Int) := (Int.le_ediv_iff_mul_le (by omega)).2 (by rw [← Int.natCast_mul]; omega)
    omega
  have hn9 : n ≤ 9999 := by omega
  have hn1 : ¬ (n : Int) < 1 := by omega
  have hwr : wrap64 ((9999 : Int) / (keys.length : Int)) = 9999 / (keys.length : Int) := by
    clear hge
    generalize (9999 : Int) / (keys.length : Int) = q at *
    unfold wrap64
    omega
  simp at c1 c3
  clear h1 h2
  go_enter Tryd.func12, Tryd.ntmps12
  go_wp2_with (go_at_call 18; refine (layer_any _ _).mono ?_; rintro e w1 ⟨rfl, rfl⟩)
  have hA : Below w.heap.size w (w.alloc (.cells #[.pointer (some ⟨m, 0, none⟩)] 24)) := (Below.refl _ _).alloc (Nat.le_refl _) _
  refine (lay_any keys n hq hn9 (H1.out.below hA hlt) (H2.out.below hA) (Blk.new w #[.pointer (some ⟨m, 0, none⟩)] 24)).mono ?_
  rintro e w2 ⟨v, rfl, ho, hb⟩
  have HO := Lib.hid (ho.mono (show w.heap.size ≤ _ by simp))
  have HB := Lib.hid (hA.trans (hb.mono (by simp)))
  clear ho hb hA
  go_wp2_with fail
  go_ret2
  exact ⟨v, rfl, HO.out, HB.out⟩
end Go.Proofs.YtgffmkbcppajoaaDoor
