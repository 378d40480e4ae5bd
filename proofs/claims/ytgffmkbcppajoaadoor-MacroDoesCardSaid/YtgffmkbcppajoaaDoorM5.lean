/- The macro's Play: the answers without keys; layer. -/
import Derived.Test.YtgffmkbcppajoaaDoorM4
namespace Go.Proofs.YtgffmkbcppajoaaDoor
open Go.RowKit
set_option maxHeartbeats 1000000 in
theorem play_mode {B m rb most : Nat} {w : World} {keys begun : List KV} (n : Int) (h : Mc B m rb w most keys begun true) :
   Calls Tryd.prog 12 #[.pointer (some ⟨m, 0, none⟩), .int .i64 n] w fun e w' => e = .returned (.tuple #[.slice none 0 0, .int .i64 12]) ∧ w = w' := by
  obtain ⟨_, _, _, _, _, _, ak, ck, bk, ab, cb, h1, _⟩ := h
  have c3 := h1.cell 3
  simp at c3
  clear h1
  go_enter Tryd.func12, Tryd.ntmps12
  go_wp2_with fail
  go_ret2
  exact ⟨rfl, rfl⟩
set_option maxHeartbeats 1000000 in
theorem play_none {B m rb most : Nat} {w : World} {begun : List KV} (n : Int) (h : Mc B m rb w most [] begun false) :
   Calls Tryd.prog 12 #[.pointer (some ⟨m, 0, none⟩), .int .i64 n] w fun e w' => e = .returned (.tuple #[.slice none 0 0, .int .i64 7]) ∧ w = w' := by
  obtain ⟨_, _, _, _, _, _, ak, ck, bk, ab, cb, h1, _⟩ := h
  have c3 := h1.cell 3
  have c1 := h1.cell 1
  simp at c1 c3
  clear h1
  go_enter Tryd.func12, Tryd.ntmps12
  go_wp2_with fail
  go_ret2
  exact ⟨rfl, rfl⟩
set_option maxHeartbeats 1000000 in
theorem play_range {B m rb most : Nat} {w : World} {keys begun : List KV} (n : Int) (h0 : 0 < keys.length) (hn : n < 1) (h : Mc B m rb w most keys begun false) :
   Calls Tryd.prog 12 #[.pointer (some ⟨m, 0, none⟩), .int .i64 n] w fun e w' => e = .returned (.tuple #[.slice none 0 0, .int .i64 3]) ∧ w = w' := by
  obtain ⟨_, _, _, _, _, _, ak, ck, bk, ab, cb, h1, _⟩ := h
  have c3 := h1.cell 3
  have c1 := h1.cell 1
  have hz : ((keys.length : Int) == 0) = false := by rw [beq_eq_false_iff_ne]; omega
  simp at c1 c3
  clear h1
  go_enter Tryd.func12, Tryd.ntmps12
  go_wp2_with fail
  go_ret2
  exact ⟨rfl, rfl⟩
set_option maxHeartbeats 1000000 in
theorem play_big {B m rb most : Nat} {w : World} {keys begun : List KV} (n : Int) (h0 : 0 < keys.length) (hn : ¬ n < 1) (hq : (9999 : Int) / (keys.length : Int) < n) (h : Mc B m rb w most keys begun false) :
   Calls Tryd.prog 12 #[.pointer (some ⟨m, 0, none⟩), .int .i64 n] w fun e w' => e = .returned (.tuple #[.slice none 0 0, .int .i64 4]) ∧ w = w' := by
  obtain ⟨_, _, _, _, a5, _, ak, ck, bk, ab, cb, h1, _⟩ := h
  have c3 := h1.cell 3
  have c1 := h1.cell 1
  have hz : ((keys.length : Int) == 0) = false := by rw [beq_eq_false_iff_ne]; omega
  have hne : ¬ (keys.length : Int) = 0 := by omega
  have hne2 : ¬ keys.length = 0 := by omega
  have hd0 : (0 : Int) ≤ 9999 / (keys.length : Int) := Int.ediv_nonneg (by omega) (by omega)
  have hd1 : (9999 : Int) / (keys.length : Int) ≤ 9999 := Int.ediv_le_self _ (by omega)
  have hwr : wrap64 ((9999 : Int) / (keys.length : Int)) = 9999 / (keys.length : Int) := by
    clear hq
    generalize (9999 : Int) / (keys.length : Int) = q at *
    unfold wrap64
    omega
  simp at c1 c3
  clear h1
  go_enter Tryd.func12, Tryd.ntmps12
  go_wp2_with fail
  go_ret2
  exact ⟨rfl, rfl⟩
set_option maxHeartbeats 1000000 in
theorem layer_any (m : Nat) (w : World) : Calls Tryd.prog 18 #[.pointer (some ⟨m, 0, none⟩)] w fun e w' => w.alloc (.cells #[.pointer (some ⟨m, 0, none⟩)] 24) = w' ∧ e = .returned (.func (.func 23) #[] #[.pointer (some ⟨w.heap.size, 0, none⟩)]) := by
  go_enter Tryd.func18, Tryd.ntmps18
  go_wp2_with fail
  go_ret
  exact ⟨rfl, rfl⟩
end Go.Proofs.YtgffmkbcppajoaaDoor
