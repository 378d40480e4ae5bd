/- The program's Shares of four signs, one of label 0 and three of label 2. -/
import Derived.Test.YtoblaooomphdoaaDA
namespace Go.Proofs.Ytoblaooomphdoaa
open Go.RowKit
def CTA : Nat → Array Value
  | 0 => #[.int .i64 0, .int .i64 0, .int .i64 0, .int .i64 0, .int .i64 0, .int .i64 0]
  | 1 => #[.int .i64 1, .int .i64 0, .int .i64 0, .int .i64 0, .int .i64 0, .int .i64 0]
  | 2 => #[.int .i64 1, .int .i64 0, .int .i64 1, .int .i64 0, .int .i64 0, .int .i64 0]
  | 3 => #[.int .i64 1, .int .i64 0, .int .i64 2, .int .i64 0, .int .i64 0, .int .i64 0]
  | _ => #[.int .i64 1, .int .i64 0, .int .i64 3, .int .i64 0, .int .i64 0, .int .i64 0]
def FTA : Nat → Array Value
  | 0 => #[.float .f64 0, .float .f64 0, .float .f64 0, .float .f64 0, .float .f64 0, .float .f64 0]
  | 1 => #[.float .f64 4598175219545276416, .float .f64 0, .float .f64 0, .float .f64 0, .float .f64 0, .float .f64 0]
  | 2 => #[.float .f64 4598175219545276416, .float .f64 0, .float .f64 0, .float .f64 0, .float .f64 0, .float .f64 0]
  | 3 => #[.float .f64 4598175219545276416, .float .f64 0, .float .f64 4604930618986332160, .float .f64 0, .float .f64 0, .float .f64 0]
  | 4 => #[.float .f64 4598175219545276416, .float .f64 0, .float .f64 4604930618986332160, .float .f64 0, .float .f64 0, .float .f64 0]
  | 5 => #[.float .f64 4598175219545276416, .float .f64 0, .float .f64 4604930618986332160, .float .f64 0, .float .f64 0, .float .f64 0]
  | _ => #[.float .f64 4598175219545276416, .float .f64 0, .float .f64 4604930618986332160, .float .f64 0, .float .f64 0, .float .f64 0]
theorem quo14 : floatBits .quo .f64 (floatOfInt .f64 1) (floatOfInt .f64 4) = some 4598175219545276416 := by decide +kernel
theorem quo04 : floatBits .quo .f64 (floatOfInt .f64 0) (floatOfInt .f64 4) = some 0 := by decide +kernel
theorem quo34 : floatBits .quo .f64 (floatOfInt .f64 3) (floatOfInt .f64 4) = some 4604930618986332160 := by decide +kernel
theorem ix0 (w : World) : (Instr.index 48 (.agg #[.int .i64 1, .int .i64 0, .int .i64 3, .int .i64 0, .int .i64 0, .int .i64 0]) (.int .i64 0)).run Try.prog w = .ok (.int .i64 1) w := by kernel_rfl
theorem ix1 (w : World) : (Instr.index 48 (.agg #[.int .i64 1, .int .i64 0, .int .i64 3, .int .i64 0, .int .i64 0, .int .i64 0]) (.int .i64 1)).run Try.prog w = .ok (.int .i64 0) w := by kernel_rfl
theorem ix2 (w : World) : (Instr.index 48 (.agg #[.int .i64 1, .int .i64 0, .int .i64 3, .int .i64 0, .int .i64 0, .int .i64 0]) (.int .i64 2)).run Try.prog w = .ok (.int .i64 3) w := by kernel_rfl
theorem ix3 (w : World) : (Instr.index 48 (.agg #[.int .i64 1, .int .i64 0, .int .i64 3, .int .i64 0, .int .i64 0, .int .i64 0]) (.int .i64 3)).run Try.prog w = .ok (.int .i64 0) w := by kernel_rfl
theorem ix4 (w : World) : (Instr.index 48 (.agg #[.int .i64 1, .int .i64 0, .int .i64 3, .int .i64 0, .int .i64 0, .int .i64 0]) (.int .i64 4)).run Try.prog w = .ok (.int .i64 0) w := by kernel_rfl
theorem ix5 (w : World) : (Instr.index 48 (.agg #[.int .i64 1, .int .i64 0, .int .i64 3, .int .i64 0, .int .i64 0, .int .i64 0]) (.int .i64 5)).run Try.prog w = .ok (.int .i64 0) w := by kernel_rfl
theorem store_float (w : World) (a : Addr) (n : Nat) : (store a (.float .f64 n) .plain).run Try.prog w = stored Try.prog w a (.float .f64 n) .plain := run_store Try.prog w a _ _ rfl
def sig4 : List (Int × Int) := [(97, 0), (98, 2), (99, 2), (100, 2)]
set_option maxHeartbeats 16000000 in
theorem shares_any (b1 c1 : Nat) (a1 : Option Addr) (w : World) (h1 : Sv w b1 a1 c1 sig4) : Calls Try.prog 16 #[.slice a1 4 c1] w fun e w' => e = .returned (.agg #[.float .f64 4598175219545276416, .float .f64 0, .float .f64 4604930618986332160, .float .f64 0, .float .f64 0, .float .f64 0]) ∧ Below w.heap.size w w' := by
  obtain ⟨off, hb, rfl, hc⟩ := h1.2.2.2.at (by decide)
  have HC := Lib.hid hc
  have hsf := store_float
  clear hc h1
  go_enter Try.func16, Try.ntmps16
  go_wp2_with fail
  go_loopw [11] (fun p wr => ∃ i : Nat, i ≤ 4 ∧ p = .int .i64 i ∧ Hid (Blk wr (w.heap.size + 1) (CTA i) 48) ∧ Hid (Blk wr w.heap.size #[.float .f64 0, .float .f64 0, .float .f64 0, .float .f64 0, .float .f64 0, .float .f64 0] 38) ∧ Hid (Below w.heap.size w wr)) (fun p _ => 4 - (intOf p).toNat)
  case atStart => exact ⟨0, by omega, rfl, new_at _ _ _ (by simp), (Blk.new w _ _).alloc _, ((Below.refl _ _).alloc (Nat.le_refl _) _).alloc (by simp) _⟩
  case round =>
    obtain ⟨i, hi, rfl, ht, hr, hB⟩ := hrel
    have hsz := hB.out.size
    have htl := ht.out.lt
    have hbw : b1 < wr.heap.size := by omega
    rcases (by omega : i = 0 ∨ i = 1 ∨ i = 2 ∨ i = 3 ∨ i = 4) with rfl | rfl | rfl | rfl | rfl
    · obtain ⟨x0, x1⟩ := HC.out 0 (by decide)
      rw [← cellsBelow hB.out _ _ hb] at x0 x1
      have ht2 : Blk wr (w.heap.size + 1) #[.int .i64 0, .int .i64 0, .int .i64 0, .int .i64 0, .int .i64 0, .int .i64 0] 48 := ht.out
      have t0 := ht2.cell 0
      have tf := ht2.free
      have hne : wr.heap.size ≠ w.heap.size + 1 := by omega
      simp [sig4] at x0 x1 t0
      go_wp2_with fail
      go_roundw
      case rel => exact ⟨1, by omega, by go_num, (ht2.set 0 (.int .i64 1)).alloc _, (hr.out.other _ (by simp)).alloc _, (hB.out.setCell (by simp) _).alloc (by simp; omega) _⟩
      case measure => simp [intOf]
    · obtain ⟨x0, x1⟩ := HC.out 1 (by decide)
      rw [← cellsBelow hB.out _ _ hb] at x0 x1
      have ht2 : Blk wr (w.heap.size + 1) #[.int .i64 1, .int .i64 0, .int .i64 0, .int .i64 0, .int .i64 0, .int .i64 0] 48 := ht.out
      have t0 := ht2.cell 2
      have tf := ht2.free
      have hne : wr.heap.size ≠ w.heap.size + 1 := by omega
      simp [sig4] at x0 x1 t0
      go_wp2_with fail
      go_roundw
      case rel => exact ⟨2, by omega, by go_num, (ht2.set 2 (.int .i64 1)).alloc _, (hr.out.other _ (by simp)).alloc _, (hB.out.setCell (by simp) _).alloc (by simp; omega) _⟩
      case measure => simp [intOf]
    · obtain ⟨x0, x1⟩ := HC.out 2 (by decide)
      rw [← cellsBelow hB.out _ _ hb] at x0 x1
      have ht2 : Blk wr (w.heap.size + 1) #[.int .i64 1, .int .i64 0, .int .i64 1, .int .i64 0, .int .i64 0, .int .i64 0] 48 := ht.out
      have t0 := ht2.cell 2
      have tf := ht2.free
      have hne : wr.heap.size ≠ w.heap.size + 1 := by omega
      simp [sig4] at x0 x1 t0
      go_wp2_with fail
      go_roundw
      case rel => exact ⟨3, by omega, by go_num, (ht2.set 2 (.int .i64 2)).alloc _, (hr.out.other _ (by simp)).alloc _, (hB.out.setCell (by simp) _).alloc (by simp; omega) _⟩
      case measure => simp [intOf]
    · obtain ⟨x0, x1⟩ := HC.out 3 (by decide)
      rw [← cellsBelow hB.out _ _ hb] at x0 x1
      have ht2 : Blk wr (w.heap.size + 1) #[.int .i64 1, .int .i64 0, .int .i64 2, .int .i64 0, .int .i64 0, .int .i64 0] 48 := ht.out
      have t0 := ht2.cell 2
      have tf := ht2.free
      have hne : wr.heap.size ≠ w.heap.size + 1 := by omega
      simp [sig4] at x0 x1 t0
      go_wp2_with fail
      go_roundw
      case rel => exact ⟨4, by omega, by go_num, (ht2.set 2 (.int .i64 3)).alloc _, (hr.out.other _ (by simp)).alloc _, (hB.out.setCell (by simp) _).alloc (by simp; omega) _⟩
      case measure => simp [intOf]
    · have ht2 : Blk wr (w.heap.size + 1) #[.int .i64 1, .int .i64 0, .int .i64 3, .int .i64 0, .int .i64 0, .int .i64 0] 48 := ht.out
      have t0 := ht2.cell 0
      have t1 := ht2.cell 1
      have t2 := ht2.cell 2
      have t3 := ht2.cell 3
      have t4 := ht2.cell 4
      have t5 := ht2.cell 5
      simp at t0 t1 t2 t3 t4 t5
      go_wp2_with fail
      clear t0 t1 t2 t3 t4 t5
      obtain ⟨wq, rfl⟩ : ∃ wq : World, wq = wr := ⟨_, rfl⟩
      go_loopw [31] (fun p wr => ∃ i : Nat, i ≤ 6 ∧ p = .int .i64 i ∧ Hid (Blk wr wq.heap.size (FTA i) 38) ∧ Hid (Blk wr w.heap.size #[.float .f64 0, .float .f64 0, .float .f64 0, .float .f64 0, .float .f64 0, .float .f64 0] 38) ∧ Hid (Below w.heap.size w wr)) (fun p _ => 6 - (intOf p).toNat)
      case atStart => exact ⟨0, by omega, rfl, Blk.new wq _ _, hr.out.alloc _, hB.out.alloc hsz _⟩
      case round =>
        have hql : w.heap.size < wq.heap.size := by omega
        clear hr hB ht ht2 hsz htl hbw
        obtain ⟨k, hk, rfl, hf, hr, hB⟩ := hrel
        rcases (by omega : k = 0 ∨ k = 1 ∨ k = 2 ∨ k = 3 ∨ k = 4 ∨ k = 5 ∨ k = 6) with rfl | rfl | rfl | rfl | rfl | rfl | rfl
        · have hf2 : Blk wr wq.heap.size #[.float .f64 0, .float .f64 0, .float .f64 0, .float .f64 0, .float .f64 0, .float .f64 0] 38 := hf.out
          have g0 := hf2.cell 0
          have gf := hf2.free
          have hix := ix0
          simp at g0
          go_wp2_with fail
          refine (share_ok 1 4 _ quo14 _).mono ?_
          rintro e w' ⟨rfl, rfl⟩
          go_wp2_with fail
          go_roundw
          case rel => (repeat apply Exists.intro); exact ⟨⟨1, by omega, by go_num, hf2.set 0 (.float .f64 4598175219545276416), hr.out.other _ (by show wq.heap.size ≠ _; omega), hB.out.setCell (by show _ ≤ wq.heap.size; omega) _⟩, rfl⟩
          case measure => simp [intOf]
        · have hf2 : Blk wr wq.heap.size #[.float .f64 4598175219545276416, .float .f64 0, .float .f64 0, .float .f64 0, .float .f64 0, .float .f64 0] 38 := hf.out
          have g0 := hf2.cell 1
          have gf := hf2.free
          have hix := ix1
          simp at g0
          go_wp2_with fail
          refine (share_ok 0 4 _ quo04 _).mono ?_
          rintro e w' ⟨rfl, rfl⟩
          go_wp2_with fail
          go_roundw
          case rel => (repeat apply Exists.intro); exact ⟨⟨2, by omega, by go_num, hf2.set 1 (.float .f64 0), hr.out.other _ (by show wq.heap.size ≠ _; omega), hB.out.setCell (by show _ ≤ wq.heap.size; omega) _⟩, rfl⟩
          case measure => simp [intOf]
        · have hf2 : Blk wr wq.heap.size #[.float .f64 4598175219545276416, .float .f64 0, .float .f64 0, .float .f64 0, .float .f64 0, .float .f64 0] 38 := hf.out
          have g0 := hf2.cell 2
          have gf := hf2.free
          have hix := ix2
          simp at g0
          go_wp2_with fail
          refine (share_ok 3 4 _ quo34 _).mono ?_
          rintro e w' ⟨rfl, rfl⟩
          go_wp2_with fail
          go_roundw
          case rel => (repeat apply Exists.intro); exact ⟨⟨3, by omega, by go_num, hf2.set 2 (.float .f64 4604930618986332160), hr.out.other _ (by show wq.heap.size ≠ _; omega), hB.out.setCell (by show _ ≤ wq.heap.size; omega) _⟩, rfl⟩
          case measure => simp [intOf]
        · have hf2 : Blk wr wq.heap.size #[.float .f64 4598175219545276416, .float .f64 0, .float .f64 4604930618986332160, .float .f64 0, .float .f64 0, .float .f64 0] 38 := hf.out
          have g0 := hf2.cell 3
          have gf := hf2.free
          have hix := ix3
          simp at g0
          go_wp2_with fail
          refine (share_ok 0 4 _ quo04 _).mono ?_
          rintro e w' ⟨rfl, rfl⟩
          go_wp2_with fail
          go_roundw
          case rel => (repeat apply Exists.intro); exact ⟨⟨4, by omega, by go_num, hf2.set 3 (.float .f64 0), hr.out.other _ (by show wq.heap.size ≠ _; omega), hB.out.setCell (by show _ ≤ wq.heap.size; omega) _⟩, rfl⟩
          case measure => simp [intOf]
        · have hf2 : Blk wr wq.heap.size #[.float .f64 4598175219545276416, .float .f64 0, .float .f64 4604930618986332160, .float .f64 0, .float .f64 0, .float .f64 0] 38 := hf.out
          have g0 := hf2.cell 4
          have gf := hf2.free
          have hix := ix4
          simp at g0
          go_wp2_with fail
          refine (share_ok 0 4 _ quo04 _).mono ?_
          rintro e w' ⟨rfl, rfl⟩
          go_wp2_with fail
          go_roundw
          case rel => (repeat apply Exists.intro); exact ⟨⟨5, by omega, by go_num, hf2.set 4 (.float .f64 0), hr.out.other _ (by show wq.heap.size ≠ _; omega), hB.out.setCell (by show _ ≤ wq.heap.size; omega) _⟩, rfl⟩
          case measure => simp [intOf]
        · have hf2 : Blk wr wq.heap.size #[.float .f64 4598175219545276416, .float .f64 0, .float .f64 4604930618986332160, .float .f64 0, .float .f64 0, .float .f64 0] 38 := hf.out
          have g0 := hf2.cell 5
          have gf := hf2.free
          have hix := ix5
          simp at g0
          go_wp2_with fail
          refine (share_ok 0 4 _ quo04 _).mono ?_
          rintro e w' ⟨rfl, rfl⟩
          go_wp2_with fail
          go_roundw
          case rel => (repeat apply Exists.intro); exact ⟨⟨6, by omega, by go_num, hf2.set 5 (.float .f64 0), hr.out.other _ (by show wq.heap.size ≠ _; omega), hB.out.setCell (by show _ ≤ wq.heap.size; omega) _⟩, rfl⟩
          case measure => simp [intOf]
        · have hf2 : Blk wr wq.heap.size #[.float .f64 4598175219545276416, .float .f64 0, .float .f64 4604930618986332160, .float .f64 0, .float .f64 0, .float .f64 0] 38 := hf.out
          have g0 := hf2.cell 0
          have g1 := hf2.cell 1
          have g2 := hf2.cell 2
          have g3 := hf2.cell 3
          have g4 := hf2.cell 4
          have g5 := hf2.cell 5
          have r0 := hr.out.cell 0
          have r1 := hr.out.cell 1
          have r2 := hr.out.cell 2
          have r3 := hr.out.cell 3
          have r4 := hr.out.cell 4
          have r5 := hr.out.cell 5
          have rf := hr.out.free
          simp at g0 g1 g2 g3 g4 g5 r0 r1 r2 r3 r4 r5
          go_wp2_with fail
          refine bodyPost_ret (v := .agg #[.float .f64 4598175219545276416, .float .f64 0, .float .f64 4604930618986332160, .float .f64 0, .float .f64 0, .float .f64 0]) (by simp only [results, show Try.f16.results = #[.cell 2 38] from rfl]; go_simp) rfl ⟨rfl, ?_⟩
          have hb := hB.out
          clear hf hf2 hr g0 g1 g2 g3 g4 g5 r0 r1 r2 r3 r4 r5 rf
          go_grown
end Go.Proofs.Ytoblaooomphdoaa
