/- Contracts of (*count.Count).Value and Take, of no count and of any count. -/
import Derived.Test.YtidkhkehngcjmaaDoorT9
namespace Go.Proofs.YtidkhkehngcjmaaDoor
open Go.RowKit
set_option maxHeartbeats 1000000 in
theorem value_nil (w : World) : Calls Tryd.prog 11 #[.pointer none] w fun e w' => e = .returned (.tuple #[.int .i64 1, .bool false]) ∧ w = w' := by
  go_enter Tryd.func11, Tryd.ntmps11
  go_wp2
  go_ret2
  exact ⟨rfl, rfl⟩
set_option maxHeartbeats 1000000 in
theorem value_zero (c : Nat) (w : World) (hc : Blk w c CS.zero.cells 42) : Calls Tryd.prog 11 #[.pointer (some ⟨c, 0, none⟩)] w fun e w' => e = .returned (.tuple #[.int .i64 1, .bool false]) ∧ w = w' := by
  have HC := Lib.hid hc
  have c0 := hc.cell 0
  have c1 := hc.cell 1
  have c2 := hc.cell 2
  have c3 := hc.cell 3
  simp [CS.cells, CS.zero] at c0 c1 c2 c3
  clear hc
  go_enter Tryd.func11, Tryd.ntmps11
  go_wp2
  go_ret2
  exact ⟨rfl, rfl⟩
set_option maxHeartbeats 1000000 in
theorem value_begun (c : Nat) (dg bl : Bool) (n : Int) (hn0 : 0 ≤ n) (hn1 : n ≤ 9999) (w : World) (hc : Blk w c (CS.cells ⟨true, dg, bl, n⟩) 42) : Calls Tryd.prog 11 #[.pointer (some ⟨c, 0, none⟩)] w fun e w' => e = .returned (.tuple #[.int .i64 (CS.num ⟨true, dg, bl, n⟩), .bool true]) ∧ w = w' := by
  cases dg <;> cases bl
  all_goals
    have c0 := hc.cell 0
    have c1 := hc.cell 1
    have c2 := hc.cell 2
    have c3 := hc.cell 3
    simp [CS.cells] at c0 c1 c2 c3
    clear hc
    go_enter Tryd.func11, Tryd.ntmps11
    go_wp2
    go_ret2
    exact ⟨rfl, rfl⟩
theorem take_nil (w : World) : Calls Tryd.prog 12 #[.pointer none] w fun e w' => e = .returned (.tuple #[.int .i64 1, .bool false]) ∧ w = w' := by
  go_enter Tryd.func12, Tryd.ntmps12
  go_wp2
  go_ret2
  exact ⟨rfl, rfl⟩
set_option maxHeartbeats 1000000 in
theorem take_any (c : Nat) (s : CS) (v : Int) (b : Bool) (w : World) (hc : Blk w c s.cells 42)
   (hv : Calls Tryd.prog 11 #[.pointer (some ⟨c, 0, none⟩)] w fun e w' => e = .returned (.tuple #[.int .i64 v, .bool b]) ∧ w = w') :
   Calls Tryd.prog 12 #[.pointer (some ⟨c, 0, none⟩)] w fun e w' => e = .returned (.tuple #[.int .i64 v, .bool b]) ∧ Blk w' c CS.zero.cells 42 ∧ Keep (· = c) w w' := by
  have HC := Lib.hid hc
  have c0 := hc.cell 0
  have c1 := hc.cell 1
  have c2 := hc.cell 2
  have c3 := hc.cell 3
  have cf := hc.free
  simp [CS.cells] at c0 c1 c2 c3
  have HV := Lib.hid hv
  clear hc hv
  go_enter Tryd.func12, Tryd.ntmps12
  go_wp2_with fail
  refine HV.out.mono ?_
  rintro e w' ⟨rfl, rfl⟩
  go_wp2_with fail
  go_ret2
  refine ⟨rfl, ?_, ?_⟩
  · have := (((HC.out.set 0 (.bool false)).set 1 (.bool false)).set 2 (.bool false)).set 3 (.int .i64 0)
    simpa [CS.cells, CS.zero] using this
  · refine Keep.setCell (Keep.setCell (Keep.setCell (Keep.setCell (Keep.refl _ _) _ ?_) _ ?_) _ ?_) _ ?_ <;> exact .inl rfl
end Go.Proofs.YtidkhkehngcjmaaDoor
