/- Contracts of count.New, count.digit and the reference Low, for every argument. -/
import Derived.Test.YtidkhkehngcjmaaDoorMay
import Derived.Test.YtidkhkehngcjmaaDoorBlk
import Derived.Deep.RegionWith
import Derived.Deep.RegionHeld3
namespace Go.Proofs.YtidkhkehngcjmaaDoor
open Go.RowKit
theorem new_any (w : World) : Calls Tryd.prog 6 #[] w fun e w' => e = .returned (.pointer (some ⟨w.heap.size, 0, none⟩)) ∧ w.alloc (.cells #[.bool false, .bool false, .bool false, .int .i64 0] 42) = w' := by
  go_enter Tryd.func6, Tryd.ntmps6
  go_wp2
  go_ret
  exact ⟨rfl, rfl⟩
def low (a b : Int) : Int := if a < b then a else b
theorem low_any (a b : Int) (w : World) : Calls Tryd.prog 14 #[.int .i64 a, .int .i64 b] w fun e w' => e = .returned (.int .i64 (low a b)) ∧ w = w' := by
  by_cases h : a < b
  all_goals
    go_enter Tryd.func14, Tryd.ntmps14
    go_wp2
    go_ret
    exact ⟨by unfold low; split <;> first | rfl | omega, rfl⟩
theorem digit_any (kd v : Int) (tx : ByteArray) (ct : Bool) (w : World) : Calls Tryd.prog 18 #[.agg #[.int .i64 kd, .int .i64 v, .string tx, .bool ct]] w fun e w' => e = .returned (.func (.func 21) #[] #[.pointer (some ⟨w.heap.size, 0, none⟩)]) ∧ w.alloc (.cells #[.int .i64 kd, .int .i64 v, .string tx, .bool ct] 32) = w' := by
  go_enter Tryd.func18, Tryd.ntmps18
  go_wp2
  go_ret
  exact ⟨rfl, rfl⟩
def digOk (kd v : Int) (bg : Bool) : Bool := decide (48 ≤ v) && decide (v ≤ 57) && (kd == 3 || (kd == 1 && bg))
def digN (kd v : Int) (bg : Bool) : Int := if digOk kd v bg = true then v - 48 else 0
theorem digit1_any (kd v : Int) (bg : Bool) (kb : Nat) (w : World) (h0 : w.cell? ⟨kb, 0, none⟩ = some (.int .i64 kd)) (h1 : w.cell? ⟨kb, 1, none⟩ = some (.int .i64 v)) :
    Calls Tryd.prog 21 #[.bool bg, .pointer (some ⟨kb, 0, none⟩)] w fun e w' => e = .returned (.tuple #[.int .i64 (digN kd v bg), .bool (digOk kd v bg)]) ∧ w = w' := by
  cases bg
  all_goals
    by_cases a : v < 48 <;> by_cases b : 57 < v <;> by_cases c : kd = 3 <;> by_cases d : kd = 1 <;> first | (exfalso; omega) | skip
  all_goals
    go_enter Tryd.func21, Tryd.ntmps21
    go_wp2
    go_ret2
    exact ⟨by simp [digN, digOk, *]; try omega, rfl⟩
end Go.Proofs.YtidkhkehngcjmaaDoor
