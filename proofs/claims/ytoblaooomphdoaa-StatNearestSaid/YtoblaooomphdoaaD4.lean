/- The program's least: a closure over a row. -/
import Derived.Test.YtoblaooomphdoaaD3
namespace Go.Proofs.Ytoblaooomphdoaa
open Go.RowKit
set_option maxHeartbeats 1000000 in
theorem leastfn_any (v : Value) (w : World) (a : Option Addr) (n c : Nat) (hv : v = .slice a n c) : Calls Try.prog 19 #[v] w fun e w' => w.alloc (.cells #[v] 29) = w' ∧ e = .returned (.func (.func 23) #[] #[.pointer (some ⟨w.heap.size, 0, none⟩)]) := by
  subst hv
  go_enter Try.func19, Try.ntmps19
  go_wp2_with fail
  go_ret
  exact ⟨rfl, rfl⟩
set_option maxHeartbeats 4000000 in
theorem least1_any (q rb len cap p : Nat) (before change r0 r1 : Int) (w : World) (hq : w.cell? ⟨q, 0, none⟩ = some (.slice (some ⟨rb, 0, none⟩) len cap)) (h0 : w.cell? ⟨rb, p, none⟩ = some (.int .i64 r0)) (h1 : w.cell? ⟨rb, p + 1, none⟩ = some (.int .i64 r1))
    (hp : p + 1 < len) (b0 : 0 ≤ r0 ∧ r0 ≤ 1000000000000000) (b1 : 0 ≤ r1 ∧ r1 ≤ 1000000000000000) (bb : 0 ≤ before ∧ before ≤ 1000000000000000) (bc : 0 ≤ change ∧ change ≤ 1) (bl : len ≤ 1000000000000000) :
   Calls Try.prog 23 #[.int .i64 ((p : Int) + 1), .int .i64 before, .int .i64 change, .pointer (some ⟨q, 0, none⟩)] w fun e w' => e = .returned (.int .i64 (min (r1 + 1) (min (before + 1) (r0 + change)))) ∧ ∃ n, w' = w.drewN n := by
  have e1 : IntKind.i64.wrap (r1 + 1) = r1 + 1 := by rw [IntKind.wrap_i64]; omega
  have e2 : IntKind.i64.wrap (before + 1) = before + 1 := by rw [IntKind.wrap_i64]; omega
  have e3 : IntKind.i64.wrap (r0 + change) = r0 + change := by rw [IntKind.wrap_i64]; omega
  have e4 : IntKind.i64.wrap (p : Int) = (p : Int) := by rw [IntKind.wrap_i64]; omega
  have e5 : ((p : Int) + 1).toNat = p + 1 := by omega
  have e6 : (p : Int) + 1 < (len : Int) := by omega
  have e7 : (p : Int) < (len : Int) := by omega
  have e8 : (0 : Int) ≤ (p : Int) + 1 := by omega
  clear hp b0 b1 bb bc bl
  go_enter Try.func23, Try.ntmps23
  go_wp2_with fail
  go_quiet (fail)
  clear e1 e2 e3 e4 e5 e6 e7 e8
  go_wp2_with fail
  all_goals
    go_ret
    exact ⟨congrArg (fun n => Ending.returned (.int .i64 n)) (by omega), _, rfl⟩
end Go.Proofs.Ytoblaooomphdoaa
