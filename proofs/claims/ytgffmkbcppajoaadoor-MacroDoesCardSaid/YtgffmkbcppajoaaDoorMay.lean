/- The contract of the reference's May (dactylref13), for every key: it answers as key.Check does. -/
import Derived.Test.YtgffmkbcppajoaaDoorCheck
namespace Go.Proofs.YtgffmkbcppajoaaDoor
open Go.RowKit
theorem ownB_eq (kd v : Int) : ownB 13 kd v = ((kd == 4 && (v == 10 || v == 13)) || (kd == 14 && (v == 0 || v == 1)) || (decide (5 ≤ kd) && decide (kd ≤ 13) && v == 0)) := by
  have e : (List.range 13) = [0, 1, 2, 3, 4, 5, 6, 7, 8, 9, 10, 11, 12] := by decide
  unfold ownB
  rw [e]
  simp only [List.any_cons, List.any_nil, kK, kV, keyRows, List.getD_cons_zero, List.getD_cons_succ]
  rw [Bool.eq_iff_iff]
  simp only [Bool.or_eq_true, Bool.and_eq_true, beq_iff_eq, decide_eq_true_eq, Bool.or_false]
  omega
set_option maxHeartbeats 400000 in
theorem right2_any (v : Int) (w : World) : Calls Tryd.prog 20 #[.int .i64 v] w fun e w' => e = .returned (.bool (rightB v)) ∧ w = w' := by
  go_enter Tryd.func20, Tryd.ntmps20
  go_wp2
  all_goals
    (try simp only [Exit.inBlock, Exit.then])
    refine bodyPost_ret (results_tmp rfl _ _ _) rfl ⟨?_, rfl⟩
    refine congrArg (fun b => Ending.returned (.bool b)) ?_
    unfold rightB
    split <;> simp_all <;> omega
set_option maxHeartbeats 400000 in
theorem control_any (v : Int) (w : World) : Calls Tryd.prog 21 #[.int .i64 v] w fun e w' => e = .returned (.bool (decide (0 ≤ v) && decide (v ≤ 31) && !(v == 10 || v == 13 || v == 27))) ∧ w = w' := by
  go_enter Tryd.func21, Tryd.ntmps21
  go_wp2
  all_goals
    (try simp only [Exit.inBlock, Exit.then])
    refine bodyPost_ret (results_tmp rfl _ _ _) rfl ⟨?_, rfl⟩
    refine congrArg (fun b => Ending.returned (.bool b)) ?_
    rw [Bool.eq_iff_iff]
    first | (simp_all; done) | (simp_all; omega)
set_option maxHeartbeats 1000000 in
theorem may_any (kd v : Int) (tx : ByteArray) (ct : Bool) (w : World) (hs : tx.size ≤ 9223372036854775807) :
   Calls Tryd.prog 16 #[.agg #[.int .i64 kd, .int .i64 v, .string tx, .bool ct]] w fun e w' => e = .returned (.bool (mayB kd v tx ct)) ∧ Below w.heap.size w w' := by
  go_enter Tryd.func16, Tryd.ntmps16
  go_wp2_with (first | (go_at_call 20; refine (right2_any _ _).mono ?_; rintro e w' ⟨rfl, rfl⟩) | (go_at_call 21; refine (control_any _ _).mono ?_; rintro e w' ⟨rfl, rfl⟩))
  all_goals
    (try simp only [Exit.inBlock, Exit.then])
    refine bodyPost_ret (results_tmp rfl _ _ _) rfl ⟨?_, by go_grown⟩
    refine congrArg (fun b => Ending.returned (.bool b)) ?_
    go_tidy
    rw [Bool.eq_iff_iff]
    first | (simp_all [mayB, ownB_eq, emptyB]; done) | (simp_all [mayB, ownB_eq, emptyB]; omega)
end Go.Proofs.YtgffmkbcppajoaaDoor
