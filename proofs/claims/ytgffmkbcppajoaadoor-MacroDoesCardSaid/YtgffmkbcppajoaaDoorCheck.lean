/- The contract of key.Check, second part: key.own, key.mayBe, key.Check, for every key. -/
import Derived.Test.YtgffmkbcppajoaaDoorKey
namespace Go.Proofs.YtgffmkbcppajoaaDoor
open Go.RowKit
set_option maxHeartbeats 400000 in
theorem finder_any (kd : Int) (w : World) :
   Calls Tryd.prog 26 #[.int .i64 kd] w fun e w' => e = .returned (.func (.func 28) #[] #[.pointer (some ⟨w.heap.size, 0, none⟩)]) ∧ w.alloc (.cells #[.int .i64 kd] 3) = w' := by
  go_enter Tryd.func26, Tryd.ntmps26
  go_wp2
  go_ret
  exact ⟨rfl, rfl⟩
set_option maxHeartbeats 400000 in
theorem own_any (kd v : Int) (tx : ByteArray) (ct : Bool) (w : World) (ht : KeyTab w) :
   Calls Tryd.prog 25 #[.agg #[.int .i64 kd, .int .i64 v, .string tx, .bool ct]] w (Found kd v w) := by
  have HT := Lib.hid ht
  clear ht
  go_enter Tryd.func25, Tryd.ntmps25
  go_wp2_with fail
  refine (finder_any _ _).mono ?_
  rintro e w1 ⟨rfl, rfl⟩
  go_wp2_with fail
  refine (finder1_any w.heap.size (w.heap.size + 1 + 1) kd v _ ?_ ?_ ?_ ?_ ?_).mono ?_
  · simp; omega
  · simp
  · exact HT.out.below (by go_grown)
  · simp [go_sem]
  · simp [go_sem]
  rintro e w2 ⟨a, b, c, d, rfl, hb⟩
  have hc := cellsBelow hb
  have hf := frozenBelow hb
  have hz := hb.size
  simp only [World.size_alloc] at hz
  have hz1 : w.heap.size < w2.heap.size := by omega
  have hz2 : w.heap.size + 1 < w2.heap.size := by omega
  go_wp2_with fail
  refine bodyPost_ret (v := .tuple #[.agg #[.int .i64 a, .int .i64 b, .string c, .string d], .bool (ownB 13 kd v)]) (by simp only [results, Tryd.results25]; go_simp) rfl (found_mk _ _ _ _ rfl ?_)
  exact ((((Below.trans (by go_grown) (hb.mono (by simp; omega))).setCell (by simp) _).setCell (by simp) _).setCell (by simp) _).setCell (by simp) _
def emptyB (s : ByteArray) : Bool := s.toList.isEmpty
def mayB (kd v : Int) (tx : ByteArray) (ct : Bool) : Bool :=
  if kd = 1 then rightB v && decide (32 ≤ v) && !(v == 127) && emptyB tx && !ct
  else if kd = 2 then decide (0 ≤ v) && decide (v ≤ 31) && !(v == 10 || v == 13 || v == 27) && emptyB tx && !ct
  else if kd = 3 then decide (0 ≤ v) && decide (v ≤ 127) && !(v == 10 || v == 13 || v == 27) && emptyB tx && !ct
  else if kd = 15 then v == 0 && decide (tx.size ≤ 65536)
  else ownB 13 kd v && emptyB tx && !ct
set_option maxHeartbeats 1000000 in
theorem mayBe_1 (v : Int) (tx : ByteArray) (ct : Bool) (w : World) :
   Calls Tryd.prog 22 #[.agg #[.int .i64 1, .int .i64 v, .string tx, .bool ct]] w fun e w' => e = .returned (.bool (mayB 1 v tx ct)) ∧ Below w.heap.size w w' := by
  go_enter Tryd.func22, Tryd.ntmps22
  go_wp2_with (go_at_call 24; refine (right_any _ _).mono ?_; rintro e w' ⟨rfl, rfl⟩)
  all_goals
    (try simp only [Exit.inBlock, Exit.then])
    refine bodyPost_ret (results_tmp rfl _ _ _) rfl ⟨?_, by go_grown⟩
    refine congrArg (fun b => Ending.returned (.bool b)) ?_
    simp_all [mayB, emptyB]
    try (intros; omega)
set_option maxHeartbeats 1000000 in
theorem mayBe_2 (v : Int) (tx : ByteArray) (ct : Bool) (w : World) :
   Calls Tryd.prog 22 #[.agg #[.int .i64 2, .int .i64 v, .string tx, .bool ct]] w fun e w' => e = .returned (.bool (mayB 2 v tx ct)) ∧ Below w.heap.size w w' := by
  go_enter Tryd.func22, Tryd.ntmps22
  go_wp2_with (go_at_call 24; refine (right_any _ _).mono ?_; rintro e w' ⟨rfl, rfl⟩)
  all_goals
    (try simp only [Exit.inBlock, Exit.then])
    refine bodyPost_ret (results_tmp rfl _ _ _) rfl ⟨?_, by go_grown⟩
    refine congrArg (fun b => Ending.returned (.bool b)) ?_
    simp_all [mayB, emptyB]
    try (intros; omega)
set_option maxHeartbeats 1000000 in
theorem mayBe_3 (v : Int) (tx : ByteArray) (ct : Bool) (w : World) :
   Calls Tryd.prog 22 #[.agg #[.int .i64 3, .int .i64 v, .string tx, .bool ct]] w fun e w' => e = .returned (.bool (mayB 3 v tx ct)) ∧ Below w.heap.size w w' := by
  go_enter Tryd.func22, Tryd.ntmps22
  go_wp2_with (go_at_call 24; refine (right_any _ _).mono ?_; rintro e w' ⟨rfl, rfl⟩)
  all_goals
    (try simp only [Exit.inBlock, Exit.then])
    refine bodyPost_ret (results_tmp rfl _ _ _) rfl ⟨?_, by go_grown⟩
    refine congrArg (fun b => Ending.returned (.bool b)) ?_
    simp_all [mayB, emptyB]
    try (intros; omega)
set_option maxHeartbeats 1000000 in
theorem mayBe_15 (v : Int) (tx : ByteArray) (ct : Bool) (w : World) (hs : tx.size ≤ 9223372036854775807) :
   Calls Tryd.prog 22 #[.agg #[.int .i64 15, .int .i64 v, .string tx, .bool ct]] w fun e w' => e = .returned (.bool (mayB 15 v tx ct)) ∧ Below w.heap.size w w' := by
  go_enter Tryd.func22, Tryd.ntmps22
  go_wp2_with (go_at_call 24; refine (right_any _ _).mono ?_; rintro e w' ⟨rfl, rfl⟩)
  all_goals
    (try simp only [Exit.inBlock, Exit.then])
    refine bodyPost_ret (results_tmp rfl _ _ _) rfl ⟨?_, by go_grown⟩
    refine congrArg (fun b => Ending.returned (.bool b)) ?_
    simp_all [mayB]
    try (intros; omega)
set_option maxHeartbeats 1000000 in
theorem mayBe_o (kd v : Int) (tx : ByteArray) (ct : Bool) (w : World) (ht : KeyTab w) (h1 : ¬ kd = 1) (h2 : ¬ kd = 2) (h3 : ¬ kd = 3) (h15 : ¬ kd = 15) :
   Calls Tryd.prog 22 #[.agg #[.int .i64 kd, .int .i64 v, .string tx, .bool ct]] w fun e w' => e = .returned (.bool (mayB kd v tx ct)) ∧ Below w.heap.size w w' := by
  have HT := Lib.hid ht
  clear ht
  go_enter Tryd.func22, Tryd.ntmps22
  go_wp2_with fail
  all_goals
    refine (own_any kd _ tx ct _ (HT.out.below (by go_grown))).mono ?_
    rintro e w2 ⟨a, b, c, d, rfl, hb⟩
    have hc := cellsBelow hb
    have hf := frozenBelow hb
    have hz := hb.size
    simp only [World.size_alloc] at hz
    have hz1 : w.heap.size < w2.heap.size := by omega
    have hz2 : w.heap.size + 1 < w2.heap.size := by omega
    have hbb : Below w.heap.size w w2 := Below.trans (by go_grown) (hb.mono (by simp; omega))
    have HBB := Lib.hid hbb
    clear hbb
    go_wp2_with fail
    all_goals
      (try simp only [Exit.inBlock, Exit.then])
      refine bodyPost_ret (results_tmp rfl _ _ _) rfl ⟨?_, ?_⟩
      · refine congrArg (fun b => Ending.returned (.bool b)) ?_
        simp_all [mayB, emptyB]
      · exact Below.alloc HBB.out (by omega) _
theorem mayBe_any (kd v : Int) (tx : ByteArray) (ct : Bool) (w : World) (ht : KeyTab w) (hs : tx.size ≤ 9223372036854775807) :
   Calls Tryd.prog 22 #[.agg #[.int .i64 kd, .int .i64 v, .string tx, .bool ct]] w fun e w' => e = .returned (.bool (mayB kd v tx ct)) ∧ Below w.heap.size w w' := by
  by_cases h1 : kd = 1
  · subst h1; exact mayBe_1 v tx ct w
  by_cases h2 : kd = 2
  · subst h2; exact mayBe_2 v tx ct w
  by_cases h3 : kd = 3
  · subst h3; exact mayBe_3 v tx ct w
  by_cases h15 : kd = 15
  · subst h15; exact mayBe_15 v tx ct w hs
  exact mayBe_o kd v tx ct w ht h1 h2 h3 h15
/-- What key.Check answers: OK, or ErrArg. -/
def chk (b : Bool) : Int := if b = true then 0 else 2
set_option maxHeartbeats 400000 in
theorem check_any (kd v : Int) (tx : ByteArray) (ct : Bool) (w : World) (ht : KeyTab w) (hs : tx.size ≤ 9223372036854775807) :
   Calls Tryd.prog 17 #[.agg #[.int .i64 kd, .int .i64 v, .string tx, .bool ct]] w fun e w' => e = .returned (.int .i64 (chk (mayB kd v tx ct))) ∧ Below w.heap.size w w' := by
  have HT := Lib.hid ht
  clear ht
  go_enter Tryd.func17, Tryd.ntmps17
  go_wp2_with fail
  refine (mayBe_any kd v tx ct _ (HT.out.below (by go_grown)) hs).mono ?_
  rintro e w2 ⟨rfl, hb⟩
  have hbb : Below w.heap.size w w2 := Below.trans (by go_grown) (hb.mono (by simp))
  cases hm : mayB kd v tx ct
  all_goals
    go_wp2_with fail
    go_ret
    exact ⟨by simp [hm, chk], hbb⟩
end Go.Proofs.YtgffmkbcppajoaaDoor
