import Derived.Test.YtipekkddhelhmaaDoorU8
import Derived.Test.YtipekkddhelhmaaDoorU4
namespace Go.Proofs.YtipekkddhelhmaaDoor
open Go.RowKit
/-- May a value be, of whatever number. -/
def rightB (v : Int) : Bool := if 0 ≤ v ∧ v ≤ 1114111 then decide (v < 55296) || decide (57343 < v) else decide (1114240 ≤ v) && decide (v ≤ 1114367)
set_option maxHeartbeats 400000 in
theorem right_any (v : Int) (w : World) : Calls Tryd.prog 13 #[.int .i64 v] w fun e w' => e = .returned (.bool (rightB v)) ∧ w = w' := by
  by_cases h1 : 0 ≤ v <;> by_cases h2 : v ≤ 1114111 <;> by_cases h3 : v < 55296 <;> by_cases h4 : 57343 < v <;> by_cases h5 : 1114240 ≤ v <;> by_cases h6 : v ≤ 1114367 <;> first | (exfalso; omega) | skip
  all_goals
    go_enter Tryd.func13, Tryd.ntmps13
    go_wp2
    go_ret
    exact ⟨by simp [rightB, *], rfl⟩
set_option maxHeartbeats 400000 in
theorem right2_any (v : Int) (w : World) : Calls Tryd.prog 14 #[.int .i64 v] w fun e w' => e = .returned (.bool (rightB v)) ∧ w = w' := by
  go_enter Tryd.func14, Tryd.ntmps14
  go_wp2
  all_goals
    (try simp only [Exit.inBlock, Exit.then])
    refine bodyPost_ret (results_tmp rfl _ _ _) rfl ⟨?_, rfl⟩
    refine congrArg (fun b => Ending.returned (.bool b)) ?_
    unfold rightB
    split <;> simp_all <;> omega
/-- One: of an empty text nothing. -/
theorem uone_nil (w : World) : Calls Tryd.prog 16 #[.string ⟨#[]⟩] w fun e w' => e = .returned (.tuple #[.int .i64 0, .int .i64 0]) ∧ Below w.heap.size w w' := by
  have hp : ¬ 0 < (⟨#[]⟩ : ByteArray).size := by decide
  have hnx : ∀ ty, (Instr.next (.pointer (some ⟨w.heap.size, 0, none⟩)) true ty).run Tryd.prog (w.iter ⟨#[]⟩ 0) = _ := fun ty => run_next_end w ⟨#[]⟩ 0 ty hp
  go_enter Tryd.func16, Tryd.ntmps16
  go_wp2_with fail
  go_loopw [6] (fun _ wr => wr = w.iter ⟨#[]⟩ 0) (fun _ _ => 0)
  case atStart => rfl
  case round =>
    subst hrel
    go_wp2_with fail
    go_ret2
    exact ⟨rfl, by unfold World.iter; go_grown⟩
theorem runeLen_one (x : UInt8) (l : List UInt8) (hlt : (one (x :: l)).1 < 1114112) : Lib.runeLen ((one (x :: l)).1 : Int) = ((one (x :: l)).2 : Int) := by
  have hx := x.toNat_lt
  rcases one_cases x l with ⟨h, e⟩ | ⟨y, r, rfl, h1, h2, h3, h4, e⟩ | ⟨y, z, r, rfl, h1, h2, h3, h4, h5, h6, h7, h8, e⟩ | ⟨y, z, u, r, rfl, h1, h2, h3, h4, h5, h6, h9, h10, h7, h8, e⟩ | ⟨h, e⟩
  all_goals
    rw [e] at hlt ⊢
    simp only at hlt ⊢
    unfold Lib.runeLen
    repeat' split
    all_goals omega
set_option maxHeartbeats 1000000 in
set_option maxRecDepth 100000 in
theorem uone_any (s : ByteArray) (h0 : 0 < s.size) (w : World) : Calls Tryd.prog 16 #[.string s] w (OnePost s.data.toList w) := by
  have hnx : ∀ ty, (Instr.next (.pointer (some ⟨w.heap.size, 0, none⟩)) true ty).run Tryd.prog (w.iter s 0) = _ := fun ty => run_next_any w s 0 ty h0
  have hd := decode_one s 0
  rw [List.drop_zero] at hd
  have HD := Lib.hid hd
  have HV := Lib.hid (value_any s h0 ((Utf8.decode s 0).1 : Int) (one s.data.toList).1 (by
    rcases hd.2 with ⟨a, b, c⟩ | ⟨a, b, c, d⟩
    · exact .inl ⟨by rw [a], b, c⟩
    · exact .inr ⟨by rw [c]; rfl, a, d⟩))
  clear hd
  go_enter Tryd.func16, Tryd.ntmps16
  go_wp2_with fail
  go_loopw [6] (fun _ wr => wr = w.iter s 0) (fun _ _ => 0)
  case atStart => rfl
  case round =>
    subst hrel
    go_wp2_with fail
    refine (HV.out _).mono ?_
    rintro e w1 ⟨rfl, rfl⟩
    have HN : Hid ((one s.data.toList).1 < 1114112 → Lib.runeLen ((Utf8.decode s 0).1 : Int) = ((one s.data.toList).2 : Int)) := by
      intro hv
      rcases HD.out.2 with ⟨a, b, c⟩ | ⟨a, b, c, d⟩
      · rw [a]
        obtain ⟨x, l, e, _⟩ := drop_cons s 0 h0
        rw [List.drop_zero] at e
        rw [e] at hv ⊢
        exact runeLen_one x l hv
      · omega
    have H1 : Hid (¬ (one s.data.toList).1 < 1114112 → (one s.data.toList).2 = 1) := by
      intro hv
      rcases HD.out.2 with ⟨a, b, c⟩ | ⟨a, b, c, d⟩
      · exact absurd b hv
      · exact b
    have HO : Hid (∀ w' (a n : Int), a = ((one s.data.toList).1 : Int) → n = ((one s.data.toList).2 : Int) → Below w.heap.size w w' → OnePost s.data.toList w (.returned (.tuple #[.int .i64 a, .int .i64 n])) w') := by
      rintro w' a n rfl rfl hb
      exact ⟨rfl, hb⟩
    clear HV HD hnx
    generalize (one s.data.toList).1 = v1 at *
    generalize (one s.data.toList).2 = n1 at *
    generalize (Utf8.decode s 0).1 = r1 at *
    by_cases hv : v1 < 1114112
    · have hv' : decide ((1114112 : Int) ≤ (v1 : Int)) = false := by rw [decide_eq_false_iff_not]; omega
      have HL := Lib.hid (HN.out hv)
      clear hv HN H1
      go_wp2_with fail
      refine (Tryd.utf8_RuneLen _ _).mono ?_
      rintro e w2 ⟨rfl, rfl⟩
      rw [HL.out]
      go_wp2_with fail
      go_ret2
      refine HO.out _ _ _ rfl rfl ?_
      unfold World.iter; go_grown
    · have hv' : (1114112 : Int) ≤ (v1 : Int) := by omega
      have HL := Lib.hid (H1.out hv)
      clear hv HN H1
      go_wp2_with fail
      go_ret2
      refine HO.out _ _ _ rfl ?_ ?_
      · rw [HL.out]; rfl
      · unfold World.iter; go_grown
end Go.Proofs.YtipekkddhelhmaaDoor
