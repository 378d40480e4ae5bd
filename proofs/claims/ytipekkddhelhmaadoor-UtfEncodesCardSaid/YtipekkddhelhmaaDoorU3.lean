/- Contracts of utf.value and utf.Count, for every text. -/
import Derived.Test.YtipekkddhelhmaaDoorProg
import Derived.Test.YtipekkddhelhmaaDoorUtf
import Derived.Test.YtipekkddhelhmaaDoorShelf
import Derived.Handy
import Derived.WalkSpells
import Derived.WalkLawsBesides
import Derived.Outline
import Derived.Lib.Hide
import Derived.Laws.RangeAny
namespace Go.Proofs.YtipekkddhelhmaaDoor
open Go.RowKit
theorem prefix_wrong (l : List UInt8) : Lib.hasPrefix l [239, 191, 189] = wrongAhead l := by
  unfold Lib.hasPrefix wrongAhead
  rw [Bool.eq_iff_iff, decide_eq_true_eq]
  match l with
  | [] => simp [at_]
  | [x] => simp [at_, cont, List.isPrefixOf]
  | [x, y] => simp [at_, cont, List.isPrefixOf]
  | x :: y :: z :: r =>
    simp only [List.isPrefixOf, Bool.and_eq_true, beq_iff_eq, at_cons0, at_cons1, at_cons2, and_true]
    constructor
    · rintro ⟨rfl, rfl, rfl⟩
      refine ⟨rfl, rfl, rfl, ?_, ?_⟩
      · unfold cont; rw [at_cons1]; simp
      · unfold cont; rw [at_cons2]; simp
    · rintro ⟨h1, h2, h3, _, _⟩
      exact ⟨(UInt8.toNat_inj.1 (by rw [h1]; rfl)), (UInt8.toNat_inj.1 (by rw [h2]; rfl)), (UInt8.toNat_inj.1 (by rw [h3]; rfl))⟩
set_option maxHeartbeats 1000000 in
theorem value_any (s : ByteArray) (h0 : 0 < s.size) (r : Int) (v : Nat)
   (h : (r = v ∧ v < 1114112 ∧ (v = 65533 → wrongAhead s.data.toList = true)) ∨ (r = 65533 ∧ v = 1114112 + at_ s.data.toList 0 ∧ wrongAhead s.data.toList = false)) (w : World) :
   Calls Tryd.prog 20 #[.string s, .int .i32 r] w fun e w' => e = .returned (.int .i64 v) ∧ w = w' := by
  have hpre : ∀ w : World, Calls Tryd.prog 27 #[.string s, .string ⟨#[239, 191, 189]⟩] w fun e w' => e = .returned (.bool (wrongAhead s.data.toList)) ∧ w = w' := by
    intro w
    refine (Tryd.strings_HasPrefix s ⟨#[239, 191, 189]⟩ w).mono fun e w' h => ⟨?_, h.2.symm⟩
    rw [h.1]
    show Ending.returned (.bool (Lib.hasPrefix s.data.toList [239, 191, 189])) = _
    rw [prefix_wrong]
  have hb0 : (s[0]'h0).toNat < 256 := (s[0]'h0).toNat_lt
  have HP := Lib.hid hpre
  clear hpre
  have hat : (s[0]'h0).toNat = at_ s.data.toList 0 := by
    unfold at_
    rw [List.getD_eq_getElem?_getD, Array.getElem?_toList, Array.getElem?_eq_getElem (show 0 < s.data.size from h0)]
    rfl
  have HAT := Lib.hid hat
  clear hat
  rcases h with ⟨rfl, h1, h2⟩ | ⟨rfl, h1, h2⟩
  · by_cases hv : v = 65533
    · subst hv
      have hw := h2 rfl
      have HW := Lib.hid hw
      clear h2 hw
      go_enter Tryd.func20, Tryd.ntmps20
      go_wp2_with fail
      refine (HP.out _).mono ?_
      rintro e w' ⟨rfl, rfl⟩
      rw [HW.out]
      go_wp2_with fail
      go_ret
      exact ⟨rfl, rfl⟩
    · have hne : ((v : Int) == 65533) = false := by rw [beq_eq_false_iff_ne]; omega
      clear h2
      go_enter Tryd.func20, Tryd.ntmps20
      go_wp2_with fail
      go_ret
      exact ⟨rfl, rfl⟩
  · have HW := Lib.hid h2
    have H1 := Lib.hid h1
    clear h1 h2
    go_enter Tryd.func20, Tryd.ntmps20
    go_wp2_with fail
    refine (HP.out _).mono ?_
    rintro e w' ⟨rfl, rfl⟩
    rw [HW.out]
    go_wp2_with fail
    go_ret
    refine ⟨?_, rfl⟩
    show Ending.returned (.int .i64 (1114112 + (s[0].toNat : Int))) = _
    have h1 := H1.out
    have h2 := HAT.out
    rw [show (v : Int) = 1114112 + (s[0].toNat : Int) by omega]
theorem drop_cons (s : ByteArray) (pos : Nat) (h : pos < s.size) : ∃ x l, s.data.toList.drop pos = x :: l ∧ x = s[pos]'h := by
  refine ⟨_, _, List.drop_eq_getElem_cons (by simpa using h), ?_⟩
  rfl
/-- One step of a range over a text, in plain words. -/
theorem range_step (s : ByteArray) (pos : Nat) (h : pos < s.size) :
    1 ≤ (Utf8.decode s pos).2 ∧ pos + (Utf8.decode s pos).2 ≤ s.size ∧ valsL (s.data.toList.drop pos) = (one (s.data.toList.drop pos)).1 :: valsL (s.data.toList.drop (pos + (Utf8.decode s pos).2)) := by
  obtain ⟨x, l, e, _⟩ := drop_cons s pos h
  have hd := (decode_one s pos).1
  rw [hd, e]
  have hs := one_spec x l
  have hl : (x :: l).length = s.size - pos := by rw [← e]; simp
  refine ⟨hs.1, by omega, ?_⟩
  rw [valsL_cons, ← e, List.drop_drop]
set_option maxHeartbeats 1000000 in
theorem count_any (s : ByteArray) (hs : s.size < 9223372036854775807) (w : World) :
   Calls Tryd.prog 12 #[.string s] w fun e w' => e = .returned (.int .i64 (valsL s.data.toList).length) ∧ Below w.heap.size w w' := by
  go_enter Tryd.func12, Tryd.ntmps12
  go_wp2
  go_loopw [3] (fun n w' => ∃ (pos acc : Nat), w' = w.iter s pos ∧ n = .int .i64 acc ∧ acc + (valsL (s.data.toList.drop pos)).length = (valsL s.data.toList).length ∧ pos ≤ s.size ∧ acc ≤ pos) (fun _ w' => s.size - w'.iterPos w.heap.size)
  case atStart => exact ⟨0, 0, rfl, rfl, by simp, by omega, Nat.le_refl _⟩
  case round =>
    obtain ⟨pos, acc, rfl, rfl, hc, hb, ha⟩ := hrel
    have HC := Lib.hid hc
    clear hc
    by_cases hp : pos < s.size
    · have hnx : ∀ ty, (Instr.next (.pointer (some ⟨w.heap.size, 0, none⟩)) true ty).run Tryd.prog (w.iter s pos) = _ := fun ty => run_next_any w s pos ty hp
      obtain ⟨r1, r2, r3⟩ := range_step s pos hp
      have R3 := Lib.hid r3
      clear r3
      go_wp2
      go_roundw
      case rel =>
        refine ⟨pos + (Utf8.decode s pos).2, acc + 1, rfl, by go_num, ?_, r2, by omega⟩
        have := HC.out
        rw [R3.out, List.length_cons] at this
        omega
      case measure =>
        simp
        omega
    · have hnx : ∀ ty, (Instr.next (.pointer (some ⟨w.heap.size, 0, none⟩)) true ty).run Tryd.prog (w.iter s pos) = _ := fun ty => run_next_end w s pos ty hp
      go_wp2
      go_ret
      have := HC.out
      rw [List.drop_eq_nil_of_le (by simp; omega), valsL_nil] at this
      refine ⟨?_, by unfold World.iter; go_grown⟩
      rw [← this]; simp
end Go.Proofs.YtipekkddhelhmaaDoor
