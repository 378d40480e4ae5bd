/- The contract of the reference Begins of layer 2, for every text that is not empty. -/
import Derived.Test.YtipekkddhelhmaaDoorU5
namespace Go.Proofs.YtipekkddhelhmaaDoor
open Go.RowKit
theorem size_q (b : Nat) (w : World) : Calls Tryd.prog 26 #[.int .u8 b] w fun e w' => e = .returned (.int .i64 (sizeN b)) ∧ w' = w := (size_any b w).mono fun _ _ h => ⟨h.1, h.2.symm⟩
theorem mayN_q (b c i : Nat) (w : World) : Calls Tryd.prog 29 #[.int .u8 b, .int .u8 c, .int .i64 i] w fun e w' => e = .returned (.bool (mayN b c i)) ∧ w' = w := (mayN_any b c i w).mono fun _ _ h => ⟨h.1, h.2.symm⟩
set_option maxHeartbeats 2000000 in
set_option maxRecDepth 100000 in
theorem begins_any (s : ByteArray) (h0 : 0 < s.size) (w : World) : Calls Tryd.prog 25 #[.string s] w (BegPost s.data.toList w) := by
  have hsl := size_le (s[0]'h0).toNat
  go_enter Tryd.func25, Tryd.ntmps25
  go_wp2_with fail
  go_loopw [3] (fun n wr => ∃ k : Nat, n = .int .i64 k ∧ 1 ≤ k ∧ k ≤ 4 ∧ Hid (∀ i, 1 ≤ i → i < k → okAt s.data.toList i) ∧ Below w.heap.size w wr) (fun n _ => 5 - (intOf n).toNat)
  case atStart => exact ⟨1, rfl, by omega, by omega, fun i h1 h2 => by omega, Below.refl _ _⟩
  case round =>
    obtain ⟨k, rfl, hk1, hk4, hall, hb⟩ := hrel
    have HB := Lib.hid hb
    clear hb
    have hat0 := at_get s 0 h0
    have HAT := Lib.hid hat0
    clear hat0
    have hl : s.data.toList.length = s.size := by simp
    have HL := Lib.hid hl
    clear hl
    have hq0 : sizeN (at_ s.data.toList 0) = sizeN (s[0]'h0).toNat := by rw [HAT.out]
    have HQ0 := Lib.hid hq0
    clear hq0
    by_cases h1 : k < sizeN (s[0]'h0).toNat
    · have hq1 : decide ((k : Int) < ((sizeN (s[0]'h0).toNat : Nat) : Int)) = true := by simp; omega
      by_cases h2 : k < s.size
      · have hq2 : decide ((k : Int) < ((s.size : Nat) : Int)) = true := by simp; omega
        have hatk := at_get s k h2
        have HAK := Lib.hid hatk
        clear hatk
        go_wp2_with fail
        go_quiet (first | (go_at_call 26; exact Calls.quiet_of_same (size_q _ _)) | (go_at_call 29; exact Calls.quiet_of_same (mayN_q _ _ _ _)))
        cases hmay : mayN (s[0]'h0).toNat (s[k]'h2).toNat k
        · have HM := Lib.hid hmay
          go_wp2_with fail
          go_ret
          refine ⟨k, rfl, hk1, hk4, hall.out, ?_, below_drewN HB.out _⟩
          rintro ⟨_, _, h3⟩
          rw [← HAT.out, ← HAK.out, HM.out] at h3
          cases h3
        · have HM := Lib.hid hmay
          go_wp2_with fail
          go_roundw
          case rel =>
            refine ⟨k + 1, by go_num, by omega, by omega, fun i hi1 hi2 => ?_, below_drewN HB.out _⟩
            by_cases hik : i < k
            · exact hall.out i hi1 hik
            · obtain rfl : i = k := by omega
              exact ⟨by rw [HQ0.out]; exact h1, by rw [HL.out]; exact h2, by rw [← HAT.out, ← HAK.out]; exact HM.out⟩
          case measure => simp [intOf]; omega
      · have hq2 : decide ((k : Int) < ((s.size : Nat) : Int)) = false := by simp; omega
        go_wp2_with fail
        go_quiet (first | (go_at_call 26; exact Calls.quiet_of_same (size_q _ _)) | (go_at_call 29; exact Calls.quiet_of_same (mayN_q _ _ _ _)))
        go_wp2_with fail
        go_ret
        refine ⟨k, rfl, hk1, hk4, hall.out, ?_, below_drewN HB.out _⟩
        rintro ⟨_, h4, _⟩
        rw [HL.out] at h4
        exact h2 h4
    · have hq1 : decide ((k : Int) < ((sizeN (s[0]'h0).toNat : Nat) : Int)) = false := by simp; omega
      go_wp2_with fail
      go_quiet (first | (go_at_call 26; exact Calls.quiet_of_same (size_q _ _)) | (go_at_call 29; exact Calls.quiet_of_same (mayN_q _ _ _ _)))
      go_wp2_with fail
      go_ret
      refine ⟨k, rfl, hk1, hk4, hall.out, ?_, below_drewN HB.out _⟩
      rintro ⟨h4, _, _⟩
      rw [HQ0.out] at h4
      exact h1 h4
end Go.Proofs.YtipekkddhelhmaaDoor
