/- The contract of the reference's Encode. -/
import Derived.Test.YtipekkddhelhmaaDoorU14
import Derived.Test.YtipekkddhelhmaaDoorU15
namespace Go.Proofs.YtipekkddhelhmaaDoor
open Go.RowKit
theorem str_app (l m : List UInt8) : (⟨l.toArray⟩ : ByteArray) ++ ⟨m.toArray⟩ = ⟨(l ++ m).toArray⟩ := by
  apply ByteArray.ext
  simp
set_option maxHeartbeats 2000000 in
theorem renc_any (v : Value) (n : Nat) (f : Nat → Int) (hn : n ≤ 1000000) (w : World) (hv : SlI w v n f) : Calls Tryd.prog 15 #[v] w (EncPost (encF f n) w) := by
  obtain ⟨ao, cap, rfl, hm, hc⟩ := hv
  have HC := Lib.hid hc
  clear hc hm
  go_enter Tryd.func15, Tryd.ntmps15
  go_wp2_with fail
  go_loopw [3, 4] (fun s i wr => ∃ (k : Nat), k ≤ n ∧ i = .int .i64 k ∧ s = .string ⟨(encF f k).toArray⟩ ∧ Below w.heap.size w wr) (fun _ i _ => n - (intOf i).toNat)
  case atStart => exact ⟨0, Nat.zero_le _, rfl, rfl, Below.refl _ _⟩
  case round =>
    obtain ⟨k, hk, rfl, rfl, hb⟩ := hrel
    have HB := Lib.hid hb
    have hbs := hb.size
    clear hb
    by_cases hlt : k < n
    · obtain ⟨b, off, rfl, hbl, hcell⟩ := HC.out (by omega)
      have d1 := (HB.out.cell (p := ⟨b, off + k, none⟩) hbl).trans (hcell k hlt)
      have hlen := encF_len f k
      clear hcell
      cases hr : rightB (f k)
      · have HR := Lib.hid hr
        go_wp2_with (go_at_call 14; refine Calls.mono (right2_any _ _) ?_; rintro e w4 ⟨rfl, rfl⟩; rw [hr])
        go_roundw
        case rel => exact ⟨k + 1, by omega, by go_num, by rw [encF_no HR.out], HB.out⟩
        case measure => simp [intOf]; omega
      · have HR := Lib.hid hr
        have hs1 : (⟨(encF f k).toArray⟩ : ByteArray).size ≤ 4 * k := hlen
        have hs2 : (⟨(bytesN (f k).toNat).toArray⟩ : ByteArray).size ≤ 4 := (bytesN_len _).2
        go_wp2_with (first | (go_at_call 14; refine Calls.mono (right2_any _ _) ?_; rintro e w4 ⟨rfl, rfl⟩; rw [hr]) | (go_at_call 22; refine Calls.mono (rbytes_any _ hr _) ?_; rintro e w5 ⟨rfl, hb5⟩))
        have HB5 := Lib.hid (HB.out.trans (hb5.mono hbs))
        clear hb5
        go_wp2_with fail
        go_roundw
        case rel => exact ⟨k + 1, by omega, by go_num, by rw [encF_yes HR.out, ← str_app], HB5.out⟩
        case measure => simp [intOf]; omega
    · have hkn : k = n := by omega
      go_wp2_with fail
      go_ret
      exact ⟨by rw [hkn]; rfl, HB.out⟩
end Go.Proofs.YtipekkddhelhmaaDoor
