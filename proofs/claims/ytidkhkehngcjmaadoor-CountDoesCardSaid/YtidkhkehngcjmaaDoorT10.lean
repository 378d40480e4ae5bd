/- Contracts of the reference Digit and Dec, for numbers from 0 to 99999. -/
import Derived.Test.YtidkhkehngcjmaaDoorT9
namespace Go.Proofs.YtidkhkehngcjmaaDoor
open Go.RowKit
def digS (n : Nat) : ByteArray := ⟨[UInt8.ofNat (48 + n)].toArray⟩
set_option maxHeartbeats 1000000 in
theorem digitS_any (n : Nat) (h : n < 10) (w : World) : Calls Tryd.prog 19 #[.int .i64 n] w fun e w' => e = .returned (.string (digS n)) ∧ w = w' := by
  have hh : n = 0 ∨ n = 1 ∨ n = 2 ∨ n = 3 ∨ n = 4 ∨ n = 5 ∨ n = 6 ∨ n = 7 ∨ n = 8 ∨ n = 9 := by omega
  rcases hh with rfl | rfl | rfl | rfl | rfl | rfl | rfl | rfl | rfl | rfl
  all_goals
    go_enter Tryd.func19, Tryd.ntmps19
    go_wp2
    go_ret
    exact ⟨rfl, rfl⟩
def decL : Nat → Nat → List UInt8
  | 0, n => [UInt8.ofNat (48 + n % 10)]
  | f + 1, n => if n < 10 then [UInt8.ofNat (48 + n)] else decL f (n / 10) ++ [UInt8.ofNat (48 + n % 10)]
theorem decL_len (f : Nat) : ∀ n, (decL f n).length ≤ f + 1 := by
  induction f with
  | zero => intro n; simp [decL]
  | succ f ih => intro n; unfold decL; split; · simp
                 · have := ih (n / 10); simp; omega
def DPost (f n : Nat) (w : World) (e : Ending) (w' : World) : Prop := e = .returned (.string ⟨(decL f n).toArray⟩) ∧ w = w'
set_option maxHeartbeats 1000000 in
theorem dec_any (f : Nat) : ∀ (n : Int) (w : World), 0 ≤ n → n < 10 ^ (f + 1) → n ≤ 99999 → f ≤ 17 → Calls Tryd.prog 13 #[.int .i64 n] w (DPost f n.toNat w) := by
  induction f with
  | zero =>
    intro n w h0 h1 _ _
    have h1' : n < 10 := by simpa using h1
    obtain ⟨k, rfl⟩ := Int.eq_ofNat_of_zero_le h0
    go_enter Tryd.func13, Tryd.ntmps13
    go_wp2_with (go_at_call 19; refine (digitS_any _ (by omega) _).mono ?_; rintro e w' ⟨rfl, rfl⟩)
    go_ret
    refine ⟨?_, rfl⟩
    have : k % 10 = k := by omega
    simp [decL, digS, this]
  | succ f ih =>
    intro n w h0 h1 hb hf
    obtain ⟨k, rfl⟩ := Int.eq_ofNat_of_zero_le h0
    by_cases hs : (k : Int) < 10
    · have HE := Lib.hid (show decL (f + 1) k = [UInt8.ofNat (48 + k)] by simp only [decL]; rw [if_pos (by omega)])
      clear h1 ih
      go_enter Tryd.func13, Tryd.ntmps13
      go_wp2_with (go_at_call 19; refine (digitS_any _ (by omega) _).mono ?_; rintro e w' ⟨rfl, rfl⟩)
      go_ret
      exact ⟨by simp [HE.out, digS], rfl⟩
    · have HE := Lib.hid (show decL (f + 1) k = decL f (k / 10) ++ [UInt8.ofNat (48 + k % 10)] by simp only [decL]; rw [if_neg (by omega)])
      have hp : (10 : Int) ^ (f + 1 + 1) = 10 ^ (f + 1) * 10 := by rw [Int.pow_succ]
      have IH := Lib.hid (ih ((k : Int) / 10))
      have hq : (k : Int) / 10 < 10 ^ (f + 1) := by omega
      have HQ := Lib.hid hq
      have hl := decL_len f (k / 10)
      have HL := Lib.hid hl
      clear h1 ih hp hq hl
      have hz : (⟨(decL f (k / 10)).toArray⟩ : ByteArray).size + (digS (k % 10)).size ≤ 9223372036854775807 := by
        have := HL.out
        simp [digS, ByteArray.size]; omega
      go_enter Tryd.func13, Tryd.ntmps13
      go_wp2_with fail
      refine (IH.out _ (by omega) HQ.out (by omega) (by omega)).mono ?_
      rintro e w' ⟨rfl, rfl⟩
      rw [show ((k : Int) / 10).toNat = k / 10 by omega]
      go_wp2_with fail
      rw [show ((k : Int) % 10) = ((k % 10 : Nat) : Int) by omega]
      refine (digitS_any _ (by omega) _).mono ?_
      rintro e w' ⟨rfl, rfl⟩
      go_wp2_with fail
      go_ret
      refine ⟨?_, rfl⟩
      rw [show (k : Int).toNat = k by omega, HE.out]
      show Ending.returned (.string _) = _
      congr 2
end Go.Proofs.YtidkhkehngcjmaaDoor
