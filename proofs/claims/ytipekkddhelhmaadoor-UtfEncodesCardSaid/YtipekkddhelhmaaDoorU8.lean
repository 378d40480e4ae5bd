/- The contract of the reference One of layer 2, for every text that is not empty. -/
import Derived.Test.YtipekkddhelhmaaDoorU6
import Derived.Test.YtipekkddhelhmaaDoorU7
namespace Go.Proofs.YtipekkddhelhmaaDoor
open Go.RowKit
theorem okAt_lt {l : List UInt8} {i : Nat} (h : okAt l i) : i < l.length := h.2.1
def OnePost (l : List UInt8) (w : World) (e : Ending) (w' : World) : Prop := e = .returned (.tuple #[.int .i64 ((one l).1 : Nat), .int .i64 ((one l).2 : Nat)]) ∧ Below w.heap.size w w'
theorem onePost_mk {l : List UInt8} {w w' : World} {a n : Nat} (h : one l = (a, n)) (hb : Below w.heap.size w w') (x y : Int) (hx : x = a) (hy : y = n) : OnePost l w (.returned (.tuple #[.int .i64 x, .int .i64 y])) w' := by
  refine ⟨?_, hb⟩
  rw [h, hx, hy]
set_option maxHeartbeats 2000000 in
set_option maxRecDepth 100000 in
theorem rone_any (s : ByteArray) (h0 : 0 < s.size) (w : World) : Calls Tryd.prog 18 #[.string s] w (OnePost s.data.toList w) := by
  have hb0 : (s[0]'h0).toNat < 256 := (s[0]'h0).toNat_lt
  have hat0 := at_get s 0 h0
  have HAT := Lib.hid hat0
  clear hat0
  go_enter Tryd.func18, Tryd.ntmps18
  go_wp2_with fail
  refine (begins_any s h0 _).mono ?_
  rintro e w1 ⟨k, rfl, hk1, hk4, hall, hn, hb⟩
  have HB := Lib.hid hb
  have HO := Lib.hid (one_of s.data.toList k hk1 hk4 hall hn)
  have HALL := Lib.hid hall
  clear hb hall hn
  go_wp2_with fail
  refine (size_any _ _).mono ?_
  rintro e w2 ⟨rfl, rfl⟩
  by_cases hk : k = sizeN (s[0]'h0).toNat
  · have HK := Lib.hid hk
    have hq : (((k : Nat) : Int) != ((sizeN (s[0]'h0).toNat : Nat) : Int)) = false := by rw [← hk]; simp
    clear hk
    have HO2 : Hid (one s.data.toList = (refV (at_ s.data.toList 0) (at_ s.data.toList 1) (at_ s.data.toList 2) (at_ s.data.toList 3) k, k)) := by
      have := HO.out
      rw [if_pos (by rw [HK.out, HAT.out])] at this
      exact this
    rcases (show k = 1 ∨ k = 2 ∨ k = 3 ∨ k = 4 by omega) with rfl | rfl | rfl | rfl
    · have hr : 0 ≤ (s[0]'h0).toNat ∧ (s[0]'h0).toNat ≤ 127 := by
        have h1 := HK.out
        have h2 := sizeN_cases (s[0]'h0).toNat
        omega
      obtain ⟨hr1, hr2⟩ := hr
      go_wp2_with fail
      go_rounds 2
      go_ret2
      exact onePost_mk HO2.out HB.out _ _ (by have h0 := HAT.out; simp only [refV, Nat.reduceEqDiff, if_true, if_false]; omega) rfl
    · have hr : 194 ≤ (s[0]'h0).toNat ∧ (s[0]'h0).toNat ≤ 223 := by
        have h1 := HK.out
        have h2 := sizeN_cases (s[0]'h0).toNat
        omega
      obtain ⟨hr1, hr2⟩ := hr
      have hi1 : 1 < s.size := by have := okAt_lt (HALL.out 1 (by omega) (by omega)); simpa using this
      have hb1 : (s[1]'hi1).toNat < 256 := (s[1]'hi1).toNat_lt
      have HA1 := Lib.hid (at_get s 1 hi1)
      have hg1 : 128 ≤ (s[1]'hi1).toNat := by have := ((okAt_iff _ _).1 (HALL.out 1 (by omega) (by omega))).2.2.1; rw [HA1.out]; exact this
      go_wp2_with fail
      go_rounds 3
      go_ret2
      exact onePost_mk HO2.out HB.out _ _ (by have h0 := HAT.out; have h1 := HA1.out; simp only [refV, Nat.reduceEqDiff, if_true, if_false]; omega) rfl
    · have hr : 224 ≤ (s[0]'h0).toNat ∧ (s[0]'h0).toNat ≤ 239 := by
        have h1 := HK.out
        have h2 := sizeN_cases (s[0]'h0).toNat
        omega
      obtain ⟨hr1, hr2⟩ := hr
      have hi1 : 1 < s.size := by have := okAt_lt (HALL.out 1 (by omega) (by omega)); simpa using this
      have hb1 : (s[1]'hi1).toNat < 256 := (s[1]'hi1).toNat_lt
      have HA1 := Lib.hid (at_get s 1 hi1)
      have hg1 : 128 ≤ (s[1]'hi1).toNat := by have := ((okAt_iff _ _).1 (HALL.out 1 (by omega) (by omega))).2.2.1; rw [HA1.out]; exact this
      have hi2 : 2 < s.size := by have := okAt_lt (HALL.out 2 (by omega) (by omega)); simpa using this
      have hb2 : (s[2]'hi2).toNat < 256 := (s[2]'hi2).toNat_lt
      have HA2 := Lib.hid (at_get s 2 hi2)
      have hg2 : 128 ≤ (s[2]'hi2).toNat := by have := ((okAt_iff _ _).1 (HALL.out 2 (by omega) (by omega))).2.2.1; rw [HA2.out]; exact this
      go_wp2_with fail
      go_rounds 4
      go_ret2
      exact onePost_mk HO2.out HB.out _ _ (by have h0 := HAT.out; have h1 := HA1.out; have h2 := HA2.out; simp only [refV, Nat.reduceEqDiff, if_true, if_false]; omega) rfl
    · have hr : 240 ≤ (s[0]'h0).toNat ∧ (s[0]'h0).toNat ≤ 244 := by
        have h1 := HK.out
        have h2 := sizeN_cases (s[0]'h0).toNat
        omega
      obtain ⟨hr1, hr2⟩ := hr
      have hi1 : 1 < s.size := by have := okAt_lt (HALL.out 1 (by omega) (by omega)); simpa using this
      have hb1 : (s[1]'hi1).toNat < 256 := (s[1]'hi1).toNat_lt
      have HA1 := Lib.hid (at_get s 1 hi1)
      have hg1 : 128 ≤ (s[1]'hi1).toNat := by have := ((okAt_iff _ _).1 (HALL.out 1 (by omega) (by omega))).2.2.1; rw [HA1.out]; exact this
      have hi2 : 2 < s.size := by have := okAt_lt (HALL.out 2 (by omega) (by omega)); simpa using this
      have hb2 : (s[2]'hi2).toNat < 256 := (s[2]'hi2).toNat_lt
      have HA2 := Lib.hid (at_get s 2 hi2)
      have hg2 : 128 ≤ (s[2]'hi2).toNat := by have := ((okAt_iff _ _).1 (HALL.out 2 (by omega) (by omega))).2.2.1; rw [HA2.out]; exact this
      have hi3 : 3 < s.size := by have := okAt_lt (HALL.out 3 (by omega) (by omega)); simpa using this
      have hb3 : (s[3]'hi3).toNat < 256 := (s[3]'hi3).toNat_lt
      have HA3 := Lib.hid (at_get s 3 hi3)
      have hg3 : 128 ≤ (s[3]'hi3).toNat := by have := ((okAt_iff _ _).1 (HALL.out 3 (by omega) (by omega))).2.2.1; rw [HA3.out]; exact this
      go_wp2_with fail
      go_rounds 5
      go_ret2
      exact onePost_mk HO2.out HB.out _ _ (by have h0 := HAT.out; have h1 := HA1.out; have h2 := HA2.out; have h3 := HA3.out; simp only [refV, Nat.reduceEqDiff, if_false]; omega) rfl
  · have hq : (((k : Nat) : Int) != ((sizeN (s[0]'h0).toNat : Nat) : Int)) = true := by rw [bne_iff_ne]; omega
    have HO2 : Hid (one s.data.toList = (1114112 + at_ s.data.toList 0, 1)) := by
      have := HO.out
      rw [if_neg (by rw [← HAT.out]; exact hk)] at this
      exact this
    clear hk
    go_wp2_with fail
    go_ret2
    exact onePost_mk HO2.out HB.out _ _ (by have := HAT.out; omega) rfl
end Go.Proofs.YtipekkddhelhmaaDoor
