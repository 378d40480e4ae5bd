import Derived.Test.YtipekkddhelhmaaDoorU9
import Derived.Test.YtipekkddhelhmaaDoorU10
namespace Go.Proofs.YtipekkddhelhmaaDoor
open Go.RowKit
theorem part_beg (l : List UInt8) (k : Nat) (h1 : 1 ≤ k) (hall : ∀ i, 1 ≤ i → i < k → okAt l i) (hn : ¬ okAt l k) (h0 : 0 < l.length) :
    partL l = (decide (k = l.length) && decide (l.length < sizeN (at_ l 0))) := by
  rw [Bool.eq_iff_iff, partL_iff]
  simp only [Bool.and_eq_true, decide_eq_true_eq]
  constructor
  · rintro ⟨h2, h3⟩
    refine ⟨?_, h2⟩
    by_cases hk : k < l.length
    · exact absurd ⟨by omega, hk, h3 k h1 hk⟩ hn
    · by_cases hk2 : k = l.length
      · exact hk2
      · have := (hall (k - 1) (by omega) (by omega)).2.1
        omega
  · rintro ⟨rfl, h2⟩
    exact ⟨h2, fun i hi hl => (hall i hi hl).2.2⟩
def PartPost (b : Bool) (w : World) (e : Ending) (w' : World) : Prop := e = .returned (.bool b) ∧ Below w.heap.size w w'
set_option maxHeartbeats 1000000 in
theorem rpart_any (s : ByteArray) (h0 : 0 < s.size) (w : World) : Calls Tryd.prog 19 #[.string s] w (PartPost (partL s.data.toList) w) := by
  have HAT := Lib.hid (at_get s 0 h0)
  have HL := Lib.hid (show s.data.toList.length = s.size by simp)
  have h0i : (0 : Int) < (s.size : Int) := by omega
  go_enter Tryd.func19, Tryd.ntmps19
  go_wp2_with fail
  refine (begins_any s h0 _).mono ?_
  rintro e w1 ⟨k, rfl, hk1, hk4, hall, hn, hb⟩
  have HP := Lib.hid (part_beg s.data.toList k hk1 hall hn (by rw [HL.out]; exact h0))
  clear hall hn
  by_cases hk : k = s.size
  · have hq : (((k : Nat) : Int) == ((s.size : Nat) : Int)) = true := by rw [beq_iff_eq]; omega
    have HK := Lib.hid hk
    clear hk
    go_wp2_with fail
    refine (size_any _ _).mono ?_
    rintro e w2 ⟨rfl, rfl⟩
    go_wp2_with fail
    go_ret
    refine ⟨?_, hb⟩
    rw [HP.out, HL.out, ← HAT.out, HK.out]
    simp
  · have hq : (((k : Nat) : Int) == ((s.size : Nat) : Int)) = false := by rw [beq_eq_false_iff_ne]; omega
    have HK := Lib.hid hk
    clear hk
    go_wp2_with fail
    go_ret
    refine ⟨?_, hb⟩
    rw [HP.out, HL.out]
    simp [HK.out]
set_option maxHeartbeats 1000000 in
theorem upart_any (s : ByteArray) (h0 : 0 < s.size) (hs : s.size ≤ 1000000) (w : World) (ht : UtfTabs w) : Calls Tryd.prog 17 #[.string s] w (PartPost (partL s.data.toList) w) := by
  have HT := Lib.hid ht
  have he : s.toList.isEmpty = false := by
    rw [ByteArray.toList_eq]
    cases h : s.data.toList
    · exfalso
      have : s.data.toList.length = s.size := by simp
      rw [h] at this; simp at this; omega
    · rfl
  clear ht
  go_enter Tryd.func17, Tryd.ntmps17
  go_wp2_with fail
  refine (full_any s h0 _ HT.out hs).mono ?_
  rintro e w1 ⟨rfl, hb⟩
  go_wp2_with fail
  go_ret
  exact ⟨by simp, hb⟩
theorem upart_nil (w : World) : Calls Tryd.prog 17 #[.string ⟨#[]⟩] w (PartPost false w) := by
  go_enter Tryd.func17, Tryd.ntmps17
  go_wp2_with fail
  go_ret
  exact ⟨rfl, Below.refl _ _⟩
end Go.Proofs.YtipekkddhelhmaaDoor
