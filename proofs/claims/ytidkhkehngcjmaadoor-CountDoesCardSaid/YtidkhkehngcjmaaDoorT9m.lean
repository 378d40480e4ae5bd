/- The reference Do of layer 29 at the minus key. -/
import Derived.Test.YtidkhkehngcjmaaDoorT9
namespace Go.Proofs.YtidkhkehngcjmaaDoor
open Go.RowKit
theorem all_take_succ (s : ByteArray) (k : Nat) (h : k < s.size) : (s.data.toList.take (k + 1)).all (· == 45) = ((s.data.toList.take k).all (· == 45) && s[k] == 45) := by
  rw [take_snoc' s k h]; simp
theorem mem_not (s : ByteArray) (k : Nat) (h : k < s.size) (hm : ¬ s[k] = 45) : s.data.toList.all (· == 45) = false := by
  rw [List.all_eq_false]
  exact ⟨s[k], List.getElem_mem (l := s.data.toList) (n := k) (by simpa using h), by simp [hm]⟩
set_option maxHeartbeats 1000000 in
theorem rdo_minus (s : ByteArray) (hs : s.size ≤ 1000) (w : World) :
   Calls Tryd.prog 7 #[.agg #[.string s], .agg #[.int .i64 3, .int .i64 45, .string ⟨#[]⟩, .bool false]] w (RPost s.data.toList 3 45 w) := by
  have hsz : (strOfNums [45]).size = 1 := by simp [strOfNums_size]
  have hdash : (⟨#[45]⟩ : ByteArray) = strOfNums [45] := rfl
  have HD := Lib.hid hdash
  clear hdash
  go_enter Tryd.func7, Tryd.ntmps7
  go_wp2
  obtain ⟨w1, hw1⟩ : ∃ w1, w1 = ((w.alloc (.cells #[.string s] 28)).alloc (.cells #[.int .i64 3, .int .i64 45, .string ⟨#[]⟩, .bool false] 32)).alloc (.cells #[.string ⟨#[]⟩] 28) := ⟨_, rfl⟩
  rw [← hw1]
  have HK := Lib.hid (show w1.cell? ⟨w.heap.size, 0, none⟩ = some (.string s) by rw [hw1]; simp [go_sem])
  have HK2 := Lib.hid (show w1.cell? ⟨w.heap.size + 1 + 1, 0, none⟩ = some (.string ⟨#[]⟩) by rw [hw1]; simp [go_sem])
  have HF := Lib.hid (show w1.frozen? ⟨w.heap.size + 1 + 1, 0, none⟩ = false by rw [hw1]; simp [go_sem])
  have HB := Lib.hid (show Below w.heap.size w w1 by rw [hw1]; go_grown)
  clear hw1
  have k0 := HK.out
  have k1 := HK2.out
  have k2 := HF.out
  go_loop [6] (fun i => ∃ k : Nat, k ≤ s.size ∧ i = .int .i64 k ∧ Hid ((s.data.toList.take k).all (· == 45) = true)) (fun i => s.size - (intOf i).toNat)
  case atStart => exact ⟨0, Nat.zero_le _, rfl, by show _ = _; simp⟩
  case round =>
    obtain ⟨k, hk, rfl, hall⟩ := hrel
    by_cases hlt : k < s.size
    · by_cases hm : s[k] = 45
      · have HM := Lib.hid hm
        go_wp2_with fail
        go_round
        case rel => exact ⟨k + 1, by omega, by go_num, by show _ = _; rw [all_take_succ s k hlt, hall.out, HM.out]; rfl⟩
        case measure => simp [intOf]; omega
      · have HM := Lib.hid (mem_not s k hlt hm)
        have hm2 : ((s[k].toNat : Int) != 45) = true := by rw [bne_iff_ne]; intro h; exact hm (UInt8.toNat_inj.1 (by simpa using Int.ofNat_inj.1 h))
        go_wp2_with fail
        refine bodyPost_ret (v := .tuple #[.agg #[.string s], .bool false]) (by simp only [results, Tryd.results7]; go_simp) rfl (rpost_no (by rw [rdoOk, if_neg (by omega), HM.out]; rfl) ?_)
        exact HB.out.setCell (by simp; omega) _
    · have hke : k = s.size := by omega
      have HA : Hid (s.data.toList.all (· == 45) = true) := by
        have := hall.out
        rw [hke, List.take_of_length_le (by simp)] at this
        exact this
      clear hke
      go_wp2_with fail
      rw [HD.out]
      refine bodyPost_ret (v := .tuple #[.agg #[.string (s ++ strOfNums [45])], .bool true]) (by simp only [results, Tryd.results7]; go_simp) rfl (rpost_yes (by rw [rdoOk, if_neg (by omega), HA.out]; rfl) ?_)
      exact HB.out.setCell (by simp; omega) _
end Go.Proofs.YtidkhkehngcjmaaDoor
