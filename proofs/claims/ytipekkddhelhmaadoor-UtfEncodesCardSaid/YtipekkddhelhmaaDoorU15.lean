/- The contract of the reference's Bytes. -/
import Derived.Test.YtipekkddhelhmaaDoorU13
namespace Go.Proofs.YtipekkddhelhmaaDoor
open Go.RowKit
def StrPost (l : List UInt8) (w : World) (e : Ending) (w' : World) : Prop := e = .returned (.string ⟨l.toArray⟩) ∧ Below w.heap.size w w'
theorem conv1 (W : World) (n : Nat) (x : Int) (hn : n = W.heap.size) : (convert 36 9 (.slice (some ⟨n, 0, none⟩) 1 1)).run Tryd.prog (W.alloc (.cells #[.int .u8 x] 5)) = .ok (.string (strOfNums [x])) (W.alloc (.cells #[.int .u8 x] 5)) := conv_new W n 1 [x] hn rfl
theorem conv2 (W : World) (n : Nat) (x y : Int) (hn : n = W.heap.size) : (convert 36 9 (.slice (some ⟨n, 0, none⟩) 2 2)).run Tryd.prog (W.alloc (.cells #[.int .u8 x, .int .u8 y] 5)) = .ok (.string (strOfNums [x, y])) (W.alloc (.cells #[.int .u8 x, .int .u8 y] 5)) := conv_new W n 2 [x, y] hn rfl
theorem conv3 (W : World) (n : Nat) (x y z : Int) (hn : n = W.heap.size) : (convert 36 9 (.slice (some ⟨n, 0, none⟩) 3 3)).run Tryd.prog (W.alloc (.cells #[.int .u8 x, .int .u8 y, .int .u8 z] 5)) = .ok (.string (strOfNums [x, y, z])) (W.alloc (.cells #[.int .u8 x, .int .u8 y, .int .u8 z] 5)) := conv_new W n 3 [x, y, z] hn rfl
theorem conv4 (W : World) (n : Nat) (x y z u : Int) (hn : n = W.heap.size) : (convert 36 9 (.slice (some ⟨n, 0, none⟩) 4 4)).run Tryd.prog (W.alloc (.cells #[.int .u8 x, .int .u8 y, .int .u8 z, .int .u8 u] 5)) = .ok (.string (strOfNums [x, y, z, u])) (W.alloc (.cells #[.int .u8 x, .int .u8 y, .int .u8 z, .int .u8 u] 5)) := conv_new W n 4 [x, y, z, u] hn rfl
theorem strPost_mk {l : List UInt8} {xs : List Int} {w w' : World} (h : xs.map (fun n => UInt8.ofNat n.toNat) = l) (hb : Below w.heap.size w w') : StrPost l w (.returned (.string (strOfNums xs))) w' := ⟨by rw [strOf_eq h], hb⟩
theorem of_eq {a : Int} {b : Nat} (h : a = b) : UInt8.ofNat a.toNat = UInt8.ofNat b := by rw [h]; rfl
set_option maxHeartbeats 2000000 in
theorem rbytes_any (v : Int) (hr : rightB v = true) (w : World) : Calls Tryd.prog 22 #[.int .i64 v] w (StrPost (bytesN v.toNat) w) := by
  have h0 : 0 ≤ v ∧ v ≤ 1114367 := by
    unfold rightB at hr
    split at hr
    · omega
    · simp at hr; omega
  obtain ⟨h0, hmx⟩ := h0
  have hc1 := conv1
  have hc2 := conv2
  have hc3 := conv3
  have hc4 := conv4
  by_cases h1 : v < 128
  · go_enter Tryd.func22, Tryd.ntmps22
    go_wp2_with fail
    go_ret
    refine strPost_mk ?_ (by go_grown)
    unfold bytesN
    rw [if_pos (by omega)]
    simp only [List.map_cons, List.map_nil]
  by_cases h2 : v < 2048
  · have hA : Int.tdiv v 64 = v / 64 := Int.tdiv_eq_ediv_of_nonneg h0
    have hB : Int.tmod v 64 = v % 64 := Int.tmod_eq_emod_of_nonneg h0
    go_enter Tryd.func22, Tryd.ntmps22
    go_wp2_with fail
    go_ret
    refine strPost_mk ?_ (by go_grown)
    unfold bytesN
    rw [if_neg (by omega), if_pos (by omega)]
    simp only [List.map_cons, List.map_nil]
    rw [of_eq (b := 192 + v.toNat / 64) (by omega), of_eq (b := 128 + v.toNat % 64) (by omega)]
  by_cases h3 : v < 65536
  · go_enter Tryd.func22, Tryd.ntmps22
    go_wp2_with fail
    go_ret
    refine strPost_mk ?_ (by go_grown)
    unfold bytesN
    rw [if_neg (by omega), if_neg (by omega), if_pos (by omega)]
    simp only [List.map_cons, List.map_nil]
    rw [of_eq (b := 224 + v.toNat / 4096) (by omega), of_eq (b := 128 + v.toNat / 64 % 64) (by omega), of_eq (b := 128 + v.toNat % 64) (by omega)]
  by_cases h4 : v ≤ 1114111
  · go_enter Tryd.func22, Tryd.ntmps22
    go_wp2_with fail
    go_ret
    refine strPost_mk ?_ (by go_grown)
    unfold bytesN
    rw [if_neg (by omega), if_neg (by omega), if_neg (by omega), if_pos (by omega)]
    simp only [List.map_cons, List.map_nil]
    rw [of_eq (b := 240 + v.toNat / 262144) (by omega), of_eq (b := 128 + v.toNat / 4096 % 64) (by omega), of_eq (b := 128 + v.toNat / 64 % 64) (by omega), of_eq (b := 128 + v.toNat % 64) (by omega)]
  · have hlo : 1114240 ≤ v := by
      unfold rightB at hr
      rw [if_neg (by omega)] at hr
      simp at hr; omega
    clear hr
    go_enter Tryd.func22, Tryd.ntmps22
    go_wp2_with fail
    go_ret
    refine strPost_mk ?_ (by go_grown)
    unfold bytesN
    rw [if_neg (by omega), if_neg (by omega), if_neg (by omega), if_neg (by omega)]
    simp only [List.map_cons, List.map_nil]
    rw [of_eq (b := v.toNat - 1114112) (by omega)]
end Go.Proofs.YtipekkddhelhmaaDoor
