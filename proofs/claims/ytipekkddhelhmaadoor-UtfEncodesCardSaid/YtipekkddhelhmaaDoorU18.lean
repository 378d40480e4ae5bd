/- The contract of awake. -/
import Derived.Test.YtipekkddhelhmaaDoorU11
import Derived.Test.YtipekkddhelhmaaDoorU16
import Derived.Test.YtipekkddhelhmaaDoorU17
namespace Go.Proofs.YtipekkddhelhmaaDoor
open Go.RowKit
theorem a1 : valsL (⟨#[195, 169, 195]⟩ : ByteArray).data.toList = [233, 1114307] := by decide +kernel
theorem a2 : one (⟨#[226, 130, 172, 120]⟩ : ByteArray).data.toList = (8364, 3) := by decide +kernel
theorem a3 : encF (natsAt [233, 1114307]) 2 = [195, 169, 195] := by decide +kernel
theorem a4 : (valsL (⟨#[97, 98]⟩ : ByteArray).data.toList).length = 2 := by decide +kernel
theorem a5 : partL (⟨#[226, 130]⟩ : ByteArray).data.toList = true := by decide +kernel
theorem a6 : rightB 65 = true := by decide +kernel
theorem SlI.nil_or {w : World} {v : Value} {n : Nat} {f : Nat → Int} (h : SlI w v (n + 1) f) : ∃ b off cap, v = .slice (some ⟨b, off, none⟩) (n + 1 : Nat) cap ∧ b < w.heap.size ∧ ∀ i, i < n + 1 → w.cell? ⟨b, off + i, none⟩ = some (.int .i64 (f i)) := by
  obtain ⟨ao, cap, rfl, hm, hc⟩ := h
  obtain ⟨b, off, rfl, hlt, hcell⟩ := hc (by omega)
  exact ⟨b, off, cap, rfl, hlt, hcell⟩
def YesPost (w : World) (e : Ending) (w' : World) : Prop := e = .returned (.bool true) ∧ Below w.heap.size w w'
set_option maxHeartbeats 2000000 in
theorem awake_any (w : World) (ht : UtfTabs w) : Calls Tryd.prog 7 #[] w (YesPost w) := by
  have HT := Lib.hid ht
  clear ht
  go_enter Tryd.func7, Tryd.ntmps7
  go_wp2_with fail
  refine (decode_any _ (by decide) _).mono ?_
  rintro e w1 ⟨v, rfl, ho, hb⟩
  rw [a1] at ho
  obtain ⟨-, hs⟩ := own_sl ho
  have HS := Lib.hid hs
  have HB := Lib.hid hb
  clear ho hs hb
  go_wp2_with fail
  refine (uone_any _ (by decide) _).mono ?_
  rintro e w2 ⟨rfl, hb2⟩
  rw [a2]
  have hs2 := HS.out.below hb2
  have HS2 := Lib.hid hs2
  have HB2 := Lib.hid (HB.out.trans (hb2.mono HB.out.size))
  clear hb2
  obtain ⟨b, off, cap, rfl, hbl, hcell⟩ := (show SlI w2 v (1 + 1) (natsAt [233, 1114307]) from hs2).nil_or
  have c0 := hcell 0 (by omega)
  have c1 := hcell 1 (by omega)
  rw [Nat.add_zero] at c0
  have e0 : natsAt [233, 1114307] 0 = 233 := rfl
  have e1 : natsAt [233, 1114307] 1 = 1114307 := rfl
  rw [e0] at c0
  rw [e1] at c1
  clear hcell e0 e1 hs2
  go_wp2_with fail
  refine (uenc_any _ 2 _ (by omega) _ HS2.out).mono ?_
  rintro e w3 ⟨rfl, hb3⟩
  rw [a3]
  have HB3 := Lib.hid (HB2.out.trans (hb3.mono HB2.out.size))
  clear hb3
  go_wp2_with fail
  refine (count_any _ (by decide) _).mono ?_
  rintro e w4 ⟨rfl, hb4⟩
  rw [a4]
  have HB4 := Lib.hid (HB3.out.trans (hb4.mono HB3.out.size))
  clear hb4
  go_wp2_with fail
  refine (upart_any _ (by decide) (by decide) _ (HT.out.below HB4.out)).mono ?_
  rintro e w5 ⟨rfl, hb5⟩
  rw [a5]
  have HB5 := Lib.hid (HB4.out.trans (hb5.mono HB4.out.size))
  clear hb5
  go_wp2_with fail
  refine (right_any _ _).mono ?_
  rintro e w6 ⟨rfl, rfl⟩
  rw [a6]
  go_wp2_with fail
  go_ret
  exact ⟨rfl, HB5.out⟩
end Go.Proofs.YtipekkddhelhmaaDoor
