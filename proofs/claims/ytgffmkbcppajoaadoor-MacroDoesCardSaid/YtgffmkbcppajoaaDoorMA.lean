/- What must come at any rate: awake. -/
import Derived.Test.YtgffmkbcppajoaaDoorM9
namespace Go.Proofs.YtgffmkbcppajoaaDoor
open Go.RowKit
set_option maxHeartbeats 2000000 in
theorem awake_any (w : World) (ht : KeyTab w) : Calls Tryd.prog 4 #[] w fun e w' => e = .returned (.bool true) ∧ Below w.heap.size w w' := by
  have HT := Lib.hid ht
  clear ht
  go_enter Tryd.func4, Tryd.ntmps4
  go_wp2_with fail
  refine (new_any 2 _ (by omega) (by omega)).mono ?_
  rintro e w1 ⟨rfl, rfl⟩
  have hm0 := mc_new (B := w.heap.size) 2 (by omega) w (Nat.le_refl _)
  have HB1 := Lib.hid ((Below.refl w.heap.size w).alloc (Nat.le_refl _) (.cells #[.int .i64 2, .slice none 0 0, .slice none 0 0, .bool false] 45))
  obtain ⟨w1, hw1⟩ : ∃ w1, w.alloc (.cells #[.int .i64 2, .slice none 0 0, .slice none 0 0, .bool false] 45) = w1 := ⟨_, rfl⟩
  rw [show ((2 : Nat) : Int) = 2 from rfl] at hm0
  rw [hw1] at hm0 HB1
  have HM1 := Lib.hid hm0
  clear hm0
  rw [hw1]
  clear hw1
  go_wp2_with fail
  refine (begin_yes HM1.out).mono ?_
  rintro e w2 ⟨rfl, hm2, hk2⟩
  have HM2 := Lib.hid hm2
  have HB2 : Hid (Below w.heap.size w w2) := Keep.onto HB1.out hk2 HB1.out.size (fun q hq => by omega)
  clear hm2 hk2
  go_wp2_with fail
  refine (do_yes ⟨1, 97, ⟨#[]⟩, false⟩ HM2.out (HT.out.below HB2.out) (by decide) (by decide +kernel) (by decide)).mono ?_
  rintro e w3 ⟨rfl, g3, hm3, hg3, hk3⟩
  have HM3 := Lib.hid hm3
  have HB3 : Hid (Below w.heap.size w w3) := Keep.onto HB2.out hk3 HB2.out.size (fun q hq => by omega)
  clear hm3 hk3
  have hg3' : w.heap.size ≤ g3 := by have := HB2.out.size; omega
  go_wp2_with fail
  refine (do_yes ⟨7, 0, ⟨#[]⟩, false⟩ HM3.out (HT.out.below HB3.out) (by decide) (by decide +kernel) (by decide)).mono ?_
  rintro e w4 ⟨rfl, g4, hm4, hg4, hk4⟩
  have HM4 := Lib.hid hm4
  have HB4 : Hid (Below w.heap.size w w4) := Keep.onto HB3.out hk4 HB3.out.size (fun q hq => by omega)
  clear hm4 hk4 hg4
  go_wp2_with fail
  refine (do_full ⟨7, 0, ⟨#[]⟩, false⟩ HM4.out (HT.out.below HB4.out) (by decide) (by decide +kernel) (by decide)).mono ?_
  rintro e w5 ⟨rfl, hb5⟩
  have HM5 := Lib.hid (HM4.out.below hb5)
  have HB5 := Lib.hid (HB4.out.trans (hb5.mono HB4.out.size))
  clear hb5
  go_wp2_with fail
  refine (end_some (by decide) HM5.out).mono ?_
  rintro e w6 ⟨rfl, hm6, hk6⟩
  have HM6 := Lib.hid hm6
  have HB6 : Hid (Below w.heap.size w w6) := Keep.onto HB5.out hk6 HB5.out.size (fun q hq => by omega)
  clear hm6 hk6
  go_wp2_with fail
  refine (play_yes 2 (by decide) (by decide) (by decide) HM6.out).mono ?_
  rintro e w7 ⟨v, rfl, ho, hb7⟩
  have HM7 := Lib.hid (HM6.out.below hb7)
  have HB7 := Lib.hid (HB6.out.trans (hb7.mono HB6.out.size))
  obtain ⟨ao, cap, b, rfl, hb, hkv⟩ := own_kv (l := rep 2 ([⟨1, 97, ⟨#[]⟩, false⟩] ++ [⟨7, 0, ⟨#[]⟩, false⟩])) ho rfl
  obtain ⟨off, hbl, rfl, hc⟩ := hkv.2.2.2.at (by decide)
  obtain ⟨-, c1, -, -⟩ := hc 2 (by decide)
  have c1' : w7.cell? ⟨b, off + 2 * 4 + 1, none⟩ = some (.int .i64 97) := c1
  rw [show (rep 2 ([⟨1, 97, ⟨#[]⟩, false⟩] ++ [⟨7, 0, ⟨#[]⟩, false⟩])).length = 4 from rfl]
  clear hc hb7 hkv ho c1
  go_wp2_with fail
  refine (keys_any HM7.out).mono ?_
  rintro e w8 ⟨ao, cap8, b8, rfl, -, -, hb8⟩
  have HM8 := Lib.hid (HM7.out.below hb8)
  have HB8 := Lib.hid (HB7.out.trans (hb8.mono HB7.out.size))
  clear hb8
  have e2 : (([] ++ [(⟨1, 97, ⟨#[]⟩, false⟩ : KV)] ++ [(⟨7, 0, ⟨#[]⟩, false⟩ : KV)] : List KV)).length = 2 := rfl
  rw [e2]
  clear e2
  go_wp2_with fail
  refine (keeps_any HM8.out).mono ?_
  rintro e w9 ⟨rfl, rfl⟩
  go_wp2_with fail
  go_ret
  exact ⟨rfl, HB8.out⟩
end Go.Proofs.YtgffmkbcppajoaaDoor
