/- The contract of awake of layer 29: it answers true. -/
import Derived.Test.YtidkhkehngcjmaaDoorT8
import Derived.Test.YtidkhkehngcjmaaDoorT9m
import Derived.Test.YtidkhkehngcjmaaDoorT10
namespace Go.Proofs.YtidkhkehngcjmaaDoor
open Go.RowKit
theorem KeyTab.keep {S : Nat → Prop} {w w' : World} (h : KeyTab w) (hk : Keep S w w') (hS : ¬ S 0) : KeyTab w' :=
  ⟨Nat.lt_of_lt_of_le h.1 hk.size, fun i hi => by
    obtain ⟨a, b, c, d⟩ := h.2 i hi
    exact ⟨(hk.cell h.1 hS).trans a, (hk.cell h.1 hS).trans b, (hk.cell h.1 hS).trans c, (hk.cell h.1 hS).trans d⟩⟩
theorem emptyB_nil : emptyB ⟨#[]⟩ = true := by unfold emptyB; rw [toList_data']; rfl
theorem may45 : mayB 3 45 ⟨#[]⟩ false = true := by simp [mayB, emptyB_nil]
theorem may49 : mayB 3 49 ⟨#[]⟩ false = true := by simp [mayB, emptyB_nil]
theorem may50 : mayB 1 50 ⟨#[]⟩ false = true := by simp [mayB, emptyB_nil, rightB]
theorem may120 : mayB 1 120 ⟨#[]⟩ false = true := by simp [mayB, emptyB_nil, rightB]
theorem emp_size : ((⟨#[]⟩ : ByteArray)).size ≤ 9223372036854775807 := by decide
/-- One digit key, or another that is no minus, at a count that stands in block c. -/
theorem do_dig (c : Nat) (s : CS) (kd v : Int) (w : World) (hc : Blk w c s.cells 42) (ht : KeyTab w) (hm : mayB kd v ⟨#[]⟩ false = true) (hd : ¬ (kd = 3 ∧ v = 45 ∧ s.dg = false))
   (hz : s.bg = false → s = ⟨false, false, false, 0⟩) (hn0 : 0 ≤ s.n) (hn1 : s.n ≤ 9999) (b : Bool) (hb : digOk kd v s.bg = b) :
   Calls Tryd.prog 9 #[.pointer (some ⟨c, 0, none⟩), .agg #[.int .i64 kd, .int .i64 v, .string ⟨#[]⟩, .bool false]] w fun e w' => e = .returned (.bool b) ∧ Blk w' c (CS.cells (s.put kd v)) 42 ∧ Keep (· = c) w w' :=
  (do_digit c s kd v ⟨#[]⟩ false w hc ht emp_size hm hd hz hn0 hn1).mono fun e w' h => ⟨by rw [h.1, hb], h.2.1, h.2.2⟩
set_option maxHeartbeats 1000000 in
theorem awake_any (w : World) (ht : KeyTab w) : Calls Tryd.prog 5 #[] w fun e w' => e = .returned (.bool true) ∧ Below w.heap.size w w' := by
  have h0 := ht.1
  have HT := Lib.hid ht
  clear ht
  go_enter Tryd.func5, Tryd.ntmps5
  go_wp2_with fail
  refine (new_any _).mono ?_
  rintro e w1 ⟨rfl, hw1⟩
  have HB1 : Hid (Blk w1 w.heap.size CS.zero.cells 42) := by rw [← hw1]; exact Blk.new w _ _
  have HK1 : Hid (Below w.heap.size w w1) := by show Below _ _ _; rw [← hw1]; go_grown
  have HT1 := Lib.hid (HT.out.below HK1.out)
  clear hw1
  go_wp2_with fail
  refine (do_minus w.heap.size CS.zero ⟨#[]⟩ false _ HB1.out HT1.out emp_size may45 rfl).mono ?_
  rintro e w2 ⟨rfl, hb, hk⟩
  have HB2 := Lib.hid hb
  have HK2 := Lib.hid (Keep.onto HK1.out hk (by have := HK1.out.size; omega) (by intro k hk; omega))
  have HT2 := Lib.hid (HT1.out.keep hk (by omega))
  clear hb hk
  go_wp2_with fail
  refine (do_dig w.heap.size _ 3 49 _ HB2.out HT2.out may49 (by omega) (by intro h; cases h) (by decide) (by decide) true rfl).mono ?_
  rintro e w3 ⟨rfl, hb, hk⟩
  have HB3 := Lib.hid hb
  have HK3 := Lib.hid (Keep.onto HK2.out hk (by have := HK2.out.size; omega) (by intro k hk; omega))
  have HT3 := Lib.hid (HT2.out.keep hk (by omega))
  clear hb hk
  go_wp2_with fail
  refine (do_dig w.heap.size _ 1 50 _ HB3.out HT3.out may50 (by omega) (by intro h; cases h) (by decide) (by decide) true rfl).mono ?_
  rintro e w4 ⟨rfl, hb, hk⟩
  have HB4 := Lib.hid hb
  have HK4 := Lib.hid (Keep.onto HK3.out hk (by have := HK3.out.size; omega) (by intro k hk; omega))
  have HT4 := Lib.hid (HT3.out.keep hk (by omega))
  clear hb hk
  go_wp2_with fail
  refine (do_dig w.heap.size _ 1 120 _ HB4.out HT4.out may120 (by omega) (by intro h; cases h) (by decide) (by decide) false rfl).mono ?_
  rintro e w5 ⟨rfl, hb, hk⟩
  have HB5 := Lib.hid hb
  have HK5 := Lib.hid (Keep.onto HK4.out hk (by have := HK4.out.size; omega) (by intro k hk; omega))
  clear hb hk
  go_wp2_with fail
  refine (take_any w.heap.size _ (-12) true _ HB5.out (value_begun w.heap.size true true 12 (by decide) (by decide) _ HB5.out)).mono ?_
  rintro e w6 ⟨rfl, hb, hk⟩
  have HB6 := Lib.hid hb
  have HK6 := Lib.hid (Keep.onto HK5.out hk (by have := HK5.out.size; omega) (by intro k hk; omega))
  clear hb hk
  go_wp2_with fail
  refine (value_zero w.heap.size _ HB6.out).mono ?_
  rintro e w7 ⟨rfl, rfl⟩
  go_wp2_with fail
  go_ret
  exact ⟨rfl, HK6.out⟩
end Go.Proofs.YtidkhkehngcjmaaDoor
