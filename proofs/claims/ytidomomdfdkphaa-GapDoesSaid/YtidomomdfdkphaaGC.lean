/- The walk of GapNone: for every list of signs and every number it answers true, and nothing that was there before is written. -/
import Derived.Test.YtidomomdfdkphaaGB
namespace Go.Proofs.Ytidomomdfdkphaa
open Go.RowKit
theorem sl_ne {w : World} {b : Nat} {ao : Option Addr} {l : List (Int × Int)} (h : Sl w b ao l) (g : Nat) (hg : w.heap.size ≤ g) : ∃ b', Sl w b' ao l ∧ b' ≠ g := by
  by_cases h0 : 0 < l.length
  · exact ⟨b, h, by have := (h h0).1; omega⟩
  · exact ⟨g + 1, fun h1 => absurd h1 h0, by omega⟩
set_option maxHeartbeats 400000 in
theorem get_nil (i : Int) (w : World) : Calls Try.prog 9 #[.pointer none, .int .i64 i] w fun e w' => e = .returned (.tuple #[.agg #[.int .i64 0, .int .i64 0], .bool false]) ∧ Below w.heap.size w w' := by
  go_enter Try.func9, Try.ntmps9
  go_wp2_with fail
  refine bodyPost_ret (v := .tuple #[.agg #[.int .i64 0, .int .i64 0], .bool false]) (by simp only [results, Try.results9]; go_simp) rfl ⟨rfl, ?_⟩
  go_grown
set_option maxHeartbeats 400000 in
theorem len_nil (w : World) : Calls Try.prog 15 #[.pointer none] w fun e w' => e = .returned (.int .i64 0) ∧ w = w' := by
  go_enter Try.func15, Try.ntmps15
  go_wp2
  go_ret
  exact ⟨rfl, rfl⟩
set_option maxHeartbeats 400000 in
theorem at_nil (w : World) : Calls Try.prog 16 #[.pointer none] w fun e w' => e = .returned (.int .i64 0) ∧ w = w' := by
  go_enter Try.func16, Try.ntmps16
  go_wp2
  go_ret
  exact ⟨rfl, rfl⟩
set_option maxHeartbeats 400000 in
theorem line_nil (w : World) : Calls Try.prog 17 #[.pointer none] w fun e w' => e = .returned (.agg #[.slice none 0 0, .int .i64 0]) ∧ Below w.heap.size w w' := by
  go_enter Try.func17, Try.ntmps17
  go_wp2_with fail
  refine (all_nil _).mono ?_
  rintro e w1 ⟨rfl, rfl⟩
  go_wp2_with fail
  refine (at_nil _).mono ?_
  rintro e w1 ⟨rfl, rfl⟩
  go_wp2_with fail
  refine bodyPost_ret (v := .agg #[.slice none 0 0, .int .i64 0]) (by simp only [results, Try.results17]; go_simp) rfl ⟨rfl, ?_⟩
  go_grown
theorem Gv.set {B g : Nat} {w : World} {A C : List (Int × Int)} {most : Nat} (h : Gv B g w A C most) (hB : B ≤ w.heap.size) {b cap : Nat} {ao : Option Addr} {l : List (Int × Int)} (p : Int) (hs : Sl w b ao l) (hbg : b ≠ g) (hl : l.length ≤ 100000) (hr : l.all rs = true) (hf : l.length ≤ most) :
   Calls Try.prog 11 #[.pointer (some ⟨g, 0, none⟩), .slice ao l.length cap, .int .i64 p] w fun e w' => e = .returned (.int .i64 0) ∧ Gv B g w' (l.take (plc l.length p)) (l.drop (plc l.length p)) most ∧ Below B w w' := by
  obtain ⟨bb, M, h1, h2, h3⟩ := h
  refine (set_ok g bb b ao cap l A M C most p w h1 hs hbg hl hr hf).mono ?_
  rintro e w' ⟨rfl, bb', M', h4, h5, h6⟩
  refine ⟨rfl, ⟨bb', M', h5, h2, by omega⟩, onto_keep h6 hB (fun k hk => by omega)⟩
theorem Gv.setFull {B g : Nat} {w : World} {A C : List (Int × Int)} {most : Nat} (h : Gv B g w A C most) {b cap : Nat} {ao : Option Addr} {l : List (Int × Int)} (p : Int) (hs : Sl w b ao l) (hl : l.length ≤ 1000000) (hr : l.all rs = true) (hf : most < l.length) :
   Calls Try.prog 11 #[.pointer (some ⟨g, 0, none⟩), .slice ao l.length cap, .int .i64 p] w fun e w' => e = .returned (.int .i64 8) ∧ Gv B g w' A C most ∧ Below w.heap.size w w' := by
  have h0 := h
  obtain ⟨bb, M, h1, h2, h3⟩ := h
  refine (set_full g bb b ao cap l A M C most p w h1 hs hl hr hf).mono ?_
  rintro e w' ⟨rfl, h6⟩
  exact ⟨rfl, h0.below h6, h6⟩
theorem field_nil : ∀ w : World, (Instr.field 40 (.agg #[.slice none 0 0, .int .i64 0]) 0).run Try.prog w = .ok (.slice none 0 0) w := fun _ => by kernel_rfl
set_option maxHeartbeats 1000000 in
theorem none_long (ao : Option Addr) (cap len : Nat) (n : Int) (w : World) (h : 60 < len) :
   Calls Try.prog 3 #[.slice ao len cap, .int .i64 n] w fun e w' => e = .returned (.bool true) ∧ Below w.heap.size w w' := by
  go_enter Try.func3, Try.ntmps3
  go_wp2_with fail
  refine (awake_any _).mono ?_
  rintro e w1 ⟨rfl, hb1⟩
  go_wp2_with fail
  go_ret
  exact ⟨rfl, hb1⟩
set_option maxHeartbeats 1000000 in
theorem none_bad (b : Nat) (ao : Option Addr) (cap : Nat) (l : List (Int × Int)) (n : Int) (w : World) (hs : Sl w b ao l) (hl : l.length ≤ 60) (hr : l.all rs = false) :
   Calls Try.prog 3 #[.slice ao l.length cap, .int .i64 n] w fun e w' => e = .returned (.bool true) ∧ Below w.heap.size w w' := by
  have HR := Lib.hid hr
  clear hr
  have hl' : ¬ 60 < l.length := by omega
  go_enter Try.func3, Try.ntmps3
  go_wp2_with fail
  refine (all_any b ao cap l _ hs (by omega)).mono ?_
  rintro e w1 ⟨rfl, hb1⟩
  rw [HR.out]
  have HB1 := Lib.hid hb1
  clear hb1
  go_wp2_with fail
  refine (awake_any _).mono ?_
  rintro e w2 ⟨rfl, hb2⟩
  go_wp2_with fail
  go_ret
  exact ⟨rfl, HB1.out.trans (hb2.mono HB1.out.size)⟩
set_option maxHeartbeats 4000000 in
set_option maxRecDepth 100000 in
theorem none_ok (b : Nat) (ao : Option Addr) (cap : Nat) (l : List (Int × Int)) (n : Int) (w : World) (hs : Sl w b ao l) (hl : l.length ≤ 60) (hr : l.all rs = true) :
   Calls Try.prog 3 #[.slice ao l.length cap, .int .i64 n] w fun e w' => e = .returned (.bool true) ∧ Below w.heap.size w w' := by
  have HR := Lib.hid hr
  have HS := Lib.hid hs
  clear hr hs
  have hl' : ¬ 60 < l.length := by omega
  go_enter Try.func3, Try.ntmps3
  go_wp2_with fail
  refine (all_any b ao cap l _ HS.out (by omega)).mono ?_
  rintro e w1 ⟨rfl, hb1⟩
  rw [HR.out]
  have HB1 := Lib.hid hb1
  clear hb1
  go_wp2_with fail
  refine (awake_any _).mono ?_
  rintro e w2 ⟨rfl, hb2⟩
  have HB2 : Hid (Below w.heap.size w w2) := HB1.out.trans (hb2.mono HB1.out.size)
  clear hb2
  go_wp2_with fail
  refine (move_nil n _).mono ?_
  rintro e w3 ⟨rfl, rfl⟩
  go_wp2_with fail
  refine (get_nil n _).mono ?_
  rintro e w4 ⟨rfl, hb4⟩
  have HB4 : Hid (Below w.heap.size w w4) := HB2.out.trans (hb4.mono HB2.out.size)
  clear hb4
  go_wp2_with fail
  obtain ⟨w5, hw5⟩ : ∃ w5, w5 = w4.alloc (.cells #[.int .i64 0, .int .i64 0] 28) := ⟨_, rfl⟩
  rw [← hw5]
  have HB5 : Hid (Below w.heap.size w w5) := by show Below _ _ _; rw [hw5]; exact HB4.out.alloc HB4.out.size _
  clear hw5
  refine (new_ok 60 _ (by decide) (by decide)).mono ?_
  rintro e w6 ⟨rfl, hw6⟩
  have HG6 : Hid (Gv w.heap.size w5.heap.size w6 [] [] 60) := by show Gv _ _ _ _ _ _; rw [← hw6]; exact gv_new 60 (by decide) w5 HB5.out.size
  have HB6 : Hid (Below w.heap.size w w6) := by show Below _ _ _; rw [← hw6]; exact HB5.out.alloc HB5.out.size _
  have hs5 := HB5.out.size
  clear hw6
  go_wp2_with fail
  obtain ⟨b', hsb, hne⟩ := sl_ne HS.out w5.heap.size hs5
  have HSB := Lib.hid hsb
  clear hsb
  refine (HG6.out.set HB6.out.size n (HSB.out.below HB6.out) hne (by omega) HR.out (by omega)).mono ?_
  rintro e w7 ⟨rfl, hg7, hb7⟩
  have HG7 := Lib.hid hg7
  have HB7 : Hid (Below w.heap.size w w7) := HB6.out.trans hb7
  clear hg7 hb7
  go_wp2_with fail
  refine (HG7.out.all).mono ?_
  rintro e w8 ⟨rfl, hk8, hb8⟩
  rw [List.take_append_drop] at *
  have HG8 := Lib.hid (HG7.out.below hb8)
  have HK8 := Lib.hid hk8
  have HB8 : Hid (Below w.heap.size w w8) := HB7.out.trans (hb8.mono HB7.out.size)
  have HL8 := Lib.hid hb8
  clear hk8 hb8
  go_wp2_with fail
  go_loopw [12] (fun i wr => ∃ (k : Nat) (cs : Array Value), k ≤ l.length ∧ i = .int .i64 k ∧ Hid (cs.size = l.length * 2) ∧ Hid (Blk wr w7.heap.size cs 28) ∧ Hid (Below w7.heap.size w7 wr)) (fun i _ => l.length - (intOf i).toNat)
  case atStart => exact ⟨0, _, Nat.zero_le _, rfl, by show (sg l).toArray.size = _; rw [List.size_toArray, sg_len], HK8, HL8⟩
  case round =>
    obtain ⟨k, cs, hk, rfl, hcs, hb, hbl⟩ := hrel
    by_cases hlt : k < l.length
    · have hcs' := hcs.out
      obtain ⟨u0, hu0⟩ : ∃ u, cs[k * 2]? = some u := ⟨_, Array.getElem?_eq_getElem (by omega)⟩
      obtain ⟨u1, hu1⟩ : ∃ u, cs[k * 2 + 1]? = some u := ⟨_, Array.getElem?_eq_getElem (by omega)⟩
      have c0 := hb.out.cell (k * 2)
      have c1 := hb.out.cell (k * 2 + 1)
      rw [hu0] at c0
      rw [hu1] at c1
      have cf := hb.out.free
      have hlt2 := hb.out.lt
      clear hu0 hu1 hcs'
      go_wp2_with fail
      go_roundw
      case rel => exact ⟨k + 1, _, by omega, by go_num, by show _ = _; simpa using hcs.out, (hb.out.set (k * 2) (.int .i64 122)).set (k * 2 + 1) (.int .i64 0), (hbl.out.setCell (Nat.le_refl _) _).setCell (Nat.le_refl _) _⟩
      case measure => simp [intOf]; omega
    · have HGr := Lib.hid (HG7.out.below hbl.out)
      have HBr : Hid (Below w.heap.size w wr) := HB7.out.trans (hbl.out.mono HB7.out.size)
      clear hb hcs
      go_wp2_with fail
      refine (insert_nil _ _).mono ?_
      rintro e x1 ⟨rfl, rfl⟩
      go_wp2_with fail
      refine (set_nil _ _ _).mono ?_
      rintro e x2 ⟨rfl, rfl⟩
      go_wp2_with fail
      refine (cut_nil _ _).mono ?_
      rintro e x3 ⟨rfl, rfl⟩
      go_wp2_with fail
      refine (len_nil _).mono ?_
      rintro e x4 ⟨rfl, rfl⟩
      go_wp2_with fail
      refine (at_nil _).mono ?_
      rintro e x5 ⟨rfl, rfl⟩
      go_wp2_with fail
      refine (all_nil _).mono ?_
      rintro e x6 ⟨rfl, rfl⟩
      go_wp2_with fail
      refine (line_nil _).mono ?_
      rintro e x7 ⟨rfl, hb7⟩
      have hfl := field_nil
      have HG9 := Lib.hid (HGr.out.below hb7)
      have HB9 : Hid (Below w.heap.size w x7) := HBr.out.trans (hb7.mono HBr.out.size)
      clear hb7
      go_wp2_with fail
      clear hfl
      refine (HG9.out.all).mono ?_
      rintro e x8 ⟨rfl, hk9, hb9⟩
      have HK9 : Hid (Blk x8 x7.heap.size (sg l).toArray 28) := by rw [List.take_append_drop] at hk9; exact hk9
      have HB10 : Hid (Below w.heap.size w x8) := HB9.out.trans (hb9.mono HB9.out.size)
      clear hk9 hb9
      rw [List.take_append_drop]
      go_wp2_with fail
      refine (same_any _ b _ ao _ cap l _ (sl_blk HK9.out) (HS.out.below HB10.out) (by omega)).mono ?_
      rintro e x9 ⟨rfl, q, rfl⟩
      go_wp2_with fail
      go_ret
      exact ⟨rfl, below_drewN HB10.out q⟩
end Go.Proofs.Ytidomomdfdkphaa
