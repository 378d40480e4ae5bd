/- The gap buffer for its callers; awake of layer 16. -/
import Derived.Test.YtidomomdfdkphaaGA
namespace Go.Proofs.Ytidomomdfdkphaa
open Go.RowKit
/-- A buffer all of whose memory lies from B on. -/
def Gv (B g : Nat) (w : World) (A C : List (Int × Int)) (most : Nat) : Prop := ∃ bb M, Gp w g bb A M C most ∧ B ≤ g ∧ B ≤ bb
theorem onto_keep {B : Nat} {w w' : World} {S : Nat → Prop} (hk : Keep S w w') (hB : B ≤ w.heap.size) (hS : ∀ k, S k → B ≤ k) : Below B w w' :=
  Keep.onto ⟨rfl, rfl, rfl, Nat.le_refl _, fun _ _ => rfl⟩ hk hB hS
theorem Gv.below {B g : Nat} {w w' : World} {A C : List (Int × Int)} {most : Nat} (h : Gv B g w A C most) (hb : Below w.heap.size w w') : Gv B g w' A C most := by
  obtain ⟨bb, M, h1, h2, h3⟩ := h
  exact ⟨bb, M, h1.below hb, h2, h3⟩
theorem Gv.keep0 {B g : Nat} {w w' : World} {A C : List (Int × Int)} {most : Nat} (h : Gv B g w A C most) (hb : Keep (fun _ => False) w w') : Gv B g w' A C most :=
  h.below ⟨hb.os, hb.tape, hb.output, hb.size, fun k hk => hb.block k hk (fun h => h)⟩
theorem gv_new {B : Nat} (most : Nat) (h : most ≤ 65536) (w : World) (hB : B ≤ w.heap.size) : Gv B w.heap.size (w.alloc (.cells #[.slice none 0 0, .int .i64 0, .int .i64 0, .int .i64 most] 56)) [] [] most :=
  ⟨w.heap.size, [], ⟨by simp, h, none, Blk.new w _ _, .inl ⟨rfl, rfl⟩⟩, hB, hB⟩
section
variable {B g : Nat} {w : World} {A C : List (Int × Int)} {most : Nat}
theorem Gv.lt (h : Gv B g w A C most) : g < w.heap.size := by obtain ⟨bb, M, h1, _⟩ := h; exact h1.lt
theorem Gv.insert (h : Gv B g w A C most) (hB : B ≤ w.heap.size) {b cap : Nat} {ao : Option Addr} {l : List (Int × Int)} (hs : Sl w b ao l) (hbg : b ≠ g) (hl : l.length ≤ 100000) (hr : l.all rs = true) (hf : A.length + C.length + l.length ≤ most) :
   Calls Try.prog 13 #[.pointer (some ⟨g, 0, none⟩), .slice ao l.length cap] w fun e w' => e = .returned (.int .i64 0) ∧ Gv B g w' (A ++ l) C most ∧ Below B w w' := by
  obtain ⟨bb, M, h1, h2, h3⟩ := h
  refine (insert_ok g bb b ao cap l A M C most w h1 hs hbg hl hr hf).mono ?_
  rintro e w' ⟨rfl, bb', M', h4, h5, h6⟩
  refine ⟨rfl, ⟨bb', M', h5, h2, by omega⟩, onto_keep h6 hB (fun k hk => by omega)⟩
theorem Gv.insertFull (h : Gv B g w A C most) {b cap : Nat} {ao : Option Addr} {l : List (Int × Int)} (hs : Sl w b ao l) (hl : l.length ≤ 1000000) (hr : l.all rs = true) (hf : most < A.length + C.length + l.length) :
   Calls Try.prog 13 #[.pointer (some ⟨g, 0, none⟩), .slice ao l.length cap] w fun e w' => e = .returned (.int .i64 8) ∧ Gv B g w' A C most ∧ Below w.heap.size w w' := by
  have h0 := h
  obtain ⟨bb, M, h1, h2, h3⟩ := h
  refine (insert_full g bb b ao cap l A M C most w h1 hs hl hr hf).mono ?_
  rintro e w' ⟨rfl, h6⟩
  exact ⟨rfl, h0.keep0 h6, ⟨h6.os, h6.tape, h6.output, h6.size, fun k hk => h6.block k hk (fun h => h)⟩⟩
theorem Gv.move (h : Gv B g w A C most) (hB : B ≤ w.heap.size) (p : Int) :
   Calls Try.prog 8 #[.pointer (some ⟨g, 0, none⟩), .int .i64 p] w fun e w' => e = .returned (.tuple #[]) ∧ Gv B g w' ((A ++ C).take (plc (A.length + C.length) p)) ((A ++ C).drop (plc (A.length + C.length) p)) most ∧ Below B w w' := by
  obtain ⟨bb, M, h1, h2, h3⟩ := h
  refine (move_any g bb A M C most p w h1).mono ?_
  rintro e w' ⟨rfl, M', h4, h5⟩
  exact ⟨rfl, ⟨bb, M', h4, h2, h3⟩, onto_keep h5 hB (fun k hk => by omega)⟩
theorem Gv.len (h : Gv B g w A C most) : Calls Try.prog 15 #[.pointer (some ⟨g, 0, none⟩)] w fun e w' => e = .returned (.int .i64 (A.length + C.length : Nat)) ∧ ∃ m, w' = w.drewN m := by
  obtain ⟨bb, M, h1, h2, h3⟩ := h
  exact len_any g bb A M C most w h1
theorem Gv.at (h : Gv B g w A C most) : Calls Try.prog 16 #[.pointer (some ⟨g, 0, none⟩)] w fun e w' => e = .returned (.int .i64 A.length) ∧ w = w' := by
  obtain ⟨bb, M, h1, h2, h3⟩ := h
  exact (at_any g bb A M C most w h1).mono fun _ _ h => ⟨h.1, h.2.symm⟩
theorem Gv.all (h : Gv B g w A C most) : Calls Try.prog 12 #[.pointer (some ⟨g, 0, none⟩)] w (AllPost (A ++ C) w) := by
  obtain ⟨bb, M, h1, h2, h3⟩ := h
  exact all_signs g bb A M C most w h1
theorem Gv.line (h : Gv B g w A C most) : Calls Try.prog 17 #[.pointer (some ⟨g, 0, none⟩)] w (LinePost (A ++ C) A.length w) := by
  obtain ⟨bb, M, h1, h2, h3⟩ := h
  exact line_any g bb A M C most w h1
theorem Gv.cutLeft {A1 A2 : List (Int × Int)} (h : Gv B g w (A1 ++ A2) C most) (hB : B ≤ w.heap.size) (n : Int) (hn : n < 0) (hk : max n (-(A1.length + A2.length : Nat)) = -(A2.length : Int)) :
   Calls Try.prog 14 #[.pointer (some ⟨g, 0, none⟩), .int .i64 n] w fun e w' => e = .returned (.slice (some ⟨w.heap.size, 0, none⟩) A2.length A2.length) ∧ Blk w' w.heap.size (sg A2).toArray 28 ∧ Gv B g w' A1 C most ∧ Below B w w' := by
  obtain ⟨bb, M, h1, h2, h3⟩ := h
  refine (cut_left g bb A1 A2 M C most n w h1 hn hk).mono ?_
  rintro e w' ⟨rfl, h4, ⟨M', h5⟩, h6⟩
  exact ⟨rfl, h4, ⟨bb, M', h5, h2, h3⟩, onto_keep h6 hB (fun k hk => by omega)⟩
theorem Gv.cutRight {C1 C2 : List (Int × Int)} (h : Gv B g w A (C1 ++ C2) most) (hB : B ≤ w.heap.size) (n : Int) (hn : ¬ n < 0) (hk : min n (C1.length + C2.length : Nat) = (C1.length : Int)) :
   Calls Try.prog 14 #[.pointer (some ⟨g, 0, none⟩), .int .i64 n] w fun e w' => e = .returned (.slice (some ⟨w.heap.size, 0, none⟩) C1.length C1.length) ∧ Blk w' w.heap.size (sg C1).toArray 28 ∧ Gv B g w' A C2 most ∧ Below B w w' := by
  obtain ⟨bb, M, h1, h2, h3⟩ := h
  refine (cut_right g bb A M C1 C2 most n w h1 hn hk).mono ?_
  rintro e w' ⟨rfl, h4, ⟨M', h5⟩, h6⟩
  exact ⟨rfl, h4, ⟨bb, M', h5, h2, h3⟩, onto_keep h6 hB (fun k hk => by omega)⟩
end
theorem keep0_below {w w' : World} (h : Keep (fun _ => False) w w') : Below w.heap.size w w' := ⟨h.os, h.tape, h.output, h.size, fun k hk => h.block k hk (fun h => h)⟩
theorem Gv.getLo {B g : Nat} {w : World} {A C : List (Int × Int)} {most : Nat} (h : Gv B g w A C most) (k : Nat) (hk : k < A.length) :
   Calls Try.prog 9 #[.pointer (some ⟨g, 0, none⟩), .int .i64 k] w fun e w' => e = .returned (.tuple #[.agg #[.int .i64 A[k].1, .int .i64 A[k].2], .bool true]) ∧ Gv B g w' A C most ∧ Below w.heap.size w w' := by
  have h0 := h
  obtain ⟨bb, M, h1, h2, h3⟩ := h
  exact (get_lo g bb A M C most k w h1 hk).mono fun e w' h => ⟨h.1, h0.keep0 h.2, keep0_below h.2⟩
theorem Gv.getHi {B g : Nat} {w : World} {A C : List (Int × Int)} {most : Nat} (h : Gv B g w A C most) (k : Nat) (hk : k < C.length) :
   Calls Try.prog 9 #[.pointer (some ⟨g, 0, none⟩), .int .i64 (A.length + k : Nat)] w fun e w' => e = .returned (.tuple #[.agg #[.int .i64 C[k].1, .int .i64 C[k].2], .bool true]) ∧ Gv B g w' A C most ∧ Below w.heap.size w w' := by
  have h0 := h
  obtain ⟨bb, M, h1, h2, h3⟩ := h
  exact (get_hi g bb A M C most k w h1 hk).mono fun e w' h => ⟨h.1, h0.keep0 h.2, keep0_below h.2⟩
theorem Gv.getOut {B g : Nat} {w : World} {A C : List (Int × Int)} {most : Nat} (h : Gv B g w A C most) (i : Int) (hi : i < 0 ∨ (A.length + C.length : Nat) ≤ i) :
   Calls Try.prog 9 #[.pointer (some ⟨g, 0, none⟩), .int .i64 i] w fun e w' => e = .returned (.tuple #[.agg #[.int .i64 0, .int .i64 0], .bool false]) ∧ Gv B g w' A C most ∧ Below w.heap.size w w' := by
  have h0 := h
  obtain ⟨bb, M, h1, h2, h3⟩ := h
  exact (get_out g bb A M C most i w h1 hi).mono fun e w' h => ⟨h.1, h0.keep0 h.2, keep0_below h.2⟩
theorem sl_blk {w : World} {b : Nat} {l : List (Int × Int)} (h : Blk w b (sg l).toArray 28) : Sl w b (some ⟨b, 0, none⟩) l := fun _ => ⟨h.lt, 0, rfl, fun j u hj => by
  rw [Nat.zero_add, h.cell, List.getElem?_toArray]; exact hj⟩
set_option maxHeartbeats 4000000 in
set_option maxRecDepth 100000 in
theorem awake_any (w : World) : Calls Try.prog 7 #[] w fun e w' => e = .returned (.bool true) ∧ Below w.heap.size w w' := by
  go_enter Try.func7, Try.ntmps7
  go_wp2_with fail
  refine (new_ok 3 _ (by decide) (by decide)).mono ?_
  rintro e w1 ⟨rfl, hw1⟩
  have HG1 : Hid (Gv w.heap.size w.heap.size w1 [] [] 3) := by show Gv _ _ _ _ _ _; rw [← hw1]; exact gv_new 3 (by decide) w (Nat.le_refl _)
  have HB1 : Hid (Below w.heap.size w w1) := by show Below _ _ _; rw [← hw1]; go_grown
  clear hw1
  go_wp2_with fail
  have hlt1 := HG1.out.lt
  refine ((HG1.out.below (by go_grown)).insert (by simp; omega) (b := w1.heap.size) (l := [(97, 0), (98, 0)]) (sl_blk (Blk.new w1 _ 28)) (by omega) (by decide) (by decide) (by decide)).mono ?_
  rintro e w2 ⟨rfl, hg2, hb2⟩
  have HG2 := Lib.hid hg2
  have HB2 : Hid (Below w.heap.size w w2) := (HB1.out.alloc (Nat.le_of_lt hlt1) _).trans hb2
  clear hg2 hb2 hlt1
  go_wp2_with fail
  refine (HG2.out.move HB2.out.size 1).mono ?_
  rintro e w3 ⟨rfl, hg3, hb3⟩
  have HG3 : Hid (Gv w.heap.size w.heap.size w3 [(97, 0)] [(98, 0)] 3) := hg3
  have HB3 : Hid (Below w.heap.size w w3) := HB2.out.trans hb3
  clear hg3 hb3
  go_wp2_with fail
  have hlt3 := HG3.out.lt
  refine ((HG3.out.below (by go_grown)).insert (by simp; omega) (b := w3.heap.size) (l := [(99, 2)]) (sl_blk (Blk.new w3 _ 28)) (by omega) (by decide) (by decide) (by decide)).mono ?_
  rintro e w4 ⟨rfl, hg4, hb4⟩
  have HG4 := Lib.hid hg4
  have HB4 : Hid (Below w.heap.size w w4) := (HB3.out.alloc (Nat.le_of_lt hlt3) _).trans hb4
  clear hg4 hb4 hlt3
  go_wp2_with fail
  have hlt4 := HG4.out.lt
  refine ((HG4.out.below (by go_grown)).insertFull (b := w4.heap.size) (l := [(100, 0)]) (sl_blk (Blk.new w4 _ 28)) (by decide) (by decide) (by decide)).mono ?_
  rintro e w5 ⟨rfl, hg5, hb5⟩
  have HG5 := Lib.hid hg5
  have HB5 : Hid (Below w.heap.size w w5) := (HB4.out.alloc (Nat.le_of_lt hlt4) _).trans (hb5.mono (by simp; omega))
  clear hg5 hb5 hlt4
  go_wp2_with fail
  refine (HG5.out.getLo 1 (by decide)).mono ?_
  rintro e w6 ⟨rfl, hg6, hb6⟩
  have HG6 := Lib.hid hg6
  have HB6 : Hid (Below w.heap.size w w6) := HB5.out.trans (hb6.mono HB5.out.size)
  clear hg6 hb6
  go_wp2_with fail
  have hs6 := HB6.out.size
  refine ((HG6.out.below (by go_grown)).line).mono ?_
  rintro e w7 ⟨nb, hnb, rfl, -, hb7⟩
  have HG7 := Lib.hid ((HG6.out.below (w' := w6.alloc (.cells #[.int .i64 99, .int .i64 2] 28)) (by go_grown)).below hb7)
  have HB7 : Hid (Below w.heap.size w w7) := (HB6.out.alloc hs6 _).trans (hb7.mono (by simp; omega))
  have HX := Lib.hid ((Blk.new w6 #[.int .i64 99, .int .i64 2] 28).below hb7 (by simp))
  clear hb7 hnb
  have x0 := HX.out.cell 0
  have x1 := HX.out.cell 1
  have hx := HX.out.lt
  simp at x0 x1
  go_wp2_with fail
  have hs7 := HB7.out.size
  refine ((HG7.out.below (by go_grown)).len).mono ?_
  rintro e w8 ⟨rfl, q, rfl⟩
  go_wp2_with fail
  have HG8 : Hid (Gv w.heap.size w.heap.size ((w7.alloc (.cells #[.slice (some ⟨nb, 0, none⟩) 3 3, .int .i64 2] 40)).drewN q) ([] ++ [(97, 0), (99, 2)]) [(98, 0)] 3) := (HG7.out.below (below_drewN ((Below.refl _ _).alloc (Nat.le_refl _) _) q))
  refine (HG8.out.cutLeft (by show _ ≤ (w7.alloc _).heap.size; simp; omega) (-5) (by decide) (by decide)).mono ?_
  rintro e w9 ⟨rfl, -, hg9, hb9⟩
  have HG9 := Lib.hid hg9
  have HB9 : Hid (Below w.heap.size w w9) := (below_drewN (HB7.out.alloc hs7 _) q).trans hb9
  clear hg9 hb9
  go_wp2_with fail
  refine (HG9.out.all).mono ?_
  rintro e w10 ⟨rfl, -, hb10⟩
  have HB10 : Hid (Below w.heap.size w w10) := HB9.out.trans (hb10.mono HB9.out.size)
  clear hb10
  go_wp2_with fail
  go_ret
  exact ⟨rfl, HB10.out⟩
end Go.Proofs.Ytidomomdfdkphaa
