/- The gap buffer beside the reference's line: what every operation keeps. -/
import Derived.Test.YtidomomdfdkphaaGD
namespace Go.Proofs.Ytidomomdfdkphaa
open Go.RowKit
/-- The buffer (A ahead of its cursor, C behind it), the reference's line x in block xb (signs S, cursor k; its slice at ao with capacity cap, in block b), the call c in block cb. -/
def Gy (B g xb b : Nat) (ao : Option Addr) (cap cb : Nat) (cs : Array Value) (w : World) (A C S : List (Int × Int)) (k most : Nat) : Prop :=
  ∃ bb M, Gp w g bb A M C most ∧ bb < w.heap.size ∧ B ≤ g ∧ B ≤ bb ∧ xb ≠ g ∧ xb ≠ bb ∧ B ≤ xb ∧ Blk w xb #[.slice ao S.length cap, .int .i64 k] 40 ∧ Sv w b ao cap S ∧ (0 < S.length → b ≠ g ∧ b ≠ bb ∧ b ≠ xb) ∧
    Blk w cb cs 49 ∧ cb ≠ g ∧ cb ≠ bb ∧ cb ≠ xb
theorem Sv.keep' {S : Nat → Prop} {w w' : World} {b cap : Nat} {ao : Option Addr} {l : List (Int × Int)} (h : Sv w b ao cap l) (hk : Keep S w w') (hb : 0 < l.length → ¬ S b) : Sv w' b ao cap l :=
  ⟨h.1, h.2.1, h.2.2.1, fun h0 => h.2.2.2.keep hk (hb h0) h0⟩
theorem gp_norm {w : World} {g bb : Nat} {A M C : List (Int × Int)} {most : Nat} (h : Gp w g bb A M C most) : ∃ bb', Gp w g bb' A M C most ∧ bb' < w.heap.size ∧ (bb' = bb ∨ bb' = g) := by
  have h0 := h
  obtain ⟨h1, h2, ao, hg, hc⟩ := h
  rcases hc with ⟨rfl, hn⟩ | ⟨_, _, hb⟩
  · exact ⟨g, ⟨h1, h2, none, hg, .inl ⟨rfl, hn⟩⟩, hg.lt, .inr rfl⟩
  · exact ⟨bb, h0, hb.lt, .inl rfl⟩
section
variable {B g xb b cap cb : Nat} {ao : Option Addr} {cs : Array Value} {w w' : World} {A C S : List (Int × Int)} {k most : Nat}
/-- One operation of the buffer. -/
theorem Gy.step (hB : B ≤ w.heap.size) {A' C' : List (Int × Int)} {bb : Nat} {M : List (Int × Int)}
    (h : Gp w g bb A M C most ∧ bb < w.heap.size ∧ B ≤ g ∧ B ≤ bb ∧ xb ≠ g ∧ xb ≠ bb ∧ B ≤ xb ∧ Blk w xb #[.slice ao S.length cap, .int .i64 k] 40 ∧ Sv w b ao cap S ∧ (0 < S.length → b ≠ g ∧ b ≠ bb ∧ b ≠ xb) ∧ Blk w cb cs 49 ∧ cb ≠ g ∧ cb ≠ bb ∧ cb ≠ xb)
    (ho : ∃ bb' M', (bb' = bb ∨ w.heap.size ≤ bb') ∧ Gp w' g bb' A' M' C' most ∧ Keep (fun k => k = g ∨ k = bb) w w') : Gy B g xb b ao cap cb cs w' A' C' S k most ∧ Below B w w' := by
  obtain ⟨h1, h2, h3, h4, h5, h6, h7, h8, h9, h10, h11, h12, h13, h14⟩ := h
  obtain ⟨bb', M', o1, o2, o3⟩ := ho
  obtain ⟨bb2, n1, n2, n3⟩ := gp_norm o2
  have hxl := h8.lt
  have hcl := h11.lt
  refine ⟨⟨bb2, M', n1, n2, h3, by omega, h5, by omega, h7, o3.blk h8 (by omega), h9.keep' o3 (fun h0 => by have := h10 h0; omega), fun h0 => ?_, o3.blk h11 (by omega), h12, by omega, h14⟩, onto_keep o3 hB (fun k hk => by omega)⟩
  obtain ⟨a1, a2, a3⟩ := h10 h0
  have hbl := (h9.2.2.2 h0).1
  exact ⟨a1, by omega, a3⟩
theorem Gy.below (h : Gy B g xb b ao cap cb cs w A C S k most) (hb : Below w.heap.size w w') : Gy B g xb b ao cap cb cs w' A C S k most := by
  obtain ⟨bb, M, h1, h2, h3, h4, h5, h6, h7, h8, h9, h10, h11, h12⟩ := h
  exact ⟨bb, M, h1.below hb, Nat.lt_of_lt_of_le h2 hb.size, h3, h4, h5, h6, h7, h8.below hb h8.lt, h9.below hb, h10, h11.below hb h11.lt, h12⟩
theorem Gy.keep0 (h : Gy B g xb b ao cap cb cs w A C S k most) (hb : Keep (fun _ => False) w w') : Gy B g xb b ao cap cb cs w' A C S k most := h.below (keep0_below hb)
theorem Gy.glt (h : Gy B g xb b ao cap cb cs w A C S k most) : g < w.heap.size := by obtain ⟨bb, M, h1, _⟩ := h; exact h1.lt
theorem Gy.xblk (h : Gy B g xb b ao cap cb cs w A C S k most) : Blk w xb #[.slice ao S.length cap, .int .i64 k] 40 := by obtain ⟨bb, M, _, _, _, _, _, _, _, h8, _⟩ := h; exact h8
theorem Gy.cblk (h : Gy B g xb b ao cap cb cs w A C S k most) : Blk w cb cs 49 := by obtain ⟨bb, M, _, _, _, _, _, _, _, _, _, _, h11, _⟩ := h; exact h11
theorem Gy.sv (h : Gy B g xb b ao cap cb cs w A C S k most) : Sv w b ao cap S := by obtain ⟨bb, M, _, _, _, _, _, _, _, _, h9, _⟩ := h; exact h9
theorem Gy.insert (h : Gy B g xb b ao cap cb cs w A C S k most) (hB : B ≤ w.heap.size) {b2 cap2 : Nat} {ao2 : Option Addr} {l : List (Int × Int)} (hs : Sl w b2 ao2 l) (hbg : 0 < l.length → b2 < B) (hl : l.length ≤ 100000) (hr : l.all rs = true) (hf : A.length + C.length + l.length ≤ most) :
   Calls Try.prog 13 #[.pointer (some ⟨g, 0, none⟩), .slice ao2 l.length cap2] w fun e w' => e = .returned (.int .i64 0) ∧ Gy B g xb b ao cap cb cs w' (A ++ l) C S k most ∧ Below B w w' := by
  obtain ⟨bb, M, h⟩ := h
  obtain ⟨b3, hs3, hne⟩ : ∃ b3, Sl w b3 ao2 l ∧ b3 ≠ g := by
    by_cases h0 : 0 < l.length
    · exact ⟨b2, hs, by have := hbg h0; have := h.2.2.1; omega⟩
    · exact ⟨g + 1, fun h1 => absurd h1 h0, by omega⟩
  refine (insert_ok g bb b3 ao2 cap2 l A M C most w h.1 hs3 hne hl hr hf).mono ?_
  rintro e w' ⟨rfl, ho⟩
  exact ⟨rfl, Gy.step hB h ho⟩
theorem Gy.insertFull (h : Gy B g xb b ao cap cb cs w A C S k most) {b2 cap2 : Nat} {ao2 : Option Addr} {l : List (Int × Int)} (hs : Sl w b2 ao2 l) (hl : l.length ≤ 1000000) (hr : l.all rs = true) (hf : most < A.length + C.length + l.length) :
   Calls Try.prog 13 #[.pointer (some ⟨g, 0, none⟩), .slice ao2 l.length cap2] w fun e w' => e = .returned (.int .i64 8) ∧ Gy B g xb b ao cap cb cs w' A C S k most ∧ Below w.heap.size w w' := by
  have h0 := h
  obtain ⟨bb, M, h⟩ := h
  refine (insert_full g bb b2 ao2 cap2 l A M C most w h.1 hs hl hr hf).mono ?_
  rintro e w' ⟨rfl, h6⟩
  exact ⟨rfl, h0.keep0 h6, keep0_below h6⟩
theorem Gy.insertBad (h : Gy B g xb b ao cap cb cs w A C S k most) {b2 cap2 : Nat} {ao2 : Option Addr} {l : List (Int × Int)} (hs : Sl w b2 ao2 l) (hl : l.length ≤ 1000000) (hr : l.all rs = false) :
   Calls Try.prog 13 #[.pointer (some ⟨g, 0, none⟩), .slice ao2 l.length cap2] w fun e w' => e = .returned (.int .i64 2) ∧ Gy B g xb b ao cap cb cs w' A C S k most ∧ Below w.heap.size w w' := by
  refine (insert_bad g b2 ao2 cap2 l w hs hl hr).mono ?_
  rintro e w' ⟨rfl, h6⟩
  exact ⟨rfl, h.below h6, h6⟩
theorem Gy.set (h : Gy B g xb b ao cap cb cs w A C S k most) (hB : B ≤ w.heap.size) {b2 cap2 : Nat} {ao2 : Option Addr} {l : List (Int × Int)} (p : Int) (hs : Sl w b2 ao2 l) (hbg : 0 < l.length → b2 < B) (hl : l.length ≤ 100000) (hr : l.all rs = true) (hf : l.length ≤ most) :
   Calls Try.prog 11 #[.pointer (some ⟨g, 0, none⟩), .slice ao2 l.length cap2, .int .i64 p] w fun e w' => e = .returned (.int .i64 0) ∧ Gy B g xb b ao cap cb cs w' (l.take (plc l.length p)) (l.drop (plc l.length p)) S k most ∧ Below B w w' := by
  obtain ⟨bb, M, h⟩ := h
  obtain ⟨b3, hs3, hne⟩ : ∃ b3, Sl w b3 ao2 l ∧ b3 ≠ g := by
    by_cases h0 : 0 < l.length
    · exact ⟨b2, hs, by have := hbg h0; have := h.2.2.1; omega⟩
    · exact ⟨g + 1, fun h1 => absurd h1 h0, by omega⟩
  refine (set_ok g bb b3 ao2 cap2 l A M C most p w h.1 hs3 hne hl hr hf).mono ?_
  rintro e w' ⟨rfl, ho⟩
  exact ⟨rfl, Gy.step hB h ho⟩
theorem Gy.setFull (h : Gy B g xb b ao cap cb cs w A C S k most) {b2 cap2 : Nat} {ao2 : Option Addr} {l : List (Int × Int)} (p : Int) (hs : Sl w b2 ao2 l) (hl : l.length ≤ 1000000) (hr : l.all rs = true) (hf : most < l.length) :
   Calls Try.prog 11 #[.pointer (some ⟨g, 0, none⟩), .slice ao2 l.length cap2, .int .i64 p] w fun e w' => e = .returned (.int .i64 8) ∧ Gy B g xb b ao cap cb cs w' A C S k most ∧ Below w.heap.size w w' := by
  have h0 := h
  obtain ⟨bb, M, h⟩ := h
  refine (set_full g bb b2 ao2 cap2 l A M C most p w h.1 hs hl hr hf).mono ?_
  rintro e w' ⟨rfl, h6⟩
  exact ⟨rfl, h0.below h6, h6⟩
theorem Gy.setBad (h : Gy B g xb b ao cap cb cs w A C S k most) {b2 cap2 : Nat} {ao2 : Option Addr} {l : List (Int × Int)} (p : Int) (hs : Sl w b2 ao2 l) (hl : l.length ≤ 1000000) (hr : l.all rs = false) :
   Calls Try.prog 11 #[.pointer (some ⟨g, 0, none⟩), .slice ao2 l.length cap2, .int .i64 p] w fun e w' => e = .returned (.int .i64 2) ∧ Gy B g xb b ao cap cb cs w' A C S k most ∧ Below w.heap.size w w' := by
  refine (set_bad g b2 ao2 cap2 l p w hs hl hr).mono ?_
  rintro e w' ⟨rfl, h6⟩
  exact ⟨rfl, h.below h6, h6⟩
theorem Gy.move (h : Gy B g xb b ao cap cb cs w A C S k most) (hB : B ≤ w.heap.size) (p : Int) :
   Calls Try.prog 8 #[.pointer (some ⟨g, 0, none⟩), .int .i64 p] w fun e w' => e = .returned (.tuple #[]) ∧ Gy B g xb b ao cap cb cs w' ((A ++ C).take (plc (A.length + C.length) p)) ((A ++ C).drop (plc (A.length + C.length) p)) S k most ∧ Below B w w' := by
  obtain ⟨bb, M, h⟩ := h
  refine (move_any g bb A M C most p w h.1).mono ?_
  rintro e w' ⟨rfl, M', h4, h5⟩
  exact ⟨rfl, Gy.step hB h ⟨bb, M', .inl rfl, h4, h5⟩⟩
theorem Gy.cutLeft {A1 A2 : List (Int × Int)} (h : Gy B g xb b ao cap cb cs w (A1 ++ A2) C S k most) (hB : B ≤ w.heap.size) (n : Int) (hn : n < 0) (hk : max n (-(A1.length + A2.length : Nat)) = -(A2.length : Int)) :
   Calls Try.prog 14 #[.pointer (some ⟨g, 0, none⟩), .int .i64 n] w fun e w' => e = .returned (.slice (some ⟨w.heap.size, 0, none⟩) A2.length A2.length) ∧ Blk w' w.heap.size (sg A2).toArray 28 ∧ Gy B g xb b ao cap cb cs w' A1 C S k most ∧ Below B w w' := by
  obtain ⟨bb, M, h⟩ := h
  refine (cut_left g bb A1 A2 M C most n w h.1 hn hk).mono ?_
  rintro e w' ⟨rfl, h4, ⟨M', h5⟩, h6⟩
  exact ⟨rfl, h4, Gy.step hB h ⟨bb, M', .inl rfl, h5, h6.mono (fun _ _ h => .inl h)⟩⟩
theorem Gy.cutRight {C1 C2 : List (Int × Int)} (h : Gy B g xb b ao cap cb cs w A (C1 ++ C2) S k most) (hB : B ≤ w.heap.size) (n : Int) (hn : ¬ n < 0) (hk : min n (C1.length + C2.length : Nat) = (C1.length : Int)) :
   Calls Try.prog 14 #[.pointer (some ⟨g, 0, none⟩), .int .i64 n] w fun e w' => e = .returned (.slice (some ⟨w.heap.size, 0, none⟩) C1.length C1.length) ∧ Blk w' w.heap.size (sg C1).toArray 28 ∧ Gy B g xb b ao cap cb cs w' A C2 S k most ∧ Below B w w' := by
  obtain ⟨bb, M, h⟩ := h
  refine (cut_right g bb A M C1 C2 most n w h.1 hn hk).mono ?_
  rintro e w' ⟨rfl, h4, ⟨M', h5⟩, h6⟩
  exact ⟨rfl, h4, Gy.step hB h ⟨bb, M', .inl rfl, h5, h6.mono (fun _ _ h => .inl h)⟩⟩
theorem Gy.len (h : Gy B g xb b ao cap cb cs w A C S k most) : Calls Try.prog 15 #[.pointer (some ⟨g, 0, none⟩)] w fun e w' => e = .returned (.int .i64 (A.length + C.length : Nat)) ∧ ∃ m, w' = w.drewN m := by
  obtain ⟨bb, M, h1, _⟩ := h
  exact len_any g bb A M C most w h1
theorem Gy.at (h : Gy B g xb b ao cap cb cs w A C S k most) : Calls Try.prog 16 #[.pointer (some ⟨g, 0, none⟩)] w fun e w' => e = .returned (.int .i64 A.length) ∧ w = w' := by
  obtain ⟨bb, M, h1, _⟩ := h
  exact (at_any g bb A M C most w h1).mono fun _ _ h => ⟨h.1, h.2.symm⟩
theorem Gy.all (h : Gy B g xb b ao cap cb cs w A C S k most) : Calls Try.prog 12 #[.pointer (some ⟨g, 0, none⟩)] w (AllPost (A ++ C) w) := by
  obtain ⟨bb, M, h1, _⟩ := h
  exact all_signs g bb A M C most w h1
theorem Gy.line (h : Gy B g xb b ao cap cb cs w A C S k most) : Calls Try.prog 17 #[.pointer (some ⟨g, 0, none⟩)] w (LinePost (A ++ C) A.length w) := by
  obtain ⟨bb, M, h1, _⟩ := h
  exact line_any g bb A M C most w h1
theorem Gy.getIn (h : Gy B g xb b ao cap cb cs w A C S k most) (i : Nat) (hi : i < (A ++ C).length) :
   Calls Try.prog 9 #[.pointer (some ⟨g, 0, none⟩), .int .i64 i] w fun e w' => e = .returned (.tuple #[.agg #[.int .i64 (A ++ C)[i].1, .int .i64 (A ++ C)[i].2], .bool true]) ∧ Gy B g xb b ao cap cb cs w' A C S k most ∧ Below w.heap.size w w' := by
  have h0 := h
  obtain ⟨bb, M, h1, _⟩ := h
  by_cases hA : i < A.length
  · refine (get_lo g bb A M C most i w h1 hA).mono ?_
    rintro e w' ⟨rfl, h6⟩
    exact ⟨by rw [List.getElem_append_left hA], h0.keep0 h6, keep0_below h6⟩
  · have hC : i - A.length < C.length := by simp at hi; omega
    have := get_hi g bb A M C most (i - A.length) w h1 hC
    rw [show A.length + (i - A.length) = i by omega] at this
    refine this.mono ?_
    rintro e w' ⟨rfl, h6⟩
    exact ⟨by rw [List.getElem_append_right (by omega)], h0.keep0 h6, keep0_below h6⟩
theorem Gy.getOut (h : Gy B g xb b ao cap cb cs w A C S k most) (i : Int) (hi : i < 0 ∨ (A.length + C.length : Nat) ≤ i) :
   Calls Try.prog 9 #[.pointer (some ⟨g, 0, none⟩), .int .i64 i] w fun e w' => e = .returned (.tuple #[.agg #[.int .i64 0, .int .i64 0], .bool false]) ∧ Gy B g xb b ao cap cb cs w' A C S k most ∧ Below w.heap.size w w' := by
  have h0 := h
  obtain ⟨bb, M, h1, _⟩ := h
  exact (get_out g bb A M C most i w h1 hi).mono fun e w' h => ⟨h.1, h0.keep0 h.2, keep0_below h.2⟩
/-- The line x is given anew. -/
theorem Gy.setx {w1 : World} (h : Gy B g xb b ao cap cb cs w A C S k most) (hb : Below w.heap.size w w1) {b' cap' : Nat} {ao' : Option Addr} {S' : List (Int × Int)} (k' : Nat) (hs : Sv w1 b' ao' cap' S') (hb' : 0 < S'.length → w.heap.size ≤ b' ∨ b' < B) :
    Gy B g xb b' ao' cap' cb cs ((w1.setCell ⟨xb, 0, none⟩ (.slice ao' S'.length cap')).setCell ⟨xb, 1, none⟩ (.int .i64 k')) A C S' k' most := by
  have h1 := h.below hb
  have hxl := h.xblk.lt
  obtain ⟨bb, M, i1, i2, i3, i4, i5, i6, i7, i8, i9, i10, i11, i12, i13, i14⟩ := h
  have hgl := i1.lt
  have e1 : Keep (fun k => k = xb) w1 ((w1.setCell ⟨xb, 0, none⟩ (.slice ao' S'.length cap')).setCell ⟨xb, 1, none⟩ (.int .i64 k')) := Keep.setCell (S := fun k => k = xb) (Keep.setCell (S := fun k => k = xb) (Keep.refl _ _) _ (.inl rfl)) _ (.inl rfl)
  have hG := i1.below hb
  refine ⟨bb, M, ?_, by simp; exact Nat.lt_of_lt_of_le i2 hb.size, i3, i4, i5, i6, i7, ?_, hs.keep' e1 (fun h0 => ?_), fun h0 => ?_, e1.blk (i11.below hb i11.lt) i14, i12, i13, i14⟩
  · obtain ⟨g1, g2, ga, gg, gc⟩ := hG
    refine ⟨g1, g2, ga, e1.blk gg (fun h => i5 h.symm), ?_⟩
    rcases gc with h | ⟨x1, x2, x3⟩
    · exact .inl h
    · exact .inr ⟨x1, x2, e1.blk x3 (fun h => i6 h.symm)⟩
  · exact ((i8.below hb i8.lt).set 0 _).set 1 _
  · have := hb' h0; show ¬ b' = xb; omega
  · have := hb' h0; refine ⟨?_, ?_, ?_⟩ <;> omega
/-- The line's cursor is given anew. -/
theorem Gy.setAt (h : Gy B g xb b ao cap cb cs w A C S k most) (k' : Nat) : Gy B g xb b ao cap cb cs (w.setCell ⟨xb, 1, none⟩ (.int .i64 k')) A C S k' most := by
  obtain ⟨bb, M, i1, i2, i3, i4, i5, i6, i7, i8, i9, i10, i11, i12, i13, i14⟩ := h
  have e1 : Keep (fun k => k = xb) w (w.setCell ⟨xb, 1, none⟩ (.int .i64 k')) := Keep.setCell (S := fun k => k = xb) (Keep.refl _ _) _ (.inl rfl)
  refine ⟨bb, M, ?_, by simpa using i2, i3, i4, i5, i6, i7, i8.set 1 _, i9.keep' e1 (fun h0 => (i10 h0).2.2), i10, e1.blk i11 i14, i12, i13, i14⟩
  obtain ⟨g1, g2, ga, gg, gc⟩ := i1
  refine ⟨g1, g2, ga, e1.blk gg (fun h => i5 h.symm), ?_⟩
  rcases gc with h | ⟨x1, x2, x3⟩
  · exact .inl h
  · exact .inr ⟨x1, x2, e1.blk x3 (fun h => i6 h.symm)⟩
end
end Go.Proofs.Ytidomomdfdkphaa
