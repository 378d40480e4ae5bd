/- The walk of GapDoes. -/
import Derived.Test.YtidomomdfdkphaaGG
import Derived.Deep.CutBlock
namespace Go.Proofs.Ytidomomdfdkphaa
open Go.RowKit
/-- The calls of a script, as they lie in memory. -/
def CallsAt (w : World) (c off len : Nat) (K N : Nat → Int) (L : Nat → List (Int × Int)) (AO : Nat → Option Addr) (CP BB : Nat → Nat) : Prop :=
  c < w.heap.size ∧ ∀ i, i < len → w.cell? ⟨c, off + i * 3, none⟩ = some (.int .i64 (K i)) ∧ w.cell? ⟨c, off + i * 3 + 1, none⟩ = some (.int .i64 (N i)) ∧ w.cell? ⟨c, off + i * 3 + 2, none⟩ = some (.slice (AO i) (L i).length (CP i)) ∧ Sv w (BB i) (AO i) (CP i) (L i)
set_option maxHeartbeats 1000000 in
set_option maxRecDepth 100000 in
theorem does_range (most : Int) (v : Value) (w : World) (h : most < 1 ∨ 65536 < most) : Calls Try.prog 5 #[.int .i64 most, v] w fun e w' => e = .returned (.bool true) ∧ Below w.heap.size w w' := by
  rcases h with h | h
  · go_enter Try.func5, Try.ntmps5
    go_wp2_with fail
    refine (awake_any _).mono ?_
    rintro e w1 ⟨rfl, hb1⟩
    go_wp2_with fail
    refine (new_bad most _ (.inl h)).mono ?_
    rintro e w2 ⟨rfl, rfl⟩
    go_wp2_with fail
    go_ret
    exact ⟨rfl, hb1⟩
  · have h1 : ¬ most < 1 := by omega
    go_enter Try.func5, Try.ntmps5
    go_wp2_with fail
    refine (awake_any _).mono ?_
    rintro e w1 ⟨rfl, hb1⟩
    go_wp2_with fail
    refine (new_bad most _ (.inr h)).mono ?_
    rintro e w2 ⟨rfl, rfl⟩
    go_wp2_with fail
    go_ret
    exact ⟨rfl, hb1⟩
/-- The same without the call. -/
def Gz (B g xb b : Nat) (ao : Option Addr) (cap : Nat) (w : World) (A C S : List (Int × Int)) (k most : Nat) : Prop :=
  ∃ bb M, Gp w g bb A M C most ∧ bb < w.heap.size ∧ B ≤ g ∧ B ≤ bb ∧ xb ≠ g ∧ xb ≠ bb ∧ B ≤ xb ∧ Blk w xb #[.slice ao S.length cap, .int .i64 k] 40 ∧ Sv w b ao cap S ∧ (0 < S.length → b ≠ g ∧ b ≠ bb ∧ b ≠ xb)
theorem Gy.gz {B g xb b cap cb : Nat} {ao : Option Addr} {cs : Array Value} {w : World} {A C S : List (Int × Int)} {k most : Nat} (h : Gy B g xb b ao cap cb cs w A C S k most) : Gz B g xb b ao cap w A C S k most := by
  obtain ⟨bb, M, i1, i2, i3, i4, i5, i6, i7, i8, i9, i10, _⟩ := h
  exact ⟨bb, M, i1, i2, i3, i4, i5, i6, i7, i8, i9, i10⟩
theorem Gz.gy {B g xb b cap : Nat} {ao : Option Addr} {w : World} {A C S : List (Int × Int)} {k most : Nat} (h : Gz B g xb b ao cap w A C S k most) (cs : Array Value) : Gy B g xb b ao cap w.heap.size cs (w.alloc (.cells cs 49)) A C S k most := by
  obtain ⟨bb, M, i1, i2, i3, i4, i5, i6, i7, i8, i9, i10⟩ := h
  have hb : Below w.heap.size w (w.alloc (.cells cs 49)) := (Below.refl _ _).alloc (Nat.le_refl _) _
  have hg := i1.lt
  have hx := i8.lt
  exact ⟨bb, M, i1.below hb, by simp; omega, i3, i4, i5, i6, i7, i8.below hb hx, i9.below hb, i10, Blk.new w _ _, by omega, by omega, by omega⟩
theorem Gz.below {B g xb b cap : Nat} {ao : Option Addr} {w w' : World} {A C S : List (Int × Int)} {k most : Nat} (h : Gz B g xb b ao cap w A C S k most) (hb : Below w.heap.size w w') : Gz B g xb b ao cap w' A C S k most := by
  obtain ⟨bb, M, h1, h2, h3, h4, h5, h6, h7, h8, h9, h10⟩ := h
  exact ⟨bb, M, h1.below hb, Nat.lt_of_lt_of_le h2 hb.size, h3, h4, h5, h6, h7, h8.below hb h8.lt, h9.below hb, h10⟩
theorem gz_new {B g most : Nat} {w : World} (h : Gv B g w [] [] most) : Gz B g w.heap.size 0 none 0 (w.alloc (.cells #[.slice none 0 0, .int .i64 0] 40)) [] [] [] 0 most := by
  obtain ⟨bb, M, h1, h2, h3⟩ := h
  have hg := h1.lt
  obtain ⟨bb2, n1, n2, n3⟩ := gp_norm h1
  have hb : Below w.heap.size w (w.alloc (.cells #[.slice none 0 0, .int .i64 0] 40)) := (Below.refl _ _).alloc (Nat.le_refl _) _
  exact ⟨bb2, M, n1.below hb, by simp; omega, h2, by omega, by omega, by omega, by omega, Blk.new w _ _, ⟨Nat.le_refl _, Nat.zero_le _, fun _ => rfl, fun h => by simp at h⟩, fun h => by simp at h⟩
section
variable {B g xb b cap : Nat} {ao : Option Addr} {w w' : World} {A C S : List (Int × Int)} {k most : Nat}
theorem Gz.len (h : Gz B g xb b ao cap w A C S k most) : Calls Try.prog 15 #[.pointer (some ⟨g, 0, none⟩)] w fun e w' => e = .returned (.int .i64 (A.length + C.length : Nat)) ∧ Below w.heap.size w w' := by
  obtain ⟨bb, M, h1, _⟩ := h
  refine (len_any g bb A M C most w h1).mono ?_
  rintro e w' ⟨rfl, m, rfl⟩
  exact ⟨rfl, below_drewN (Below.refl _ _) m⟩
theorem Gz.at (h : Gz B g xb b ao cap w A C S k most) : Calls Try.prog 16 #[.pointer (some ⟨g, 0, none⟩)] w fun e w' => e = .returned (.int .i64 A.length) ∧ Below w.heap.size w w' := by
  obtain ⟨bb, M, h1, _⟩ := h
  refine (at_any g bb A M C most w h1).mono ?_
  rintro e w' ⟨rfl, rfl⟩
  exact ⟨rfl, Below.refl _ _⟩
theorem Gz.all (h : Gz B g xb b ao cap w A C S k most) : Calls Try.prog 12 #[.pointer (some ⟨g, 0, none⟩)] w (AllPost (A ++ C) w) := by
  obtain ⟨bb, M, h1, _⟩ := h
  exact all_signs g bb A M C most w h1
theorem Gz.line (h : Gz B g xb b ao cap w A C S k most) : Calls Try.prog 17 #[.pointer (some ⟨g, 0, none⟩)] w (LinePost (A ++ C) A.length w) := by
  obtain ⟨bb, M, h1, _⟩ := h
  exact line_any g bb A M C most w h1
theorem Gz.xblk (h : Gz B g xb b ao cap w A C S k most) : Blk w xb #[.slice ao S.length cap, .int .i64 k] 40 := by obtain ⟨bb, M, _, _, _, _, _, _, _, h8, _⟩ := h; exact h8
theorem Gz.sl (h : Gz B g xb b ao cap w A C S k most) : Sl w b ao S := by obtain ⟨bb, M, _, _, _, _, _, _, _, _, h9, _⟩ := h; exact h9.2.2.2
end
theorem same_bel (b1 b2 : Nat) (a1 a2 : Option Addr) (cap1 cap2 : Nat) (l : List (Int × Int)) (w : World) (h1 : Sl w b1 a1 l) (h2 : Sl w b2 a2 l) (hl : l.length ≤ 1000000) :
   Calls Try.prog 18 #[.slice a1 l.length cap1, .slice a2 l.length cap2] w fun e w' => e = .returned (.bool true) ∧ Below w.heap.size w w' := by
  refine (same_any b1 b2 a1 a2 cap1 cap2 l w h1 h2 hl).mono ?_
  rintro e w' ⟨rfl, m, rfl⟩
  exact ⟨rfl, below_drewN (Below.refl _ _) m⟩
theorem same_bel' {m : Nat} (b1 b2 : Nat) (a1 a2 : Option Addr) (cap1 cap2 : Nat) (l : List (Int × Int)) (w : World) (hm : m = l.length) (h1 : Sl w b1 a1 l) (h2 : Sl w b2 a2 l) (hl : m ≤ 1000000) :
   Calls Try.prog 18 #[.slice a1 m cap1, .slice a2 m cap2] w fun e w' => e = .returned (.bool true) ∧ Below w.heap.size w w' := by
  subst hm; exact same_bel b1 b2 a1 a2 cap1 cap2 l w h1 h2 hl
theorem rsame_any' {m : Nat} (b1 b2 : Nat) (a1 a2 : Option Addr) (c1 c2 : Nat) (l : List (Int × Int)) (k : Nat) (w : World) (hm : m = l.length) (h1 : Sl w b1 a1 l) (h2 : Sl w b2 a2 l) (hl : m ≤ 1000000) :
   Calls Try.prog 25 #[.agg #[.slice a1 m c1, .int .i64 k], .agg #[.slice a2 m c2, .int .i64 k]] w fun e w' => e = .returned (.bool true) ∧ Below w.heap.size w w' := by
  subst hm; exact rsame_any b1 b2 a1 a2 c1 c2 l k w h1 h2 hl
theorem place_q (n : Nat) (p : Int) (w : World) : Calls Try.prog 21 #[.int .i64 n, .int .i64 p] w fun e w' => e = .returned (.int .i64 (plc n p)) ∧ w' = w :=
  (place_any n p w).mono fun _ _ h => ⟨h.1, h.2.symm⟩
theorem place_qq {n : Nat} {p : Int} {tt : Nat} (h : plc n p = tt) (w : World) : Calls Try.prog 21 #[.int .i64 n, .int .i64 p] w fun e w' => e = .returned (.int .i64 tt) ∧ w' = w := by
  subst h; exact place_q n p w
theorem low_q (a b : Int) (w : World) : Calls Try.prog 22 #[.int .i64 a, .int .i64 b] w fun e w' => e = .returned (.int .i64 (min a b)) ∧ w' = w :=
  (low_any a b w).mono fun _ _ h => ⟨h.1, h.2.symm⟩
theorem high_q (a b : Int) (w : World) : Calls Try.prog 23 #[.int .i64 a, .int .i64 b] w fun e w' => e = .returned (.int .i64 (max a b)) ∧ w' = w :=
  (high_any a b w).mono fun _ _ h => ⟨h.1, h.2.symm⟩
theorem sl_mid {w : World} {b cap : Nat} {ao D : Option Addr} {L X Y Z : List (Int × Int)} (h : Sl w b ao L) (hD : (if cap = X.length then ao else ao.map fun x => x.add (X.length * 2)) = D) (hc : L.length ≤ cap) (hL : L = X ++ (Y ++ Z)) : Sl w b D Y := by
  subst hL hD
  have h1 := (h.from X.length hc).take Y.length
  rw [List.drop_left, List.take_left] at h1
  exact h1
/-- What the law wants of a call. -/
def wantI (K : Int) (l : List (Int × Int)) (n most : Nat) : Int := if l.all rs = true then (if (K = 0 ∧ most < l.length + n) ∨ (K = 3 ∧ most < l.length) then 8 else 0) else 2
set_option maxHeartbeats 80000000 in
set_option maxRecDepth 100000 in
theorem does_ok (most : Nat) (hm0 : 1 ≤ most) (hm1 : most ≤ 65536) (ao1 : Option Addr) (len cap1 : Nat) (hlen : len ≤ 9223372036854775807) (K N : Nat → Int) (L : Nat → List (Int × Int)) (AO : Nat → Option Addr) (CP BB : Nat → Nat) (w : World)
   (hc : 0 < len → ∃ c off, ao1 = some ⟨c, off, none⟩ ∧ CallsAt w c off len K N L AO CP BB) :
   Calls Try.prog 5 #[.int .i64 most, .slice ao1 len cap1] w fun e w' => e = .returned (.bool true) ∧ Below w.heap.size w w' := by
  have HC := Lib.hid hc
  clear hc
  have hm2 : decide ((most : Int) < 1) = false := by simp; omega
  have hm3 : decide ((65536 : Int) < most) = false := by simp; omega
  go_enter Try.func5, Try.ntmps5
  go_wp2_with fail
  refine (awake_any _).mono ?_
  rintro e w1 ⟨rfl, hb1⟩
  have HB1 := Lib.hid hb1
  clear hb1
  go_wp2_with fail
  refine (new_ok most _ (by omega) (by omega)).mono ?_
  rintro e w2 ⟨rfl, hw2⟩
  have HG2 : Hid (Gv w.heap.size w1.heap.size w2 [] [] most) := by show Gv _ _ _ _ _ _; rw [← hw2]; exact gv_new most hm1 w1 HB1.out.size
  have HB2 : Hid (Below w.heap.size w w2) := by show Below _ _ _; rw [← hw2]; exact HB1.out.alloc HB1.out.size _
  have hz2 : w1.heap.size < w2.heap.size := by rw [← hw2]; simp
  have hs1 := HB1.out.size
  clear hw2
  go_wp2_with fail
  have HZ := Lib.hid (gz_new HG2.out)
  have HBa : Hid (Below w.heap.size w (w2.alloc (.cells #[.slice none 0 0, .int .i64 0] 40))) := HB2.out.alloc HB2.out.size _
  generalize w1.heap.size = g at *
  generalize w2.heap.size = xb at *
  go_loopg [8] 41 (fun gk i wr => ∃ i0 : Nat, i = .int .i64 i0 ∧ i0 ≤ 40 ∧ gk = 41 - i0 ∧ Hid (∃ (A C : List (Int × Int)) (b cap : Nat) (ao : Option Addr), A.length + C.length ≤ most ∧ Gz w.heap.size g xb b ao cap wr A C (A ++ C) A.length most) ∧ Hid (Below w.heap.size w wr))
  case atStart => exact ⟨0, rfl, by omega, by omega, ⟨[], [], _, _, _, Nat.zero_le _, HZ.out⟩, HBa.out⟩
  case round =>
    obtain ⟨i0, rfl, hi40, hgk, hgz, hbl⟩ := hrel
    have HGK := Lib.hid hgk
    clear hgk HZ HBa HG2 HB2
    by_cases hlt : i0 < len ∧ i0 < 40
    · obtain ⟨hlt, hlt40⟩ := hlt
      obtain ⟨c, off, rfl, hcw, hcell⟩ := HC.out (by omega)
      obtain ⟨q0, q1, q2, q3⟩ := hcell i0 hlt
      clear hcell
      have HSV := Lib.hid q3
      clear q3
      have c0 := (hbl.out.cell (p := ⟨c, off + i0 * 3, none⟩) hcw).trans q0
      have c1 := (hbl.out.cell (p := ⟨c, off + i0 * 3 + 1, none⟩) hcw).trans q1
      have c2 := (hbl.out.cell (p := ⟨c, off + i0 * 3 + 2, none⟩) hcw).trans q2
      clear q0 q1 q2
      have hbs := hbl.out.size
      have hcr : c < wr.heap.size := by omega
      generalize K i0 = Ki at *
      generalize N i0 = Ni at *
      generalize L i0 = l at *
      generalize AO i0 = a2 at *
      generalize CP i0 = c2' at *
      generalize BB i0 = b2 at *
      have hll : l.length ≤ 9223372036854775807 := by have h1 := HSV.out.1; have h2 := HSV.out.2.1; unfold maxLen at h2; omega
      by_cases h60 : 60 < l.length
      · go_wp2_with fail
        go_ret
        exact ⟨rfl, hbl.out.alloc hbs _⟩
      · go_upto_region 15 with (fail)
        obtain ⟨A, C, b, cap, ao, hsz, hz⟩ := hgz.out
        obtain ⟨w3, hw3⟩ : ∃ w3, w3 = wr.alloc (.cells #[.int .i64 Ki, .int .i64 Ni, .slice a2 l.length c2'] 49) := ⟨_, rfl⟩
        rw [← hw3]
        have HY3 : Hid (Gy w.heap.size g xb b ao cap wr.heap.size #[.int .i64 Ki, .int .i64 Ni, .slice a2 l.length c2'] w3 A C (A ++ C) A.length most) := by show Gy _ _ _ _ _ _ _ _ _ _ _ _ _ _; rw [hw3]; exact hz.gy _
        have HB3 : Hid (Below w.heap.size w w3) := by show Below _ _ _; rw [hw3]; exact hbl.out.alloc hbs _
        generalize wr.heap.size = cb at *
        clear hw3 hz hgz c0 c1 c2 hcr hbs
        have c2 := HY3.out.cblk.cell 2
        simp at c2
        go_wp2_with fail
        refine (all_any b2 a2 c2' l _ (HSV.out.2.2.2.below HB3.out) (by omega)).mono ?_
        rintro e w4 ⟨rfl, hb4⟩
        have HY4 := Lib.hid (HY3.out.below hb4)
        have HB4 : Hid (Below w.heap.size w w4) := HB3.out.trans (hb4.mono HB3.out.size)
        clear hb4 c2
        have c0 := HY4.out.cblk.cell 0
        have c1 := HY4.out.cblk.cell 1
        have c2 := HY4.out.cblk.cell 2
        have x0 := HY4.out.xblk.cell 0
        have x1 := HY4.out.xblk.cell 1
        simp at c0 c1 c2 x0 x1
        go_upto_if 61 with (fail)
        go_cut [10] (fun s10 wx => s10 = .int .i64 (wantI Ki l (A.length + C.length) most) ∧ wx = w4)
        case first =>
          cases hr : l.all rs
          · as_aux_lemma =>
              have hw : Hid (wantI Ki l (A.length + C.length) most = 2) := by show _ = _; simp [wantI, hr]
              go_wp2_with fail
              go_meet
              exact ⟨by rw [hw.out], rfl⟩
          · rcases (by omega : (Ki = 0 ∧ most < l.length + (A.length + C.length)) ∨ (Ki = 0 ∧ ¬ most < l.length + (A.length + C.length)) ∨ (Ki = 3 ∧ most < l.length) ∨ (Ki = 3 ∧ ¬ most < l.length) ∨ (¬ Ki = 0 ∧ ¬ Ki = 3)) with ⟨hk, hf⟩ | ⟨hk, hf⟩ | ⟨hk, hf⟩ | ⟨hk, hf⟩ | ⟨hk, hf⟩
            · as_aux_lemma =>
                have hw : Hid (wantI Ki l (A.length + C.length) most = 8) := by show _ = _; simp [wantI, hr, hk, hf]
                subst hk
                have hf1 : (most : Int) < (l.length : Int) + ((A.length : Int) + C.length) := by omega
                go_wp2_with fail
                go_meet
                exact ⟨by rw [hw.out], rfl⟩
            · as_aux_lemma =>
                have hw : Hid (wantI Ki l (A.length + C.length) most = 0) := by show _ = _; simp [wantI, hr, hk, hf]
                subst hk
                have hf1 : ¬ (most : Int) < (l.length : Int) + ((A.length : Int) + C.length) := by omega
                go_wp2_with fail
                go_meet
                exact ⟨by rw [hw.out], rfl⟩
            · as_aux_lemma =>
                have hw : Hid (wantI Ki l (A.length + C.length) most = 8) := by show _ = _; simp [wantI, hr, hk, hf]
                subst hk
                have hf1 : (most : Int) < (l.length : Int) := by omega
                go_wp2_with fail
                go_meet
                exact ⟨by rw [hw.out], rfl⟩
            · as_aux_lemma =>
                have hw : Hid (wantI Ki l (A.length + C.length) most = 0) := by show _ = _; simp [wantI, hr, hk, hf]
                subst hk
                have hf1 : ¬ (most : Int) < (l.length : Int) := by omega
                go_wp2_with fail
                go_meet
                exact ⟨by rw [hw.out], rfl⟩
            · as_aux_lemma =>
                have hw : Hid (wantI Ki l (A.length + C.length) most = 0) := by show _ = _; simp [wantI, hr, hk, hf]
                have hk0 : (Ki == 0) = false := by simp [hk]
                have hk3 : (Ki == 3) = false := by simp [hf]
                go_wp2_with fail
                go_meet
                exact ⟨by rw [hw.out], rfl⟩
        case rest =>
          obtain ⟨rfl, rfl⟩ := hcut
          clear c1 c2 x0 x1
          go_upto_block 2 with (fail)
          clear c0
          go_cut [10] (fun _ wx => Hid (∃ (A C : List (Int × Int)) (b cap : Nat) (ao : Option Addr), A.length + C.length ≤ most ∧ Gz w.heap.size g xb b ao cap wx A C (A ++ C) A.length most) ∧ Hid (Below w.heap.size w wx))
          case first =>
            have hb2 : 0 < l.length → b2 < w.heap.size := fun h0 => (HSV.out.2.2.2 h0).1
            have HB2' := Lib.hid hb2
            clear hb2
            have c0 := HY4.out.cblk.cell 0
            have c1 := HY4.out.cblk.cell 1
            have c2 := HY4.out.cblk.cell 2
            have x0 := HY4.out.xblk.cell 0
            have x1 := HY4.out.xblk.cell 1
            simp at c0 c1 c2 x0 x1
            have hs4 := HB4.out.size
            by_cases hk0 : Ki = 0
            · cases hr : l.all rs
              · as_aux_lemma =>
                  have hw : wantI Ki l (A.length + C.length) most = 2 := by simp [wantI, hr]
                  rw [hw]
                  subst hk0
                  have HR := Lib.hid hr
                  clear hw hr
                  go_wp2_with fail
                  refine (HY4.out.insertBad (HSV.out.2.2.2.below HB4.out) (by omega) HR.out).mono ?_
                  rintro e w5 ⟨rfl, hy5, hb5⟩
                  have HY5 := Lib.hid hy5
                  have HB5 : Hid (Below w.heap.size w w5) := HB4.out.trans (hb5.mono hs4)
                  clear hy5 hb5
                  go_wp2_with fail
                  go_meet
                  exact ⟨⟨_, _, _, _, _, hsz, HY5.out.gz⟩, HB5⟩
              · by_cases hf : most < l.length + (A.length + C.length)
                · as_aux_lemma =>
                    have hw : wantI Ki l (A.length + C.length) most = 8 := by simp [wantI, hr, hk0, hf]
                    rw [hw]
                    subst hk0
                    have HR := Lib.hid hr
                    clear hw hr
                    go_wp2_with fail
                    refine (HY4.out.insertFull (HSV.out.2.2.2.below HB4.out) (by omega) HR.out (by omega)).mono ?_
                    rintro e w5 ⟨rfl, hy5, hb5⟩
                    have HY5 := Lib.hid hy5
                    have HB5 : Hid (Below w.heap.size w w5) := HB4.out.trans (hb5.mono hs4)
                    clear hy5 hb5
                    go_wp2_with fail
                    go_meet
                    exact ⟨⟨_, _, _, _, _, hsz, HY5.out.gz⟩, HB5⟩
                · as_aux_lemma =>
                    have hw : wantI Ki l (A.length + C.length) most = 0 := by simp [wantI, hr, hk0, hf]
                    rw [hw]
                    subst hk0
                    have HR := Lib.hid hr
                    clear hw hr
                    go_wp2_with fail
                    refine (HY4.out.insert hs4 (HSV.out.2.2.2.below HB4.out) HB2'.out (by omega) HR.out (by omega)).mono ?_
                    rintro e w5 ⟨rfl, hy5, hb5⟩
                    have HY5 := Lib.hid hy5
                    have HB5 : Hid (Below w.heap.size w w5) := HB4.out.trans hb5
                    clear hy5 hb5 c0 c1 c2 x0 x1
                    have c2 := HY5.out.cblk.cell 2
                    have x0 := HY5.out.xblk.cell 0
                    have x1 := HY5.out.xblk.cell 1
                    simp at c2 x0 x1
                    go_wp2_with fail
                    refine (rinsert_any b b2 cap c2' ao a2 A C l w5 HY5.out.sv (HSV.out.below HB5.out) (by omega)).mono ?_
                    rintro e w6 ⟨ao6, cap6, b6, rfl, hb6, hs6, hbl6⟩
                    have HB6 : Hid (Below w.heap.size w w6) := HB5.out.trans (hbl6.mono HB5.out.size)
                    have HY6 := Lib.hid (HY5.out.setx hbl6 (A.length + l.length) hs6 (fun _ => .inl hb6))
                    have hxb6 := ((HY5.out.below hbl6).xblk)
                    have y0 := hxb6.cell 0
                    have y1 := hxb6.cell 1
                    have yf := hxb6.free
                    simp at y0 y1
                    clear hb6 hs6 hbl6 hxb6 c2 x0 x1
                    go_wp2_with fail
                    go_meet
                    refine ⟨⟨A ++ l, C, b6, cap6, ao6, by simp; omega, ?_⟩, (HB6.out.setCell (by show _ ≤ xb; omega) _).setCell (by show _ ≤ xb; omega) _⟩
                    have h := HY6.out.gz
                    rw [← List.append_assoc] at h
                    simpa using h
            by_cases hk1 : Ki = 1
            · subst hk1
              obtain ⟨tt, htt⟩ : ∃ tt : Nat, plc (A.length + C.length) ((A.length : Int) + min (max Ni (-100000)) 100000) = tt := ⟨_, rfl⟩
              have HTO := Lib.hid htt
              have htl : tt ≤ A.length + C.length := by rw [← htt]; exact plc_le _ _
              go_upto_region 30 with (fail)
              go_cut [11] (fun s11 wx => s11 = .int .i64 tt ∧ ∃ q, wx = wc.drewN q)
              case first => as_aux_lemma =>
                have hrg : -9223372036854775808 ≤ (A.length : Int) + min (max Ni (-100000)) 100000 ∧ (A.length : Int) + min (max Ni (-100000)) 100000 ≤ 9223372036854775807 := by omega
                have hwr : IntKind.i64.wrap ((A.length : Int) + min (max Ni (-100000)) 100000) = (A.length : Int) + min (max Ni (-100000)) 100000 := by rw [IntKind.wrap_i64]; omega
                go_quiet ((first | (go_at_call 23; exact Calls.quiet_of_same (high_q _ _ _)) | (go_at_call 22; exact Calls.quiet_of_same (low_q _ _ _)) | (go_at_call 21; exact Calls.quiet_of_same (place_qq HTO.out _))))
                go_wp2_with fail
                go_meet
                exact ⟨rfl, _, rfl⟩
              case rest =>
                obtain ⟨rfl, q, rfl⟩ := hcut
                clear c0 c1 c2 x0 x1
                have HY5 := Lib.hid (HY4.out.below (below_drewN (Below.refl _ _) q))
                have HB5 : Hid (Below w.heap.size w (wc.drewN q)) := below_drewN HB4.out q
                clear hs4
                by_cases hneg : Ni < 0
                · have hta : tt ≤ A.length := by have := HTO.out; unfold plc at this; omega
                  obtain ⟨A1, A2, hAe, hA1⟩ : ∃ A1 A2, A = A1 ++ A2 ∧ A1.length = tt := ⟨A.take tt, A.drop tt, (List.take_append_drop _ _).symm, by simp; omega⟩
                  subst hAe
                  have hmx : max Ni (-(A1.length + A2.length : Nat)) = -(A2.length : Int) := by
                    have := HTO.out; unfold plc at this; simp only [List.length_append] at this hsz; omega
                  have HMX := Lib.hid hmx
                  have HNEG := Lib.hid hneg
                  subst hA1
                  clear hmx hta htt htl
                  have x1 := HY5.out.xblk.cell 1
                  simp at x1
                  go_wp2_with fail
                  refine (low_any _ _ _).mono ?_
                  rintro e z1 ⟨rfl, rfl⟩
                  rw [show min ((A1.length : Int) + A2.length) (A1.length : Int) = (A1.length : Int) by omega]
                  go_wp2_with fail
                  refine (high_any _ _ _).mono ?_
                  rintro e z2 ⟨rfl, rfl⟩
                  rw [show max ((A1.length : Int) + A2.length) (A1.length : Int) = (A1.length : Int) + A2.length by omega]
                  clear x1
                  have HCL : Hid (((A1 ++ A2) ++ C).length ≤ cap) := by show _ ≤ _; exact HY5.out.sv.1
                  have hsz1 : A1.length + (A2.length + C.length) ≤ most := by simp only [List.length_append] at hsz; omega
                  have hcap : A1.length + (A2.length + C.length) ≤ cap := by have := HY5.out.sv.1; simp at this; omega
                  go_upto_region 33 with (fail)
                  go_cut [177] (fun s177 wx => s177 = .bool false ∧ Hid (Gy w.heap.size g xb b ao cap cb #[.int .i64 1, .int .i64 Ni, .slice a2 l.length c2'] wx A1 C ((A1 ++ A2) ++ C) (A1 ++ A2).length most) ∧ Hid (Below w.heap.size w wx))
                  case first => as_aux_lemma =>
                    obtain ⟨D, hD⟩ : ∃ D, (if cap = A1.length then ao else ao.map fun x => x.add (A1.length * 2)) = D := ⟨_, rfl⟩
                    have HD := Lib.hid hD
                    have x0 := HY5.out.xblk.cell 0
                    have c1 := HY5.out.cblk.cell 1
                    simp at x0 c1
                    have hy1m : A2.length ≤ 1000000 := by omega
                    have hcd1 : (0 : Int) ≤ (A1.length : Int) + A2.length := by omega
                    have hcd2 : (A1.length : Int) ≤ (A1.length : Int) + A2.length := by omega
                    have hcd3 : (A1.length : Int) + A2.length ≤ cap := by omega
                    have htn : ((A1.length : Int) + A2.length).toNat = A1.length + A2.length := by omega
                    have hln : A1.length + A2.length - A1.length = A2.length := by omega
                    go_region_held3 (fun w' => w'.cell? ⟨xb, 0, none⟩ = some (.slice ao (A1.length + (A2.length + C.length)) cap) ∧ w'.cell? ⟨cb, 1, none⟩ = some (.int .i64 Ni)) (first | exact ⟨x0, c1⟩ | exact ⟨xa0, ca1⟩ | exact ⟨xc0, cc1⟩) ((first | (go_at_call 14; refine ((HY5.out.below (Below.refl _ _).drew).cutLeft (A1 := A1) (A2 := A2) HB5.out.size Ni HNEG.out HMX.out).mono ?_; rintro e y1 ⟨rfl, hk1, hy1, hb1⟩; have HK1 := Lib.hid hk1; have HY6 := Lib.hid hy1; have HB6 : Hid (Below w.heap.size w y1) := HB5.out.drew.trans hb1; clear hk1 hy1 hb1; have xa0 := HY6.out.xblk.cell 0; have ca1 := HY6.out.cblk.cell 1; simp at xa0 ca1) | (go_at_call 18; refine (same_bel _ b _ D _ _ A2 y1 (sl_blk HK1.out) (sl_mid HY6.out.sv.2.2.2 HD.out HCL.out (List.append_assoc A1 A2 C)) hy1m).mono ?_; rintro e y2 ⟨rfl, hy2⟩; have HY7 := Lib.hid (HY6.out.below hy2); have HB7 : Hid (Below w.heap.size w y2) := HB6.out.trans (hy2.mono HB6.out.size); clear hy2; have xc0 := HY7.out.xblk.cell 0; have cc1 := HY7.out.cblk.cell 1; simp at xc0 cc1)))
                    all_goals
                      clear hD
                      go_wp2_with fail
                      go_meet
                      exact ⟨rfl, HY7, HB7⟩
                  case rest => as_aux_lemma =>
                    obtain ⟨rfl, hy8, hb8⟩ := hcut
                    have x0 := hy8.out.xblk.cell 0
                    have x1 := hy8.out.xblk.cell 1
                    simp at x0 x1
                    go_wp2_with fail
                    have hs8 := hb8.out.size
                    rw [show (A1.length : Int) + A2.length = ((A1.length + A2.length : Nat) : Int) by omega]
                    have hsv8 := hy8.out.sv
                    rw [List.append_assoc A1 A2 C] at hsv8
                    refine (rwithout_any b cap ao A1 A2 C _ _ hsv8 (by omega)).mono ?_
                    rintro e w9 ⟨ao9, cap9, b9, rfl, hb9, hs9, hbl9⟩
                    have HB9 : Hid (Below w.heap.size w w9) := hb8.out.trans (hbl9.mono hs8)
                    have HY9 := Lib.hid (hy8.out.setx hbl9 A1.length hs9 (fun _ => .inl hb9))
                    have hxb9 := ((hy8.out.below hbl9).xblk)
                    have y0 := hxb9.cell 0
                    have y1 := hxb9.cell 1
                    have yf := hxb9.free
                    simp at y0 y1
                    clear hb9 hs9 hbl9 hxb9 x0 x1 hsv8
                    go_wp2_with fail
                    go_meet
                    refine ⟨⟨A1, C, b9, cap9, ao9, by omega, ?_⟩, (HB9.out.setCell (by show _ ≤ xb; omega) _).setCell (by show _ ≤ xb; omega) _⟩
                    have h := HY9.out.gz
                    simpa using h
                · have hta : A.length ≤ tt := by have := HTO.out; unfold plc at this; omega
                  obtain ⟨C1, C2, hCe, hC1⟩ : ∃ C1 C2, C = C1 ++ C2 ∧ A.length + C1.length = tt := ⟨C.take (tt - A.length), C.drop (tt - A.length), (List.take_append_drop _ _).symm, by simp; omega⟩
                  subst hCe
                  have hmx : min Ni (C1.length + C2.length : Nat) = (C1.length : Int) := by
                    have := HTO.out; unfold plc at this; simp only [List.length_append] at this hsz; omega
                  have HMX := Lib.hid hmx
                  have HNEG := Lib.hid hneg
                  subst hC1
                  clear hmx hta htt htl
                  rw [show ((A.length + C1.length : Nat) : Int) = (A.length : Int) + C1.length by omega]
                  have x1 := HY5.out.xblk.cell 1
                  simp at x1
                  go_wp2_with fail
                  refine (low_any _ _ _).mono ?_
                  rintro e z1 ⟨rfl, rfl⟩
                  rw [show min (A.length : Int) ((A.length : Int) + C1.length) = (A.length : Int) by omega]
                  go_wp2_with fail
                  refine (high_any _ _ _).mono ?_
                  rintro e z2 ⟨rfl, rfl⟩
                  rw [show max (A.length : Int) ((A.length : Int) + C1.length) = (A.length : Int) + C1.length by omega]
                  clear x1
                  have HCL : Hid ((A ++ (C1 ++ C2)).length ≤ cap) := by show _ ≤ _; exact HY5.out.sv.1
                  have hsz1 : A.length + (C1.length + C2.length) ≤ most := by simp only [List.length_append] at hsz; omega
                  have hcap : A.length + (C1.length + C2.length) ≤ cap := by have := HY5.out.sv.1; simp at this; omega
                  go_upto_region 33 with (fail)
                  go_cut [177] (fun s177 wx => s177 = .bool false ∧ Hid (Gy w.heap.size g xb b ao cap cb #[.int .i64 1, .int .i64 Ni, .slice a2 l.length c2'] wx A C2 (A ++ (C1 ++ C2)) A.length most) ∧ Hid (Below w.heap.size w wx))
                  case first => as_aux_lemma =>
                    obtain ⟨D, hD⟩ : ∃ D, (if cap = A.length then ao else ao.map fun x => x.add (A.length * 2)) = D := ⟨_, rfl⟩
                    have HD := Lib.hid hD
                    have x0 := HY5.out.xblk.cell 0
                    have c1 := HY5.out.cblk.cell 1
                    simp at x0 c1
                    have hy1m : C1.length ≤ 1000000 := by omega
                    have hcd1 : (0 : Int) ≤ (A.length : Int) + C1.length := by omega
                    have hcd2 : (A.length : Int) ≤ (A.length : Int) + C1.length := by omega
                    have hcd3 : (A.length : Int) + C1.length ≤ cap := by omega
                    have htn : ((A.length : Int) + C1.length).toNat = A.length + C1.length := by omega
                    have hln : A.length + C1.length - A.length = C1.length := by omega
                    go_region_held3 (fun w' => w'.cell? ⟨xb, 0, none⟩ = some (.slice ao (A.length + (C1.length + C2.length)) cap) ∧ w'.cell? ⟨cb, 1, none⟩ = some (.int .i64 Ni)) (first | exact ⟨x0, c1⟩ | exact ⟨xa0, ca1⟩ | exact ⟨xc0, cc1⟩) ((first | (go_at_call 14; refine ((HY5.out.below (Below.refl _ _).drew).cutRight (C1 := C1) (C2 := C2) HB5.out.size Ni (by have := HNEG.out; omega) HMX.out).mono ?_; rintro e y1 ⟨rfl, hk1, hy1, hb1⟩; have HK1 := Lib.hid hk1; have HY6 := Lib.hid hy1; have HB6 : Hid (Below w.heap.size w y1) := HB5.out.drew.trans hb1; clear hk1 hy1 hb1; have xa0 := HY6.out.xblk.cell 0; have ca1 := HY6.out.cblk.cell 1; simp at xa0 ca1) | (go_at_call 18; refine (same_bel _ b _ D _ _ C1 y1 (sl_blk HK1.out) (sl_mid HY6.out.sv.2.2.2 HD.out HCL.out rfl) hy1m).mono ?_; rintro e y2 ⟨rfl, hy2⟩; have HY7 := Lib.hid (HY6.out.below hy2); have HB7 : Hid (Below w.heap.size w y2) := HB6.out.trans (hy2.mono HB6.out.size); clear hy2; have xc0 := HY7.out.xblk.cell 0; have cc1 := HY7.out.cblk.cell 1; simp at xc0 cc1)))
                    all_goals
                      clear hD
                      go_wp2_with fail
                      go_meet
                      exact ⟨rfl, HY7, HB7⟩
                  case rest => as_aux_lemma =>
                    obtain ⟨rfl, hy8, hb8⟩ := hcut
                    have x0 := hy8.out.xblk.cell 0
                    have x1 := hy8.out.xblk.cell 1
                    simp at x0 x1
                    go_wp2_with fail
                    have hs8 := hb8.out.size
                    rw [show (A.length : Int) + C1.length = ((A.length + C1.length : Nat) : Int) by omega]
                    have hsv8 := hy8.out.sv
                    refine (rwithout_any b cap ao A C1 C2 _ _ hsv8 (by omega)).mono ?_
                    rintro e w9 ⟨ao9, cap9, b9, rfl, hb9, hs9, hbl9⟩
                    have HB9 : Hid (Below w.heap.size w w9) := hb8.out.trans (hbl9.mono hs8)
                    have HY9 := Lib.hid (hy8.out.setx hbl9 A.length hs9 (fun _ => .inl hb9))
                    have hxb9 := ((hy8.out.below hbl9).xblk)
                    have y0 := hxb9.cell 0
                    have y1 := hxb9.cell 1
                    have yf := hxb9.free
                    simp at y0 y1
                    clear hb9 hs9 hbl9 hxb9 x0 x1 hsv8
                    go_wp2_with fail
                    go_meet
                    refine ⟨⟨A, C2, b9, cap9, ao9, by omega, ?_⟩, (HB9.out.setCell (by show _ ≤ xb; omega) _).setCell (by show _ ≤ xb; omega) _⟩
                    have h := HY9.out.gz
                    simpa using h
            by_cases hk2 : Ki = 2
            · as_aux_lemma =>
                subst hk2
                go_wp2_with fail
                refine (HY4.out.move hs4 Ni).mono ?_
                rintro e w5 ⟨rfl, hy5, hb5⟩
                have HY5 := Lib.hid hy5
                have HB5 : Hid (Below w.heap.size w w5) := HB4.out.trans hb5
                clear hy5 hb5 c0 c1 c2 x0 x1
                have c1 := HY5.out.cblk.cell 1
                have x0 := HY5.out.xblk.cell 0
                have x1 := HY5.out.xblk.cell 1
                have xf := HY5.out.xblk.free
                have xl := HY5.out.xblk.lt
                simp at c1 x0 x1
                go_wp2_with fail
                rw [show (A.length : Int) + C.length = ((A.length + C.length : Nat) : Int) by omega]
                refine (place_any (A.length + C.length) Ni _).mono ?_
                rintro e w6 ⟨rfl, rfl⟩
                go_wp2_with fail
                go_meet
                have hpl := plc_le (A.length + C.length) Ni
                refine ⟨⟨(A ++ C).take (plc (A.length + C.length) Ni), (A ++ C).drop (plc (A.length + C.length) Ni), b, cap, ao, ?_, ?_⟩, HB5.out.setCell (by show _ ≤ xb; omega) _⟩
                · rw [← List.length_append, List.take_append_drop]; simpa using hsz
                · have h := (HY5.out.setAt (plc (A.length + C.length) Ni)).gz
                  rw [List.take_append_drop]
                  rw [show ((A ++ C).take (plc (A.length + C.length) Ni)).length = plc (A.length + C.length) Ni by simp; omega]
                  exact h
            by_cases hk3 : Ki = 3
            · subst hk3
              cases hr : l.all rs
              · as_aux_lemma =>
                  have hw : wantI 3 l (A.length + C.length) most = 2 := by simp [wantI, hr]
                  rw [hw]
                  have HR := Lib.hid hr
                  clear hw hr
                  go_wp2_with fail
                  refine (HY4.out.setBad Ni (HSV.out.2.2.2.below HB4.out) (by omega) HR.out).mono ?_
                  rintro e w5 ⟨rfl, hy5, hb5⟩
                  have HY5 := Lib.hid hy5
                  have HB5 : Hid (Below w.heap.size w w5) := HB4.out.trans (hb5.mono hs4)
                  clear hy5 hb5
                  go_wp2_with fail
                  go_meet
                  exact ⟨⟨_, _, _, _, _, hsz, HY5.out.gz⟩, HB5⟩
              · by_cases hf : most < l.length
                · as_aux_lemma =>
                    have hw : wantI 3 l (A.length + C.length) most = 8 := by simp [wantI, hr, hf]
                    rw [hw]
                    have HR := Lib.hid hr
                    clear hw hr
                    go_wp2_with fail
                    refine (HY4.out.setFull Ni (HSV.out.2.2.2.below HB4.out) (by omega) HR.out (by omega)).mono ?_
                    rintro e w5 ⟨rfl, hy5, hb5⟩
                    have HY5 := Lib.hid hy5
                    have HB5 : Hid (Below w.heap.size w w5) := HB4.out.trans (hb5.mono hs4)
                    clear hy5 hb5
                    go_wp2_with fail
                    go_meet
                    exact ⟨⟨_, _, _, _, _, hsz, HY5.out.gz⟩, HB5⟩
                · as_aux_lemma =>
                    have hw : wantI 3 l (A.length + C.length) most = 0 := by simp [wantI, hr, hf]
                    rw [hw]
                    have HR := Lib.hid hr
                    clear hw hr
                    go_wp2_with fail
                    refine (HY4.out.set hs4 Ni (HSV.out.2.2.2.below HB4.out) HB2'.out (by omega) HR.out (by omega)).mono ?_
                    rintro e w5 ⟨rfl, hy5, hb5⟩
                    have HY5 := Lib.hid hy5
                    have HB5 : Hid (Below w.heap.size w w5) := HB4.out.trans hb5
                    clear hy5 hb5 c0 c1 c2 x0 x1
                    have c1 := HY5.out.cblk.cell 1
                    have c2 := HY5.out.cblk.cell 2
                    have x0 := HY5.out.xblk.cell 0
                    have x1 := HY5.out.xblk.cell 1
                    have xf := HY5.out.xblk.free
                    have xl := HY5.out.xblk.lt
                    simp at c1 c2 x0 x1
                    go_wp2_with fail
                    refine wp_region_still_tail 9 (by kernel_rfl) (by kernel_rfl) ?_
                    simp only [List.take_succ_cons, List.take_zero, List.drop_succ_cons, List.drop_zero]
                    repeat still_step
                    still_call (place_q l.length Ni _)
                    repeat still_step
                    refine wpStill_nil ?_
                    change wpList _ _ _ _ _ w5.drew
                    go_wp2_with fail
                    go_meet
                    have hpl := plc_le l.length Ni
                    refine ⟨⟨l.take (plc l.length Ni), l.drop (plc l.length Ni), b2, c2', a2, ?_, ?_⟩, (HB5.out.drew.setCell (by show _ ≤ xb; omega) _).setCell (by show _ ≤ xb; omega) _⟩
                    · rw [← List.length_append, List.take_append_drop]; omega
                    · have h := (HY5.out.setx (w1 := w5.drew) (Below.refl _ _).drew (plc l.length Ni) (HSV.out.below (w' := w5.drew) HB5.out.drew) (fun h0 => .inr (HB2'.out h0))).gz
                      rw [List.take_append_drop]
                      rw [show (l.take (plc l.length Ni)).length = plc l.length Ni by simp; omega]
                      exact h
            have hq0 : (Ki == 0) = false := by simp [hk0]
            have hq1 : (Ki == 1) = false := by simp [hk1]
            have hq2 : (Ki == 2) = false := by simp [hk2]
            have hq3 : (Ki == 3) = false := by simp [hk3]
            by_cases hin : 0 ≤ Ni ∧ Ni < ((A.length + C.length : Nat) : Int)
            · as_aux_lemma =>
                obtain ⟨i, rfl⟩ := Int.eq_ofNat_of_zero_le hin.1
                have hil : i < (A ++ C).length := by rw [List.length_append]; omega
                obtain ⟨s, hs⟩ : ∃ s : Int × Int, (A ++ C)[i] = s := ⟨_, rfl⟩
                have hget := HY4.out.getIn i hil
                rw [hs] at hget
                have HGET := Lib.hid hget
                have HS := Lib.hid hs
                clear hs hget
                go_wp2_with fail
                refine (HGET.out).mono ?_
                rintro e w5 ⟨rfl, hy5, hb5⟩
                have HY5 := Lib.hid hy5
                have HB5 : Hid (Below w.heap.size w w5) := HB4.out.trans (hb5.mono hs4)
                clear hy5 hb5 c0 c1 c2 x0 x1
                have hs5 := HB5.out.size
                go_upto_region 22 with (fail)
                go_cut [131] (fun s131 wx => s131 = .bool false ∧ Hid (Gz w.heap.size g xb b ao cap wx A C (A ++ C) A.length most) ∧ Hid (Below w.heap.size w wx))
                case first => as_aux_lemma =>
                  obtain ⟨off', hb', hao, hc'⟩ := HY5.out.sv.2.2.2.at (by omega)
                  obtain ⟨d0, d1⟩ := hc' i hil
                  rw [HS.out] at d0 d1
                  clear hc'
                  have c1 := HY5.out.cblk.cell 1
                  have x0 := HY5.out.xblk.cell 0
                  have cl := HY5.out.cblk.lt
                  have xl := HY5.out.xblk.lt
                  rw [hao] at x0
                  simp at c1 x0
                  obtain ⟨s0, s1⟩ := s
                  have hi1 : (i : Int) < (A.length : Int) + C.length := by omega
                  have hi2 : i < A.length + C.length := by omega
                  go_quiet (fail)
                  go_wp2_with fail
                  go_meet
                  exact ⟨rfl, (HY5.out.below (below_drewN ((Below.refl _ _).alloc (Nat.le_refl _) _) _)).gz, below_drewN (HB5.out.alloc hs5 _) _⟩
                case rest => as_aux_lemma =>
                  obtain ⟨rfl, hz6, hb6⟩ := hcut
                  go_wp2_with fail
                  go_meet
                  exact ⟨⟨_, _, _, _, _, hsz, hz6.out⟩, hb6⟩
            · as_aux_lemma =>
                have hout : Ni < 0 ∨ ((A.length + C.length : Nat) : Int) ≤ Ni := by omega
                go_wp2_with fail
                refine (HY4.out.getOut Ni hout).mono ?_
                rintro e w5 ⟨rfl, hy5, hb5⟩
                have HY5 := Lib.hid hy5
                have HB5 : Hid (Below w.heap.size w w5) := HB4.out.trans (hb5.mono hs4)
                clear hy5 hb5 c0 c1 c2 x0 x1
                have hs5 := HB5.out.size
                go_upto_region 22 with (fail)
                go_cut [131] (fun s131 wx => s131 = .bool false ∧ Hid (Gz w.heap.size g xb b ao cap wx A C (A ++ C) A.length most) ∧ Hid (Below w.heap.size w wx))
                case first => as_aux_lemma =>
                  have c1 := HY5.out.cblk.cell 1
                  have x0 := HY5.out.xblk.cell 0
                  have cl := HY5.out.cblk.lt
                  have xl := HY5.out.xblk.lt
                  simp at c1 x0
                  by_cases hneg : Ni < 0
                  · have hd : decide (0 ≤ Ni) = false := by simp; omega
                    go_quiet (fail)
                    go_wp2_with fail
                    go_meet
                    exact ⟨rfl, (HY5.out.below (below_drewN ((Below.refl _ _).alloc (Nat.le_refl _) _) _)).gz, below_drewN (HB5.out.alloc hs5 _) _⟩
                  · have hd : decide (0 ≤ Ni) = true := by simp; omega
                    have hd2 : decide (Ni < (A.length : Int) + C.length) = false := by simp; omega
                    go_quiet (fail)
                    go_wp2_with fail
                    go_meet
                    exact ⟨rfl, (HY5.out.below (below_drewN ((Below.refl _ _).alloc (Nat.le_refl _) _) _)).gz, below_drewN (HB5.out.alloc hs5 _) _⟩
                case rest => as_aux_lemma =>
                  obtain ⟨rfl, hz6, hb6⟩ := hcut
                  go_wp2_with fail
                  go_meet
                  exact ⟨⟨_, _, _, _, _, hsz, hz6.out⟩, hb6⟩
          case rest =>
            obtain ⟨hgz, hbx⟩ := hcut
            clear HY3 HY4 HB4 HB3 HSV hll h60 HC hsz
            obtain ⟨A', C', b', cap', ao', hsz', hz'⟩ := hgz.out
            have HZ := Lib.hid hz'
            clear hz' hgz
            have HLE : Hid (A'.length + C'.length = (A' ++ C').length) := (List.length_append).symm
            have x0 := HZ.out.xblk.cell 0
            have x1 := HZ.out.xblk.cell 1
            simp at x0 x1
            go_upto_region 44 with (fail)
            go_cut [243] (fun s243 wx => s243 = .bool false ∧ Hid (Gz w.heap.size g xb b' ao' cap' wx A' C' (A' ++ C') A'.length most) ∧ Hid (Below w.heap.size w wx))
            case first => as_aux_lemma =>
              go_region_held3 (fun w' => w'.cell? ⟨xb, 0, none⟩ = some (.slice ao' (A'.length + C'.length) cap') ∧ w'.cell? ⟨xb, 1, none⟩ = some (.int .i64 A'.length)) (first | exact ⟨x0, x1⟩ | exact ⟨xa0, xa1⟩ | exact ⟨xb0, xb1⟩ | exact ⟨xc0, xc1⟩ | exact ⟨xd0, xd1⟩ | exact ⟨xe0, xe1⟩ | exact ⟨xf0, xf1⟩) ((first | (go_at_call 15; refine ((HZ.out.below (Below.refl _ _).drew).len).mono ?_; rintro e y1 ⟨rfl, hy1⟩; have HZ1 := Lib.hid ((HZ.out.below (Below.refl _ _).drew).below hy1); have HW1 : Hid (Below w.heap.size w y1) := hbx.out.drew.trans (hy1.mono hbx.out.size); clear hy1; have xa0 := HZ1.out.xblk.cell 0; have xa1 := HZ1.out.xblk.cell 1; simp at xa0 xa1) | (go_at_call 16; refine (HZ1.out.at).mono ?_; rintro e y2 ⟨rfl, hy2⟩; have HZ2 := Lib.hid (HZ1.out.below hy2); have HW2 : Hid (Below w.heap.size w y2) := HW1.out.trans (hy2.mono HW1.out.size); clear hy2; have xb0 := HZ2.out.xblk.cell 0; have xb1 := HZ2.out.xblk.cell 1; simp at xb0 xb1) | (go_at_call 12; refine (HZ2.out.all).mono ?_; rintro e y3 ⟨rfl, hk3, hy3⟩; have HZ3 := Lib.hid (HZ2.out.below hy3); have HK3 := Lib.hid hk3; have HW3 : Hid (Below w.heap.size w y3) := HW2.out.trans (hy3.mono HW2.out.size); clear hy3 hk3; have xc0 := HZ3.out.xblk.cell 0; have xc1 := HZ3.out.xblk.cell 1; simp at xc0 xc1) | (go_at_call 18; refine (same_bel' y2.heap.size b' _ ao' _ cap' (A' ++ C') y3 HLE.out (sl_blk HK3.out) HZ3.out.sl (by omega)).mono ?_; rintro e y4 ⟨rfl, hy4⟩; have HZ4 := Lib.hid (HZ3.out.below hy4); have HW4 : Hid (Below w.heap.size w y4) := HW3.out.trans (hy4.mono HW3.out.size); clear hy4; have xd0 := HZ4.out.xblk.cell 0; have xd1 := HZ4.out.xblk.cell 1; simp at xd0 xd1) | (go_at_call 17; refine (HZ4.out.line).mono ?_; rintro e y5 ⟨nb, hnb, rfl, hk5, hy5⟩; have HZ5 := Lib.hid (HZ4.out.below hy5); have HK5 := Lib.hid hk5; have HW5 : Hid (Below w.heap.size w y5) := HW4.out.trans (hy5.mono HW4.out.size); clear hy5 hk5 hnb; have xe0 := HZ5.out.xblk.cell 0; have xe1 := HZ5.out.xblk.cell 1; simp at xe0 xe1) | (go_at_call 25; refine (rsame_any' nb b' _ ao' _ cap' (A' ++ C') A'.length y5 HLE.out (sl_blk HK5.out) HZ5.out.sl (by omega)).mono ?_; rintro e y6 ⟨rfl, hy6⟩; have HZ6 := Lib.hid (HZ5.out.below hy6); have HW6 : Hid (Below w.heap.size w y6) := HW5.out.trans (hy6.mono HW5.out.size); clear hy6; have xf0 := HZ6.out.xblk.cell 0; have xf1 := HZ6.out.xblk.cell 1; simp at xf0 xf1)))
              all_goals
                go_wp2_with fail
                go_meet
                exact ⟨rfl, HZ6, HW6⟩
            case rest => as_aux_lemma =>
              obtain ⟨rfl, hz9, hb9⟩ := hcut
              go_wp2_with fail
              go_roundg (gk - 1)
              case measure => have := HGK.out; omega
              case rel => exact ⟨i0 + 1, by go_num, by omega, by have := HGK.out; omega, ⟨_, _, _, _, _, hsz', hz9.out⟩, hb9⟩
    · have hlt' : decide (i0 < len) = false ∨ decide (i0 < 40) = false := by
        by_cases h : i0 < len
        · exact .inr (by simp; omega)
        · exact .inl (by simp; omega)
      have hh : ¬ i0 < len ∨ (i0 < len ∧ ¬ i0 < 40) := by omega
      rcases hh with hh | ⟨hh, h40⟩
      · go_wp2_with fail
        go_ret
        exact ⟨rfl, hbl.out⟩
      · go_wp2_with fail
        go_ret
        exact ⟨rfl, hbl.out⟩
end Go.Proofs.Ytidomomdfdkphaa
