/- The walk of StatDistances. -/
import Derived.Test.YtoblaooomphdoaaDC
namespace Go.Proofs.Ytoblaooomphdoaa
open Go.RowKit
set_option maxHeartbeats 1000000 in
set_option maxRecDepth 100000 in
theorem dists_big (a1 a2 a3 : Option Addr) (n1 n2 n3 c1 c2 c3 : Nat) (w : World) (h : 40 < n1 ∨ (¬ 40 < n1 ∧ 40 < n2) ∨ (¬ 40 < n1 ∧ ¬ 40 < n2 ∧ 40 < n3)) : Calls Try.prog 3 #[.slice a1 n1 c1, .slice a2 n2 c2, .slice a3 n3 c3] w fun e w' => e = .returned (.bool true) ∧ Below w.heap.size w w' := by
  rcases h with h | ⟨h, h'⟩ | ⟨h, h', h''⟩
  all_goals
    go_enter Try.func3, Try.ntmps3
    go_wp2_with fail
    refine (awake_any _).mono ?_
    rintro e w1 ⟨rfl, hb1⟩
    go_wp2_with fail
    go_ret
    exact ⟨rfl, hb1⟩
set_option maxHeartbeats 16000000 in
set_option maxRecDepth 100000 in
theorem dists_nan (b1 b2 b3 : Nat) (a1 a2 a3 : Option Addr) (c1 c2 c3 : Nat) (n : List (Int × Int)) (w : World) (h1 : Sv w b1 a1 c1 []) (h2 : Sv w b2 a2 c2 []) (h3 : Sv w b3 a3 c3 n) (hn : n.length ≤ 40) :
   Calls Try.prog 3 #[.slice a1 0 c1, .slice a2 0 c2, .slice a3 n.length c3] w fun e w' => e = .returned (.bool true) ∧ Below w.heap.size w w' := by
  have H1 := Lib.hid h1
  have H2 := Lib.hid h2
  have H3 := Lib.hid h3
  clear h1 h2 h3
  have q3 : ¬ 40 < n.length := by omega
  have e0 : lev (vs []) (vs []) = 0 := by rw [show vs [] = [] from rfl, lev_nil]; rfl
  have E0 := Lib.hid e0
  clear e0
  go_enter Try.func3, Try.ntmps3
  go_wp2_with fail
  refine (dist_any b1 b2 a1 a2 c1 c2 [] [] _ H1.out H2.out (by simp) (by simp)).mono ?_
  rintro e w1 ⟨rfl, hb1⟩
  rw [E0.out, show ((0 : Nat) : Int) = 0 from rfl]
  have HB1 := Lib.hid hb1
  clear hb1
  go_wp2_with fail
  refine (like_nan b1 b2 a1 a2 c1 c2 _ (H1.out.below HB1.out) (H2.out.below HB1.out)).mono ?_
  rintro e w2 ⟨x, rfl, hx, hb2⟩
  have HX := Lib.hid hx
  have HB2 : Hid (Below w.heap.size w w2) := HB1.out.trans (hb2.mono HB1.out.size)
  clear hb2 hx
  go_wp2_with fail
  refine (high_any _ _ _).mono ?_
  rintro e w3 ⟨rfl, rfl⟩
  rw [show max (0 : Int) 0 = 0 from rfl]
  go_wp2_with fail
  refine (values_any b1 a1 c1 [] _ (H1.out.below HB2.out).2.2.2 (by simp)).mono ?_
  rintro e w4 ⟨v4, rfl, ho4, hb4⟩
  obtain ⟨i4, k4, g4, rfl, _, _, _, hi4⟩ := own_il ho4 (vs_len []).symm
  have HI4 := Lib.hid hi4
  have HB4 : Hid (Below w.heap.size w w4) := HB2.out.trans (hb4.mono HB2.out.size)
  clear hb4 ho4 hi4
  go_wp2_with fail
  refine (values_any b2 a2 c2 [] _ (H2.out.below HB4.out).2.2.2 (by simp)).mono ?_
  rintro e w5 ⟨v5, rfl, ho5, hb5⟩
  obtain ⟨i5, k5, g5, rfl, _, _, _, hi5⟩ := own_il ho5 (vs_len []).symm
  have HI5 := Lib.hid hi5
  have HI45 := Lib.hid (HI4.out.below hb5)
  have HB5 : Hid (Below w.heap.size w w5) := HB4.out.trans (hb5.mono HB4.out.size)
  clear hb5 ho5 hi5
  go_wp2_with fail
  refine (ints_any g4 g5 i4 i5 k4 k5 (vs []) (vs []) _ HI45.out HI5.out (by simp [vs])).mono ?_
  rintro e w6 ⟨rfl, hb6⟩
  rw [show decide (vs [] = vs []) = true by simp]
  have HB6 : Hid (Below w.heap.size w w6) := HB5.out.trans (hb6.mono HB5.out.size)
  clear hb6
  go_wp2_with fail
  refine (rdist_any b1 b2 a1 a2 c1 c2 [] [] _ (H1.out.below HB6.out).2.2.2 (H2.out.below HB6.out).2.2.2 (by simp) (by simp)).mono ?_
  rintro e w7 ⟨rfl, hb7⟩
  rw [E0.out, show ((0 : Nat) : Int) = 0 from rfl]
  have HB7 : Hid (Below w.heap.size w w7) := HB6.out.trans (hb7.mono HB6.out.size)
  clear hb7
  go_wp2_with fail
  refine (dist_any b2 b1 a2 a1 c2 c1 [] [] _ (H2.out.below HB7.out) (H1.out.below HB7.out) (by simp) (by simp)).mono ?_
  rintro e w8 ⟨rfl, hb8⟩
  rw [E0.out, show ((0 : Nat) : Int) = 0 from rfl]
  have HB8 : Hid (Below w.heap.size w w8) := HB7.out.trans (hb8.mono HB7.out.size)
  clear hb8
  go_wp2_with fail
  refine (dist_any b1 b3 a1 a3 c1 c3 [] n _ (H1.out.below HB8.out) (H3.out.below HB8.out) (by simp) (by omega)).mono ?_
  rintro e w9 ⟨rfl, hb9⟩
  have HB9 : Hid (Below w.heap.size w w9) := HB8.out.trans (hb9.mono HB8.out.size)
  clear hb9
  have m1 := lev_max (vs []) (vs n)
  obtain ⟨d1, hd1⟩ : ∃ d, lev (vs []) (vs n) = d := ⟨_, rfl⟩
  rw [hd1] at m1 ⊢
  rw [vs_len, vs_len] at m1
  clear hd1
  go_wp2_with fail
  refine (dist_any b3 b2 a3 a2 c3 c2 n [] _ (H3.out.below HB9.out) (H2.out.below HB9.out) (by omega) (by simp)).mono ?_
  rintro e w10 ⟨rfl, hb10⟩
  have HB10 : Hid (Below w.heap.size w w10) := HB9.out.trans (hb10.mono HB9.out.size)
  clear hb10
  have m2 := lev_max (vs n) (vs [])
  obtain ⟨d2, hd2⟩ : ∃ d, lev (vs n) (vs []) = d := ⟨_, rfl⟩
  rw [hd2] at m2 ⊢
  rw [vs_len, vs_len] at m2
  clear hd2
  have k1 : (d1 : Int) ≤ 40 := by simp at m1; omega
  have k2 : (d2 : Int) ≤ 40 := by simp at m2; omega
  have k3 : ¬ (d1 : Int) + (d2 : Int) < 0 := by omega
  clear m1 m2
  go_wp2_with fail
  refine (awake_any _).mono ?_
  rintro e w11 ⟨rfl, hb11⟩
  have HB11 : Hid (Below w.heap.size w w11) := HB10.out.trans (hb11.mono HB10.out.size)
  clear hb11
  go_wp2_with fail
  refine (rshare_nan 0 0 quo_zero _).mono ?_
  rintro e w12 ⟨b, rfl, hnb, rfl⟩
  obtain ⟨y, hy, hq⟩ := run_float_nan (P := Try.prog) (w11.drew) .sub 25 oneF b (.inl rfl) (hnb.sub oneF)
  have HY := Lib.hid hy
  have ox := (HX.out.order x).1
  simp only [oneF] at hq
  clear hnb hy
  go_wp2_with fail
  refine (same_nan x y HX.out HY.out _).mono ?_
  rintro e w13 ⟨rfl, rfl⟩
  go_wp2_with fail
  go_ret
  exact ⟨rfl, HB11.out.drew.drew⟩
set_option maxHeartbeats 16000000 in
set_option maxRecDepth 100000 in
theorem dists_any (b1 b2 b3 : Nat) (a1 a2 a3 : Option Addr) (c1 c2 c3 : Nat) (l m n : List (Int × Int)) (w : World) (h1 : Sv w b1 a1 c1 l) (h2 : Sv w b2 a2 c2 m) (h3 : Sv w b3 a3 c3 n) (hl : l.length ≤ 40) (hm : m.length ≤ 40) (hn : n.length ≤ 40) :
   Calls Try.prog 3 #[.slice a1 l.length c1, .slice a2 m.length c2, .slice a3 n.length c3] w fun e w' => e = .returned (.bool true) ∧ Below w.heap.size w w' := by
  have H1 := Lib.hid h1
  have H2 := Lib.hid h2
  have H3 := Lib.hid h3
  clear h1 h2 h3
  have q1 : ¬ 40 < l.length := by omega
  have q2 : ¬ 40 < m.length := by omega
  have q3 : ¬ 40 < n.length := by omega
  have HTRI := Lib.hid (lev_tri (vs l) (vs m) (vs n))
  have HZ := Lib.hid (lev_zero (vs l) (vs m))
  have HMAX := Lib.hid (lev_max (vs l) (vs m))
  have HCOM := Lib.hid (lev_comm (vs m) (vs l))
  by_cases h0 : max l.length m.length = 0
  · obtain rfl : l = [] := List.eq_nil_of_length_eq_zero (by omega)
    obtain rfl : m = [] := List.eq_nil_of_length_eq_zero (by omega)
    exact dists_nan b1 b2 b3 a1 a2 a3 c1 c2 c3 n w H1.out H2.out H3.out hn
  · obtain ⟨r, x, hr, hx, ox, og, oc⟩ := like_bits (lev (vs l) (vs m)) (max l.length m.length) (by omega) (by omega) (by have := HMAX.out; rwa [vs_len, vs_len] at this)
    have HR := Lib.hid hr
    have HX := Lib.hid hx
    have HOX := Lib.hid ox
    have HOG := Lib.hid og
    have HOC := Lib.hid oc
    clear hr hx ox og oc
    go_enter Try.func3, Try.ntmps3
    go_wp2_with fail
    refine (dist_any b1 b2 a1 a2 c1 c2 l m _ H1.out H2.out (by omega) (by omega)).mono ?_
    rintro e w1 ⟨rfl, hb1⟩
    have HB1 := Lib.hid hb1
    clear hb1
    go_wp2_with fail
    refine (like_ok b1 b2 a1 a2 c1 c2 l m _ (H1.out.below HB1.out) (H2.out.below HB1.out) hl hm r x HR.out HX.out).mono ?_
    rintro e w2 ⟨rfl, hb2⟩
    have HB2 : Hid (Below w.heap.size w w2) := HB1.out.trans (hb2.mono HB1.out.size)
    clear hb2
    go_wp2_with fail
    refine (high_any _ _ _).mono ?_
    rintro e w3 ⟨rfl, rfl⟩
    have hmx : max (l.length : Int) (m.length : Int) = ((max l.length m.length : Nat) : Int) := by omega
    rw [hmx]
    clear hmx
    obtain ⟨N, hN⟩ : ∃ N, max l.length m.length = N := ⟨_, rfl⟩
    rw [hN] at HR ⊢
    have hN0 : ((N : Int) == 0) = false := by rw [beq_eq_false_iff_ne]; omega
    have HNN := Lib.hid hN
    clear hN h0
    go_wp2_with fail
    refine (values_any b1 a1 c1 l _ (H1.out.below HB2.out).2.2.2 (by omega)).mono ?_
    rintro e w4 ⟨v4, rfl, ho4, hb4⟩
    obtain ⟨i4, k4, g4, rfl, _, _, _, hi4⟩ := own_il ho4 (vs_len l).symm
    have HI4 := Lib.hid hi4
    have HB4 : Hid (Below w.heap.size w w4) := HB2.out.trans (hb4.mono HB2.out.size)
    clear hb4 ho4 hi4
    go_wp2_with fail
    refine (values_any b2 a2 c2 m _ (H2.out.below HB4.out).2.2.2 (by omega)).mono ?_
    rintro e w5 ⟨v5, rfl, ho5, hb5⟩
    obtain ⟨i5, k5, g5, rfl, _, _, _, hi5⟩ := own_il ho5 (vs_len m).symm
    have HI5 := Lib.hid hi5
    have HI45 := Lib.hid (HI4.out.below hb5)
    have HB5 : Hid (Below w.heap.size w w5) := HB4.out.trans (hb5.mono HB4.out.size)
    clear hb5 ho5 hi5
    go_wp2_with fail
    refine (ints_any g4 g5 i4 i5 k4 k5 (vs l) (vs m) _ HI45.out HI5.out (by rw [vs_len]; omega)).mono ?_
    rintro e w6 ⟨rfl, hb6⟩
    have HB6 : Hid (Below w.heap.size w w6) := HB5.out.trans (hb6.mono HB5.out.size)
    clear hb6
    go_wp2_with fail
    refine (rdist_any b1 b2 a1 a2 c1 c2 l m _ (H1.out.below HB6.out).2.2.2 (H2.out.below HB6.out).2.2.2 (by omega) (by omega)).mono ?_
    rintro e w7 ⟨rfl, hb7⟩
    have HB7 : Hid (Below w.heap.size w w7) := HB6.out.trans (hb7.mono HB6.out.size)
    clear hb7
    go_wp2_with fail
    refine (dist_any b2 b1 a2 a1 c2 c1 m l _ (H2.out.below HB7.out) (H1.out.below HB7.out) (by omega) (by omega)).mono ?_
    rintro e w8 ⟨rfl, hb8⟩
    have HB8 : Hid (Below w.heap.size w w8) := HB7.out.trans (hb8.mono HB7.out.size)
    clear hb8
    rw [HCOM.out]
    obtain ⟨d, hd⟩ : ∃ d, lev (vs l) (vs m) = d := ⟨_, rfl⟩
    rw [hd] at HR HTRI HMAX HZ ⊢
    have hsame : ((d : Int) == 0) = decide (vs l = vs m) := by
      have := HZ.out
      by_cases e : vs l = vs m
      · rw [decide_eq_true e, this.2 e]; rfl
      · rw [decide_eq_false e, beq_eq_false_iff_ne]
        intro h
        exact e (this.1 (by omega))
    clear hd
    go_wp2_with fail
    refine (dist_any b1 b3 a1 a3 c1 c3 l n _ (H1.out.below HB8.out) (H3.out.below HB8.out) (by omega) (by omega)).mono ?_
    rintro e w9 ⟨rfl, hb9⟩
    have HB9 : Hid (Below w.heap.size w w9) := HB8.out.trans (hb9.mono HB8.out.size)
    clear hb9
    have m1 := lev_max (vs l) (vs n)
    obtain ⟨d1, hd1⟩ : ∃ d, lev (vs l) (vs n) = d := ⟨_, rfl⟩
    rw [hd1] at HTRI m1 ⊢
    rw [vs_len, vs_len] at m1
    clear hd1
    go_wp2_with fail
    refine (dist_any b3 b2 a3 a2 c3 c2 n m _ (H3.out.below HB9.out) (H2.out.below HB9.out) (by omega) (by omega)).mono ?_
    rintro e w10 ⟨rfl, hb10⟩
    have HB10 : Hid (Below w.heap.size w w10) := HB9.out.trans (hb10.mono HB9.out.size)
    clear hb10
    have m2 := lev_max (vs n) (vs m)
    obtain ⟨d2, hd2⟩ : ∃ d, lev (vs n) (vs m) = d := ⟨_, rfl⟩
    rw [hd2] at HTRI m2 ⊢
    rw [vs_len, vs_len] at m2
    clear hd2
    have k1 : (d1 : Int) ≤ 40 := by omega
    have k2 : (d2 : Int) ≤ 40 := by omega
    have k3 : ¬ (d1 : Int) + (d2 : Int) < (d : Int) := by have := HTRI.out; omega
    clear m1 m2
    go_wp2_with fail
    refine (awake_any _).mono ?_
    rintro e w11 ⟨rfl, hb11⟩
    have HB11 : Hid (Below w.heap.size w w11) := HB10.out.trans (hb11.mono HB10.out.size)
    clear hb11
    have hq := fun (w : World) => run_float_arith (P := Try.prog) w .sub 25 .f64 _ _ _ HX.out
    have og := HOG.out
    have oc := HOC.out
    simp only [oneF] at hq oc
    go_wp2_with fail
    refine (rshare_ok _ _ r HR.out _).mono ?_
    rintro e w12 ⟨rfl, rfl⟩
    go_wp2_with fail
    refine (same_ok x HOX.out _).mono ?_
    rintro e w13 ⟨rfl, rfl⟩
    go_wp2_with fail
    go_ret
    exact ⟨rfl, HB11.out⟩
end Go.Proofs.Ytoblaooomphdoaa
