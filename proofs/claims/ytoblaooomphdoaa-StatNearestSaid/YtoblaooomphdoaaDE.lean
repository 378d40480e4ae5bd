/- The walk of StatNearest. -/
import Derived.Test.YtoblaooomphdoaaDC
namespace Go.Proofs.Ytoblaooomphdoaa
open Go.RowKit
set_option maxHeartbeats 1000000 in
set_option maxRecDepth 100000 in
theorem near_big (a1 ao : Option Addr) (n1 len c1 cap : Nat) (w : World) (h : 30 < n1 ∨ (¬ 30 < n1 ∧ 12 < len)) : Calls Try.prog 4 #[.slice a1 n1 c1, .slice ao len cap] w fun e w' => e = .returned (.bool true) ∧ Below w.heap.size w w' := by
  rcases h with h | ⟨h, h'⟩
  all_goals
    go_enter Try.func4, Try.ntmps4
    go_wp2_with fail
    refine (awake_any _).mono ?_
    rintro e w1 ⟨rfl, hb1⟩
    go_wp2_with fail
    go_ret
    exact ⟨rfl, hb1⟩
set_option maxHeartbeats 16000000 in
set_option maxRecDepth 100000 in
theorem near_any (b1 : Nat) (a1 ao : Option Addr) (c1 cap len : Nat) (x : List (Int × Int)) (L : Nat → List (Int × Int)) (w : World) (h1 : Sv w b1 a1 c1 x) (h2 : Lists w ao len L) (hx : x.length ≤ 30) (hlen : len ≤ 12) :
   Calls Try.prog 4 #[.slice a1 x.length c1, .slice ao len cap] w fun e w' => e = .returned (.bool true) ∧ Below w.heap.size w w' := by
  have H1 := Lib.hid h1
  have H2 := Lib.hid h2
  clear h1 h2
  have q1 : ¬ 30 < x.length := by omega
  have q2 : ¬ 12 < len := by omega
  go_enter Try.func4, Try.ntmps4
  go_wp2_with fail
  refine (nearest_any b1 a1 ao c1 cap len x L _ H1.out (by omega) H2.out (by omega)).mono ?_
  rintro e w1 ⟨p, rfl, hp, hb1⟩
  have HB1 := Lib.hid hb1
  clear hb1
  rcases hp with ⟨rfl, rfl⟩ | ⟨q, hq, rfl, hmin, hfirst⟩
  · go_wp2_with fail
    refine (awake_any _).mono ?_
    rintro e w2 ⟨rfl, hb2⟩
    have HB2 : Hid (Below w.heap.size w w2) := HB1.out.trans (hb2.mono HB1.out.size)
    clear hb2
    go_wp2_with fail
    go_ret
    exact ⟨rfl, HB2.out⟩
  · obtain ⟨c, off, rfl, hcw, hc⟩ := H2.out (by omega)
    obtain ⟨aq, cq, bq, g0, hsq, _⟩ := hc q hq
    have HSQ := Lib.hid hsq
    have HMIN := Lib.hid hmin
    have HFIRST := Lib.hid hfirst
    have HC := Lib.hid hc
    clear hmin hfirst hsq hc
    have g1 := (cellsBelow HB1.out c (off + q) hcw).trans g0
    have hs1 := HB1.out.size
    have hcw1 : c < w1.heap.size := by omega
    have hq' : (q : Int) < (len : Int) := by omega
    have hz : ((len : Int) == 0) = false := by rw [beq_eq_false_iff_ne]; omega
    have hl0 : (0 : Int) < (len : Int) := by omega
    by_cases hbq : 30 < (L q).length
    · have hbq' : (30 : Int) < ((L q).length : Int) := by omega
      go_wp2_with fail
      go_ret
      exact ⟨rfl, HB1.out⟩
    · have hbq' : ¬ (30 : Int) < ((L q).length : Int) := by omega
      go_wp2_with fail
      refine (rdist_any b1 bq a1 aq c1 cq x (L q) _ (H1.out.below HB1.out).2.2.2 (HSQ.out.below HB1.out).2.2.2 (by omega) (by omega)).mono ?_
      rintro e w2 ⟨rfl, hb2⟩
      have HB2 : Hid (Below w.heap.size w w2) := HB1.out.trans (hb2.mono HB1.out.size)
      obtain ⟨dq, hdq⟩ : ∃ d, lev (vs x) (vs (L q)) = d := ⟨_, rfl⟩
      rw [hdq]
      have HDQ := Lib.hid hdq
      clear hb2 g1 hs1 hcw1 hdq
      go_wp2_with fail
      go_loopw [7] (fun s wr => ∃ i : Nat, i ≤ len ∧ s = .int .i64 i ∧ Hid (Below w.heap.size w wr)) (fun s _ => len - (intOf s).toNat)
      case atStart => exact ⟨0, Nat.zero_le _, rfl, HB2⟩
      case round =>
        clear HB2
        obtain ⟨i, hi, rfl, hB⟩ := hrel
        by_cases hlt : i < len
        · obtain ⟨ai, ci, bi, t0, hsi, _⟩ := HC.out i hlt
          have HSI := Lib.hid hsi
          have t1 := (cellsBelow hB.out c (off + i) hcw).trans t0
          have hsr := hB.out.size
          have hcwr : c < wr.heap.size := by omega
          have hlt' : (i : Int) < (len : Int) := by omega
          clear hsi t0
          by_cases hbi : 30 < (L i).length
          · have hbi' : (30 : Int) < ((L i).length : Int) := by omega
            go_wp2_with fail
            go_ret
            exact ⟨rfl, hB.out⟩
          · have hbi' : ¬ (30 : Int) < ((L i).length : Int) := by omega
            go_wp2_with fail
            refine (rdist_any b1 bi a1 ai c1 ci x (L i) _ (H1.out.below hB.out).2.2.2 (HSI.out.below hB.out).2.2.2 (by omega) (by omega)).mono ?_
            rintro e w3 ⟨rfl, hb3⟩
            have HB3 : Hid (Below w.heap.size w w3) := hB.out.trans (hb3.mono hsr)
            have u1 : dq ≤ lev (vs x) (vs (L i)) := by rw [← HDQ.out]; exact HMIN.out i hlt
            have u2 : i < q → dq < lev (vs x) (vs (L i)) := fun h => by rw [← HDQ.out]; exact HFIRST.out i h
            obtain ⟨di, hdi⟩ : ∃ d, lev (vs x) (vs (L i)) = d := ⟨_, rfl⟩
            rw [hdi] at u1 u2 ⊢
            clear hdi hb3
            have k1 : ¬ (di : Int) < (dq : Int) := by omega
            by_cases hiq : i < q
            · have hiq' : (i : Int) < (q : Int) := by omega
              have k2 : ((di : Int) == (dq : Int)) = false := by rw [beq_eq_false_iff_ne]; have := u2 hiq; omega
              clear u1 u2
              go_wp2_with fail
              go_roundw
              case rel => exact ⟨i + 1, by omega, by go_num, HB3⟩
              case measure => simp [intOf]; omega
            · have hiq' : ¬ (i : Int) < (q : Int) := by omega
              clear u1 u2
              go_wp2_with fail
              go_roundw
              case rel => exact ⟨i + 1, by omega, by go_num, HB3⟩
              case measure => simp [intOf]; omega
        · go_wp2_with fail
          refine (awake_any _).mono ?_
          rintro e w3 ⟨rfl, hb3⟩
          have HB3 : Hid (Below w.heap.size w w3) := hB.out.trans (hb3.mono hB.out.size)
          clear hb3
          go_wp2_with fail
          go_ret
          exact ⟨rfl, HB3.out⟩
end Go.Proofs.Ytoblaooomphdoaa
