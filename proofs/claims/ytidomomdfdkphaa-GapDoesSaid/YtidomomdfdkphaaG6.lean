/- The gap buffer's Move whole, and Set. -/
import Derived.Test.YtidomomdfdkphaaG5
namespace Go.Proofs.Ytidomomdfdkphaa
open Go.RowKit
/-- A place that is handed in, of so many signs. -/
def plc (n : Nat) (p : Int) : Nat := (min (max p 0) n).toNat
theorem plc_le (n : Nat) (p : Int) : plc n p ≤ n := by unfold plc; omega
def MovePost (g bb : Nat) (A C : List (Int × Int)) (most k : Nat) (w : World) (e : Ending) (w' : World) : Prop :=
  e = Ending.returned (.tuple #[]) ∧ ∃ M', Gp w' g bb ((A ++ C).take k) M' ((A ++ C).drop k) most ∧ Keep (fun k => k = g ∨ k = bb) w w'
theorem move_any (g bb : Nat) (A M C : List (Int × Int)) (most : Nat) (p : Int) (w : World) (h : Gp w g bb A M C most) :
   Calls Try.prog 8 #[.pointer (some ⟨g, 0, none⟩), .int .i64 p] w (MovePost g bb A C most (plc (A.length + C.length) p) w) := by
  by_cases hk : plc (A.length + C.length) p < A.length
  · have hA : A = A.take (plc (A.length + C.length) p) ++ A.drop (plc (A.length + C.length) p) := (List.take_append_drop _ _).symm
    rw [hA] at h
    have hlt : (A.take (plc (A.length + C.length) p)).length = plc (A.length + C.length) p := by simp; omega
    refine (move_left_any g bb _ _ M C most p w h (by simp; omega) (by rw [hlt]; unfold plc at *; omega)).mono ?_
    rintro e w' ⟨rfl, h1, h2⟩
    rw [← List.take_append_of_le_length (l₂ := C) (show plc (A.length + C.length) p ≤ A.length by omega), ← List.drop_append_of_le_length (l₂ := C) (show plc (A.length + C.length) p ≤ A.length by omega)] at h1
    exact ⟨rfl, _, h1, h2⟩
  · have hle := plc_le (A.length + C.length) p
    have hC : C = C.take (plc (A.length + C.length) p - A.length) ++ C.drop (plc (A.length + C.length) p - A.length) := (List.take_append_drop _ _).symm
    have h0 := h
    rw [hC] at h
    have hlt : (C.take (plc (A.length + C.length) p - A.length)).length = plc (A.length + C.length) p - A.length := by simp; omega
    have hld : (C.drop (plc (A.length + C.length) p - A.length)).length = C.length - (plc (A.length + C.length) p - A.length) := by simp
    refine (move_right_any g bb A M _ _ most p w h (by rw [hlt, hld]; unfold plc at *; omega)).mono ?_
    rintro e w' ⟨rfl, h1, h2⟩
    have e1 : (A ++ C).take (plc (A.length + C.length) p) = A ++ C.take (plc (A.length + C.length) p - A.length) := by
      rw [List.take_append, List.take_of_length_le (by omega)]
    have e2 : (A ++ C).drop (plc (A.length + C.length) p) = C.drop (plc (A.length + C.length) p - A.length) := by
      rw [List.drop_append, List.drop_eq_nil_of_le (by omega), List.nil_append]
    exact ⟨rfl, _, by rw [e1, e2]; exact h1, h2⟩
set_option maxHeartbeats 400000 in
theorem move_nil (p : Int) (w : World) : Calls Try.prog 8 #[.pointer none, .int .i64 p] w fun e w' => e = .returned (.tuple #[]) ∧ w' = w := by
  go_enter Try.func8, Try.ntmps8
  go_wp2
  exact bodyPost_ret (results_none rfl _ _ _) rfl ⟨rfl, rfl⟩
set_option maxHeartbeats 400000 in
theorem set_nil (a : Value) (p : Int) (w : World) : Calls Try.prog 11 #[.pointer none, a, .int .i64 p] w fun e w' => e = .returned (.int .i64 1) ∧ w' = w := by
  go_enter Try.func11, Try.ntmps11
  go_wp2
  go_ret
  exact ⟨rfl, rfl⟩
set_option maxHeartbeats 1000000 in
theorem set_bad (g b : Nat) (ao : Option Addr) (cap : Nat) (l : List (Int × Int)) (p : Int) (w : World) (hs : Sl w b ao l) (hl : l.length ≤ 1000000) (hr : l.all rs = false) :
   Calls Try.prog 11 #[.pointer (some ⟨g, 0, none⟩), .slice ao l.length cap, .int .i64 p] w fun e w' => e = .returned (.int .i64 2) ∧ Below w.heap.size w w' := by
  have HS := Lib.hid hs
  have HR := Lib.hid hr
  clear hs hr
  go_enter Try.func11, Try.ntmps11
  go_wp2_with fail
  refine (check_any b ao cap l _ HS.out hl).mono ?_
  rintro e w2 ⟨rfl, hb⟩
  have hc : chk l = 2 := by simp [chk, HR.out]
  rw [hc]
  clear hc
  go_wp2_with fail
  go_ret
  exact ⟨rfl, hb⟩
set_option maxHeartbeats 1000000 in
theorem set_full (g bb b : Nat) (ao : Option Addr) (cap : Nat) (l A M C : List (Int × Int)) (most : Nat) (p : Int) (w : World) (h : Gp w g bb A M C most) (hs : Sl w b ao l) (hl : l.length ≤ 1000000) (hr : l.all rs = true) (hf : most < l.length) :
   Calls Try.prog 11 #[.pointer (some ⟨g, 0, none⟩), .slice ao l.length cap, .int .i64 p] w fun e w' => e = .returned (.int .i64 8) ∧ Below w.heap.size w w' := by
  have HS := Lib.hid hs
  have HR := Lib.hid hr
  have HG := Lib.hid h
  clear hs hr
  obtain ⟨h1, h2, _⟩ := h
  go_enter Try.func11, Try.ntmps11
  go_wp2_with fail
  refine (check_any b ao cap l _ HS.out hl).mono ?_
  rintro e w2 ⟨rfl, hb⟩
  have hc : chk l = 0 := by simp [chk, HR.out]
  rw [hc]
  clear hc
  have HG2 := Lib.hid (HG.out.below hb)
  obtain ⟨_, _, ao', hg2, _⟩ := HG2.out
  have k3 := hg2.cell 3
  simp at k3
  clear hg2
  have hfull : decide ((most : Int) < l.length) = true := by simp; omega
  go_wp2_with fail
  go_ret
  exact ⟨rfl, hb⟩
/-- The whole row becomes the gap. -/
theorem gp_clear {w : World} {g bb : Nat} {A M C : List (Int × Int)} {most : Nat} (h : Gp w g bb A M C most) : Gp ((w.setCell ⟨g, 1, none⟩ (.int .i64 0)).setCell ⟨g, 2, none⟩ (.int .i64 (A.length + M.length + C.length : Nat))) g bb [] (A ++ (M ++ C)) [] most := by
  obtain ⟨h1, h2, ao, hg, hc⟩ := h
  have e0 : A.length + M.length + C.length = ([] : List (Int × Int)).length + (A ++ (M ++ C)).length + ([] : List (Int × Int)).length := by simp; omega
  have e1 : A.length + M.length + C.length = ([] : List (Int × Int)).length + (A ++ (M ++ C)).length := by simp; omega
  refine ⟨by rw [← e0]; exact h1, h2, ao, ?_, ?_⟩
  · have := (hg.set 1 (.int .i64 0)).set 2 (.int .i64 (A.length + M.length + C.length : Nat))
    rw [← e0, ← e1]
    exact this
  · rcases hc with h | ⟨a, b, c⟩
    · exact .inl ⟨h.1, by rw [← e0]; exact h.2⟩
    · refine .inr ⟨a, b, ?_⟩
      have := (c.other (a := ⟨g, 1, none⟩) (.int .i64 0) (fun e => b e.symm)).other (a := ⟨g, 2, none⟩) (.int .i64 (A.length + M.length + C.length : Nat)) (fun e => b e.symm)
      simpa using this
set_option maxHeartbeats 4000000 in
set_option maxRecDepth 100000 in
theorem set_ok (g bb b : Nat) (ao : Option Addr) (cap : Nat) (l A M C : List (Int × Int)) (most : Nat) (p : Int) (w : World) (h : Gp w g bb A M C most) (hs : Sl w b ao l) (hbg : b ≠ g) (hl : l.length ≤ 100000) (hr : l.all rs = true) (hf : l.length ≤ most) :
   Calls Try.prog 11 #[.pointer (some ⟨g, 0, none⟩), .slice ao l.length cap, .int .i64 p] w (InsPost g bb (l.take (plc l.length p)) (l.drop (plc l.length p)) most w) := by
  have HS := Lib.hid hs
  have HR := Lib.hid hr
  have HG := Lib.hid h
  have hglt := h.lt
  clear hs hr
  obtain ⟨h1, h2, _⟩ := h
  go_enter Try.func11, Try.ntmps11
  go_wp2_with fail
  refine (check_any b ao cap l _ HS.out (by omega)).mono ?_
  rintro e w2 ⟨rfl, hb⟩
  have hc : chk l = 0 := by simp [chk, HR.out]
  rw [hc]
  clear hc
  have HG2 := Lib.hid (HG.out.below hb)
  have HS2 := Lib.hid (HS.out.below hb)
  have HB := Lib.hid hb
  have hglt2 : g < w2.heap.size := Nat.lt_of_lt_of_le hglt hb.size
  clear hb
  obtain ⟨_, _, ao', hg2, _⟩ := HG2.out
  have k0 := hg2.cell 0
  have k1 := hg2.cell 1
  have k2 := hg2.cell 2
  have k3 := hg2.cell 3
  have kf := hg2.free
  simp at k0 k1 k2 k3
  clear hg2
  have hfull : decide ((most : Int) < l.length) = false := by simp; omega
  go_wp2_with fail
  rw [show (A.length : Int) + M.length + C.length = ((A.length + M.length + C.length : Nat) : Int) by omega]
  obtain ⟨w3, hw3⟩ : ∃ w3, w3 = (w2.setCell ⟨g, 1, none⟩ (.int .i64 0)).setCell ⟨g, 2, none⟩ (.int .i64 (A.length + M.length + C.length : Nat)) := ⟨_, rfl⟩
  rw [← hw3]
  have HG3 : Hid (Gp w3 g bb [] (A ++ (M ++ C)) [] most) := by show Gp _ _ _ _ _ _ _; rw [hw3]; exact gp_clear HG2.out
  have HK3 : Hid (Keep (· = g) w2 w3) := by show Keep _ _ _; rw [hw3]; exact Keep.setCell (S := (· = g)) (Keep.setCell (S := (· = g)) (Keep.refl _ _) _ (.inl (show g = g from rfl))) _ (.inl (show g = g from rfl))
  have HS3 : Hid (Sl w3 b ao l) := HS2.out.keep HK3.out hbg
  have HZ3 : Hid (w3.heap.size = w2.heap.size) := by show _ = _; rw [hw3]; simp
  clear k0 k1 k2 k3 kf hfull hw3
  refine (roomf_any g _).mono ?_
  rintro e w4 ⟨rfl, hw4⟩
  have HB4 : Hid (Below w3.heap.size w3 w4) := by
    show Below _ _ _
    rw [← hw4]; exact (Below.refl _ _).alloc (Nat.le_refl _) _
  have HC4 : Hid (w4.cell? ⟨w3.heap.size, 0, none⟩ = some (.pointer (some ⟨g, 0, none⟩))) := by
    show _ = _
    rw [← hw4]; exact (Blk.new w3 _ _).cell 0
  have HZ4 : Hid (w4.heap.size = w3.heap.size + 1) := by show _ = _; rw [← hw4]; simp
  clear hw4
  go_wp2_with fail
  have hz4 := HZ4.out
  have hz3 := HZ3.out
  refine (room_any g bb w3.heap.size [] (A ++ (M ++ C)) [] most l.length w4 (HG3.out.below HB4.out) HC4.out (by omega) (by omega) (by simpa using hf)).mono ?_
  clear hz3 hz4
  rintro e w5 ⟨rfl, bb', M', hM, hb', hg5, hk5⟩
  have HS5 : Hid (Sl w5 b ao l) := (HS3.out.below HB4.out).keep hk5 hbg
  have HK5 := Lib.hid hk5
  clear hk5
  obtain ⟨h3, h4, ao', hg, hc⟩ := hg5
  simp only [List.length_nil, Nat.zero_add, Nat.add_zero] at h3 hg hc
  have HGB := Lib.hid hg
  have HC := Lib.hid hc
  have c0 := hg.cell 0
  simp at c0
  have HB' := Lib.hid hb'
  clear hg hc hb'
  go_upto_region 9 with (fail)
  go_cut [] (fun wx => Hid (Gp wx g bb' [] (l ++ M'.drop l.length) [] most) ∧ Hid (Keep (fun k => k = bb' ∨ k = g) w5 wx))
  case first =>
    rcases HC.out with ⟨rfl, h0⟩ | ⟨rfl, hne, hB⟩
    · obtain rfl : l = [] := List.eq_nil_of_length_eq_zero (by omega)
      have HB0 := Lib.hid h0
      clear h0
      go_wp2_with (refine wpList_copy2 rfl (.tmp 38) (.tmp 39) 22 22 rfl 28 2 Try.underlying22 sz28 (by decide) _ _ _ _ _ _ rfl rfl g 0 _ 56 (show Blk w5 g #[_, _, _, _] _ from HGB.out) [] ?n1 ?n2 ?n3 ?n4 ?n5)
      case n5 =>
        intro w6 hb6 hk6
        go_wp2_with fail
        go_meet
        refine ⟨?_, ?_⟩
        · refine ⟨by simpa using h3, h4, none, ?_, .inl ⟨rfl, by simpa using HB0.out⟩⟩
          have := hb6.out
          rw [splice_nil] at this
          simpa using this
        · exact hk6.out.mono (fun k _ h => .inr h)
    · have HBB : Hid (Blk w5 bb' (sg M').toArray 28) := by
        show Blk _ _ _ _
        simpa using hB
      clear hB
      go_wp2_with (refine wpList_copy2 rfl (.tmp 38) (.tmp 39) 22 22 rfl 28 2 Try.underlying22 sz28 (by decide) _ _ _ _ _ _ rfl rfl bb' 0 _ 28 HBB.out (sg l) ?m1 ?m2 ?m3 (sg_one l) ?m5)
      case m1 => exact sg_len l
      case m2 =>
        intro hp
        rw [sg_len] at hp
        obtain ⟨_, off, rfl, hcell⟩ := HS5.out (by omega)
        refine ⟨_, rfl, fun j v hj => ?_⟩
        rw [addr_add]; exact hcell j v hj
      case m3 => rw [sg_len, sg_len]; omega
      case m5 =>
        intro w6 hb6 hk6
        have hb7 : Hid (Blk w6 bb' (sg (l ++ (M'.drop l.length))).toArray 28) := by
          have e := ins_sp (A := []) (C := []) hM
          have h6 := hb6.out
          have e2 := splice_sg M' l 0
          rw [Nat.zero_mul] at e2
          rw [e2] at h6
          simp only [List.nil_append, List.append_nil, List.length_nil] at e
          rw [e] at h6
          exact h6
        clear hb6
        go_wp2_with fail
        go_meet
        refine ⟨?_, ?_⟩
        · refine gp_mk ?_ h4 hne (hk6.out.blk HGB.out (by omega)) hb7.out ?_ rfl ?_ ?_
          · simp; omega
          · simp; omega
          · simp; omega
          · simp
        · exact hk6.out.mono (fun k _ h => .inl h)
  case rest =>
    obtain ⟨hg6, hk6⟩ := hcut
    clear c0
    obtain ⟨_, _, _, hg6', _⟩ := hg6.out
    have c1 := hg6'.cell 1
    have cf := hg6'.free
    simp at c1
    clear hg6'
    go_upto_region 11 with (fail)
    obtain ⟨w7, hw7⟩ : ∃ w7, w7 = wc.setCell ⟨g, 1, none⟩ (.int .i64 l.length) := ⟨_, rfl⟩
    rw [← hw7]
    have HG7 : Hid (Gp w7 g bb' l (M'.drop l.length) [] most) := by
      show Gp _ _ _ _ _ _ _
      rw [hw7]
      have := gp_push hg6.out
      simpa using this
    have HK7 : Hid (Keep (· = g) wc w7) := by show Keep _ _ _; rw [hw7]; exact Keep.setCell (S := (· = g)) (Keep.refl _ _) _ (.inl (show g = g from rfl))
    clear hw7 c1 cf
    go_wp2_with fail
    refine (move_any g bb' l _ [] most p w7 HG7.out).mono ?_
    rintro e w8 ⟨rfl, M8, hg8, hk8⟩
    have HG8 := Lib.hid hg8
    have HK8 := Lib.hid hk8
    clear hg8 hk8
    go_wp2_with fail
    go_ret
    have hz4 := HZ4.out
    have hz3 := HZ3.out
    have hz2 := HB.out.size
    have hS : ∀ i, (i = bb' ∨ i = g) → (i = g ∨ i = bb) ∨ w.heap.size ≤ i := by
      intro i h
      rcases h with h | h
      · subst h
        rcases HB'.out with h | h
        · exact .inl (.inr h)
        · right; omega
      · exact .inl (.inl h)
    refine ⟨rfl, bb', M8, ?_, ?_, ?_⟩
    · rcases HB'.out with h | h
      · exact .inl h
      · right; omega
    · have := HG8.out
      simpa using this
    · refine ((((((Keep.of_below HB.out).step HK3.out (fun i h => .inl (.inl h))).step (Keep.of_below (S := fun _ => False) HB4.out) (fun _ h => h.elim)).step HK5.out (fun i h => .inl (.inl h))).step hk6.out hS).step HK7.out (fun i h => .inl (.inl h))).step HK8.out (fun i h => hS i h.symm)
end Go.Proofs.Ytidomomdfdkphaa
