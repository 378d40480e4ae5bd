/- The gap buffer's Cut. -/
import Derived.Test.YtidomomdfdkphaaG7
namespace Go.Proofs.Ytidomomdfdkphaa
open Go.RowKit
theorem gp_left {w : World} {g bb : Nat} {A1 A2 M C : List (Int × Int)} {most : Nat} (h : Gp w g bb (A1 ++ A2) M C most) : Gp (w.setCell ⟨g, 1, none⟩ (.int .i64 A1.length)) g bb A1 (A2 ++ M) C most := by
  obtain ⟨h1, h2, ao, hg, hc⟩ := h
  have e0 : (A1 ++ A2).length + M.length + C.length = A1.length + (A2 ++ M).length + C.length := by simp; omega
  have e1 : (A1 ++ A2).length + M.length = A1.length + (A2 ++ M).length := by simp; omega
  rw [e0] at h1 hg hc
  rw [e1] at hg
  refine ⟨h1, h2, ao, hg.set 1 (.int .i64 A1.length), ?_⟩
  rcases hc with h | ⟨a, b, c⟩
  · exact .inl h
  · refine .inr ⟨a, b, ?_⟩
    have := c.other (a := ⟨g, 1, none⟩) (.int .i64 A1.length) (fun e => b e.symm)
    simpa using this
theorem gp_right {w : World} {g bb : Nat} {A M C1 C2 : List (Int × Int)} {most : Nat} (h : Gp w g bb A M (C1 ++ C2) most) : Gp (w.setCell ⟨g, 2, none⟩ (.int .i64 (A.length + M.length + C1.length : Nat))) g bb A (M ++ C1) C2 most := by
  obtain ⟨h1, h2, ao, hg, hc⟩ := h
  have e0 : A.length + M.length + (C1 ++ C2).length = A.length + (M ++ C1).length + C2.length := by simp; omega
  have e1 : A.length + M.length + C1.length = A.length + (M ++ C1).length := by simp; omega
  rw [e0] at h1 hg hc
  rw [e1]
  refine ⟨h1, h2, ao, hg.set 2 (.int .i64 (A.length + (M ++ C1).length : Nat)), ?_⟩
  rcases hc with h | ⟨a, b, c⟩
  · exact .inl h
  · refine .inr ⟨a, b, ?_⟩
    have := c.other (a := ⟨g, 2, none⟩) (.int .i64 (A.length + (M ++ C1).length : Nat)) (fun e => b e.symm)
    simpa using this
theorem cut_nil (n : Int) (w : World) : Calls Try.prog 14 #[.pointer none, .int .i64 n] w fun e w' => e = .returned (.slice none 0 0) ∧ w' = w := by
  go_enter Try.func14, Try.ntmps14
  go_wp2
  go_ret
  exact ⟨rfl, rfl⟩
theorem sl_src {w : World} {b : Nat} {D : Option Addr} {l : List (Int × Int)} (h : Sl w b D l) (h0 : 0 < l.length) : ∃ ad, D = some ad ∧ ∀ j v, (sg l)[j]? = some v → w.cell? (ad.add j) = some v := by
  obtain ⟨_, off, h1, h2⟩ := h h0
  exact ⟨_, h1, fun j v hj => by rw [addr_add]; exact h2 j v hj⟩
theorem sl_map {w : World} {bb off : Nat} {L X Y Z : List (Int × Int)} (h : Blk w bb (sg L).toArray 28) (hL : L = X ++ (Y ++ Z)) (ho : off = X.length * 2) : Sl w bb (Option.map (fun x => x.add off) (some (⟨bb, 0, none⟩ : Addr))) Y := by
  intro h0
  refine ⟨h.lt, off, ?_, fun j u hj => ?_⟩
  · show some (Addr.add _ _) = _
    rw [addr_add, Nat.zero_add]
  · have := blk_src h hL ho j u hj
    rw [addr_add] at this
    exact this
theorem sl_part {w : World} {bb g n off : Nat} {ao : Option Addr} {L X Y Z : List (Int × Int)} (h : (ao = none ∧ n = 0) ∨ (ao = some ⟨bb, 0, none⟩ ∧ bb ≠ g ∧ Blk w bb (sg L).toArray 28)) (hn : Y.length ≤ n) (hL : L = X ++ (Y ++ Z)) (ho : off = X.length * 2) : Sl w bb (Option.map (fun x => x.add off) ao) Y := by
  rcases h with ⟨_, h⟩ | ⟨rfl, _, hb⟩
  · intro h0; omega
  · exact sl_map hb hL ho
def CutPost (g bb : Nat) (A C L : List (Int × Int)) (most : Nat) (w : World) (e : Ending) (w' : World) : Prop :=
  e = .returned (.slice (some ⟨w.heap.size, 0, none⟩) L.length L.length) ∧ Blk w' w.heap.size (sg L).toArray 28 ∧ (∃ M', Gp w' g bb A M' C most) ∧ Keep (· = g) w w'
set_option maxHeartbeats 4000000 in
set_option maxRecDepth 100000 in
theorem cut_left (g bb : Nat) (A1 A2 M C : List (Int × Int)) (most : Nat) (n : Int) (w : World) (h : Gp w g bb (A1 ++ A2) M C most) (hn : n < 0) (hk : max n (-(A1.length + A2.length : Nat)) = -(A2.length : Int)) :
   Calls Try.prog 14 #[.pointer (some ⟨g, 0, none⟩), .int .i64 n] w (CutPost g bb A1 C A2 most w) := by
  have HG := Lib.hid h
  have hglt := h.lt
  obtain ⟨hs, hmo, ao, hg, hc⟩ := h
  have hl : (A1 ++ A2).length = A1.length + A2.length := by simp
  rw [hl] at hs hg hc
  have HC := Lib.hid hc
  have c0 := hg.cell 0
  have c1 := hg.cell 1
  have cf := hg.free
  simp at c0 c1
  have HK := Lib.hid hk
  clear hg hc hl hk
  go_enter Try.func14, Try.ntmps14
  go_upto_region 5 with (fail)
  go_cut [1] (fun s1 wx => s1 = .int .i64 (-(A2.length : Int)) ∧ wx = w)
  case first =>
    have hk := HK.out
    go_wp2_with fail
    all_goals
      go_meet
      exact ⟨congrArg (Value.int .i64) (by omega), rfl⟩
  case rest =>
    obtain ⟨rfl, rfl⟩ := hcut
    go_upto_region 6 with (fail)
    go_cut [1, 5] (fun s1 s5 wx => s1 = .int .i64 (-(A2.length : Int)) ∧ ∃ D c q, s5 = .slice D A2.length c ∧ wx = wc.drewN q ∧ Hid (Sl wc bb D A2))
    case first =>
      have hsb : (A1.length : Int) + A2.length + -(A2.length : Int) = A1.length := by omega
      have hwr : IntKind.i64.wrap ((A1.length : Int) + A2.length + -(A2.length : Int)) = A1.length := by rw [IntKind.wrap_i64]; omega
      have hcd1 : (A1.length : Int) ≤ (A1.length : Int) + A2.length := by omega
      have hcd2 : (A1.length : Int) + A2.length ≤ (A1.length : Int) + A2.length + M.length + C.length := by omega
      have htn : ((A1.length : Int) + A2.length).toNat = A1.length + A2.length := by omega
      have hln : A1.length + A2.length - A1.length = A2.length := by omega
      go_quiet (fail)
      go_wp2_with fail
      · go_meet
        have hA : A2 = [] := by assumption
        exact ⟨by rw [hA]; rfl, ao, 0, _, by rw [hA]; rfl, rfl, by rw [hA]; exact Sl.nil _ _ _⟩
      · go_meet
        exact ⟨rfl, _, _, _, rfl, rfl, sl_part HC.out (by omega) (List.append_assoc _ _ _) rfl⟩
    case rest =>
      obtain ⟨rfl, D, c, q, rfl, rfl, hsl⟩ := hcut
      go_upto_region 11 with (fail)
      rw [show (A1.length : Int) + A2.length + -(A2.length : Int) = A1.length by omega]
      obtain ⟨w2, hw2⟩ : ∃ w2, w2 = (wc.drewN q).setCell ⟨g, 1, none⟩ (.int .i64 A1.length) := ⟨_, rfl⟩
      rw [← hw2]
      have HG2 : Hid (Gp w2 g bb A1 (A2 ++ M) C most) := by show Gp _ _ _ _ _ _ _; rw [hw2]; exact gp_left (gp_drew HG.out q)
      have HK2 : Hid (Keep (· = g) wc w2) := by show Keep _ _ _; rw [hw2]; exact Keep.setCell (S := (· = g)) (keep_drewN _ _) _ (.inl (show g = g from rfl))
      have HZ2 : Hid (w2.heap.size = wc.heap.size) := by show _ = _; rw [hw2]; simp
      have HS2 : Hid (Sl w2 bb D A2) := by
        intro h0
        have hne : bb ≠ g := by
          rcases HC.out with ⟨_, h⟩ | ⟨_, h, _⟩
          · omega
          · exact h
        exact hsl.out.keep HK2.out hne h0
      clear hw2 c0 c1 cf
      go_cut [6] (fun s6 wx => s6 = .slice (some ⟨wc.heap.size, 0, none⟩) A2.length A2.length ∧ Hid (Blk wx wc.heap.size (sg (zs A2.length)).toArray 28) ∧ Hid (Below w2.heap.size w2 wx))
      case first =>
        go_wp2_with (refine wpList_make_blk _ rfl (.tmp 87) (.tmp 87) 22 rfl 28 (.agg #[.int .i64 0, .int .i64 0]) 2 16 Try.underlying22 info28 .i64 .i64 _ _ A2.length A2.length rfl rfl rfl rfl (Nat.le_refl _) (by omega) (by unfold maxLen; omega) ?c3)
        case c3 =>
          intro w3 hb3 hbl3 hsz3
          rw [HZ2.out] at hb3
          rw [HZ2.out]
          go_wp2_with fail
          go_meet
          refine ⟨rfl, ?_, hbl3⟩
          rw [← made_zs]; exact hb3
      case rest =>
        obtain ⟨rfl, hb3, hbl3⟩ := hcut
        have HS3 := Lib.hid (HS2.out.below hbl3.out)
        go_wp2_with (refine wpList_copy2 rfl (.tmp 89) (.tmp 90) 22 22 rfl 28 2 Try.underlying22 sz28 (by decide) _ _ _ _ _ _ rfl rfl _ 0 _ 28 hb3.out (sg A2) ?m1 ?m2 ?m3 (sg_one A2) ?m5)
        case m1 => exact (sg_len _).trans (congrArg (· * 2) (Nat.min_self _).symm)
        case m2 => exact fun hp => sl_src HS3.out (by rw [sg_len] at hp; omega)
        case m3 => rw [sg_len, sg_len, zs_len]; omega
        case m5 =>
          intro w6 hb6 hk6
          go_wp2_with fail
          have hz2 := HZ2.out
          have hbl6 : Below w2.heap.size w2 w6 := Keep.onto hbl3.out hk6.out hbl3.out.size (by intro k hk; have h' : k = _ := hk; omega)
          have hb7 := hb6.out
          rw [room_sp1 (Nat.le_refl _), Nat.sub_self, show zs 0 = [] from rfl, List.append_nil] at hb7
          go_ret
          exact ⟨rfl, hb7, ⟨_, HG2.out.below hbl6⟩, HK2.out.step (Keep.of_below (S := fun _ => False) hbl6) (fun _ h => h.elim)⟩
set_option maxHeartbeats 4000000 in
set_option maxRecDepth 100000 in
theorem cut_right (g bb : Nat) (A M C1 C2 : List (Int × Int)) (most : Nat) (n : Int) (w : World) (h : Gp w g bb A M (C1 ++ C2) most) (hn : ¬ n < 0) (hk : min n (C1.length + C2.length : Nat) = (C1.length : Int)) :
   Calls Try.prog 14 #[.pointer (some ⟨g, 0, none⟩), .int .i64 n] w (CutPost g bb A C2 C1 most w) := by
  have HG := Lib.hid h
  have hglt := h.lt
  obtain ⟨hs, hmo, ao, hg, hc⟩ := h
  have hl : (C1 ++ C2).length = C1.length + C2.length := by simp
  rw [hl] at hs hg hc
  have HC := Lib.hid hc
  have c0 := hg.cell 0
  have c2 := hg.cell 2
  have cf := hg.free
  simp at c0 c2
  have HK := Lib.hid hk
  clear hg hc hl hk
  go_enter Try.func14, Try.ntmps14
  go_upto_region 8 with (fail)
  go_cut [1] (fun s1 wx => s1 = .int .i64 (C1.length : Int) ∧ ∃ q, wx = w.drewN q)
  case first =>
    have hk := HK.out
    go_quiet (fail)
    go_wp2_with fail
    all_goals
      go_meet
      exact ⟨congrArg (Value.int .i64) (by omega), _, rfl⟩
  case rest =>
    obtain ⟨rfl, q0, rfl⟩ := hcut
    go_upto_region 9 with (fail)
    go_cut [1, 5] (fun s1 s5 wx => s1 = .int .i64 (C1.length : Int) ∧ ∃ D c q, s5 = .slice D C1.length c ∧ wx = w.drewN q ∧ Hid (Sl w bb D C1))
    case first =>
      have hwr : IntKind.i64.wrap ((A.length : Int) + M.length + C1.length) = (A.length : Int) + M.length + C1.length := by rw [IntKind.wrap_i64]; omega
      have hcd1 : (0 : Int) ≤ (A.length : Int) + M.length := by omega
      have hcd2 : (A.length : Int) + M.length ≤ (A.length : Int) + M.length + C1.length := by omega
      have hcd3 : (A.length : Int) + M.length + C1.length ≤ (A.length : Int) + M.length + (C1.length + C2.length) := by omega
      have htn1 : ((A.length : Int) + M.length).toNat = A.length + M.length := by omega
      have htn2 : ((A.length : Int) + M.length + C1.length).toNat = A.length + M.length + C1.length := by omega
      have hln : A.length + M.length + C1.length - (A.length + M.length) = C1.length := by omega
      go_quiet (fail)
      go_wp2_with fail
      · go_meet
        have hA : C1 = [] := by assumption
        exact ⟨by rw [hA]; rfl, ao, 0, _, by rw [hA]; rfl, rfl, by rw [hA]; exact Sl.nil _ _ _⟩
      · go_meet
        exact ⟨rfl, _, _, _, rfl, rfl, sl_part (X := A ++ M) (Z := C2) HC.out (by omega) (by simp) (by simp)⟩
    case rest =>
      obtain ⟨rfl, D, c, q, rfl, rfl, hsl⟩ := hcut
      go_upto_region 11 with (fail)
      rw [show (A.length : Int) + M.length + C1.length = ((A.length + M.length + C1.length : Nat) : Int) by omega]
      obtain ⟨w2, hw2⟩ : ∃ w2, w2 = (w.drewN q).setCell ⟨g, 2, none⟩ (.int .i64 (A.length + M.length + C1.length : Nat)) := ⟨_, rfl⟩
      rw [← hw2]
      have HG2 : Hid (Gp w2 g bb A (M ++ C1) C2 most) := by show Gp _ _ _ _ _ _ _; rw [hw2]; exact gp_right (gp_drew HG.out q)
      have HK2 : Hid (Keep (· = g) w w2) := by show Keep _ _ _; rw [hw2]; exact Keep.setCell (S := (· = g)) (keep_drewN _ _) _ (.inl (show g = g from rfl))
      have HZ2 : Hid (w2.heap.size = w.heap.size) := by show _ = _; rw [hw2]; simp
      have HS2 : Hid (Sl w2 bb D C1) := by
        intro h0
        have hne : bb ≠ g := by
          rcases HC.out with ⟨_, h⟩ | ⟨_, h, _⟩
          · omega
          · exact h
        exact hsl.out.keep HK2.out hne h0
      clear hw2 c0 c2 cf
      go_cut [6] (fun s6 wx => s6 = .slice (some ⟨w.heap.size, 0, none⟩) C1.length C1.length ∧ Hid (Blk wx w.heap.size (sg (zs C1.length)).toArray 28) ∧ Hid (Below w2.heap.size w2 wx))
      case first =>
        go_wp2_with (refine wpList_make_blk _ rfl (.tmp 87) (.tmp 87) 22 rfl 28 (.agg #[.int .i64 0, .int .i64 0]) 2 16 Try.underlying22 info28 .i64 .i64 _ _ C1.length C1.length rfl rfl rfl rfl (Nat.le_refl _) (by omega) (by unfold maxLen; omega) ?c3)
        case c3 =>
          intro w3 hb3 hbl3 hsz3
          rw [HZ2.out] at hb3
          rw [HZ2.out]
          go_wp2_with fail
          go_meet
          refine ⟨rfl, ?_, hbl3⟩
          rw [← made_zs]; exact hb3
      case rest =>
        obtain ⟨rfl, hb3, hbl3⟩ := hcut
        have HS3 := Lib.hid (HS2.out.below hbl3.out)
        go_wp2_with (refine wpList_copy2 rfl (.tmp 89) (.tmp 90) 22 22 rfl 28 2 Try.underlying22 sz28 (by decide) _ _ _ _ _ _ rfl rfl _ 0 _ 28 hb3.out (sg C1) ?m1 ?m2 ?m3 (sg_one C1) ?m5)
        case m1 => exact sg_len _
        case m2 => exact fun hp => sl_src HS3.out (by rw [sg_len] at hp; omega)
        case m3 => rw [sg_len, sg_len, zs_len]; omega
        case m5 =>
          intro w6 hb6 hk6
          go_wp2_with fail
          have hz2 := HZ2.out
          have hbl6 : Below w2.heap.size w2 w6 := Keep.onto hbl3.out hk6.out hbl3.out.size (by intro k hk; have h' : k = _ := hk; omega)
          have hb7 := hb6.out
          rw [room_sp1 (Nat.le_refl _), Nat.sub_self, show zs 0 = [] from rfl, List.append_nil] at hb7
          go_ret
          exact ⟨rfl, hb7, ⟨_, HG2.out.below hbl6⟩, HK2.out.step (Keep.of_below (S := fun _ => False) hbl6) (fun _ h => h.elim)⟩
end Go.Proofs.Ytidomomdfdkphaa
