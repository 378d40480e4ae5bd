/- The gap buffer's New, All and Line. -/
import Derived.Test.YtidomomdfdkphaaG6
namespace Go.Proofs.Ytidomomdfdkphaa
open Go.RowKit
set_option maxHeartbeats 400000 in
theorem new_ok (most : Int) (w : World) (h1 : 1 ≤ most) (h2 : most ≤ 65536) : Calls Try.prog 10 #[.int .i64 most] w fun e w' => e = .returned (.tuple #[.pointer (some ⟨w.heap.size, 0, none⟩), .int .i64 0]) ∧ w.alloc (.cells #[.slice none 0 0, .int .i64 0, .int .i64 0, .int .i64 most] 56) = w' := by
  go_enter Try.func10, Try.ntmps10
  go_wp2
  go_ret2
  exact ⟨rfl, rfl⟩
set_option maxHeartbeats 400000 in
theorem new_bad (most : Int) (w : World) (h : most < 1 ∨ 65536 < most) : Calls Try.prog 10 #[.int .i64 most] w fun e w' => e = .returned (.tuple #[.pointer none, .int .i64 3]) ∧ w = w' := by
  rcases h with h | h
  · go_enter Try.func10, Try.ntmps10
    go_wp2
    go_ret2
    exact ⟨rfl, rfl⟩
  · have h1 : ¬ most < 1 := by omega
    go_enter Try.func10, Try.ntmps10
    go_wp2
    go_ret2
    exact ⟨rfl, rfl⟩
/-- A new buffer is one. -/
theorem gp_new (most : Nat) (h : most ≤ 65536) (w : World) : Gp (w.alloc (.cells #[.slice none 0 0, .int .i64 0, .int .i64 0, .int .i64 most] 56)) w.heap.size 0 [] [] [] most :=
  ⟨by simp, h, none, Blk.new w _ _, .inl ⟨rfl, rfl⟩⟩
theorem all_sp1 {A C : List (Int × Int)} : splice (sg (zs (A.length + C.length))) 0 (sg A) = sg (A ++ zs C.length) := by
  have h := room_sp1 (A := A) (sz := A.length + C.length) (by omega)
  rw [h, Nat.add_sub_cancel_left]
theorem all_sp2 {A C : List (Int × Int)} : splice (sg (A ++ zs C.length)) (A.length * 2) (sg C) = sg (A ++ C) := by
  rw [splice_sg]
  have h2 := splice_mid (X := A) (Y := zs C.length) (Z := []) C (by simp [zs])
  rw [List.append_nil, List.append_nil] at h2
  rw [h2]
def AllPost (S : List (Int × Int)) (w : World) (e : Ending) (w' : World) : Prop :=
  e = .returned (.slice (some ⟨w.heap.size, 0, none⟩) S.length S.length) ∧ Blk w' w.heap.size (sg S).toArray 28 ∧ Below w.heap.size w w'
set_option maxHeartbeats 400000 in
theorem all_nil (w : World) : Calls Try.prog 12 #[.pointer none] w fun e w' => e = .returned (.slice none 0 0) ∧ w' = w := by
  go_enter Try.func12, Try.ntmps12
  go_wp2
  go_ret
  exact ⟨rfl, rfl⟩
set_option maxHeartbeats 4000000 in
set_option maxRecDepth 100000 in
theorem all_signs (g bb : Nat) (A M C : List (Int × Int)) (most : Nat) (w : World) (h : Gp w g bb A M C most) :
   Calls Try.prog 12 #[.pointer (some ⟨g, 0, none⟩)] w (AllPost (A ++ C) w) := by
  have HG := Lib.hid h
  have hglt := h.lt
  obtain ⟨hs, hmo, ao, hg, hc⟩ := h
  have HGB := Lib.hid hg
  have HC := Lib.hid hc
  clear hg hc
  go_enter Try.func12, Try.ntmps12
  go_wp2_with fail
  refine (len_any g bb A M C most _ HG.out).mono ?_
  rintro e w1 ⟨rfl, q, rfl⟩
  have hn : A.length + C.length ≤ 1000000 := by omega
  go_upto_region 4 with (fail)
  go_cut [4] (fun s4 wx => s4 = .slice (some ⟨w.heap.size, 0, none⟩) (A.length + C.length) (A.length + C.length) ∧ Hid (Blk wx w.heap.size (sg (zs (A.length + C.length))).toArray 28) ∧ Hid (Below w.heap.size w wx))
  case first =>
    go_wp2_with (refine wpList_make_blk _ rfl (.tmp 9) (.tmp 9) 22 rfl 28 (.agg #[.int .i64 0, .int .i64 0]) 2 16 Try.underlying22 info28 .i64 .i64 _ _ (A.length + C.length) (A.length + C.length) rfl rfl ?c1 ?c2 (Nat.le_refl _) (by omega) (by unfold maxLen; omega) ?c3)
    case c1 => omega
    case c2 => omega
    case c3 =>
      intro w1 hb1 hbl hsz1'
      go_wp2_with fail
      go_meet
      refine ⟨rfl, ?_, ?_⟩
      · rw [← made_zs]; exact hb1
      · exact (show Below w.heap.size w (w.drewN q) from ⟨rfl, rfl, rfl, Nat.le_refl _, fun _ _ => rfl⟩).trans hbl.out
  case rest =>
    obtain ⟨rfl, hb4, hbl4⟩ := hcut
    have HG4 := Lib.hid (HGB.out.below hbl4.out hglt)
    have HC4 : Hid (ao = none ∧ A.length + M.length + C.length = 0 ∨ ao = some ⟨bb, 0, none⟩ ∧ bb ≠ g ∧ Blk wc bb (sg (A ++ (M ++ C))).toArray 28) := by
      rcases HC.out with h | ⟨h1, h2, h3⟩
      · exact .inl h
      · exact .inr ⟨h1, h2, h3.below hbl4.out h3.lt⟩
    have k0 := HG4.out.cell 0
    have k1 := HG4.out.cell 1
    have k2 := HG4.out.cell 2
    simp at k0 k1 k2
    go_upto_region 5 with (fail)
    go_cut [] (fun wx => Hid (Blk wx w.heap.size (sg (A ++ zs C.length)).toArray 28) ∧ Hid (Keep (· = w.heap.size) wc wx))
    case first =>
      rename_i J K' hJ hK'
      have hcd1 : (A.length : Int) ≤ (A.length : Int) + M.length + C.length := by omega
      go_still_tail 10, (by kernel_rfl)
      change wpList _ _ _ _ _ wc.drew
      refine wpList_copy2 rfl (.tmp 11) (.tmp 20) 22 22 rfl 28 2 Try.underlying22 sz28 (by decide) _ _ _ _ _ _ rfl rfl w.heap.size 0 _ 28 hb4.out.drew (sg A) ?_ ?_ ?_ (sg_one A) ?_
      · rw [sg_len]; show _ = min _ _ * 2; omega
      · intro hp
        rw [sg_len] at hp
        rcases HC4.out with ⟨rfl, h0⟩ | ⟨rfl, hne, hB⟩
        · omega
        · exact ⟨rfl, _, rfl, blk_src hB.drew (List.nil_append _).symm rfl⟩
      · rw [sg_len, sg_len, zs_len]; omega
      · intro w3 hb3 hk3
        refine wpList_nil (hK' _ _ (Met.intro (hJ _ _ ?_)))
        (repeat apply Exists.intro)
        refine ⟨⟨?_, ?_⟩, rfl⟩
        · rw [← all_sp1]; exact hb3
        · exact (Keep.refl _ _).drew.trans hk3.out
    case rest =>
      obtain ⟨hb5, hk5⟩ := hcut
      clear k0 k1 k2
      have HG5 := Lib.hid (hk5.out.blk HG4.out (by omega))
      have HC5 : Hid (ao = none ∧ A.length + M.length + C.length = 0 ∨ ao = some ⟨bb, 0, none⟩ ∧ bb ≠ g ∧ Blk wc bb (sg (A ++ (M ++ C))).toArray 28) := by
        rcases HC4.out with h | ⟨h1, h2, h3⟩
        · exact .inl h
        · refine .inr ⟨h1, h2, hk5.out.blk h3 ?_⟩
          rcases HC.out with h | ⟨_, _, h4⟩
          · rw [h.1] at h1; cases h1
          · have := h4.lt; omega
      have k0 := HG5.out.cell 0
      have k1 := HG5.out.cell 1
      have k2 := HG5.out.cell 2
      simp at k0 k1 k2
      go_upto_region 6 with (fail)
      go_cut [] (fun wx => Hid (Blk wx w.heap.size (sg (A ++ C)).toArray 28) ∧ Hid (Keep (· = w.heap.size) wc wx))
      case first =>
        rename_i J K' hJ hK'
        have hcd1 : (A.length : Int) ≤ (A.length : Int) + C.length := by omega
        have hcd2 : (0 : Int) ≤ (A.length : Int) + M.length ∧ (A.length : Int) + M.length ≤ (A.length : Int) + M.length + C.length := by omega
        have htn2 : ((A.length : Int) + M.length).toNat = A.length + M.length := by omega
        have hln1 : A.length + C.length - A.length = C.length := by omega
        go_still_tail 15, (by kernel_rfl)
        change wpList _ _ _ _ _ wc.drew
        refine wpList_copy2 rfl (.tmp 27) (.tmp 36) 22 22 rfl 28 2 Try.underlying22 sz28 (by decide) _ _ _ _ _ _ rfl rfl w.heap.size (A.length * 2) _ 28 hb5.out.drew (sg C) ?_ ?_ ?_ (sg_one C) ?_
        · rw [sg_len]; show _ = min _ _ * 2; omega
        · intro hp
          rw [sg_len] at hp
          rcases HC5.out with ⟨rfl, h0⟩ | ⟨rfl, hne, hB⟩
          · omega
          · have hC : ¬ C = [] := by rintro rfl; simp at hp
            refine ⟨if_neg hC, ⟨bb, (A.length + M.length) * 2, none⟩, (if_neg hC).trans ?_, blk_src hB.drew (show _ = (A ++ M) ++ (C ++ []) by simp) (by simp)⟩
            show some (Addr.add _ _) = _
            rw [addr_add, Nat.zero_add]
        · rw [sg_len, sg_len, List.length_append, zs_len]; omega
        · intro w3 hb3 hk3
          refine wpList_nil (hK' _ _ (Met.intro (hJ _ _ ?_)))
          (repeat apply Exists.intro)
          refine ⟨⟨?_, ?_⟩, rfl⟩
          · rw [← all_sp2]; exact hb3
          · exact (Keep.refl _ _).drew.trans hk3.out
      case rest =>
        obtain ⟨hb6, hk6⟩ := hcut
        clear k0 k1 k2
        go_wp2_with fail
        go_ret
        refine ⟨by simp, hb6.out, ?_⟩
        exact Keep.onto (hbl4.out) (hk5.out.trans hk6.out) (by have := hbl4.out.size; omega) (by intro k hk; have h' : k = w.heap.size := hk; omega)
def LinePost (S : List (Int × Int)) (k : Nat) (w : World) (e : Ending) (w' : World) : Prop :=
  ∃ nb, w.heap.size ≤ nb ∧ e = .returned (.agg #[.slice (some ⟨nb, 0, none⟩) S.length S.length, .int .i64 k]) ∧ Blk w' nb (sg S).toArray 28 ∧ Below w.heap.size w w'
set_option maxHeartbeats 400000 in
theorem line_any (g bb : Nat) (A M C : List (Int × Int)) (most : Nat) (w : World) (h : Gp w g bb A M C most) :
   Calls Try.prog 17 #[.pointer (some ⟨g, 0, none⟩)] w (LinePost (A ++ C) A.length w) := by
  have HG := Lib.hid h
  clear h
  go_enter Try.func17, Try.ntmps17
  go_wp2_with fail
  refine (all_signs g bb A M C most _ (HG.out.below (by go_grown))).mono ?_
  rintro e w1 ⟨rfl, hb, hbl⟩
  have HB := Lib.hid hb
  have HK := Lib.hid ((Blk.new w _ _).below hbl (by simp))
  have HBL : Hid (Below w.heap.size w w1) := Below.trans (by go_grown) (hbl.mono (by simp))
  clear hb hbl
  have c0 := HK.out.cell 0
  have c1 := HK.out.cell 1
  have cf := HK.out.free
  have hlt := HK.out.lt
  simp at c0 c1
  go_wp2_with fail
  refine (at_any g bb A M C most _ (HG.out.below HBL.out)).mono ?_
  rintro e w2 ⟨rfl, rfl⟩
  go_wp2_with fail
  refine bodyPost_ret (v := .agg #[.slice (some ⟨w.heap.size + 1, 0, none⟩) (A.length + C.length) (A.length + C.length), .int .i64 A.length]) (by simp only [results, Try.results17]; go_simp) rfl ⟨w.heap.size + 1, by omega, by simp, ?_, ?_⟩
  · have h := HB.out
    simp only [World.size_alloc] at h
    exact (h.other _ (by show w.heap.size ≠ _; omega)).other _ (by show w.heap.size ≠ _; omega)
  · exact (HBL.out.setCell (Nat.le_refl _) _).setCell (Nat.le_refl _) _
def getS (S : List (Int × Int)) (k : Nat) : Int × Int := S.getD k (0, 0)
set_option maxHeartbeats 1000000 in
theorem get_out (g bb : Nat) (A M C : List (Int × Int)) (most : Nat) (i : Int) (w : World) (h : Gp w g bb A M C most) (hi : i < 0 ∨ (A.length + C.length : Nat) ≤ i) :
   Calls Try.prog 9 #[.pointer (some ⟨g, 0, none⟩), .int .i64 i] w fun e w' => e = .returned (.tuple #[.agg #[.int .i64 0, .int .i64 0], .bool false]) ∧ Keep (fun _ => False) w w' := by
  have HG := Lib.hid h
  clear h
  rcases hi with hi | hi
  · go_enter Try.func9, Try.ntmps9
    go_wp2_with fail
    refine bodyPost_ret (v := .tuple #[.agg #[.int .i64 0, .int .i64 0], .bool false]) (by simp only [results, Try.results9]; go_simp) rfl ⟨rfl, ?_⟩
    exact (Keep.refl _ _).alloc _
  · have h0 : ¬ i < 0 := by omega
    go_enter Try.func9, Try.ntmps9
    go_wp2_with fail
    refine (len_any g bb A M C most _ (HG.out.below (by go_grown))).mono ?_
    rintro e w1 ⟨rfl, q, rfl⟩
    go_wp2_with fail
    refine bodyPost_ret (v := .tuple #[.agg #[.int .i64 0, .int .i64 0], .bool false]) (by simp only [results, Try.results9]; go_simp) rfl ⟨rfl, ?_⟩
    exact Keep.setCell (Keep.setCell (((Keep.refl _ _).alloc _).trans (keep_drewN _ _)) _ (.inr (Nat.le_refl _))) _ (.inr (Nat.le_refl _))
theorem Gp.row {w : World} {g bb : Nat} {A M C : List (Int × Int)} {most : Nat} (h : Gp w g bb A M C most) (h0 : 0 < A.length + C.length) : ∃ n, n = A.length + M.length + C.length ∧ Blk w g #[.slice (some ⟨bb, 0, none⟩) n n, .int .i64 A.length, .int .i64 (A.length + M.length : Nat), .int .i64 most] 56 ∧ Blk w bb (sg (A ++ (M ++ C))).toArray 28 := by
  obtain ⟨h1, h2, ao, hg, hc⟩ := h
  rcases hc with ⟨_, h⟩ | ⟨rfl, _, hb⟩
  · omega
  · exact ⟨_, rfl, hg, hb⟩
theorem blk_sign {w : World} {bb : Nat} {L : List (Int × Int)} (h : Blk w bb (sg L).toArray 28) (k : Nat) (hk : k < L.length) : w.cell? ⟨bb, k * 2, none⟩ = some (.int .i64 L[k].1) ∧ w.cell? ⟨bb, k * 2 + 1, none⟩ = some (.int .i64 L[k].2) := by
  obtain ⟨a, b⟩ := sg_at L k hk
  rw [h.cell, h.cell]
  simp only [List.getElem?_toArray]
  exact ⟨a, b⟩
set_option maxHeartbeats 1000000 in
theorem get_lo (g bb : Nat) (A M C : List (Int × Int)) (most : Nat) (k : Nat) (w : World) (h : Gp w g bb A M C most) (hk : k < A.length) :
   Calls Try.prog 9 #[.pointer (some ⟨g, 0, none⟩), .int .i64 k] w fun e w' => e = .returned (.tuple #[.agg #[.int .i64 A[k].1, .int .i64 A[k].2], .bool true]) ∧ Keep (fun _ => False) w w' := by
  have HG := Lib.hid h
  obtain ⟨n, hn, hg, hb⟩ := h.row (by omega)
  have hb0 := hb
  obtain ⟨d0, d1⟩ := blk_sign hb k (by clear hn; simp; omega)
  rw [List.getElem_append_left hk] at d0 d1
  have hlt := hb.lt
  have hglt := hg.lt
  have hs := h.1
  have c0 := hg.cell 0
  have c1 := hg.cell 1
  simp at c0 c1
  have hkn : k < n := by omega
  clear h hb0 hb hg hn
  go_enter Try.func9, Try.ntmps9
  go_wp2_with fail
  refine (len_any g bb A M C most _ (HG.out.below (by go_grown))).mono ?_
  rintro e w1 ⟨rfl, q, rfl⟩
  have hge : decide (A.length + C.length ≤ k) = false := by simp; omega
  have hge2 : decide (A.length ≤ k) = false := by simp; omega
  go_wp2_with fail
  refine bodyPost_ret (v := .tuple #[.agg #[.int .i64 A[k].1, .int .i64 A[k].2], .bool true]) (by simp only [results, Try.results9]; go_simp) rfl ⟨rfl, ?_⟩
  exact Keep.setCell (Keep.setCell (((Keep.refl _ _).alloc _).trans (keep_drewN _ _)) _ (.inr (Nat.le_refl _))) _ (.inr (Nat.le_refl _))
set_option maxHeartbeats 1000000 in
theorem get_hi (g bb : Nat) (A M C : List (Int × Int)) (most : Nat) (k : Nat) (w : World) (h : Gp w g bb A M C most) (hk : k < C.length) :
   Calls Try.prog 9 #[.pointer (some ⟨g, 0, none⟩), .int .i64 (A.length + k : Nat)] w fun e w' => e = .returned (.tuple #[.agg #[.int .i64 C[k].1, .int .i64 C[k].2], .bool true]) ∧ Keep (fun _ => False) w w' := by
  have HG := Lib.hid h
  obtain ⟨n, hn, hg, hb⟩ := h.row (by omega)
  have hb0 := hb
  rw [← List.append_assoc] at hb
  obtain ⟨d0, d1⟩ := blk_sign hb (A.length + M.length + k) (by clear hn; simp; omega)
  rw [List.getElem_append_right (by simp)] at d0 d1
  simp only [List.length_append, Nat.add_sub_cancel_left] at d0 d1
  have hlt := hb.lt
  have hglt := hg.lt
  have hs := h.1
  have c0 := hg.cell 0
  have c1 := hg.cell 1
  have c2 := hg.cell 2
  simp at c0 c1 c2
  have hkn : A.length + M.length + k < n := by omega
  clear h hb0 hb hg hn
  go_enter Try.func9, Try.ntmps9
  go_wp2_with fail
  refine (len_any g bb A M C most _ (HG.out.below (by go_grown))).mono ?_
  rintro e w1 ⟨rfl, q, rfl⟩
  have hge : decide (C.length ≤ k) = false := by simp; omega
  go_upto_region 4 with (fail)
  go_cut [1] (fun s1 wx => s1 = .int .i64 (A.length + M.length + k : Nat) ∧ ∃ q', wx = (w.alloc (.cells #[.int .i64 0, .int .i64 0] 28)).drewN q')
  case first =>
    go_quiet (fail)
    go_wp2_with fail
    go_meet
    exact ⟨congrArg (Value.int .i64) (by omega), _, drewN_add _ _ _⟩
  case rest =>
    obtain ⟨rfl, q', rfl⟩ := hcut
    go_wp2_with fail
    refine bodyPost_ret (v := .tuple #[.agg #[.int .i64 C[k].1, .int .i64 C[k].2], .bool true]) (by simp only [results, Try.results9]; go_simp) rfl ⟨rfl, ?_⟩
    exact Keep.setCell (Keep.setCell (((Keep.refl _ _).alloc _).trans (keep_drewN _ _)) _ (.inr (Nat.le_refl _))) _ (.inr (Nat.le_refl _))
end Go.Proofs.Ytidomomdfdkphaa
