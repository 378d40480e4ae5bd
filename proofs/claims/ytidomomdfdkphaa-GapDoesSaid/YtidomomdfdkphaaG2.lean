/- The gap buffer's Move. -/
import Derived.Test.YtidomomdfdkphaaG1
import Derived.Deep.RegionLaw
import Derived.Deep.DeepCutAuto
import Derived.StillTailTactics
namespace Go.Proofs.Ytidomomdfdkphaa
open Go.RowKit
theorem sz28 : (Try.prog.info? 28).map (·.size) = some 2 := by kernel_rfl
theorem move_left (A1 A2 M C : List (Int × Int)) : splice (A1 ++ A2 ++ (M ++ C)) (A1.length + M.length) A2 = A1 ++ ((A2 ++ M).take M.length ++ (A2 ++ C)) := by
  unfold splice
  rw [List.append_assoc A1 A2, List.take_length_add_append, show A1.length + M.length + A2.length = A1.length + (A2.length + M.length) by omega, List.drop_length_add_append,
    ← List.append_assoc A2 M C, List.take_append_of_le_length (by simp), show A2.length + M.length = (A2 ++ M).length by simp, List.drop_left]
  simp
theorem move_right (A M C1 C2 : List (Int × Int)) : splice (A ++ (M ++ (C1 ++ C2))) A.length C1 = (A ++ C1) ++ ((M ++ C1).drop C1.length ++ C2) := by
  unfold splice
  rw [List.take_left, List.drop_length_add_append, ← List.append_assoc M C1 C2, List.drop_append_of_le_length (by simp)]
  simp
theorem blk_src {w : World} {bb off : Nat} {L X Y Z : List (Int × Int)} (h : Blk w bb (sg L).toArray 28) (hL : L = X ++ (Y ++ Z)) (ho : off = X.length * 2) : ∀ (j : Nat) (v : Value), (sg Y)[j]? = some v → w.cell? ((⟨bb, off, none⟩ : Addr).add j) = some v := by
  intro j v hj
  have hjl := (List.getElem?_eq_some_iff.1 hj).1
  have hadd : (⟨bb, off, none⟩ : Addr).add j = ⟨bb, off + j, none⟩ := by unfold Addr.add; split <;> simp_all
  rw [hadd, h.cell]
  subst hL ho
  rw [List.getElem?_toArray, sg_app, sg_app, ← sg_len X, List.getElem?_append_right (by omega), Nat.add_sub_cancel_left, List.getElem?_append_left hjl]
  exact hj
theorem blk_drew {w : World} {b : Nat} {cs : Array Value} {t : TypeId} (h : Blk w b cs t) (n : Nat) : Blk (w.drewN n) b cs t := by
  unfold Blk at *; simpa using h
theorem keep_drewN {S : Nat → Prop} (w : World) (n : Nat) : Keep S w (w.drewN n) := by
  exact ⟨rfl, rfl, rfl, Nat.le_refl _, fun k _ _ => rfl⟩
/-- The object of a buffer, and its row, are told anew. -/
theorem gp_mk {w : World} {g bb n f t : Nat} {cur : List Value} {A M C : List (Int × Int)} {most : Nat} (hs : A.length + M.length + C.length ≤ 1000000) (hm : most ≤ 65536) (hne : bb ≠ g)
    (hg : Blk w g #[.slice (some ⟨bb, 0, none⟩) n n, .int .i64 f, .int .i64 t, .int .i64 most] 56) (hb : Blk w bb cur.toArray 28)
    (hn : n = A.length + M.length + C.length) (hf : f = A.length) (ht : t = A.length + M.length) (hc : cur = sg (A ++ (M ++ C))) : Gp w g bb A M C most := by
  subst hn hf ht hc
  exact ⟨hs, hm, _, hg, .inr ⟨rfl, hne, hb⟩⟩
set_option maxHeartbeats 2000000 in
set_option maxRecDepth 100000 in
theorem move_left_any (g bb : Nat) (A1 A2 M C : List (Int × Int)) (most : Nat) (p : Int) (w : World) (h : Gp w g bb (A1 ++ A2) M C most) (h2 : 0 < A2.length) (hk : max p 0 = A1.length) :
   Calls Try.prog 8 #[.pointer (some ⟨g, 0, none⟩), .int .i64 p] w fun e w' => e = Ending.returned (.tuple #[]) ∧ Gp w' g bb A1 ((A2 ++ M).take M.length) (A2 ++ C) most ∧ Keep (fun k => k = g ∨ k = bb) w w' := by
  have HG := Lib.hid h
  obtain ⟨hs, hmo, ao, hg, hc⟩ := h
  have hl : (A1 ++ A2).length = A1.length + A2.length := by simp
  rw [hl] at hs hg hc
  rcases hc with ⟨_, h0⟩ | ⟨rfl, hne, hB⟩
  · omega
  have HBB := Lib.hid hB
  have HGB := Lib.hid hg
  have c0 := hg.cell 0
  have c1 := hg.cell 1
  have c2 := hg.cell 2
  simp at c0 c1 c2
  clear hg hB
  have HL := Lib.hid hl
  clear hl
  have HK := Lib.hid hk
  clear hk
  go_enter Try.func8, Try.ntmps8
  go_upto_region 1 with (fail)
  go_cut [1] (fun s1 wx => s1 = .int .i64 A1.length ∧ ∃ q, wx = w.drewN q)
  case first =>
    have hk := HK.out
    go_wp2_with fail
    all_goals
      refine (len_any g bb _ M C most _ HG.out).mono ?_
      rintro e w1 ⟨rfl, q, rfl⟩
      rw [HL.out]
      go_wp2_with fail
      go_meet
      exact ⟨congrArg (Value.int .i64) (by omega), q, rfl⟩
  case rest =>
    obtain ⟨rfl, q, rfl⟩ := hcut
    go_upto_region 4 with (fail)
    obtain ⟨w1, hw1⟩ : ∃ w1, w1 = w.drewN q := ⟨_, rfl⟩
    rw [← hw1]
    have HB1 : Hid (Blk w1 bb (sg (A1 ++ A2 ++ (M ++ C))).toArray 28) := by show Blk _ _ _ _; rw [hw1]; exact blk_drew HBB.out q
    have k0 : w1.cell? ⟨g, 0, none⟩ = some (.slice (some ⟨bb, 0, none⟩) (A1.length + A2.length + M.length + C.length) (A1.length + A2.length + M.length + C.length)) := by rw [hw1]; exact c0
    have k1 : w1.cell? ⟨g, 1, none⟩ = some (.int .i64 ((A1.length : Int) + A2.length)) := by rw [hw1]; exact c1
    have k2 : w1.cell? ⟨g, 2, none⟩ = some (.int .i64 ((A1.length : Int) + A2.length + M.length)) := by rw [hw1]; exact c2
    have HW1 := Lib.hid hw1
    clear c0 c1 c2 hw1
    have hsub1 : (A1.length : Int) + A2.length - A1.length = A2.length := by omega
    have hsub2 : (A1.length : Int) + A2.length + M.length - A2.length = A1.length + M.length := by omega
    have hwr : IntKind.i64.wrap ((A1.length : Int) + M.length) = (A1.length : Int) + M.length := by rw [IntKind.wrap_i64]; omega
    have hcd1 : (0 : Int) ≤ (A1.length : Int) + A2.length + M.length ∧ (A1.length : Int) + A2.length + M.length ≤ (A1.length : Int) + A2.length + M.length + C.length := by omega
    have hcd2 : (0 : Int) ≤ (A1.length : Int) + M.length ∧ (A1.length : Int) + M.length ≤ max ((A1.length : Int) + A2.length + M.length) 0 := by omega
    have hcd3 : (A1.length : Int) ≤ (A1.length : Int) + A2.length := by omega
    have hcd4 : (0 : Int) ≤ (A1.length : Int) + A2.length ∧ (A1.length : Int) + A2.length ≤ (A1.length : Int) + A2.length + M.length + C.length := by omega
    have htn3 : ((A1.length : Int) + A2.length).toNat = A1.length + A2.length := by omega
    have hln1 : A1.length + A2.length + M.length - (A1.length + M.length) = A2.length := by omega
    have hln2 : A1.length + A2.length - A1.length = A2.length := by omega
    have htn1 : ((A1.length : Int) + M.length).toNat = A1.length + M.length := by omega
    have htn2 : ((A1.length : Int) + A2.length + M.length).toNat = A1.length + A2.length + M.length := by omega
    have hnc : ¬ A1.length + A2.length + M.length + C.length = A1.length + M.length := by omega
    rw [hsub1]
    go_still_tail 25, (by kernel_rfl)
    change wpList _ _ _ _ _ w1.drew
    refine wpList_copy2 rfl (.tmp 39) (.tmp 49) 22 22 rfl 28 2 Try.underlying22 sz28 (by decide) _ _ _ _ _ _ rfl rfl bb ((A1.length + M.length) * 2) _ 28 HB1.out.drew (sg A2) (by rw [sg_len]; simp) (fun _ => ⟨rfl, _, if_neg (by omega), blk_src HB1.out.drew (List.append_assoc _ _ _) rfl⟩) (by rw [sg_len, sg_len]; simp; omega) (sg_one A2) ?_
    intro w3 hb3 hk3
    have HG3 := Lib.hid (hk3.out.blk (show Blk w1.drew g _ _ by rw [HW1.out]; exact (blk_drew HGB.out q).drew) (by omega))
    clear k0 k1 k2
    have k1 := HG3.out.cell 1
    have k2 := HG3.out.cell 2
    have kf := HG3.out.free
    simp at k1 k2
    go_wp2_with fail
    refine bodyPost_ret (results_none rfl _ _ _) rfl ⟨rfl, ?_, ?_⟩
    · refine gp_mk ?_ hmo hne ((HG3.out.set 1 (.int .i64 A1.length)).set 2 (.int .i64 (A1.length + M.length : Nat))) ((hb3.out.other _ (by simpa using hne.symm)).other _ (by simpa using hne.symm)) ?_ rfl ?_ ?_
      · simp; omega
      · simp; omega
      · simp
      · rw [splice_sg, move_left]
    · refine Keep.setCell (Keep.setCell (Keep.trans ?_ (hk3.out.mono (fun k _ h => .inr h))) _ (.inl (.inl rfl))) _ (.inl (.inl rfl))
      rw [HW1.out]; exact (keep_drewN w q).drew
set_option maxHeartbeats 2000000 in
set_option maxRecDepth 100000 in
theorem move_right_any (g bb : Nat) (A M C1 C2 : List (Int × Int)) (most : Nat) (p : Int) (w : World) (h : Gp w g bb A M (C1 ++ C2) most) (hk : min (max p 0) (A.length + (C1.length + C2.length)) = A.length + C1.length) :
   Calls Try.prog 8 #[.pointer (some ⟨g, 0, none⟩), .int .i64 p] w fun e w' => e = Ending.returned (.tuple #[]) ∧ Gp w' g bb (A ++ C1) ((M ++ C1).drop C1.length) C2 most ∧ Keep (fun k => k = g ∨ k = bb) w w' := by
  have HG := Lib.hid h
  obtain ⟨hs, hmo, ao, hg, hc⟩ := h
  have hl : (C1 ++ C2).length = C1.length + C2.length := by simp
  rw [hl] at hs hg hc
  have HGB := Lib.hid hg
  have c0 := hg.cell 0
  have c1 := hg.cell 1
  have c2 := hg.cell 2
  simp at c0 c1 c2
  clear hg
  have HL := Lib.hid hl
  clear hl
  have HK := Lib.hid hk
  clear hk
  rcases hc with ⟨rfl, h0⟩ | ⟨rfl, hne, hB⟩
  · have HC := Lib.hid (show A = [] ∧ M = [] ∧ C1 = [] ∧ C2 = [] from ⟨List.eq_nil_of_length_eq_zero (by omega), List.eq_nil_of_length_eq_zero (by omega), List.eq_nil_of_length_eq_zero (by omega), List.eq_nil_of_length_eq_zero (by omega)⟩)
    obtain ⟨rfl, rfl, rfl, rfl⟩ := HC.out
    clear HC
    simp at c0 c1 c2
    go_enter Try.func8, Try.ntmps8
    go_upto_region 1 with (fail)
    go_cut [1] (fun s1 wx => s1 = .int .i64 0 ∧ ∃ q, wx = w.drewN q)
    case first =>
      have hk := HK.out
      simp at hk
      go_wp2_with fail
      all_goals
        refine (len_any g bb _ _ _ most _ HG.out).mono ?_
        rintro e w1 ⟨rfl, q, rfl⟩
        simp only [List.length_nil, List.append_nil, Nat.add_zero]
        go_wp2_with fail
        all_goals
          go_meet
          exact ⟨congrArg (Value.int .i64) (by omega), q, rfl⟩
    case rest =>
      obtain ⟨rfl, q, rfl⟩ := hcut
      go_upto_region 8 with (fail)
      obtain ⟨w1, hw1⟩ : ∃ w1, w1 = w.drewN q := ⟨_, rfl⟩
      rw [← hw1]
      have k0 : w1.cell? ⟨g, 0, none⟩ = some (.slice none 0 0) := by rw [hw1]; exact c0
      have k1 : w1.cell? ⟨g, 1, none⟩ = some (.int .i64 0) := by rw [hw1]; exact c1
      have k2 : w1.cell? ⟨g, 2, none⟩ = some (.int .i64 0) := by rw [hw1]; exact c2
      have HW1 := Lib.hid hw1
      clear c0 c1 c2 hw1
      have hw0 : IntKind.i64.wrap 0 = 0 := rfl
      go_still_tail 30, (by kernel_rfl)
      change wpList _ _ _ _ _ w1.drew
      refine wpList_copy2 rfl (.tmp 87) (.tmp 102) 22 22 rfl 28 2 Try.underlying22 sz28 (by decide) _ _ _ _ _ _ rfl rfl g 0 _ 56 (show Blk w1.drew g #[_, _, _, _] _ by rw [HW1.out]; exact (blk_drew HGB.out q).drew) [] (by simp) (fun hp => by simp at hp) (by simp) (by simp) ?_
      intro w3 hb3 hk3
      have HG3 : Hid (Blk w3 g _ 56) := hb3
      clear k0 k1 k2
      have k1 := HG3.out.cell 1
      have k2 := HG3.out.cell 2
      have kf := HG3.out.free
      simp [splice] at k1 k2
      go_wp2_with fail
      refine bodyPost_end (results_none rfl _ _ _) rfl ⟨rfl, ?_, ?_⟩
      · have := (HG3.out.set 1 (.int .i64 0)).set 2 (.int .i64 0)
        exact ⟨by simp, hmo, none, by simpa [splice] using this, .inl ⟨rfl, by simp⟩⟩
      · refine Keep.setCell (Keep.setCell (Keep.trans ?_ (hk3.out.mono (fun k _ h => .inl h))) _ (.inl (.inl rfl))) _ (.inl (.inl rfl))
        rw [HW1.out]; exact (keep_drewN w q).drew
  have HBB := Lib.hid hB
  clear hB
  go_enter Try.func8, Try.ntmps8
  go_upto_region 1 with (fail)
  go_cut [1] (fun s1 wx => s1 = .int .i64 ((A.length : Int) + C1.length) ∧ ∃ q, wx = w.drewN q)
  case first =>
    have hk := HK.out
    go_wp2_with fail
    all_goals
      refine (len_any g bb _ M _ most _ HG.out).mono ?_
      rintro e w1 ⟨rfl, q, rfl⟩
      rw [HL.out]
      go_wp2_with fail
      all_goals
        go_meet
        exact ⟨congrArg (Value.int .i64) (by omega), q, rfl⟩
  case rest =>
    obtain ⟨rfl, q, rfl⟩ := hcut
    have hsub1 : (A.length : Int) + C1.length - A.length = C1.length := by omega
    go_upto_region 8 with (fail)
    obtain ⟨w1, hw1⟩ : ∃ w1, w1 = w.drewN q := ⟨_, rfl⟩
    rw [← hw1]
    have HB1 : Hid (Blk w1 bb (sg (A ++ (M ++ (C1 ++ C2)))).toArray 28) := by show Blk _ _ _ _; rw [hw1]; exact blk_drew HBB.out q
    have k0 : w1.cell? ⟨g, 0, none⟩ = some (.slice (some ⟨bb, 0, none⟩) (A.length + M.length + (C1.length + C2.length)) (A.length + M.length + (C1.length + C2.length))) := by rw [hw1]; exact c0
    have k1 : w1.cell? ⟨g, 1, none⟩ = some (.int .i64 (A.length : Int)) := by rw [hw1]; exact c1
    have k2 : w1.cell? ⟨g, 2, none⟩ = some (.int .i64 ((A.length : Int) + M.length)) := by rw [hw1]; exact c2
    have HW1 := Lib.hid hw1
    clear c0 c1 c2 hw1
    go_cut [] (fun wx => Hid (Blk wx bb (splice (sg (A ++ (M ++ (C1 ++ C2)))) (A.length * 2) (sg C1)).toArray 28) ∧ Hid (Keep (· = bb) w wx))
    case first =>
      rename_i J K' hJ hK'
      have hwr1 : IntKind.i64.wrap ((A.length : Int) + C1.length) = (A.length : Int) + C1.length := by rw [IntKind.wrap_i64]; omega
      have hwr2 : IntKind.i64.wrap ((A.length : Int) + M.length + C1.length) = (A.length : Int) + M.length + C1.length := by rw [IntKind.wrap_i64]; omega
      have hcd1 : (0 : Int) ≤ (A.length : Int) + C1.length ∧ (A.length : Int) + C1.length ≤ (A.length : Int) + M.length + (C1.length + C2.length) := by omega
      have hcd2 : (A.length : Int) ≤ (A.length : Int) + C1.length := by omega
      have hcd3 : (0 : Int) ≤ (A.length : Int) + M.length + C1.length ∧ (A.length : Int) + M.length + C1.length ≤ (A.length : Int) + M.length + (C1.length + C2.length) := by omega
      have hcd4 : (0 : Int) ≤ (A.length : Int) + M.length ∧ (A.length : Int) + M.length ≤ (A.length : Int) + M.length + C1.length := by omega
      have htn1 : ((A.length : Int) + C1.length).toNat = A.length + C1.length := by omega
      have htn2 : ((A.length : Int) + M.length).toNat = A.length + M.length := by omega
      have htn3 : ((A.length : Int) + M.length + C1.length).toNat = A.length + M.length + C1.length := by omega
      have hln1 : A.length + C1.length - A.length = C1.length := by omega
      have hln2 : A.length + M.length + C1.length - (A.length + M.length) = C1.length := by omega
      go_still_tail 30, (by kernel_rfl)
      change wpList _ _ _ _ _ w1.drew
      refine wpList_copy2 rfl (.tmp 87) (.tmp 102) 22 22 rfl 28 2 Try.underlying22 sz28 (by decide) _ _ _ _ _ _ rfl rfl bb (A.length * 2) _ 28 HB1.out.drew (sg C1) (by rw [sg_len]; simp) (fun hp => ⟨if_neg (by rw [sg_len] at hp; omega), _, if_neg (by rintro ⟨rfl, _⟩; simp [sg] at hp), blk_src HB1.out.drew (show _ = (A ++ M) ++ (C1 ++ C2) by simp) (by simp)⟩) (by rw [sg_len, sg_len]; simp; omega) (sg_one C1) ?_
      intro w3 hb3 hk3
      refine wpList_nil (hK' _ _ (Met.intro (hJ _ _ ?_)))
      (repeat apply Exists.intro)
      refine ⟨?_, rfl⟩
      exact ⟨hb3, ((by rw [HW1.out]; exact (keep_drewN w q).drew : Keep (· = bb) w w1.drew).trans hk3.out)⟩
    case rest =>
      obtain ⟨hb3, hk3⟩ := hcut
      have HG3 := Lib.hid (hk3.out.blk HGB.out (by omega))
      clear k0 k1 k2
      have k1 := HG3.out.cell 1
      have k2 := HG3.out.cell 2
      have kf := HG3.out.free
      simp at k1 k2
      go_wp2_with fail
      refine bodyPost_end (results_none rfl _ _ _) rfl ⟨rfl, ?_, ?_⟩
      · refine gp_mk ?_ hmo hne ((HG3.out.set 1 (.int .i64 (A.length + C1.length : Nat))).set 2 (.int .i64 (A.length + M.length + C1.length : Nat))) ((hb3.out.other _ (by simpa using hne.symm)).other _ (by simpa using hne.symm)) ?_ ?_ ?_ ?_
        · simp; omega
        · simp; omega
        · simp
        · simp; omega
        · rw [splice_sg, move_right]
      · exact Keep.setCell (Keep.setCell (hk3.out.mono (fun k _ h => .inr h)) _ (.inl (.inl rfl))) _ (.inl (.inl rfl))
end Go.Proofs.Ytidomomdfdkphaa
