/- The gap buffer's room: the gap is at least as great as is asked for; the signs, and where the gap begins, stay. -/
import Derived.Test.YtidomomdfdkphaaG2
import Derived.Test.YtidomomdfdkphaaMake
namespace Go.Proofs.Ytidomomdfdkphaa
open Go.RowKit
theorem info28 : (Try.prog.info? 28).map (fun i => (i.zero, i.size, i.bytes)) = some (some (.agg #[.int .i64 0, .int .i64 0]), 2, 16) := by kernel_rfl
def zs (n : Nat) : List (Int × Int) := List.replicate n (0, 0)
theorem zs_len (n : Nat) : (zs n).length = n := by simp [zs]
theorem sg_zs (n : Nat) : sg (zs n) = List.replicate (n * 2) (.int .i64 0) := by
  induction n with
  | zero => rfl
  | succ n ih => rw [zs, List.replicate_succ, sg_cons, ← zs, ih, show (n + 1) * 2 = n * 2 + 1 + 1 by omega]; rfl
theorem made_zs (n : Nat) : madeCells (Value.agg #[.int .i64 0, .int .i64 0]).cells (n * 2) = (sg (zs n)).toArray := by
  apply Array.ext
  · rw [size_madeCells, List.size_toArray, sg_len, zs_len]
  · intro i h1 h2
    have hz : (sg (zs n)).toArray[i] = .int .i64 0 := by
      rw [List.getElem_toArray]
      simp only [sg_zs, List.getElem_replicate]
    rw [hz]
    have h2 : i % 2 = 0 ∨ i % 2 = 1 := by omega
    unfold madeCells
    rcases h2 with h | h <;> simp [Value.cells, h]
/-- A copy that covers a part of the signs' row. -/
theorem splice_mid {X Y Z : List (Int × Int)} (Y' : List (Int × Int)) (h : Y'.length = Y.length) : splice (X ++ (Y ++ Z)) X.length Y' = X ++ (Y' ++ Z) := by
  unfold splice
  rw [List.take_left, h, List.drop_length_add_append, List.drop_left, ← List.append_assoc]
set_option maxHeartbeats 2000000 in
set_option maxRecDepth 100000 in
theorem room_has (g bb rb : Nat) (A M C : List (Int × Int)) (most : Nat) (n : Nat) (w : World) (h : Gp w g bb A M C most) (hr : w.cell? ⟨rb, 0, none⟩ = some (.pointer (some ⟨g, 0, none⟩))) (hn : n ≤ M.length) :
   Calls Try.prog 31 #[.int .i64 n, .pointer (some ⟨rb, 0, none⟩)] w fun e w' => e = Ending.returned (.tuple #[]) ∧ ∃ m, w' = w.drewN m := by
  obtain ⟨hs, hmo, ao, hg, hc⟩ := h
  have c1 := hg.cell 1
  have c2 := hg.cell 2
  simp at c1 c2
  clear hg hc
  have hsub : (A.length : Int) + M.length - A.length = M.length := by omega
  have hge : decide ((n : Int) ≤ M.length) = true := by simp; omega
  go_enter Try.func31, Try.ntmps31
  go_wp2_with fail
  go_quiet (fail)
  go_wp2_with fail
  exact bodyPost_ret (results_none rfl _ _ _) rfl ⟨rfl, _, rfl⟩
theorem drewN_add (w : World) (a b : Nat) : (w.drewN a).drewN b = w.drewN (a + b) := by simp [World.drewN, Nat.add_assoc]
theorem gp_drew {w : World} {g bb : Nat} {A M C : List (Int × Int)} {most : Nat} (h : Gp w g bb A M C most) (q : Nat) : Gp (w.drewN q) g bb A M C most := by
  obtain ⟨h1, h2, ao, hg, hc⟩ := h
  refine ⟨h1, h2, ao, blk_drew hg q, ?_⟩
  rcases hc with h | ⟨a, b, c⟩
  · exact .inl h
  · exact .inr ⟨a, b, blk_drew c q⟩
theorem Keep.step {S T : Nat → Prop} {w w' w'' : World} (h : Keep S w w') (k : Keep T w' w'') (hT : ∀ i, T i → S i ∨ w.heap.size ≤ i) : Keep S w w'' :=
  ⟨k.os.trans h.os, k.tape.trans h.tape, k.output.trans h.output, Nat.le_trans h.size k.size, fun i hi hn => (k.block i (Nat.lt_of_lt_of_le hi h.size) (fun ht => by
    rcases hT i ht with h1 | h1
    · exact hn h1
    · omega)).trans (h.block i hi hn)⟩
theorem zs_add (a b : Nat) : zs (a + b) = zs a ++ zs b := by simp [zs, List.replicate_append_replicate]
theorem room_sp1 {A : List (Int × Int)} {sz : Nat} (h : A.length ≤ sz) : splice (sg (zs sz)) 0 (sg A) = sg (A ++ zs (sz - A.length)) := by
  have h1 := splice_sg (zs sz) A 0
  have h2 := splice_mid (X := []) (Y := zs A.length) (Z := zs (sz - A.length)) A (by simp [zs])
  rw [List.nil_append, ← zs_add, show A.length + (sz - A.length) = sz by omega] at h2
  rw [Nat.zero_mul] at h1
  rw [h1]; exact congrArg sg h2
theorem room_sp2 {A C : List (Int × Int)} {sz : Nat} (h : A.length + C.length ≤ sz) : splice (sg (A ++ zs (sz - A.length))) ((sz - C.length) * 2) (sg C) = sg (A ++ (zs (sz - A.length - C.length) ++ C)) := by
  rw [splice_sg]
  have h2 := splice_mid (X := A ++ zs (sz - A.length - C.length)) (Y := zs C.length) (Z := []) C (by simp [zs])
  rw [List.append_nil, List.append_nil, List.append_assoc, ← zs_add, List.length_append, zs_len, show sz - A.length - C.length + C.length = sz - A.length by omega, show A.length + (sz - A.length - C.length) = sz - C.length by omega] at h2
  rw [h2, List.append_assoc]
def RoomPost (g : Nat) (A C : List (Int × Int)) (most n : Nat) (w : World) (e : Ending) (w' : World) : Prop := e = Ending.returned (.tuple #[]) ∧ ∃ M', n ≤ M'.length ∧ Gp w' g w.heap.size A M' C most ∧ Keep (· = g) w w'
set_option maxHeartbeats 4000000 in
set_option maxRecDepth 100000 in
theorem room_new (g bb rb : Nat) (A M C : List (Int × Int)) (most : Nat) (n : Nat) (w : World) (h : Gp w g bb A M C most) (hr : w.cell? ⟨rb, 0, none⟩ = some (.pointer (some ⟨g, 0, none⟩))) (hrg : rb ≠ g) (hrb : rb < w.heap.size) (hn : M.length < n) (hm : A.length + C.length + n ≤ most) :
   Calls Try.prog 31 #[.int .i64 n, .pointer (some ⟨rb, 0, none⟩)] w (RoomPost g A C most n w) := by
  have HG := Lib.hid h
  have hglt := h.lt
  obtain ⟨hs, hmo, ao, hg, hc⟩ := h
  have HGB := Lib.hid hg
  have HC := Lib.hid hc
  have c0 := hg.cell 0
  have c1 := hg.cell 1
  have c2 := hg.cell 2
  have c3 := hg.cell 3
  simp at c0 c1 c2 c3
  clear hg hc
  go_enter Try.func31, Try.ntmps31
  go_upto_region 0 with (fail)
  go_cut [17] (fun s17 wx => s17 = .bool false ∧ ∃ q, wx = w.drewN q)
  case first =>
    have hsub : (A.length : Int) + M.length - A.length = M.length := by omega
    have hge : decide ((n : Int) ≤ M.length) = false := by simp; omega
    go_quiet (fail)
    go_wp2_with fail
    go_meet
    exact ⟨congrArg Value.bool (decide_eq_false (by omega)), _, rfl⟩
  case rest =>
    obtain ⟨rfl, q, rfl⟩ := hcut
    go_upto_region 1 with (fail)
    go_cut [3] (fun s3 wx => s3 = .int .i64 (A.length + C.length + n : Nat) ∧ ∃ q, wx = w.drewN q)
    case first =>
      go_wp2_with fail
      refine (len_any g bb _ M _ most _ (gp_drew HG.out q)).mono ?_
      rintro e w1 ⟨rfl, q', rfl⟩
      go_wp2_with fail
      go_meet
      exact ⟨congrArg (Value.int .i64) (by omega), q + q', rfl⟩
    case rest =>
      obtain ⟨rfl, q', rfl⟩ := hcut
      obtain ⟨sz, hsz⟩ : ∃ sz : Nat, max (min (2 * (A.length + C.length + n)) most) (A.length + C.length + n) = sz := ⟨_, rfl⟩
      have hsz1 : A.length + C.length + n ≤ sz := by omega
      have hsz2 : sz ≤ most := by omega
      have HSZ := Lib.hid hsz
      clear hsz
      go_upto_region 2 with (fail)
      go_cut [4] (fun s4 wx => s4 = .int .i64 (sz : Nat) ∧ wx = w.drewN q')
      case first =>
        go_wp2_with fail
        all_goals
          go_meet
          have hsz := HSZ.out
          exact ⟨congrArg (Value.int .i64) (by omega), rfl⟩
      case rest =>
        obtain ⟨rfl, rfl⟩ := hcut
        go_upto_region 3 with (fail)
        go_cut [5] (fun s5 wx => s5 = .int .i64 (C.length : Nat) ∧ ∃ q, wx = w.drewN q)
        case first =>
          go_quiet (fail)
          go_wp2_with fail
          go_meet
          exact ⟨congrArg (Value.int .i64) (by omega), _, drewN_add _ _ _⟩
        case rest =>
          obtain ⟨rfl, q2, rfl⟩ := hcut
          go_upto_region 4 with (fail)
          go_cut [6] (fun s6 wx => s6 = .slice (some ⟨w.heap.size, 0, none⟩) sz sz ∧ Hid (Blk wx w.heap.size (sg (zs sz)).toArray 28) ∧ Hid (Below w.heap.size w wx) ∧ Hid (wx.heap.size = w.heap.size + 1))
          case first =>
            go_wp2_with (refine wpList_make_blk _ rfl (.tmp 41) (.tmp 41) 22 rfl 28 (.agg #[.int .i64 0, .int .i64 0]) 2 16 Try.underlying22 info28 .i64 .i64 _ _ sz sz rfl rfl rfl rfl (Nat.le_refl _) (by omega) (by unfold maxLen; omega) ?_; intro w1 hb1 hbl hsz1')
            go_meet
            refine ⟨rfl, ?_, ?_, hsz1'⟩
            · rw [← made_zs]; exact hb1
            · exact (show Below w.heap.size w (w.drewN q2) from ⟨rfl, rfl, rfl, Nat.le_refl _, fun _ _ => rfl⟩).trans hbl.out
          case rest =>
            obtain ⟨rfl, hb4, hbl4, hz4⟩ := hcut
            clear c0 c1 c2 c3
            have HG4 := Lib.hid (HGB.out.below hbl4.out hglt)
            have HC4 : Hid (ao = none ∧ A.length + M.length + C.length = 0 ∨ ao = some ⟨bb, 0, none⟩ ∧ bb ≠ g ∧ Blk wc bb (sg (A ++ (M ++ C))).toArray 28) := by
              rcases HC.out with h | ⟨h1, h2, h3⟩
              · exact .inl h
              · exact .inr ⟨h1, h2, h3.below hbl4.out h3.lt⟩
            have kr : wc.cell? ⟨rb, 0, none⟩ = some (.pointer (some ⟨g, 0, none⟩)) := (hbl4.out.cell (p := ⟨rb, 0, none⟩) hrb).trans hr
            have k0 := HG4.out.cell 0
            have k1 := HG4.out.cell 1
            have k2 := HG4.out.cell 2
            simp at k0 k1 k2
            have KR := Lib.hid kr
            go_upto_region 5 with (fail)
            go_cut [] (fun wx => Hid (Blk wx w.heap.size (sg (A ++ zs (sz - A.length))).toArray 28) ∧ Hid (Keep (· = w.heap.size) wc wx))
            case first =>
              rename_i J K' hJ hK'
              have hcd1 : (A.length : Int) ≤ (A.length : Int) + M.length + C.length := by omega
              go_still_tail 10, (by kernel_rfl)
              change wpList _ _ _ _ _ wc.drew
              refine wpList_copy2 rfl (.tmp 43) (.tmp 52) 22 22 rfl 28 2 Try.underlying22 sz28 (by decide) _ _ _ _ _ _ rfl rfl w.heap.size 0 _ 28 hb4.out.drew (sg A) ?_ ?_ ?_ (sg_one A) ?_
              · rw [sg_len]; show _ = min _ _ * 2; omega
              · intro hp
                rw [sg_len] at hp
                rcases HC4.out with ⟨rfl, h0⟩ | ⟨rfl, hne, hB⟩
                · omega
                · exact ⟨rfl, _, rfl, blk_src hB.drew (List.nil_append _).symm rfl⟩
              · rw [sg_len, sg_len, zs_len]; omega
              · intro w3 hb3 hk3
                refine wpList_nil (hK' _ _ (Met.intro (hJ _ _ ?_)))
                (repeat apply Exists.intro)
                refine ⟨⟨?_, ?_⟩, rfl⟩
                · rw [← room_sp1 (by omega)]; exact hb3
                · exact (Keep.refl _ _).drew.trans hk3.out
            case rest =>
              obtain ⟨hb5, hk5⟩ := hcut
              clear k0 k1 k2 kr
              have HG5 := Lib.hid (hk5.out.blk HG4.out (by omega))
              have HC5 : Hid (ao = none ∧ A.length + M.length + C.length = 0 ∨ ao = some ⟨bb, 0, none⟩ ∧ bb ≠ g ∧ Blk wc bb (sg (A ++ (M ++ C))).toArray 28) := by
                rcases HC4.out with h | ⟨h1, h2, h3⟩
                · exact .inl h
                · refine .inr ⟨h1, h2, hk5.out.blk h3 ?_⟩
                  rcases HC.out with h | ⟨_, _, h4⟩
                  · rw [h.1] at h1; cases h1
                  · have := h4.lt; omega
              have k0 := HG5.out.cell 0
              have k1 := HG5.out.cell 1
              have k2 := HG5.out.cell 2
              simp at k0 k1 k2
              have hz4' := hz4.out
              have kr : wc.cell? ⟨rb, 0, none⟩ = some (.pointer (some ⟨g, 0, none⟩)) := (hk5.out.cell (p := ⟨rb, 0, none⟩) (by show rb < _; omega) (by show ¬ rb = _; omega)).trans KR.out
              have KR5 := Lib.hid kr
              clear hz4'
              go_upto_region 6 with (fail)
              go_cut [] (fun wx => Hid (Blk wx w.heap.size (sg (A ++ (zs (sz - A.length - C.length) ++ C))).toArray 28) ∧ Hid (Keep (· = w.heap.size) wc wx))
              case first =>
                rename_i J K' hJ hK'
                have hwr : IntKind.i64.wrap ((sz : Int) - C.length) = (sz : Int) - C.length := by rw [IntKind.wrap_i64]; omega
                have hcd1 : (0 : Int) ≤ (sz : Int) - C.length ∧ (sz : Int) - C.length ≤ sz := by omega
                have hcd3 : (C.length : Int) ≤ sz := by omega
                have hcd2 : (0 : Int) ≤ (A.length : Int) + M.length ∧ (A.length : Int) + M.length ≤ (A.length : Int) + M.length + C.length := by omega
                have htn1 : ((sz : Int) - C.length).toNat = sz - C.length := by omega
                have htn2 : ((A.length : Int) + M.length).toNat = A.length + M.length := by omega
                have hln1 : sz - (sz - C.length) = C.length := by omega
                go_still_tail 14, (by kernel_rfl)
                change wpList _ _ _ _ _ wc.drew
                refine wpList_copy2 rfl (.tmp 58) (.tmp 67) 22 22 rfl 28 2 Try.underlying22 sz28 (by decide) _ _ _ _ _ _ rfl rfl w.heap.size ((sz - C.length) * 2) _ 28 hb5.out.drew (sg C) ?_ ?_ ?_ (sg_one C) ?_
                · rw [sg_len]; show _ = min _ _ * 2; omega
                · intro hp
                  rw [sg_len] at hp
                  rcases HC5.out with ⟨rfl, h0⟩ | ⟨rfl, hne, hB⟩
                  · omega
                  · refine ⟨if_neg (by omega), ⟨bb, (A.length + M.length) * 2, none⟩, (if_neg (by rintro rfl; simp at hp)).trans ?_, blk_src hB.drew (show _ = (A ++ M) ++ (C ++ []) by simp) (by simp)⟩
                    simp [Addr.add]
                    omega
                · rw [sg_len, sg_len, List.length_append, zs_len]; omega
                · intro w3 hb3 hk3
                  refine wpList_nil (hK' _ _ (Met.intro (hJ _ _ ?_)))
                  (repeat apply Exists.intro)
                  refine ⟨⟨?_, ?_⟩, rfl⟩
                  · rw [← room_sp2 (by omega)]; exact hb3
                  · exact (Keep.refl _ _).drew.trans hk3.out
              case rest =>
                obtain ⟨hb6, hk6⟩ := hcut
                clear k0 k1 k2 kr
                have HG6 := Lib.hid (hk6.out.blk HG5.out (by omega))
                have k0 := HG6.out.cell 0
                have k1 := HG6.out.cell 1
                have k2 := HG6.out.cell 2
                have kf := HG6.out.free
                simp at k0 k1 k2
                have hs5 := hk5.out.size
                have hz4' := hz4.out
                have kr : wc.cell? ⟨rb, 0, none⟩ = some (.pointer (some ⟨g, 0, none⟩)) := (hk6.out.cell (p := ⟨rb, 0, none⟩) (by show rb < _; omega) (by show ¬ rb = _; omega)).trans KR5.out
                clear hz4' hs5
                go_wp2_with fail
                have hs5 := hk5.out.size
                have hz4' := hz4.out
                have hlt6 := hb6.out.lt
                have hbl := hbl4.out
                rw [show (sz : Int) - C.length = ((sz - C.length : Nat) : Int) by omega]
                refine bodyPost_end (results_none rfl _ _ _) rfl ⟨rfl, zs (sz - A.length - C.length), ?_, ?_, ?_⟩
                · rw [zs_len]; omega
                · refine gp_mk ?_ hmo ?_ ((HG6.out.set 0 (.slice (some ⟨w.heap.size, 0, none⟩) sz sz)).set 2 (.int .i64 (sz - C.length : Nat))) ((hb6.out.other _ ?_).other _ ?_) ?_ rfl ?_ rfl
                  · rw [zs_len]; omega
                  · omega
                  · show g ≠ _; omega
                  · show g ≠ _; omega
                  · rw [zs_len]; omega
                  · rw [zs_len]; omega
                · exact Keep.setCell (S := (· = g)) (Keep.setCell (S := (· = g)) ((Keep.of_below hbl).step (hk5.out.trans hk6.out) (fun i hi => .inr (Nat.le_of_eq hi.symm))) _ (.inl (show g = g from rfl))) _ (.inl (show g = g from rfl))
end Go.Proofs.Ytidomomdfdkphaa
