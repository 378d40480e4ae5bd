/- The gap buffer's Insert. -/
import Derived.Test.YtidomomdfdkphaaG4
namespace Go.Proofs.Ytidomomdfdkphaa
open Go.RowKit
theorem addr_add (b off j : Nat) : (⟨b, off, none⟩ : Addr).add j = ⟨b, off + j, none⟩ := by unfold Addr.add; split <;> simp_all
/-- What room leaves. -/
def RoomAny (g bb : Nat) (A C : List (Int × Int)) (most n : Nat) (w : World) (e : Ending) (w' : World) : Prop :=
  e = Ending.returned (.tuple #[]) ∧ ∃ bb' M', n ≤ M'.length ∧ (bb' = bb ∨ w.heap.size ≤ bb') ∧ Gp w' g bb' A M' C most ∧ Keep (· = g) w w'
theorem room_any (g bb rb : Nat) (A M C : List (Int × Int)) (most : Nat) (n : Nat) (w : World) (h : Gp w g bb A M C most) (hr : w.cell? ⟨rb, 0, none⟩ = some (.pointer (some ⟨g, 0, none⟩))) (hrg : rb ≠ g) (hrb : rb < w.heap.size) (hm : A.length + C.length + n ≤ most) :
   Calls Try.prog 31 #[.int .i64 n, .pointer (some ⟨rb, 0, none⟩)] w (RoomAny g bb A C most n w) := by
  by_cases hn : n ≤ M.length
  · refine (room_has g bb rb A M C most n w h hr hn).mono ?_
    rintro e w' ⟨rfl, m, rfl⟩
    exact ⟨rfl, bb, M, hn, .inl rfl, gp_drew h m, keep_drewN w m⟩
  · refine (room_new g bb rb A M C most n w h hr hrg hrb (by omega) hm).mono ?_
    rintro e w' ⟨rfl, M', h1, h2, h3⟩
    exact ⟨rfl, w.heap.size, M', h1, .inr (Nat.le_refl _), h2, h3⟩
theorem roomf_any (g : Nat) (w : World) : Calls Try.prog 27 #[.pointer (some ⟨g, 0, none⟩)] w fun e w' => e = .returned (.func (.func 31) #[] #[.pointer (some ⟨w.heap.size, 0, none⟩)]) ∧ w.alloc (.cells #[.pointer (some ⟨g, 0, none⟩)] 25) = w' := by
  go_enter Try.func27, Try.ntmps27
  go_wp2
  go_ret
  exact ⟨rfl, rfl⟩
theorem ins_sp {A M C l : List (Int × Int)} (h : l.length ≤ M.length) : splice (A ++ (M ++ C)) A.length l = (A ++ l) ++ (M.drop l.length ++ C) := by
  unfold splice
  rw [List.take_left, List.drop_length_add_append, List.drop_append_of_le_length h, ← List.append_assoc]
set_option maxHeartbeats 400000 in
theorem insert_nil (a : Value) (w : World) : Calls Try.prog 13 #[.pointer none, a] w fun e w' => e = .returned (.int .i64 1) ∧ w' = w := by
  go_enter Try.func13, Try.ntmps13
  go_wp2
  go_ret
  exact ⟨rfl, rfl⟩
set_option maxHeartbeats 1000000 in
theorem insert_bad (g b : Nat) (ao : Option Addr) (cap : Nat) (l : List (Int × Int)) (w : World) (hs : Sl w b ao l) (hl : l.length ≤ 1000000) (hr : l.all rs = false) :
   Calls Try.prog 13 #[.pointer (some ⟨g, 0, none⟩), .slice ao l.length cap] w fun e w' => e = .returned (.int .i64 2) ∧ Below w.heap.size w w' := by
  have HS := Lib.hid hs
  have HR := Lib.hid hr
  clear hs hr
  go_enter Try.func13, Try.ntmps13
  go_wp2_with fail
  refine (check_any b ao cap l _ HS.out hl).mono ?_
  rintro e w2 ⟨rfl, hb⟩
  have hc : chk l = 2 := by simp [chk, HR.out]
  rw [hc]
  clear hc
  go_wp2_with fail
  go_ret
  exact ⟨rfl, hb⟩
set_option maxHeartbeats 1000000 in
theorem insert_full (g bb b : Nat) (ao : Option Addr) (cap : Nat) (l A M C : List (Int × Int)) (most : Nat) (w : World) (h : Gp w g bb A M C most) (hs : Sl w b ao l) (hl : l.length ≤ 1000000) (hr : l.all rs = true) (hf : most < A.length + C.length + l.length) :
   Calls Try.prog 13 #[.pointer (some ⟨g, 0, none⟩), .slice ao l.length cap] w fun e w' => e = .returned (.int .i64 8) ∧ Keep (fun _ => False) w w' := by
  have HS := Lib.hid hs
  have HR := Lib.hid hr
  have HG := Lib.hid h
  clear hs hr
  obtain ⟨h1, h2, _⟩ := h
  go_enter Try.func13, Try.ntmps13
  go_wp2_with fail
  refine (check_any b ao cap l _ HS.out hl).mono ?_
  rintro e w2 ⟨rfl, hb⟩
  have hc : chk l = 0 := by simp [chk, HR.out]
  rw [hc]
  clear hc
  have HG2 := Lib.hid (HG.out.below hb)
  have HB := Lib.hid hb
  clear hb
  obtain ⟨_, _, ao', hg2, _⟩ := HG2.out
  have k3 := hg2.cell 3
  simp at k3
  clear hg2
  have hfull : decide ((most : Int) - (A.length + C.length) < l.length) = true := by simp; omega
  go_wp2_with fail
  go_quiet ((go_at_call 15; exact Calls.quiet_of (len_any g bb A M C most _ (gp_drew HG2.out _))))
  go_wp2_with fail
  go_ret
  exact ⟨rfl, (Keep.of_below HB.out).trans (keep_drewN _ _)⟩
theorem gp_push {w : World} {g bb : Nat} {A l M C : List (Int × Int)} {most : Nat} (h : Gp w g bb A (l ++ M) C most) : Gp (w.setCell ⟨g, 1, none⟩ (.int .i64 (A.length + l.length : Nat))) g bb (A ++ l) M C most := by
  obtain ⟨h1, h2, ao, hg, hc⟩ := h
  have e0 : A.length + (l ++ M).length + C.length = (A ++ l).length + M.length + C.length := by simp; omega
  have e1 : A.length + (l ++ M).length = (A ++ l).length + M.length := by simp; omega
  have e2 : A.length + l.length = (A ++ l).length := by simp
  rw [e0] at h1 hg hc
  rw [e1] at hg
  refine ⟨h1, h2, ao, ?_, ?_⟩
  · have := hg.set 1 (.int .i64 (A.length + l.length : Nat))
    rw [e2] at this ⊢
    exact this
  · rcases hc with h | ⟨a, b, c⟩
    · exact .inl h
    · refine .inr ⟨a, b, ?_⟩
      have := c.other (a := ⟨g, 1, none⟩) (.int .i64 (A.length + l.length : Nat)) (fun e => b e.symm)
      simpa using this
/-- What Insert, and Set, leave where they answer OK. -/
def InsPost (g bb : Nat) (A C : List (Int × Int)) (most : Nat) (w : World) (e : Ending) (w' : World) : Prop :=
  e = .returned (.int .i64 0) ∧ ∃ bb' M', (bb' = bb ∨ w.heap.size ≤ bb') ∧ Gp w' g bb' A M' C most ∧ Keep (fun k => k = g ∨ k = bb) w w'
set_option maxHeartbeats 4000000 in
set_option maxRecDepth 100000 in
theorem insert_ok (g bb b : Nat) (ao : Option Addr) (cap : Nat) (l A M C : List (Int × Int)) (most : Nat) (w : World) (h : Gp w g bb A M C most) (hs : Sl w b ao l) (hbg : b ≠ g) (hl : l.length ≤ 100000) (hr : l.all rs = true) (hf : A.length + C.length + l.length ≤ most) :
   Calls Try.prog 13 #[.pointer (some ⟨g, 0, none⟩), .slice ao l.length cap] w (InsPost g bb (A ++ l) C most w) := by
  have HS := Lib.hid hs
  have HR := Lib.hid hr
  have HG := Lib.hid h
  have hglt := h.lt
  clear hs hr
  obtain ⟨h1, h2, _⟩ := h
  go_enter Try.func13, Try.ntmps13
  go_wp2_with fail
  refine (check_any b ao cap l _ HS.out (by omega)).mono ?_
  rintro e w2 ⟨rfl, hb⟩
  have hc : chk l = 0 := by simp [chk, HR.out]
  rw [hc]
  clear hc
  have HG2 := Lib.hid (HG.out.below hb)
  have HS2 := Lib.hid (HS.out.below hb)
  have HB := Lib.hid hb
  have hglt2 : g < w2.heap.size := Nat.lt_of_lt_of_le hglt hb.size
  clear hb
  obtain ⟨_, _, ao', hg2, _⟩ := HG2.out
  have k3 := hg2.cell 3
  simp at k3
  clear hg2
  have hfull : decide ((most : Int) - (A.length + C.length) < l.length) = false := by simp; omega
  go_upto_region 5 with (fail)
  go_cut [19] (fun s19 wx => s19 = .bool false ∧ ∃ q, wx = w2.drewN q)
  case first =>
    go_quiet ((go_at_call 15; exact Calls.quiet_of (len_any g bb A M C most _ (gp_drew HG2.out _))))
    go_wp2_with fail
    go_meet
    exact ⟨rfl, _, rfl⟩
  case rest =>
    obtain ⟨rfl, q, rfl⟩ := hcut
    clear hfull k3
    go_wp2_with fail
    refine (roomf_any g _).mono ?_
    rintro e w3 ⟨rfl, hw3⟩
    have HB3 : Hid (Below w2.heap.size w2 w3) := by
      show Below _ _ _
      rw [← hw3]; exact (show Below w2.heap.size w2 (w2.drewN q) from ⟨rfl, rfl, rfl, Nat.le_refl _, fun _ _ => rfl⟩).alloc (Nat.le_refl _) _
    have HC3 : Hid (w3.cell? ⟨w2.heap.size, 0, none⟩ = some (.pointer (some ⟨g, 0, none⟩))) := by
      show _ = _
      rw [← hw3]; exact (Blk.new (w2.drewN q) _ _).cell 0
    have HZ3 : Hid (w3.heap.size = w2.heap.size + 1) := by show _ = _; rw [← hw3]; simp
    clear hw3
    go_wp2_with fail
    have hz3 := HZ3.out
    refine (room_any g bb w2.heap.size A M C most l.length w3 (HG2.out.below HB3.out) HC3.out (by omega) (by omega) (by omega)).mono ?_
    clear hz3
    rintro e w4 ⟨rfl, bb', M', hM, hb', hg4, hk4⟩
    have HG4 := Lib.hid hg4
    have HS4 : Hid (Sl w4 b ao l) := (HS2.out.below HB3.out).keep hk4 hbg
    have HK4 := Lib.hid hk4
    clear hk4
    obtain ⟨h3, h4, ao', hg, hc⟩ := hg4
    have HGB := Lib.hid hg
    have HC := Lib.hid hc
    have c0 := hg.cell 0
    have c1 := hg.cell 1
    have c2 := hg.cell 2
    simp at c0 c1 c2
    have HB' := Lib.hid hb'
    clear hg hc hb'
    go_upto_region 8 with (fail)
    go_cut [] (fun wx => Hid (Gp wx g bb' A (l ++ M'.drop l.length) C most) ∧ Hid (Keep (fun k => k = bb' ∨ k = g) w4 wx))
    case first =>
      rename_i J K' hJ hK'
      have hcd1 : (A.length : Int) ≤ (A.length : Int) + M'.length := by omega
      have hcd2 : (A.length : Int) + M'.length ≤ (A.length : Int) + M'.length + C.length := by omega
      have hcd3 : (0 : Int) ≤ (A.length : Int) + M'.length := by omega
      have htn1 : ((A.length : Int) + M'.length).toNat = A.length + M'.length := by omega
      have hln1 : A.length + M'.length - A.length = M'.length := by omega
      go_still_tail 14, (by kernel_rfl)
      change wpList _ _ _ _ _ w4.drew
      rcases HC.out with ⟨rfl, h0⟩ | ⟨rfl, hne, hB⟩
      · obtain rfl : l = [] := List.eq_nil_of_length_eq_zero (by omega)
        refine wpList_copy2 rfl (.tmp 37) (.tmp 38) 22 22 rfl 28 2 Try.underlying22 sz28 (by decide) _ _ _ _ _ _ rfl rfl g 0 _ 56 (show Blk w4.drew g #[_, _, _, _] _ from HGB.out.drew) [] ?_ ?_ ?_ ?_ ?_
        · show 0 = min _ _ * 2
          simp
        · intro hp; simp at hp
        · simp
        · simp
        · intro w5 hb5 hk5
          refine wpList_nil (hK' _ _ (Met.intro (hJ _ _ ?_)))
          (repeat apply Exists.intro)
          refine ⟨⟨?_, ?_⟩, rfl⟩
          · refine ⟨by simpa using h3, h4, none, ?_, .inl ⟨rfl, by simpa using h0⟩⟩
            have := hb5.out
            rw [splice_nil] at this
            simpa using this
          · exact (Keep.refl _ _).drew.trans (hk5.out.mono (fun k _ h => .inr h))
      · refine wpList_copy2 rfl (.tmp 37) (.tmp 38) 22 22 rfl 28 2 Try.underlying22 sz28 (by decide) _ _ _ _ _ _ rfl rfl bb' (A.length * 2) _ 28 hB.drew (sg l) ?_ ?_ ?_ (sg_one l) ?_
        · rw [sg_len]; show _ = min _ _ * 2; omega
        · intro hp
          rw [sg_len] at hp
          obtain ⟨_, off, rfl, hcell⟩ := HS4.out (by omega)
          refine ⟨(if_neg (by omega)).trans ?_, _, rfl, fun j v hj => ?_⟩
          · show some (Addr.add _ _) = _
            rw [addr_add, Nat.zero_add]
          · rw [addr_add]; exact hcell j v hj
        · rw [sg_len, sg_len]; simp; omega
        · intro w5 hb5 hk5
          refine wpList_nil (hK' _ _ (Met.intro (hJ _ _ ?_)))
          (repeat apply Exists.intro)
          refine ⟨⟨?_, ?_⟩, rfl⟩
          · rw [splice_sg, ins_sp hM] at hb5
            refine gp_mk ?_ h4 hne (hk5.out.blk HGB.out.drew (by omega)) hb5.out ?_ rfl ?_ ?_
            · simp; omega
            · simp; omega
            · simp; omega
            · simp
          · exact (Keep.refl _ _).drew.trans (hk5.out.mono (fun k _ h => .inl h))
    case rest =>
      obtain ⟨hg5, hk5⟩ := hcut
      clear c0 c1 c2
      obtain ⟨_, _, _, hg5', _⟩ := hg5.out
      have c1 := hg5'.cell 1
      have cf := hg5'.free
      simp at c1
      clear hg5'
      go_wp2_with fail
      rw [show (A.length : Int) + l.length = ((A.length + l.length : Nat) : Int) by omega]
      go_ret
      have hz3 := HZ3.out
      have hz2 := HB.out.size
      refine ⟨rfl, bb', M'.drop l.length, ?_, gp_push hg5.out, ?_⟩
      · rcases HB'.out with h | h
        · exact .inl h
        · right; omega
      · refine Keep.setCell ((((Keep.of_below HB.out).step (Keep.of_below (S := fun _ => False) HB3.out) (fun _ h => h.elim)).step HK4.out (fun i h => .inl (.inl h))).step hk5.out (fun i h => ?_)) _ (.inl (.inl rfl))
        rcases h with h | h
        · subst h
          rcases HB'.out with h | h
          · exact .inl (.inr h)
          · right; omega
        · exact .inl (.inl h)
end Go.Proofs.Ytidomomdfdkphaa
