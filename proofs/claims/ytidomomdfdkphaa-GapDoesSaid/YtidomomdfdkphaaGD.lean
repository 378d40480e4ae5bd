/- The walk of GapFull: for every number of two bytes and every sign it answers true, and nothing that was there before is written. -/
import Derived.Test.YtidomomdfdkphaaGC
namespace Go.Proofs.Ytidomomdfdkphaa
open Go.RowKit
theorem zs_rs (n : Nat) : (zs n).all rs = true := by
  rw [List.all_eq_true]
  intro x hx
  obtain rfl := List.eq_of_mem_replicate hx
  decide
theorem made_65537 : madeCells #[Value.int .i64 0, .int .i64 0] 131074 = (sg (zs 65537)).toArray := made_zs 65537
theorem many_zs : ∃ L : List (Int × Int), 65537 = L.length ∧ L.all rs = true ∧ madeCells #[Value.int .i64 0, .int .i64 0] 131074 = (sg L).toArray := ⟨zs 65537, (zs_len _).symm, zs_rs _, made_65537⟩
section
variable {B g : Nat} {w : World} {A C : List (Int × Int)} {most : Nat}
theorem Gv.insert' (h : Gv B g w A C most) (hB : B ≤ w.heap.size) {b cap m : Nat} {ao : Option Addr} {l : List (Int × Int)} (hm : m = l.length) (hs : Sl w b ao l) (hbg : b ≠ g) (hl : m ≤ 100000) (hr : l.all rs = true) (hf : A.length + C.length + m ≤ most) :
   Calls Try.prog 13 #[.pointer (some ⟨g, 0, none⟩), .slice ao m cap] w fun e w' => e = .returned (.int .i64 0) ∧ Gv B g w' (A ++ l) C most ∧ Below B w w' := by
  subst hm; exact h.insert hB hs hbg hl hr hf
theorem Gv.insertFull' (h : Gv B g w A C most) {b cap m : Nat} {ao : Option Addr} {l : List (Int × Int)} (hm : m = l.length) (hs : Sl w b ao l) (hl : m ≤ 1000000) (hr : l.all rs = true) (hf : most < A.length + C.length + m) :
   Calls Try.prog 13 #[.pointer (some ⟨g, 0, none⟩), .slice ao m cap] w fun e w' => e = .returned (.int .i64 8) ∧ Gv B g w' A C most ∧ Below w.heap.size w w' := by
  subst hm; exact h.insertFull hs hl hr hf
theorem Gv.setFull' (h : Gv B g w A C most) {b cap m : Nat} {ao : Option Addr} {l : List (Int × Int)} (p : Int) (hm : m = l.length) (hs : Sl w b ao l) (hl : m ≤ 1000000) (hr : l.all rs = true) (hf : most < m) :
   Calls Try.prog 11 #[.pointer (some ⟨g, 0, none⟩), .slice ao m cap, .int .i64 p] w fun e w' => e = .returned (.int .i64 8) ∧ Gv B g w' A C most ∧ Below w.heap.size w w' := by
  subst hm; exact h.setFull p hs hl hr hf
theorem Gv.getLast {x : Int × Int} (h : Gv B g w (A ++ [x]) C most) :
   Calls Try.prog 9 #[.pointer (some ⟨g, 0, none⟩), .int .i64 A.length] w fun e w' => e = .returned (.tuple #[.agg #[.int .i64 x.1, .int .i64 x.2], .bool true]) ∧ Gv B g w' (A ++ [x]) C most ∧ Below w.heap.size w w' := by
  have := h.getLo A.length (by simp)
  simpa using this
end
set_option maxHeartbeats 1000000 in
theorem full_bad (x : Int × Int) (n : Nat) (w : World) (hr : rs x = false) :
   Calls Try.prog 4 #[.int .u16 n, .agg #[.int .i64 x.1, .int .i64 x.2]] w fun e w' => e = .returned (.bool true) ∧ Below w.heap.size w w' := by
  have HR := Lib.hid hr
  clear hr
  go_enter Try.func4, Try.ntmps4
  go_wp2_with fail
  refine (rright_any x _).mono ?_
  rintro e w1 ⟨rfl, hb1⟩
  rw [HR.out]
  have HB1 : Hid (Below w.heap.size w w1) := Below.trans (by go_grown) (hb1.mono (by simp))
  clear hb1
  go_wp2_with fail
  refine (awake_any _).mono ?_
  rintro e w2 ⟨rfl, hb2⟩
  go_wp2_with fail
  go_ret
  exact ⟨rfl, HB1.out.trans (hb2.mono HB1.out.size)⟩
set_option maxHeartbeats 4000000 in
set_option maxRecDepth 100000 in
theorem full_ok (x : Int × Int) (n : Nat) (hn : n ≤ 65535) (w : World) (hr : rs x = true) :
   Calls Try.prog 4 #[.int .u16 n, .agg #[.int .i64 x.1, .int .i64 x.2]] w fun e w' => e = .returned (.bool true) ∧ Below w.heap.size w w' := by
  have HR := Lib.hid hr
  clear hr
  go_enter Try.func4, Try.ntmps4
  go_wp2_with fail
  obtain ⟨w0, hw0⟩ : ∃ w0, w0 = w.alloc (.cells #[.int .i64 x.1, .int .i64 x.2] 28) := ⟨_, rfl⟩
  rw [← hw0]
  have HB0 : Hid (Below w.heap.size w w0) := by show Below _ _ _; rw [hw0]; go_grown
  have HX0 : Hid (Blk w0 w.heap.size #[.int .i64 x.1, .int .i64 x.2] 28) := by show Blk _ _ _ _; rw [hw0]; exact Blk.new w _ _
  have HZ0 : Hid (w0.heap.size = w.heap.size + 1) := by show _ = _; rw [hw0]; simp
  clear hw0
  refine (rright_any x _).mono ?_
  rintro e w1 ⟨rfl, hb1⟩
  rw [HR.out]
  have HB1 := Lib.hid hb1
  clear hb1
  go_wp2_with fail
  refine (awake_any _).mono ?_
  rintro e w2 ⟨rfl, hb2⟩
  have HB2 : Hid (Below w0.heap.size w0 w2) := HB1.out.trans (hb2.mono HB1.out.size)
  clear hb2
  go_wp2_with fail
  refine (new_ok 65536 _ (by decide) (by decide)).mono ?_
  rintro e w3 ⟨rfl, hw3⟩
  have HG3 : Hid (Gv w0.heap.size w2.heap.size w3 [] [] 65536) := by show Gv _ _ _ _ _ _; rw [← hw3]; exact gv_new 65536 (by decide) w2 HB2.out.size
  have HB3 : Hid (Below w0.heap.size w0 w3) := by show Below _ _ _; rw [← hw3]; exact HB2.out.alloc HB2.out.size _
  clear hw3
  have hs3 := HB3.out.size
  have hg3 := HG3.out.lt
  go_wp2_with (refine wpList_make_blk _ rfl (.tmp 37) (.tmp 37) 22 rfl 28 (.agg #[.int .i64 0, .int .i64 0]) 2 16 Try.underlying22 info28 .i64 .i64 _ _ (65536 - n) (65536 - n) rfl rfl ?a1 ?a2 (Nat.le_refl _) (by omega) (by unfold maxLen; omega) ?a3)
  case a3 =>
    intro w4 hb4 hbl4 hz4
    have HK4 : Hid (Blk w4 w3.heap.size (sg (zs (65536 - n))).toArray 28) := by show Blk _ _ _ _; rw [← made_zs]; exact hb4.out
    have HB4 : Hid (Below w0.heap.size w0 w4) := HB3.out.trans (hbl4.out.mono hs3)
    clear hb4 hz4
    go_wp2_with fail
    refine ((HG3.out.below hbl4.out).insert' HB4.out.size (zs_len _).symm (sl_blk HK4.out) (by omega) (by omega) (zs_rs _) (by simp)).mono ?_
    rintro e w5 ⟨rfl, hg5, hb5⟩
    have HG5 := Lib.hid hg5
    have HB5 : Hid (Below w0.heap.size w0 w5) := HB4.out.trans hb5
    clear hg5 hb5 hs3 hg3
    go_wp2_with fail
    refine (HG5.out.move HB5.out.size _).mono ?_
    rintro e w6 ⟨rfl, hg6, hb6⟩
    have HGE : Hid (∃ A1 C1 : List (Int × Int), A1.length + C1.length = 65536 - n ∧ (n = 0 → A1 = []) ∧ Gv w0.heap.size w2.heap.size w6 A1 C1 65536) := by
      refine ⟨_, _, ?_, ?_, hg6⟩
      · rw [← List.length_append, List.take_append_drop]; simp [zs_len]
      · rintro rfl
        apply List.eq_nil_of_length_eq_zero
        rw [List.length_take]; unfold plc; omega
    have HB6 : Hid (Below w0.heap.size w0 w6) := HB5.out.trans hb6
    clear hg6 hb6
    obtain ⟨A1, C1, hl1, hn1, hg6⟩ := HGE.out
    have HG6 := Lib.hid hg6
    have HL1 := Lib.hid hl1
    have HN1 := Lib.hid hn1
    have hs6 := HB6.out.size
    have hgl6 := HG6.out.lt
    clear hg6 hn1 hl1 HGE
    go_wp2_with (refine wpList_make_blk _ rfl (.tmp 47) (.tmp 47) 22 rfl 28 (.agg #[.int .i64 0, .int .i64 0]) 2 16 Try.underlying22 info28 .i64 .i64 _ _ n n rfl rfl rfl rfl (Nat.le_refl _) (by omega) (by unfold maxLen; omega) ?b3)
    case b3 =>
      intro w7 hb7 hbl7 hz7
      have HK7 : Hid (Blk w7 w6.heap.size (sg (zs n)).toArray 28) := by show Blk _ _ _ _; rw [← made_zs]; exact hb7.out
      have HB7 : Hid (Below w0.heap.size w0 w7) := HB6.out.trans (hbl7.out.mono hs6)
      clear hb7 hz7
      go_wp2_with fail
      have hl1 := HL1.out
      refine ((HG6.out.below hbl7.out).insert' HB7.out.size (zs_len n).symm (sl_blk HK7.out) (by omega) (by omega) (zs_rs _) (by omega)).mono ?_
      clear hl1
      rintro e w8 ⟨rfl, hg8, hb8⟩
      have HB8 : Hid (Below w0.heap.size w0 w8) := HB7.out.trans hb8
      have HGE : Hid (∃ A2 : List (Int × Int), A2.length + C1.length = 65536 ∧ (A2 = [] ∨ ∃ A y, A2 = A ++ [y]) ∧ Gv w0.heap.size w2.heap.size w8 A2 C1 65536) := by
        refine ⟨_, ?_, ?_, hg8⟩
        · have := HL1.out; rw [List.length_append, zs_len]; omega
        · rcases List.eq_nil_or_concat (A1 ++ zs n) with h | ⟨A, y, h⟩
          · exact .inl h
          · exact .inr ⟨A, y, by simpa using h⟩
      clear hg8 hb8 hs6 hgl6
      obtain ⟨A2, hl2, hn2, hg8⟩ := HGE.out
      have HG8 := Lib.hid hg8
      have HL2 := Lib.hid hl2
      have HN2 := Lib.hid hn2
      clear hg8 hl2 hn2 HGE
      go_wp2_with fail
      refine (HG8.out.at).mono ?_
      rintro e w9 ⟨rfl, rfl⟩
      have HXa : Hid (Blk w8 w.heap.size #[.int .i64 x.1, .int .i64 x.2] 28) := HX0.out.below HB8.out HX0.out.lt
      have x0 := HXa.out.cell 0
      have x1 := HXa.out.cell 1
      simp at x0 x1
      have hs8 := HB8.out.size
      have hgl8 := HG8.out.lt
      go_wp2_with fail
      have hl2 := HL2.out
      refine ((HG8.out.below (by go_grown)).insertFull' (m := 1) (l := [x]) rfl (sl_blk (Blk.new w8 _ 28)) (by omega) (by simp [HR.out]) (by omega)).mono ?_
      clear hl2
      rintro e w10 ⟨rfl, hg10, hb10⟩
      have HG10 := Lib.hid hg10
      have HB10 : Hid (Below w0.heap.size w0 w10) := (HB8.out.alloc hs8 _).trans (hb10.mono (by simp; omega))
      clear hg10 hb10 x0 x1 hs8 hgl8
      have hs10 := HB10.out.size
      have hgl10 := HG10.out.lt
      go_wp2_with (refine wpList_make_blk _ rfl (.const (.int .i64 65537)) (.const (.int .i64 65537)) 22 rfl 28 (.agg #[.int .i64 0, .int .i64 0]) 2 16 Try.underlying22 info28 .i64 .i64 _ _ 65537 65537 rfl rfl (by omega) (by omega) (Nat.le_refl _) (by omega) (by unfold maxLen; omega) ?d3)
      case d3 =>
        intro w11 hb11 hbl11 hz11
        obtain ⟨L, hL1, hL2, hL3⟩ := many_zs
        have HLR := Lib.hid hL2
        have HLL := Lib.hid hL1
        have HK11 : Hid (Blk w11 w10.heap.size (sg L).toArray 28) := by show Blk _ _ _ _; rw [← hL3]; exact hb11.out
        have HB11 : Hid (Below w0.heap.size w0 w11) := HB10.out.trans (hbl11.out.mono hs10)
        clear hL1 hL2 hL3 hb11 hz11
        go_wp2_with fail
        refine ((HG10.out.below hbl11.out).setFull' 0 HLL.out (sl_blk HK11.out) (by omega) HLR.out (by omega)).mono ?_
        rintro e w12 ⟨rfl, hg12, hb12⟩
        have HG12 := Lib.hid hg12
        have HB12 : Hid (Below w0.heap.size w0 w12) := HB11.out.trans (hb12.mono HB11.out.size)
        clear hg12 hb12 hs10 hgl10
        go_wp2_with fail
        refine (HG12.out.len).mono ?_
        rintro e w13 ⟨rfl, q, rfl⟩
        rw [HL2.out]
        have HG13 : Hid (Gv w0.heap.size w2.heap.size (w12.drewN q) A2 C1 65536) := HG12.out.below (below_drewN (Below.refl _ _) q)
        have HB13 : Hid (Below w0.heap.size w0 (w12.drewN q)) := below_drewN HB12.out q
        go_wp2_with fail
        refine (HG13.out.at).mono ?_
        rintro e w14 ⟨rfl, rfl⟩
        go_wp2_with fail
        clear HXa
        rcases HN2.out with hA | ⟨A, y, hA⟩
        · have hl2 := HL2.out
          rw [hA] at hl2
          obtain ⟨c, C', hC⟩ : ∃ c C', C1 = c :: C' := by
            cases C1 with
            | nil => simp at hl2
            | cons c C' => exact ⟨c, C', rfl⟩
          rw [hC] at hl2
          have HG14 : Hid (Gv w0.heap.size w2.heap.size (w12.drewN q) ([] ++ []) ([c] ++ C') 65536) := by
            have h := HG13.out
            rw [hA, hC] at h
            exact h
          have HLC : Hid (([] : List (Int × Int)).length + C'.length = 65535) := by show _ = _; simp at hl2 ⊢; omega
          clear hA hC hl2
          refine (HG14.out.cutLeft HB13.out.size (-1) (by decide) (by decide)).mono ?_
          rintro e w15 ⟨rfl, -, hg15, hb15⟩
          have HG15 := Lib.hid hg15
          have HB15 : Hid (Below w0.heap.size w0 w15) := HB13.out.trans hb15
          clear hg15 hb15
          go_wp2_with fail
          refine (HG15.out.cutRight (C1 := [c]) (C2 := C') HB15.out.size 1 (by decide) (by have := HLC.out; simp at this ⊢; omega)).mono ?_
          rintro e w16 ⟨rfl, -, hg16, hb16⟩
          have HB16 : Hid (Below w0.heap.size w0 w16) := HB15.out.trans hb16
          obtain ⟨A3, C3, hl3, hg17⟩ : ∃ A3 C3 : List (Int × Int), A3.length + C3.length = 65535 ∧ Gv w0.heap.size w2.heap.size w16 A3 C3 65536 := ⟨_, _, HLC.out, hg16⟩
          have HG16 := Lib.hid hg17
          have HL3 := Lib.hid hl3
          clear hg16 hb16 hg17 hl3
          have HXb : Hid (Blk w16 w.heap.size #[.int .i64 x.1, .int .i64 x.2] 28) := HX0.out.below HB16.out HX0.out.lt
          have x0 := HXb.out.cell 0
          have x1 := HXb.out.cell 1
          simp at x0 x1
          have hs16 := HB16.out.size
          have hgl16 := HG16.out.lt
          go_wp2_with fail
          have hl3 := HL3.out
          refine ((HG16.out.below (by go_grown)).insert' (by simp; omega) (m := 1) (l := [x]) rfl (sl_blk (Blk.new w16 _ 28)) (by omega) (by omega) (by simp [HR.out]) (by omega)).mono ?_
          clear hl3
          rintro e w17 ⟨rfl, hg17, hb17⟩
          have HG17 := Lib.hid hg17
          have HB17 : Hid (Below w0.heap.size w0 w17) := (HB16.out.alloc hs16 _).trans hb17
          have hA3 : A3.length ≤ 65535 := by have := HL3.out; omega
          clear hg17 hb17 x0 x1 hs16 hgl16
          go_wp2_with fail
          refine (HG17.out.at).mono ?_
          rintro e w18 ⟨rfl, rfl⟩
          go_wp2_with fail
          refine (HG17.out.getLast).mono ?_
          rintro e w19 ⟨rfl, hg19, hb19⟩
          have HG19 := Lib.hid hg19
          have HB19 : Hid (Below w0.heap.size w0 w19) := HB17.out.trans (hb19.mono HB17.out.size)
          clear hg19 hb19
          have hs19 := HB19.out.size
          go_wp2_with fail
          refine ((HG19.out.below (by go_grown)).len).mono ?_
          rintro e w20 ⟨rfl, q2, rfl⟩
          have hl4 : (A3 ++ [x]).length + C3.length = 65536 := by have := HL3.out; simp; omega
          rw [hl4]
          have HXc : Hid (Blk w19 w.heap.size #[.int .i64 x.1, .int .i64 x.2] 28) := HX0.out.below HB19.out HX0.out.lt
          have y0 := HXc.out.cell 0
          have y1 := HXc.out.cell 1
          have hz0 := HZ0.out
          have hwne : w.heap.size < w19.heap.size := by omega
          simp at y0 y1
          clear hl4 hz0
          go_wp2_with fail
          go_ret
          exact ⟨rfl, HB0.out.trans ((below_drewN (HB19.out.alloc hs19 _) q2).mono (by have := HZ0.out; omega))⟩
        · have hl2 := HL2.out
          rw [hA] at hl2
          have HG14 : Hid (Gv w0.heap.size w2.heap.size (w12.drewN q) (A ++ [y]) C1 65536) := by
            have h := HG13.out
            rw [hA] at h
            exact h
          have HLC : Hid (A.length + C1.length = 65535) := by show _ = _; simp at hl2 ⊢; omega
          clear hA hl2
          refine (HG14.out.cutLeft HB13.out.size (-1) (by decide) (by simp; omega)).mono ?_
          rintro e w16 ⟨rfl, -, hg16, hb16⟩
          have HB16 : Hid (Below w0.heap.size w0 w16) := HB13.out.trans hb16
          obtain ⟨A3, C3, hl3, hg17⟩ : ∃ A3 C3 : List (Int × Int), A3.length + C3.length = 65535 ∧ Gv w0.heap.size w2.heap.size w16 A3 C3 65536 := ⟨_, _, HLC.out, hg16⟩
          have HG16 := Lib.hid hg17
          have HL3 := Lib.hid hl3
          clear hg16 hb16 hg17 hl3
          have HXb : Hid (Blk w16 w.heap.size #[.int .i64 x.1, .int .i64 x.2] 28) := HX0.out.below HB16.out HX0.out.lt
          have x0 := HXb.out.cell 0
          have x1 := HXb.out.cell 1
          simp at x0 x1
          have hs16 := HB16.out.size
          have hgl16 := HG16.out.lt
          go_wp2_with fail
          have hl3 := HL3.out
          refine ((HG16.out.below (by go_grown)).insert' (by simp; omega) (m := 1) (l := [x]) rfl (sl_blk (Blk.new w16 _ 28)) (by omega) (by omega) (by simp [HR.out]) (by omega)).mono ?_
          clear hl3
          rintro e w17 ⟨rfl, hg17, hb17⟩
          have HG17 := Lib.hid hg17
          have HB17 : Hid (Below w0.heap.size w0 w17) := (HB16.out.alloc hs16 _).trans hb17
          have hA3 : A3.length ≤ 65535 := by have := HL3.out; omega
          clear hg17 hb17 x0 x1 hs16 hgl16
          go_wp2_with fail
          refine (HG17.out.at).mono ?_
          rintro e w18 ⟨rfl, rfl⟩
          go_wp2_with fail
          refine (HG17.out.getLast).mono ?_
          rintro e w19 ⟨rfl, hg19, hb19⟩
          have HG19 := Lib.hid hg19
          have HB19 : Hid (Below w0.heap.size w0 w19) := HB17.out.trans (hb19.mono HB17.out.size)
          clear hg19 hb19
          have hs19 := HB19.out.size
          go_wp2_with fail
          refine ((HG19.out.below (by go_grown)).len).mono ?_
          rintro e w20 ⟨rfl, q2, rfl⟩
          have hl4 : (A3 ++ [x]).length + C3.length = 65536 := by have := HL3.out; simp; omega
          rw [hl4]
          have HXc : Hid (Blk w19 w.heap.size #[.int .i64 x.1, .int .i64 x.2] 28) := HX0.out.below HB19.out HX0.out.lt
          have y0 := HXc.out.cell 0
          have y1 := HXc.out.cell 1
          have hz0 := HZ0.out
          have hwne : w.heap.size < w19.heap.size := by omega
          simp at y0 y1
          clear hl4 hz0
          go_wp2_with fail
          go_ret
          exact ⟨rfl, HB0.out.trans ((below_drewN (HB19.out.alloc hs19 _) q2).mono (by have := HZ0.out; omega))⟩
  all_goals omega
end Go.Proofs.Ytidomomdfdkphaa
