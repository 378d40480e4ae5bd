/- The macro's Do: a key is kept. -/
import Derived.Test.YtgffmkbcppajoaaDoorM3
import Derived.StillTailTactics
namespace Go.Proofs.YtgffmkbcppajoaaDoor
open Go.RowKit
theorem own_keep {S : Nat → Prop} {w w' : World} {base size n : Nat} {e : TypeId} {v : Value} {xs : List Value} (h : w.ownsRow base e size v n xs) (hk : Keep S w w') (hn : ∀ k, v.ownBlock = some k → ¬ S k) : w'.ownsRow base e size v n xs := by
  refine ⟨h.1, ?_⟩
  rcases h.2 with h0 | ⟨g, cap, cur, rfl, hgb, hg, rest⟩
  · exact .inl h0
  · exact .inr ⟨g, cap, cur, rfl, hgb, (hk.block g (Array.getElem?_eq_some_iff.1 hg).1 (hn g rfl)).trans hg, rest⟩
theorem keep_grown {S : Nat → Prop} {w w' : World} {row : Option Nat} (hg : w.grownBy w' row) (hr : ∀ k, row = some k → S k) : Keep S w w' :=
  ⟨hg.os, hg.tape, hg.output, hg.size, fun k hk hn => hg.block k hk (fun e => hn (hr k e.symm))⟩
set_option maxHeartbeats 2000000 in
theorem do_yes {B m rb most : Nat} {w : World} {keys begun : List KV} (k : KV) (h : Mc B m rb w most keys begun true) (ht : KeyTab w) (hs : k.tx.size ≤ 9223372036854775807) (hk : k.ok = true) (hf : begun.length < most) :
   Calls Tryd.prog 9 #[.pointer (some ⟨m, 0, none⟩), .agg #[.int .i64 k.kd, .int .i64 k.v, .string k.tx, .bool k.ct]] w fun e w' => e = .returned (.bool true) ∧ ∃ g, Mc B m g w' most keys (begun ++ [k]) true ∧ (g = rb ∨ w.heap.size ≤ g) ∧ Keep (fun x => x = m ∨ x = rb) w w' := by
  have hlt := h.lt
  have HT := Lib.hid ht
  have HK := Lib.hid hk
  have hge : decide ((most : Int) ≤ (begun.length : Int)) = false := by simpa using hf
  have hgf : ¬ (most : Int) ≤ (begun.length : Int) := by omega
  obtain ⟨a1, a2, a3, a4, a5, a6, ak, ck, bk, ab, cb, h1, h2, h3, h4, h5⟩ := h
  obtain ⟨i0, hi, hz0, hz1, hz2⟩ := info_parts info32
  have H2 := Lib.hid h2
  have H3 := Lib.hid h3
  have H4 := Lib.hid h4
  have H5 := Lib.hid h5
  have H1 := Lib.hid h1
  clear h1 h2 h3 h4 h5 ht hk
  go_enter Tryd.func9, Tryd.ntmps9
  go_upto_region 1 with (fail)
  go_cut [30] (fun s30 wx => s30 = .bool false ∧ Hid (Below w.heap.size w wx) ∧ Hid (w.heap.size < wx.heap.size) ∧ Hid (Blk wx w.heap.size #[.int .i64 k.kd, .int .i64 k.v, .string k.tx, .bool k.ct] 32))
  case first =>
    have HA := Lib.hid ((Below.refl w.heap.size w).alloc (Nat.le_refl _) (.cells #[.int .i64 k.kd, .int .i64 k.v, .string k.tx, .bool k.ct] 32))
    have HC := Lib.hid (Blk.new w #[.int .i64 k.kd, .int .i64 k.v, .string k.tx, .bool k.ct] 32)
    have hB1 := H1.out.below HA.out hlt
    have c3 := hB1.cell 3
    have c2 := hB1.cell 2
    have c0 := hB1.cell 0
    clear hB1
    have q0 := HC.out.cell 0
    have q1 := HC.out.cell 1
    have q2 := HC.out.cell 2
    have q3 := HC.out.cell 3
    simp at c0 c2 c3
    go_region_held3 (fun w' => w'.cell? ⟨m, 0, none⟩ = some (.int .i64 most) ∧ w'.cell? ⟨m, 2, none⟩ = some (.slice ab begun.length cb) ∧ w'.cell? ⟨m, 3, none⟩ = some (.bool true) ∧ w'.cell? ⟨w.heap.size, 0, none⟩ = some (.int .i64 k.kd) ∧ w'.cell? ⟨w.heap.size, 1, none⟩ = some (.int .i64 k.v) ∧ w'.cell? ⟨w.heap.size, 2, none⟩ = some (.string k.tx) ∧ w'.cell? ⟨w.heap.size, 3, none⟩ = some (.bool k.ct)) (first | exact ⟨c0, c2, c3, q0, q1, q2, q3⟩ | exact ⟨d0, d2, d3, e0, e1, e2, e3⟩) ((go_at_call 17; refine (check_any k.kd k.v k.tx k.ct _ (HT.out.below (HA.out.drew)) hs).mono ?_; rintro e w1 ⟨rfl, hb1⟩; have HB1 : Hid (Below w.heap.size w w1) := HA.out.drew.trans (hb1.mono (by simp)); have HD := (Blk.drew HC.out).below hb1 (by simp); have hD1 := H1.out.below HB1.out hlt; have d3 := hD1.cell 3; have d2 := hD1.cell 2; have d0 := hD1.cell 0; clear hD1; have HD1 := Lib.hid HD; have HS1 : Hid (w.heap.size < w1.heap.size) := HD.lt; have e0 := HD.cell 0; have e1 := HD.cell 1; have e2 := HD.cell 2; have e3 := HD.cell 3; clear hb1 HD; simp at d0 d2 d3; rw [show mayB k.kd k.v k.tx k.ct = true from HK.out]; simp only [chk, if_true]))
    all_goals
      go_wp2_with fail
      go_meet
      exact ⟨rfl, HB1, HS1, HD1⟩
  case rest =>
    obtain ⟨rfl, hb, hs1, hd1⟩ := hcut
    have hM := H1.out.below hb.out hlt
    have x2 := hM.cell 2
    have HM := Lib.hid hM
    have q0 := hd1.out.cell 0
    have q1 := hd1.out.cell 1
    have q2 := hd1.out.cell 2
    have q3 := hd1.out.cell 3
    have HO := Lib.hid (own_below H4.out hb.out)
    have q0' := q0.trans (show _ = some (Value.int .i64 k.kd) from rfl)
    have q1' := q1.trans (show _ = some (Value.int .i64 k.v) from rfl)
    have q2' := q2.trans (show _ = some (Value.string k.tx) from rfl)
    have q3' := q3.trans (show _ = some (Value.bool k.ct) from rfl)
    simp at x2
    clear q0 q1 q2 q3 hM
    go_wp2_with (fail)
    have hltc : m < wc.heap.size := Nat.lt_trans hlt hs1.out
    have HOD : Hid ((wc.drew).ownsRow B 32 4 (.slice ab begun.length cb) begun.length (kg begun)) := own_below HO.out (Below.refl _ _).drew
    have hBs : B ≤ wc.heap.size := Nat.le_trans a2 (Nat.le_of_lt hltc)
    have hne : (Value.slice ab begun.length cb).ownBlock ≠ some m := fun e => (H5.out m e).2 (H5.out m e).1.symm
    have hml : begun.length + 1 ≤ maxLen := by unfold maxLen; omega
    have HX : Hid (Blk ((wc.drew).alloc (.cells #[.int .i64 k.kd, .int .i64 k.v, .string k.tx, .bool k.ct] 32)) m #[.int .i64 most, .slice ak keys.length ck, .slice ab begun.length cb, .bool true] 45) := HM.out.below (((Below.refl _ _).drew).alloc (Nat.le_refl _) _) hltc
    go_region_law ((refine step_append_lies _ (by rfl) _ _ _ (by rfl) B 32 i0 _ 4 40 Tryd.underlying28 hi hz0 hz1 hz2 rfl (by omega) _ _ _ (by rfl) (HOD.out.alloc _) ⟨wc.heap.size, 0, none⟩ 1 1 [.int .i64 k.kd, .int .i64 k.v, .string k.tx, .bool k.ct] (by rfl) (by rfl) (World.news_of_block (cs := #[.int .i64 k.kd, .int .i64 k.v, .string k.tx, .bool k.ct]) (t := 32) (fr := (0, 0)) (heap_alloc_new wc.drew _)) (by simp [Value.oneCell']) (by omega) hml (by omega) (by simp; omega) (wc.heap.size + 1) (by simp) ?_; intro g cap w1 hown1 hgrow hat hlt1; have HW1 : Hid (Blk w1 m #[.int .i64 most, .slice ak keys.length ck, .slice ab begun.length cb, .bool true] 45) := (hgrow.block m (by simp; omega) (fun e => hne e.symm)).trans HX.out; have y2 := HW1.out.cell 2; have yf := HW1.out.free; simp at y2))
    all_goals
      go_wp2_with fail
      go_ret
      have hgm : g ≠ m := by
        rcases hat with h | h
        · exact fun e => hne (by rw [← e]; exact h)
        · omega
      have e1 : Keep (fun x => x = m ∨ x = rb) w w1 := (((Keep.of_below hb.out).drew).alloc _).trans (keep_grown hgrow (fun x hx => .inr (H5.out x hx).1))
      have e2 : Keep (fun x => x = m ∨ x = rb) w (w1.setCell ⟨m, 2, none⟩ (.slice (some ⟨g, 0, none⟩) (begun.length + 1) cap)) := e1.setCell _ (.inl (.inl rfl))
      have hgr : g = rb ∨ w.heap.size ≤ g := by
        rcases hat with h | h
        · exact .inl (H5.out g h).1
        · have := hs1.out; exact .inr (by omega)
      have hBg : B ≤ g := by rcases hgr with rfl | h <;> omega
      refine ⟨rfl, g, ⟨a1, a2, hBg, by simpa using hlt1, a5, by simp; omega, ak, ck, bk, some ⟨g, 0, none⟩, cap, ?_, H2.out.keep e2 (fun h h' => h'.elim (H3.out h).1 (H3.out h).2), fun h0 => ⟨(H3.out h0).1, fun e => ?_⟩, ?_, fun x hx => ?_⟩, hgr, e2⟩
      · have := HW1.out.set 2 (.slice (some ⟨g, 0, none⟩) (begun.length + 1) cap)
        simpa using this
      · rcases hgr with h | h
        · exact (H3.out h0).2 (e.trans h)
        · obtain ⟨hlk, _⟩ := H2.out.2.2.2 h0
          omega
      · have h := own_keep hown1 (Keep.setCell (S := (· = m)) (Keep.refl _ w1) (a := ⟨m, 2, none⟩) (.slice (some ⟨g, 0, none⟩) (begun.length + 1) cap) (.inl rfl)) (fun x hx e => hgm (by simp [Value.ownBlock] at hx; omega))
        rw [show kg (begun ++ [k]) = kg begun ++ [.int .i64 k.kd, .int .i64 k.v, .string k.tx, .bool k.ct] by simp [kg, KV.cells]]
        simpa using h
      · simp [Value.ownBlock] at hx
        exact ⟨hx.symm, hgm⟩
end Go.Proofs.YtgffmkbcppajoaaDoor
