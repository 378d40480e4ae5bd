/- The walk of CountDoes, its round: for every key and every count, and what the round leaves. -/
import Derived.Test.YtidkhkehngcjmaaDoorT14
import Derived.Deep.RegionWith
import Derived.Deep.DeepCutAuto
namespace Go.Proofs.YtidkhkehngcjmaaDoor
open Go.RowKit
/-- The keys of the slice, in a world. -/
def KeysAt (w : World) (b off len : Nat) (kd v : Nat → Int) (tx : Nat → ByteArray) (ct : Nat → Bool) : Prop :=
  b < w.heap.size ∧ ∀ i, i < len → w.cell? ⟨b, off + i * 4, none⟩ = some (.int .i64 (kd i)) ∧ w.cell? ⟨b, off + i * 4 + 1, none⟩ = some (.int .i64 (v i)) ∧ w.cell? ⟨b, off + i * 4 + 2, none⟩ = some (.string (tx i)) ∧ w.cell? ⟨b, off + i * 4 + 3, none⟩ = some (.bool (ct i))
theorem KeysAt.below {w w' : World} {b off len : Nat} {kd v : Nat → Int} {tx : Nat → ByteArray} {ct : Nat → Bool} (h : KeysAt w b off len kd v tx ct) (hb : Below w.heap.size w w') : KeysAt w' b off len kd v tx ct :=
  ⟨Nat.lt_of_lt_of_le h.1 hb.size, fun i hi => by
    obtain ⟨a1, a2, a3, a4⟩ := h.2 i hi
    exact ⟨(hb.cell h.1).trans a1, (hb.cell h.1).trans a2, (hb.cell h.1).trans a3, (hb.cell h.1).trans a4⟩⟩
theorem ycutA {wr w4 : World} {l : List UInt8} (hb : Below wr.drew.heap.size wr.drew w4) (o : Bool) : ∃ yb, Value.pointer (some ⟨w4.heap.size, 0, none⟩) = .pointer (some ⟨yb, 0, none⟩) ∧ Value.bool o = .bool o ∧
    Blk (w4.alloc (.cells #[.string ⟨l.toArray⟩] 28)) yb #[.string ⟨l.toArray⟩] 28 ∧ wr.heap.size ≤ yb ∧ Below wr.heap.size wr (w4.alloc (.cells #[.string ⟨l.toArray⟩] 28)) :=
  ⟨_, rfl, rfl, Blk.new _ _ _, hb.size, ((Below.refl _ wr).drew.trans hb).alloc hb.size _⟩
theorem ycutB {wr w4 : World} {l : List UInt8} {o1' : Array UInt8} (hb : Below (wr.alloc (.cells #[.string ⟨o1'⟩] 28)).drew.heap.size (wr.alloc (.cells #[.string ⟨o1'⟩] 28)).drew w4) (o : Bool) : ∃ yb, Value.pointer (some ⟨wr.heap.size, 0, none⟩) = .pointer (some ⟨yb, 0, none⟩) ∧ Value.bool o = .bool o ∧
    Blk (w4.setCell ⟨wr.heap.size, 0, none⟩ (.string ⟨l.toArray⟩)) yb #[.string ⟨l.toArray⟩] 28 ∧ wr.heap.size ≤ yb ∧ Below wr.heap.size wr (w4.setCell ⟨wr.heap.size, 0, none⟩ (.string ⟨l.toArray⟩)) := by
  have h1 : Blk w4 wr.heap.size #[.string ⟨o1'⟩] 28 := (Blk.drew (Blk.new wr _ 28)).below hb (by simp)
  have hs : wr.heap.size ≤ w4.heap.size := by have := hb.size; simp at this; omega
  refine ⟨_, rfl, rfl, h1.set 0 _, Nat.le_refl _, ?_⟩
  have h2 : Below wr.heap.size wr w4 := Below.trans (by go_grown) (hb.mono (by simp))
  exact h2.setCell (Nat.le_refl _) _
def nS (S : List UInt8) (kd v : Int) (tx : ByteArray) (ct : Bool) : List UInt8 := if mayB kd v tx ct = true then rL S kd v tx ct else S
def nOk (S : List UInt8) (kd v : Int) (tx : ByteArray) (ct : Bool) : Bool := mayB kd v tx ct && rOk S kd v tx ct
theorem agree2 (S : List UInt8) (kd v : Int) (tx : ByteArray) (ct : Bool) : (CS.run S).doOk kd v (mayB kd v tx ct) = nOk S kd v tx ct ∧ (CS.run S).doSt kd v (mayB kd v tx ct) = CS.run (nS S kd v tx ct) := by
  unfold nOk nS
  cases hm : mayB kd v tx ct
  · simp [CS.doOk, CS.doSt]
  · obtain ⟨h1, h2⟩ := agree S kd v tx ct hm
    rw [h1, h2]; simp
theorem nS_ok (S : List UInt8) (kd v : Int) (tx : ByteArray) (ct : Bool) (h : ∀ b ∈ S, okByte b = true) : (∀ b ∈ nS S kd v tx ct, okByte b = true) ∧ (nS S kd v tx ct).length ≤ S.length + 1 := by
  unfold nS
  split
  · exact rL_ok S kd v tx ct h
  · exact ⟨h, by omega⟩
set_option maxHeartbeats 4000000 in
set_option maxRecDepth 100000 in
theorem does_any (ao bo : Option Addr) (len cap tlen tcap : Nat) (kd v : Nat → Int) (tx : Nat → ByteArray) (ct : Nat → Bool) (tk : Nat → Bool) (w : World) (ht : KeyTab w)
   (hm : len ≤ 9223372036854775807) (htm : tlen ≤ 9223372036854775807) (hs : ∀ i, (tx i).size ≤ 9223372036854775807)
   (ha : 0 < len → ∃ b off, ao = some ⟨b, off, none⟩ ∧ KeysAt w b off len kd v tx ct)
   (hb : 0 < tlen → ∃ b off, bo = some ⟨b, off, none⟩ ∧ b < w.heap.size ∧ ∀ i, i < tlen → w.cell? ⟨b, off + i, none⟩ = some (.bool (tk i))) :
   Calls Tryd.prog 3 #[.slice ao len cap, .slice bo tlen tcap] w fun e w' => e = .returned (.bool true) ∧ Below w.heap.size w w' := by
  have hg := ht.1
  have HT := Lib.hid ht
  have HA := Lib.hid ha
  have HBo := Lib.hid hb
  have HS := Lib.hid hs
  clear ht ha hb hs
  by_cases h60 : 60 < len
  · go_enter Tryd.func3, Tryd.ntmps3
    go_wp2_with fail
    refine (awake_any _ HT.out).mono ?_
    rintro e w1 ⟨rfl, hb⟩
    go_wp2_with fail
    go_ret
    exact ⟨rfl, hb⟩
  · go_enter Tryd.func3, Tryd.ntmps3
    go_wp2_with fail
    refine (awake_any _ HT.out).mono ?_
    rintro e w1 ⟨rfl, hb⟩
    have HT1 := Lib.hid (HT.out.below hb)
    have HB1 := Lib.hid hb
    clear hb
    go_wp2_with fail
    refine (new_any _).mono ?_
    rintro e w2 ⟨rfl, hw2⟩
    have HC2 : Hid (Blk w2 w1.heap.size CS.zero.cells 42) := by rw [← hw2]; exact Blk.new w1 _ _
    have HB2 : Hid (Below w.heap.size w w2) := by show Below _ _ _; rw [← hw2]; exact HB1.out.alloc HB1.out.size _
    have HT2 : Hid (KeyTab w2) := by show KeyTab _; rw [← hw2]; exact HT1.out.below (by go_grown)
    have hsz1 := HB1.out.size
    have hsz2 : w2.heap.size = w1.heap.size + 1 := by rw [← hw2]; simp
    clear hw2
    go_wp2_with fail
    have HX3 : Hid (Blk (w2.alloc (.cells #[.string ⟨#[]⟩] 28)) (w1.heap.size + 1) #[.string ⟨([] : List UInt8).toArray⟩] 28) := by
      have := Blk.new w2 #[.string ⟨#[]⟩] 28
      rw [hsz2] at this; exact this
    have HC3 : Hid (Blk (w2.alloc (.cells #[.string ⟨#[]⟩] 28)) w1.heap.size CS.zero.cells 42) := HC2.out.alloc _
    have HB3 : Hid (Below w.heap.size w (w2.alloc (.cells #[.string ⟨#[]⟩] 28))) := HB2.out.alloc HB2.out.size _
    have HT3 : Hid (KeyTab (w2.alloc (.cells #[.string ⟨#[]⟩] 28))) := HT2.out.below (by go_grown)
    go_loopw [7] (fun i wr => ∃ (k : Nat) (S : List UInt8), k ≤ len ∧ i = .int .i64 k ∧ Blk wr w1.heap.size (CS.run S).cells 42 ∧ Blk wr (w1.heap.size + 1) #[.string ⟨S.toArray⟩] 28 ∧ Below w.heap.size w wr ∧ KeyTab wr ∧ (∀ b ∈ S, okByte b = true) ∧ S.length ≤ k) (fun i _ => len - (intOf i).toNat)
    case atStart => exact ⟨0, [], Nat.zero_le _, rfl, HC3.out, HX3.out, HB3.out, HT3.out, by simp, by simp⟩
    case round =>
      obtain ⟨k, S, hk, rfl, hc, hx, hb, ht, hS, hl⟩ := hrel
      have HC := Lib.hid hc
      have HX := Lib.hid hx
      have HB := Lib.hid hb
      have HTr := Lib.hid ht
      have HS' := Lib.hid hS
      have hxlt := hx.lt
      have hxc := hx.cell 0
      simp at hxc
      clear hc hx hb ht hS
      by_cases hlt : k < len
      · obtain ⟨b, off, rfl, hka⟩ := HA.out (by omega)
        have hbw := HB.out.size
        have hbr : b < wr.heap.size := by have := hka.1; omega
        obtain ⟨a1, a2, a3, a4⟩ := hka.2 k hlt
        have d1 := (HB.out.cell (p := ⟨b, off + k * 4, none⟩) hka.1).trans a1
        have d2 := (HB.out.cell (p := ⟨b, off + k * 4 + 1, none⟩) hka.1).trans a2
        have d3 := (HB.out.cell (p := ⟨b, off + k * 4 + 2, none⟩) hka.1).trans a3
        have d4 := (HB.out.cell (p := ⟨b, off + k * 4 + 3, none⟩) hka.1).trans a4
        have HK := Lib.hid hka
        clear hka a1 a2 a3 a4
        have hsz : (⟨S.toArray⟩ : ByteArray).size ≤ 1000 := by show S.length ≤ 1000; omega
        go_upto_region 8 with (fail)
        go_cut [8, 9] (fun s8 s9 wx => ∃ yb, s8 = .pointer (some ⟨yb, 0, none⟩) ∧ s9 = .bool (rOk S (kd k) (v k) (tx k) (ct k)) ∧ Blk wx yb #[.string ⟨(rL S (kd k) (v k) (tx k) (ct k)).toArray⟩] 28 ∧ wr.heap.size ≤ yb ∧ Below wr.heap.size wr wx)
        case first =>
          go_region_with (go_at_call 7; refine Calls.mono (rdo_full _ hsz _ _ _ _ _) ?_; rintro e w4 ⟨rfl, hb4⟩; have hc4 := cellsBelow hb4; have hf4 := frozenBelow hb4; have hz4 := hb4.size)
          all_goals (go_wp2_with fail; go_meet)
          all_goals first | exact ycutA hb4 _ | exact ycutB hb4 _
        case rest =>
          obtain ⟨yb, rfl, rfl, hy, hyb, hbc⟩ := hcut
          have HYc := Lib.hid hy
          have HCc := Lib.hid (HC.out.below hbc HC.out.lt)
          have HXc := Lib.hid (HX.out.below hbc HX.out.lt)
          have HBc := Lib.hid (HB.out.trans (hbc.mono HB.out.size))
          have HTc := Lib.hid (HTr.out.below hbc)
          have hz := hbc.size
          have e1 := (hbc.cell (p := ⟨b, off + k * 4, none⟩) hbr).trans d1
          have e2 := (hbc.cell (p := ⟨b, off + k * 4 + 1, none⟩) hbr).trans d2
          have e3 := (hbc.cell (p := ⟨b, off + k * 4 + 2, none⟩) hbr).trans d3
          have e4 := (hbc.cell (p := ⟨b, off + k * 4 + 3, none⟩) hbr).trans d4
          have hsk := HS.out k
          clear hy hbc d1 d2 d3 d4
          go_upto_if 45 with (go_at_call 8; refine Calls.mono (may_any _ _ _ _ _ hsk) ?_; rintro e w5 ⟨rfl, hb5⟩)
          have HY5 := Lib.hid (HYc.out.below hb5 HYc.out.lt)
          have HC5 := Lib.hid (HCc.out.below hb5 HCc.out.lt)
          have HX5 := Lib.hid (HXc.out.below hb5 HXc.out.lt)
          have HB5 := Lib.hid (HBc.out.trans (hb5.mono HBc.out.size))
          have HT5 := Lib.hid (HTc.out.below hb5)
          have k51 := Lib.hid (hb5.cell (p := ⟨b, off + k * 4, none⟩) (by show b < _; omega))
          have k52 := Lib.hid (hb5.cell (p := ⟨b, off + k * 4 + 1, none⟩) (by show b < _; omega))
          have k53 := Lib.hid (hb5.cell (p := ⟨b, off + k * 4 + 2, none⟩) (by show b < _; omega))
          have k54 := Lib.hid (hb5.cell (p := ⟨b, off + k * 4 + 3, none⟩) (by show b < _; omega))
          have x5 := HX5.out.cell 0
          have y5 := HY5.out.cell 0
          have y5f := HY5.out.free 0
          simp at x5 y5
          clear hb5
          go_cut [9] (fun s9 wx => s9 = .bool (nOk S (kd k) (v k) (tx k) (ct k)) ∧ Blk wx yb #[.string ⟨(nS S (kd k) (v k) (tx k) (ct k)).toArray⟩] 28 ∧ Keep (· = yb) w5 wx)
          case first =>
            cases hmay : mayB (kd k) (v k) (tx k) (ct k)
            · go_wp2_with fail
              go_meet
              refine ⟨by simp [nOk, hmay], ?_, Keep.setCell (Keep.refl _ _) _ (.inl rfl)⟩
              have := HY5.out.set 0 (.string ⟨S.toArray⟩)
              simpa [nS, hmay] using this
            · go_wp2_with fail
              go_meet
              refine ⟨by simp [nOk, hmay], ?_, Keep.refl _ _⟩
              have := HY5.out
              simpa [nS, hmay] using this
          case rest =>
            obtain ⟨rfl, hy, hk6⟩ := hcut
            have HY6 := Lib.hid hy
            have HC6 := Lib.hid (hk6.blk HC5.out (by have := HC.out.lt; omega))
            have HX6 := Lib.hid (hk6.blk HX5.out (by omega))
            have HB6 := Lib.hid (Keep.onto HB5.out hk6 HB5.out.size (by intro j hj; omega))
            have HT6 := Lib.hid (HT5.out.keep hk6 (by omega))
            have hz5 := HY5.out.lt
            have f1 := (hk6.cell (p := ⟨b, off + k * 4, none⟩) (by show b < _; omega) (by show ¬ b = yb; omega)).trans (k51.out.trans e1)
            have f2 := (hk6.cell (p := ⟨b, off + k * 4 + 1, none⟩) (by show b < _; omega) (by show ¬ b = yb; omega)).trans (k52.out.trans e2)
            have f3 := (hk6.cell (p := ⟨b, off + k * 4 + 2, none⟩) (by show b < _; omega) (by show ¬ b = yb; omega)).trans (k53.out.trans e3)
            have f4 := (hk6.cell (p := ⟨b, off + k * 4 + 3, none⟩) (by show b < _; omega) (by show ¬ b = yb; omega)).trans (k54.out.trans e4)
            have AG := Lib.hid (agree2 S (kd k) (v k) (tx k) (ct k))
            have HS2 := Lib.hid (nS_ok S (kd k) (v k) (tx k) (ct k) HS'.out)
            have HI := Lib.hid (run_Inv S HS'.out)
            clear hy hk6 e1 e2 e3 e4 x5 y5 y5f k51 k52 k53 k54
            go_wp2_with fail
            refine Calls.mono (do_full _ _ HI.out _ _ _ _ _ HC6.out HT6.out hsk) ?_
            rintro e w7 ⟨he, hc7, hk7⟩
            rw [AG.out.1] at he
            rw [AG.out.2] at hc7
            subst he
            generalize nS S (kd k) (v k) (tx k) (ct k) = S2 at *
            generalize nOk S (kd k) (v k) (tx k) (ct k) = o2 at *
            have HC7 := Lib.hid hc7
            have HY7 := Lib.hid (hk7.blk HY6.out (by omega))
            have HX7 := Lib.hid (hk7.blk HX6.out (by omega))
            have HB7 := Lib.hid (Keep.onto HB6.out hk7 HB6.out.size (by intro j hj; omega))
            have HT7 := Lib.hid (HT6.out.keep hk7 (by omega))
            have y7 := HY7.out.cell 0
            have x7 := HX7.out.cell 0
            have xf7 := HX7.out.free 0
            simp at y7 x7
            clear hc7 hk7 f1 f2 f3 f4
            go_wp2_with fail
            obtain ⟨w8, hw8⟩ : ∃ w8, w8 = w7.setCell ⟨w1.heap.size + 1, 0, none⟩ (.string ⟨S2.toArray⟩) := ⟨_, rfl⟩
            rw [← hw8]
            have HX8 : Hid (Blk w8 (w1.heap.size + 1) #[.string ⟨S2.toArray⟩] 28) := by
              have := HX7.out.set 0 (.string ⟨S2.toArray⟩)
              show Blk _ _ _ _
              rw [hw8]; simpa using this
            have HC8 : Hid (Blk w8 w1.heap.size (CS.run S2).cells 42) := by show Blk _ _ _ _; rw [hw8]; exact HC7.out.other _ (by simp)
            have HB8 : Hid (Below w.heap.size w w8) := by show Below _ _ _; rw [hw8]; exact HB7.out.setCell (by show _ ≤ w1.heap.size + 1; omega) _
            have HT8 : Hid (KeyTab w8) := by show KeyTab _; rw [hw8]; exact HT7.out.keep (Keep.setCell (S := fun j => j = w1.heap.size + 1) (Keep.refl _ _) _ (.inl rfl)) (by omega)
            clear hw8 y7 x7 xf7
            refine Calls.mono (rvalue_any ⟨S2.toArray⟩ HS2.out.1 (by show S2.length ≤ 1000; have := HS2.out.2; omega) _) ?_
            rintro e w9 ⟨he, hb9⟩
            have hemp : (!(⟨S2.toArray⟩ : ByteArray).toList.isEmpty) = (CS.run S2).bg := by rw [toList_data', run_bg]
            rw [hemp] at he
            subst he
            have HX9 := Lib.hid (HX8.out.below hb9 HX8.out.lt)
            have HC9 := Lib.hid (HC8.out.below hb9 HC8.out.lt)
            have HB9 := Lib.hid (HB8.out.trans (hb9.mono HB8.out.size))
            have HT9 := Lib.hid (HT8.out.below hb9)
            have HI2 := Lib.hid (run_Inv S2 HS2.out.1)
            have hbd := num_bd _ HI2.out
            clear hb9 hemp
            go_wp2_with fail
            refine Calls.mono (value_full _ _ HI2.out _ HC9.out) ?_
            rintro e w10 ⟨rfl, rfl⟩
            generalize hnum : CS.num (CS.run S2) = nm at *
            generalize hbg : (CS.run S2).bg = bb at *
            have HNUM := Lib.hid hnum
            have HBG := Lib.hid hbg
            clear hnum hbg
            obtain ⟨hbd1, hbd2⟩ := hbd
            by_cases htl : k < tlen
            · obtain ⟨tb, toff, rfl, htb, htc⟩ := HBo.out (by omega)
              have t1 := (HB9.out.cell (p := ⟨tb, toff + k, none⟩) htb).trans (htc k htl)
              clear htc
              cases htk : tk k
              · rw [htk] at t1
                go_wp2_with fail
                all_goals
                  go_roundw
                  case rel => exact ⟨k + 1, S2, by omega, by go_num, HC9.out, HX9.out, HB9.out, HT9.out, HS2.out.1, by have := HS2.out.2; omega⟩
                  case measure => simp [intOf]; omega
              · rw [htk] at t1
                go_wp2_with fail
                all_goals
                  refine Calls.mono (take_full _ _ HI2.out _ HC9.out) ?_
                  rintro e w11 ⟨he, hc11, hk11⟩
                  rw [HNUM.out, HBG.out] at he
                  subst he
                  have HC11 := Lib.hid hc11
                  have HX11 := Lib.hid (hk11.blk HX9.out (by omega))
                  have HB11 := Lib.hid (Keep.onto HB9.out hk11 HB9.out.size (by intro j hj; omega))
                  have HT11 := Lib.hid (HT9.out.keep hk11 (by omega))
                  have x11 := HX11.out.cell 0
                  have xf11 := HX11.out.free 0
                  simp at x11
                  clear hc11 hk11 t1
                  go_wp2_with fail
                  go_roundw
                  case rel => exact ⟨k + 1, [], by omega, by go_num, HC11.out.other _ (by simp), HX11.out.set 0 _, HB11.out.setCell (by show _ ≤ w1.heap.size + 1; omega) _, HT11.out.keep (Keep.setCell (S := fun j => j = w1.heap.size + 1) (Keep.refl _ _) _ (.inl rfl)) (by omega), by simp, by simp⟩
                  case measure => simp [intOf]; omega
            · go_wp2_with fail
              all_goals
                go_roundw
                case rel => exact ⟨k + 1, S2, by omega, by go_num, HC9.out, HX9.out, HB9.out, HT9.out, HS2.out.1, by have := HS2.out.2; omega⟩
                case measure => simp [intOf]; omega
      · go_wp2_with fail
        go_ret
        exact ⟨rfl, HB.out⟩
end Go.Proofs.YtidkhkehngcjmaaDoor
