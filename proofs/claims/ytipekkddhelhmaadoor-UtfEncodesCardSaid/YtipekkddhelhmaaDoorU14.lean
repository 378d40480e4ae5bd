/- The contract of utf.Encode: for every list of at most 1000000 values it makes the bytes of those that may be. -/
import Derived.Test.YtipekkddhelhmaaDoorU13
import Derived.Test.YtipekkddhelhmaaDoorShelf
namespace Go.Proofs.YtipekkddhelhmaaDoor
open Go.RowKit
theorem info5 : (Tryd.prog.info? 5).map (fun i => (i.zero, i.size, i.bytes)) = some (some (.int .u8 0), 1, 1) := by kernel_rfl
def EncPost (l : List UInt8) (w : World) (e : Ending) (w' : World) : Prop := e = .returned (.string ⟨l.toArray⟩) ∧ Below w.heap.size w w'
theorem below_two {B : Nat} {w w1 w2 : World} {row : Option Nat} {o : Obj} (h : Below B w w1) (hg : (w1.alloc o).grownBy w2 row) (hb : B ≤ w1.heap.size) (hr : ∀ k, row = some k → B ≤ k) : Below B w w2 :=
  (h.alloc hb o).grown hg (by simp; omega) hr
set_option maxHeartbeats 2000000 in
set_option maxRecDepth 100000 in
theorem uenc_any (v : Value) (n : Nat) (f : Nat → Int) (hn : n ≤ 1000000) (w : World) (hv : SlI w v n f) : Calls Tryd.prog 11 #[v] w (EncPost (encF f n) w) := by
  obtain ⟨i0, hi, hz0, hz1, hz2⟩ := info_parts info5
  obtain ⟨ao, cap, rfl, hm, hc⟩ := hv
  have HC := Lib.hid hc
  clear hc hm
  go_enter Tryd.func11, Tryd.ntmps11
  go_wp2_with (at_make; go_must (refine wpList_make_own _ rfl _ _ 36 rfl w.heap.size 5 i0 (.int .u8 0) 1 Tryd.underlying36 hi hz0 hz1 .i64 .i64 _ n rfl rfl rfl ?_ ?_ ?_ ?_))
  · rw [hz2]; omega
  · unfold maxLen; omega
  · exact Nat.le_refl _
  intro w2 hown hgr
  have HO2 := Lib.hid hown
  have HB2 := Lib.hid ((Below.refl w.heap.size w).grown hgr (Nat.le_refl _) (by intro k h; cases h))
  clear hown hgr
  go_wp2_with fail
  go_loopw [3, 11] (fun b i wr => ∃ (k : Nat), k ≤ n ∧ i = .int .i64 k ∧ wr.ownsRow w.heap.size 5 1 b (encF f k).length (bytesC (encF f k)) ∧ Below w.heap.size w wr) (fun _ i _ => n - (intOf i).toNat)
  case atStart => exact ⟨0, Nat.zero_le _, rfl, HO2.out, HB2.out⟩
  case round =>
    obtain ⟨k, hk, rfl, ho, hb⟩ := hrel
    have HO := Lib.hid ho
    have HB := Lib.hid hb
    have hbs := hb.size
    clear ho hb
    by_cases hlt : k < n
    · obtain ⟨b, off, rfl, hbl, hcell⟩ := HC.out (by omega)
      have d1 := (HB.out.cell (p := ⟨b, off + k, none⟩) hbl).trans (hcell k hlt)
      have hlen := encF_len f k
      clear hcell
      cases hr : rightB (f k)
      · have HR := Lib.hid hr
        go_wp2_with (go_at_call 13; refine Calls.mono (right_any _ _) ?_; rintro e w4 ⟨rfl, rfl⟩; rw [hr])
        go_roundw
        case rel => exact ⟨k + 1, by omega, by go_num, by rw [encF_no HR.out]; exact HO.out, HB.out⟩
        case measure => simp [intOf]; omega
      · have HR := Lib.hid hr
        by_cases hbig : f k ≤ 1114111
        · have hq : decide ((1114111 : Int) < f k) = false := by simp; omega
          have hlo : 0 ≤ f k := by
            unfold rightB at hr
            split at hr
            · omega
            · simp at hr; omega
          have hsl : (encF f k).length + 4 ≤ 140737488355328 := by omega
          have HA := Lib.hid (runeCells_eq (f k) hr hbig)
          go_wp2_with (go_at_call 13; refine Calls.mono (right_any _ _) ?_; rintro e w4 ⟨rfl, rfl⟩; rw [hr])
          refine Calls.mono (Tryd.utf8_AppendRune_plain w.heap.size _ _ _ (f k) (by omega) (by omega) _ HO.out hsl hbs) ?_
          rintro e w5 ⟨v', rfl, ho5, o, hg5⟩
          rw [HA.out, bytesC_app] at ho5
          have HO5 := Lib.hid ho5
          have HB5 := Lib.hid (below_two HB.out hg5 hbs (fun k hk => (HO.out.lt k hk).1))
          clear ho5 hg5
          go_wp2_with fail
          go_roundw
          case rel => exact ⟨k + 1, by omega, by go_num, by have := HO5.out; rw [bytesC_len, ← List.length_append, ← encF_yes HR.out] at this; exact this, HB5.out⟩
          case measure => simp [intOf]; omega
        · have hq : decide ((1114111 : Int) < f k) = true := by simp; omega
          have hlo : 1114240 ≤ f k ∧ f k ≤ 1114367 := by
            unfold rightB at hr
            rw [if_neg (by omega)] at hr
            simp at hr; omega
          obtain ⟨hlo, hhi⟩ := hlo
          go_wp2_with (first | (go_at_call 13; refine Calls.mono (right_any _ _) ?_; rintro e w4 ⟨rfl, rfl⟩; rw [hr]) | (at_builtin; go_must (refine wpList_append_own _ rfl _ _ 36 rfl w.heap.size 5 i0 (.int .u8 0) 1 1 Tryd.underlying36 hi hz0 hz1 hz2 rfl (by decide) _ _ _ rfl (HO.out.alloc _) ⟨wr.heap.size, 0, none⟩ 1 1 [.int .u8 (f k - 1114112)] rfl rfl ?c1 ?c2 ?c3 ?c4 ?c5 ?_)))
          case c1 =>
            intro j u hj
            match j, hj with
            | 0, hj => simp at hj; subst hj; simp [Addr.add]
          case c2 => intro u hu; simp at hu; subst hu; rfl
          case c3 => unfold maxLen; omega
          case c4 => omega
          case c5 => simp; omega
          intro v' w6 hown6 hgr6 _
          have HO6 := Lib.hid hown6
          have HB6 := Lib.hid ((HB.out.alloc hbs _).grown hgr6 (by simp; omega) (fun k hk => (HO.out.lt k hk).1))
          clear hown6 hgr6
          go_wp2_with fail
          go_roundw
          case rel =>
            refine ⟨k + 1, by omega, by go_num, ?_, HB6.out⟩
            have e : encF f (k + 1) = encF f k ++ [UInt8.ofNat ((f k).toNat - 1114112)] := by
              rw [encF_yes HR.out]
              unfold bytesN
              rw [if_neg (by omega), if_neg (by omega), if_neg (by omega), if_neg (by omega)]
            have := HO6.out
            rw [e, List.length_append, ← bytesC_app]
            simp only [bytesC, List.map_cons, List.map_nil, List.length_cons, List.length_nil] at this ⊢
            rw [toNat_ofNat (by omega), show (((f k).toNat - 1114112 : Nat) : Int) = f k - 1114112 by omega]
            exact this
          case measure => simp [intOf]; omega
    · have hcv := conv_own HO.out
      have hkn : k = n := by omega
      go_wp2_with fail
      go_ret
      exact ⟨by rw [hkn]; rfl, HB.out⟩
end Go.Proofs.YtipekkddhelhmaaDoor
