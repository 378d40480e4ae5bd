/- emacs.Keys: how many keys ask for a command. -/
import Derived.Test.YtenfhmlkogpabaaDoorE2
import Derived.OwnWalk
namespace Go.Proofs.YtenfhmlkogpabaaDoor
open Go.RowKit
theorem info31 : (Tryd.prog.info? 31).map (fun i => (i.zero, i.size, i.bytes)) = some (some (.agg #[.int .i64 0, .int .i64 0, .string ⟨#[]⟩, .bool false]), 4, 40) := by kernel_rfl
def cnt (l : List (Nat × Nat × Nat)) (c : Int) : Nat → Nat
  | 0 => 0
  | n + 1 => cnt l c n + if (rC l n : Int) = c then 1 else 0
theorem cnt_le (l : List (Nat × Nat × Nat)) (c : Int) (n : Nat) : cnt l c n ≤ n := by
  induction n with
  | zero => exact Nat.le_refl _
  | succ n ih => simp only [cnt]; split <;> omega
def KeysPost (c : Int) (w : World) (e : Ending) (w' : World) : Prop := ∃ ao cap, e = .returned (.slice ao (cnt ctl c 22 + cnt oth c 31) cap) ∧ Below w.heap.size w w'
theorem own_len {w : World} {base size n : Nat} {e : TypeId} {v : Value} {xs : List Value} (h : w.ownsRow base e size v n xs) : ∃ ao cap, v = .slice ao n cap := by
  rcases h.2 with ⟨rfl, rfl⟩ | ⟨g, cap, cur, rfl, _⟩
  · exact ⟨_, _, rfl⟩
  · exact ⟨_, _, rfl⟩
set_option maxHeartbeats 2000000 in
set_option maxRecDepth 100000 in
theorem keys_any (cm : Int) (w : World) (h1 : RowTab w 1 ctl) (h2 : RowTab w 2 oth) : Calls Tryd.prog 8 #[.int .i64 cm] w (KeysPost cm w) := by
  obtain ⟨i0, hi, hz0, hz1, hz2⟩ := info_parts info31
  have H2 := Lib.hid h2
  have hlt2 := h2.lt
  obtain ⟨cs, t, fr, hg, hrw⟩ := h1
  have HRW := Lib.hid hrw
  clear hrw h2
  go_enter Tryd.func8, Tryd.ntmps8
  go_wp2_with (refine wpList_load_row rfl 40 _ rfl 1 rfl t cs fr _ hg Tryd.underlying40 rfl (by rw [HRW.out.1]; kernel_rfl) ?_)
  clear hg
  go_loopw [3, 9] (fun v p wr => ∃ (k : Nat) (xs : List Value), k ≤ 22 ∧ p = .int .i64 k ∧ wr.ownsRow w.heap.size 31 4 v (cnt ctl cm k) xs ∧ Below w.heap.size w wr) (fun _ p _ => 22 - (intOf p).toNat)
  case atStart => exact ⟨0, [], Nat.zero_le _, rfl, World.ownsRow_nil _ _ _ _, Below.refl _ _⟩
  case round =>
    obtain ⟨k, xs, hk, rfl, ho, hb⟩ := hrel
    have HO := Lib.hid ho
    have HB := Lib.hid hb
    have hbs := hb.size
    have hcl := cnt_le ctl cm k
    clear ho hb
    by_cases hk22 : k < 22
    · have hix := index_ctl HRW.out hk22
      obtain ⟨⟨ha, hb2, hc⟩, -⟩ := row_lt k
      have hcnt : cnt ctl cm (k + 1) = cnt ctl cm k + if (rC ctl k : Int) = cm then 1 else 0 := rfl
      generalize rK ctl k = a at *
      generalize rV ctl k = b at *
      generalize rC ctl k = c at *
      have HCNT := Lib.hid hcnt
      clear hcnt
      by_cases hcm : (c : Int) = cm
      · have HCM := Lib.hid hcm
        have hq : ((c : Int) == cm) = true := by rw [beq_iff_eq]; exact hcm
        go_wp2_with (at_builtin; go_must (refine wpList_append_own _ rfl _ _ 32 rfl w.heap.size 31 i0 _ 4 40 Tryd.underlying32 hi hz0 hz1 hz2 rfl (by decide) _ _ _ rfl ((HO.out.alloc _).alloc _) ⟨wr.heap.size + 1, 0, none⟩ 1 1 [.int .i64 a, .int .i64 b, .string ⟨#[]⟩, .bool false] rfl rfl ?c1 ?c2 ?c3 ?c4 ?c5 ?_))
        case c1 =>
          intro j u hj
          match j, hj with
          | 0, hj => simp at hj; subst hj; simp [Addr.add]
          | 1, hj => simp at hj; subst hj; simp [Addr.add]
          | 2, hj => simp at hj; subst hj; simp [Addr.add]
          | 3, hj => simp at hj; subst hj; simp [Addr.add]
        case c2 => intro u hu; simp at hu; rcases hu with rfl | rfl | rfl | rfl <;> rfl
        case c3 => unfold maxLen; omega
        case c4 => omega
        case c5 => simp; omega
        intro v' w6 hown6 hgr6 _
        have HO6 := Lib.hid hown6
        have HB6 := Lib.hid (((HB.out.alloc hbs _).alloc (by simp; omega) _).grown hgr6 (by simp; omega) (fun k hk => (HO.out.lt k hk).1))
        clear hown6 hgr6
        go_wp2_with fail
        go_roundw
        case rel => exact ⟨k + 1, _, by omega, by go_num, by rw [HCNT.out, if_pos HCM.out]; exact HO6.out, HB6.out⟩
        case measure => simp [intOf]; omega
      · have HCM := Lib.hid hcm
        have hq : ((c : Int) == cm) = false := by rw [beq_eq_false_iff_ne]; exact hcm
        go_wp2_with fail
        go_roundw
        case rel => exact ⟨k + 1, xs, by omega, by go_num, by rw [HCNT.out, if_neg HCM.out]; exact HO.out.alloc _, HB.out.alloc hbs _⟩
        case measure => simp [intOf]; omega
    · have hke : k = 22 := by omega
      subst hke
      have HOE := Lib.hid HO.out
      have HBE := Lib.hid HB.out
      obtain ⟨cs2, t2, fr2, hg2, hrw2⟩ := H2.out.below HB.out
      have HRW2 := Lib.hid hrw2
      clear hrw2
      go_wp2_with (refine wpList_load_row rfl 41 _ rfl 2 rfl t2 cs2 fr2 _ hg2 Tryd.underlying41 rfl (by rw [HRW2.out.1]; kernel_rfl) ?_)
      clear hg2
      go_loopw [3, 29] (fun v p wr => ∃ (k : Nat) (xs : List Value), k ≤ 31 ∧ p = .int .i64 k ∧ wr.ownsRow w.heap.size 31 4 v ((cnt ctl cm 22 + cnt oth cm k)) xs ∧ Below w.heap.size w wr) (fun _ p _ => 31 - (intOf p).toNat)
      case atStart => exact ⟨0, xs, Nat.zero_le _, rfl, HOE.out, HBE.out⟩
      case round =>
        obtain ⟨k, xs, hk, rfl, ho, hb⟩ := hrel
        have HO := Lib.hid ho
        have HB := Lib.hid hb
        have hbs := hb.size
        have hcl := cnt_le oth cm k
        have hcl2 := cnt_le ctl cm 22
        clear ho hb
        by_cases hk31 : k < 31
        · have hix := index_oth HRW2.out hk31
          obtain ⟨-, ha, hb2, hc⟩ := row_lt k
          have hcnt : cnt oth cm (k + 1) = cnt oth cm k + if (rC oth k : Int) = cm then 1 else 0 := rfl
          generalize rK oth k = a at *
          generalize rV oth k = b at *
          generalize rC oth k = c at *
          have HCNT := Lib.hid hcnt
          clear hcnt
          by_cases hcm : (c : Int) = cm
          · have HCM := Lib.hid hcm
            have hq : ((c : Int) == cm) = true := by rw [beq_iff_eq]; exact hcm
            go_wp2_with (at_builtin; go_must (refine wpList_append_own _ rfl _ _ 32 rfl w.heap.size 31 i0 _ 4 40 Tryd.underlying32 hi hz0 hz1 hz2 rfl (by decide) _ _ _ rfl ((HO.out.alloc _).alloc _) ⟨wr.heap.size + 1, 0, none⟩ 1 1 [.int .i64 a, .int .i64 b, .string ⟨#[]⟩, .bool false] rfl rfl ?c1 ?c2 ?c3 ?c4 ?c5 ?_))
            case c1 =>
              intro j u hj
              match j, hj with
              | 0, hj => simp at hj; subst hj; simp [Addr.add]
              | 1, hj => simp at hj; subst hj; simp [Addr.add]
              | 2, hj => simp at hj; subst hj; simp [Addr.add]
              | 3, hj => simp at hj; subst hj; simp [Addr.add]
            case c2 => intro u hu; simp at hu; rcases hu with rfl | rfl | rfl | rfl <;> rfl
            case c3 => unfold maxLen; omega
            case c4 => omega
            case c5 => simp; omega
            intro v' w6 hown6 hgr6 _
            have HO6 := Lib.hid hown6
            have HB6 := Lib.hid (((HB.out.alloc hbs _).alloc (by simp; omega) _).grown hgr6 (by simp; omega) (fun k hk => (HO.out.lt k hk).1))
            clear hown6 hgr6
            go_wp2_with fail
            go_roundw
            case rel => exact ⟨k + 1, _, by omega, by go_num, by rw [HCNT.out, if_pos HCM.out]; exact HO6.out, HB6.out⟩
            case measure => simp [intOf]; omega
          · have HCM := Lib.hid hcm
            have hq : ((c : Int) == cm) = false := by rw [beq_eq_false_iff_ne]; exact hcm
            go_wp2_with fail
            go_roundw
            case rel => exact ⟨k + 1, xs, by omega, by go_num, by rw [HCNT.out, if_neg HCM.out]; exact HO.out.alloc _, HB.out.alloc hbs _⟩
            case measure => simp [intOf]; omega
        · have hke : k = 31 := by omega
          subst hke
          obtain ⟨ao, cap, rfl⟩ := own_len HO.out
          go_wp2_with fail
          go_ret
          exact ⟨ao, cap, rfl, HB.out⟩
end Go.Proofs.YtenfhmlkogpabaaDoor
