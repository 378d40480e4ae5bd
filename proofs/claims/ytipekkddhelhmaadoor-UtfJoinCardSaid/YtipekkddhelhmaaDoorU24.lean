/- UtfJoin: the walk, for every two texts. -/
import Derived.Test.YtipekkddhelhmaaDoorU19
import Derived.Test.YtipekkddhelhmaaDoorU23
namespace Go.Proofs.YtipekkddhelhmaaDoor
open Go.RowKit
theorem app_list (s t : ByteArray) : (s ++ t).data.toList = s.data.toList ++ t.data.toList := by simp
theorem own_cell {w : World} {base n : Nat} {v : Value} {l : List Nat} (h : w.ownsRow base 3 1 v n (ints l)) {k : Nat} (hk : k < n) : ∃ b cap, v = .slice (some ⟨b, 0, none⟩) n cap ∧ w.cell? ⟨b, k, none⟩ = some (.int .i64 (natsAt l k)) := by
  obtain ⟨_, ao, cap, rfl, _, hc⟩ := own_sl h
  rcases h.2 with ⟨e, _⟩ | ⟨g, cap2, cur, e, hb, hg, h1, h2, h3, h4⟩
  · cases e; omega
  · cases e
    obtain ⟨b, off, e2, _, hcell⟩ := hc (by omega)
    cases e2
    refine ⟨_, _, rfl, ?_⟩
    have := hcell k hk
    rwa [Nat.zero_add] at this
set_option maxHeartbeats 4000000 in
set_option maxRecDepth 100000 in
theorem utfJoin_any (s t : ByteArray) (hm : s.size ≤ 9223372036854775807) (hm2 : t.size ≤ 9223372036854775807) (w : World) (ht : UtfTabs w) : Calls Tryd.prog 6 #[.string s, .string t] w (YesPost w) := by
  have HT := Lib.hid ht
  clear ht
  by_cases h5 : s.size ≤ 300
  · by_cases h6 : t.size ≤ 300
    · have hl := valsL_len s.data.toList
      have hl2 : s.data.toList.length = s.size := by simp
      have hl3 := valsL_len t.data.toList
      have hl4 : t.data.toList.length = t.size := by simp
      have hst : (s ++ t).size = s.size + t.size := by simp
      have HJ : Hid ((∀ v ∈ valsL s.data.toList, v ≤ 1114111) → valsL (s ++ t).data.toList = valsL s.data.toList ++ valsL t.data.toList) := fun h => by
        rw [app_list]; exact vals_join _ _ h
      have HD0 := Lib.hid (decode_any s (by omega))
      have HD1 := Lib.hid (decode_any (s ++ t) (by omega))
      have HD2 := Lib.hid (decode_any t (by omega))
      have HC0 := Lib.hid (count_any s (by omega))
      have HC1 := Lib.hid (count_any (s ++ t) (by omega))
      have HC2 := Lib.hid (count_any t (by omega))
      unfold DecPost at HD0 HD1 HD2
      generalize valsL s.data.toList = L at *
      generalize valsL t.data.toList = M at *
      generalize valsL (s ++ t).data.toList = N at *
      have hb1 : L.length ≤ 300 := by omega
      have hb2 : M.length ≤ 300 := by omega
      clear hl hl2 hl3 hl4
      go_enter Tryd.func6, Tryd.ntmps6
      go_wp2_with fail
      refine (HD0.out _).mono ?_
      rintro e w1 ⟨v, rfl, ho, hb⟩
      have HO := Lib.hid ho
      have HB := Lib.hid hb
      clear ho hb
      go_wp2_with fail
      go_loopw [6] (fun i wr => ∃ k : Nat, k ≤ L.length ∧ i = .int .i64 k ∧ (∀ j, j < k → natsAt L j ≤ 1114111) ∧ wr = w1) (fun i _ => L.length - (intOf i).toNat)
      case atStart => exact ⟨0, Nat.zero_le _, rfl, fun j h => by omega, rfl⟩
      case round =>
        obtain ⟨k, hk, rfl, hall, rfl⟩ := hrel
        have HALL := Lib.hid hall
        clear hall
        by_cases hlt : k < L.length
        · obtain ⟨b, cap, rfl, hcell⟩ := own_cell HO.out hlt
          by_cases hbig : natsAt L k ≤ 1114111
          · have hq : decide ((1114111 : Int) < natsAt L k) = false := by simp; omega
            have HBIG := Lib.hid hbig
            clear hbig
            go_wp2_with fail
            go_roundw
            case rel => exact ⟨k + 1, by omega, by go_num, fun j hj => by rcases Nat.lt_succ_iff_lt_or_eq.1 hj with h | rfl; exact HALL.out j h; exact HBIG.out, trivial⟩
            case measure => simp [intOf]; omega
          · have hq : decide ((1114111 : Int) < natsAt L k) = true := by simp; omega
            go_wp2_with fail
            refine (awake_any _ (HT.out.below HB.out)).mono ?_
            rintro e w2 ⟨rfl, hb2⟩
            go_wp2_with fail
            go_ret
            exact ⟨rfl, HB.out.trans (hb2.mono HB.out.size)⟩
        · have HN : Hid (N = L ++ M) := HJ.out (by
            intro v hv
            obtain ⟨j, hj, rfl⟩ := List.getElem_of_mem hv
            have := HALL.out j (by omega)
            simp only [natsAt, List.getD, List.getElem?_eq_getElem hj, Option.getD_some] at this
            omega)
          obtain ⟨ao, cap, rfl, _, _⟩ := (own_sl HO.out).2
          go_wp2_with fail
          refine (awake_any _ (HT.out.below HB.out)).mono ?_
          rintro e w2 ⟨rfl, hb2⟩
          have HB2 := Lib.hid (HB.out.trans (hb2.mono HB.out.size))
          have HO2 := Lib.hid (own_below HO.out hb2)
          clear hb2
          go_wp2_with fail
          refine (HD1.out _).mono ?_
          rintro e w3 ⟨v3, rfl, ho3, hb3⟩
          have HV3 := Lib.hid ho3
          have HB3 := Lib.hid (HB2.out.trans (hb3.mono HB2.out.size))
          have HO3 := Lib.hid (own_below HO2.out hb3)
          clear hb3 ho3
          have HE3 : Hid ((w3.alloc (.cells #[] 3)).ownsRow w3.heap.size 3 1 (.slice (some ⟨w3.heap.size, 0, none⟩) 0 0) 0 (ints [])) := World.ownsRow_lit w3 #[] 0 (Nat.le_refl _) (Nat.zero_le _) rfl
          have hs3 := HB3.out.size
          go_wp2_with (at_builtin; go_must (refine wpList_app2 rfl _ _ rfl rfl rfl HE3.out (HO3.out.alloc _) ?c1 ?c2 ?_))
          case c1 => omega
          case c2 => simp
          intro v4 w4 ho4 hg4
          have HO4 := Lib.hid ho4
          have HB4 := Lib.hid ((HB3.out.alloc hs3 _).grown hg4 (by simp; omega) (by intro k hk; simp [Value.ownBlock] at hk; omega))
          have HV4 := Lib.hid ((HV3.out.alloc (.cells #[] 3)).kept hg4 (by
            rcases hvb : v3.ownBlock with _ | k
            · exact .inl rfl
            · refine .inr fun hc => ?_
              have h1 := (HV3.out.lt k hvb).2
              simp [Value.ownBlock] at hc
              omega))
          have hz4 := hg4.size
          clear ho4 hg4
          go_wp2_with fail
          refine (HD2.out _).mono ?_
          rintro e w5 ⟨v5, rfl, ho5, hb5⟩
          have HV5 := Lib.hid ho5
          have HB5 := Lib.hid (HB4.out.trans (hb5.mono HB4.out.size))
          have HO5 := Lib.hid (own_below HO4.out hb5)
          have HW5 := Lib.hid (own_below HV4.out hb5)
          have hs5 := HB5.out.size
          have hs35 : w3.heap.size ≤ w5.heap.size := Nat.le_trans (Nat.le_trans (by simp) hz4) hb5.size
          clear hb5 ho5
          go_wp2_with (at_builtin; go_must (refine wpList_app2 rfl _ _ rfl rfl rfl HO5.out HV5.out ?c1 ?c2 ?_))
          case c1 => omega
          case c2 => omega
          intro v6 w6 ho6 hg6
          have HO6 := Lib.hid (own_sl ho6).2
          have HB6 := Lib.hid (HB5.out.grown hg6 hs5 (fun k hk => by have := (HO5.out.lt k hk).1; omega))
          have HW6 := Lib.hid (own_sl (HW5.out.kept hg6 (by
            rcases hvb : v3.ownBlock with _ | k
            · exact .inl rfl
            · refine .inr fun hc => ?_
              have h1 := (HV3.out.lt k hvb).2
              have h2 := (HO5.out.lt k hc.symm).1
              omega))).2
          clear ho6 hg6
          go_wp2_with fail
          refine (same_any _ _ _ _ _ _ _ HW6.out HO6.out).mono ?_
          rintro e w7 ⟨rfl, hb7⟩
          have hsame : sameB N.length (L.length + M.length) (natsAt N) (natsAt (L ++ M)) = true := by
            rw [HN.out, List.length_append]; exact sameB_self _ _
          rw [hsame]
          have HB7 := Lib.hid (HB6.out.trans (hb7.mono HB6.out.size))
          clear hb7
          go_wp2_with fail
          refine (HC1.out _).mono ?_
          rintro e w8 ⟨rfl, hb8⟩
          have HB8 := Lib.hid (HB7.out.trans (hb8.mono HB7.out.size))
          clear hb8
          go_wp2_with fail
          refine (HC0.out _).mono ?_
          rintro e w9 ⟨rfl, hb9⟩
          have HB9 := Lib.hid (HB8.out.trans (hb9.mono HB8.out.size))
          clear hb9
          go_wp2_with fail
          refine (HC2.out _).mono ?_
          rintro e w10 ⟨rfl, hb10⟩
          have HB10 := Lib.hid (HB9.out.trans (hb10.mono HB9.out.size))
          clear hb10
          have hN : N.length = L.length + M.length := by rw [HN.out, List.length_append]
          rw [hN]
          go_wp2_with fail
          go_ret
          refine ⟨?_, HB10.out⟩
          rfl
    · go_enter Tryd.func6, Tryd.ntmps6
      go_wp2_with fail
      refine (awake_any _ HT.out).mono ?_
      rintro e w1 ⟨rfl, hb⟩
      go_wp2_with fail
      go_ret
      exact ⟨rfl, hb⟩
  · go_enter Tryd.func6, Tryd.ntmps6
    go_wp2_with fail
    refine (awake_any _ HT.out).mono ?_
    rintro e w1 ⟨rfl, hb⟩
    go_wp2_with fail
    go_ret
    exact ⟨rfl, hb⟩
end Go.Proofs.YtipekkddhelhmaaDoor
