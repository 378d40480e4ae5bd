/- UtfDecodes and UtfParts: the walks, for every text. -/
import Derived.Test.YtipekkddhelhmaaDoorU18
namespace Go.Proofs.YtipekkddhelhmaaDoor
open Go.RowKit
theorem rightN_B {v : Nat} (h : rightN v) : rightB (v : Int) = true := by
  unfold rightN at h
  unfold rightB
  split <;> simp <;> omega
theorem encF_take (l : List Nat) (h : ∀ v ∈ l, rightN v) : ∀ k, k ≤ l.length → encF (natsAt l) k = encL (l.take k) := by
  intro k
  induction k with
  | zero => intro _; rfl
  | succ k ih =>
    intro hk
    have hk' : k < l.length := by omega
    have e : natsAt l k = (l[k] : Nat) := by simp [natsAt, List.getD, hk']
    rw [encF_yes (by rw [e]; exact rightN_B (h _ (List.getElem_mem _))), ih (by omega), List.take_succ_eq_append_getElem hk', e, Int.toNat_natCast]
    unfold encL
    rw [List.flatMap_append]
    simp only [List.flatMap_cons, List.flatMap_nil, List.append_nil]
theorem encF_nats (l : List Nat) (h : ∀ v ∈ l, rightN v) : encF (natsAt l) l.length = encL l := by
  rw [encF_take l h _ (Nat.le_refl _), List.take_length]
theorem sameB_self (n : Nat) (f : Nat → Int) : sameB n n f f = true := by simp [sameB]
theorem bytes_eq (s : ByteArray) : (⟨s.data.toList.toArray⟩ : ByteArray) = s := by
  apply ByteArray.ext; simp
set_option maxHeartbeats 2000000 in
theorem utfDecodes_any (s : ByteArray) (hm : s.size ≤ 9223372036854775807) (w : World) (ht : UtfTabs w) : Calls Tryd.prog 3 #[.string s] w (YesPost w) := by
  have HT := Lib.hid ht
  clear ht
  by_cases h5 : s.size ≤ 500
  · go_enter Tryd.func3, Tryd.ntmps3
    go_wp2_with fail
    refine (decode_any _ (by omega) _).mono ?_
    rintro e w1 ⟨v, rfl, ho, hb⟩
    obtain ⟨-, hs⟩ := own_sl ho
    have HS := Lib.hid hs
    have HB := Lib.hid hb
    clear ho hs hb
    have hl := valsL_len s.data.toList
    have hl2 : s.data.toList.length = s.size := by simp
    have HE : Hid (encF (natsAt (valsL s.data.toList)) (valsL s.data.toList).length = s.data.toList) := by
      show _ = _
      rw [encF_nats _ (vals_right _), enc_vals]
    have HCNT := Lib.hid (count_any s (by omega))
    have HDEC := Lib.hid (rdecode_any s (by omega))
    generalize hL : valsL s.data.toList = L at *
    have HL := Lib.hid hL
    clear hL
    have hl4 : L.length ≤ 500 := by omega
    clear hl hl2
    go_wp2_with fail
    refine (awake_any _ (HT.out.below HB.out)).mono ?_
    rintro e w2 ⟨rfl, hb2⟩
    have HB2 := Lib.hid (HB.out.trans (hb2.mono HB.out.size))
    have HS2 := Lib.hid (HS.out.below hb2)
    clear hb2
    go_wp2_with fail
    refine (HDEC.out _).mono ?_
    rintro e w3 ⟨v2, rfl, ho3, hb3⟩
    rw [HL.out] at ho3
    obtain ⟨-, hs3⟩ := own_sl ho3
    have HR3 := Lib.hid hs3
    have HB3 := Lib.hid (HB2.out.trans (hb3.mono HB2.out.size))
    have HS3 := Lib.hid (HS2.out.below hb3)
    clear hb3 ho3 hs3
    go_wp2_with fail
    refine (same_any _ _ _ _ _ _ _ HS3.out HR3.out).mono ?_
    rintro e w4 ⟨rfl, hb4⟩
    rw [sameB_self]
    have HB4 := Lib.hid (HB3.out.trans (hb4.mono HB3.out.size))
    have HS4 := Lib.hid (HS3.out.below hb4)
    clear hb4
    go_wp2_with fail
    refine (uenc_any _ _ _ (by omega) _ HS4.out).mono ?_
    rintro e w5 ⟨rfl, hb5⟩
    rw [HE.out, bytes_eq]
    have HB5 := Lib.hid (HB4.out.trans (hb5.mono HB4.out.size))
    have HS5 := Lib.hid (HS4.out.below hb5)
    clear hb5
    go_wp2_with fail
    refine (HCNT.out _).mono ?_
    rintro e w6 ⟨rfl, hb6⟩
    have HB6 := Lib.hid (HB5.out.trans (hb6.mono HB5.out.size))
    have hs6 := HS5.out.below hb6
    clear hb6
    obtain ⟨ao, cap, rfl, hmm, hc6⟩ := hs6
    clear hc6
    go_wp2_with fail
    go_ret
    exact ⟨rfl, HB6.out⟩
  · go_enter Tryd.func3, Tryd.ntmps3
    go_wp2_with fail
    refine (awake_any _ HT.out).mono ?_
    rintro e w1 ⟨rfl, hb⟩
    go_wp2_with fail
    go_ret
    exact ⟨rfl, hb⟩
set_option maxHeartbeats 2000000 in
theorem utfParts_any (s : ByteArray) (hm : s.size ≤ 9223372036854775807) (w : World) (ht : UtfTabs w) : Calls Tryd.prog 5 #[.string s] w (YesPost w) := by
  have HT := Lib.hid ht
  clear ht
  by_cases h5 : s.size ≤ 500
  · by_cases h0 : 0 < s.size
    · have HU := Lib.hid (uone_any s h0)
      have HR := Lib.hid (rone_any s h0)
      have HP := Lib.hid (upart_any s h0 (by omega))
      have HQ := Lib.hid (rpart_any s h0)
      have he : s.toList.isEmpty = false := by
        rw [ByteArray.toList_eq]
        cases h : s.data.toList
        · exfalso
          have : s.data.toList.length = s.size := by simp
          rw [h] at this; simp at this; omega
        · rfl
      generalize hone : one s.data.toList = on at *
      have HONE := Lib.hid hone
      clear hone
      go_enter Tryd.func5, Tryd.ntmps5
      go_wp2_with fail
      refine (HU.out _).mono ?_
      rintro e w1 ⟨rfl, hb⟩
      rw [HONE.out]
      have HB := Lib.hid hb
      clear hb
      go_wp2_with fail
      refine (HR.out _).mono ?_
      rintro e w2 ⟨rfl, hb2⟩
      rw [HONE.out]
      have HB2 := Lib.hid (HB.out.trans (hb2.mono HB.out.size))
      clear hb2
      go_wp2_with fail
      refine (awake_any _ (HT.out.below HB2.out)).mono ?_
      rintro e w3 ⟨rfl, hb3⟩
      have HB3 := Lib.hid (HB2.out.trans (hb3.mono HB2.out.size))
      clear hb3
      go_wp2_with fail
      refine (HP.out _ (HT.out.below HB3.out)).mono ?_
      rintro e w4 ⟨rfl, hb4⟩
      have HB4 := Lib.hid (HB3.out.trans (hb4.mono HB3.out.size))
      clear hb4
      go_wp2_with fail
      refine (HQ.out _).mono ?_
      rintro e w5 ⟨rfl, hb5⟩
      have HB5 := Lib.hid (HB4.out.trans (hb5.mono HB4.out.size))
      clear hb5
      generalize partL s.data.toList = p
      cases p
      · go_wp2_with fail
        go_ret
        exact ⟨rfl, HB5.out⟩
      · go_wp2_with fail
        go_ret
        exact ⟨rfl, HB5.out⟩
    · have he : s = ⟨#[]⟩ := by
        apply ByteArray.ext
        exact Array.eq_empty_of_size_eq_zero (show s.data.size = 0 by have : s.data.size = s.size := rfl; omega)
      subst he
      clear h0 h5 hm
      go_enter Tryd.func5, Tryd.ntmps5
      go_wp2_with fail
      refine (uone_nil _).mono ?_
      rintro e w1 ⟨rfl, hb⟩
      have HB := Lib.hid hb
      clear hb
      go_wp2_with fail
      refine (awake_any _ (HT.out.below HB.out)).mono ?_
      rintro e w3 ⟨rfl, hb3⟩
      have HB3 := Lib.hid (HB.out.trans (hb3.mono HB.out.size))
      clear hb3
      go_wp2_with fail
      refine (upart_nil _).mono ?_
      rintro e w4 ⟨rfl, hb4⟩
      have HB4 := Lib.hid (HB3.out.trans (hb4.mono HB3.out.size))
      clear hb4
      go_wp2_with fail
      go_ret
      exact ⟨rfl, HB4.out⟩
  · go_enter Tryd.func5, Tryd.ntmps5
    go_wp2_with fail
    refine (awake_any _ HT.out).mono ?_
    rintro e w1 ⟨rfl, hb⟩
    go_wp2_with fail
    go_ret
    exact ⟨rfl, hb⟩
end Go.Proofs.YtipekkddhelhmaaDoor
