/- UtfEncodes: the walk, for every list of ints. -/
import Derived.Test.YtipekkddhelhmaaDoorU19
import Derived.Test.YtipekkddhelhmaaDoorU23
import Derived.Deep.QuietTactic
import Derived.BigQuiet
namespace Go.Proofs.YtipekkddhelhmaaDoor
open Go.RowKit
def plainF (f : Nat → Int) (n : Nat) : Bool := decide (∀ j, j < n → rightB (f j) = true ∧ f j ≤ 1114111)
theorem plainF_succ (f : Nat → Int) (n : Nat) : plainF f (n + 1) = (plainF f n && rightB (f n) && decide (f n ≤ 1114111)) := by
  unfold plainF
  rw [Bool.eq_iff_iff]
  simp only [decide_eq_true_eq, Bool.and_eq_true]
  constructor
  · intro h
    exact ⟨⟨fun j hj => h j (by omega), (h n (by omega)).1⟩, (h n (by omega)).2⟩
  · rintro ⟨⟨h1, h2⟩, h3⟩ j hj
    rcases Nat.lt_succ_iff_lt_or_eq.1 hj with h | rfl
    · exact h1 j h
    · exact ⟨h2, h3⟩
def natsOf (f : Nat → Int) (n : Nat) : List Nat := (List.range n).map fun j => (f j).toNat
theorem rightB_pos {v : Int} (h : rightB v = true) : 0 ≤ v := by
  unfold rightB at h
  split at h
  · omega
  · simp at h; omega
theorem rightB_N {v : Int} (h : rightB v = true) : rightN v.toNat := by
  have h0 := rightB_pos h
  unfold rightB at h
  unfold rightN
  split at h
  · simp at h; omega
  · simp at h; omega
theorem encF_natsOf (f : Nat → Int) : ∀ n, (∀ j, j < n → rightB (f j) = true) → encF f n = encL (natsOf f n) := by
  intro n
  induction n with
  | zero => intro _; rfl
  | succ n ih =>
    intro h
    rw [encF_yes (h n (by omega)), ih (fun j hj => h j (by omega))]
    unfold natsOf encL
    rw [List.range_succ, List.map_append, List.flatMap_append]
    simp only [List.map_cons, List.map_nil, List.flatMap_cons, List.flatMap_nil, List.append_nil]
theorem back {f : Nat → Int} {n : Nat} (h : plainF f n = true) : sameB (valsL (encF f n)).length n (natsAt (valsL (encF f n))) f = true := by
  unfold plainF at h
  rw [decide_eq_true_eq] at h
  have e : valsL (encF f n) = natsOf f n := by
    rw [encF_natsOf f n (fun j hj => (h j hj).1)]
    have := vals_enc (natsOf f n) (fun v hv => by
      unfold natsOf at hv
      rw [List.mem_map] at hv
      obtain ⟨j, hj, rfl⟩ := hv
      have hj' : j < n := by simpa using hj
      exact ⟨rightB_N (h j hj').1, by have := (h j hj').2; omega⟩) []
    simpa [valsL_nil] using this
  rw [e]
  have hl : (natsOf f n).length = n := by simp [natsOf]
  unfold sameB
  rw [decide_eq_true_eq]
  refine ⟨hl, fun i hi => ?_⟩
  have hi' : i < n := by omega
  have h0 := rightB_pos (h i hi').1
  simp [natsAt, natsOf, List.getD, hi']
  omega
theorem right_q (v : Int) (w : World) : Calls Tryd.prog 13 #[.int .i64 v] w fun e w' => e = .returned (.bool (rightB v)) ∧ w' = w := (right_any v w).mono fun _ _ ⟨a, b⟩ => ⟨a, b.symm⟩
theorem right2_q (v : Int) (w : World) : Calls Tryd.prog 14 #[.int .i64 v] w fun e w' => e = .returned (.bool (rightB v)) ∧ w' = w := (right2_any v w).mono fun _ _ ⟨a, b⟩ => ⟨a, b.symm⟩
set_option maxHeartbeats 4000000 in
set_option maxRecDepth 100000 in
theorem utfEncodes_any (v : Value) (n : Nat) (f : Nat → Int) (hm : n ≤ 9223372036854775807) (w : World) (hv : SlI w v n f) (ht : UtfTabs w) : Calls Tryd.prog 4 #[v] w (YesPost w) := by
  have HT := Lib.hid ht
  have HV := Lib.hid hv
  clear ht
  obtain ⟨ao, cap, rfl, -, -⟩ := hv
  by_cases h5 : n ≤ 200
  · have hlen := encF_len f n
    have hsz : (⟨(encF f n).toArray⟩ : ByteArray).size ≤ 800 := by show (encF f n).length ≤ 800; omega
    have HBK := Lib.hid (back (f := f) (n := n))
    have HE := Lib.hid (uenc_any (.slice ao n cap) n f (by omega))
    have HR := Lib.hid (renc_any (.slice ao n cap) n f (by omega))
    have HD := Lib.hid (decode_any ⟨(encF f n).toArray⟩ (by omega))
    unfold DecPost at HD
    generalize encF f n = E at *
    go_enter Tryd.func4, Tryd.ntmps4
    go_wp2_with fail
    refine (HE.out _ HV.out).mono ?_
    rintro e w1 ⟨rfl, hb⟩
    have HB := Lib.hid hb
    have HV1 := Lib.hid (HV.out.below hb)
    clear hb
    go_wp2_with fail
    go_loopw [4, 5] (fun p i wr => ∃ k : Nat, k ≤ n ∧ i = .int .i64 k ∧ p = .bool (plainF f k) ∧ Below w.heap.size w wr ∧ SlI wr (.slice ao n cap) n f) (fun _ i _ => n - (intOf i).toNat)
    case atStart => exact ⟨0, Nat.zero_le _, rfl, by simp [plainF], HB.out, HV1.out⟩
    case round =>
      obtain ⟨k, hk, rfl, rfl, hb, hs⟩ := hrel
      have HBr := Lib.hid hb
      have HVr := Lib.hid hs
      clear hb
      by_cases hlt : k < n
      · obtain ⟨ao2, cap2, e2, _, hc⟩ := hs
        cases e2
        obtain ⟨b, off, rfl, hbl, hcell⟩ := hc (by omega)
        have d1 := hcell k hlt
        clear hc hcell
        have HP := Lib.hid (plainF_succ f k)
        have HQ1 := Lib.hid (right_q (f k))
        have HQ2 := Lib.hid (right2_q (f k))
        generalize hr : rightB (f k) = r at *
        clear hr
        cases hp : plainF f k <;> cases r <;> by_cases hbig : f k ≤ 1114111
        all_goals
          have HBIG := Lib.hid hbig
          rw [hp] at HP
          clear hp
          go_wp2_with fail
          go_quiet (first | (go_at_call 13; exact Calls.quiet_of_same (HQ1.out _)) | (go_at_call 14; exact Calls.quiet_of_same (HQ2.out _)))
          go_wp2_with (first | (go_at_call 13; refine (HQ1.out _).mono ?_; rintro e w4 ⟨rfl, rfl⟩) | (go_at_call 14; refine (HQ2.out _).mono ?_; rintro e w4 ⟨rfl, rfl⟩))
          go_roundw
          case rel => exact ⟨k + 1, by omega, by go_num, by rw [HP.out]; simp [HBIG.out], below_drewN HBr.out _, HVr.out.below (below_drewN (Below.refl _ _) _)⟩
          case measure => simp [intOf]; omega
      · have hkn : k = n := by omega
        subst hkn
        generalize hp : plainF f k = p at *
        go_wp2_with fail
        refine (awake_any _ (HT.out.below HBr.out)).mono ?_
        rintro e w2 ⟨rfl, hb2⟩
        have HB2 := Lib.hid (HBr.out.trans (hb2.mono HBr.out.size))
        have HV2 := Lib.hid (HVr.out.below hb2)
        clear hb2
        go_wp2_with fail
        refine (HR.out _ HV2.out).mono ?_
        rintro e w3 ⟨rfl, hb3⟩
        have HB3 := Lib.hid (HB2.out.trans (hb3.mono HB2.out.size))
        have HV3 := Lib.hid (HV2.out.below hb3)
        clear hb3
        cases p
        · go_wp2_with fail
          go_ret
          exact ⟨rfl, HB3.out⟩
        · have hsame := Lib.hid (HBK.out rfl)
          go_wp2_with fail
          refine (HD.out _).mono ?_
          rintro e w4 ⟨v4, rfl, ho4, hb4⟩
          have HO4 := Lib.hid (own_sl ho4).2
          have HB4 := Lib.hid (HB3.out.trans (hb4.mono HB3.out.size))
          have HV4 := Lib.hid (HV3.out.below hb4)
          clear hb4 ho4
          go_wp2_with fail
          refine (same_any _ _ _ _ _ _ _ HO4.out HV4.out).mono ?_
          rintro e w5 ⟨rfl, hb5⟩
          rw [hsame.out]
          have HB5 := Lib.hid (HB4.out.trans (hb5.mono HB4.out.size))
          clear hb5
          go_wp2_with fail
          go_ret
          exact ⟨rfl, HB5.out⟩
  · go_enter Tryd.func4, Tryd.ntmps4
    go_wp2_with fail
    refine (awake_any _ HT.out).mono ?_
    rintro e w1 ⟨rfl, hb⟩
    go_wp2_with fail
    go_ret
    exact ⟨rfl, hb⟩
end Go.Proofs.YtipekkddhelhmaaDoor
