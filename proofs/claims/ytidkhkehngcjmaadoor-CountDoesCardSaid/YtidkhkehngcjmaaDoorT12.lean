/- The walk of CountTells: for every uint16 it answers true, and nothing that was there before is written. -/
import Derived.Test.YtidkhkehngcjmaaDoorT11
namespace Go.Proofs.YtidkhkehngcjmaaDoor
open Go.RowKit
theorem digit_byte (d : Nat) (h : d < 10) : (UInt8.ofNat (48 + d)).toNat = 48 + d := by
  simp; omega
theorem decL_digits (f : Nat) : ∀ n, ∀ b ∈ decL f n, 48 ≤ b.toNat ∧ b.toNat ≤ 57 := by
  induction f with
  | zero => intro n b hb; simp only [decL, List.mem_singleton] at hb; subst hb; rw [digit_byte _ (by omega)]; omega
  | succ f ih =>
    intro n b hb
    simp only [decL] at hb
    split at hb
    · rw [List.mem_singleton] at hb; subst hb; rw [digit_byte _ (by omega)]; omega
    · rw [List.mem_append, List.mem_singleton] at hb
      rcases hb with hb | hb
      · exact ih _ b hb
      · subst hb; rw [digit_byte _ (by omega)]; omega
theorem step_dig (s : CS) (d : Nat) (h : d < 10) : s.step (UInt8.ofNat (48 + d)) = ⟨true, true, s.bl, min (10 * s.n + d) 9999⟩ := by
  have h1 := digit_byte d h
  rw [step_digit s (by intro e; rw [e] at h1; simp at h1; omega), h1]
  congr 2
  omega
theorem run_dec (f : Nat) : ∀ n, n < 10 ^ (f + 1) → CS.run (decL f n) = ⟨true, true, false, min n 9999⟩ := by
  induction f with
  | zero =>
    intro n hn
    have hn' : n < 10 := by simpa using hn
    have : n % 10 = n := by omega
    simp only [decL, this]
    show CS.step CS.zero _ = _
    rw [step_dig _ _ hn']
    simp [CS.zero]
  | succ f ih =>
    intro n hn
    have hp : 10 ^ (f + 1 + 1) = 10 ^ (f + 1) * 10 := by rw [Nat.pow_succ]
    simp only [decL]
    split
    · rename_i h
      show CS.step CS.zero _ = _
      rw [step_dig _ _ h]
      simp [CS.zero]
    · rw [run_snoc, ih (n / 10) (by omega), step_dig _ _ (by omega)]
      simp only [CS.mk.injEq, true_and]
      omega
theorem fold_bg (l : List UInt8) : ∀ s : CS, s.bg = true → (l.foldl CS.step s).bg = true := by
  induction l with
  | nil => intro s h; exact h
  | cons b l ih => intro s _; exact ih _ (by unfold CS.step; split <;> rfl)
theorem run_bg (l : List UInt8) : (CS.run l).bg = !l.isEmpty := by
  cases l with
  | nil => rfl
  | cons b l => exact fold_bg l _ (by unfold CS.step; split <;> rfl)
theorem run_zero (l : List UInt8) (h : (CS.run l).bg = false) : CS.run l = ⟨false, false, false, 0⟩ := by
  rw [run_bg] at h
  cases l with
  | nil => rfl
  | cons b l => simp at h
theorem put_step (s : CS) (b : UInt8) (h1 : 48 ≤ b.toNat) (h2 : b.toNat ≤ 57) : s.put 3 (b.toNat : Int) = s.step b ∧ digOk 3 (b.toNat : Int) s.bg = true := by
  have h : digOk 3 (b.toNat : Int) s.bg = true := by simp [digOk]; omega
  refine ⟨?_, h⟩
  rw [put_yes h, step_digit s (by intro e; rw [e] at h1; simp at h1)]
theorem may_dig (v : Int) (h1 : 48 ≤ v) (h2 : v ≤ 57) : mayB 3 v ⟨#[]⟩ false = true := by
  have a : ¬ v = 10 := by omega
  have b : ¬ v = 13 := by omega
  have c : ¬ v = 27 := by omega
  have d : 0 ≤ v := by omega
  have e : v ≤ 127 := by omega
  simp [mayB, emptyB_nil, *]
set_option maxHeartbeats 1000000 in
theorem tells_any (n : Int) (h0 : 0 ≤ n) (h1 : n ≤ 65535) (w : World) (ht : KeyTab w) : Calls Tryd.prog 4 #[.int .u16 n] w fun e w' => e = .returned (.bool true) ∧ Below w.heap.size w w' := by
  have hg := ht.1
  have HT := Lib.hid ht
  clear ht
  go_enter Tryd.func4, Tryd.ntmps4
  go_wp2_with fail
  refine (awake_any _ HT.out).mono ?_
  rintro e w1 ⟨rfl, hb⟩
  have HT1 := Lib.hid (HT.out.below hb)
  have HB1 := Lib.hid hb
  clear hb
  go_wp2_with fail
  refine (new_any _).mono ?_
  rintro e w2 ⟨rfl, hw2⟩
  have HC2 : Hid (Blk w2 w1.heap.size CS.zero.cells 42) := by rw [← hw2]; exact Blk.new w1 _ _
  have HB2 : Hid (Below w.heap.size w w2) := by show Below _ _ _; rw [← hw2]; exact HB1.out.alloc HB1.out.size _
  have HT2 : Hid (KeyTab w2) := by show KeyTab _; rw [← hw2]; exact HT1.out.below (by go_grown)
  have hsz1 := HB1.out.size
  clear hw2
  go_wp2_with fail
  refine (dec_any 4 n _ h0 (by omega) (by omega) (by omega)).mono ?_
  rintro e w3 ⟨rfl, rfl⟩
  go_wp2_with fail
  rw [show n.toNat = n.toNat from rfl]
  have hL := decL_len 4 n.toNat
  have HL := Lib.hid (decL_digits 4 n.toNat)
  have HR := Lib.hid (run_dec 4 n.toNat (by omega))
  generalize decL 4 n.toNat = L at *
  have hsz : (⟨L.toArray⟩ : ByteArray).size = L.length := rfl
  go_loopw [5] (fun i wr => ∃ k : Nat, k ≤ L.length ∧ i = .int .i64 k ∧ Blk wr w1.heap.size (CS.run (L.take k)).cells 42 ∧ Below w.heap.size w wr ∧ KeyTab wr) (fun i _ => L.length - (intOf i).toNat)
  case atStart => exact ⟨0, Nat.zero_le _, rfl, HC2.out, HB2.out, HT2.out⟩
  case round =>
    obtain ⟨k, hk, rfl, hc, hb, ht⟩ := hrel
    have HC := Lib.hid hc
    have HB := Lib.hid hb
    have HT3 := Lib.hid ht
    clear hc hb ht
    by_cases hlt : k < L.length
    · have HS := Lib.hid (show CS.run (L.take (k + 1)) = (CS.run (L.take k)).step L[k] by rw [List.take_succ_eq_append_getElem hlt, run_snoc])
      have hd := HL.out L[k] (List.getElem_mem hlt)
      obtain ⟨hd1, hd2⟩ := hd
      have hbd := run_bd (L.take k) (fun b hb => by have := HL.out b (List.mem_of_mem_take hb); simp [okByte]; omega)
      have HBD := Lib.hid hbd
      have HP := Lib.hid (put_step (CS.run (L.take k)) L[k] hd1 hd2)
      clear hbd
      go_wp2_with fail
      have hwr : wrap64 ((((⟨L.toArray⟩ : ByteArray)[k]'hlt).toNat : Nat) : Int) = (L[k].toNat : Int) := by
        show wrap64 (L[k].toNat : Int) = _
        unfold wrap64
        omega
      rw [hwr]
      clear hwr
      refine (do_dig w1.heap.size _ 3 (L[k].toNat : Int) wr HC.out HT3.out (may_dig _ (by omega) (by omega)) (by rintro ⟨_, h, _⟩; omega) (run_zero _) HBD.out.1 HBD.out.2 true HP.out.2).mono ?_
      rintro e w4 ⟨rfl, hc4, hk4⟩
      have HC4 := Lib.hid hc4
      have HB4 := Lib.hid (Keep.onto HB.out hk4 (HB.out.size) (by intro k hk; omega))
      have HT4 := Lib.hid (HT3.out.keep hk4 (by omega))
      clear hc4 hk4
      go_wp2_with fail
      go_roundw
      case rel => exact ⟨k + 1, by omega, by go_num, by rw [HS.out, ← HP.out.1]; exact HC4.out, HB4.out, HT4.out⟩
      case measure => simp [intOf]; omega
    · have hke : k = L.length := by omega
      have HE : Hid (CS.run (L.take k) = ⟨true, true, false, min (n.toNat : Int) 9999⟩) := by
        show _ = _
        rw [hke, List.take_of_length_le (by omega)]
        exact HR.out
      clear hke
      have HV := Lib.hid HC.out
      have hm0 : 0 ≤ min (n.toNat : Int) 9999 := by omega
      have hm1 : min (n.toNat : Int) 9999 ≤ 9999 := by omega
      have HC5 : Hid (Blk wr w1.heap.size (CS.cells ⟨true, true, false, min (n.toNat : Int) 9999⟩) 42) := by
        show Blk _ _ _ _
        rw [← HE.out]; exact HC.out
      go_wp2_with fail
      refine (take_any w1.heap.size _ (min (n.toNat : Int) 9999) true _ HC5.out (value_begun w1.heap.size true false _ hm0 hm1 _ HC5.out)).mono ?_
      rintro e w5 ⟨rfl, hb5, hk5⟩
      have HB5 := Lib.hid (Keep.onto HB.out hk5 (HB.out.size) (by intro k hk; omega))
      clear hb5 hk5
      go_wp2_with fail
      refine (take_nil _).mono ?_
      rintro e w6 ⟨rfl, rfl⟩
      go_wp2_with fail
      refine (low_any _ _ _).mono ?_
      rintro e w7 ⟨rfl, rfl⟩
      have hlow : (min (max n 0) 9999 == low n 9999) = true := by
        rw [beq_iff_eq]; unfold low; split <;> omega
      go_wp2_with fail
      refine (do_nil _ _ _ _ _).mono ?_
      rintro e w8 ⟨rfl, hb8⟩
      have HB8 := Lib.hid (HB5.out.trans (hb8.mono HB5.out.size))
      clear hb8
      go_wp2_with fail
      go_ret
      exact ⟨rfl, HB8.out⟩
end Go.Proofs.YtidkhkehngcjmaaDoor
