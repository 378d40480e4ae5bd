/- The contract of FullRuneInString, for every text that is not empty, where the two tables of unicode/utf8 lie in memory. -/
import Derived.Test.YtipekkddhelhmaaDoorU7
namespace Go.Proofs.YtipekkddhelhmaaDoor
open Go.RowKit
/-- unicode/utf8.first, told by the byte. -/
def firstN (b : Nat) : Nat :=
  if b < 128 then 0xF0 else if b < 194 then 0xF1 else if b < 224 then 0x02 else if b = 224 then 0x13 else if b < 237 then 0x03 else if b = 237 then 0x23 else if b < 240 then 0x03 else if b = 240 then 0x34 else if b < 244 then 0x04 else if b = 244 then 0x44 else 0xF1
def lowN (i : Nat) : Nat := if i = 1 then 160 else if i = 3 then 144 else 128
def highN (i : Nat) : Nat := if i = 2 then 159 else if i = 4 then 143 else 191
/-- The two tables of unicode/utf8 lie in memory. -/
def UtfTabs (w : World) : Prop := 1 < w.heap.size ∧ (∀ i, i < 256 → w.cell? ⟨0, i, none⟩ = some (.int .u8 (firstN i))) ∧ ∀ i, i < 5 → w.cell? ⟨1, i * 2, none⟩ = some (.int .u8 (lowN i)) ∧ w.cell? ⟨1, i * 2 + 1, none⟩ = some (.int .u8 (highN i))
theorem UtfTabs.below {w w' : World} (h : UtfTabs w) (hb : Below w.heap.size w w') : UtfTabs w' :=
  ⟨Nat.lt_of_lt_of_le h.1 hb.size, fun i hi => (hb.cell (p := ⟨0, i, none⟩) (by show 0 < _; have := h.1; omega)).trans (h.2.1 i hi), fun i hi => ⟨(hb.cell (p := ⟨1, i * 2, none⟩) h.1).trans (h.2.2 i hi).1, (hb.cell (p := ⟨1, i * 2 + 1, none⟩) h.1).trans (h.2.2 i hi).2⟩⟩
theorem first_cases (b : Nat) (h : b < 256) : (firstN b = 0xF0 ∧ sizeN b = 1) ∨ (firstN b = 0xF1 ∧ sizeN b = 0) ∨
    (firstN b = 0x02 ∧ sizeN b = 2 ∧ b ≠ 224 ∧ b ≠ 237 ∧ b ≠ 240 ∧ b ≠ 244) ∨ (firstN b = 0x13 ∧ sizeN b = 3 ∧ b = 224) ∨ (firstN b = 0x03 ∧ sizeN b = 3 ∧ b ≠ 224 ∧ b ≠ 237 ∧ b ≠ 240 ∧ b ≠ 244) ∨ (firstN b = 0x23 ∧ sizeN b = 3 ∧ b = 237) ∨
    (firstN b = 0x34 ∧ sizeN b = 4 ∧ b = 240) ∨ (firstN b = 0x04 ∧ sizeN b = 4 ∧ b ≠ 224 ∧ b ≠ 237 ∧ b ≠ 240 ∧ b ≠ 244) ∨ (firstN b = 0x44 ∧ sizeN b = 4 ∧ b = 244) := by
  have key : (List.range 256).all (fun b => (firstN b == 0xF0 && sizeN b == 1) || (firstN b == 0xF1 && sizeN b == 0) || (firstN b == 0x02 && sizeN b == 2 && b != 224 && b != 237 && b != 240 && b != 244) || (firstN b == 0x13 && sizeN b == 3 && b == 224) ||
      (firstN b == 0x03 && sizeN b == 3 && b != 224 && b != 237 && b != 240 && b != 244) || (firstN b == 0x23 && sizeN b == 3 && b == 237) || (firstN b == 0x34 && sizeN b == 4 && b == 240) || (firstN b == 0x04 && sizeN b == 4 && b != 224 && b != 237 && b != 240 && b != 244) || (firstN b == 0x44 && sizeN b == 4 && b == 244)) = true := by decide +kernel
  have := List.all_eq_true.1 key b (by simpa using h)
  simp only [Bool.or_eq_true, Bool.and_eq_true, beq_iff_eq, bne_iff_ne] at this
  simpa only [or_assoc, and_assoc] using this
/-- Is a text that is not empty all of a code point's beginning, and less. -/
def partL (l : List UInt8) : Bool := decide (l.length < sizeN (at_ l 0)) && (List.range l.length).all fun i => i == 0 || mayN (at_ l 0) (at_ l i) i
def FullPost (l : List UInt8) (w : World) (e : Ending) (w' : World) : Prop := e = .returned (.bool (!partL l)) ∧ Below w.heap.size w w'
theorem partL_iff (l : List UInt8) : partL l = true ↔ l.length < sizeN (at_ l 0) ∧ ∀ i, 1 ≤ i → i < l.length → mayN (at_ l 0) (at_ l i) i = true := by
  unfold partL
  simp only [Bool.and_eq_true, decide_eq_true_eq, List.all_eq_true, List.mem_range, Bool.or_eq_true, beq_iff_eq]
  constructor
  · rintro ⟨h1, h2⟩
    exact ⟨h1, fun i hi hl => (h2 i hl).resolve_left (by omega)⟩
  · rintro ⟨h1, h2⟩
    exact ⟨h1, fun i hl => by by_cases hi : i = 0
                              · exact .inl hi
                              · exact .inr (h2 i (by omega) hl)⟩
theorem full_no {l : List UInt8} {w w' : World} (h : ¬ (l.length < sizeN (at_ l 0) ∧ ∀ i, 1 ≤ i → i < l.length → mayN (at_ l 0) (at_ l i) i = true)) (hb : Below w.heap.size w w') : FullPost l w (.returned (.bool true)) w' := by
  have e : partL l = false := by cases hp : partL l; · rfl
                                 · exact absurd ((partL_iff l).1 hp) h
  exact ⟨by rw [e]; rfl, hb⟩
theorem full_yes {l : List UInt8} {w w' : World} (h : l.length < sizeN (at_ l 0) ∧ ∀ i, 1 ≤ i → i < l.length → mayN (at_ l 0) (at_ l i) i = true) (hb : Below w.heap.size w w') : FullPost l w (.returned (.bool false)) w' := by
  have e : partL l = true := (partL_iff l).2 h
  exact ⟨by rw [e]; rfl, hb⟩
theorem part1 {l : List UInt8} (hl : l.length ≤ 2) (h : mayN (at_ l 0) (at_ l 1) 1 = true) : ∀ i, 1 ≤ i → i < l.length → mayN (at_ l 0) (at_ l i) i = true := by
  intro i h1 h2
  obtain rfl : i = 1 := by omega
  exact h
theorem part2 {l : List UInt8} (hl : l.length ≤ 3) (h : mayN (at_ l 0) (at_ l 1) 1 = true) (h' : mayN (at_ l 0) (at_ l 2) 2 = true) : ∀ i, 1 ≤ i → i < l.length → mayN (at_ l 0) (at_ l i) i = true := by
  intro i h1 h2
  rcases (show i = 1 ∨ i = 2 by omega) with rfl | rfl
  · exact h
  · exact h'
theorem may1 {b c : Nat} (h : mayN b c 1 = true) : 128 ≤ c ∧ c ≤ 191 ∧ ¬ ((b = 224 ∧ c < 160) ∨ (b = 237 ∧ 159 < c) ∨ (b = 240 ∧ c < 144) ∨ (b = 244 ∧ 143 < c)) := by
  simp only [mayN, decide_eq_true_eq] at h; omega
theorem may1' {b c : Nat} (h : 128 ≤ c ∧ c ≤ 191 ∧ ¬ ((b = 224 ∧ c < 160) ∨ (b = 237 ∧ 159 < c) ∨ (b = 240 ∧ c < 144) ∨ (b = 244 ∧ 143 < c))) : mayN b c 1 = true := by
  simp only [mayN, decide_eq_true_eq]; omega
theorem may2 {b c : Nat} (h : mayN b c 2 = true) : 128 ≤ c ∧ c ≤ 191 := by
  simp only [mayN, decide_eq_true_eq] at h; omega
theorem may2' {b c : Nat} (h : 128 ≤ c ∧ c ≤ 191) : mayN b c 2 = true := by
  simp only [mayN, decide_eq_true_eq]; omega
set_option maxHeartbeats 4000000 in
set_option maxRecDepth 100000 in
theorem full_02 (s : ByteArray) (h0 : 0 < s.size) (w : World) (ht : UtfTabs w) (hs : s.size ≤ 1000000) (hx : firstN (s[0]'h0).toNat = 0x02) (hz : sizeN (s[0]'h0).toNat = 2) (hy : (s[0]'h0).toNat ≠ 224 ∧ (s[0]'h0).toNat ≠ 237 ∧ (s[0]'h0).toNat ≠ 240 ∧ (s[0]'h0).toNat ≠ 244) : Calls Tryd.prog 24 #[.string s] w (FullPost s.data.toList w) := by
  have hb0 : (s[0]'h0).toNat < 256 := (s[0]'h0).toNat_lt
  have HAT := Lib.hid (at_get s 0 h0)
  have hl : s.data.toList.length = s.size := by simp
  have HL := Lib.hid hl
  clear hl
  have hw1 := ht.1
  have hw0 : 0 < w.heap.size := by omega
  have hf := ht.2.1 _ hb0
  have hn0 : ((s.size : Int) == 0) = false := by rw [beq_eq_false_iff_ne]; omega
  rw [hx] at hf
  have HZ := Lib.hid hz
  clear hx hz
  have HY := Lib.hid hy
  have hr0 := (ht.2.2 0 (by omega)).1
  have hr1 := (ht.2.2 0 (by omega)).2
  simp [lowN, highN] at hr0 hr1
  clear hy ht
  by_cases h2 : s.size < 2
  · by_cases h3 : s.size = 1
    · have hg : decide ((1 : Int) < (s.size : Int)) = false := by simp; omega
      go_enter Tryd.func24, Tryd.ntmps24
      go_wp2_with fail
      go_quiet (fail)
      go_wp2_with fail
      go_ret
      exact full_yes ⟨by rw [← HAT.out, HZ.out, HL.out]; omega, fun i hi hl => by rw [HL.out] at hl; omega⟩ (below_drewN (by go_grown) _)
    · exfalso; omega
  · go_enter Tryd.func24, Tryd.ntmps24
    go_wp2_with fail
    go_ret
    exact full_no (by rintro ⟨h, _⟩; rw [← HAT.out, HZ.out, HL.out] at h; omega) (by go_grown)
set_option maxHeartbeats 4000000 in
set_option maxRecDepth 100000 in
theorem full_13 (s : ByteArray) (h0 : 0 < s.size) (w : World) (ht : UtfTabs w) (hs : s.size ≤ 1000000) (hx : firstN (s[0]'h0).toNat = 0x13) (hz : sizeN (s[0]'h0).toNat = 3) (hy : (s[0]'h0).toNat = 224) : Calls Tryd.prog 24 #[.string s] w (FullPost s.data.toList w) := by
  have hb0 : (s[0]'h0).toNat < 256 := (s[0]'h0).toNat_lt
  have HAT := Lib.hid (at_get s 0 h0)
  have hl : s.data.toList.length = s.size := by simp
  have HL := Lib.hid hl
  clear hl
  have hw1 := ht.1
  have hw0 : 0 < w.heap.size := by omega
  have hf := ht.2.1 _ hb0
  have hn0 : ((s.size : Int) == 0) = false := by rw [beq_eq_false_iff_ne]; omega
  rw [hx] at hf
  have HZ := Lib.hid hz
  clear hx hz
  have HY := Lib.hid hy
  have hr0 := (ht.2.2 1 (by omega)).1
  have hr1 := (ht.2.2 1 (by omega)).2
  simp [lowN, highN] at hr0 hr1
  clear hy ht
  by_cases h2 : s.size < 3
  · by_cases h3 : s.size = 1
    · have hg : decide ((1 : Int) < (s.size : Int)) = false := by simp; omega
      go_enter Tryd.func24, Tryd.ntmps24
      go_wp2_with fail
      go_quiet (fail)
      go_wp2_with fail
      go_ret
      exact full_yes ⟨by rw [← HAT.out, HZ.out, HL.out]; omega, fun i hi hl => by rw [HL.out] at hl; omega⟩ (below_drewN (by go_grown) _)
    · have h1 : 1 < s.size := by omega
      have hg : decide ((1 : Int) < (s.size : Int)) = true := by simp; omega
      have h1i : (1 : Int) < (s.size : Int) := by omega
      have HA1 := Lib.hid (at_get s 1 h1)
      by_cases hlo : (s[1]'h1).toNat < 160
      · have hc1 : decide (((s[1]'h1).toNat : Int) < 160) = true := by simp; omega
        go_enter Tryd.func24, Tryd.ntmps24
        go_wp2_with fail
        go_quiet (fail)
        go_wp2_with fail
        go_ret
        exact full_no (by rintro ⟨_, h⟩; have h5 := may1 (h 1 (by omega) (by rw [HL.out]; exact h1)); have h6 := HA1.out; have h7 := HAT.out; have h8 := HY.out; omega) (below_drewN (by go_grown) _)
      have hc1 : decide (((s[1]'h1).toNat : Int) < 160) = false := by simp; omega
      by_cases hhi : 191 < (s[1]'h1).toNat
      · have hc2 : decide ((191 : Int) < ((s[1]'h1).toNat : Int)) = true := by simp; omega
        go_enter Tryd.func24, Tryd.ntmps24
        go_wp2_with fail
        go_quiet (fail)
        go_wp2_with fail
        go_ret
        exact full_no (by rintro ⟨_, h⟩; have h5 := may1 (h 1 (by omega) (by rw [HL.out]; exact h1)); have h6 := HA1.out; have h7 := HAT.out; have h8 := HY.out; omega) (below_drewN (by go_grown) _)
      have hc2 : decide ((191 : Int) < ((s[1]'h1).toNat : Int)) = false := by simp; omega
      have HM1 := Lib.hid (show mayN (at_ s.data.toList 0) (at_ s.data.toList 1) 1 = true from may1' (by have h6 := HA1.out; have h7 := HAT.out; have h8 := HY.out; omega))
      go_enter Tryd.func24, Tryd.ntmps24
      go_wp2_with fail
      go_quiet (fail)
      go_wp2_with fail
      go_ret
      exact full_yes ⟨by rw [← HAT.out, HZ.out, HL.out]; omega, part1 (by rw [HL.out]; omega) HM1.out⟩ (below_drewN (by go_grown) _)
  · go_enter Tryd.func24, Tryd.ntmps24
    go_wp2_with fail
    go_ret
    exact full_no (by rintro ⟨h, _⟩; rw [← HAT.out, HZ.out, HL.out] at h; omega) (by go_grown)
set_option maxHeartbeats 4000000 in
set_option maxRecDepth 100000 in
theorem full_03 (s : ByteArray) (h0 : 0 < s.size) (w : World) (ht : UtfTabs w) (hs : s.size ≤ 1000000) (hx : firstN (s[0]'h0).toNat = 0x03) (hz : sizeN (s[0]'h0).toNat = 3) (hy : (s[0]'h0).toNat ≠ 224 ∧ (s[0]'h0).toNat ≠ 237 ∧ (s[0]'h0).toNat ≠ 240 ∧ (s[0]'h0).toNat ≠ 244) : Calls Tryd.prog 24 #[.string s] w (FullPost s.data.toList w) := by
  have hb0 : (s[0]'h0).toNat < 256 := (s[0]'h0).toNat_lt
  have HAT := Lib.hid (at_get s 0 h0)
  have hl : s.data.toList.length = s.size := by simp
  have HL := Lib.hid hl
  clear hl
  have hw1 := ht.1
  have hw0 : 0 < w.heap.size := by omega
  have hf := ht.2.1 _ hb0
  have hn0 : ((s.size : Int) == 0) = false := by rw [beq_eq_false_iff_ne]; omega
  rw [hx] at hf
  have HZ := Lib.hid hz
  clear hx hz
  have HY := Lib.hid hy
  have hr0 := (ht.2.2 0 (by omega)).1
  have hr1 := (ht.2.2 0 (by omega)).2
  simp [lowN, highN] at hr0 hr1
  clear hy ht
  by_cases h2 : s.size < 3
  · by_cases h3 : s.size = 1
    · have hg : decide ((1 : Int) < (s.size : Int)) = false := by simp; omega
      go_enter Tryd.func24, Tryd.ntmps24
      go_wp2_with fail
      go_quiet (fail)
      go_wp2_with fail
      go_ret
      exact full_yes ⟨by rw [← HAT.out, HZ.out, HL.out]; omega, fun i hi hl => by rw [HL.out] at hl; omega⟩ (below_drewN (by go_grown) _)
    · have h1 : 1 < s.size := by omega
      have hg : decide ((1 : Int) < (s.size : Int)) = true := by simp; omega
      have h1i : (1 : Int) < (s.size : Int) := by omega
      have HA1 := Lib.hid (at_get s 1 h1)
      by_cases hlo : (s[1]'h1).toNat < 128
      · have hc1 : decide (((s[1]'h1).toNat : Int) < 128) = true := by simp; omega
        go_enter Tryd.func24, Tryd.ntmps24
        go_wp2_with fail
        go_quiet (fail)
        go_wp2_with fail
        go_ret
        exact full_no (by rintro ⟨_, h⟩; have h5 := may1 (h 1 (by omega) (by rw [HL.out]; exact h1)); have h6 := HA1.out; have h7 := HAT.out; have h8 := HY.out; omega) (below_drewN (by go_grown) _)
      have hc1 : decide (((s[1]'h1).toNat : Int) < 128) = false := by simp; omega
      by_cases hhi : 191 < (s[1]'h1).toNat
      · have hc2 : decide ((191 : Int) < ((s[1]'h1).toNat : Int)) = true := by simp; omega
        go_enter Tryd.func24, Tryd.ntmps24
        go_wp2_with fail
        go_quiet (fail)
        go_wp2_with fail
        go_ret
        exact full_no (by rintro ⟨_, h⟩; have h5 := may1 (h 1 (by omega) (by rw [HL.out]; exact h1)); have h6 := HA1.out; have h7 := HAT.out; have h8 := HY.out; omega) (below_drewN (by go_grown) _)
      have hc2 : decide ((191 : Int) < ((s[1]'h1).toNat : Int)) = false := by simp; omega
      have HM1 := Lib.hid (show mayN (at_ s.data.toList 0) (at_ s.data.toList 1) 1 = true from may1' (by have h6 := HA1.out; have h7 := HAT.out; have h8 := HY.out; omega))
      go_enter Tryd.func24, Tryd.ntmps24
      go_wp2_with fail
      go_quiet (fail)
      go_wp2_with fail
      go_ret
      exact full_yes ⟨by rw [← HAT.out, HZ.out, HL.out]; omega, part1 (by rw [HL.out]; omega) HM1.out⟩ (below_drewN (by go_grown) _)
  · go_enter Tryd.func24, Tryd.ntmps24
    go_wp2_with fail
    go_ret
    exact full_no (by rintro ⟨h, _⟩; rw [← HAT.out, HZ.out, HL.out] at h; omega) (by go_grown)
set_option maxHeartbeats 4000000 in
set_option maxRecDepth 100000 in
theorem full_23 (s : ByteArray) (h0 : 0 < s.size) (w : World) (ht : UtfTabs w) (hs : s.size ≤ 1000000) (hx : firstN (s[0]'h0).toNat = 0x23) (hz : sizeN (s[0]'h0).toNat = 3) (hy : (s[0]'h0).toNat = 237) : Calls Tryd.prog 24 #[.string s] w (FullPost s.data.toList w) := by
  have hb0 : (s[0]'h0).toNat < 256 := (s[0]'h0).toNat_lt
  have HAT := Lib.hid (at_get s 0 h0)
  have hl : s.data.toList.length = s.size := by simp
  have HL := Lib.hid hl
  clear hl
  have hw1 := ht.1
  have hw0 : 0 < w.heap.size := by omega
  have hf := ht.2.1 _ hb0
  have hn0 : ((s.size : Int) == 0) = false := by rw [beq_eq_false_iff_ne]; omega
  rw [hx] at hf
  have HZ := Lib.hid hz
  clear hx hz
  have HY := Lib.hid hy
  have hr0 := (ht.2.2 2 (by omega)).1
  have hr1 := (ht.2.2 2 (by omega)).2
  simp [lowN, highN] at hr0 hr1
  clear hy ht
  by_cases h2 : s.size < 3
  · by_cases h3 : s.size = 1
    · have hg : decide ((1 : Int) < (s.size : Int)) = false := by simp; omega
      go_enter Tryd.func24, Tryd.ntmps24
      go_wp2_with fail
      go_quiet (fail)
      go_wp2_with fail
      go_ret
      exact full_yes ⟨by rw [← HAT.out, HZ.out, HL.out]; omega, fun i hi hl => by rw [HL.out] at hl; omega⟩ (below_drewN (by go_grown) _)
    · have h1 : 1 < s.size := by omega
      have hg : decide ((1 : Int) < (s.size : Int)) = true := by simp; omega
      have h1i : (1 : Int) < (s.size : Int) := by omega
      have HA1 := Lib.hid (at_get s 1 h1)
      by_cases hlo : (s[1]'h1).toNat < 128
      · have hc1 : decide (((s[1]'h1).toNat : Int) < 128) = true := by simp; omega
        go_enter Tryd.func24, Tryd.ntmps24
        go_wp2_with fail
        go_quiet (fail)
        go_wp2_with fail
        go_ret
        exact full_no (by rintro ⟨_, h⟩; have h5 := may1 (h 1 (by omega) (by rw [HL.out]; exact h1)); have h6 := HA1.out; have h7 := HAT.out; have h8 := HY.out; omega) (below_drewN (by go_grown) _)
      have hc1 : decide (((s[1]'h1).toNat : Int) < 128) = false := by simp; omega
      by_cases hhi : 159 < (s[1]'h1).toNat
      · have hc2 : decide ((159 : Int) < ((s[1]'h1).toNat : Int)) = true := by simp; omega
        go_enter Tryd.func24, Tryd.ntmps24
        go_wp2_with fail
        go_quiet (fail)
        go_wp2_with fail
        go_ret
        exact full_no (by rintro ⟨_, h⟩; have h5 := may1 (h 1 (by omega) (by rw [HL.out]; exact h1)); have h6 := HA1.out; have h7 := HAT.out; have h8 := HY.out; omega) (below_drewN (by go_grown) _)
      have hc2 : decide ((159 : Int) < ((s[1]'h1).toNat : Int)) = false := by simp; omega
      have HM1 := Lib.hid (show mayN (at_ s.data.toList 0) (at_ s.data.toList 1) 1 = true from may1' (by have h6 := HA1.out; have h7 := HAT.out; have h8 := HY.out; omega))
      go_enter Tryd.func24, Tryd.ntmps24
      go_wp2_with fail
      go_quiet (fail)
      go_wp2_with fail
      go_ret
      exact full_yes ⟨by rw [← HAT.out, HZ.out, HL.out]; omega, part1 (by rw [HL.out]; omega) HM1.out⟩ (below_drewN (by go_grown) _)
  · go_enter Tryd.func24, Tryd.ntmps24
    go_wp2_with fail
    go_ret
    exact full_no (by rintro ⟨h, _⟩; rw [← HAT.out, HZ.out, HL.out] at h; omega) (by go_grown)
set_option maxHeartbeats 4000000 in
set_option maxRecDepth 100000 in
theorem full_34 (s : ByteArray) (h0 : 0 < s.size) (w : World) (ht : UtfTabs w) (hs : s.size ≤ 1000000) (hx : firstN (s[0]'h0).toNat = 0x34) (hz : sizeN (s[0]'h0).toNat = 4) (hy : (s[0]'h0).toNat = 240) : Calls Tryd.prog 24 #[.string s] w (FullPost s.data.toList w) := by
  have hb0 : (s[0]'h0).toNat < 256 := (s[0]'h0).toNat_lt
  have HAT := Lib.hid (at_get s 0 h0)
  have hl : s.data.toList.length = s.size := by simp
  have HL := Lib.hid hl
  clear hl
  have hw1 := ht.1
  have hw0 : 0 < w.heap.size := by omega
  have hf := ht.2.1 _ hb0
  have hn0 : ((s.size : Int) == 0) = false := by rw [beq_eq_false_iff_ne]; omega
  rw [hx] at hf
  have HZ := Lib.hid hz
  clear hx hz
  have HY := Lib.hid hy
  have hr0 := (ht.2.2 3 (by omega)).1
  have hr1 := (ht.2.2 3 (by omega)).2
  simp [lowN, highN] at hr0 hr1
  clear hy ht
  by_cases h2 : s.size < 4
  · by_cases h3 : s.size = 1
    · have hg : decide ((1 : Int) < (s.size : Int)) = false := by simp; omega
      go_enter Tryd.func24, Tryd.ntmps24
      go_wp2_with fail
      go_quiet (fail)
      go_wp2_with fail
      go_ret
      exact full_yes ⟨by rw [← HAT.out, HZ.out, HL.out]; omega, fun i hi hl => by rw [HL.out] at hl; omega⟩ (below_drewN (by go_grown) _)
    · have h1 : 1 < s.size := by omega
      have hg : decide ((1 : Int) < (s.size : Int)) = true := by simp; omega
      have h1i : (1 : Int) < (s.size : Int) := by omega
      have HA1 := Lib.hid (at_get s 1 h1)
      by_cases hlo : (s[1]'h1).toNat < 144
      · have hc1 : decide (((s[1]'h1).toNat : Int) < 144) = true := by simp; omega
        go_enter Tryd.func24, Tryd.ntmps24
        go_wp2_with fail
        go_quiet (fail)
        go_wp2_with fail
        go_ret
        exact full_no (by rintro ⟨_, h⟩; have h5 := may1 (h 1 (by omega) (by rw [HL.out]; exact h1)); have h6 := HA1.out; have h7 := HAT.out; have h8 := HY.out; omega) (below_drewN (by go_grown) _)
      have hc1 : decide (((s[1]'h1).toNat : Int) < 144) = false := by simp; omega
      by_cases hhi : 191 < (s[1]'h1).toNat
      · have hc2 : decide ((191 : Int) < ((s[1]'h1).toNat : Int)) = true := by simp; omega
        go_enter Tryd.func24, Tryd.ntmps24
        go_wp2_with fail
        go_quiet (fail)
        go_wp2_with fail
        go_ret
        exact full_no (by rintro ⟨_, h⟩; have h5 := may1 (h 1 (by omega) (by rw [HL.out]; exact h1)); have h6 := HA1.out; have h7 := HAT.out; have h8 := HY.out; omega) (below_drewN (by go_grown) _)
      have hc2 : decide ((191 : Int) < ((s[1]'h1).toNat : Int)) = false := by simp; omega
      have HM1 := Lib.hid (show mayN (at_ s.data.toList 0) (at_ s.data.toList 1) 1 = true from may1' (by have h6 := HA1.out; have h7 := HAT.out; have h8 := HY.out; omega))
      by_cases h4 : s.size = 2
      · go_enter Tryd.func24, Tryd.ntmps24
        go_wp2_with fail
        go_quiet (fail)
        go_wp2_with fail
        go_ret
        exact full_yes ⟨by rw [← HAT.out, HZ.out, HL.out]; omega, part1 (by rw [HL.out]; omega) HM1.out⟩ (below_drewN (by go_grown) _)
      have h22 : 2 < s.size := by omega
      have h2i : (2 : Int) < (s.size : Int) := by omega
      have HA2 := Lib.hid (at_get s 2 h22)
      by_cases hl2 : (s[2]'h22).toNat < 128
      · go_enter Tryd.func24, Tryd.ntmps24
        go_wp2_with fail
        go_quiet (fail)
        go_wp2_with fail
        go_ret
        exact full_no (by rintro ⟨_, h⟩; have h5 := may2 (h 2 (by omega) (by rw [HL.out]; exact h22)); have h6 := HA2.out; omega) (below_drewN (by go_grown) _)
      by_cases hh2 : 191 < (s[2]'h22).toNat
      · go_enter Tryd.func24, Tryd.ntmps24
        go_wp2_with fail
        go_quiet (fail)
        go_wp2_with fail
        go_ret
        exact full_no (by rintro ⟨_, h⟩; have h5 := may2 (h 2 (by omega) (by rw [HL.out]; exact h22)); have h6 := HA2.out; omega) (below_drewN (by go_grown) _)
      have HM2 := Lib.hid (show mayN (at_ s.data.toList 0) (at_ s.data.toList 2) 2 = true from may2' (by have h6 := HA2.out; omega))
      go_enter Tryd.func24, Tryd.ntmps24
      go_wp2_with fail
      go_quiet (fail)
      go_wp2_with fail
      go_ret
      exact full_yes ⟨by rw [← HAT.out, HZ.out, HL.out]; omega, part2 (by rw [HL.out]; omega) HM1.out HM2.out⟩ (below_drewN (by go_grown) _)
  · go_enter Tryd.func24, Tryd.ntmps24
    go_wp2_with fail
    go_ret
    exact full_no (by rintro ⟨h, _⟩; rw [← HAT.out, HZ.out, HL.out] at h; omega) (by go_grown)
set_option maxHeartbeats 4000000 in
set_option maxRecDepth 100000 in
theorem full_04 (s : ByteArray) (h0 : 0 < s.size) (w : World) (ht : UtfTabs w) (hs : s.size ≤ 1000000) (hx : firstN (s[0]'h0).toNat = 0x04) (hz : sizeN (s[0]'h0).toNat = 4) (hy : (s[0]'h0).toNat ≠ 224 ∧ (s[0]'h0).toNat ≠ 237 ∧ (s[0]'h0).toNat ≠ 240 ∧ (s[0]'h0).toNat ≠ 244) : Calls Tryd.prog 24 #[.string s] w (FullPost s.data.toList w) := by
  have hb0 : (s[0]'h0).toNat < 256 := (s[0]'h0).toNat_lt
  have HAT := Lib.hid (at_get s 0 h0)
  have hl : s.data.toList.length = s.size := by simp
  have HL := Lib.hid hl
  clear hl
  have hw1 := ht.1
  have hw0 : 0 < w.heap.size := by omega
  have hf := ht.2.1 _ hb0
  have hn0 : ((s.size : Int) == 0) = false := by rw [beq_eq_false_iff_ne]; omega
  rw [hx] at hf
  have HZ := Lib.hid hz
  clear hx hz
  have HY := Lib.hid hy
  have hr0 := (ht.2.2 0 (by omega)).1
  have hr1 := (ht.2.2 0 (by omega)).2
  simp [lowN, highN] at hr0 hr1
  clear hy ht
  by_cases h2 : s.size < 4
  · by_cases h3 : s.size = 1
    · have hg : decide ((1 : Int) < (s.size : Int)) = false := by simp; omega
      go_enter Tryd.func24, Tryd.ntmps24
      go_wp2_with fail
      go_quiet (fail)
      go_wp2_with fail
      go_ret
      exact full_yes ⟨by rw [← HAT.out, HZ.out, HL.out]; omega, fun i hi hl => by rw [HL.out] at hl; omega⟩ (below_drewN (by go_grown) _)
    · have h1 : 1 < s.size := by omega
      have hg : decide ((1 : Int) < (s.size : Int)) = true := by simp; omega
      have h1i : (1 : Int) < (s.size : Int) := by omega
      have HA1 := Lib.hid (at_get s 1 h1)
      by_cases hlo : (s[1]'h1).toNat < 128
      · have hc1 : decide (((s[1]'h1).toNat : Int) < 128) = true := by simp; omega
        go_enter Tryd.func24, Tryd.ntmps24
        go_wp2_with fail
        go_quiet (fail)
        go_wp2_with fail
        go_ret
        exact full_no (by rintro ⟨_, h⟩; have h5 := may1 (h 1 (by omega) (by rw [HL.out]; exact h1)); have h6 := HA1.out; have h7 := HAT.out; have h8 := HY.out; omega) (below_drewN (by go_grown) _)
      have hc1 : decide (((s[1]'h1).toNat : Int) < 128) = false := by simp; omega
      by_cases hhi : 191 < (s[1]'h1).toNat
      · have hc2 : decide ((191 : Int) < ((s[1]'h1).toNat : Int)) = true := by simp; omega
        go_enter Tryd.func24, Tryd.ntmps24
        go_wp2_with fail
        go_quiet (fail)
        go_wp2_with fail
        go_ret
        exact full_no (by rintro ⟨_, h⟩; have h5 := may1 (h 1 (by omega) (by rw [HL.out]; exact h1)); have h6 := HA1.out; have h7 := HAT.out; have h8 := HY.out; omega) (below_drewN (by go_grown) _)
      have hc2 : decide ((191 : Int) < ((s[1]'h1).toNat : Int)) = false := by simp; omega
      have HM1 := Lib.hid (show mayN (at_ s.data.toList 0) (at_ s.data.toList 1) 1 = true from may1' (by have h6 := HA1.out; have h7 := HAT.out; have h8 := HY.out; omega))
      by_cases h4 : s.size = 2
      · go_enter Tryd.func24, Tryd.ntmps24
        go_wp2_with fail
        go_quiet (fail)
        go_wp2_with fail
        go_ret
        exact full_yes ⟨by rw [← HAT.out, HZ.out, HL.out]; omega, part1 (by rw [HL.out]; omega) HM1.out⟩ (below_drewN (by go_grown) _)
      have h22 : 2 < s.size := by omega
      have h2i : (2 : Int) < (s.size : Int) := by omega
      have HA2 := Lib.hid (at_get s 2 h22)
      by_cases hl2 : (s[2]'h22).toNat < 128
      · go_enter Tryd.func24, Tryd.ntmps24
        go_wp2_with fail
        go_quiet (fail)
        go_wp2_with fail
        go_ret
        exact full_no (by rintro ⟨_, h⟩; have h5 := may2 (h 2 (by omega) (by rw [HL.out]; exact h22)); have h6 := HA2.out; omega) (below_drewN (by go_grown) _)
      by_cases hh2 : 191 < (s[2]'h22).toNat
      · go_enter Tryd.func24, Tryd.ntmps24
        go_wp2_with fail
        go_quiet (fail)
        go_wp2_with fail
        go_ret
        exact full_no (by rintro ⟨_, h⟩; have h5 := may2 (h 2 (by omega) (by rw [HL.out]; exact h22)); have h6 := HA2.out; omega) (below_drewN (by go_grown) _)
      have HM2 := Lib.hid (show mayN (at_ s.data.toList 0) (at_ s.data.toList 2) 2 = true from may2' (by have h6 := HA2.out; omega))
      go_enter Tryd.func24, Tryd.ntmps24
      go_wp2_with fail
      go_quiet (fail)
      go_wp2_with fail
      go_ret
      exact full_yes ⟨by rw [← HAT.out, HZ.out, HL.out]; omega, part2 (by rw [HL.out]; omega) HM1.out HM2.out⟩ (below_drewN (by go_grown) _)
  · go_enter Tryd.func24, Tryd.ntmps24
    go_wp2_with fail
    go_ret
    exact full_no (by rintro ⟨h, _⟩; rw [← HAT.out, HZ.out, HL.out] at h; omega) (by go_grown)
set_option maxHeartbeats 4000000 in
set_option maxRecDepth 100000 in
theorem full_44 (s : ByteArray) (h0 : 0 < s.size) (w : World) (ht : UtfTabs w) (hs : s.size ≤ 1000000) (hx : firstN (s[0]'h0).toNat = 0x44) (hz : sizeN (s[0]'h0).toNat = 4) (hy : (s[0]'h0).toNat = 244) : Calls Tryd.prog 24 #[.string s] w (FullPost s.data.toList w) := by
  have hb0 : (s[0]'h0).toNat < 256 := (s[0]'h0).toNat_lt
  have HAT := Lib.hid (at_get s 0 h0)
  have hl : s.data.toList.length = s.size := by simp
  have HL := Lib.hid hl
  clear hl
  have hw1 := ht.1
  have hw0 : 0 < w.heap.size := by omega
  have hf := ht.2.1 _ hb0
  have hn0 : ((s.size : Int) == 0) = false := by rw [beq_eq_false_iff_ne]; omega
  rw [hx] at hf
  have HZ := Lib.hid hz
  clear hx hz
  have HY := Lib.hid hy
  have hr0 := (ht.2.2 4 (by omega)).1
  have hr1 := (ht.2.2 4 (by omega)).2
  simp [lowN, highN] at hr0 hr1
  clear hy ht
  by_cases h2 : s.size < 4
  · by_cases h3 : s.size = 1
    · have hg : decide ((1 : Int) < (s.size : Int)) = false := by simp; omega
      go_enter Tryd.func24, Tryd.ntmps24
      go_wp2_with fail
      go_quiet (fail)
      go_wp2_with fail
      go_ret
      exact full_yes ⟨by rw [← HAT.out, HZ.out, HL.out]; omega, fun i hi hl => by rw [HL.out] at hl; omega⟩ (below_drewN (by go_grown) _)
    · have h1 : 1 < s.size := by omega
      have hg : decide ((1 : Int) < (s.size : Int)) = true := by simp; omega
      have h1i : (1 : Int) < (s.size : Int) := by omega
      have HA1 := Lib.hid (at_get s 1 h1)
      by_cases hlo : (s[1]'h1).toNat < 128
      · have hc1 : decide (((s[1]'h1).toNat : Int) < 128) = true := by simp; omega
        go_enter Tryd.func24, Tryd.ntmps24
        go_wp2_with fail
        go_quiet (fail)
        go_wp2_with fail
        go_ret
        exact full_no (by rintro ⟨_, h⟩; have h5 := may1 (h 1 (by omega) (by rw [HL.out]; exact h1)); have h6 := HA1.out; have h7 := HAT.out; have h8 := HY.out; omega) (below_drewN (by go_grown) _)
      have hc1 : decide (((s[1]'h1).toNat : Int) < 128) = false := by simp; omega
      by_cases hhi : 143 < (s[1]'h1).toNat
      · have hc2 : decide ((143 : Int) < ((s[1]'h1).toNat : Int)) = true := by simp; omega
        go_enter Tryd.func24, Tryd.ntmps24
        go_wp2_with fail
        go_quiet (fail)
        go_wp2_with fail
        go_ret
        exact full_no (by rintro ⟨_, h⟩; have h5 := may1 (h 1 (by omega) (by rw [HL.out]; exact h1)); have h6 := HA1.out; have h7 := HAT.out; have h8 := HY.out; omega) (below_drewN (by go_grown) _)
      have hc2 : decide ((143 : Int) < ((s[1]'h1).toNat : Int)) = false := by simp; omega
      have HM1 := Lib.hid (show mayN (at_ s.data.toList 0) (at_ s.data.toList 1) 1 = true from may1' (by have h6 := HA1.out; have h7 := HAT.out; have h8 := HY.out; omega))
      by_cases h4 : s.size = 2
      · go_enter Tryd.func24, Tryd.ntmps24
        go_wp2_with fail
        go_quiet (fail)
        go_wp2_with fail
        go_ret
        exact full_yes ⟨by rw [← HAT.out, HZ.out, HL.out]; omega, part1 (by rw [HL.out]; omega) HM1.out⟩ (below_drewN (by go_grown) _)
      have h22 : 2 < s.size := by omega
      have h2i : (2 : Int) < (s.size : Int) := by omega
      have HA2 := Lib.hid (at_get s 2 h22)
      by_cases hl2 : (s[2]'h22).toNat < 128
      · go_enter Tryd.func24, Tryd.ntmps24
        go_wp2_with fail
        go_quiet (fail)
        go_wp2_with fail
        go_ret
        exact full_no (by rintro ⟨_, h⟩; have h5 := may2 (h 2 (by omega) (by rw [HL.out]; exact h22)); have h6 := HA2.out; omega) (below_drewN (by go_grown) _)
      by_cases hh2 : 191 < (s[2]'h22).toNat
      · go_enter Tryd.func24, Tryd.ntmps24
        go_wp2_with fail
        go_quiet (fail)
        go_wp2_with fail
        go_ret
        exact full_no (by rintro ⟨_, h⟩; have h5 := may2 (h 2 (by omega) (by rw [HL.out]; exact h22)); have h6 := HA2.out; omega) (below_drewN (by go_grown) _)
      have HM2 := Lib.hid (show mayN (at_ s.data.toList 0) (at_ s.data.toList 2) 2 = true from may2' (by have h6 := HA2.out; omega))
      go_enter Tryd.func24, Tryd.ntmps24
      go_wp2_with fail
      go_quiet (fail)
      go_wp2_with fail
      go_ret
      exact full_yes ⟨by rw [← HAT.out, HZ.out, HL.out]; omega, part2 (by rw [HL.out]; omega) HM1.out HM2.out⟩ (below_drewN (by go_grown) _)
  · go_enter Tryd.func24, Tryd.ntmps24
    go_wp2_with fail
    go_ret
    exact full_no (by rintro ⟨h, _⟩; rw [← HAT.out, HZ.out, HL.out] at h; omega) (by go_grown)
set_option maxHeartbeats 4000000 in
set_option maxRecDepth 100000 in
theorem full_any (s : ByteArray) (h0 : 0 < s.size) (w : World) (ht : UtfTabs w) (hs : s.size ≤ 1000000) : Calls Tryd.prog 24 #[.string s] w (FullPost s.data.toList w) := by
  rcases first_cases _ (s[0]'h0).toNat_lt with ⟨hx, hz⟩ | ⟨hx, hz⟩ | ⟨hx, hz, hy⟩ | ⟨hx, hz, hy⟩ | ⟨hx, hz, hy⟩ | ⟨hx, hz, hy⟩ | ⟨hx, hz, hy⟩ | ⟨hx, hz, hy⟩ | ⟨hx, hz, hy⟩
  rotate_left
  rotate_left
  · exact full_02 s h0 w ht hs hx hz hy
  · exact full_13 s h0 w ht hs hx hz hy
  · exact full_03 s h0 w ht hs hx hz hy
  · exact full_23 s h0 w ht hs hx hz hy
  · exact full_34 s h0 w ht hs hx hz hy
  · exact full_04 s h0 w ht hs hx hz hy
  · exact full_44 s h0 w ht hs hx hz hy
  all_goals
    have hb0 : (s[0]'h0).toNat < 256 := (s[0]'h0).toNat_lt
    have HAT := Lib.hid (at_get s 0 h0)
    have hl : s.data.toList.length = s.size := by simp
    have HL := Lib.hid hl
    clear hl
    have hw1 := ht.1
    have hw0 : 0 < w.heap.size := by omega
    have hf := ht.2.1 _ hb0
    have hn0 : ((s.size : Int) == 0) = false := by rw [beq_eq_false_iff_ne]; omega
    rw [hx] at hf
    have HZ := Lib.hid hz
    clear hx hz
    clear ht
    go_enter Tryd.func24, Tryd.ntmps24
    go_wp2_with fail
    go_ret
    exact full_no (by rintro ⟨h, _⟩; rw [← HAT.out, HZ.out, HL.out] at h; omega) (by go_grown)
end Go.Proofs.YtipekkddhelhmaaDoor
