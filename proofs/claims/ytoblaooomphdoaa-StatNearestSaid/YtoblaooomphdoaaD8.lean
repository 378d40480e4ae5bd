/- sign.Of, for texts of plain letters. -/
import Derived.Test.YtoblaooomphdoaaD7
namespace Go.Proofs.Ytoblaooomphdoaa
open Go.RowKit
/-- A row of signs whose first k are known. -/
def Sw (w : World) (b n : Nat) (f : Nat → Int × Int) (k : Nat) : Prop := ∃ cs : Array Value, Blk w b cs 43 ∧ cs.size = n * 2 ∧ ∀ q, q < k → cs[q * 2]? = some (.int .i64 (f q).1) ∧ cs[q * 2 + 1]? = some (.int .i64 (f q).2)
section
variable {w w' : World} {b n k : Nat} {f : Nat → Int × Int}
theorem Sw.got (h : Sw w b n f k) {q : Nat} (hq : q < n) : ∃ u v, w.cell? ⟨b, q * 2, none⟩ = some u ∧ w.cell? ⟨b, q * 2 + 1, none⟩ = some v := by
  obtain ⟨cs, h1, h2, _⟩ := h; rw [h1.cell, h1.cell]; exact ⟨_, _, Array.getElem?_eq_getElem (by omega), Array.getElem?_eq_getElem (by omega)⟩
theorem Sw.free (h : Sw w b n f k) (i : Nat) : w.frozen? ⟨b, i, none⟩ = false := by obtain ⟨cs, h1, _⟩ := h; exact h1.free i
theorem Sw.put (h : Sw w b n f k) (hk : k < n) {x y : Int} (hx : (f k).1 = x) (hy : (f k).2 = y) : Sw ((w.setCell ⟨b, k * 2, none⟩ (.int .i64 x)).setCell ⟨b, k * 2 + 1, none⟩ (.int .i64 y)) b n f (k + 1) := by
  obtain ⟨cs, h1, h2, h3⟩ := h
  subst hx hy
  refine ⟨_, (h1.set (k * 2) _).set (k * 2 + 1) _, by simp [h2], fun q hq => ?_⟩
  simp only [Array.getElem?_setIfInBounds, Array.size_setIfInBounds]
  by_cases e : k = q
  · subst e
    rw [if_neg (by omega), if_pos rfl, if_pos (by omega), if_pos rfl, if_pos (by omega)]
    exact ⟨rfl, rfl⟩
  · rw [if_neg (by omega), if_neg (by omega), if_neg (by omega), if_neg (by omega)]
    exact h3 q (by omega)
theorem Sw.own {l : List (Int × Int)} {base : Nat} (h : Sw w b l.length f l.length) (hf : ∀ q (hq : q < l.length), f q = l[q]) (hm : l.length ≤ maxLen) (hb : base ≤ b) : w.ownsRow base 43 2 (.slice (some ⟨b, 0, none⟩) l.length l.length) l.length (sg l) := by
  obtain ⟨cs, h1, h2, h3⟩ := h
  refine ⟨sg_len l, .inr ⟨b, l.length, cs, rfl, hb, h1, Nat.le_refl _, hm, h2, ?_⟩⟩
  rw [List.take_of_length_le (by rw [Array.length_toList]; omega)]
  refine List.ext_getElem? fun j => ?_
  rw [Array.getElem?_toList]
  by_cases hj : j < l.length * 2
  · obtain ⟨e1, e2⟩ := h3 (j / 2) (by omega)
    obtain ⟨g1, g2⟩ := sg_at l (j / 2) (by omega)
    rw [hf (j / 2) (by omega)] at e1 e2
    rcases Nat.mod_two_eq_zero_or_one j with hp | hp
    · have : j = j / 2 * 2 := by omega
      rw [this, e1, g1]
    · have : j = j / 2 * 2 + 1 := by omega
      rw [this, e2, g2]
  · rw [Array.getElem?_eq_none (by omega), List.getElem?_eq_none (by rw [sg_len]; omega)]
theorem Sw.sv {l : List (Int × Int)} (h : Sw w b l.length f l.length) (hf : ∀ q (hq : q < l.length), f q = l[q]) (hm : l.length ≤ maxLen) : Sv w b (some ⟨b, 0, none⟩) l.length l := by
  obtain ⟨cs, h1, h2, h3⟩ := h
  refine ⟨Nat.le_refl _, hm, (fun h => by cases h), fun h0 => ⟨h1.lt, 0, rfl, fun j u hj => ?_⟩⟩
  rw [Nat.zero_add, h1.cell]
  have hjl : j < l.length * 2 := by have := (List.getElem?_eq_some_iff.1 hj).1; rw [sg_len] at this; exact this
  obtain ⟨e1, e2⟩ := h3 (j / 2) (by omega)
  obtain ⟨g1, g2⟩ := sg_at l (j / 2) (by omega)
  rw [hf (j / 2) (by omega)] at e1 e2
  rcases Nat.mod_two_eq_zero_or_one j with hp | hp
  · have : j = j / 2 * 2 := by omega
    rw [this] at hj ⊢
    rw [e1, ← hj, g1]
  · have : j = j / 2 * 2 + 1 := by omega
    rw [this] at hj ⊢
    rw [e2, ← hj, g2]
end
def OfPost (label : Int) (L : List Nat) (w : World) (e : Ending) (w' : World) : Prop :=
  ∃ b, e = .returned (.slice (some ⟨b, 0, none⟩) L.length L.length) ∧ w.heap.size ≤ b ∧ Sv w' b (some ⟨b, 0, none⟩) L.length (L.map fun (v : Nat) => ((v : Int), label)) ∧ w'.ownsRow w.heap.size 43 2 (.slice (some ⟨b, 0, none⟩) L.length L.length) L.length (sg (L.map fun (v : Nat) => ((v : Int), label))) ∧ Below w.heap.size w w'
set_option maxHeartbeats 4000000 in
theorem of_any (label : Int) (s : ByteArray) (L : List Nat) (hL : valsL s.data.toList = L) (hs : s.size ≤ 1000000) (hA : ∀ x ∈ s.data.toList, x.toNat < 128) (w : World) : Calls Try.prog 15 #[.int .i64 label, .string s] w (OfPost label L w) := by
  have hn : L.length ≤ 1000000 := by
    have hlen := valsL_len s.data.toList
    have : s.data.toList.length = s.size := by simp
    rw [← hL]; omega
  have HL := Lib.hid hL
  clear hL
  unfold OfPost
  have HA := Lib.hid hA
  clear hA
  go_enter Try.func15, Try.ntmps15
  go_wp2_with fail
  refine (decode_any s hs HA.out _).mono ?_
  rintro e w1 ⟨v, rfl, ho, hb1⟩
  rw [HL.out] at ho
  obtain ⟨ao, cap, bv, rfl, h1, h2, h3, h4, h5⟩ := own_slice ho
  have HB1 := Lib.hid hb1
  have hs1 := hb1.size
  have H5 := Lib.hid h5
  clear ho hb1 h1 h2 h3 h4 h5
  go_wp2_with (at_make; go_must (refine wpList_make_blk _ rfl _ _ 22 rfl 43 _ 2 16 Try.underlying22 info43 .i64 .i64 _ _ L.length L.length rfl rfl (by simp) (by simp) (Nat.le_refl _) (by omega) (by unfold maxLen; omega) ?nx))
  case nx =>
    intro w2 hm2 hb2 hs2
    have HM2 : Hid (Sw w2 w1.heap.size L.length (fun q => (((L.getD q 0 : Nat) : Int), label)) 0) := ⟨_, hm2.out, by rw [size_madeCells], fun q hq => by omega⟩
    have HB2 := Lib.hid hb2.out
    clear hm2 hb2 hs2
    go_wp2_with fail
    go_loopw [16] (fun p wr => ∃ i : Nat, i ≤ L.length ∧ p = .int .i64 i ∧ Hid (Sw wr w1.heap.size L.length (fun q => (((L.getD q 0 : Nat) : Int), label)) i) ∧ Hid (Below w1.heap.size w1 wr)) (fun p _ => L.length - (intOf p).toNat)
    case atStart => exact ⟨0, Nat.zero_le _, rfl, HM2, HB2⟩
    case round =>
      clear HM2 HB2
      obtain ⟨i, hi, rfl, hm, hb⟩ := hrel
      by_cases hlt : i < L.length
      · obtain ⟨hbl, rfl, hc⟩ := H5.out (by omega)
        have c0 := hc i (.int .i64 ((L[i] : Nat) : Int)) (by simp [ints, hlt])
        rw [← cellsBelow hb.out _ _ hbl] at c0
        have hd : L.getD i 0 = L[i] := by simp [List.getD, hlt]
        have HD := Lib.hid hd
        generalize L[i] = x at *
        obtain ⟨u, v, g0, g1⟩ := hm.out.got hlt
        have hf := hm.out.free
        have hlt' : (i : Int) < (L.length : Int) := by omega
        clear hc hd
        go_wp2_with fail
        go_roundw
        case rel => exact ⟨i + 1, by omega, by go_num, hm.out.put hlt (by show ((L.getD i 0 : Nat) : Int) = _; rw [HD.out]) rfl, (hb.out.setCell (Nat.le_refl _) _).setCell (Nat.le_refl _) _⟩
        case measure => simp [intOf]; omega
      · have he : i = L.length := by omega
        subst he
        go_wp2_with fail
        go_ret
        refine ⟨_, rfl, hs1, ?_, ?_, HB1.out.trans (hb.out.mono hs1)⟩
        · have := Sw.sv (l := L.map fun (v : Nat) => ((v : Int), label)) (by simpa using hm.out) (fun q hq => by simp at hq; simp [hq]) (by simp; unfold maxLen; omega)
          simpa using this
        · have := Sw.own (base := w.heap.size) (l := L.map fun (v : Nat) => ((v : Int), label)) (by simpa using hm.out) (fun q hq => by simp at hq; simp [hq]) (by simp; unfold maxLen; omega) hs1
          simpa using this
end Go.Proofs.Ytoblaooomphdoaa
