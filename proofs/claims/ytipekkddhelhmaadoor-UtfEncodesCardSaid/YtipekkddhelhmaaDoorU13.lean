/- Rows of bytes: what a conversion to a text makes of one; the values' bytes. -/
import Derived.Test.YtipekkddhelhmaaDoorU10
import Derived.Test.YtipekkddhelhmaaDoorU12
import Derived.Laws.BytesArg
namespace Go.Proofs.YtipekkddhelhmaaDoor
open Go.RowKit
def bytesC (l : List UInt8) : List Value := l.map fun b => Value.int .u8 (b.toNat : Int)
theorem bytesC_len (l : List UInt8) : (bytesC l).length = l.length := by simp [bytesC]
theorem bytesC_app (l m : List UInt8) : bytesC l ++ bytesC m = bytesC (l ++ m) := by simp [bytesC]
theorem conv_own {w : World} {base n : Nat} {v : Value} {l : List UInt8} (h : w.ownsRow base 5 1 v n (bytesC l)) : (convert 36 9 v).run Tryd.prog w = .ok (.string ⟨l.toArray⟩) w := by
  have hn : n = l.length := by have := h.1; rw [bytesC_len] at this; omega
  rcases h.2 with ⟨rfl, h0⟩ | ⟨g, cap, cur, rfl, hb, hg, h1, h2, h3, h4⟩
  · rw [run_convert_bytes_nil w 36 5 Tryd.underlying36 Tryd.underlying5 _ _ 9 Tryd.underlying9]
    have : l = [] := List.length_eq_zero_iff.1 (by omega)
    subst this
    rfl
  · rw [run_convert_bytes_arg w 36 5 Tryd.underlying36 Tryd.underlying5 g 0 n cap (l.map fun b => (b.toNat : Int)) (by simp [hn]) ?_ 9 Tryd.underlying9]
    · rw [show strOfNums (l.map fun b => (b.toNat : Int)) = ⟨l.toArray⟩ by
        unfold strOfNums
        congr 2
        rw [List.map_map]
        conv => rhs; rw [← List.map_id l]
        exact List.map_congr_left fun b _ => by simp]
    · intro i hi
      rw [Nat.zero_add, h.cellAt i (by omega)]
      have hi' : i < l.length := by omega
      simp [bytesC, List.getD, hi']
theorem conv_new (w : World) (n m : Nat) (xs : List Int) (hn : n = w.heap.size) (hm : m = xs.length) : (convert 36 9 (.slice (some ⟨n, 0, none⟩) m m)).run Tryd.prog (w.alloc (.cells (xs.map (Value.int .u8)).toArray 5)) = .ok (.string (strOfNums xs)) (w.alloc (.cells (xs.map (Value.int .u8)).toArray 5)) := by
  subst hn hm
  refine run_convert_bytes_arg _ 36 5 Tryd.underlying36 Tryd.underlying5 _ 0 _ _ xs rfl ?_ 9 Tryd.underlying9
  intro i hi
  rw [Nat.zero_add, World.cell?_alloc_new]
  simp [List.getD, hi]
theorem strOf_eq {l : List UInt8} {xs : List Int} (h : xs.map (fun n => UInt8.ofNat n.toNat) = l) : strOfNums xs = ⟨l.toArray⟩ := by rw [← h]; rfl
theorem bytesN_len (v : Nat) : 1 ≤ (bytesN v).length ∧ (bytesN v).length ≤ 4 := by
  by_cases h1 : v < 128 <;> by_cases h2 : v < 2048 <;> by_cases h3 : v < 65536 <;> by_cases h4 : v ≤ 1114111 <;> simp [bytesN, h1, h2, h3, h4]
theorem runeCells_eq (v : Int) (h : rightB v = true) (hm : v ≤ 1114111) : Lib.runeCells v = bytesC (bytesN v.toNat) := by
  have h0 : 0 ≤ v := by
    unfold rightB at h
    split at h
    · omega
    · simp at h; omega
  obtain ⟨n, rfl⟩ := Int.eq_ofNat_of_zero_le h0
  have hr : n < 55296 ∨ 57343 < n := by
    unfold rightB at h
    rw [if_pos ⟨h0, hm⟩] at h
    simp at h; omega
  clear h
  unfold Lib.runeCells bytesC bytesN
  simp only [Int.toNat_natCast] at *
  by_cases h1 : n < 128
  · rw [if_pos h1, Lib.encodeRuneZ_one (by omega) (by omega)]
    simp only [List.map_cons, List.map_nil]
    rw [toNat_ofNat (by omega)]
  by_cases h2 : n < 2048
  · rw [if_neg h1, if_pos h2, Lib.encodeRuneZ_two (by omega) (by omega)]
    simp only [List.map_cons, List.map_nil]
    rw [toNat_ofNat (by omega), toNat_ofNat (by omega)]
    congr 2
  by_cases h3 : n < 65536
  · rw [if_neg h1, if_neg h2, if_pos h3, Lib.encodeRuneZ_three (by omega)]
    simp only [List.map_cons, List.map_nil]
    rw [toNat_ofNat (by omega), toNat_ofNat (by omega), toNat_ofNat (by omega)]
    refine congr (congrArg _ ?_) (congr (congrArg _ ?_) (congr (congrArg _ ?_) rfl)) <;> congr 1 <;> omega
  · rw [if_neg h1, if_neg h2, if_neg h3, if_pos (by omega), Lib.encodeRuneZ_four (by omega) (by omega)]
    simp only [List.map_cons, List.map_nil]
    rw [toNat_ofNat (by omega), toNat_ofNat (by omega), toNat_ofNat (by omega), toNat_ofNat (by omega)]
    refine congr (congrArg _ ?_) (congr (congrArg _ ?_) (congr (congrArg _ ?_) (congr (congrArg _ ?_) rfl))) <;> congr 1 <;> omega
/-- The bytes of the first n of some values: those that may not be are left out. -/
def encF (f : Nat → Int) : Nat → List UInt8
  | 0 => []
  | n + 1 => encF f n ++ if rightB (f n) = true then bytesN (f n).toNat else []
theorem encF_len (f : Nat → Int) (n : Nat) : (encF f n).length ≤ 4 * n := by
  induction n with
  | zero => simp [encF]
  | succ n ih =>
    simp only [encF, List.length_append]
    split
    · have := (bytesN_len (f n).toNat).2; omega
    · simp; omega
theorem encF_no {f : Nat → Int} {n : Nat} (h : rightB (f n) = false) : encF f (n + 1) = encF f n := by simp [encF, h]
theorem encF_yes {f : Nat → Int} {n : Nat} (h : rightB (f n) = true) : encF f (n + 1) = encF f n ++ bytesN (f n).toNat := by simp [encF, h]
end Go.Proofs.YtipekkddhelhmaaDoor
