/- emacs.Cmd, for a key that stands in a table. -/
import Derived.Test.YtenfhmlkogpabaaDoorE1
import Derived.Test.YtenfhmlkogpabaaDoorCheck
namespace Go.Proofs.YtenfhmlkogpabaaDoor
open Go.RowKit
def ctl : List (Nat × Nat × Nat) := [(2, 1, 6), (2, 2, 2), (2, 3, 35), (2, 4, 37), (2, 5, 7), (2, 6, 3), (2, 7, 35), (2, 8, 9), (2, 9, 32), (2, 11, 10), (2, 12, 36), (2, 14, 27), (2, 16, 26), (2, 17, 34), (2, 18, 31), (2, 20, 17), (2, 21, 11), (2, 22, 34), (2, 23, 13), (2, 25, 15), (2, 0, 24), (2, 31, 22)]
def oth : List (Nat × Nat × Nat) := [(3, 102, 5), (3, 98, 4), (3, 100, 12), (3, 127, 13), (3, 8, 13), (3, 121, 16), (3, 116, 18), (3, 117, 19), (3, 108, 20), (3, 99, 21), (3, 60, 28), (3, 62, 29), (3, 112, 30), (3, 119, 40), (3, 107, 41), (3, 120, 25), (3, 114, 23), (3, 97, 14), (4, 13, 33), (4, 10, 33), (5, 0, 35), (6, 0, 9), (7, 0, 26), (8, 0, 27), (9, 0, 3), (10, 0, 2), (11, 0, 6), (12, 0, 7), (13, 0, 8), (14, 0, 28), (14, 1, 29)]
def rK (l : List (Nat × Nat × Nat)) (i : Nat) : Nat := (l.getD i default).1
def rV (l : List (Nat × Nat × Nat)) (i : Nat) : Nat := (l.getD i default).2.1
def rC (l : List (Nat × Nat × Nat)) (i : Nat) : Nat := (l.getD i default).2.2
def Rws (l : List (Nat × Nat × Nat)) (cs : Array Value) : Prop := cs.size = l.length * 3 ∧ ∀ i, i < l.length → cs[i * 3]? = some (.int .u8 (rK l i)) ∧ cs[i * 3 + 1]? = some (.int .u8 (rV l i)) ∧ cs[i * 3 + 2]? = some (.int .u8 (rC l i))
def RowTab (w : World) (g : Nat) (l : List (Nat × Nat × Nat)) : Prop := ∃ cs t fr, w.heap[g]? = some (.cells cs t fr) ∧ Rws l cs
theorem RowTab.below {w w' : World} {g : Nat} {l : List (Nat × Nat × Nat)} (h : RowTab w g l) (hb : Below w.heap.size w w') : RowTab w' g l := by
  obtain ⟨cs, t, fr, hh, hn⟩ := h
  exact ⟨cs, t, fr, (hb.block g (Array.getElem?_eq_some_iff.1 hh).1).trans hh, hn⟩
theorem RowTab.lt {w : World} {g : Nat} {l : List (Nat × Nat × Nat)} (h : RowTab w g l) : g < w.heap.size := by
  obtain ⟨cs, t, fr, hh, hn⟩ := h
  exact (Array.getElem?_eq_some_iff.1 hh).1
theorem extract3 {cs : Array Value} {n : Nat} {a b c : Value} (h0 : cs[n]? = some a) (h1 : cs[n + 1]? = some b) (h2 : cs[n + 2]? = some c) : cs.extract n (n + 3) = #[a, b, c] := by
  have hs := (Array.getElem?_eq_some_iff.1 h2).1
  apply Array.ext_getElem?
  intro i
  rw [Array.getElem?_extract]
  match i with
  | 0 => simp [h0]; omega
  | 1 => simp [h1]; omega
  | 2 => simp [h2]; omega
  | i + 3 => rw [if_neg (by omega)]; rfl
theorem ctl_len : ctl.length = 22 := by decide
theorem oth_len : oth.length = 31 := by decide
theorem part39 {cs : Array Value} {n : Nat} {a b c : Value} (h0 : cs[n]? = some a) (h1 : cs[n + 1]? = some b) (h2 : cs[n + 2]? = some c) (w : World) : (part 39 cs n).run Tryd.prog w = .ok (.agg #[a, b, c]) w := by
  have hu := Tryd.underlying39
  obtain ⟨i0, hi, hz⟩ : ∃ i, Tryd.prog.info? 39 = some i ∧ i.size = 3 := ⟨_, rfl, by kernel_rfl⟩
  rw [← extract3 h0 h1 h2]
  simp [part, isAgg, run_underlying hu, sizeOf, typeInfo, hi, hz]
theorem index_ctl {cs : Array Value} (h : Rws ctl cs) {i : Nat} (hi : i < 22) (w : World) : (Instr.index 40 (.agg cs) (.int .i64 i)).run Tryd.prog w = .ok (.agg #[.int .u8 (rK ctl i), .int .u8 (rV ctl i), .int .u8 (rC ctl i)]) w := by
  obtain ⟨a, b, c⟩ := h.2 i (by rw [ctl_len]; exact hi)
  have hu : Tryd.prog.underlying 40 = some (.array 22 39) := Tryd.underlying40
  obtain ⟨i0, hi0, hz⟩ : ∃ i, Tryd.prog.info? 39 = some i ∧ i.size = 3 := ⟨_, rfl, by kernel_rfl⟩
  unfold Instr.index asIntOf
  simp [Sem.run_bind, run_underlying hu, sizeOf, typeInfo, hi0, hz]
  rw [if_pos hi, part39 a b c]
theorem index_oth {cs : Array Value} (h : Rws oth cs) {i : Nat} (hi : i < 31) (w : World) : (Instr.index 41 (.agg cs) (.int .i64 i)).run Tryd.prog w = .ok (.agg #[.int .u8 (rK oth i), .int .u8 (rV oth i), .int .u8 (rC oth i)]) w := by
  obtain ⟨a, b, c⟩ := h.2 i (by rw [oth_len]; exact hi)
  have hu : Tryd.prog.underlying 41 = some (.array 31 39) := Tryd.underlying41
  obtain ⟨i0, hi0, hz⟩ : ∃ i, Tryd.prog.info? 39 = some i ∧ i.size = 3 := ⟨_, rfl, by kernel_rfl⟩
  unfold Instr.index asIntOf
  simp [Sem.run_bind, run_underlying hu, sizeOf, typeInfo, hi0, hz]
  rw [if_pos hi, part39 a b c]
theorem row_lt (i : Nat) : (rK ctl i < 256 ∧ rV ctl i < 256 ∧ rC ctl i < 256) ∧ rK oth i < 256 ∧ rV oth i < 256 ∧ rC oth i < 256 := by
  have h1 : ctl.all (fun r => decide (r.1 < 256 ∧ r.2.1 < 256 ∧ r.2.2 < 256)) = true := by decide
  have h2 : oth.all (fun r => decide (r.1 < 256 ∧ r.2.1 < 256 ∧ r.2.2 < 256)) = true := by decide
  rw [List.all_eq_true] at h1 h2
  unfold rK rV rC
  constructor
  · by_cases hi : i < ctl.length
    · have := h1 _ (List.getElem_mem hi)
      simpa [List.getD, hi] using this
    · simp [List.getD, List.getElem?_eq_none (Nat.le_of_not_lt hi)]; decide
  · by_cases hi : i < oth.length
    · have := h2 _ (List.getElem_mem hi)
      simpa [List.getD, hi] using this
    · simp [List.getD, List.getElem?_eq_none (Nat.le_of_not_lt hi)]; decide
theorem is_any (a b c : Nat) (kb : Nat) (kd v : Int) (w : World) (hkb : kb < w.heap.size) (ha : a < 256) (hb : b < 256)
   (h0 : w.cell? ⟨kb, 0, none⟩ = some (.int .i64 kd)) (h1 : w.cell? ⟨kb, 1, none⟩ = some (.int .i64 v)) :
   Calls Tryd.prog 12 #[.agg #[.int .u8 a, .int .u8 b, .int .u8 c], .pointer (some ⟨kb, 0, none⟩)] w fun e w' => e = .returned (.bool ((a : Int) == kd && (b : Int) == v)) ∧ Below w.heap.size w w' := by
  go_enter Tryd.func12, Tryd.ntmps12
  go_wp2
  all_goals
    (try simp only [Exit.inBlock, Exit.then])
    refine bodyPost_ret (results_tmp rfl _ _ _) rfl ⟨?_, by go_grown⟩
    refine congrArg (fun b => Ending.returned (.bool b)) ?_
    simp_all
theorem find_any (kd v : Int) (tx : ByteArray) (ct : Bool) (w : World) :
   Calls Tryd.prog 10 #[.agg #[.int .i64 kd, .int .i64 v, .string tx, .bool ct]] w fun e w' => e = .returned (.func (.func 12) #[] #[.pointer (some ⟨w.heap.size, 0, none⟩)]) ∧ w.alloc (.cells #[.int .i64 kd, .int .i64 v, .string tx, .bool ct] 31) = w' := by
  go_enter Tryd.func10, Tryd.ntmps10
  go_wp2
  go_ret
  exact ⟨rfl, rfl⟩
def hit (l : List (Nat × Nat × Nat)) (kd v : Int) (i : Nat) : Bool := (rK l i : Int) == kd && (rV l i : Int) == v
end Go.Proofs.YtenfhmlkogpabaaDoor
