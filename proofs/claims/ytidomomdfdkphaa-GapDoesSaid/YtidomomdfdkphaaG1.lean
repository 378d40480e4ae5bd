/- The gap buffer in memory; its Len and At. -/
import Derived.Test.YtidomomdfdkphaaProg
import Derived.Test.YtidomomdfdkphaaCopy
import Derived.Handy
import Derived.WalkSpells
import Derived.WalkLawsBesides
import Derived.Outline
import Derived.Deep.QuietTactic
import Derived.BigQuiet
namespace Go.Proofs.Ytidomomdfdkphaa
open Go.RowKit
/-- Signs as cells. -/
def sg (l : List (Int × Int)) : List Value := l.flatMap fun x => [.int .i64 x.1, .int .i64 x.2]
theorem sg_len (l : List (Int × Int)) : (sg l).length = l.length * 2 := by
  induction l with
  | nil => rfl
  | cons x l ih => simp [sg] at ih ⊢; omega
theorem sg_app (l m : List (Int × Int)) : sg (l ++ m) = sg l ++ sg m := by simp [sg]
theorem sg_nil : sg [] = [] := rfl
theorem sg_cons (x : Int × Int) (l : List (Int × Int)) : sg (x :: l) = .int .i64 x.1 :: .int .i64 x.2 :: sg l := by simp [sg]
theorem sg_at (l : List (Int × Int)) (i : Nat) (h : i < l.length) : (sg l)[i * 2]? = some (.int .i64 l[i].1) ∧ (sg l)[i * 2 + 1]? = some (.int .i64 l[i].2) := by
  induction l generalizing i with
  | nil => simp at h
  | cons x l ih =>
    rw [sg_cons]
    cases i with
    | zero => exact ⟨rfl, rfl⟩
    | succ i =>
      obtain ⟨a, b⟩ := ih i (by simpa using h)
      rw [show (i + 1) * 2 = i * 2 + 1 + 1 by omega, List.getElem?_cons_succ, List.getElem?_cons_succ, List.getElem?_cons_succ, List.getElem?_cons_succ]
      exact ⟨by simpa using a, by simpa using b⟩
theorem sg_one (l : List (Int × Int)) : ∀ v ∈ sg l, v.oneCell' = true := by
  intro v hv
  simp only [sg, List.mem_flatMap, List.mem_cons, List.not_mem_nil, or_false] at hv
  obtain ⟨x, _, rfl | rfl⟩ := hv <;> rfl
theorem sg_take (l : List (Int × Int)) (k : Nat) : sg (l.take k) = (sg l).take (k * 2) := by
  induction l generalizing k with
  | nil => simp [sg]
  | cons x l ih =>
    cases k with
    | zero => simp [sg]
    | succ k => rw [List.take_succ_cons, sg_cons, sg_cons, show (k + 1) * 2 = k * 2 + 1 + 1 by omega, List.take_succ_cons, List.take_succ_cons, ih]
theorem sg_drop (l : List (Int × Int)) (k : Nat) : sg (l.drop k) = (sg l).drop (k * 2) := by
  induction l generalizing k with
  | nil => simp [sg]
  | cons x l ih =>
    cases k with
    | zero => simp
    | succ k => rw [List.drop_succ_cons, sg_cons, show (k + 1) * 2 = k * 2 + 1 + 1 by omega, List.drop_succ_cons, List.drop_succ_cons, ih]
theorem splice_sg (l m : List (Int × Int)) (k : Nat) : splice (sg l) (k * 2) (sg m) = sg (splice l k m) := by
  unfold splice
  rw [sg_app, sg_app, sg_take, sg_drop, sg_len, Nat.add_mul]
/-- A gap buffer: its object lies in block g, its signs in block bb: A ahead of the gap, C behind it. -/
def Gp (w : World) (g bb : Nat) (A M C : List (Int × Int)) (most : Nat) : Prop :=
  A.length + M.length + C.length ≤ 1000000 ∧ most ≤ 65536 ∧ ∃ ao, Blk w g #[.slice ao (A.length + M.length + C.length) (A.length + M.length + C.length), .int .i64 A.length, .int .i64 (A.length + M.length : Nat), .int .i64 most] 56 ∧
    ((ao = none ∧ A.length + M.length + C.length = 0) ∨ (ao = some ⟨bb, 0, none⟩ ∧ bb ≠ g ∧ Blk w bb (sg (A ++ (M ++ C))).toArray 28))
theorem Gp.below {w w' : World} {g bb : Nat} {A M C : List (Int × Int)} {most : Nat} (h : Gp w g bb A M C most) (hb : Below w.heap.size w w') : Gp w' g bb A M C most := by
  obtain ⟨h1, h2, ao, hg, hc⟩ := h
  refine ⟨h1, h2, ao, hg.below hb hg.lt, ?_⟩
  rcases hc with h | ⟨a, b, c⟩
  · exact .inl h
  · exact .inr ⟨a, b, c.below hb c.lt⟩
theorem Gp.lt {w : World} {g bb : Nat} {A M C : List (Int × Int)} {most : Nat} (h : Gp w g bb A M C most) : g < w.heap.size := by
  obtain ⟨h1, h2, ao, hg, hc⟩ := h
  exact hg.lt
set_option maxHeartbeats 400000 in
theorem len_any (g bb : Nat) (A M C : List (Int × Int)) (most : Nat) (w : World) (h : Gp w g bb A M C most) :
   Calls Try.prog 15 #[.pointer (some ⟨g, 0, none⟩)] w fun e w' => e = .returned (.int .i64 (A.length + C.length : Nat)) ∧ ∃ m, w' = w.drewN m := by
  obtain ⟨h1, h2, ao, hg, hc⟩ := h
  have c0 := hg.cell 0
  have c1 := hg.cell 1
  have c2 := hg.cell 2
  simp at c0 c1 c2
  clear hg hc
  go_enter Try.func15, Try.ntmps15
  go_wp2_with fail
  go_quiet (fail)
  go_wp2_with fail
  go_ret
  refine ⟨congrArg (fun n => Ending.returned (.int .i64 n)) (show _ = ((A.length + C.length : Nat) : Int) from ?_), _, rfl⟩
  omega
theorem at_any (g bb : Nat) (A M C : List (Int × Int)) (most : Nat) (w : World) (h : Gp w g bb A M C most) :
   Calls Try.prog 16 #[.pointer (some ⟨g, 0, none⟩)] w fun e w' => e = .returned (.int .i64 A.length) ∧ w' = w := by
  obtain ⟨h1, h2, ao, hg, hc⟩ := h
  have c1 := hg.cell 1
  simp at c1
  clear hg hc
  go_enter Try.func16, Try.ntmps16
  go_wp2_with fail
  go_ret
  exact ⟨rfl, rfl⟩
end Go.Proofs.Ytidomomdfdkphaa
