/- What the reference Begins tells, in plain words: the first value of a text and its size. -/
import Derived.Test.YtipekkddhelhmaaDoorU5
namespace Go.Proofs.YtipekkddhelhmaaDoor
theorem cont_iff (l : List UInt8) (i : Nat) : cont l i = true ↔ i < l.length ∧ 128 ≤ at_ l i ∧ at_ l i ≤ 191 := by unfold cont; simp
theorem okAt_iff (l : List UInt8) (i : Nat) : okAt l i ↔ i < sizeN (at_ l 0) ∧ i < l.length ∧ 128 ≤ at_ l i ∧ at_ l i ≤ 191 ∧ (1 < i ∨ ¬ ((at_ l 0 = 224 ∧ at_ l i < 160) ∨ (at_ l 0 = 237 ∧ 159 < at_ l i) ∨ (at_ l 0 = 240 ∧ at_ l i < 144) ∨ (at_ l 0 = 244 ∧ 143 < at_ l i))) := by
  unfold okAt mayN
  rw [decide_eq_true_eq]
theorem sizeN_cases (b : Nat) : (b < 128 ∧ sizeN b = 1) ∨ (194 ≤ b ∧ b ≤ 223 ∧ sizeN b = 2) ∨ (224 ≤ b ∧ b ≤ 239 ∧ sizeN b = 3) ∨ (240 ≤ b ∧ b ≤ 244 ∧ sizeN b = 4) ∨ (128 ≤ b ∧ (b < 194 ∨ 244 < b) ∧ sizeN b = 0) := by
  unfold sizeN
  repeat' split
  all_goals omega
/-- The value that the reference reckons of the first n bytes. -/
def refV (b0 b1 b2 b3 n : Nat) : Nat :=
  if n = 1 then b0 else if n = 2 then (b0 - 192) * 64 + (b1 - 128) else if n = 3 then ((b0 - 224) * 64 + (b1 - 128)) * 64 + (b2 - 128) else (((b0 - 240) * 64 + (b1 - 128)) * 64 + (b2 - 128)) * 64 + (b3 - 128)
set_option maxHeartbeats 4000000 in
set_option maxRecDepth 100000 in
theorem one_of (l : List UInt8) (k : Nat) (h1 : 1 ≤ k) (h4 : k ≤ 4) (hall : ∀ i, 1 ≤ i → i < k → okAt l i) (hn : ¬ okAt l k) :
    one l = if k = sizeN (at_ l 0) then (refV (at_ l 0) (at_ l 1) (at_ l 2) (at_ l 3) k, k) else (1114112 + at_ l 0, 1) := by
  have hs := sizeN_cases (at_ l 0)
  have a1 : 1 < k → okAt l 1 := fun h => hall 1 (by omega) h
  have a2 : 2 < k → okAt l 2 := fun h => hall 2 (by omega) h
  have a3 : 3 < k → okAt l 3 := fun h => hall 3 (by omega) h
  clear hall
  rw [okAt_iff] at a1 a2 a3 hn
  unfold one oneN
  simp only [cont_iff]
  rcases (show k = 1 ∨ k = 2 ∨ k = 3 ∨ k = 4 by omega) with rfl | rfl | rfl | rfl
  all_goals
    generalize sizeN (at_ l 0) = z at *
    generalize at_ l 0 = b0 at *
    generalize at_ l 1 = b1 at *
    generalize at_ l 2 = b2 at *
    generalize at_ l 3 = b3 at *
    generalize l.length = n at *
    simp only [Nat.lt_irrefl, Nat.reduceLT, false_implies, forall_const, false_or, true_or, and_true] at a1 a2 a3 hn
    rcases hs with ⟨s1, rfl⟩ | ⟨s1, s2, rfl⟩ | ⟨s1, s2, rfl⟩ | ⟨s1, s2, rfl⟩ | ⟨s1, s2, rfl⟩
    all_goals first
      | (exfalso; omega)
      | skip
    all_goals
      simp only [refV, Nat.reduceEqDiff, if_true, if_false]
      repeat' split
      all_goals first
        | rfl
        | (exfalso; omega)
end Go.Proofs.YtipekkddhelhmaaDoor
