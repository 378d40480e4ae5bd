/- Plain: the least number of changes that make one list another. -/
namespace Go.Proofs.Ytoblaooomphdoaa
/-- One list is made another with so many changes. -/
inductive Ed : List Int → List Int → Nat → Prop
  | nil : Ed [] [] 0
  | same {x a b n} : Ed a b n → Ed (x :: a) (x :: b) n
  | sub {x y a b n} : Ed a b n → Ed (x :: a) (y :: b) (n + 1)
  | del {x a b n} : Ed a b n → Ed (x :: a) b (n + 1)
  | ins {y a b n} : Ed a b n → Ed a (y :: b) (n + 1)
theorem Ed.symm {a b : List Int} {n : Nat} (h : Ed a b n) : Ed b a n := by
  induction h with
  | nil => exact .nil
  | same _ ih => exact .same ih
  | sub _ ih => exact .sub ih
  | del _ ih => exact .ins ih
  | ins _ ih => exact .del ih
theorem Ed.nil_left (b : List Int) : Ed [] b b.length := by
  induction b with
  | nil => exact .nil
  | cons y b ih => exact .ins ih
theorem Ed.nil_right (a : List Int) : Ed a [] a.length := (Ed.nil_left a).symm
theorem Ed.refl (a : List Int) : Ed a a 0 := by
  induction a with
  | nil => exact .nil
  | cons x a ih => exact .same ih
theorem Ed.append {a b c d : List Int} {m n : Nat} (h : Ed a b m) (k : Ed c d n) : Ed (a ++ c) (b ++ d) (m + n) := by
  induction h with
  | nil => simpa using k
  | same _ ih => exact .same ih
  | sub _ ih => rw [Nat.add_right_comm]; exact .sub ih
  | del _ ih => rw [Nat.add_right_comm]; exact .del ih
  | ins _ ih => rw [Nat.add_right_comm]; exact .ins ih
theorem Ed.reverse {a b : List Int} {n : Nat} (h : Ed a b n) : Ed a.reverse b.reverse n := by
  induction h with
  | nil => exact .nil
  | same _ ih => simpa using ih.append (Ed.refl [_])
  | sub _ ih => simpa using ih.append (Ed.sub (x := _) (y := _) Ed.nil)
  | @del x a b n _ ih => simpa using ih.append (Ed.del (x := x) Ed.nil)
  | @ins y a b n _ ih => simpa using ih.append (Ed.ins (y := y) Ed.nil)
theorem Ed.zero {a b : List Int} {n : Nat} (h : Ed a b n) : n = 0 → a = b := by
  induction h with
  | nil => intro _; rfl
  | same _ ih => intro h; rw [ih h]
  | sub _ _ => intro h; omega
  | del _ _ => intro h; omega
  | ins _ _ => intro h; omega
theorem Ed.trans {a b : List Int} {m : Nat} (h : Ed a b m) : ∀ {c : List Int} {n : Nat}, Ed b c n → ∃ k, k ≤ m + n ∧ Ed a c k := by
  induction h with
  | nil => intro c n k; exact ⟨n, by omega, k⟩
  | @del x a b m _ ih => intro c n k; obtain ⟨q, h1, h2⟩ := ih k; exact ⟨q + 1, by omega, .del h2⟩
  | @ins y a b m h ih =>
    intro c n k
    generalize hB : y :: b = B at k
    induction k with
    | nil => cases hB
    | same k _ => cases hB; obtain ⟨q, h1, h2⟩ := ih k; exact ⟨q + 1, by omega, .ins h2⟩
    | sub k _ => cases hB; obtain ⟨q, h1, h2⟩ := ih k; exact ⟨q + 1, by omega, .ins h2⟩
    | del k _ => cases hB; obtain ⟨q, h1, h2⟩ := ih k; exact ⟨q, by omega, h2⟩
    | ins k ih2 => obtain ⟨q, h1, h2⟩ := ih2 hB; exact ⟨q + 1, by omega, .ins h2⟩
  | @same x a b m h ih =>
    intro c n k
    generalize hB : x :: b = B at k
    induction k with
    | nil => cases hB
    | same k _ => cases hB; obtain ⟨q, h1, h2⟩ := ih k; exact ⟨q, by omega, .same h2⟩
    | sub k _ => cases hB; obtain ⟨q, h1, h2⟩ := ih k; exact ⟨q + 1, by omega, .sub h2⟩
    | del k _ => cases hB; obtain ⟨q, h1, h2⟩ := ih k; exact ⟨q + 1, by omega, .del h2⟩
    | ins k ih2 => obtain ⟨q, h1, h2⟩ := ih2 hB; exact ⟨q + 1, by omega, .ins h2⟩
  | @sub x y a b m h ih =>
    intro c n k
    generalize hB : y :: b = B at k
    induction k with
    | nil => cases hB
    | same k _ => cases hB; obtain ⟨q, h1, h2⟩ := ih k; exact ⟨q + 1, by omega, .sub h2⟩
    | sub k _ => cases hB; obtain ⟨q, h1, h2⟩ := ih k; exact ⟨q + 1, by omega, .sub h2⟩
    | del k _ => cases hB; obtain ⟨q, h1, h2⟩ := ih k; exact ⟨q + 1, by omega, .del h2⟩
    | ins k ih2 => obtain ⟨q, h1, h2⟩ := ih2 hB; exact ⟨q + 1, by omega, .ins h2⟩
/-- The least number. -/
def lev : List Int → List Int → Nat
  | [], b => b.length
  | x :: a, [] => a.length + 1
  | x :: a, y :: b => if x = y then lev a b else 1 + min (lev a b) (min (lev a (y :: b)) (lev (x :: a) b))
theorem lev_nil (b : List Int) : lev [] b = b.length := by cases b <;> rw [lev]
theorem lev_nil' (a : List Int) : lev a [] = a.length := by cases a <;> rw [lev]; rfl
theorem lev_same (x : Int) (a b : List Int) : lev (x :: a) (x :: b) = lev a b := by rw [lev, if_pos rfl]
theorem lev_ne {x y : Int} (a b : List Int) (h : x ≠ y) : lev (x :: a) (y :: b) = 1 + min (lev a b) (min (lev a (y :: b)) (lev (x :: a) b)) := by rw [lev, if_neg h]
theorem ed_lev (a b : List Int) : Ed a b (lev a b) := by
  induction a generalizing b with
  | nil => rw [lev_nil]; exact Ed.nil_left b
  | cons x a iha =>
    induction b with
    | nil => rw [lev_nil']; exact Ed.nil_right _
    | cons y b ihb =>
      by_cases h : x = y
      · subst h; rw [lev_same]; exact .same (iha b)
      · rw [lev_ne a b h, Nat.add_comm]
        rcases (by omega : min (lev a b) (min (lev a (y :: b)) (lev (x :: a) b)) = lev a b ∨ min (lev a b) (min (lev a (y :: b)) (lev (x :: a) b)) = lev a (y :: b) ∨ min (lev a b) (min (lev a (y :: b)) (lev (x :: a) b)) = lev (x :: a) b) with e | e | e
        · rw [e]; exact .sub (iha b)
        · rw [e]; exact .del (iha _)
        · rw [e]; exact .ins ihb
/-- One sign more makes a difference of one at most. -/
theorem lev_step : ∀ (n : Nat) (a b : List Int), a.length + b.length ≤ n → ∀ x : Int, lev (x :: a) b ≤ lev a b + 1 ∧ lev a (x :: b) ≤ lev a b + 1 ∧ lev a b ≤ lev (x :: a) b + 1 ∧ lev a b ≤ lev a (x :: b) + 1 := by
  intro n
  induction n with
  | zero =>
    intro a b h x
    obtain rfl : a = [] := List.eq_nil_of_length_eq_zero (by omega)
    obtain rfl : b = [] := List.eq_nil_of_length_eq_zero (by omega)
    simp [lev_nil, lev_nil']
  | succ n ih =>
    intro a b h x
    have h1 : lev (x :: a) b ≤ lev a b + 1 := by
      cases b with
      | nil => simp [lev_nil']
      | cons y b =>
        by_cases e : x = y
        · subst e; rw [lev_same]; have := (ih a b (by simp at h; omega) x).2.2.2; omega
        · rw [lev_ne a b e]; omega
    have h2 : lev a (x :: b) ≤ lev a b + 1 := by
      cases a with
      | nil => simp [lev_nil]
      | cons y a =>
        by_cases e : y = x
        · subst e; rw [lev_same]; have := (ih a b (by simp at h; omega) y).2.2.1; omega
        · rw [lev_ne a b e]; omega
    refine ⟨h1, h2, ?_, ?_⟩
    · cases b with
      | nil => simp [lev_nil']; omega
      | cons y b =>
        simp at h
        have i := ih a b (by omega) y
        by_cases e : x = y
        · subst e; rw [lev_same]; exact i.2.1
        · rw [lev_ne a b e]
          have j := (ih a b (by omega) x).2.2.1
          omega
    · cases a with
      | nil => simp [lev_nil]; omega
      | cons y a =>
        simp at h
        have i := ih a b (by omega) y
        by_cases e : y = x
        · subst e; rw [lev_same]; exact i.1
        · rw [lev_ne a b e]
          have j := (ih a b (by omega) x).2.2.2
          omega
theorem lev_le {a b : List Int} {n : Nat} (h : Ed a b n) : lev a b ≤ n := by
  induction h with
  | nil => simp [lev_nil]
  | same _ ih => rw [lev_same]; exact ih
  | @sub x y a b n _ ih =>
    by_cases e : x = y
    · subst e; rw [lev_same]; omega
    · rw [lev_ne a b e]; omega
  | @del x a b n _ ih => have := (lev_step _ a b (Nat.le_refl _) x).1; omega
  | @ins y a b n _ ih => have := (lev_step _ a b (Nat.le_refl _) y).2.1; omega
theorem lev_comm (a b : List Int) : lev a b = lev b a := Nat.le_antisymm (lev_le (ed_lev b a).symm) (lev_le (ed_lev a b).symm)
theorem lev_rev (a b : List Int) : lev a.reverse b.reverse = lev a b := by
  refine Nat.le_antisymm (lev_le (ed_lev a b).reverse) ?_
  have := lev_le (ed_lev a.reverse b.reverse).reverse
  simpa using this
theorem lev_tri (a b c : List Int) : lev a b ≤ lev a c + lev c b := by
  obtain ⟨k, h1, h2⟩ := (ed_lev a c).trans (ed_lev c b)
  have := lev_le h2
  omega
theorem lev_zero (a b : List Int) : lev a b = 0 ↔ a = b := by
  constructor
  · intro h; exact (ed_lev a b).zero h
  · rintro rfl; have := lev_le (Ed.refl a); omega
theorem lev_max (a b : List Int) : lev a b ≤ max a.length b.length := by
  induction a generalizing b with
  | nil => rw [lev_nil]; omega
  | cons x a iha =>
    cases b with
    | nil => rw [lev_nil']; omega
    | cons y b =>
      have i := iha b
      by_cases e : x = y
      · subst e; rw [lev_same]; simp only [List.length_cons]; omega
      · rw [lev_ne a b e]; simp only [List.length_cons]; omega
/-- By what the last signs become. -/
theorem lev_last_same (x : Int) (a b : List Int) : lev (a ++ [x]) (b ++ [x]) = lev a b := by
  rw [← lev_rev (a ++ [x]), ← lev_rev a b]; simp [lev_same]
theorem lev_last_ne {x y : Int} (a b : List Int) (h : x ≠ y) : lev (a ++ [x]) (b ++ [y]) = 1 + min (lev a b) (min (lev a (b ++ [y])) (lev (a ++ [x]) b)) := by
  rw [← lev_rev (a ++ [x]), ← lev_rev a b, ← lev_rev a (b ++ [y]), ← lev_rev (a ++ [x]) b]; simp [lev_ne _ _ h]
theorem lev_near (x : Int) (a b : List Int) : lev a b ≤ lev a (b ++ [x]) + 1 ∧ lev a b ≤ lev (a ++ [x]) b + 1 := by
  rw [← lev_rev a (b ++ [x]), ← lev_rev (a ++ [x]) b, ← lev_rev a b]
  have := lev_step _ a.reverse b.reverse (Nat.le_refl _) x
  simp
  omega
/-- The row that the program makes. -/
theorem lev_row (x y : Int) (a b : List Int) : lev (a ++ [x]) (b ++ [y]) = min (lev a (b ++ [y]) + 1) (min (lev (a ++ [x]) b + 1) (lev a b + if x = y then 0 else 1)) := by
  by_cases h : x = y
  · subst h
    rw [lev_last_same, if_pos rfl]
    have := lev_near x a b
    omega
  · rw [lev_last_ne a b h, if_neg h]; omega
theorem lev_prefix (c a b : List Int) : lev (c ++ a) (c ++ b) = lev a b := by
  induction c with
  | nil => rfl
  | cons x c ih => simp [lev_same, ih]
end Go.Proofs.Ytoblaooomphdoaa
