/- Plain lemmas on bytes and values, of no program: the first value of bytes; all values; the bytes of values; the model's own decoding told in these words. -/
import GoSem.Core.Utf8
namespace Go.Proofs.Ytoblaooomphdoaa
def at_ (l : List UInt8) (i : Nat) : Nat := (l.getD i 0).toNat
theorem at_lt (l : List UInt8) (i : Nat) : at_ l i < 256 := (l.getD i 0).toNat_lt
def cont (l : List UInt8) (i : Nat) : Bool := decide (i < l.length) && (decide (128 ≤ at_ l i) && decide (at_ l i ≤ 191))
/-- The first value of bytes, and its size; of numbers: the bytes, and whether the second, third, fourth goes on. -/
def oneN (b0 b1 b2 b3 : Nat) (c1 c2 c3 : Bool) : Nat × Nat :=
  if b0 < 128 then (b0, 1)
  else if 194 ≤ b0 ∧ b0 ≤ 223 ∧ c1 = true then ((b0 - 192) * 64 + (b1 - 128), 2)
  else if 224 ≤ b0 ∧ b0 ≤ 239 ∧ c1 = true ∧ c2 = true ∧ ¬ (b0 = 224 ∧ b1 < 160) ∧ ¬ (b0 = 237 ∧ 159 < b1) then (((b0 - 224) * 64 + (b1 - 128)) * 64 + (b2 - 128), 3)
  else if 240 ≤ b0 ∧ b0 ≤ 244 ∧ c1 = true ∧ c2 = true ∧ c3 = true ∧ ¬ (b0 = 240 ∧ b1 < 144) ∧ ¬ (b0 = 244 ∧ 143 < b1) then ((((b0 - 240) * 64 + (b1 - 128)) * 64 + (b2 - 128)) * 64 + (b3 - 128), 4)
  else (1114112 + b0, 1)
def one (l : List UInt8) : Nat × Nat := oneN (at_ l 0) (at_ l 1) (at_ l 2) (at_ l 3) (cont l 1) (cont l 2) (cont l 3)
def decN (b0 b1 b2 b3 : Nat) (c1 c2 c3 : Bool) : Nat × Nat :=
  if b0 < 0x80 then (b0, 1)
  else if (b0 / 32 == 6 && c1) = true then
    if (b0 % 32) * 64 + b1 % 64 ≥ 0x80 then ((b0 % 32) * 64 + b1 % 64, 2) else (0xFFFD, 1)
  else if (b0 / 16 == 14 && c1 && c2) = true then
    if ((b0 % 16) * 4096 + (b1 % 64) * 64 + b2 % 64 ≥ 0x800 && Utf8.valid (((b0 % 16) * 4096 + (b1 % 64) * 64 + b2 % 64 : Nat) : Int)) = true then ((b0 % 16) * 4096 + (b1 % 64) * 64 + b2 % 64, 3) else (0xFFFD, 1)
  else if (b0 / 8 == 30 && c1 && c2 && c3) = true then
    if ((b0 % 8) * 262144 + (b1 % 64) * 4096 + (b2 % 64) * 64 + b3 % 64 ≥ 0x10000 && Utf8.valid (((b0 % 8) * 262144 + (b1 % 64) * 4096 + (b2 % 64) * 64 + b3 % 64 : Nat) : Int)) = true then ((b0 % 8) * 262144 + (b1 % 64) * 4096 + (b2 % 64) * 64 + b3 % 64, 4) else (0xFFFD, 1)
  else (0xFFFD, 1)
theorem get_at (s : ByteArray) (pos k : Nat) : (s.get! (pos + k)).toNat = at_ (s.data.toList.drop pos) k := by
  unfold at_
  rw [List.getD_eq_getElem?_getD, List.getElem?_drop, Array.getElem?_toList]
  show (s.data[pos + k]!).toNat = _
  rw [getElem!_def]
  cases s.data[pos + k]? <;> rfl
theorem cont_at (s : ByteArray) (pos k : Nat) : (decide (pos + k < s.size) && (s.get! (pos + k)).toNat / 64 == 2) = cont (s.data.toList.drop pos) k := by
  unfold cont
  rw [get_at]
  have hb := at_lt (s.data.toList.drop pos) k
  have hl : (s.data.toList.drop pos).length = s.size - pos := by simp
  rw [hl]
  generalize at_ (s.data.toList.drop pos) k = b at *
  rw [Bool.eq_iff_iff]
  simp
  omega
theorem decode_eq (s : ByteArray) (pos : Nat) : Utf8.decode s pos = decN (at_ (s.data.toList.drop pos) 0) (at_ (s.data.toList.drop pos) 1) (at_ (s.data.toList.drop pos) 2) (at_ (s.data.toList.drop pos) 3) (cont (s.data.toList.drop pos) 1) (cont (s.data.toList.drop pos) 2) (cont (s.data.toList.drop pos) 3) := by
  unfold Utf8.decode decN
  simp only [cont_at]
  simp only [get_at]
  rfl
set_option maxHeartbeats 4000000 in
theorem meet (b0 b1 b2 b3 : Nat) (c1 c2 c3 : Bool) (h0 : b0 < 256) (h1 : c1 = true → 128 ≤ b1 ∧ b1 ≤ 191) (h2 : c2 = true → 128 ≤ b2 ∧ b2 ≤ 191) (h3 : c3 = true → 128 ≤ b3 ∧ b3 ≤ 191) :
    (oneN b0 b1 b2 b3 c1 c2 c3).2 = (decN b0 b1 b2 b3 c1 c2 c3).2 ∧
      (((oneN b0 b1 b2 b3 c1 c2 c3).1 = (decN b0 b1 b2 b3 c1 c2 c3).1 ∧ (oneN b0 b1 b2 b3 c1 c2 c3).1 < 1114112 ∧ ((oneN b0 b1 b2 b3 c1 c2 c3).1 = 65533 → b0 = 239 ∧ b1 = 191 ∧ b2 = 189 ∧ c1 = true ∧ c2 = true)) ∨
        ((oneN b0 b1 b2 b3 c1 c2 c3).1 = 1114112 + b0 ∧ 128 ≤ b0 ∧ (decN b0 b1 b2 b3 c1 c2 c3).1 = 65533 ∧ (oneN b0 b1 b2 b3 c1 c2 c3).2 = 1 ∧ ¬ (b0 = 239 ∧ b1 = 191 ∧ b2 = 189 ∧ c1 = true ∧ c2 = true))) := by
  unfold oneN decN Utf8.valid
  cases c1 <;> cases c2 <;> cases c3 <;> simp only [forall_const, Bool.false_eq_true, false_implies, Bool.and_true, Bool.and_false, and_true, and_false, false_and, true_and, if_false, beq_iff_eq, Bool.and_eq_true, Bool.or_eq_true, decide_eq_true_eq] at *
  all_goals (repeat' split) 
  all_goals first | omega | (refine ⟨?_, ?_⟩ <;> omega) | (simp only [true_and, not_false_eq_true, and_true]; omega)
theorem cont_bd {l : List UInt8} {i : Nat} (h : cont l i = true) : 128 ≤ at_ l i ∧ at_ l i ≤ 191 := by
  unfold cont at h; simp at h; omega
/-- The three bytes of the replacement sign stand ahead. -/
def wrongAhead (l : List UInt8) : Bool := decide (at_ l 0 = 239 ∧ at_ l 1 = 191 ∧ at_ l 2 = 189 ∧ cont l 1 = true ∧ cont l 2 = true)
theorem decode_one (s : ByteArray) (pos : Nat) :
    (Utf8.decode s pos).2 = (one (s.data.toList.drop pos)).2 ∧
      (((Utf8.decode s pos).1 = (one (s.data.toList.drop pos)).1 ∧ (one (s.data.toList.drop pos)).1 < 1114112 ∧ ((one (s.data.toList.drop pos)).1 = 65533 → wrongAhead (s.data.toList.drop pos) = true)) ∨
        ((one (s.data.toList.drop pos)).1 = 1114112 + at_ (s.data.toList.drop pos) 0 ∧ (one (s.data.toList.drop pos)).2 = 1 ∧ (Utf8.decode s pos).1 = 65533 ∧ wrongAhead (s.data.toList.drop pos) = false)) := by
  rw [decode_eq]
  generalize s.data.toList.drop pos = l
  have h := meet (at_ l 0) (at_ l 1) (at_ l 2) (at_ l 3) (cont l 1) (cont l 2) (cont l 3) (at_lt l 0) cont_bd cont_bd cont_bd
  unfold one wrongAhead
  obtain ⟨h1, h2⟩ := h
  refine ⟨h1.symm, ?_⟩
  rcases h2 with ⟨a, b, c⟩ | ⟨a, b, c, d, e⟩
  · exact .inl ⟨a.symm, b, fun h => decide_eq_true (c h)⟩
  · exact .inr ⟨a, d, c, decide_eq_false e⟩
/-- May a value be. -/
def rightN (v : Nat) : Prop := v < 55296 ∨ (57343 < v ∧ v ≤ 1114111) ∨ (1114240 ≤ v ∧ v ≤ 1114367)
/-- The bytes of a value that may be. -/
def bytesN (v : Nat) : List UInt8 :=
  if v < 128 then [UInt8.ofNat v]
  else if v < 2048 then [UInt8.ofNat (192 + v / 64), UInt8.ofNat (128 + v % 64)]
  else if v < 65536 then [UInt8.ofNat (224 + v / 4096), UInt8.ofNat (128 + v / 64 % 64), UInt8.ofNat (128 + v % 64)]
  else if v ≤ 1114111 then [UInt8.ofNat (240 + v / 262144), UInt8.ofNat (128 + v / 4096 % 64), UInt8.ofNat (128 + v / 64 % 64), UInt8.ofNat (128 + v % 64)]
  else [UInt8.ofNat (v - 1114112)]
theorem ofNat_at (x : UInt8) (n : Nat) (h : n = x.toNat) : UInt8.ofNat n = x := by subst h; simp
theorem toNat_ofNat {n : Nat} (h : n < 256) : (UInt8.ofNat n).toNat = n := by simp; omega
theorem at_cons0 (x : UInt8) (l : List UInt8) : at_ (x :: l) 0 = x.toNat := rfl
theorem at_cons1 (x y : UInt8) (l : List UInt8) : at_ (x :: y :: l) 1 = y.toNat := rfl
theorem at_cons2 (x y z : UInt8) (l : List UInt8) : at_ (x :: y :: z :: l) 2 = z.toNat := rfl
theorem at_cons3 (x y z u : UInt8) (l : List UInt8) : at_ (x :: y :: z :: u :: l) 3 = u.toNat := rfl
/-- The bytes that belong to the first value, told by cases. -/
theorem one_cases (x : UInt8) (l : List UInt8) :
    (x.toNat < 128 ∧ one (x :: l) = (x.toNat, 1)) ∨
    (∃ y r, l = y :: r ∧ 194 ≤ x.toNat ∧ x.toNat ≤ 223 ∧ 128 ≤ y.toNat ∧ y.toNat ≤ 191 ∧ one (x :: l) = ((x.toNat - 192) * 64 + (y.toNat - 128), 2)) ∨
    (∃ y z r, l = y :: z :: r ∧ 224 ≤ x.toNat ∧ x.toNat ≤ 239 ∧ 128 ≤ y.toNat ∧ y.toNat ≤ 191 ∧ 128 ≤ z.toNat ∧ z.toNat ≤ 191 ∧ ¬ (x.toNat = 224 ∧ y.toNat < 160) ∧ ¬ (x.toNat = 237 ∧ 159 < y.toNat) ∧ one (x :: l) = (((x.toNat - 224) * 64 + (y.toNat - 128)) * 64 + (z.toNat - 128), 3)) ∨
    (∃ y z u r, l = y :: z :: u :: r ∧ 240 ≤ x.toNat ∧ x.toNat ≤ 244 ∧ 128 ≤ y.toNat ∧ y.toNat ≤ 191 ∧ 128 ≤ z.toNat ∧ z.toNat ≤ 191 ∧ 128 ≤ u.toNat ∧ u.toNat ≤ 191 ∧ ¬ (x.toNat = 240 ∧ y.toNat < 144) ∧ ¬ (x.toNat = 244 ∧ 143 < y.toNat) ∧ one (x :: l) = ((((x.toNat - 240) * 64 + (y.toNat - 128)) * 64 + (z.toNat - 128)) * 64 + (u.toNat - 128), 4)) ∨
    (128 ≤ x.toNat ∧ one (x :: l) = (1114112 + x.toNat, 1)) := by
  have hx := x.toNat_lt
  by_cases h1 : x.toNat < 128
  · exact .inl ⟨h1, by unfold one oneN; rw [at_cons0, if_pos h1]⟩
  by_cases h2 : 194 ≤ x.toNat ∧ x.toNat ≤ 223 ∧ cont (x :: l) 1 = true
  · refine .inr (.inl ?_)
    obtain ⟨a, b, c⟩ := h2
    match l, c with
    | [], c => simp [cont] at c
    | y :: r, c =>
      have hc := cont_bd c
      rw [at_cons1] at hc
      exact ⟨y, r, rfl, a, b, hc.1, hc.2, by unfold one oneN; rw [at_cons0, at_cons1, if_neg h1, if_pos ⟨a, b, c⟩]⟩
  by_cases h3 : 224 ≤ x.toNat ∧ x.toNat ≤ 239 ∧ cont (x :: l) 1 = true ∧ cont (x :: l) 2 = true ∧ ¬ (x.toNat = 224 ∧ at_ (x :: l) 1 < 160) ∧ ¬ (x.toNat = 237 ∧ 159 < at_ (x :: l) 1)
  · refine .inr (.inr (.inl ?_))
    obtain ⟨a, b, c, d, e, f⟩ := h3
    match l, c, d, e, f with
    | [], c, _, _, _ => simp [cont] at c
    | [y], _, d, _, _ => simp [cont] at d
    | y :: z :: r, c, d, e, f =>
      have hc := cont_bd c
      have hd := cont_bd d
      rw [at_cons1] at hc e f
      rw [at_cons2] at hd
      exact ⟨y, z, r, rfl, a, b, hc.1, hc.2, hd.1, hd.2, e, f, by unfold one oneN; rw [at_cons0, at_cons1, at_cons2, if_neg h1, if_neg h2, if_pos ⟨a, b, c, d, e, f⟩]⟩
  by_cases h4 : 240 ≤ x.toNat ∧ x.toNat ≤ 244 ∧ cont (x :: l) 1 = true ∧ cont (x :: l) 2 = true ∧ cont (x :: l) 3 = true ∧ ¬ (x.toNat = 240 ∧ at_ (x :: l) 1 < 144) ∧ ¬ (x.toNat = 244 ∧ 143 < at_ (x :: l) 1)
  · refine .inr (.inr (.inr (.inl ?_)))
    obtain ⟨a, b, c, d, g, e, f⟩ := h4
    match l, c, d, g, e, f with
    | [], c, _, _, _, _ => simp [cont] at c
    | [y], _, d, _, _, _ => simp [cont] at d
    | [y, z], _, _, g, _, _ => simp [cont] at g
    | y :: z :: u :: r, c, d, g, e, f =>
      have hc := cont_bd c
      have hd := cont_bd d
      have hg := cont_bd g
      rw [at_cons1] at hc e f
      rw [at_cons2] at hd
      rw [at_cons3] at hg
      exact ⟨y, z, u, r, rfl, a, b, hc.1, hc.2, hd.1, hd.2, hg.1, hg.2, e, f, by unfold one oneN; rw [at_cons0, at_cons1, at_cons2, at_cons3, if_neg h1, if_neg h2, if_neg (fun h => by have := h.2.1; omega), if_pos ⟨a, b, c, d, g, e, f⟩]⟩
  · exact .inr (.inr (.inr (.inr ⟨by omega, by unfold one oneN; rw [at_cons0, if_neg h1, if_neg h2, if_neg h3, if_neg h4]⟩)))
theorem one_spec (x : UInt8) (l : List UInt8) : 1 ≤ (one (x :: l)).2 ∧ (one (x :: l)).2 ≤ (x :: l).length ∧ rightN (one (x :: l)).1 ∧ bytesN (one (x :: l)).1 = (x :: l).take (one (x :: l)).2 := by
  have hx := x.toNat_lt
  rcases one_cases x l with ⟨h, e⟩ | ⟨y, r, rfl, h1, h2, h3, h4, e⟩ | ⟨y, z, r, rfl, h1, h2, h3, h4, h5, h6, h7, h8, e⟩ | ⟨y, z, u, r, rfl, h1, h2, h3, h4, h5, h6, h9, h10, h7, h8, e⟩ | ⟨h, e⟩
  · rw [e]
    refine ⟨by omega, by simp, .inl (by omega), ?_⟩
    unfold bytesN
    rw [if_pos h]
    simp
  · rw [e]
    refine ⟨by omega, by simp, .inl (by omega), ?_⟩
    unfold bytesN
    rw [if_neg (by omega), if_pos (by omega)]
    rw [ofNat_at x _ (by omega), ofNat_at y _ (by omega)]
    rfl
  · rw [e]
    refine ⟨by omega, by simp, by unfold rightN; omega, ?_⟩
    unfold bytesN
    rw [if_neg (by omega), if_neg (by omega), if_pos (by omega)]
    rw [ofNat_at x _ (by omega), ofNat_at y _ (by omega), ofNat_at z _ (by omega)]
    rfl
  · rw [e]
    refine ⟨by omega, by simp, by unfold rightN; omega, ?_⟩
    unfold bytesN
    rw [if_neg (by omega), if_neg (by omega), if_neg (by omega), if_pos (by omega)]
    rw [ofNat_at x _ (by omega), ofNat_at y _ (by omega), ofNat_at z _ (by omega), ofNat_at u _ (by omega)]
    rfl
  · rw [e]
    refine ⟨by omega, by simp, by unfold rightN; omega, ?_⟩
    unfold bytesN
    rw [if_neg (by omega), if_neg (by omega), if_neg (by omega), if_neg (by omega)]
    rw [ofNat_at x _ (by omega)]
    rfl
/-- All values, by at most so many. -/
def vals : Nat → List UInt8 → List Nat
  | 0, _ => []
  | _ + 1, [] => []
  | f + 1, x :: l => (one (x :: l)).1 :: vals f ((x :: l).drop (one (x :: l)).2)
theorem vals_enough : ∀ (f g : Nat) (l : List UInt8), l.length ≤ f → l.length ≤ g → vals f l = vals g l
  | 0, 0, _, _, _ => rfl
  | 0, g + 1, [], _, _ => rfl
  | 0, g + 1, x :: l, h, _ => by simp at h
  | f + 1, 0, [], _, _ => rfl
  | f + 1, 0, x :: l, _, h => by simp at h
  | f + 1, g + 1, [], _, _ => rfl
  | f + 1, g + 1, x :: l, hf, hg => by
    have hs := one_spec x l
    simp only [vals]
    rw [vals_enough f g _ (by simp only [List.length_drop]; omega) (by simp only [List.length_drop]; omega)]
def valsL (l : List UInt8) : List Nat := vals l.length l
theorem valsL_nil : valsL [] = [] := rfl
theorem valsL_cons (x : UInt8) (l : List UInt8) : valsL (x :: l) = (one (x :: l)).1 :: valsL ((x :: l).drop (one (x :: l)).2) := by
  have hs := one_spec x l
  show vals (l.length + 1) (x :: l) = _
  simp only [vals]
  unfold valsL
  rw [vals_enough l.length ((x :: l).drop (one (x :: l)).2).length _ (by simp only [List.length_drop, List.length_cons] at *; omega) (Nat.le_refl _)]
theorem valsL_len (l : List UInt8) : (valsL l).length ≤ l.length := by
  suffices h : ∀ (n : Nat) (l : List UInt8), l.length ≤ n → (valsL l).length ≤ l.length from h _ l (Nat.le_refl _)
  intro n
  induction n with
  | zero => intro l h; match l, h with | [], _ => simp [valsL_nil]
  | succ n ih =>
    intro l h
    match l, h with
    | [], _ => simp [valsL_nil]
    | x :: l, h =>
      have hs := one_spec x l
      rw [valsL_cons]
      have := ih ((x :: l).drop (one (x :: l)).2) (by simp only [List.length_drop, List.length_cons] at *; omega)
      simp only [List.length_cons, List.length_drop] at *
      omega
/-- The bytes of values. -/
def encL (vs : List Nat) : List UInt8 := vs.flatMap bytesN
/-- THERE AND BACK: the values' bytes are the text. -/
theorem enc_vals (l : List UInt8) : encL (valsL l) = l := by
  suffices h : ∀ (n : Nat) (l : List UInt8), l.length ≤ n → encL (valsL l) = l from h _ l (Nat.le_refl _)
  intro n
  induction n with
  | zero => intro l h; match l, h with | [], _ => rfl
  | succ n ih =>
    intro l h
    match l, h with
    | [], _ => rfl
    | x :: l, h =>
      have hs := one_spec x l
      rw [valsL_cons, encL, List.flatMap_cons]
      have := ih ((x :: l).drop (one (x :: l)).2) (by simp only [List.length_drop, List.length_cons] at *; omega)
      rw [encL] at this
      rw [this, hs.2.2.2, List.take_append_drop]
theorem vals_right (l : List UInt8) : ∀ v ∈ valsL l, rightN v := by
  suffices h : ∀ (n : Nat) (l : List UInt8), l.length ≤ n → ∀ v ∈ valsL l, rightN v from h _ l (Nat.le_refl _)
  intro n
  induction n with
  | zero => intro l h; match l, h with | [], _ => intro v hv; simp [valsL_nil] at hv
  | succ n ih =>
    intro l h
    match l, h with
    | [], _ => intro v hv; simp [valsL_nil] at hv
    | x :: l, h =>
      have hs := one_spec x l
      intro v hv
      rw [valsL_cons, List.mem_cons] at hv
      rcases hv with rfl | hv
      · exact hs.2.2.1
      · exact ih _ (by simp only [List.length_drop, List.length_cons] at *; omega) v hv
/-- The first value of what begins with a code point's bytes. -/
theorem one_bytes (v : Nat) (hv : rightN v) (hp : v ≤ 1114111) (t : List UInt8) : ∃ x l, bytesN v = x :: l ∧ one (bytesN v ++ t) = (v, (bytesN v).length) := by
  unfold rightN at hv
  unfold bytesN
  split
  · refine ⟨_, _, rfl, ?_⟩
    have e := toNat_ofNat (n := v) (by omega)
    unfold one oneN
    simp only [List.cons_append, List.nil_append, at_cons0, e, List.length_cons, List.length_nil]
    rw [if_pos (by omega)]
  split
  · refine ⟨_, _, rfl, ?_⟩
    have e0 := toNat_ofNat (n := 192 + v / 64) (by omega)
    have e1 := toNat_ofNat (n := 128 + v % 64) (by omega)
    have c1 : cont (UInt8.ofNat (192 + v / 64) :: UInt8.ofNat (128 + v % 64) :: t) 1 = true := by unfold cont; rw [at_cons1, e1]; simp; omega
    unfold one oneN
    simp only [List.cons_append, List.nil_append, at_cons0, at_cons1, e0, e1, c1, List.length_cons, List.length_nil]
    rw [if_neg (by omega), if_pos ⟨by omega, by omega, trivial⟩]
    simp only [Prod.mk.injEq]
    exact ⟨by omega, trivial⟩
  split
  · refine ⟨_, _, rfl, ?_⟩
    have e0 := toNat_ofNat (n := 224 + v / 4096) (by omega)
    have e1 := toNat_ofNat (n := 128 + v / 64 % 64) (by omega)
    have e2 := toNat_ofNat (n := 128 + v % 64) (by omega)
    have c1 : cont (UInt8.ofNat (224 + v / 4096) :: UInt8.ofNat (128 + v / 64 % 64) :: UInt8.ofNat (128 + v % 64) :: t) 1 = true := by unfold cont; rw [at_cons1, e1]; simp; omega
    have c2 : cont (UInt8.ofNat (224 + v / 4096) :: UInt8.ofNat (128 + v / 64 % 64) :: UInt8.ofNat (128 + v % 64) :: t) 2 = true := by unfold cont; rw [at_cons2, e2]; simp; omega
    unfold one oneN
    simp only [List.cons_append, List.nil_append, at_cons0, at_cons1, at_cons2, e0, e1, e2, c1, c2, List.length_cons, List.length_nil]
    rw [if_neg (by omega), if_neg (by omega), if_pos ⟨by omega, by omega, trivial, trivial, by omega, by omega⟩]
    simp only [Prod.mk.injEq]
    exact ⟨by omega, trivial⟩
  · refine ⟨_, _, rfl, ?_⟩
    have e0 := toNat_ofNat (n := 240 + v / 262144) (by omega)
    have e1 := toNat_ofNat (n := 128 + v / 4096 % 64) (by omega)
    have e2 := toNat_ofNat (n := 128 + v / 64 % 64) (by omega)
    have e3 := toNat_ofNat (n := 128 + v % 64) (by omega)
    have c1 : cont (UInt8.ofNat (240 + v / 262144) :: UInt8.ofNat (128 + v / 4096 % 64) :: UInt8.ofNat (128 + v / 64 % 64) :: UInt8.ofNat (128 + v % 64) :: t) 1 = true := by unfold cont; rw [at_cons1, e1]; simp; omega
    have c2 : cont (UInt8.ofNat (240 + v / 262144) :: UInt8.ofNat (128 + v / 4096 % 64) :: UInt8.ofNat (128 + v / 64 % 64) :: UInt8.ofNat (128 + v % 64) :: t) 2 = true := by unfold cont; rw [at_cons2, e2]; simp; omega
    have c3 : cont (UInt8.ofNat (240 + v / 262144) :: UInt8.ofNat (128 + v / 4096 % 64) :: UInt8.ofNat (128 + v / 64 % 64) :: UInt8.ofNat (128 + v % 64) :: t) 3 = true := by unfold cont; rw [at_cons3, e3]; simp; omega
    unfold one oneN
    simp only [List.cons_append, List.nil_append, at_cons0, at_cons1, at_cons2, at_cons3, e0, e1, e2, e3, c1, c2, c3, List.length_cons, List.length_nil]
    rw [if_neg (by omega), if_neg (by omega), if_neg (by omega), if_pos ⟨by omega, by omega, trivial, trivial, trivial, by omega, by omega⟩]
    simp only [Prod.mk.injEq]
    exact ⟨by omega, trivial⟩
theorem vals_bytes (v : Nat) (hv : rightN v) (hp : v ≤ 1114111) (t : List UInt8) : valsL (bytesN v ++ t) = v :: valsL t := by
  obtain ⟨x, l, e, h⟩ := one_bytes v hv hp t
  have e' : bytesN v ++ t = x :: (l ++ t) := by rw [e]; rfl
  rw [e'] at h
  rw [e', valsL_cons, h, ← e']
  simp
/-- AND BACK: of code points. -/
theorem vals_enc (vs : List Nat) (h : ∀ v ∈ vs, rightN v ∧ v ≤ 1114111) (t : List UInt8) : valsL (encL vs ++ t) = vs ++ valsL t := by
  induction vs with
  | nil => rfl
  | cons v vs ih =>
    rw [encL, List.flatMap_cons, List.append_assoc, vals_bytes v (h v (by simp)).1 (h v (by simp)).2]
    have := ih (fun x hx => h x (by simp [hx]))
    rw [encL] at this
    rw [this]; rfl
/-- ONE BEHIND THE OTHER. -/
theorem vals_join (s t : List UInt8) (h : ∀ v ∈ valsL s, v ≤ 1114111) : valsL (s ++ t) = valsL s ++ valsL t := by
  have := vals_enc (valsL s) (fun v hv => ⟨vals_right s v hv, h v hv⟩) t
  rw [enc_vals] at this
  exact this
end Go.Proofs.Ytoblaooomphdoaa
