/- Floats: Share, Like, Same. -/
import Derived.Test.YtoblaooomphdoaaD5
import Derived.Laws.FloatArith
namespace Go.Proofs.Ytoblaooomphdoaa
open Go.RowKit
/-- The bits of no number. -/
def NanB (b : Nat) : Prop := ∃ s f, Ieee.double.read b = .nan s f
theorem nan_bits (s r : Nat) (hr : r < 4503599627370495) : NanB (s * 9223372036854775808 + 9218868437227405312 + 1 + r) := by
  refine ⟨(s * 9223372036854775808 + 9218868437227405312 + 1 + r) / 9223372036854775808 % 2 == 1, 9218868437227405312 + 1 + r - 9218868437227405312, ?_⟩
  unfold Ieee.Format.read
  have e1 : Ieee.double.signWeight = 9223372036854775808 := by decide
  have e2 : Ieee.double.binade = 4503599627370496 := by decide
  have e3 : Ieee.double.infRung = 9218868437227405312 := by decide
  have e4 : (s * 9223372036854775808 + 9218868437227405312 + 1 + r) % 9223372036854775808 = 9218868437227405312 + 1 + r := by omega
  simp only [e1, e2, e3, e4]
  rw [if_neg (by omega), if_neg (by omega), if_neg (by omega)]
theorem nan_cut (x y t : Nat) : NanB ((Question.nanBits .f64 x y).cut t) := by
  show NanB ((t % 2) * 2 ^ 63 + 0x7ff0000000000000 + 1 + (t / 2) % (2 ^ 52 - 1))
  exact nan_bits (t % 2) ((t / 2) % (2 ^ 52 - 1)) (Nat.mod_lt _ (by decide))
theorem NanB.order {b : Nat} (h : NanB b) (c : Nat) : FloatKind.f64.format.order b c = none ∧ FloatKind.f64.format.order c b = none := by
  obtain ⟨s, f, h⟩ := h
  show (Ieee.double.read b).order (Ieee.double.read c) = none ∧ (Ieee.double.read c).order (Ieee.double.read b) = none
  rw [h]
  cases Ieee.double.read c <;> exact ⟨rfl, rfl⟩
theorem NanB.sub {b : Nat} (h : NanB b) (c : Nat) : FloatKind.f64.format.sub c b = none := by
  obtain ⟨s, f, h⟩ := h
  show (((Ieee.double.read c).sum (Ieee.double.read b).opposite).map Ieee.double.write) = none
  rw [h]
  cases Ieee.double.read c <;> rfl
theorem run_float_nan {P : Program} (w : World) (op : BinOp) (t : TypeId) (x y : Nat) (ho : op = .sub ∨ op = .quo) (h : floatBits op .f64 x y = none) : ∃ b, NanB b ∧ (binOp op t (.float .f64 x) (.float .f64 y)).run P w = .ok (.float .f64 b) w.drew := by
  refine ⟨_, nan_cut x y (w.tape w.drawn (.nanBits .f64 x y)), ?_⟩
  rcases ho with rfl | rfl
  · unfold floatBits at h; simp only at h
    simp [binOp, Op.floatArith, h, Question.forced]
  · unfold floatBits at h; simp only at h
    simp [binOp, Op.floatArith, h, Question.forced]
theorem share_ok (n d : Int) (r : Nat) (h : floatBits .quo .f64 (floatOfInt .f64 n) (floatOfInt .f64 d) = some r) (w : World) : Calls Try.prog 18 #[.int .i64 n, .int .i64 d] w fun e w' => e = .returned (.float .f64 r) ∧ w = w' := by
  have hq := fun (w : World) => run_float_arith (P := Try.prog) w .quo 25 .f64 _ _ r h
  clear h
  go_enter Try.func18, Try.ntmps18
  go_wp2_with fail
  go_ret
  exact ⟨rfl, rfl⟩
theorem rshare_ok (n d : Int) (r : Nat) (h : floatBits .quo .f64 (floatOfInt .f64 n) (floatOfInt .f64 d) = some r) (w : World) : Calls Try.prog 13 #[.int .i64 n, .int .i64 d] w fun e w' => e = .returned (.float .f64 r) ∧ w = w' := by
  have hq := fun (w : World) => run_float_arith (P := Try.prog) w .quo 25 .f64 _ _ r h
  clear h
  go_enter Try.func13, Try.ntmps13
  go_wp2_with fail
  go_ret
  exact ⟨rfl, rfl⟩
theorem share_nan (n d : Int) (h : floatBits .quo .f64 (floatOfInt .f64 n) (floatOfInt .f64 d) = none) (w : World) : Calls Try.prog 18 #[.int .i64 n, .int .i64 d] w fun e w' => ∃ b, e = .returned (.float .f64 b) ∧ NanB b ∧ w.drew = w' := by
  obtain ⟨b, hb, hq⟩ := run_float_nan (P := Try.prog) w .quo 25 _ _ (.inr rfl) h
  clear h
  go_enter Try.func18, Try.ntmps18
  go_wp2_with fail
  go_ret
  exact ⟨b, rfl, hb, rfl⟩
theorem rshare_nan (n d : Int) (h : floatBits .quo .f64 (floatOfInt .f64 n) (floatOfInt .f64 d) = none) (w : World) : Calls Try.prog 13 #[.int .i64 n, .int .i64 d] w fun e w' => ∃ b, e = .returned (.float .f64 b) ∧ NanB b ∧ w.drew = w' := by
  obtain ⟨b, hb, hq⟩ := run_float_nan (P := Try.prog) w .quo 25 _ _ (.inr rfl) h
  clear h
  go_enter Try.func13, Try.ntmps13
  go_wp2_with fail
  go_ret
  exact ⟨b, rfl, hb, rfl⟩
theorem same_nan (a b : Nat) (ha : NanB a) (hb : NanB b) (w : World) : Calls Try.prog 12 #[.float .f64 a, .float .f64 b] w fun e w' => e = .returned (.bool true) ∧ w = w' := by
  have h1 := (ha.order b).1
  have h2 := (ha.order a).1
  have h3 := (hb.order b).1
  clear ha hb
  go_enter Try.func12, Try.ntmps12
  go_wp2_with fail
  go_ret
  exact ⟨rfl, rfl⟩
theorem same_ok (a : Nat) (h : FloatKind.f64.format.order a a = some .eq) (w : World) : Calls Try.prog 12 #[.float .f64 a, .float .f64 a] w fun e w' => e = .returned (.bool true) ∧ w = w' := by
  go_enter Try.func12, Try.ntmps12
  go_wp2_with fail
  go_ret
  exact ⟨rfl, rfl⟩
/-- One, in bits. -/
def oneF : Nat := 4607182418800017408
/-- How alike, by the distance and the greater length. -/
def likeB (d n : Nat) : Bool :=
  match floatBits .quo .f64 (floatOfInt .f64 d) (floatOfInt .f64 n) with
  | some r => match floatBits .sub .f64 oneF r with
    | some x => FloatKind.f64.format.order x x == some .eq && (FloatKind.f64.format.order x 0 == some .gt || FloatKind.f64.format.order x 0 == some .eq) && (FloatKind.f64.format.order x oneF == some .lt || FloatKind.f64.format.order x oneF == some .eq)
    | none => false
  | none => false
theorem like_all : ∀ n, n < 40 → ∀ d, d ≤ n + 1 → likeB d (n + 1) = true := by
  decide +kernel
theorem like_bits (d n : Nat) (h0 : 0 < n) (hn : n ≤ 40) (hd : d ≤ n) : ∃ r x, floatBits .quo .f64 (floatOfInt .f64 d) (floatOfInt .f64 n) = some r ∧ floatBits .sub .f64 oneF r = some x ∧ FloatKind.f64.format.order x x = some .eq ∧ (FloatKind.f64.format.order x 0 == some .gt || FloatKind.f64.format.order x 0 == some .eq) = true ∧ (FloatKind.f64.format.order x oneF == some .lt || FloatKind.f64.format.order x oneF == some .eq) = true := by
  obtain ⟨n, rfl⟩ : ∃ k, n = k + 1 := ⟨n - 1, by omega⟩
  have h := like_all n (by omega) d hd
  unfold likeB at h
  split at h
  · rename_i r hr
    split at h
    · rename_i x hx
      simp only [Bool.and_eq_true, beq_iff_eq] at h
      exact ⟨r, x, hr, hx, h.1.1, h.1.2, h.2⟩
    · cases h
  · cases h
theorem quo_zero : floatBits .quo .f64 (floatOfInt .f64 0) (floatOfInt .f64 0) = none := by decide +kernel
set_option maxHeartbeats 4000000 in
theorem like_ok (b1 b2 : Nat) (a1 a2 : Option Addr) (c1 c2 : Nat) (l m : List (Int × Int)) (w : World) (h1 : Sv w b1 a1 c1 l) (h2 : Sv w b2 a2 c2 m) (hl : l.length ≤ 40) (hm : m.length ≤ 40) (r x : Nat)
    (hr : floatBits .quo .f64 (floatOfInt .f64 ((lev (vs l) (vs m) : Nat) : Int)) (floatOfInt .f64 ((max l.length m.length : Nat) : Int)) = some r) (hx : floatBits .sub .f64 oneF r = some x) :
   Calls Try.prog 7 #[.slice a1 l.length c1, .slice a2 m.length c2] w fun e w' => e = .returned (.float .f64 x) ∧ Below w.heap.size w w' := by
  have H1 := Lib.hid h1
  have H2 := Lib.hid h2
  have HR := Lib.hid hr
  have hq := fun (w : World) => run_float_arith (P := Try.prog) w .sub 25 .f64 _ _ x hx
  simp only [oneF] at hq
  clear h1 h2 hr hx
  go_enter Try.func7, Try.ntmps7
  go_wp2_with fail
  refine (dist_any b1 b2 a1 a2 c1 c2 l m _ H1.out H2.out (by omega) (by omega)).mono ?_
  rintro e w1 ⟨rfl, hb1⟩
  have HB1 := Lib.hid hb1
  clear hb1
  go_wp2_with fail
  all_goals
    refine (share_ok _ _ r (by have h := HR.out; first | rwa [show max l.length m.length = m.length by omega] at h | rwa [show max l.length m.length = l.length by omega] at h) _).mono ?_
    rintro e w2 ⟨rfl, rfl⟩
    go_wp2_with fail
    go_ret
    exact ⟨rfl, HB1.out⟩
set_option maxHeartbeats 4000000 in
theorem like_nan (b1 b2 : Nat) (a1 a2 : Option Addr) (c1 c2 : Nat) (w : World) (h1 : Sv w b1 a1 c1 []) (h2 : Sv w b2 a2 c2 []) :
   Calls Try.prog 7 #[.slice a1 0 c1, .slice a2 0 c2] w fun e w' => ∃ x, e = .returned (.float .f64 x) ∧ NanB x ∧ Below w.heap.size w w' := by
  have H1 := Lib.hid h1
  have H2 := Lib.hid h2
  clear h1 h2
  go_enter Try.func7, Try.ntmps7
  go_wp2_with fail
  refine (dist_any b1 b2 a1 a2 c1 c2 [] [] _ H1.out H2.out (by simp) (by simp)).mono ?_
  rintro e w1 ⟨rfl, hb1⟩
  have HB1 := Lib.hid hb1
  clear hb1
  rw [show ((lev (vs []) (vs []) : Nat) : Int) = 0 by rw [show vs [] = [] from rfl, lev_nil]; rfl]
  go_wp2_with fail
  refine (share_nan 0 0 quo_zero _).mono ?_
  rintro e w2 ⟨b, rfl, hnb, rfl⟩
  have HNB := Lib.hid hnb
  obtain ⟨x, hx, hq⟩ := run_float_nan (P := Try.prog) (w1.drew) .sub 25 oneF b (.inl rfl) (hnb.sub oneF)
  have HX := Lib.hid hx
  simp only [oneF] at hq
  clear hnb hx
  go_wp2_with fail
  go_ret
  exact ⟨x, rfl, HX.out, HB1.out.drew.drew⟩
end Go.Proofs.Ytoblaooomphdoaa
