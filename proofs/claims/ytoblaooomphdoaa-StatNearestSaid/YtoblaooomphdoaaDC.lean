/- What must come at any rate: awake. -/
import Derived.Test.YtoblaooomphdoaaDB
namespace Go.Proofs.Ytoblaooomphdoaa
open Go.RowKit
/-- The least number of changes, by fuel. -/
def levN : Nat → List Int → List Int → Nat
  | 0, _, _ => 0
  | _ + 1, [], b => b.length
  | _ + 1, _ :: a, [] => a.length + 1
  | n + 1, x :: a, y :: b => if x = y then levN n a b else 1 + min (levN n a b) (min (levN n a (y :: b)) (levN n (x :: a) b))
theorem levN_eq : ∀ (n : Nat) (a b : List Int), a.length + b.length < n → levN n a b = lev a b := by
  intro n
  induction n with
  | zero => intro a b h; omega
  | succ n ih =>
    intro a b h
    cases a with
    | nil => rw [lev_nil, levN]
    | cons x a =>
      cases b with
      | nil => rw [lev_nil', levN]; rfl
      | cons y b =>
        simp only [List.length_cons] at h
        rw [levN]
        by_cases e : x = y
        · rw [if_pos e]; subst e; rw [lev_same, ih _ _ (by omega)]
        · rw [if_neg e, lev_ne _ _ e, ih _ _ (by omega), ih _ _ (by simp only [List.length_cons]; omega), ih _ _ (by simp only [List.length_cons]; omega)]
def kitten : List Nat := [107, 105, 116, 116, 101, 110]
def sitting : List Nat := [115, 105, 116, 116, 105, 110, 103]
def sgn (label : Int) (L : List Nat) : List (Int × Int) := L.map fun (v : Nat) => ((v : Int), label)
theorem lev_ks : lev (vs (sgn 0 kitten)) (vs (sgn 2 sitting)) = 3 := by
  rw [← levN_eq 20 _ _ (by decide)]; decide +kernel
theorem lev_kk : lev (vs (sgn 0 kitten)) (vs (sgn 0 kitten)) = 0 := (lev_zero _ _).2 rfl
theorem of_is (label : Int) (s : ByteArray) (L : List Nat) (n : Nat) (hL : valsL s.data.toList = L) (hn : L.length = n) (hs : s.size ≤ 1000000) (hA : ∀ x ∈ s.data.toList, x.toNat < 128) (w : World) : Calls Try.prog 15 #[.int .i64 label, .string s] w fun e w' =>
    ∃ b, e = .returned (.slice (some ⟨b, 0, none⟩) n n) ∧ w.heap.size ≤ b ∧ Sv w' b (some ⟨b, 0, none⟩) n (sgn label L) ∧ w'.ownsRow w.heap.size 43 2 (.slice (some ⟨b, 0, none⟩) n n) n (sg (sgn label L)) ∧ Below w.heap.size w w' := by
  subst hn
  exact of_any label s L hL hs hA w
def LL (x y : List (Int × Int)) : Nat → List (Int × Int)
  | 0 => x
  | _ => y
theorem like_one : floatBits .quo .f64 (floatOfInt .f64 0) (floatOfInt .f64 6) = some 0 := by decide +kernel
theorem like_two : floatBits .sub .f64 oneF 0 = some oneF := by decide +kernel
theorem inf_quo : floatBits .quo .f64 (floatOfInt .f64 1) (floatOfInt .f64 0) = some 9218868437227405312 := by decide +kernel
set_option maxHeartbeats 16000000 in
theorem awake_any (w : World) : Calls Try.prog 5 #[] w fun e w' => e = .returned (.bool true) ∧ Below w.heap.size w w' := by
  have hsf := store_float
  go_enter Try.func5, Try.ntmps5
  go_wp2_with fail
  refine (of_is 0 ⟨#[107, 105, 116, 116, 101, 110]⟩ kitten 6 (by decide +kernel) rfl (by decide) (by decide) _).mono ?_
  rintro e w1 ⟨ba, rfl, hba, hsa, -, hb1⟩
  have HA1 := Lib.hid hsa
  have HB1 := Lib.hid hb1
  clear hba hsa hb1
  go_wp2_with fail
  refine (of_is 2 ⟨#[115, 105, 116, 116, 105, 110, 103]⟩ sitting 7 (by decide +kernel) rfl (by decide) (by decide) _).mono ?_
  rintro e w2 ⟨bb, rfl, hbb, hsb, -, hb2⟩
  have HA2 := Lib.hid (HA1.out.below hb2)
  have HS2 := Lib.hid hsb
  have HB2 : Hid (Below w.heap.size w w2) := HB1.out.trans (hb2.mono HB1.out.size)
  clear hbb hsb hb2
  go_wp2_with fail
  refine (of_is 0 ⟨#[97]⟩ [97] 1 (by decide +kernel) rfl (by decide) (by decide) _).mono ?_
  rintro e w3 ⟨bc, rfl, hbc, -, hoc, hb3⟩
  have HW3 := Lib.hid hb3
  have HO3 := Lib.hid hoc
  have hs23 := hb3.size
  have hbc3 := (hoc.lt bc rfl).2
  clear hoc hb3
  go_wp2_with fail
  refine (of_is 2 ⟨#[98, 99, 100]⟩ [98, 99, 100] 3 (by decide +kernel) rfl (by decide) (by decide) _).mono ?_
  rintro e w4 ⟨bd, rfl, hbd, hsd, -, hb4⟩
  have HW4 : Hid (Below w2.heap.size w2 w4) := HW3.out.trans (hb4.mono hs23)
  have HO4 := Lib.hid (own_below HO3.out hb4)
  have HD4 := Lib.hid hsd
  have hs34 := hb4.size
  have hs2 := HB2.out.size
  clear hsd hb4
  go_wp2_with (at_builtin; go_must (refine wpList_app rfl (.tmp 7) (.tmp 8) 22 rfl (base := w2.heap.size) (n := 1) (m := 3) (xs := sg (sgn 0 [97])) (ys := sg (sgn 2 [98, 99, 100])) Try.underlying22 info43 rfl (by decide) rfl rfl HO4.out rfl ?src (sg_one _) (by simp) (by decide) (by decide) ?hb ?nx))
  case src => exact fun _ => ⟨_, rfl, fun j u hj => by rw [addr_add]; obtain ⟨_, off, e1, e2⟩ := HD4.out.2.2.2 (by decide); cases e1; exact e2 j u hj⟩
  case hb => omega
  case nx =>
    intro v5 w5 ho5 hg5 hn5
    have HW5 : Hid (Below w2.heap.size w2 w5) := HW4.out.grown hg5.out (by omega) (fun q hq => (HO4.out.lt q hq).1)
    have ho6 : w5.ownsRow w2.heap.size 43 2 v5 4 (sg sig4) := ho5.out
    obtain ⟨ao, cap, b5, rfl, hb5, hsv5⟩ := own_sv ho6 rfl
    have HV5 := Lib.hid hsv5
    have hs45 := hg5.out.size
    clear ho5 hg5 hn5 ho6 hsv5 hb5
    rw [show sig4.length = 4 from rfl]
    go_wp2_with fail
    refine (shares_any b5 cap ao _ HV5.out).mono ?_
    rintro e w6 ⟨rfl, hb6⟩
    have HW6 : Hid (Below w2.heap.size w2 w6) := HW5.out.trans (hb6.mono HW5.out.size)
    have hs56 := hb6.size
    clear hb6
    go_wp2_with fail
    obtain ⟨w7, hw7⟩ : ∃ w7, w7 = (w6.alloc (.cells #[.float .f64 4598175219545276416, .float .f64 0, .float .f64 4604930618986332160, .float .f64 0, .float .f64 0, .float .f64 0] 38)).alloc (.cells #[.slice (some ⟨bb, 0, none⟩) 7 7, .slice (some ⟨ba, 0, none⟩) 6 6] 22) := ⟨_, rfl⟩
    rw [← hw7]
    have hs26 := HW6.out.size
    have HW7 : Hid (Below w2.heap.size w2 w7) := by show Below _ _ _; rw [hw7]; exact (HW6.out.alloc hs26 _).alloc (by simp; omega) _
    have HF7 : Hid (Blk w7 w6.heap.size #[.float .f64 4598175219545276416, .float .f64 0, .float .f64 4604930618986332160, .float .f64 0, .float .f64 0, .float .f64 0] 38) := by show Blk _ _ _ _; rw [hw7]; exact (Blk.new w6 _ _).alloc _
    have hb7 : Blk w7 (w6.heap.size + 1) #[.slice (some ⟨bb, 0, none⟩) 7 7, .slice (some ⟨ba, 0, none⟩) 6 6] 22 := by rw [hw7]; exact new_at _ _ _ (by simp)
    have HL7 : Hid (Lists w7 (some ⟨w6.heap.size + 1, 0, none⟩) 2 (LL (sgn 2 sitting) (sgn 0 kitten))) := fun _ => ⟨_, _, rfl, hb7.lt, fun i hi => by
      rcases (by omega : i = 0 ∨ i = 1) with rfl | rfl
      · exact ⟨_, _, _, hb7.cell 0, HS2.out.below HW7.out, by decide⟩
      · exact ⟨_, _, _, hb7.cell 1, HA2.out.below HW7.out, by decide⟩⟩
    clear hw7 hb7
    have hfl := HF7.out.lt
    generalize w6.heap.size = fb at *
    refine (nearest_any ba (some ⟨ba, 0, none⟩) _ 6 2 2 (sgn 0 kitten) (LL (sgn 2 sitting) (sgn 0 kitten)) _ (HA2.out.below HW7.out) (by decide) HL7.out (by decide)).mono ?_
    rintro e w8 ⟨p, rfl, hp, hb8⟩
    have hp1 : p = 1 := by
      rcases hp with ⟨h, _⟩ | ⟨q, h1, h2, h3, _⟩
      · omega
      · rcases (by omega : q = 0 ∨ q = 1) with rfl | rfl
        · have this : lev (vs (sgn 0 kitten)) (vs (LL (sgn 2 sitting) (sgn 0 kitten) 0)) ≤ lev (vs (sgn 0 kitten)) (vs (LL (sgn 2 sitting) (sgn 0 kitten) 1)) := h3 1 (by omega)
          have e1 : lev (vs (sgn 0 kitten)) (vs (LL (sgn 2 sitting) (sgn 0 kitten) 0)) = 3 := lev_ks
          have e2 : lev (vs (sgn 0 kitten)) (vs (LL (sgn 2 sitting) (sgn 0 kitten) 1)) = 0 := lev_kk
          rw [e1, e2] at this
          omega
        · exact h2
    subst hp1
    have HW8 : Hid (Below w2.heap.size w2 w8) := HW7.out.trans (hb8.mono HW7.out.size)
    have HF8 := Lib.hid (HF7.out.below hb8 hfl)
    have hs78 := hb8.size
    clear hp hb8 HF7 HL7 HW7
    go_wp2_with fail
    refine (dist_any ba bb (some ⟨ba, 0, none⟩) (some ⟨bb, 0, none⟩) 6 7 (sgn 0 kitten) (sgn 2 sitting) _ (HA2.out.below HW8.out) (HS2.out.below HW8.out) (by decide) (by decide)).mono ?_
    rintro e w9 ⟨rfl, hb9⟩
    rw [lev_ks]
    have HW9 : Hid (Below w2.heap.size w2 w9) := HW8.out.trans (hb9.mono HW8.out.size)
    have HF9 := Lib.hid (HF8.out.below hb9 (by omega))
    have hs89 := hb9.size
    clear hb9 HF8 HW8
    go_wp2_with fail
    refine (like_ok ba ba (some ⟨ba, 0, none⟩) (some ⟨ba, 0, none⟩) 6 6 (sgn 0 kitten) (sgn 0 kitten) _ (HA2.out.below HW9.out) (HA2.out.below HW9.out) (by decide) (by decide) 0 oneF (by rw [lev_kk]; exact like_one) like_two).mono ?_
    rintro e w10 ⟨rfl, hb10⟩
    have HW10 : Hid (Below w2.heap.size w2 w10) := HW9.out.trans (hb10.mono HW9.out.size)
    have HF10 := Lib.hid (HF9.out.below hb10 (by omega))
    have hs910 := hb10.size
    clear hb10 HF9 HW9
    have o1 : FloatKind.f64.format.order 4607182418800017408 4607182418800017408 = some .eq := by decide +kernel
    have o2 : FloatKind.f64.format.order 4598175219545276416 4598175219545276416 = some .eq := by decide +kernel
    have o3 : FloatKind.f64.format.order 4604930618986332160 4604930618986332160 = some .eq := by decide +kernel
    have o4 : FloatKind.f64.format.order 4609434218613702656 4609434218613702656 = some .eq := by decide +kernel
    have o5 : FloatKind.f64.format.order 9218868437227405312 9214871658872686752 = some .gt := by decide +kernel
    have f0 := HF10.out.cell 0
    have f2 := HF10.out.cell 2
    simp at f0 f2
    rw [show oneF = 4607182418800017408 from rfl]
    go_wp2_with fail
    refine (mean_any w10.heap.size _ ((new_at w10 _ _ rfl).cell 0) ((new_at w10 _ _ rfl).cell 1)).mono ?_
    rintro e w11 ⟨rfl, rfl⟩
    go_wp2_with fail
    refine (share_ok 1 0 _ inf_quo _).mono ?_
    rintro e w12 ⟨rfl, rfl⟩
    go_wp2_with fail
    go_ret
    exact ⟨rfl, (HB2.out.trans (HW10.out.mono hs2)).alloc (by omega) _⟩
end Go.Proofs.Ytoblaooomphdoaa
