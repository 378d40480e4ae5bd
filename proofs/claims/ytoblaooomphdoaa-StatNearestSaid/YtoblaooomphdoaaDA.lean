/- The program's Mean of 1 and 2; its Shares of four signs, one of label 0 and three of label 2. -/
import Derived.Test.YtoblaooomphdoaaD9
namespace Go.Proofs.Ytoblaooomphdoaa
open Go.RowKit
def twoF : Nat := 4611686018427387904
def threeF : Nat := 4613937818241073152
def FV : Nat → Nat
  | 0 => oneF
  | _ => twoF
def SV : Nat → Nat
  | 0 => 0
  | 1 => oneF
  | _ => threeF
theorem sv_step (i : Nat) (h : i < 2) : floatBits .add .f64 (SV i) (FV i) = some (SV (i + 1)) := by
  rcases (by omega : i = 0 ∨ i = 1) with rfl | rfl <;> decide +kernel
theorem fv_eq (i : Nat) (h : i < 2) : FloatKind.f64.format.order (FV i) (FV i) = some .eq := by
  rcases (by omega : i = 0 ∨ i = 1) with rfl | rfl <;> decide +kernel
theorem mean_quo : floatBits .quo .f64 threeF (floatOfInt .f64 2) = some 4609434218613702656 := by decide +kernel
theorem isnan_no (x : Nat) (h : FloatKind.f64.format.order x x = some .eq) (w : World) : Calls Try.prog 22 #[.float .f64 x] w fun e w' => e = .returned (.bool false) ∧ w = w' := by
  go_enter Try.func22, Try.ntmps22
  go_wp2_with fail
  go_ret
  exact ⟨rfl, rfl⟩
set_option maxHeartbeats 4000000 in
theorem mean_any (b : Nat) (w : World) (h0 : w.cell? ⟨b, 0, none⟩ = some (.float .f64 oneF)) (h1 : w.cell? ⟨b, 1, none⟩ = some (.float .f64 twoF)) : Calls Try.prog 17 #[.slice (some ⟨b, 0, none⟩) 2 2] w fun e w' => e = .returned (.float .f64 4609434218613702656) ∧ w = w' := by
  have hc : ∀ i, i < 2 → w.cell? ⟨b, i, none⟩ = some (.float .f64 (FV i)) := fun i hi => by
    rcases (by omega : i = 0 ∨ i = 1) with rfl | rfl
    · exact h0
    · exact h1
  have HC := Lib.hid hc
  clear h0 h1 hc
  have hq := fun (w : World) => run_float_arith (P := Try.prog) w .quo 25 .f64 _ _ _ mean_quo
  go_enter Try.func17, Try.ntmps17
  go_wp2_with fail
  go_loop [3, 4, 9] (fun s n p => ∃ i : Nat, i ≤ 2 ∧ p = .int .i64 i ∧ n = .int .i64 i ∧ s = .float .f64 (SV i)) (fun _ _ p => 2 - (intOf p).toNat)
  case atStart => exact ⟨0, by omega, rfl, rfl, rfl⟩
  case round =>
    obtain ⟨i, hi, rfl, rfl, rfl⟩ := hrel
    by_cases hlt : i < 2
    · have c0 := HC.out i hlt
      have ha := fun (w : World) => run_float_arith (P := Try.prog) w .add 25 .f64 _ _ _ (sv_step i hlt)
      have HO := Lib.hid (fv_eq i hlt)
      obtain ⟨f, hf⟩ : ∃ f, FV i = f := ⟨_, rfl⟩
      obtain ⟨s1, hs1⟩ : ∃ s, SV (i + 1) = s := ⟨_, rfl⟩
      obtain ⟨s0, hs0⟩ : ∃ s, SV i = s := ⟨_, rfl⟩
      rw [hf] at c0 ha HO
      rw [hs1, hs0] at ha
      rw [hs0]
      have HS1 := Lib.hid hs1
      clear hf hs1 hs0
      have hlt' : (i : Int) < 2 := by omega
      go_wp2_with fail
      refine (isnan_no f HO.out _).mono ?_
      rintro e w' ⟨rfl, rfl⟩
      go_wp2_with fail
      go_round
      case rel => exact ⟨i + 1, by omega, by go_num, by go_num, by rw [HS1.out]⟩
      case measure => simp [intOf]; omega
    · have he : i = 2 := by omega
      subst he
      have e3 : SV 2 = threeF := rfl
      rw [e3]
      go_wp2_with fail
      go_ret
      exact ⟨rfl, rfl⟩
end Go.Proofs.Ytoblaooomphdoaa
