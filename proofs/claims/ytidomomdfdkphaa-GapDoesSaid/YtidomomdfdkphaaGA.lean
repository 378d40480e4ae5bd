/- The references Without and Same of layer 16. -/
import Derived.Test.YtidomomdfdkphaaG9
namespace Go.Proofs.Ytidomomdfdkphaa
open Go.RowKit
theorem below_drewN {B : Nat} {a w : World} (h : Below B a w) (n : Nat) : Below B a (w.drewN n) := ⟨h.os, h.tape, h.output, h.size, h.block⟩
def RWoPost (S1 S3 : List (Int × Int)) (w : World) (e : Ending) (w' : World) : Prop :=
  ∃ ao cap b, e = .returned (.agg #[.slice ao (S1 ++ S3).length cap, .int .i64 S1.length]) ∧ w.heap.size ≤ b ∧ Sv w' b ao cap (S1 ++ S3) ∧ Below w.heap.size w w'
set_option maxHeartbeats 4000000 in
set_option maxRecDepth 100000 in
theorem rwithout_any (b1 c1 : Nat) (a1 : Option Addr) (S1 S2 S3 : List (Int × Int)) (at' : Int) (w : World) (h1 : Sv w b1 a1 c1 (S1 ++ (S2 ++ S3))) (hl : S1.length + S2.length + S3.length ≤ 1000000) :
   Calls Try.prog 24 #[.agg #[.slice a1 (S1.length + (S2.length + S3.length)) c1, .int .i64 at'], .int .i64 S1.length, .int .i64 (S1.length + S2.length : Nat)] w (RWoPost S1 S3 w) := by
  have H1 := Lib.hid h1
  have hcap := h1.1
  simp only [List.length_append] at hcap
  clear h1
  go_enter Try.func24, Try.ntmps24
  have hcd1 : (S1.length : Int) ≤ c1 := by omega
  have hcd2 : (0 : Int) ≤ (S1.length : Int) + S2.length := by omega
  have hcd3 : (S1.length : Int) + S2.length ≤ (S1.length : Int) + (S2.length + S3.length) := by omega
  have htn : ((S1.length : Int) + S2.length).toNat = S1.length + S2.length := by omega
  have hln : S1.length + (S2.length + S3.length) - (S1.length + S2.length) = S3.length := by omega
  obtain ⟨D, hD⟩ : ∃ D, (if c1 = S1.length + S2.length then a1 else a1.map fun x => x.add ((S1.length + S2.length) * 2)) = D := ⟨_, rfl⟩
  have HS1 : Hid (Sv w b1 a1 c1 S1) := ⟨by omega, H1.out.2.1, H1.out.2.2.1, by have := H1.out.2.2.2.take S1.length; rwa [List.take_left] at this⟩
  have HS3 : Hid (Sv w b1 D (c1 - (S1.length + S2.length)) S3) := by
    refine ⟨by omega, Nat.le_trans (Nat.sub_le _ _) H1.out.2.1, fun h => ?_, ?_⟩
    · rw [← hD] at h
      have : a1 = none := by
        split at h
        · exact h
        · simpa using h
      have := H1.out.2.2.1 this
      omega
    · have h := H1.out.2.2.2.from (S1.length + S2.length) (by simpa using hcap)
      rw [← List.append_assoc, show S1.length + S2.length = (S1 ++ S2).length by simp, List.drop_left, List.length_append, hD] at h
      exact h
  go_wp2_with fail
  go_region_with ((go_at_call 29; go_loud (refine (join_any b1 b1 c1 (c1 - (S1.length + S2.length)) a1 D S1 S3 _ (HS1.out.below ((((Below.refl _ _).alloc (Nat.le_refl _) _).alloc (by simp) _).drew)) (HS3.out.below ((((Below.refl _ _).alloc (Nat.le_refl _) _).alloc (by simp) _).drew)) (by omega)).mono ?_; rintro e w3 ⟨v3, rfl, ho3, hb3⟩; obtain ⟨ao4, cap4, b4, rfl, hb4, hsv4⟩ := own_sv (l := S1 ++ S3) ho3 (by simp); have HV4 := Lib.hid hsv4; have HB3 : Hid (Below w.heap.size w w3) := Below.trans ((((Below.refl _ _).alloc (Nat.le_refl _) _).alloc (by simp) _).drew) (hb3.mono (by simp; omega)); have HR := Lib.hid ((Blk.new (w.alloc (.cells #[.slice a1 (S1.length + (S2.length + S3.length)) c1, .int .i64 at'] 40)) #[.slice none 0 0, .int .i64 0] 40).drew.below hb3 (by simp <;> omega)); have y2 := HR.out.cell 0; have y3 := HR.out.cell 1; have y4 := HR.out.free; simp only [World.size_alloc] at y4; have y5 := HR.out.lt; simp at y2 y3; have HBB4 := Lib.hid hb4; clear hsv4 ho3 hb3 hb4 hD)))
  all_goals
    go_wp2_with fail
    refine bodyPost_ret (v := .agg #[.slice ao4 (S1.length + S3.length) cap4, .int .i64 S1.length]) (by simp only [results, Try.results24]; go_simp) rfl ⟨ao4, cap4, b4, by simp, ?_, ?_, (HB3.out.setCell (by simp) _).setCell (by simp) _⟩
    · have hb4 := HBB4.out; simp at hb4; omega
    · exact HV4.out.keep (S := (· = w.heap.size + 1)) (Keep.setCell (S := (· = w.heap.size + 1)) (Keep.setCell (S := (· = w.heap.size + 1)) (Keep.refl _ _) _ (.inl rfl)) _ (.inl rfl)) (by show ¬ b4 = _; have hb4 := HBB4.out; simp at hb4; omega)
set_option maxHeartbeats 1000000 in
theorem rsame_any (b1 b2 : Nat) (a1 a2 : Option Addr) (c1 c2 : Nat) (l : List (Int × Int)) (k : Nat) (w : World) (h1 : Sl w b1 a1 l) (h2 : Sl w b2 a2 l) (hl : l.length ≤ 1000000) :
   Calls Try.prog 25 #[.agg #[.slice a1 l.length c1, .int .i64 k], .agg #[.slice a2 l.length c2, .int .i64 k]] w fun e w' => e = .returned (.bool true) ∧ Below w.heap.size w w' := by
  have H1 := Lib.hid h1
  have H2 := Lib.hid h2
  clear h1 h2
  go_enter Try.func25, Try.ntmps25
  go_wp2_with fail
  refine (same_any b1 b2 a1 a2 c1 c2 l _ (H1.out.below (by go_grown)) (H2.out.below (by go_grown)) hl).mono ?_
  rintro e w' ⟨rfl, n, rfl⟩
  go_wp2_with fail
  go_ret
  exact ⟨rfl, below_drewN (by go_grown) n⟩
end Go.Proofs.Ytidomomdfdkphaa
