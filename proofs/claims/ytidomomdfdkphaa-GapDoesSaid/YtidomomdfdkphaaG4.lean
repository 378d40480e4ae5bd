/- Signs that are read: sign.Check, and the references All and Same of layer 4. -/
import Derived.Test.YtidomomdfdkphaaG3
namespace Go.Proofs.Ytidomomdfdkphaa
open Go.RowKit
def rightB (v : Int) : Bool := if 0 ≤ v ∧ v ≤ 1114111 then decide (v < 55296) || decide (57343 < v) else decide (1114240 ≤ v) && decide (v ≤ 1114367)
set_option maxHeartbeats 400000 in
theorem right_any (v : Int) (w : World) : Calls Try.prog 32 #[.int .i64 v] w fun e w' => e = .returned (.bool (rightB v)) ∧ w = w' := by
  go_enter Try.func32, Try.ntmps32
  go_wp2
  all_goals
    (try simp only [Exit.inBlock, Exit.then])
    refine bodyPost_ret (results_tmp rfl _ _ _) rfl ⟨?_, rfl⟩
    refine congrArg (fun b => Ending.returned (.bool b)) ?_
    unfold rightB
    split <;> simp_all <;> omega
set_option maxHeartbeats 400000 in
theorem right2_any (v : Int) (w : World) : Calls Try.prog 28 #[.int .i64 v] w fun e w' => e = .returned (.bool (rightB v)) ∧ w = w' := by
  go_enter Try.func28, Try.ntmps28
  go_wp2
  all_goals
    (try simp only [Exit.inBlock, Exit.then])
    refine bodyPost_ret (results_tmp rfl _ _ _) rfl ⟨?_, rfl⟩
    refine congrArg (fun b => Ending.returned (.bool b)) ?_
    unfold rightB
    split <;> simp_all <;> omega
/-- May a sign be? -/
def rs (x : Int × Int) : Bool := rightB x.1 && decide (0 ≤ x.2) && decide (x.2 ≤ 5)
set_option maxHeartbeats 400000 in
theorem sright_any (x : Int × Int) (w : World) : Calls Try.prog 30 #[.agg #[.int .i64 x.1, .int .i64 x.2]] w fun e w' => e = .returned (.bool (rs x)) ∧ Below w.heap.size w w' := by
  go_enter Try.func30, Try.ntmps30
  go_wp2_with (go_at_call 32; refine (right_any _ _).mono ?_; rintro e w' ⟨rfl, rfl⟩)
  all_goals
    (try simp only [Exit.inBlock, Exit.then])
    refine bodyPost_ret (results_tmp rfl _ _ _) rfl ⟨?_, by go_grown⟩
    refine congrArg (fun b => Ending.returned (.bool b)) ?_
    simp_all [rs]
    try (intros; omega)
set_option maxHeartbeats 400000 in
theorem rright_any (x : Int × Int) (w : World) : Calls Try.prog 19 #[.agg #[.int .i64 x.1, .int .i64 x.2]] w fun e w' => e = .returned (.bool (rs x)) ∧ Below w.heap.size w w' := by
  go_enter Try.func19, Try.ntmps19
  go_wp2_with (go_at_call 28; refine (right2_any _ _).mono ?_; rintro e w' ⟨rfl, rfl⟩)
  all_goals
    (try simp only [Exit.inBlock, Exit.then])
    refine bodyPost_ret (results_tmp rfl _ _ _) rfl ⟨?_, by go_grown⟩
    refine congrArg (fun b => Ending.returned (.bool b)) ?_
    simp_all [rs]
    try (intros; omega)
/-- A slice's address at which signs lie, in block b. -/
def Sl (w : World) (b : Nat) (ao : Option Addr) (l : List (Int × Int)) : Prop := 0 < l.length → b < w.heap.size ∧ ∃ off, ao = some ⟨b, off, none⟩ ∧ ∀ j u, (sg l)[j]? = some u → w.cell? ⟨b, off + j, none⟩ = some u
theorem Sl.keep {S : Nat → Prop} {w w' : World} {b : Nat} {ao : Option Addr} {l : List (Int × Int)} (h : Sl w b ao l) (hk : Keep S w w') (hb : ¬ S b) : Sl w' b ao l := by
  intro h0
  obtain ⟨h1, off, h2, h3⟩ := h h0
  exact ⟨Nat.lt_of_lt_of_le h1 hk.size, off, h2, fun j u hj => (hk.cell (p := ⟨b, off + j, none⟩) h1 hb).trans (h3 j u hj)⟩
theorem Sl.below {w w' : World} {b : Nat} {ao : Option Addr} {l : List (Int × Int)} (h : Sl w b ao l) (hk : Below w.heap.size w w') : Sl w' b ao l := h.keep (S := fun _ => False) (Keep.of_below hk |>.mono (fun _ _ h => h)) (fun h => h)
theorem Sl.at {w : World} {b : Nat} {ao : Option Addr} {l : List (Int × Int)} (h : Sl w b ao l) (h0 : 0 < l.length) : ∃ off, b < w.heap.size ∧ ao = some ⟨b, off, none⟩ ∧ ∀ (k : Nat) (hk : k < l.length), w.cell? ⟨b, off + k * 2, none⟩ = some (.int .i64 l[k].1) ∧ w.cell? ⟨b, off + k * 2 + 1, none⟩ = some (.int .i64 l[k].2) := by
  obtain ⟨h1, off, h2, h3⟩ := h h0
  refine ⟨off, h1, h2, fun k hk => ?_⟩
  obtain ⟨a, b⟩ := sg_at l k hk
  exact ⟨h3 _ _ a, h3 _ _ b⟩
theorem Sl.nil (w : World) (b : Nat) (ao : Option Addr) : Sl w b ao [] := fun h => by simp at h
/-- What sign.Check answers. -/
def chk (l : List (Int × Int)) : Int := if l.all rs = true then 0 else 2
theorem all_take_succ {α : Type} (p : α → Bool) (l : List α) (k : Nat) (h : k < l.length) : (l.take (k + 1)).all p = ((l.take k).all p && p l[k]) := by
  rw [List.take_succ_eq_append_getElem h, List.all_append]; simp
theorem all_false {α : Type} {p : α → Bool} {l : List α} {k : Nat} (h : k < l.length) (hp : p l[k] = false) : l.all p = false := by
  rw [List.all_eq_false]; exact ⟨l[k], List.getElem_mem h, by simp [hp]⟩
set_option maxHeartbeats 1000000 in
theorem check_any (b : Nat) (ao : Option Addr) (cap : Nat) (l : List (Int × Int)) (w : World) (h : Sl w b ao l) (hl : l.length ≤ 1000000) :
   Calls Try.prog 26 #[.slice ao l.length cap] w fun e w' => e = .returned (.int .i64 (chk l)) ∧ Below w.heap.size w w' := by
  have HS := Lib.hid h
  clear h
  go_enter Try.func26, Try.ntmps26
  go_wp2
  go_loopw [7] (fun i wr => ∃ k : Nat, k ≤ l.length ∧ i = .int .i64 k ∧ Hid ((l.take k).all rs = true) ∧ Hid (Below w.heap.size w wr)) (fun i _ => l.length - (intOf i).toNat)
  case atStart => exact ⟨0, Nat.zero_le _, rfl, by show _ = _; simp, Below.refl _ _⟩
  case round =>
    obtain ⟨k, hk, rfl, hall, hbel⟩ := hrel
    by_cases hlt : k < l.length
    · obtain ⟨off, hb, rfl, hc⟩ := HS.out.at (by omega)
      obtain ⟨c0, c1⟩ := hc k hlt
      have c0 := (hbel.out.cell (p := ⟨b, off + k * 2, none⟩) hb).trans c0
      have c1 := (hbel.out.cell (p := ⟨b, off + k * 2 + 1, none⟩) hb).trans c1
      clear hc
      have hbr : b < wr.heap.size := Nat.lt_of_lt_of_le hb hbel.out.size
      go_wp2_with fail
      refine (sright_any l[k] _).mono ?_
      rintro e w2 ⟨rfl, hb2⟩
      have hb3 : Hid (Below w.heap.size w w2) := (hbel.out.alloc hbel.out.size _).trans (hb2.mono (by simp; have := hbel.out.size; omega))
      have HA := Lib.hid (all_take_succ rs l k hlt)
      clear hb2 c0 c1
      cases hr : rs l[k]
      · have HF := Lib.hid (all_false hlt hr)
        go_wp2_with fail
        go_ret
        exact ⟨by simp [chk, HF.out], hb3.out⟩
      · have HR := Lib.hid hr
        go_wp2_with fail
        go_roundw
        case rel => exact ⟨k + 1, by omega, by go_num, by show _ = _; rw [HA.out, hall.out, HR.out]; rfl, hb3⟩
        case measure => simp [intOf]; omega
    · have hke : k = l.length := by omega
      have HF : Hid (l.all rs = true) := by
        have := hall.out
        rw [hke, List.take_of_length_le (Nat.le_refl _)] at this
        exact this
      clear hke
      go_wp2_with fail
      go_ret
      exact ⟨by simp [chk, HF.out], hbel.out⟩
set_option maxHeartbeats 1000000 in
theorem all_any (b : Nat) (ao : Option Addr) (cap : Nat) (l : List (Int × Int)) (w : World) (h : Sl w b ao l) (hl : l.length ≤ 1000000) :
   Calls Try.prog 6 #[.slice ao l.length cap] w fun e w' => e = .returned (.bool (l.all rs)) ∧ Below w.heap.size w w' := by
  have HS := Lib.hid h
  clear h
  go_enter Try.func6, Try.ntmps6
  go_wp2
  go_loopw [3] (fun i wr => ∃ k : Nat, k ≤ l.length ∧ i = .int .i64 k ∧ Hid ((l.take k).all rs = true) ∧ Hid (Below w.heap.size w wr)) (fun i _ => l.length - (intOf i).toNat)
  case atStart => exact ⟨0, Nat.zero_le _, rfl, by show _ = _; simp, Below.refl _ _⟩
  case round =>
    obtain ⟨k, hk, rfl, hall, hbel⟩ := hrel
    by_cases hlt : k < l.length
    · obtain ⟨off, hb, rfl, hc⟩ := HS.out.at (by omega)
      obtain ⟨c0, c1⟩ := hc k hlt
      have c0 := (hbel.out.cell (p := ⟨b, off + k * 2, none⟩) hb).trans c0
      have c1 := (hbel.out.cell (p := ⟨b, off + k * 2 + 1, none⟩) hb).trans c1
      clear hc
      have hbr : b < wr.heap.size := Nat.lt_of_lt_of_le hb hbel.out.size
      go_wp2_with fail
      refine (rright_any l[k] _).mono ?_
      rintro e w2 ⟨rfl, hb2⟩
      have hb3 : Hid (Below w.heap.size w w2) := hbel.out.trans (hb2.mono (by have := hbel.out.size; omega))
      have HA := Lib.hid (all_take_succ rs l k hlt)
      clear hb2 c0 c1
      cases hr : rs l[k]
      · have HF := Lib.hid (all_false hlt hr)
        go_wp2_with fail
        go_ret
        exact ⟨by simp [HF.out], hb3.out⟩
      · have HR := Lib.hid hr
        go_wp2_with fail
        go_roundw
        case rel => exact ⟨k + 1, by omega, by go_num, by show _ = _; rw [HA.out, hall.out, HR.out]; rfl, hb3⟩
        case measure => simp [intOf]; omega
    · have hke : k = l.length := by omega
      have HF : Hid (l.all rs = true) := by
        have := hall.out
        rw [hke, List.take_of_length_le (Nat.le_refl _)] at this
        exact this
      clear hke
      go_wp2_with fail
      go_ret
      exact ⟨by simp [HF.out], hbel.out⟩
set_option maxHeartbeats 1000000 in
theorem same_any (b1 b2 : Nat) (a1 a2 : Option Addr) (cap1 cap2 : Nat) (l : List (Int × Int)) (w : World) (h1 : Sl w b1 a1 l) (h2 : Sl w b2 a2 l) (hl : l.length ≤ 1000000) :
   Calls Try.prog 18 #[.slice a1 l.length cap1, .slice a2 l.length cap2] w fun e w' => e = .returned (.bool true) ∧ ∃ n, w' = w.drewN n := by
  have HS1 := Lib.hid h1
  have HS2 := Lib.hid h2
  clear h1 h2
  go_enter Try.func18, Try.ntmps18
  go_wp2
  go_loopw [5] (fun i wr => ∃ k : Nat, k ≤ l.length ∧ i = .int .i64 k ∧ ∃ n, wr = w.drewN n) (fun i _ => l.length - (intOf i).toNat)
  case atStart => exact ⟨0, Nat.zero_le _, rfl, 0, rfl⟩
  case round =>
    obtain ⟨k, hk, rfl, n, rfl⟩ := hrel
    by_cases hlt : k < l.length
    · obtain ⟨off1, hb1, rfl, hc1⟩ := HS1.out.at (by omega)
      obtain ⟨off2, hb2, rfl, hc2⟩ := HS2.out.at (by omega)
      obtain ⟨c0, c1⟩ := hc1 k hlt
      obtain ⟨d0, d1⟩ := hc2 k hlt
      clear hc1 hc2
      have hlt' : (k : Int) < l.length := by omega
      go_wp2_with fail
      go_quiet (fail)
      go_wp2_with fail
      exact ⟨⟨k + 1, by omega, by go_num, _, rfl⟩, by simp [intOf]; omega⟩
    · go_wp2_with fail
      go_ret
      exact ⟨rfl, n, rfl⟩
end Go.Proofs.Ytidomomdfdkphaa
