/- emacs.Cmd, for a key that stands in a table: the walk. -/
import Derived.Test.YtenfhmlkogpabaaDoorE2
namespace Go.Proofs.YtenfhmlkogpabaaDoor
open Go.RowKit
def CmdPost (c : Nat) (w : World) (e : Ending) (w' : World) : Prop := e = .returned (.int .i64 (c : Nat)) ∧ Below w.heap.size w w'
set_option maxHeartbeats 2000000 in
set_option maxRecDepth 100000 in
theorem cmd_ctl (kd v : Int) (i : Nat) (hi : i < 22) (hh : hit ctl kd v i = true) (hno : ∀ j, j < i → hit ctl kd v j = false) (hm : mayB kd v ⟨#[]⟩ false = true) (w : World) (ht : KeyTab w) (h1 : RowTab w 1 ctl) :
   Calls Tryd.prog 7 #[.agg #[.int .i64 kd, .int .i64 v, .string ⟨#[]⟩, .bool false]] w (CmdPost (rC ctl i) w) := by
  have HT := Lib.hid ht
  have H1 := Lib.hid h1
  have HH := Lib.hid hh
  have HN := Lib.hid hno
  have HCK := Lib.hid (check_any kd v ⟨#[]⟩ false)
  rw [hm] at HCK
  have hlt1 := h1.lt
  clear ht h1 hh hno hm
  go_enter Tryd.func7, Tryd.ntmps7
  go_wp2_with fail
  refine (HCK.out _ (HT.out.below (by go_grown)) (by decide)).mono ?_
  rintro e w1 ⟨rfl, hb⟩
  have HB := Lib.hid (show Below w.heap.size w w1 from Below.trans (by go_grown) (hb.mono (by simp)))
  have hz := hb.size
  simp only [World.size_alloc] at hz
  have hk0 := hb.cell (p := ⟨w.heap.size, 0, none⟩) (by simp)
  have hk1 := hb.cell (p := ⟨w.heap.size, 1, none⟩) (by simp)
  have hk2 := hb.cell (p := ⟨w.heap.size, 2, none⟩) (by simp)
  have hk3 := hb.cell (p := ⟨w.heap.size, 3, none⟩) (by simp)
  simp at hk0 hk1 hk2 hk3
  clear hb
  have hchk : chk true = 0 := rfl
  rw [hchk]
  go_wp2_with fail
  refine (find_any kd v ⟨#[]⟩ false _).mono ?_
  rintro e w2 ⟨rfl, hw2⟩
  have hz2 : w2.heap.size = w1.heap.size + 1 := by rw [← hw2]; simp
  have c0 : w2.cell? ⟨w1.heap.size, 0, none⟩ = some (.int .i64 kd) := by rw [← hw2]; simp
  have c1 : w2.cell? ⟨w1.heap.size, 1, none⟩ = some (.int .i64 v) := by rw [← hw2]; simp
  have HB2 : Hid (Below w.heap.size w w2) := by show Below _ _ _; rw [← hw2]; exact HB.out.alloc HB.out.size _
  clear hw2 hk0 hk1 hk2 hk3
  have C0 := Lib.hid c0
  have C1 := Lib.hid c1
  clear c0 c1
  obtain ⟨cs, t, fr, hg, hrw⟩ := H1.out.below HB2.out
  have HRW := Lib.hid hrw
  clear hrw
  go_wp2_with (refine wpList_load_row rfl 40 _ rfl 1 rfl t cs fr _ hg Tryd.underlying40 rfl (by rw [HRW.out.1]; kernel_rfl) ?_)
  clear hg
  go_loopw [14] (fun p wr => ∃ k : Nat, k ≤ i ∧ p = .int .i64 k ∧ Below w2.heap.size w2 wr) (fun p _ => 22 - (intOf p).toNat)
  case atStart => exact ⟨0, Nat.zero_le _, rfl, Below.refl _ _⟩
  case round =>
    obtain ⟨k, hk, rfl, hb⟩ := hrel
    have HBr := Lib.hid hb
    have hzr := hb.size
    have d0 := (hb.cell (p := ⟨w1.heap.size, 0, none⟩) (by show w1.heap.size < _; omega)).trans C0.out
    have d1 := (hb.cell (p := ⟨w1.heap.size, 1, none⟩) (by show w1.heap.size < _; omega)).trans C1.out
    have D0 := Lib.hid d0
    have D1 := Lib.hid d1
    clear hb d0 d1
    have hk22 : k < 22 := by omega
    have hix := index_ctl HRW.out hk22
    obtain ⟨⟨ha, hb2, hc⟩, -⟩ := row_lt k
    have HHk : Hid ((((rK ctl k : Nat) : Int) == kd && ((rV ctl k : Nat) : Int) == v) = decide (k = i)) := by
      show _ = _
      by_cases hki : k = i
      · subst hki; rw [decide_eq_true rfl]; exact HH.out
      · rw [decide_eq_false hki]; exact HN.out k (by omega)
    have HCMD : Hid (k = i → rC ctl k = rC ctl i) := fun h => by rw [h]
    generalize rK ctl k = a at *
    generalize rV ctl k = b at *
    generalize rC ctl k = c at *
    go_wp2_with fail
    refine (is_any a b c w1.heap.size kd v _ (by simp; omega) ha hb2 (by rw [World.cell?_alloc_old _ _ _ (by show ¬ w1.heap.size = _; omega)]; exact D0.out) (by rw [World.cell?_alloc_old _ _ _ (by show ¬ w1.heap.size = _; omega)]; exact D1.out)).mono ?_
    rintro e w4 ⟨rfl, hb4⟩
    rw [HHk.out]
    have e2 := hb4.cell (p := ⟨wr.heap.size, 2, none⟩) (by simp)
    simp at e2
    have HB4 := Lib.hid (show Below w2.heap.size w2 w4 from (HBr.out.alloc hzr _).trans (hb4.mono (by simp; omega)))
    clear hb4
    by_cases hki : k = i
    · have hcc := HCMD.out hki
      rw [decide_eq_true hki]
      clear hki
      go_wp2_with fail
      go_ret
      exact ⟨by rw [← hcc]; rfl, HB2.out.trans (HB4.out.mono HB2.out.size)⟩
    · rw [decide_eq_false hki]
      go_wp2_with fail
      go_roundw
      case rel => exact ⟨k + 1, by omega, by go_num, HB4.out⟩
      case measure => simp [intOf]; omega
end Go.Proofs.YtenfhmlkogpabaaDoor
