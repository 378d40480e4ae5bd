/- The macro's Do. -/
import Derived.Test.YtgffmkbcppajoaaDoorM2
import Derived.Deep.AppendLies
import Derived.Deep.RegionHeld3
namespace Go.Proofs.YtgffmkbcppajoaaDoor
open Go.RowKit
/-- May a key be? -/
def KV.ok (k : KV) : Bool := mayB k.kd k.v k.tx k.ct
theorem kv_arr (k : KV) : (kg [k]).toArray = #[.int .i64 k.kd, .int .i64 k.v, .string k.tx, .bool k.ct] := rfl
set_option maxHeartbeats 1000000 in
theorem do_off {B m rb most : Nat} {w : World} {keys begun : List KV} (k : KV) (h : Mc B m rb w most keys begun false) :
   Calls Tryd.prog 9 #[.pointer (some ⟨m, 0, none⟩), .agg #[.int .i64 k.kd, .int .i64 k.v, .string k.tx, .bool k.ct]] w fun e w' => e = .returned (.bool false) ∧ Below w.heap.size w w' := by
  have hlt := h.lt
  obtain ⟨_, _, _, _, _, _, ak, ck, bk, ab, cb, h1, _⟩ := h
  have c3 := h1.cell 3
  simp at c3
  clear h1
  go_enter Tryd.func9, Tryd.ntmps9
  go_wp2_with fail
  go_quiet (fail)
  go_wp2_with fail
  go_ret
  exact ⟨rfl, below_drewN ((Below.refl _ _).alloc (Nat.le_refl _) _) _⟩
set_option maxHeartbeats 2000000 in
theorem do_bad {B m rb most : Nat} {w : World} {keys begun : List KV} (k : KV) (h : Mc B m rb w most keys begun true) (ht : KeyTab w) (hs : k.tx.size ≤ 9223372036854775807) (hk : k.ok = false) :
   Calls Tryd.prog 9 #[.pointer (some ⟨m, 0, none⟩), .agg #[.int .i64 k.kd, .int .i64 k.v, .string k.tx, .bool k.ct]] w fun e w' => e = .returned (.bool false) ∧ Below w.heap.size w w' := by
  have hlt := h.lt
  have HT := Lib.hid ht
  have HK := Lib.hid hk
  obtain ⟨_, _, _, _, _, _, ak, ck, bk, ab, cb, h1, _⟩ := h
  have H1 := Lib.hid h1
  clear h1 ht hk
  go_enter Tryd.func9, Tryd.ntmps9
  go_upto_region 1 with (fail)
  go_cut [30] (fun s30 wx => s30 = .bool true ∧ Hid (Below w.heap.size w wx))
  case first =>
    have HA := Lib.hid ((Below.refl w.heap.size w).alloc (Nat.le_refl _) (.cells #[.int .i64 k.kd, .int .i64 k.v, .string k.tx, .bool k.ct] 32))
    have HC := Lib.hid (Blk.new w #[.int .i64 k.kd, .int .i64 k.v, .string k.tx, .bool k.ct] 32)
    have hB1 := H1.out.below HA.out hlt
    have c3 := hB1.cell 3
    have c2 := hB1.cell 2
    have c0 := hB1.cell 0
    clear hB1
    have q0 := HC.out.cell 0
    have q1 := HC.out.cell 1
    have q2 := HC.out.cell 2
    have q3 := HC.out.cell 3
    simp at c0 c2 c3
    refine wp_region_held_drew (S := (fun w' => w'.cell? ⟨m, 0, none⟩ = some (.int .i64 most) ∧ w'.cell? ⟨m, 2, none⟩ = some (.slice ab begun.length cb) ∧ w'.cell? ⟨m, 3, none⟩ = some (.bool true) ∧ w'.cell? ⟨w.heap.size, 0, none⟩ = some (.int .i64 k.kd) ∧ w'.cell? ⟨w.heap.size, 1, none⟩ = some (.int .i64 k.v) ∧ w'.cell? ⟨w.heap.size, 2, none⟩ = some (.string k.tx) ∧ w'.cell? ⟨w.heap.size, 3, none⟩ = some (.bool k.ct))) (by kernel_rfl) (by exact ⟨c0, c2, c3, q0, q1, q2, q3⟩) (fun hHeld => ?_)
    refine wpAnyH_take (i := 0) (v := .pointer (some ⟨m, 0, none⟩)) (by conv => lhs; simp only [List.getElem?_toArray, List.getElem?_cons_succ, List.getElem?_cons_zero]) (by kernel_rfl) (by kernel_rfl) (by kernel_rfl) (by exact fun _ _ _ h => h) (Or.inl ⟨by rfl, by intro w hSw; go_split_ands; go_simp⟩) (by assumption) ?_
    try simp only [Act.put, List.setIfInBounds_toArray, List.set_cons_zero, List.set_cons_succ]
    refine wpAnyH_take (i := 1) (v := .bool false) (by conv => lhs; simp only [List.getElem?_toArray, List.getElem?_cons_succ, List.getElem?_cons_zero]) (by kernel_rfl) (by kernel_rfl) (by kernel_rfl) (by exact fun _ _ _ h => h) (Or.inl ⟨by rfl, by intro w hSw; go_split_ands; go_simp⟩) (by assumption) ?_
    try simp only [Act.put, List.setIfInBounds_toArray, List.set_cons_zero, List.set_cons_succ]
    refine wpAnyH_take (i := 2) (v := .bool false) (by conv => lhs; simp only [List.getElem?_toArray, List.getElem?_cons_succ, List.getElem?_cons_zero]) (by kernel_rfl) (by kernel_rfl) (by kernel_rfl) (by exact fun _ _ _ h => h) (Or.inl ⟨by rfl, by intro w hSw; go_split_ands; go_simp⟩) (by assumption) ?_
    try simp only [Act.put, List.setIfInBounds_toArray, List.set_cons_zero, List.set_cons_succ]
    refine wpAnyH_take (i := 3) (v := .pointer (some ⟨m, 0, none⟩)) (by conv => lhs; simp only [List.getElem?_toArray, List.getElem?_cons_succ, List.getElem?_cons_zero]) (by kernel_rfl) (by kernel_rfl) (by kernel_rfl) (by exact fun _ _ _ h => h) (Or.inl ⟨by rfl, by intro w hSw; go_split_ands; go_simp⟩) (by assumption) ?_
    try simp only [Act.put, List.setIfInBounds_toArray, List.set_cons_zero, List.set_cons_succ]
    refine wpAnyH_take (i := 4) (v := .pointer (some ⟨m, 0, none⟩)) (by conv => lhs; simp only [List.getElem?_toArray, List.getElem?_cons_succ, List.getElem?_cons_zero]) (by kernel_rfl) (by kernel_rfl) (by kernel_rfl) (by exact fun _ _ _ h => h) (Or.inl ⟨by rfl, by intro w hSw; go_split_ands; go_simp⟩) (by assumption) ?_
    try simp only [Act.put, List.setIfInBounds_toArray, List.set_cons_zero, List.set_cons_succ]
    refine wpAnyH_take (i := 5) (v := .pointer (some ⟨m, 3, none⟩)) (by conv => lhs; simp only [List.getElem?_toArray, List.getElem?_cons_succ, List.getElem?_cons_zero]) (by kernel_rfl) (by kernel_rfl) (by kernel_rfl) (by exact fun _ _ _ h => h) (Or.inl ⟨by rfl, by intro w hSw; go_split_ands; go_simp⟩) (by assumption) ?_
    try simp only [Act.put, List.setIfInBounds_toArray, List.set_cons_zero, List.set_cons_succ]
    refine wpAnyH_take (i := 6) (v := .bool true) (by conv => lhs; simp only [List.getElem?_toArray, List.getElem?_cons_succ, List.getElem?_cons_zero]) (by kernel_rfl) (by kernel_rfl) (by kernel_rfl) (by exact fun _ _ _ h => h) (Or.inl ⟨by rfl, by intro w hSw; go_split_ands; go_simp⟩) (by assumption) ?_
    try simp only [Act.put, List.setIfInBounds_toArray, List.set_cons_zero, List.set_cons_succ]
    refine wpAnyH_take (i := 7) (v := .bool false) (by conv => lhs; simp only [List.getElem?_toArray, List.getElem?_cons_succ, List.getElem?_cons_zero]) (by kernel_rfl) (by kernel_rfl) (by kernel_rfl) (by exact fun _ _ _ h => h) (Or.inl ⟨by rfl, by intro w hSw; go_split_ands; go_simp⟩) (by assumption) ?_
    try simp only [Act.put, List.setIfInBounds_toArray, List.set_cons_zero, List.set_cons_succ]
    refine wpAnyH_take (i := 8) (v := .bool false) (by conv => lhs; simp only [List.getElem?_toArray, List.getElem?_cons_succ, List.getElem?_cons_zero]) (by kernel_rfl) (by kernel_rfl) (by kernel_rfl) (by exact fun _ _ _ h => h) (Or.inl ⟨by rfl, by intro w hSw; go_split_ands; go_simp⟩) (by assumption) ?_
    try simp only [Act.put, List.setIfInBounds_toArray, List.set_cons_zero, List.set_cons_succ]
    refine wpAnyH_take (i := 9) (v := .bool false) (by conv => lhs; simp only [List.getElem?_toArray, List.getElem?_cons_succ, List.getElem?_cons_zero]) (by kernel_rfl) (by kernel_rfl) (by kernel_rfl) (by exact fun _ _ _ h => h) (Or.inl ⟨by rfl, by intro w hSw; go_split_ands; go_simp⟩) (by assumption) ?_
    try simp only [Act.put, List.setIfInBounds_toArray, List.set_cons_zero, List.set_cons_succ]
    refine wpAnyH_take (i := 10) (v := .agg #[.int .i64 k.kd, .int .i64 k.v, .string k.tx, .bool k.ct]) (by conv => lhs; simp only [List.getElem?_toArray, List.getElem?_cons_succ, List.getElem?_cons_zero]) (by kernel_rfl) (by kernel_rfl) (by kernel_rfl) (by exact fun _ _ _ h => h) (Or.inl ⟨by rfl, by intro w hSw; go_split_ands; go_simp⟩) (by assumption) ?_
    try simp only [Act.put, List.setIfInBounds_toArray, List.set_cons_zero, List.set_cons_succ]
    refine wpAnyH_ready (rs := [11]) (by kernel_rfl) (by simp) ?_
    refine AllReadyH.cons (by conv => lhs; simp only [List.getElem?_toArray, List.getElem?_cons_succ, List.getElem?_cons_zero]) (fun K hK => ?_) AllReadyH.nil
    go_simp
    go_at_call 17
    refine (check_any k.kd k.v k.tx k.ct _ (HT.out.below (HA.out.drew)) hs).mono ?_
    rintro e w1 ⟨rfl, hb1⟩
    have HB1 : Hid (Below w.heap.size w w1) := HA.out.drew.trans (hb1.mono (by simp))
    have HD := (Blk.drew HC.out).below hb1 (by simp)
    have hD1 := H1.out.below HB1.out hlt
    have d3 := hD1.cell 3
    have d2 := hD1.cell 2
    have d0 := hD1.cell 0
    clear hD1
    have e0 := HD.cell 0
    have e1 := HD.cell 1
    have e2 := HD.cell 2
    have e3 := HD.cell 3
    clear hb1 HD
    simp at d0 d2 d3
    rw [show mayB k.kd k.v k.tx k.ct = false from HK.out]
    simp only [chk, Bool.false_eq_true, if_false]
    go_wp2_with fail
    refine hK.out _ _ (by exact ⟨d0, d2, d3, e0, e1, e2, e3⟩) (fun hHeld2 => ?_)
    clear hK K hHeld
    try simp only [Act.put, List.setIfInBounds_toArray, List.set_cons_zero, List.set_cons_succ]
    refine wpAnyH_take (i := 12) (v := .bool true) (by conv => lhs; simp only [List.getElem?_toArray, List.getElem?_cons_succ, List.getElem?_cons_zero]) (by kernel_rfl) (by kernel_rfl) (by kernel_rfl) (by exact fun _ _ _ h => h) (Or.inl ⟨by rfl, by intro w hSw; go_split_ands; go_simp⟩) (by assumption) ?_
    try simp only [Act.put, List.setIfInBounds_toArray, List.set_cons_zero, List.set_cons_succ]
    refine wpAnyH_take (i := 13) (v := .bool true) (by conv => lhs; simp only [List.getElem?_toArray, List.getElem?_cons_succ, List.getElem?_cons_zero]) (by kernel_rfl) (by kernel_rfl) (by kernel_rfl) (by exact fun _ _ _ h => h) (Or.inl ⟨by rfl, by intro w hSw; go_split_ands; go_simp⟩) (by assumption) ?_
    try simp only [Act.put, List.setIfInBounds_toArray, List.set_cons_zero, List.set_cons_succ]
    refine wpAnyH_take (i := 14) (v := .bool true) (by conv => lhs; simp only [List.getElem?_toArray, List.getElem?_cons_succ, List.getElem?_cons_zero]) (by kernel_rfl) (by kernel_rfl) (by kernel_rfl) (by exact fun _ _ _ h => h) (Or.inl ⟨by rfl, by intro w hSw; go_split_ands; go_simp⟩) (by assumption) ?_
    try simp only [Act.put, List.setIfInBounds_toArray, List.set_cons_zero, List.set_cons_succ]
    refine wpAnyH_take (i := 15) (v := undef) (by conv => lhs; simp only [List.getElem?_toArray, List.getElem?_cons_succ, List.getElem?_cons_zero]) (by kernel_rfl) (by kernel_rfl) (by kernel_rfl) (by exact fun _ _ _ h => h) (Or.inr ⟨by rfl, rfl⟩) (by assumption) ?_
    try simp only [Act.put, List.setIfInBounds_toArray, List.set_cons_zero, List.set_cons_succ]
    refine wpAnyH_take (i := 16) (v := undef) (by conv => lhs; simp only [List.getElem?_toArray, List.getElem?_cons_succ, List.getElem?_cons_zero]) (by kernel_rfl) (by kernel_rfl) (by kernel_rfl) (by exact fun _ _ _ h => h) (Or.inr ⟨by rfl, rfl⟩) (by assumption) ?_
    try simp only [Act.put, List.setIfInBounds_toArray, List.set_cons_zero, List.set_cons_succ]
    refine wpAnyH_take (i := 17) (v := undef) (by conv => lhs; simp only [List.getElem?_toArray, List.getElem?_cons_succ, List.getElem?_cons_zero]) (by kernel_rfl) (by kernel_rfl) (by kernel_rfl) (by exact fun _ _ _ h => h) (Or.inr ⟨by rfl, rfl⟩) (by assumption) ?_
    try simp only [Act.put, List.setIfInBounds_toArray, List.set_cons_zero, List.set_cons_succ]
    refine wpAnyH_take (i := 18) (v := undef) (by conv => lhs; simp only [List.getElem?_toArray, List.getElem?_cons_succ, List.getElem?_cons_zero]) (by kernel_rfl) (by kernel_rfl) (by kernel_rfl) (by exact fun _ _ _ h => h) (Or.inr ⟨by rfl, rfl⟩) (by assumption) ?_
    try simp only [Act.put, List.setIfInBounds_toArray, List.set_cons_zero, List.set_cons_succ]
    refine wpAnyH_take (i := 19) (v := undef) (by conv => lhs; simp only [List.getElem?_toArray, List.getElem?_cons_succ, List.getElem?_cons_zero]) (by kernel_rfl) (by kernel_rfl) (by kernel_rfl) (by exact fun _ _ _ h => h) (Or.inr ⟨by rfl, rfl⟩) (by assumption) ?_
    try simp only [Act.put, List.setIfInBounds_toArray, List.set_cons_zero, List.set_cons_succ]
    refine wpAnyH_take (i := 20) (v := undef) (by conv => lhs; simp only [List.getElem?_toArray, List.getElem?_cons_succ, List.getElem?_cons_zero]) (by kernel_rfl) (by kernel_rfl) (by kernel_rfl) (by exact fun _ _ _ h => h) (Or.inr ⟨by rfl, rfl⟩) (by assumption) ?_
    try simp only [Act.put, List.setIfInBounds_toArray, List.set_cons_zero, List.set_cons_succ]
    refine wpAnyH_take (i := 21) (v := undef) (by conv => lhs; simp only [List.getElem?_toArray, List.getElem?_cons_succ, List.getElem?_cons_zero]) (by kernel_rfl) (by kernel_rfl) (by kernel_rfl) (by exact fun _ _ _ h => h) (Or.inr ⟨by rfl, rfl⟩) (by assumption) ?_
    try simp only [Act.put, List.setIfInBounds_toArray, List.set_cons_zero, List.set_cons_succ]
    refine wpAnyH_take (i := 22) (v := undef) (by conv => lhs; simp only [List.getElem?_toArray, List.getElem?_cons_succ, List.getElem?_cons_zero]) (by kernel_rfl) (by kernel_rfl) (by kernel_rfl) (by exact fun _ _ _ h => h) (Or.inr ⟨by rfl, rfl⟩) (by assumption) ?_
    try simp only [Act.put, List.setIfInBounds_toArray, List.set_cons_zero, List.set_cons_succ]
    refine wpAnyH_take (i := 23) (v := undef) (by conv => lhs; simp only [List.getElem?_toArray, List.getElem?_cons_succ, List.getElem?_cons_zero]) (by kernel_rfl) (by kernel_rfl) (by kernel_rfl) (by exact fun _ _ _ h => h) (Or.inr ⟨by rfl, rfl⟩) (by assumption) ?_
    try simp only [Act.put, List.setIfInBounds_toArray, List.set_cons_zero, List.set_cons_succ]
    refine wpAnyH_take (i := 24) (v := undef) (by conv => lhs; simp only [List.getElem?_toArray, List.getElem?_cons_succ, List.getElem?_cons_zero]) (by kernel_rfl) (by kernel_rfl) (by kernel_rfl) (by exact fun _ _ _ h => h) (Or.inr ⟨by rfl, rfl⟩) (by assumption) ?_
    try simp only [Act.put, List.setIfInBounds_toArray, List.set_cons_zero, List.set_cons_succ]
    refine wpAnyH_take (i := 25) (v := .bool true) (by conv => lhs; simp only [List.getElem?_toArray, List.getElem?_cons_succ, List.getElem?_cons_zero]) (by kernel_rfl) (by kernel_rfl) (by kernel_rfl) (by exact fun _ _ _ h => h) (Or.inl ⟨by rfl, by intro w hSw; go_split_ands; go_simp⟩) (by assumption) ?_
    try simp only [Act.put, List.setIfInBounds_toArray, List.set_cons_zero, List.set_cons_succ]
    refine wpAnyH_done (by kernel_rfl) ?_ _
    all_goals
      go_wp2_with fail
      go_meet
      exact ⟨rfl, HB1⟩
  case rest =>
    obtain ⟨rfl, hb⟩ := hcut
    go_wp2_with fail
    go_ret
    exact ⟨rfl, hb.out⟩
set_option maxHeartbeats 2000000 in
theorem do_full {B m rb most : Nat} {w : World} {keys begun : List KV} (k : KV) (h : Mc B m rb w most keys begun true) (ht : KeyTab w) (hs : k.tx.size ≤ 9223372036854775807) (hk : k.ok = true) (hf : most ≤ begun.length) :
   Calls Tryd.prog 9 #[.pointer (some ⟨m, 0, none⟩), .agg #[.int .i64 k.kd, .int .i64 k.v, .string k.tx, .bool k.ct]] w fun e w' => e = .returned (.bool false) ∧ Below w.heap.size w w' := by
  have hlt := h.lt
  have HT := Lib.hid ht
  have HK := Lib.hid hk
  have hge : decide ((most : Int) ≤ (begun.length : Int)) = true := by simpa using hf
  have hgf : (most : Int) ≤ (begun.length : Int) := by omega
  obtain ⟨_, _, _, _, _, _, ak, ck, bk, ab, cb, h1, _⟩ := h
  have H1 := Lib.hid h1
  clear h1 ht hk
  go_enter Tryd.func9, Tryd.ntmps9
  go_upto_region 1 with (fail)
  go_cut [30] (fun s30 wx => s30 = .bool true ∧ Hid (Below w.heap.size w wx))
  case first =>
    have HA := Lib.hid ((Below.refl w.heap.size w).alloc (Nat.le_refl _) (.cells #[.int .i64 k.kd, .int .i64 k.v, .string k.tx, .bool k.ct] 32))
    have HC := Lib.hid (Blk.new w #[.int .i64 k.kd, .int .i64 k.v, .string k.tx, .bool k.ct] 32)
    have hB1 := H1.out.below HA.out hlt
    have c3 := hB1.cell 3
    have c2 := hB1.cell 2
    have c0 := hB1.cell 0
    clear hB1
    have q0 := HC.out.cell 0
    have q1 := HC.out.cell 1
    have q2 := HC.out.cell 2
    have q3 := HC.out.cell 3
    simp at c0 c2 c3
    go_region_held3 (fun w' => w'.cell? ⟨m, 0, none⟩ = some (.int .i64 most) ∧ w'.cell? ⟨m, 2, none⟩ = some (.slice ab begun.length cb) ∧ w'.cell? ⟨m, 3, none⟩ = some (.bool true) ∧ w'.cell? ⟨w.heap.size, 0, none⟩ = some (.int .i64 k.kd) ∧ w'.cell? ⟨w.heap.size, 1, none⟩ = some (.int .i64 k.v) ∧ w'.cell? ⟨w.heap.size, 2, none⟩ = some (.string k.tx) ∧ w'.cell? ⟨w.heap.size, 3, none⟩ = some (.bool k.ct)) (first | exact ⟨c0, c2, c3, q0, q1, q2, q3⟩ | exact ⟨d0, d2, d3, e0, e1, e2, e3⟩) ((go_at_call 17; refine (check_any k.kd k.v k.tx k.ct _ (HT.out.below (HA.out.drew)) hs).mono ?_; rintro e w1 ⟨rfl, hb1⟩; have HB1 : Hid (Below w.heap.size w w1) := HA.out.drew.trans (hb1.mono (by simp)); have HD := (Blk.drew HC.out).below hb1 (by simp); have hD1 := H1.out.below HB1.out hlt; have d3 := hD1.cell 3; have d2 := hD1.cell 2; have d0 := hD1.cell 0; clear hD1; have e0 := HD.cell 0; have e1 := HD.cell 1; have e2 := HD.cell 2; have e3 := HD.cell 3; clear hb1 HD; simp at d0 d2 d3; rw [show mayB k.kd k.v k.tx k.ct = true from HK.out]; simp only [chk, if_true]))
    all_goals
      go_wp2_with fail
      go_meet
      exact ⟨rfl, HB1⟩
  case rest =>
    obtain ⟨rfl, hb⟩ := hcut
    go_wp2_with fail
    go_ret
    exact ⟨rfl, hb.out⟩
end Go.Proofs.YtgffmkbcppajoaaDoor
