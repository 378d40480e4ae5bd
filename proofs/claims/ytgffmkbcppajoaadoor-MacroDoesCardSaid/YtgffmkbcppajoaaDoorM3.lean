/- The macro's Do. -/
import Derived.Test.YtgffmkbcppajoaaDoorM2
import Derived.Deep.AppendLies
import Derived.Deep.RegionHeld3
namespace Go.Proofs.YtgffmkbcppajoaaDoor
open Go.RowKit
/-- May a key be? -/
def KV.ok (k : KV) : Bool := mayB k.kd k.v k.tx k.ct
theorem kv_arr (k : KV) : (kg [k]).toArray = #[.int .i64 k.kd, .int .i64 k.v, .string k.tx, .bool k.ct] := rfl
set_option maxHeartbeats 1000000 in
theorem do_off {B m rb most : Nat} {w : World} {keys begun : List KV} (k : KV) (h : Mc B m rb w most keys begun false) :
   Calls Tryd.prog 9 #[.pointer (some ⟨m, 0, none⟩), .agg #[.int .i64 k.kd, .int .i64 k.v, .string k.tx, .bool k.ct]] w fun e w' => e = .returned (.bool false) ∧ Below w.heap.size w w' := by
  have hlt := h.lt
  obtain ⟨_, _, _, _, _, _, ak, ck, bk, ab, cb, h1, _⟩ := h
  have c3 := h1.cell 3
  simp at c3
  clear h1
  go_enter Tryd.func9, Tryd.ntmps9
  go_wp2_with fail
  go_quiet (fail)
  go_wp2_with fail
  go_ret
  exact ⟨rfl, below_drewN ((Below.refl _ _).alloc (Nat.le_refl _) _) _⟩
set_option maxHeartbeats 2000000 in
theorem do_bad {B m rb most : Nat} {w : World} {keys begun : List KV} (k : KV) (h : Mc B m rb w most keys begun true) (ht : KeyTab w) (hs : k.tx.size ≤ 9223372036854775807) (hk : k.ok = false) :
   Calls Tryd.prog 9 #[.pointer (some ⟨m, 0, none⟩), .agg #[.int .i64 k.kd, .int .i64 k.v, .string k.tx, .bool k.ct]] w fun e w' => e = .returned (.bool false) ∧ Below w.heap.size w w' := by
  have hlt := h.lt
  have HT := Lib.hid ht
  have HK := Lib.hid hk
  obtain ⟨_, _, _, _, _, _, ak, ck, bk, ab, cb, h1, _⟩ := h
  have H1 := Lib.hid h1
  clear h1 ht hk
  go_enter Tryd.func9, Tryd.ntmps9
  go_upto_region 1 with (fail)
  go_cut [30] (fun s30 wx => s30 = .bool true ∧ Hid (Below w.heap.size w wx))
  case first =>
    have HA := Lib.hid ((Below.refl w.heap.size w).alloc (Nat.le_refl _) (.cells #[.int .i64 k.kd, .int .i64 k.v, .string k.tx, .bool k.ct] 32))
    have HC := Lib.hid (Blk.new w #[.int .i64 k.kd, .int .i64 k.v, .string k.tx, .bool k.ct] 32)
    have hB1 := H1.out.below HA.out hlt
    have c3 := hB1.cell 3
    have c2 := hB1.cell 2
    have c0 := hB1.cell 0
    clear hB1
    have q0 := HC.out.cell 0
    have q1 := HC.out.cell 1
    have q2 := HC.out.cell 2
    have q3 := HC.out.cell 3
    simp at c0 c2 c3
    refine wp_region_held_drew (S := (fun w' => w'.cell? ⟨m, 0, none⟩ = some (.int .i64 most) ∧ w'.cell? ⟨m, 2, none⟩ = some (.slice ab begun.length cb) ∧ w'.cell? ⟨m, 3, none⟩ = some (.bool true) ∧ w'.cell? ⟨w.heap.size, 0, none⟩ = some (.int .i64 k.kd) ∧ w'.cell? ⟨w.heap.size, 1, none⟩ = some (.int .i64 k.v) ∧ w'.cell? ⟨w.heap.size, 2, none⟩ = some (.string k.tx) ∧ w'.cell? ⟨w.heap.size, 3, none⟩ = some (.bool k.ct))) (by kernel_rfl) (by exact ⟨c0, c2, c3, q0, q1, q2, q3⟩) (fun hHeld => ?_)
    refine wpAnyH_take (i := 0) (oi := ({ dst := some 5, op := Op.move (Operand.tmp 0), type := 24, pos := "macro.go:51", after := #[], guard := none } : Oper)) (v := .pointer (some ⟨m, 0, none⟩)) rfl (by kernel_rfl) (by kernel_rfl) (by kernel_rfl) (fun _ _ _ h => h) (Or.inl ⟨by rfl, by intro w hSw; go_split_ands; go_simp⟩) (by assumption) ?_
    try simp only [Act.put, List.setIfInBounds_toArray, List.set_cons_zero, List.set_cons_succ]
    refine wpAnyH_take (i := 1) (oi := ({ dst := some 6, op := Op.binOp BinOp.eql 24 (Operand.tmp 5) (Operand.const (Value.pointer none)) 24, type := 4, pos := "macro.go:51", after := #[{ on := 0, ground := Ground.data }], guard := none } : Oper)) (v := .bool false) rfl (by kernel_rfl) (by kernel_rfl) (by kernel_rfl) (fun _ _ _ h => h) (Or.inl ⟨by rfl, by intro w hSw; go_split_ands; go_simp⟩) (by assumption) ?_
    try simp only [Act.put, List.setIfInBounds_toArray, List.set_cons_zero, List.set_cons_succ]
    refine wpAnyH_take (i := 2) (oi := ({ dst := some 7, op := Op.move (Operand.tmp 6), type := 4, pos := "macro.go:51", after := #[{ on := 1, ground := Ground.data }], guard := none } : Oper)) (v := .bool false) rfl (by kernel_rfl) (by kernel_rfl) (by kernel_rfl) (fun _ _ _ h => h) (Or.inl ⟨by rfl, by intro w hSw; go_split_ands; go_simp⟩) (by assumption) ?_
    try simp only [Act.put, List.setIfInBounds_toArray, List.set_cons_zero, List.set_cons_succ]
    refine wpAnyH_take (i := 3) (oi := ({ dst := some 8, op := Op.move (Operand.tmp 0), type := 24, pos := "macro.go:51", after := #[{ on := 2, ground := Ground.guard }], guard := some (2, false) } : Oper)) (v := .pointer (some ⟨m, 0, none⟩)) rfl (by kernel_rfl) (by kernel_rfl) (by kernel_rfl) (fun _ _ _ h => h) (Or.inl ⟨by rfl, by intro w hSw; go_split_ands; go_simp⟩) (by assumption) ?_
    try simp only [Act.put, List.setIfInBounds_toArray, List.set_cons_zero, List.set_cons_succ]
    refine wpAnyH_take (i := 4) (oi := ({ dst := some 9, op := Op.nilCheck (Operand.tmp 8), type := 0, pos := "macro.go:51", after := #[{ on := 3, ground := Ground.data }, { on := 2, ground := Ground.guard }], guard := some (2, false) } : Oper)) (v := .pointer (some ⟨m, 0, none⟩)) rfl (by kernel_rfl) (by kernel_rfl) (by kernel_rfl) (fun _ _ _ h => h) (Or.inl ⟨by rfl, by intro w hSw; go_split_ands; go_simp⟩) (by assumption) ?_
    try simp only [Act.put, List.setIfInBounds_toArray, List.set_cons_zero, List.set_cons_succ]
    refine wpAnyH_take (i := 5) (oi := ({ dst := some 10, op := Op.fieldAddr 45 (Operand.tmp 9) 3, type := 0, pos := "macro.go:51", after := #[{ on := 4, ground := Ground.data }, { on := 2, ground := Ground.guard }], guard := some (2, false) } : Oper)) (v := .pointer (some ⟨m, 3, none⟩)) rfl (by kernel_rfl) (by kernel_rfl) (by kernel_rfl) (fun _ _ _ h => h) (Or.inl ⟨by rfl, by intro w hSw; go_split_ands; go_simp⟩) (by assumption) ?_
    try simp only [Act.put, List.setIfInBounds_toArray, List.set_cons_zero, List.set_cons_succ]
    refine wpAnyH_take (i := 6) (oi := ({ dst := some 11, op := Op.load 4 (Operand.tmp 10), type := 4, pos := "macro.go:51", after := #[{ on := 5, ground := Ground.data }, { on := 2, ground := Ground.guard }], guard := some (2, false) } : Oper)) (v := .bool true) rfl (by kernel_rfl) (by kernel_rfl) (by kernel_rfl) (fun _ _ _ h => h) (Or.inl ⟨by rfl, by intro w hSw; go_split_ands; go_simp⟩) (by assumption) ?_
    try simp only [Act.put, List.setIfInBounds_toArray, List.set_cons_zero, List.set_cons_succ]
    refine wpAnyH_take (i := 7) (oi := ({ dst := some 12, op := Op.unOp UnOp.not 4 (Operand.tmp 11), type := 4, pos := "macro.go:51", after := #[{ on := 6, ground := Ground.data }, { on := 2, ground := Ground.guard }], guard := some (2, false) } : Oper)) (v := .bool false) rfl (by kernel_rfl) (by kernel_rfl) (by kernel_rfl) (fun _ _ _ h => h) (Or.inl ⟨by rfl, by intro w hSw; go_split_ands; go_simp⟩) (by assumption) ?_
    try simp only [Act.put, List.setIfInBounds_toArray, List.set_cons_zero, List.set_cons_succ]
    refine wpAnyH_take (i := 8) (oi := ({ dst := some 13, op := Op.pick (Operand.tmp 7) (Operand.const (Value.bool true)) (Operand.tmp 12), type := 4, pos := "macro.go:51", after := #[{ on := 2, ground := Ground.data }, { on := 7, ground := Ground.data }], guard := none } : Oper)) (v := .bool false) rfl (by kernel_rfl) (by kernel_rfl) (by kernel_rfl) (fun _ _ _ h => h) (Or.inl ⟨by rfl, by intro w hSw; go_split_ands; go_simp⟩) (by assumption) ?_
    try simp only [Act.put, List.setIfInBounds_toArray, List.set_cons_zero, List.set_cons_succ]
    refine wpAnyH_take (i := 9) (oi := ({ dst := some 14, op := Op.move (Operand.tmp 13), type := 4, pos := "macro.go:51", after := #[{ on := 8, ground := Ground.data }, { on := 2, ground := Ground.chain }], guard := none } : Oper)) (v := .bool false) rfl (by kernel_rfl) (by kernel_rfl) (by kernel_rfl) (fun _ _ _ h => h) (Or.inl ⟨by rfl, by intro w hSw; go_split_ands; go_simp⟩) (by assumption) ?_
    try simp only [Act.put, List.setIfInBounds_toArray, List.set_cons_zero, List.set_cons_succ]
    refine wpAnyH_take (i := 10) (oi := ({ dst := some 15, op := Op.load 32 (Operand.tmp 3), type := 32, pos := "macro.go:51", after := #[{ on := 9, ground := Ground.guard }], guard := some (9, false) } : Oper)) (v := .agg #[.int .i64 k.kd, .int .i64 k.v, .string k.tx, .bool k.ct]) rfl (by kernel_rfl) (by kernel_rfl) (by kernel_rfl) (fun _ _ _ h => h) (Or.inl ⟨by rfl, by intro w hSw; go_split_ands; go_simp⟩) (by assumption) ?_
    try simp only [Act.put, List.setIfInBounds_toArray, List.set_cons_zero, List.set_cons_succ]
    refine wpAnyH_ready (rs := [11]) (by kernel_rfl) (by simp) ?_
    refine AllReadyH.cons (o := ({ dst := some 16, op := Op.call { callee := Callee.value (Operand.func 17), args := #[Operand.tmp 15], argTypes := #[32] }, type := 25, pos := "macro.go:51", after := #[{ on := 10, ground := Ground.data }, { on := 9, ground := Ground.chain }, { on := 9, ground := Ground.guard }], guard := some (9, false) } : Oper)) rfl (fun K hK => ?_) AllReadyH.nil
    go_simp
    go_at_call 17
    refine (check_any k.kd k.v k.tx k.ct _ (HT.out.below (HA.out.drew)) hs).mono ?_
    rintro e w1 ⟨rfl, hb1⟩
    have HB1 : Hid (Below w.heap.size w w1) := HA.out.drew.trans (hb1.mono (by simp))
    have HD := (Blk.drew HC.out).below hb1 (by simp)
    have hD1 := H1.out.below HB1.out hlt
    have d3 := hD1.cell 3
    have d2 := hD1.cell 2
    have d0 := hD1.cell 0
    clear hD1
    have e0 := HD.cell 0
    have e1 := HD.cell 1
    have e2 := HD.cell 2
    have e3 := HD.cell 3
    clear hb1 HD
    simp at d0 d2 d3
    rw [show mayB k.kd k.v k.tx k.ct = false from HK.out]
    simp only [chk, Bool.false_eq_true, if_false]
    go_wp2_with fail
    refine hK.out _ _ (by exact ⟨d0, d2, d3, e0, e1, e2, e3⟩) (fun hHeld2 => ?_)
    clear hK K hHeld
    try simp only [Act.put, List.setIfInBounds_toArray, List.set_cons_zero, List.set_cons_succ]
    refine wpAnyH_take (i := 12) (oi := ({ dst := some 17, op := Op.binOp BinOp.neq 25 (Operand.tmp 16) (Operand.const (Value.int IntKind.i64 0)) 25, type := 4, pos := "macro.go:51", after := #[{ on := 11, ground := Ground.data }, { on := 9, ground := Ground.guard }], guard := some (9, false) } : Oper)) (v := .bool true) rfl (by kernel_rfl) (by kernel_rfl) (by kernel_rfl) (fun _ _ _ h => h) (Or.inl ⟨by rfl, by intro w hSw; go_split_ands; go_simp⟩) (by assumption) ?_
    try simp only [Act.put, List.setIfInBounds_toArray, List.set_cons_zero, List.set_cons_succ]
    refine wpAnyH_take (i := 13) (oi := ({ dst := some 18, op := Op.pick (Operand.tmp 14) (Operand.const (Value.bool true)) (Operand.tmp 17), type := 4, pos := "macro.go:51", after := #[{ on := 9, ground := Ground.data }, { on := 12, ground := Ground.data }], guard := none } : Oper)) (v := .bool true) rfl (by kernel_rfl) (by kernel_rfl) (by kernel_rfl) (fun _ _ _ h => h) (Or.inl ⟨by rfl, by intro w hSw; go_split_ands; go_simp⟩) (by assumption) ?_
    try simp only [Act.put, List.setIfInBounds_toArray, List.set_cons_zero, List.set_cons_succ]
    refine wpAnyH_take (i := 14) (oi := ({ dst := some 19, op := Op.move (Operand.tmp 18), type := 4, pos := "macro.go:51", after := #[{ on := 13, ground := Ground.data }, { on := 11, ground := Ground.chain }], guard := none } : Oper)) (v := .bool true) rfl (by kernel_rfl) (by kernel_rfl) (by kernel_rfl) (fun _ _ _ h => h) (Or.inl ⟨by rfl, by intro w hSw; go_split_ands; go_simp⟩) (by assumption) ?_
    try simp only [Act.put, List.setIfInBounds_toArray, List.set_cons_zero, List.set_cons_succ]
    refine wpAnyH_take (i := 15) (oi := ({ dst := some 20, op := Op.move (Operand.tmp 0), type := 24, pos := "macro.go:51", after := #[{ on := 14, ground := Ground.guard }], guard := some (14, false) } : Oper)) (v := undef) rfl (by kernel_rfl) (by kernel_rfl) (by kernel_rfl) (fun _ _ _ h => h) (Or.inr ⟨by rfl, rfl⟩) (by assumption) ?_
    try simp only [Act.put, List.setIfInBounds_toArray, List.set_cons_zero, List.set_cons_succ]
    refine wpAnyH_take (i := 16) (oi := ({ dst := some 21, op := Op.nilCheck (Operand.tmp 20), type := 0, pos := "macro.go:51", after := #[{ on := 15, ground := Ground.data }, { on := 14, ground := Ground.guard }], guard := some (14, false) } : Oper)) (v := undef) rfl (by kernel_rfl) (by kernel_rfl) (by kernel_rfl) (fun _ _ _ h => h) (Or.inr ⟨by rfl, rfl⟩) (by assumption) ?_
    try simp only [Act.put, List.setIfInBounds_toArray, List.set_cons_zero, List.set_cons_succ]
    refine wpAnyH_take (i := 17) (oi := ({ dst := some 22, op := Op.fieldAddr 45 (Operand.tmp 21) 2, type := 0, pos := "macro.go:51", after := #[{ on := 16, ground := Ground.data }, { on := 14, ground := Ground.guard }], guard := some (14, false) } : Oper)) (v := undef) rfl (by kernel_rfl) (by kernel_rfl) (by kernel_rfl) (fun _ _ _ h => h) (Or.inr ⟨by rfl, rfl⟩) (by assumption) ?_
    try simp only [Act.put, List.setIfInBounds_toArray, List.set_cons_zero, List.set_cons_succ]
    refine wpAnyH_take (i := 18) (oi := ({ dst := some 23, op := Op.load 28 (Operand.tmp 22), type := 28, pos := "macro.go:51", after := #[{ on := 17, ground := Ground.data }, { on := 14, ground := Ground.guard }], guard := some (14, false) } : Oper)) (v := undef) rfl (by kernel_rfl) (by kernel_rfl) (by kernel_rfl) (fun _ _ _ h => h) (Or.inr ⟨by rfl, rfl⟩) (by assumption) ?_
    try simp only [Act.put, List.setIfInBounds_toArray, List.set_cons_zero, List.set_cons_succ]
    refine wpAnyH_take (i := 19) (oi := ({ dst := some 24, op := Op.call { callee := Callee.builtin Builtin.len, args := #[Operand.tmp 23], argTypes := #[28] }, type := 3, pos := "macro.go:51", after := #[{ on := 18, ground := Ground.data }, { on := 14, ground := Ground.guard }], guard := some (14, false) } : Oper)) (v := undef) rfl (by kernel_rfl) (by kernel_rfl) (by kernel_rfl) (fun _ _ _ h => h) (Or.inr ⟨by rfl, rfl⟩) (by assumption) ?_
    try simp only [Act.put, List.setIfInBounds_toArray, List.set_cons_zero, List.set_cons_succ]
    refine wpAnyH_take (i := 20) (oi := ({ dst := some 25, op := Op.move (Operand.tmp 0), type := 24, pos := "macro.go:51", after := #[{ on := 14, ground := Ground.guard }], guard := some (14, false) } : Oper)) (v := undef) rfl (by kernel_rfl) (by kernel_rfl) (by kernel_rfl) (fun _ _ _ h => h) (Or.inr ⟨by rfl, rfl⟩) (by assumption) ?_
    try simp only [Act.put, List.setIfInBounds_toArray, List.set_cons_zero, List.set_cons_succ]
    refine wpAnyH_take (i := 21) (oi := ({ dst := some 26, op := Op.nilCheck (Operand.tmp 25), type := 0, pos := "macro.go:51", after := #[{ on := 20, ground := Ground.data }, { on := 14, ground := Ground.guard }], guard := some (14, false) } : Oper)) (v := undef) rfl (by kernel_rfl) (by kernel_rfl) (by kernel_rfl) (fun _ _ _ h => h) (Or.inr ⟨by rfl, rfl⟩) (by assumption) ?_
    try simp only [Act.put, List.setIfInBounds_toArray, List.set_cons_zero, List.set_cons_succ]
    refine wpAnyH_take (i := 22) (oi := ({ dst := some 27, op := Op.fieldAddr 45 (Operand.tmp 26) 0, type := 0, pos := "macro.go:51", after := #[{ on := 21, ground := Ground.data }, { on := 14, ground := Ground.guard }], guard := some (14, false) } : Oper)) (v := undef) rfl (by kernel_rfl) (by kernel_rfl) (by kernel_rfl) (fun _ _ _ h => h) (Or.inr ⟨by rfl, rfl⟩) (by assumption) ?_
    try simp only [Act.put, List.setIfInBounds_toArray, List.set_cons_zero, List.set_cons_succ]
    refine wpAnyH_take (i := 23) (oi := ({ dst := some 28, op := Op.load 3 (Operand.tmp 27), type := 3, pos := "macro.go:51", after := #[{ on := 22, ground := Ground.data }, { on := 14, ground := Ground.guard }], guard := some (14, false) } : Oper)) (v := undef) rfl (by kernel_rfl) (by kernel_rfl) (by kernel_rfl) (fun _ _ _ h => h) (Or.inr ⟨by rfl, rfl⟩) (by assumption) ?_
    try simp only [Act.put, List.setIfInBounds_toArray, List.set_cons_zero, List.set_cons_succ]
    refine wpAnyH_take (i := 24) (oi := ({ dst := some 29, op := Op.binOp BinOp.geq 3 (Operand.tmp 24) (Operand.tmp 28) 3, type := 4, pos := "macro.go:51", after := #[{ on := 19, ground := Ground.data }, { on := 23, ground := Ground.data }, { on := 14, ground := Ground.guard }], guard := some (14, false) } : Oper)) (v := undef) rfl (by kernel_rfl) (by kernel_rfl) (by kernel_rfl) (fun _ _ _ h => h) (Or.inr ⟨by rfl, rfl⟩) (by assumption) ?_
    try simp only [Act.put, List.setIfInBounds_toArray, List.set_cons_zero, List.set_cons_succ]
    refine wpAnyH_take (i := 25) (oi := ({ dst := some 30, op := Op.pick (Operand.tmp 19) (Operand.const (Value.bool true)) (Operand.tmp 29), type := 4, pos := "macro.go:51", after := #[{ on := 14, ground := Ground.data }, { on := 24, ground := Ground.data }], guard := none } : Oper)) (v := .bool true) rfl (by kernel_rfl) (by kernel_rfl) (by kernel_rfl) (fun _ _ _ h => h) (Or.inl ⟨by rfl, by intro w hSw; go_split_ands; go_simp⟩) (by assumption) ?_
    try simp only [Act.put, List.setIfInBounds_toArray, List.set_cons_zero, List.set_cons_succ]
    refine wpAnyH_done (by kernel_rfl) ?_ _
    all_goals
      go_wp2_with fail
      go_meet
      exact ⟨rfl, HB1⟩
  case rest =>
    obtain ⟨rfl, hb⟩ := hcut
    go_wp2_with fail
    go_ret
    exact ⟨rfl, hb.out⟩
set_option maxHeartbeats 2000000 in
theorem do_full {B m rb most : Nat} {w : World} {keys begun : List KV} (k : KV) (h : Mc B m rb w most keys begun true) (ht : KeyTab w) (hs : k.tx.size ≤ 9223372036854775807) (hk : k.ok = true) (hf : most ≤ begun.length) :
   Calls Tryd.prog 9 #[.pointer (some ⟨m, 0, none⟩), .agg #[.int .i64 k.kd, .int .i64 k.v, .string k.tx, .bool k.ct]] w fun e w' => e = .returned (.bool false) ∧ Below w.heap.size w w' := by
  have hlt := h.lt
  have HT := Lib.hid ht
  have HK := Lib.hid hk
  have hge : decide ((most : Int) ≤ (begun.length : Int)) = true := by simpa using hf
  have hgf : (most : Int) ≤ (begun.length : Int) := by omega
  obtain ⟨_, _, _, _, _, _, ak, ck, bk, ab, cb, h1, _⟩ := h
  have H1 := Lib.hid h1
  clear h1 ht hk
  go_enter Tryd.func9, Tryd.ntmps9
  go_upto_region 1 with (fail)
  go_cut [30] (fun s30 wx => s30 = .bool true ∧ Hid (Below w.heap.size w wx))
  case first =>
    have HA := Lib.hid ((Below.refl w.heap.size w).alloc (Nat.le_refl _) (.cells #[.int .i64 k.kd, .int .i64 k.v, .string k.tx, .bool k.ct] 32))
    have HC := Lib.hid (Blk.new w #[.int .i64 k.kd, .int .i64 k.v, .string k.tx, .bool k.ct] 32)
    have hB1 := H1.out.below HA.out hlt
    have c3 := hB1.cell 3
    have c2 := hB1.cell 2
    have c0 := hB1.cell 0
    clear hB1
    have q0 := HC.out.cell 0
    have q1 := HC.out.cell 1
    have q2 := HC.out.cell 2
    have q3 := HC.out.cell 3
    simp at c0 c2 c3
    go_region_held3 (fun w' => w'.cell? ⟨m, 0, none⟩ = some (.int .i64 most) ∧ w'.cell? ⟨m, 2, none⟩ = some (.slice ab begun.length cb) ∧ w'.cell? ⟨m, 3, none⟩ = some (.bool true) ∧ w'.cell? ⟨w.heap.size, 0, none⟩ = some (.int .i64 k.kd) ∧ w'.cell? ⟨w.heap.size, 1, none⟩ = some (.int .i64 k.v) ∧ w'.cell? ⟨w.heap.size, 2, none⟩ = some (.string k.tx) ∧ w'.cell? ⟨w.heap.size, 3, none⟩ = some (.bool k.ct)) (first | exact ⟨c0, c2, c3, q0, q1, q2, q3⟩ | exact ⟨d0, d2, d3, e0, e1, e2, e3⟩) ((go_at_call 17; refine (check_any k.kd k.v k.tx k.ct _ (HT.out.below (HA.out.drew)) hs).mono ?_; rintro e w1 ⟨rfl, hb1⟩; have HB1 : Hid (Below w.heap.size w w1) := HA.out.drew.trans (hb1.mono (by simp)); have HD := (Blk.drew HC.out).below hb1 (by simp); have hD1 := H1.out.below HB1.out hlt; have d3 := hD1.cell 3; have d2 := hD1.cell 2; have d0 := hD1.cell 0; clear hD1; have e0 := HD.cell 0; have e1 := HD.cell 1; have e2 := HD.cell 2; have e3 := HD.cell 3; clear hb1 HD; simp at d0 d2 d3; rw [show mayB k.kd k.v k.tx k.ct = true from HK.out]; simp only [chk, if_true]))
    all_goals
      go_wp2_with fail
      go_meet
      exact ⟨rfl, HB1⟩
  case rest =>
    obtain ⟨rfl, hb⟩ := hcut
    go_wp2_with fail
    go_ret
    exact ⟨rfl, hb.out⟩
end Go.Proofs.YtgffmkbcppajoaaDoor
