/- The macro's layer$1: the keys, n times. -/
import Derived.Test.YtgffmkbcppajoaaDoorM5
import Derived.Test.YtgffmkbcppajoaaDoorMake
namespace Go.Proofs.YtgffmkbcppajoaaDoor
open Go.RowKit
def rep (k : Nat) (l : List KV) : List KV := (List.replicate k l).flatten
theorem rep_zero (l : List KV) : rep 0 l = [] := rfl
theorem rep_succ (k : Nat) (l : List KV) : rep (k + 1) l = rep k l ++ l := by simp [rep, List.replicate_succ']
theorem rep_len (k : Nat) (l : List KV) : (rep k l).length = k * l.length := by
  induction k with
  | zero => simp [rep]
  | succ k ih => rw [rep_succ, List.length_append, ih, Nat.succ_mul]
set_option maxHeartbeats 2000000 in
theorem lay_any {m q most : Nat} {begunv : Value} {ak : Option Addr} {ck bk : Nat} {w : World} (keys : List KV) (n : Nat) (hn : n * keys.length ≤ 9999) (hn1 : n ≤ 9999)
    (h1 : Blk w m #[.int .i64 most, .slice ak keys.length ck, begunv, .bool false] 45) (hkv : Kv w bk ak ck keys) (hq : Blk w q #[.pointer (some ⟨m, 0, none⟩)] 24) :
   Calls Tryd.prog 23 #[.int .i64 n, .pointer (some ⟨q, 0, none⟩)] w fun e w' => ∃ v, e = .returned v ∧ w'.ownsRow w.heap.size 32 4 v (n * keys.length) (kg (rep n keys)) ∧ Below w.heap.size w w' := by
  have H1 := Lib.hid h1
  have HK := Lib.hid hkv
  have HQ := Lib.hid hq
  have c1 := h1.cell 1
  have q0 := hq.cell 0
  have hmul : IntKind.i64.wrap ((n : Int) * (keys.length : Int)) = ((n * keys.length : Nat) : Int) := by rw [← Int.natCast_mul, IntKind.wrap_i64]; omega
  have q0' := q0.trans (show _ = some (Value.pointer (some ⟨m, 0, none⟩)) from rfl)
  simp at c1
  clear h1 hkv hq q0
  go_enter Tryd.func23, Tryd.ntmps23
  go_wp2_with (at_make; go_must (refine wpList_make_blk _ rfl _ _ 28 rfl 32 _ 4 40 Tryd.underlying28 info32 .i64 .i64 _ _ 0 (n * keys.length) rfl rfl (by simp) (by first | exact hmul | simp) (Nat.zero_le _) (by omega) (by unfold maxLen; omega) ?nx))
  case nx =>
    intro w1 hm1 hb1 hs1
    have HO1 : Hid (w1.ownsRow w.heap.size 32 4 (.slice (some ⟨w.heap.size, 0, none⟩) 0 (n * keys.length)) 0 []) :=
      ⟨rfl, .inr ⟨_, _, _, rfl, Nat.le_refl _, hm1.out, Nat.zero_le _, by unfold maxLen; omega, by rw [size_madeCells], rfl⟩⟩
    have HB1 := Lib.hid hb1.out
    clear hm1 hs1 hb1
    go_wp2_with fail
    go_loopw [14, 4] (fun p v wr => ∃ k : Nat, k ≤ n ∧ p = .int .i64 k ∧ wr.ownsRow w.heap.size 32 4 v (k * keys.length) (kg (rep k keys)) ∧ Below w.heap.size w wr) (fun p _ _ => n - (intOf p).toNat)
    case atStart => exact ⟨0, Nat.zero_le _, rfl, by rw [Nat.zero_mul]; exact HO1.out, HB1.out⟩
    case round =>
      obtain ⟨k, hk, rfl, ho, hb⟩ := hrel
      have HO := Lib.hid ho
      have HB := Lib.hid hb
      have hbs := hb.size
      have c1' := (H1.out.below hb H1.out.lt).cell 1
      have q0 := (HQ.out.below hb HQ.out.lt).cell 0
      have q0' := q0.trans (show _ = some (Value.pointer (some ⟨m, 0, none⟩)) from rfl)
      have HKR := Lib.hid (HK.out.below hb)
      simp at c1'
      clear ho hb q0
      by_cases hkn : k < n
      · have hkl : k * keys.length + keys.length ≤ n * keys.length := by
          have := Nat.mul_le_mul_right keys.length (show k + 1 ≤ n from hkn)
          rwa [Nat.succ_mul] at this
        go_wp2_with (at_builtin; go_must (refine wpList_app rfl (.tmp 16) (.tmp 20) 28 rfl (base := w.heap.size) (n := k * keys.length) (xs := kg (rep k keys)) Tryd.underlying28 info32 rfl (Nat.succ_pos 3) rfl rfl HO.out (kg_len keys) ?src (kg_one keys) ?none1 ?c1 ?c2 hbs ?nx2))
        case src => exact fun h0 => kl_src HKR.out.2.2.2 h0
        case none1 => exact HKR.out.2.2.1
        case c1 => unfold maxLen; omega
        case c2 => omega
        case nx2 =>
          intro v6 w6 ho6 hg6 _
          have HO6 : Hid (w6.ownsRow w.heap.size 32 4 v6 ((k + 1) * keys.length) (kg (rep (k + 1) keys))) := by
            show World.ownsRow _ _ _ _ _ _ _
            rw [rep_succ, kg_app, Nat.succ_mul]
            exact ho6.out
          have HB6 := Lib.hid (HB.out.grown hg6.out hbs (fun x hx => (HO.out.lt x hx).1))
          clear ho6 hg6 hkl
          go_wp2_with fail
          go_roundw
          case rel => exact ⟨k + 1, by omega, by go_num, HO6.out, HB6.out⟩
          case measure => simp [intOf]; omega
      · have hke : k = n := by omega
        subst hke
        go_wp2_with fail
        go_ret
        exact ⟨_, rfl, HO.out, HB.out⟩
end Go.Proofs.YtgffmkbcppajoaaDoor
