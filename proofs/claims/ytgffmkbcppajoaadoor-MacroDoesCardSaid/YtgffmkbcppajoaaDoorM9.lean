/- The reference's Play. -/
import Derived.Test.YtgffmkbcppajoaaDoorM8
namespace Go.Proofs.YtgffmkbcppajoaaDoor
open Go.RowKit
theorem own_ad {w : World} {base size n : Nat} {e : TypeId} {v : Value} {xs : List Value} (h : w.ownsRow base e size v n xs) (o : Obj) : (w.alloc o).drew.ownsRow base e size v n xs := own_below (h.alloc o) (Below.refl _ _).drew
theorem rep_get (l : List KV) (n i : Nat) (h : i < n * l.length) : (rep n l)[i]? = l[i % l.length]? := by
  induction n with
  | zero => simp at h
  | succ k ih =>
    rw [rep_succ, List.getElem?_append]
    by_cases hk : i < k * l.length
    · rw [if_pos (by rw [rep_len]; exact hk), ih hk]
    · rw [if_neg (by rw [rep_len]; exact hk), rep_len]
      rw [Nat.succ_mul] at h
      have e : i % l.length = i - k * l.length := by
        have : i = (i - k * l.length) + k * l.length := by omega
        rw [this, Nat.add_mul_mod_self_right, Nat.mod_eq_of_lt (by omega)]; omega
      rw [e]
theorem rep_take (l : List KV) (n i : Nat) (h : i < n * l.length) (h0 : i % l.length < l.length) : kg ((rep n l).take (i + 1)) = kg ((rep n l).take i) ++ kg [l[i % l.length]] := by
  have hi : i < (rep n l).length := by rw [rep_len]; exact h
  have e := rep_get l n i h
  rw [List.getElem?_eq_getElem hi, List.getElem?_eq_getElem h0] at e
  rw [List.take_succ_eq_append_getElem hi, kg_app, Option.some.inj e]
set_option maxHeartbeats 1000000 in
theorem rplay_mode (la na : Option Addr) (ln lc nn nc : Nat) (n : Int) (w : World) :
   Calls Tryd.prog 11 #[.agg #[.slice la ln lc, .slice na nn nc, .bool true], .int .i64 n] w fun e w' => e = .returned (.tuple #[.slice none 0 0, .int .i64 12]) ∧ Below w.heap.size w w' := by
  go_enter Tryd.func11, Tryd.ntmps11
  go_wp2_with fail
  go_ret2
  exact ⟨rfl, by go_grown⟩
set_option maxHeartbeats 1000000 in
theorem rplay_none (la na : Option Addr) (lc nn nc : Nat) (n : Int) (w : World) :
   Calls Tryd.prog 11 #[.agg #[.slice la 0 lc, .slice na nn nc, .bool false], .int .i64 n] w fun e w' => e = .returned (.tuple #[.slice none 0 0, .int .i64 7]) ∧ Below w.heap.size w w' := by
  go_enter Tryd.func11, Tryd.ntmps11
  go_wp2_with fail
  go_ret2
  exact ⟨rfl, by go_grown⟩
set_option maxHeartbeats 1000000 in
theorem rplay_range (la na : Option Addr) (ln lc nn nc : Nat) (n : Int) (w : World) (h0 : 0 < ln) (hn : n < 1) :
   Calls Tryd.prog 11 #[.agg #[.slice la ln lc, .slice na nn nc, .bool false], .int .i64 n] w fun e w' => e = .returned (.tuple #[.slice none 0 0, .int .i64 3]) ∧ Below w.heap.size w w' := by
  have hz : ((ln : Int) == 0) = false := by rw [beq_eq_false_iff_ne]; omega
  go_enter Tryd.func11, Tryd.ntmps11
  go_wp2_with fail
  go_ret2
  exact ⟨rfl, by go_grown⟩
set_option maxHeartbeats 1000000 in
theorem rplay_big (la na : Option Addr) (ln lc nn nc : Nat) (n : Int) (w : World) (h0 : 0 < ln) (hl : ln ≤ 9999) (hn : ¬ n < 1) (hq : 9999 < n * ln) :
   Calls Tryd.prog 11 #[.agg #[.slice la ln lc, .slice na nn nc, .bool false], .int .i64 n] w fun e w' => e = .returned (.tuple #[.slice none 0 0, .int .i64 4]) ∧ Below w.heap.size w w' := by
  have hz : ((ln : Int) == 0) = false := by rw [beq_eq_false_iff_ne]; omega
  by_cases h9 : 9999 < n
  · go_enter Tryd.func11, Tryd.ntmps11
    go_wp2_with fail
    go_ret2
    exact ⟨rfl, by go_grown⟩
  · have hmul : IntKind.i64.wrap (n * (ln : Int)) = n * ln := by
      have h1 : n * (ln : Int) ≤ 9999 * 9999 := Int.mul_le_mul (by omega) (by omega) (by omega) (by omega)
      rw [IntKind.wrap_i64]; omega
    go_enter Tryd.func11, Tryd.ntmps11
    go_wp2_with fail
    go_ret2
    exact ⟨rfl, by go_grown⟩
set_option maxHeartbeats 2000000 in
theorem rplay_yes (la na : Option Addr) (lc nn nc bl : Nat) (l : List KV) (n : Nat) (w : World) (h0 : 0 < l.length) (hl : l.length ≤ 9999) (hn : 1 ≤ n) (hq : n * l.length ≤ 9999) (hkv : Kv w bl la lc l) :
   Calls Tryd.prog 11 #[.agg #[.slice la l.length lc, .slice na nn nc, .bool false], .int .i64 n] w fun e w' => ∃ v, e = .returned (.tuple #[v, .int .i64 0]) ∧ w'.ownsRow w.heap.size 32 4 v (n * l.length) (kg (rep n l)) ∧ Below w.heap.size w w' := by
  have hz : ((l.length : Int) == 0) = false := by rw [beq_eq_false_iff_ne]; omega
  have hn9 : n ≤ 9999 := Nat.le_trans (Nat.le_mul_of_pos_right n h0) hq
  have h9 : ¬ (9999 : Int) < n := by omega
  have hn1 : ¬ (n : Int) < 1 := by omega
  have hmul : IntKind.i64.wrap ((n : Int) * (l.length : Int)) = ((n * l.length : Nat) : Int) := by rw [← Int.natCast_mul, IntKind.wrap_i64]; omega
  have HK := Lib.hid hkv
  clear hkv
  go_enter Tryd.func11, Tryd.ntmps11
  go_wp2_with fail
  go_loopw [6, 7] (fun v p wr => ∃ i : Nat, i ≤ n * l.length ∧ p = .int .i64 i ∧ wr.ownsRow (w.heap.size + 1) 32 4 v i (kg ((rep n l).take i)) ∧ Below (w.heap.size + 1) (w.alloc (.cells #[.slice la l.length lc, .slice na nn nc, .bool false] 30)) wr) (fun _ p _ => n * l.length - (intOf p).toNat)
  case atStart => exact ⟨0, Nat.zero_le _, rfl, World.ownsRow_nil _ _ _ _, Below.refl _ _⟩
  case round =>
    obtain ⟨i, hi, rfl, ho, hb⟩ := hrel
    have HO := Lib.hid ho
    have HB := Lib.hid hb
    have HBX := Lib.hid ((Blk.new w #[.slice la l.length lc, .slice na nn nc, .bool false] 30).below hb (by omega))
    have hsz := hb.size
    simp at hsz
    have b0 := HBX.out.cell 0
    have b1 := HBX.out.cell 1
    have b2 := HBX.out.cell 2
    simp at b0 b1 b2
    clear ho hb
    by_cases hlt : i < n * l.length
    · have hlt' : (i : Int) < (n : Int) * (l.length : Int) := by rw [← Int.natCast_mul]; omega
      have hmod := Nat.mod_lt i h0
      have HT := Lib.hid (rep_take l n i hlt hmod)
      obtain ⟨off, hbl, rfl, hc⟩ := HK.out.2.2.2.at h0
      have hbw : bl < wr.heap.size := by omega
      have hW : Below w.heap.size w wr := ((Below.refl _ _).alloc (Nat.le_refl _) _).trans (HB.out.mono (by simp))
      obtain ⟨c0, c1, c2, c3⟩ := hc _ hmod
      have htm : (i : Int).tmod (l.length : Int) = ((i % l.length : Nat) : Int) := by rw [Int.tmod_eq_emod_of_nonneg (by omega)]; rfl
      obtain ⟨x, hx⟩ : ∃ x, l[i % l.length] = x := ⟨_, rfl⟩
      rw [hx] at c0 c1 c2 c3
      rw [hx] at HT
      have HM : Hid (i % l.length < l.length) := hmod
      clear hc hx
      obtain ⟨j, hj⟩ : ∃ j, i % l.length = j := ⟨_, rfl⟩
      rw [hj] at c0 c1 c2 c3 htm
      have hj' : (j : Int) < (l.length : Int) := by omega
      have hwm : IntKind.i64.wrap ((i : Int).tmod (l.length : Int)) = (j : Int) := by rw [htm, IntKind.wrap_i64]; omega
      have hem : (i : Int) % (l.length : Int) = (j : Int) := by rw [← htm, Int.tmod_eq_emod_of_nonneg (by omega)]
      have hne : ¬ (l.length : Int) = 0 := by omega
      have hne2 : ¬ l.length = 0 := by omega
      have hne3 : ¬ l = [] := by rintro rfl; simp at h0
      have E0 := Lib.hid c0
      have E1 := Lib.hid c1
      have E2 := Lib.hid c2
      have E3 := Lib.hid c3
      have hcell := cellsBelow hW
      rw [← hcell _ _ hbl] at c0 c1 c2 c3
      have hmax : i + 1 ≤ maxLen := by unfold maxLen; omega
      clear hmod HM hj hcell hW
      go_wp2_with fail
      go_region_held3 (fun w' => w'.cell? ⟨w.heap.size, 0, none⟩ = some (.slice (some ⟨bl, off, none⟩) l.length lc) ∧ w'.cell? ⟨bl, off + j * 4, none⟩ = some (.int .i64 x.kd) ∧ w'.cell? ⟨bl, off + j * 4 + 1, none⟩ = some (.int .i64 x.v) ∧ w'.cell? ⟨bl, off + j * 4 + 2, none⟩ = some (.string x.tx) ∧ w'.cell? ⟨bl, off + j * 4 + 3, none⟩ = some (.bool x.ct)) (first | exact ⟨b0, c0, c1, c2, c3⟩ | exact ⟨d4, d0, d1, d2, d3⟩ | exact ⟨al_cell b0 _, al_cell c0 _, al_cell c1 _, al_cell c2 _, al_cell c3 _⟩) ((first | (refine step_app rfl (.tmp 35) (.tmp 45) 28 rfl (base := w.heap.size + 1) (n := i) (m := 1) (xs := kg ((rep n l).take i)) Tryd.underlying28 info32 rfl (Nat.succ_pos 3) rfl rfl (own_ad HO.out _) (kg_len [x]) (src_lit (Blk.drew (Blk.new wr #[.int .i64 x.kd, .int .i64 x.v, .string x.tx, .bool x.ct] 32))) (kg_one [x]) (by simp) hmax (by omega) (by simp; omega) ?_; intro v4 w4 ho4 hg4 hn4; have HO4 := Lib.hid (show w4.ownsRow (w.heap.size + 1) 32 4 v4 (i + 1) (kg ((rep n l).take (i + 1))) by (rw [HT.out]; exact ho4.out)); have HB4 : Hid (Below (w.heap.size + 1) (w.alloc (.cells #[.slice (some ⟨bl, off, none⟩) l.length lc, .slice na nn nc, .bool false] 30)) w4) := ((Below.alloc HB.out (by omega) _).drew).grown hg4.out (by simp; omega) (fun q hq => (HO.out.lt q hq).1); clear ho4 hg4 hn4; have d4 := ((Blk.new w #[.slice (some ⟨bl, off, none⟩) l.length lc, .slice na nn nc, .bool false] 30).below HB4.out (by omega)).cell 0; have hcell4 := cellsBelow (((Below.refl _ _).alloc (Nat.le_refl _) _).trans (HB4.out.mono (by simp))); have d0 := (hcell4 _ _ hbl).trans E0.out; have d1 := (hcell4 _ _ hbl).trans E1.out; have d2 := (hcell4 _ _ hbl).trans E2.out; have d3 := (hcell4 _ _ hbl).trans E3.out; clear hcell4; simp at d4)))
      all_goals
        go_wp2_with fail
        go_roundw
        case rel => exact ⟨i + 1, by omega, by go_num, HO4.out, HB4.out⟩
        case measure => simp [intOf]; omega
    · have hge : ¬ (i : Int) < (n : Int) * (l.length : Int) := by rw [← Int.natCast_mul]; omega
      have hie : i = n * l.length := by omega
      subst hie
      go_wp2_with fail
      go_ret2
      refine ⟨_, rfl, ?_, ?_⟩
      · have h := HO.out.mono (show w.heap.size ≤ w.heap.size + 1 by omega)
        rw [List.take_of_length_le (by rw [rep_len]; exact Nat.le_refl _)] at h
        exact h
      · exact ((Below.refl _ _).alloc (Nat.le_refl _) _).trans (HB.out.mono (by simp))
end Go.Proofs.YtgffmkbcppajoaaDoor
