/- Signs and numbers in memory; the reference's Low, High, Least, Ints, Values. -/
import Derived.Test.YtoblaooomphdoaaProg
import Derived.Test.YtoblaooomphdoaaApp
import Derived.Test.YtoblaooomphdoaaMake
import Derived.Test.YtoblaooomphdoaaD1
import Derived.Handy
import Derived.WalkSpells
import Derived.WalkLawsBesides
import Derived.Outline
import Derived.Deep.QuietTactic
import Derived.BigQuiet
import Derived.Deep.RegionLaw
import Derived.Deep.DeepCutAuto
import Derived.StillTailTactics
import Derived.Deep.RegionWith
import Derived.Deep.RegionHeld3
import Derived.Deep.AppendLies
namespace Go.Proofs.Ytoblaooomphdoaa
open Go.RowKit
theorem addr_add (b off j : Nat) : (⟨b, off, none⟩ : Addr).add j = ⟨b, off + j, none⟩ := by unfold Addr.add; split <;> simp_all
theorem below_drewN {B : Nat} {a w : World} (h : Below B a w) (n : Nat) : Below B a (w.drewN n) := ⟨h.os, h.tape, h.output, h.size, h.block⟩
theorem cellsBelow {B : Nat} {w w' : World} (h : Below B w w') : ∀ b o, b < B → w'.cell? ⟨b, o, none⟩ = w.cell? ⟨b, o, none⟩ := fun b o hb => h.cell (p := ⟨b, o, none⟩) hb
theorem frozenBelow {B : Nat} {w w' : World} (h : Below B w w') : ∀ b o, b < B → w'.frozen? ⟨b, o, none⟩ = w.frozen? ⟨b, o, none⟩ := fun b o hb => h.frozen (p := ⟨b, o, none⟩) hb
theorem new_at (w : World) (cs : Array Value) (t : TypeId) {b : Nat} (h : b = w.heap.size) : Blk (w.alloc (.cells cs t)) b cs t := by rw [h]; exact Blk.new w cs t
theorem Blk.grown {w w' : World} {b : Nat} {cs : Array Value} {t : TypeId} {row : Option Nat} (h : Blk w b cs t) (hg : w.grownBy w' row) (hne : row ≠ some b) : Blk w' b cs t := (hg.block b h.lt (fun e => hne e.symm)).trans h
theorem own_ad {w : World} {base size n : Nat} {e : TypeId} {v : Value} {xs : List Value} (h : w.ownsRow base e size v n xs) (o : Obj) : (w.alloc o).drew.ownsRow base e size v n xs := own_below (h.alloc o) (Below.refl _ _).drew
/-- Signs as cells. -/
def sg (l : List (Int × Int)) : List Value := l.flatMap fun x => [.int .i64 x.1, .int .i64 x.2]
theorem sg_len (l : List (Int × Int)) : (sg l).length = l.length * 2 := by
  induction l with
  | nil => rfl
  | cons x l ih => simp [sg] at ih ⊢; omega
theorem sg_app (l m : List (Int × Int)) : sg (l ++ m) = sg l ++ sg m := by simp [sg]
theorem sg_nil : sg [] = [] := rfl
theorem sg_cons (x : Int × Int) (l : List (Int × Int)) : sg (x :: l) = .int .i64 x.1 :: .int .i64 x.2 :: sg l := by simp [sg]
theorem sg_at (l : List (Int × Int)) (i : Nat) (h : i < l.length) : (sg l)[i * 2]? = some (.int .i64 l[i].1) ∧ (sg l)[i * 2 + 1]? = some (.int .i64 l[i].2) := by
  induction l generalizing i with
  | nil => simp at h
  | cons x l ih =>
    rw [sg_cons]
    cases i with
    | zero => exact ⟨rfl, rfl⟩
    | succ i =>
      obtain ⟨a, b⟩ := ih i (by simpa using h)
      rw [show (i + 1) * 2 = i * 2 + 1 + 1 by omega, List.getElem?_cons_succ, List.getElem?_cons_succ, List.getElem?_cons_succ, List.getElem?_cons_succ]
      exact ⟨by simpa using a, by simpa using b⟩
theorem sg_one (l : List (Int × Int)) : ∀ v ∈ sg l, v.oneCell' = true := by
  intro v hv
  simp only [sg, List.mem_flatMap, List.mem_cons, List.not_mem_nil, or_false] at hv
  obtain ⟨x, _, rfl | rfl⟩ := hv <;> rfl
theorem sg_take (l : List (Int × Int)) (k : Nat) : sg (l.take k) = (sg l).take (k * 2) := by
  induction l generalizing k with
  | nil => simp [sg]
  | cons x l ih =>
    cases k with
    | zero => simp [sg]
    | succ k => rw [List.take_succ_cons, sg_cons, sg_cons, show (k + 1) * 2 = k * 2 + 1 + 1 by omega, List.take_succ_cons, List.take_succ_cons, ih]
theorem sg_drop (l : List (Int × Int)) (k : Nat) : sg (l.drop k) = (sg l).drop (k * 2) := by
  induction l generalizing k with
  | nil => simp [sg]
  | cons x l ih =>
    cases k with
    | zero => simp
    | succ k => rw [List.drop_succ_cons, sg_cons, show (k + 1) * 2 = k * 2 + 1 + 1 by omega, List.drop_succ_cons, List.drop_succ_cons, ih]
/-- A slice's address at which signs lie, in block b. -/
def Sl (w : World) (b : Nat) (ao : Option Addr) (l : List (Int × Int)) : Prop := 0 < l.length → b < w.heap.size ∧ ∃ off, ao = some ⟨b, off, none⟩ ∧ ∀ j u, (sg l)[j]? = some u → w.cell? ⟨b, off + j, none⟩ = some u
theorem Sl.keep {S : Nat → Prop} {w w' : World} {b : Nat} {ao : Option Addr} {l : List (Int × Int)} (h : Sl w b ao l) (hk : Keep S w w') (hb : ¬ S b) : Sl w' b ao l := by
  intro h0
  obtain ⟨h1, off, h2, h3⟩ := h h0
  exact ⟨Nat.lt_of_lt_of_le h1 hk.size, off, h2, fun j u hj => (hk.cell (p := ⟨b, off + j, none⟩) h1 hb).trans (h3 j u hj)⟩
theorem Sl.below {w w' : World} {b : Nat} {ao : Option Addr} {l : List (Int × Int)} (h : Sl w b ao l) (hk : Below w.heap.size w w') : Sl w' b ao l := h.keep (S := fun _ => False) (Keep.of_below hk |>.mono (fun _ _ h => h)) (fun h => h)
theorem Sl.at {w : World} {b : Nat} {ao : Option Addr} {l : List (Int × Int)} (h : Sl w b ao l) (h0 : 0 < l.length) : ∃ off, b < w.heap.size ∧ ao = some ⟨b, off, none⟩ ∧ ∀ (k : Nat) (hk : k < l.length), w.cell? ⟨b, off + k * 2, none⟩ = some (.int .i64 l[k].1) ∧ w.cell? ⟨b, off + k * 2 + 1, none⟩ = some (.int .i64 l[k].2) := by
  obtain ⟨h1, off, h2, h3⟩ := h h0
  refine ⟨off, h1, h2, fun k hk => ?_⟩
  obtain ⟨a, b⟩ := sg_at l k hk
  exact ⟨h3 _ _ a, h3 _ _ b⟩
theorem Sl.nil (w : World) (b : Nat) (ao : Option Addr) : Sl w b ao [] := fun h => by simp at h
/-- A slice of signs: its address, its capacity, and where its signs lie. -/
def Sv (w : World) (b : Nat) (ao : Option Addr) (cap : Nat) (l : List (Int × Int)) : Prop := l.length ≤ cap ∧ cap ≤ maxLen ∧ (ao = none → cap = 0) ∧ Sl w b ao l
theorem Sv.keep {S : Nat → Prop} {w w' : World} {b cap : Nat} {ao : Option Addr} {l : List (Int × Int)} (h : Sv w b ao cap l) (hk : Keep S w w') (hb : ¬ S b) : Sv w' b ao cap l := ⟨h.1, h.2.1, h.2.2.1, h.2.2.2.keep hk hb⟩
theorem Sv.below {w w' : World} {b cap : Nat} {ao : Option Addr} {l : List (Int × Int)} (h : Sv w b ao cap l) (hk : Below w.heap.size w w') : Sv w' b ao cap l := ⟨h.1, h.2.1, h.2.2.1, h.2.2.2.below hk⟩
theorem Sl.take {w : World} {b : Nat} {ao : Option Addr} {l : List (Int × Int)} (h : Sl w b ao l) (k : Nat) : Sl w b ao (l.take k) := by
  intro h0
  obtain ⟨h1, off, h2, h3⟩ := h (by simp at h0; omega)
  refine ⟨h1, off, h2, fun j u hj => h3 j u ?_⟩
  rw [sg_take] at hj
  rw [List.getElem?_take] at hj
  split at hj
  · exact hj
  · cases hj
theorem Sl.drop {w : World} {b : Nat} {ao : Option Addr} {l : List (Int × Int)} (h : Sl w b ao l) (k : Nat) : Sl w b (ao.map fun x => x.add (k * 2)) (l.drop k) := by
  intro h0
  obtain ⟨h1, off, rfl, h3⟩ := h (by simp at h0; omega)
  refine ⟨h1, off + k * 2, ?_, fun j u hj => ?_⟩
  · show some (Addr.add _ _) = _
    rw [addr_add]
  · rw [sg_drop, List.getElem?_drop] at hj
    rw [Nat.add_assoc]
    exact h3 _ u hj
/-- 's[k:]'. -/
theorem Sl.from {w : World} {b cap : Nat} {ao : Option Addr} {l : List (Int × Int)} (h : Sl w b ao l) (k : Nat) (hc : l.length ≤ cap) : Sl w b (if cap = k then ao else ao.map fun x => x.add (k * 2)) (l.drop k) := by
  by_cases hk : cap = k
  · intro h0
    simp at h0; omega
  · rw [if_neg hk]; exact h.drop k
theorem own_sv {w : World} {base : Nat} {v : Value} {l : List (Int × Int)} {n : Nat} (h : w.ownsRow base 43 2 v n (sg l)) (hn : n = l.length) : ∃ ao cap b, v = .slice ao l.length cap ∧ base ≤ b ∧ Sv w b ao cap l := by
  subst hn
  obtain ⟨ao, cap, b, rfl, h1, h2, h3, h4, h5⟩ := own_slice h
  refine ⟨ao, cap, b, rfl, h4, h1, h2, h3, fun h0 => ?_⟩
  obtain ⟨a, c, d⟩ := h5 h0
  exact ⟨a, 0, c, fun j u hj => by rw [Nat.zero_add]; exact d j u hj⟩
/-- Numbers as cells. -/
def ig (l : List Int) : List Value := l.map fun n => .int .i64 n
theorem ig_len (l : List Int) : (ig l).length = l.length := by simp [ig]
theorem ig_app (l m : List Int) : ig (l ++ m) = ig l ++ ig m := by simp [ig]
theorem ig_one (l : List Int) : ∀ v ∈ ig l, v.oneCell' = true := by
  intro v hv; simp only [ig, List.mem_map] at hv; obtain ⟨n, _, rfl⟩ := hv; rfl
theorem ig_at (l : List Int) (i : Nat) (h : i < l.length) : (ig l)[i]? = some (.int .i64 l[i]) := by simp [ig, h]
theorem info43 : (Try.prog.info? 43).map (fun i => (i.zero, i.size, i.bytes)) = some (some (.agg #[.int .i64 0, .int .i64 0]), 2, 16) := by kernel_rfl
theorem info3 : (Try.prog.info? 3).map (fun i => (i.zero, i.size, i.bytes)) = some (some (.int .i64 0), 1, 8) := by kernel_rfl
/-- Signs' values. -/
def vs (l : List (Int × Int)) : List Int := l.map (·.1)
theorem vs_len (l : List (Int × Int)) : (vs l).length = l.length := by simp [vs]
theorem low_any (a b : Int) (w : World) : Calls Try.prog 24 #[.int .i64 a, .int .i64 b] w fun e w' => e = .returned (.int .i64 (min a b)) ∧ w = w' := by
  by_cases h : a < b
  · go_enter Try.func24, Try.ntmps24
    go_wp2
    go_ret
    exact ⟨congrArg (fun n => Ending.returned (.int .i64 n)) (by omega), rfl⟩
  · go_enter Try.func24, Try.ntmps24
    go_wp2
    go_ret
    exact ⟨congrArg (fun n => Ending.returned (.int .i64 n)) (by omega), rfl⟩
theorem high_any (a b : Int) (w : World) : Calls Try.prog 8 #[.int .i64 a, .int .i64 b] w fun e w' => e = .returned (.int .i64 (max a b)) ∧ w = w' := by
  by_cases h : b < a
  · go_enter Try.func8, Try.ntmps8
    go_wp2
    go_ret
    exact ⟨congrArg (fun n => Ending.returned (.int .i64 n)) (by omega), rfl⟩
  · go_enter Try.func8, Try.ntmps8
    go_wp2
    go_ret
    exact ⟨congrArg (fun n => Ending.returned (.int .i64 n)) (by omega), rfl⟩
theorem least_any (a b c : Int) (w : World) : Calls Try.prog 20 #[.int .i64 a, .int .i64 b, .int .i64 c] w fun e w' => e = .returned (.int .i64 (min a (min b c))) ∧ w = w' := by
  go_enter Try.func20, Try.ntmps20
  go_wp2_with fail
  refine (low_any _ _ _).mono ?_
  rintro e w' ⟨rfl, rfl⟩
  go_wp2_with fail
  refine (low_any _ _ _).mono ?_
  rintro e w' ⟨rfl, rfl⟩
  go_wp2_with fail
  go_ret
  exact ⟨rfl, rfl⟩
/-- Numbers in a slice. -/
def Il (w : World) (b : Nat) (ao : Option Addr) (l : List Int) : Prop := 0 < l.length → b < w.heap.size ∧ ∃ off, ao = some ⟨b, off, none⟩ ∧ ∀ (k : Nat) (hk : k < l.length), w.cell? ⟨b, off + k, none⟩ = some (.int .i64 l[k])
theorem Il.below {w w' : World} {b : Nat} {ao : Option Addr} {l : List Int} (h : Il w b ao l) (hb : Below w.heap.size w w') : Il w' b ao l := by
  intro h0
  obtain ⟨h1, off, h2, h3⟩ := h h0
  exact ⟨Nat.lt_of_lt_of_le h1 hb.size, off, h2, fun k hk => (hb.cell (p := ⟨b, off + k, none⟩) h1).trans (h3 k hk)⟩
theorem own_il {w : World} {base : Nat} {v : Value} {l : List Int} {n : Nat} (h : w.ownsRow base 3 1 v n (ig l)) (hn : n = l.length) : ∃ ao cap b, v = .slice ao l.length cap ∧ base ≤ b ∧ l.length ≤ cap ∧ (ao = none → cap = 0) ∧ Il w b ao l := by
  subst hn
  obtain ⟨ao, cap, b, rfl, h1, h2, h3, h4, h5⟩ := own_slice h
  refine ⟨ao, cap, b, rfl, h4, h1, h3, fun h0 => ?_⟩
  obtain ⟨a, c, d⟩ := h5 h0
  exact ⟨a, 0, c, fun k hk => by rw [Nat.zero_add]; exact d k _ (ig_at l k hk)⟩
set_option maxHeartbeats 1000000 in
theorem ints_any (b1 b2 : Nat) (a1 a2 : Option Addr) (c1 c2 : Nat) (l m : List Int) (w : World) (h1 : Il w b1 a1 l) (h2 : Il w b2 a2 m) (hl : l.length ≤ 1000000) :
   Calls Try.prog 9 #[.slice a1 l.length c1, .slice a2 m.length c2] w fun e w' => e = .returned (.bool (decide (l = m))) ∧ Below w.heap.size w w' := by
  have HS1 := Lib.hid h1
  have HS2 := Lib.hid h2
  clear h1 h2
  by_cases hlm : l.length = m.length
  · have hne : ((l.length : Int) != (m.length : Int)) = false := by simp [hlm]
    have HLM := Lib.hid hlm
    clear hlm
    go_enter Try.func9, Try.ntmps9
    go_wp2_with fail
    go_loopw [5] (fun i wr => ∃ k : Nat, k ≤ l.length ∧ i = .int .i64 k ∧ Hid (l.take k = m.take k) ∧ ∃ n, wr = w.drewN n) (fun i _ => l.length - (intOf i).toNat)
    case atStart => exact ⟨0, Nat.zero_le _, rfl, rfl, 0, rfl⟩
    case round =>
      obtain ⟨k, hk, rfl, htk, n, rfl⟩ := hrel
      by_cases hlt : k < l.length
      · have hlt2 : k < m.length := by have := HLM.out; omega
        obtain ⟨hb1, off1, rfl, hc1⟩ := HS1.out (by omega)
        obtain ⟨hb2, off2, rfl, hc2⟩ := HS2.out (by omega)
        have c0 := hc1 k hlt
        have d0 := hc2 k hlt2
        clear hc1 hc2
        have hlt' : (k : Int) < l.length := by omega
        have hlt2' : (k : Int) < m.length := by omega
        obtain ⟨x, hx⟩ : ∃ x, l[k] = x := ⟨_, rfl⟩
        obtain ⟨y, hy⟩ : ∃ y, m[k] = y := ⟨_, rfl⟩
        rw [hx] at c0
        rw [hy] at d0
        have HX := Lib.hid hx
        have HY := Lib.hid hy
        clear hx hy
        by_cases hxy : x = y
        · subst hxy
          go_wp2_with fail
          go_quiet (fail)
          go_wp2_with fail
          exact ⟨⟨k + 1, by omega, by go_num, (by show _ = _; rw [List.take_succ_eq_append_getElem hlt, List.take_succ_eq_append_getElem hlt2, htk.out, HX.out, HY.out]), _, rfl⟩, by simp [intOf]; omega⟩
        · have hxy' : (x != y) = true := by simp [hxy]
          have HF : Hid (decide (l = m) = false) := by show _ = _; rw [decide_eq_false_iff_not]; rintro rfl; exact hxy (HX.out.symm.trans HY.out)
          go_wp2_with fail
          go_quiet (fail)
          go_wp2_with fail
          go_ret
          exact ⟨congrArg (fun b => Ending.returned (.bool b)) HF.out.symm, below_drewN (below_drewN (Below.refl _ _) _) _⟩
      · have HF : Hid (decide (l = m) = true) := by
          show _ = _
          have := htk.out
          rw [List.take_of_length_le (by omega), List.take_of_length_le (by have := HLM.out; omega)] at this
          simp [this]
        go_wp2_with fail
        go_ret
        exact ⟨congrArg (fun b => Ending.returned (.bool b)) HF.out.symm, below_drewN (Below.refl _ _) n⟩
  · have hne : ((l.length : Int) != (m.length : Int)) = true := by simp; omega
    have HF : Hid (decide (l = m) = false) := by show _ = _; rw [decide_eq_false_iff_not]; rintro rfl; exact hlm rfl
    go_enter Try.func9, Try.ntmps9
    go_wp2_with fail
    go_ret
    exact ⟨congrArg (fun b => Ending.returned (.bool b)) HF.out.symm, Below.refl _ _⟩
set_option maxHeartbeats 1000000 in
theorem values_any (b : Nat) (ao : Option Addr) (cap : Nat) (l : List (Int × Int)) (w : World) (h : Sl w b ao l) (hl : l.length ≤ 1000000) :
   Calls Try.prog 10 #[.slice ao l.length cap] w fun e w' => ∃ v, e = .returned v ∧ w'.ownsRow w.heap.size 3 1 v l.length (ig (vs l)) ∧ Below w.heap.size w w' := by
  have HS := Lib.hid h
  clear h
  go_enter Try.func10, Try.ntmps10
  go_wp2_with fail
  go_loopw [3, 4] (fun v i wr => ∃ k : Nat, k ≤ l.length ∧ i = .int .i64 k ∧ wr.ownsRow w.heap.size 3 1 v k (ig (vs (l.take k))) ∧ Below w.heap.size w wr) (fun _ i _ => l.length - (intOf i).toNat)
  case atStart => exact ⟨0, Nat.zero_le _, rfl, World.ownsRow_nil _ _ _ _, Below.refl _ _⟩
  case round =>
    obtain ⟨k, hk, rfl, ho, hb⟩ := hrel
    have HO := Lib.hid ho
    have HB := Lib.hid hb
    have hsz := hb.size
    by_cases hlt : k < l.length
    · obtain ⟨off, hbl, rfl, hc⟩ := HS.out.at (by omega)
      obtain ⟨c0, -⟩ := hc k hlt
      rw [← cellsBelow hb _ _ hbl] at c0
      clear hc ho hb
      have hlt' : (k : Int) < l.length := by omega
      obtain ⟨x, hx⟩ : ∃ x, l[k] = x := ⟨_, rfl⟩
      rw [hx] at c0
      have HX : Hid (ig (vs (l.take (k + 1))) = ig (vs (l.take k)) ++ [.int .i64 x.1]) := by
        show _ = _
        rw [List.take_succ_eq_append_getElem hlt, hx]; simp [vs, ig]
      clear hx
      have hmax : k + 1 ≤ maxLen := by unfold maxLen; omega
      go_wp2_with (at_builtin; go_must (refine wpList_app rfl (.tmp 11) (.tmp 17) 29 rfl (base := w.heap.size) (n := k) (m := 1) (xs := ig (vs (l.take k))) (ys := [.int .i64 x.1]) Try.underlying29 info3 rfl Nat.one_pos rfl rfl ?own rfl ?src (by simp [Value.oneCell']) (by simp) hmax (by omega) ?hb ?nx))
      case own => exact HO.out.alloc _
      case src => exact fun _ => ⟨_, rfl, fun j u hj => by rw [addr_add, Nat.zero_add, (Blk.new wr #[.int .i64 x.1] 3).cell]; simpa using hj⟩
      case hb => simp; omega
      case nx =>
        intro v4 w4 ho4 hg4 hn4
        have HO4 : Hid (w4.ownsRow w.heap.size 3 1 v4 (k + 1) (ig (vs (l.take (k + 1))))) := by show World.ownsRow _ _ _ _ _ _ _; rw [HX.out]; exact ho4.out
        have HB4 : Hid (Below w.heap.size w w4) := (HB.out.alloc hsz _).grown hg4.out (by simp; omega) (fun q hq => (HO.out.lt q hq).1)
        clear ho4 hg4 hn4
        go_wp2_with fail
        go_roundw
        case rel => exact ⟨k + 1, by omega, by go_num, HO4.out, HB4.out⟩
        case measure => simp [intOf]; omega
    · have he : k = l.length := by omega
      subst he
      clear ho hb
      go_wp2_with fail
      go_ret
      exact ⟨_, rfl, by have := HO.out; rwa [List.take_length] at this, HB.out⟩
end Go.Proofs.Ytoblaooomphdoaa
