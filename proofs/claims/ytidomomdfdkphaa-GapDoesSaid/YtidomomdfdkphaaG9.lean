/- The references of layers 1, 4 and 16 that the gap buffer's laws ask: Low, High, Place, Join, Insert, Without, Same. -/
import Derived.Test.YtidomomdfdkphaaG8
import Derived.Test.YtidomomdfdkphaaApp
import Derived.Deep.RegionHeld3
import Derived.Deep.RegionWith
namespace Go.Proofs.Ytidomomdfdkphaa
open Go.RowKit
set_option maxHeartbeats 400000 in
theorem low_any (a b : Int) (w : World) : Calls Try.prog 22 #[.int .i64 a, .int .i64 b] w fun e w' => e = .returned (.int .i64 (min a b)) ∧ w = w' := by
  go_enter Try.func22, Try.ntmps22
  go_wp2
  all_goals
    go_ret
    exact ⟨congrArg (fun n => Ending.returned (.int .i64 n)) (by omega), rfl⟩
set_option maxHeartbeats 400000 in
theorem high_any (a b : Int) (w : World) : Calls Try.prog 23 #[.int .i64 a, .int .i64 b] w fun e w' => e = .returned (.int .i64 (max a b)) ∧ w = w' := by
  go_enter Try.func23, Try.ntmps23
  go_wp2
  all_goals
    go_ret
    exact ⟨congrArg (fun n => Ending.returned (.int .i64 n)) (by omega), rfl⟩
set_option maxHeartbeats 400000 in
theorem place_any (n : Nat) (p : Int) (w : World) : Calls Try.prog 21 #[.int .i64 n, .int .i64 p] w fun e w' => e = .returned (.int .i64 (plc n p)) ∧ w = w' := by
  go_enter Try.func21, Try.ntmps21
  go_wp2_with fail
  refine (high_any _ _ _).mono ?_
  rintro e w' ⟨rfl, rfl⟩
  go_wp2_with fail
  refine (low_any _ _ _).mono ?_
  rintro e w' ⟨rfl, rfl⟩
  go_wp2_with fail
  go_ret
  exact ⟨congrArg (fun n => Ending.returned (.int .i64 n)) (by unfold plc; omega), rfl⟩
/-- A slice of signs: its address, its capacity, and where its signs lie. -/
def Sv (w : World) (b : Nat) (ao : Option Addr) (cap : Nat) (l : List (Int × Int)) : Prop := l.length ≤ cap ∧ cap ≤ maxLen ∧ (ao = none → cap = 0) ∧ Sl w b ao l
theorem Sv.keep {S : Nat → Prop} {w w' : World} {b cap : Nat} {ao : Option Addr} {l : List (Int × Int)} (h : Sv w b ao cap l) (hk : Keep S w w') (hb : ¬ S b) : Sv w' b ao cap l := ⟨h.1, h.2.1, h.2.2.1, h.2.2.2.keep hk hb⟩
theorem Sv.below {w w' : World} {b cap : Nat} {ao : Option Addr} {l : List (Int × Int)} (h : Sv w b ao cap l) (hk : Below w.heap.size w w') : Sv w' b ao cap l := ⟨h.1, h.2.1, h.2.2.1, h.2.2.2.below hk⟩
theorem Sl.take {w : World} {b : Nat} {ao : Option Addr} {l : List (Int × Int)} (h : Sl w b ao l) (k : Nat) : Sl w b ao (l.take k) := by
  intro h0
  obtain ⟨h1, off, h2, h3⟩ := h (by simp at h0; omega)
  refine ⟨h1, off, h2, fun j u hj => h3 j u ?_⟩
  rw [sg_take] at hj
  rw [List.getElem?_take] at hj
  split at hj
  · exact hj
  · cases hj
theorem Sl.drop {w : World} {b : Nat} {ao : Option Addr} {l : List (Int × Int)} (h : Sl w b ao l) (k : Nat) : Sl w b (ao.map fun x => x.add (k * 2)) (l.drop k) := by
  intro h0
  obtain ⟨h1, off, rfl, h3⟩ := h (by simp at h0; omega)
  refine ⟨h1, off + k * 2, ?_, fun j u hj => ?_⟩
  · show some (Addr.add _ _) = _
    rw [addr_add]
  · rw [sg_drop, List.getElem?_drop] at hj
    rw [Nat.add_assoc]
    exact h3 _ u hj
/-- 's[k:]'. -/
theorem Sl.from {w : World} {b cap : Nat} {ao : Option Addr} {l : List (Int × Int)} (h : Sl w b ao l) (k : Nat) (hc : l.length ≤ cap) : Sl w b (if cap = k then ao else ao.map fun x => x.add (k * 2)) (l.drop k) := by
  by_cases hk : cap = k
  · intro h0
    simp at h0; omega
  · rw [if_neg hk]; exact h.drop k
theorem own_sv {w : World} {base : Nat} {v : Value} {l : List (Int × Int)} {n : Nat} (h : w.ownsRow base 28 2 v n (sg l)) (hn : n = l.length) : ∃ ao cap b, v = .slice ao l.length cap ∧ base ≤ b ∧ Sv w b ao cap l := by
  subst hn
  obtain ⟨ao, cap, b, rfl, h1, h2, h3, h4, h5⟩ := own_slice h
  refine ⟨ao, cap, b, rfl, h4, h1, h2, h3, fun h0 => ?_⟩
  obtain ⟨a, c, d⟩ := h5 h0
  exact ⟨a, 0, c, fun j u hj => by rw [Nat.zero_add]; exact d j u hj⟩
def JoinPost (l m : List (Int × Int)) (w : World) (e : Ending) (w' : World) : Prop :=
  ∃ v, e = .returned v ∧ w'.ownsRow w.heap.size 28 2 v (l.length + m.length) (sg (l ++ m)) ∧ Below w.heap.size w w'
set_option maxHeartbeats 1000000 in
theorem join_any (b1 b2 c1 c2 : Nat) (a1 a2 : Option Addr) (l m : List (Int × Int)) (w : World) (h1 : Sv w b1 a1 c1 l) (h2 : Sv w b2 a2 c2 m) (hl : l.length + m.length ≤ 1000000) :
   Calls Try.prog 29 #[.slice a1 l.length c1, .slice a2 m.length c2] w (JoinPost l m w) := by
  have H1 := Lib.hid h1
  have H2 := Lib.hid h2
  clear h1 h2
  go_enter Try.func29, Try.ntmps29
  go_wp2_with (at_builtin; go_must (refine wpList_app rfl (.tmp 5) (.tmp 6) 22 rfl (base := w.heap.size) (n := 0) (xs := []) Try.underlying22 info28 rfl Nat.zero_lt_two rfl rfl ?own1 ?len1 ?src1 (sg_one l) ?none1 ?c1 ?c2 ?b1 ?nx))
  case own1 => exact World.ownsRow_lit w #[] 0 (Nat.le_refl _) (Nat.zero_le _) rfl
  case len1 => exact sg_len l
  case src1 => exact fun h0 => sl_src (H1.out.2.2.2.below (by go_grown)) h0
  case none1 => exact H1.out.2.2.1
  case c1 => unfold maxLen; omega
  case c2 => omega
  case b1 => simp
  case nx =>
    intro v3 w3 ho3 hg3 hn3
    have HB3 : Hid (Below w.heap.size w w3) := ((Below.refl _ _).alloc (Nat.le_refl _) _).grown hg3.out (by simp) (fun k hk => by simp [Value.ownBlock] at hk; omega)
    clear hg3 hn3
    go_wp2_with (at_builtin; go_must (refine wpList_app rfl (.tmp 7) (.tmp 8) 22 rfl (base := w.heap.size) (n := l.length) (xs := sg l) Try.underlying22 info28 rfl Nat.zero_lt_two rfl rfl ho3.out ?len2 ?src2 (sg_one m) ?none2 ?d1 ?d2 ?b2 ?ny))
    case len2 => exact sg_len m
    case src2 => exact fun h0 => sl_src (H2.out.2.2.2.below HB3.out) h0
    case none2 => exact H2.out.2.2.1
    case d1 => unfold maxLen; omega
    case d2 => omega
    case b2 => exact HB3.out.size
    case ny =>
      intro v4 w4 ho4 hg4 hn4
      have HB4 : Hid (Below w.heap.size w w4) := HB3.out.grown hg4.out HB3.out.size (fun k hk => (ho3.out.lt k hk).1)
      clear hg4 hn4
      go_wp2_with fail
      go_ret
      exact ⟨v4, rfl, by rw [sg_app]; exact ho4.out, HB4.out⟩
theorem grown_cell {w w' : World} {row : Option Nat} (hg : w.grownBy w' row) (b o : Nat) (hb : b < w.heap.size) (hne : row ≠ some b) : w'.cell? ⟨b, o, none⟩ = w.cell? ⟨b, o, none⟩ := World.cell?_of_block (hg.block b hb (fun e => hne e.symm))
theorem grown_free {w w' : World} {row : Option Nat} (hg : w.grownBy w' row) (b o : Nat) (hb : b < w.heap.size) (hne : row ≠ some b) : w'.frozen? ⟨b, o, none⟩ = w.frozen? ⟨b, o, none⟩ := World.frozen?_of_block (hg.block b hb (fun e => hne e.symm))
theorem Blk.grown {w w' : World} {b : Nat} {cs : Array Value} {t : TypeId} {row : Option Nat} (h : Blk w b cs t) (hg : w.grownBy w' row) (hne : row ≠ some b) : Blk w' b cs t := (hg.block b h.lt (fun e => hne e.symm)).trans h
def RInsPost (S1 S2 l : List (Int × Int)) (w : World) (e : Ending) (w' : World) : Prop :=
  ∃ ao cap b, e = .returned (.agg #[.slice ao (S1 ++ (l ++ S2)).length cap, .int .i64 (S1.length + l.length : Nat)]) ∧ w.heap.size ≤ b ∧ Sv w' b ao cap (S1 ++ (l ++ S2)) ∧ Below w.heap.size w w'
set_option maxHeartbeats 4000000 in
set_option maxRecDepth 100000 in
theorem rinsert_any (b1 b2 c1 c2 : Nat) (a1 a2 : Option Addr) (S1 S2 l : List (Int × Int)) (w : World) (h1 : Sv w b1 a1 c1 (S1 ++ S2)) (h2 : Sv w b2 a2 c2 l) (hl : S1.length + S2.length + l.length ≤ 1000000) :
   Calls Try.prog 20 #[.agg #[.slice a1 (S1.length + S2.length) c1, .int .i64 S1.length], .slice a2 l.length c2] w (RInsPost S1 S2 l w) := by
  have H1 := Lib.hid h1
  have H2 := Lib.hid h2
  have hcap := h1.1
  simp only [List.length_append] at hcap
  clear h1 h2
  go_enter Try.func20, Try.ntmps20
  have hcd1 : (S1.length : Int) ≤ c1 := by omega
  go_wp2_with fail
  have HS1 : Hid (Sv w b1 a1 c1 S1) := ⟨by omega, H1.out.2.1, H1.out.2.2.1, by have := H1.out.2.2.2.take S1.length; rwa [List.take_left] at this⟩
  refine (join_any b1 b2 c1 c2 a1 a2 S1 l _ (HS1.out.below (by go_grown)) (H2.out.below (by go_grown)) (by omega)).mono ?_
  rintro e w3 ⟨v3, rfl, ho3, hb3⟩
  have HO3 := Lib.hid ho3
  have HB3 : Hid (Below w.heap.size w w3) := Below.trans (by go_grown) (hb3.mono (by simp; omega))
  have HX := Lib.hid (((Blk.new w #[.slice a1 (S1.length + S2.length) c1, .int .i64 S1.length] 40).alloc _).below hb3 (by simp; omega))
  have HR := Lib.hid ((Blk.new (w.alloc (.cells #[.slice a1 (S1.length + S2.length) c1, .int .i64 S1.length] 40)) _ 40).below hb3 (by simp))
  simp only [World.size_alloc] at ho3 hb3 HO3 HR
  have hz3 := hb3.size
  simp only [World.size_alloc] at hz3
  clear ho3 hb3
  have x0 := HX.out.cell 0
  have x1 := HX.out.cell 1
  have r0 := HR.out.cell 0
  have r1 := HR.out.cell 1
  have rf := HR.out.free
  simp at x0 x1 r0 r1
  obtain ⟨D, hD⟩ : ∃ D, (if c1 = S1.length then a1 else a1.map fun x => x.add (S1.length * 2)) = D := ⟨_, rfl⟩
  have HSF : Hid (Sl w3 b1 D S2) := by
    have h := (H1.out.2.2.2.below HB3.out).from S1.length (by simpa using hcap)
    rw [List.drop_left, hD] at h
    exact h
  have HOL := HO3.out.lt
  have HOL := Lib.hid HOL
  have hcd2 : (S1.length : Int) ≤ (S1.length : Int) + S2.length := by omega
  have hln : S1.length + S2.length - S1.length = S2.length := by omega
  have hwr : IntKind.i64.wrap ((S1.length : Int) + l.length) = (S1.length : Int) + l.length := by rw [IntKind.wrap_i64]; omega
  have hc1 : c1 ≤ maxLen := H1.out.2.1
  have HN := Lib.hid H1.out.2.2.1
  go_wp2_with fail
  have hx3 : v3.ownBlock ≠ some w.heap.size := by intro h; have := (HOL.out _ h).1; omega
  have hr3 : v3.ownBlock ≠ some (w.heap.size + 1) := by intro h; have := (HOL.out _ h).1; omega
  have hnone : D = none → c1 - S1.length = 0 := by
    intro h
    rw [← hD] at h
    have : a1 = none := by
      split at h
      · exact h
      · simpa using h
    have := HN.out this
    omega
  have HNONE := Lib.hid hnone
  have HHX := Lib.hid hx3
  have HHR := Lib.hid hr3
  clear hnone hx3 hr3
  have hsz2 : S1.length + l.length + S2.length ≤ maxLen := by unfold maxLen; omega
  go_region_law (refine step_app rfl (.tmp 13) (.tmp 18) 22 rfl (base := w.heap.size + 1 + 1) (n := S1.length + l.length) (xs := sg (S1 ++ l)) Try.underlying22 info28 rfl Nat.zero_lt_two rfl rfl (show (World.drew w3).ownsRow _ _ _ _ _ _ from HO3.out) (sg_len S2) (fun h0 => sl_src (w := w3) HSF.out h0) (sg_one S2) HNONE.out hsz2 (by omega) (by show _ ≤ w3.heap.size; omega) ?_; intro v4 w4 ho4 hg4 hn4; obtain ⟨ao4, cap4, b4, rfl, hb4, hsv4⟩ := own_sv (l := (S1 ++ l) ++ S2) (by rw [sg_app]; exact ho4.out) (by simp; omega); have HV4 := Lib.hid hsv4; clear hsv4 ho4 hn4; have HX4 := Lib.hid (Blk.grown (w := World.drew w3) HX.out hg4.out HHX.out); have HR4 := Lib.hid (Blk.grown (w := World.drew w3) HR.out hg4.out HHR.out); have y1 := HX4.out.cell 1; have y2 := HR4.out.cell 0; have y3 := HR4.out.cell 1; have y4 := HR4.out.free; have y5 := HR4.out.lt; simp at y1 y2 y3)
  all_goals
    have HB4 : Hid (Below w.heap.size w w4) := Below.grown (w := World.drew w3) ⟨HB3.out.os, HB3.out.tape, HB3.out.output, HB3.out.size, HB3.out.block⟩ hg4.out HB3.out.size (fun k hk => by have := (HOL.out k hk).1; omega)
    clear hg4
    go_wp2_with fail
    refine bodyPost_ret (v := .agg #[.slice ao4 (S1.length + (l.length + S2.length)) cap4, .int .i64 ((S1.length : Int) + l.length)]) (by simp only [results, Try.results20]; go_simp) rfl ⟨ao4, cap4, b4, by simp, by omega, ?_, (HB4.out.setCell (by simp) _).setCell (by simp) _⟩
    have h := HV4.out
    rw [List.append_assoc] at h
    exact h.keep (S := (· = w.heap.size + 1)) (Keep.setCell (S := (· = w.heap.size + 1)) (Keep.setCell (S := (· = w.heap.size + 1)) (Keep.refl _ _) _ (.inl rfl)) _ (.inl rfl)) (by show ¬ b4 = _; omega)
end Go.Proofs.Ytidomomdfdkphaa
