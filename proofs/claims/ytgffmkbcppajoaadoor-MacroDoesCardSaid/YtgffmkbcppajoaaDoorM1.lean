/- Keys as cells; slices of keys that are read; the reference Same of layer 13, slices.Clone. -/
import Derived.Test.YtgffmkbcppajoaaDoorMay
import Derived.Test.YtgffmkbcppajoaaDoorBlk
import Derived.Test.YtgffmkbcppajoaaDoorApp
import Derived.Handy
import Derived.WalkSpells
import Derived.WalkLawsBesides
import Derived.Outline
import Derived.Deep.QuietTactic
import Derived.BigQuiet
import Derived.Deep.RegionLaw
import Derived.Deep.DeepCutAuto
import Derived.StillTailTactics
import Derived.Deep.RegionWith
import Derived.Deep.RegionHeld3
namespace Go.Proofs.YtgffmkbcppajoaaDoor
open Go.RowKit
/-- A key. -/
structure KV where
  kd : Int
  v : Int
  tx : ByteArray
  ct : Bool
def KV.cells (k : KV) : List Value := [.int .i64 k.kd, .int .i64 k.v, .string k.tx, .bool k.ct]
def kg (l : List KV) : List Value := l.flatMap KV.cells
theorem kg_nil : kg [] = [] := rfl
theorem kg_cons (x : KV) (l : List KV) : kg (x :: l) = .int .i64 x.kd :: .int .i64 x.v :: .string x.tx :: .bool x.ct :: kg l := by simp [kg, KV.cells]
theorem kg_len (l : List KV) : (kg l).length = l.length * 4 := by
  induction l with
  | nil => rfl
  | cons x l ih => rw [kg_cons]; simp [ih]; omega
theorem kg_app (l m : List KV) : kg (l ++ m) = kg l ++ kg m := by simp [kg]
theorem kg_at (l : List KV) (i : Nat) (h : i < l.length) : (kg l)[i * 4]? = some (.int .i64 l[i].kd) ∧ (kg l)[i * 4 + 1]? = some (.int .i64 l[i].v) ∧ (kg l)[i * 4 + 2]? = some (.string l[i].tx) ∧ (kg l)[i * 4 + 3]? = some (.bool l[i].ct) := by
  induction l generalizing i with
  | nil => simp at h
  | cons x l ih =>
    rw [kg_cons]
    cases i with
    | zero => exact ⟨rfl, rfl, rfl, rfl⟩
    | succ i =>
      obtain ⟨a, b, c, d⟩ := ih i (by simpa using h)
      rw [show (i + 1) * 4 = i * 4 + 1 + 1 + 1 + 1 by omega]
      simp only [List.getElem?_cons_succ]
      exact ⟨by simpa using a, by simpa using b, by simpa using c, by simpa using d⟩
theorem kg_one (l : List KV) : ∀ v ∈ kg l, v.oneCell' = true := by
  intro v hv
  simp only [kg, KV.cells, List.mem_flatMap, List.mem_cons, List.not_mem_nil, or_false] at hv
  obtain ⟨x, _, rfl | rfl | rfl | rfl⟩ := hv <;> rfl
theorem addr_add (b off j : Nat) : (⟨b, off, none⟩ : Addr).add j = ⟨b, off + j, none⟩ := by unfold Addr.add; split <;> simp_all
/-- A slice's address at which keys lie, in block b. -/
def Kl (w : World) (b : Nat) (ao : Option Addr) (l : List KV) : Prop := 0 < l.length → b < w.heap.size ∧ ∃ off, ao = some ⟨b, off, none⟩ ∧ ∀ j u, (kg l)[j]? = some u → w.cell? ⟨b, off + j, none⟩ = some u
theorem Kl.keep {S : Nat → Prop} {w w' : World} {b : Nat} {ao : Option Addr} {l : List KV} (h : Kl w b ao l) (hk : Keep S w w') (hb : 0 < l.length → ¬ S b) : Kl w' b ao l := by
  intro h0
  obtain ⟨h1, off, h2, h3⟩ := h h0
  exact ⟨Nat.lt_of_lt_of_le h1 hk.size, off, h2, fun j u hj => (hk.cell (p := ⟨b, off + j, none⟩) h1 (hb h0)).trans (h3 j u hj)⟩
theorem Kl.below {w w' : World} {b : Nat} {ao : Option Addr} {l : List KV} (h : Kl w b ao l) (hk : Below w.heap.size w w') : Kl w' b ao l := h.keep (S := fun _ => False) (Keep.of_below hk) (fun _ h => h)
theorem Kl.at {w : World} {b : Nat} {ao : Option Addr} {l : List KV} (h : Kl w b ao l) (h0 : 0 < l.length) : ∃ off, b < w.heap.size ∧ ao = some ⟨b, off, none⟩ ∧ ∀ (k : Nat) (hk : k < l.length), w.cell? ⟨b, off + k * 4, none⟩ = some (.int .i64 l[k].kd) ∧ w.cell? ⟨b, off + k * 4 + 1, none⟩ = some (.int .i64 l[k].v) ∧ w.cell? ⟨b, off + k * 4 + 2, none⟩ = some (.string l[k].tx) ∧ w.cell? ⟨b, off + k * 4 + 3, none⟩ = some (.bool l[k].ct) := by
  obtain ⟨h1, off, h2, h3⟩ := h h0
  refine ⟨off, h1, h2, fun k hk => ?_⟩
  obtain ⟨a, b, c, d⟩ := kg_at l k hk
  exact ⟨h3 _ _ a, h3 _ _ b, h3 _ _ c, h3 _ _ d⟩
theorem kl_src {w : World} {b : Nat} {D : Option Addr} {l : List KV} (h : Kl w b D l) (h0 : 0 < l.length) : ∃ ad, D = some ad ∧ ∀ j v, (kg l)[j]? = some v → w.cell? (ad.add j) = some v := by
  obtain ⟨_, off, h1, h2⟩ := h h0
  exact ⟨_, h1, fun j v hj => by rw [addr_add]; exact h2 j v hj⟩
/-- A slice of keys: its address, its capacity, and where its keys lie. -/
def Kv (w : World) (b : Nat) (ao : Option Addr) (cap : Nat) (l : List KV) : Prop := l.length ≤ cap ∧ cap ≤ maxLen ∧ (ao = none → cap = 0) ∧ Kl w b ao l
theorem Kv.keep {S : Nat → Prop} {w w' : World} {b cap : Nat} {ao : Option Addr} {l : List KV} (h : Kv w b ao cap l) (hk : Keep S w w') (hb : 0 < l.length → ¬ S b) : Kv w' b ao cap l := ⟨h.1, h.2.1, h.2.2.1, h.2.2.2.keep hk hb⟩
theorem Kv.below {w w' : World} {b cap : Nat} {ao : Option Addr} {l : List KV} (h : Kv w b ao cap l) (hk : Below w.heap.size w w') : Kv w' b ao cap l := ⟨h.1, h.2.1, h.2.2.1, h.2.2.2.below hk⟩
theorem own_kv {w : World} {base : Nat} {v : Value} {l : List KV} {n : Nat} (h : w.ownsRow base 32 4 v n (kg l)) (hn : n = l.length) : ∃ ao cap b, v = .slice ao l.length cap ∧ base ≤ b ∧ Kv w b ao cap l := by
  subst hn
  obtain ⟨ao, cap, b, rfl, h1, h2, h3, h4, h5⟩ := own_slice h
  refine ⟨ao, cap, b, rfl, h4, h1, h2, h3, fun h0 => ?_⟩
  obtain ⟨a, c, d⟩ := h5 h0
  exact ⟨a, 0, c, fun j u hj => by rw [Nat.zero_add]; exact d j u hj⟩
theorem info32 : (Tryd.prog.info? 32).map (fun i => (i.zero, i.size, i.bytes)) = some (some (.agg #[.int .i64 0, .int .i64 0, .string ⟨#[]⟩, .bool false]), 4, 40) := by kernel_rfl
theorem below_drewN {B : Nat} {a w : World} (h : Below B a w) (n : Nat) : Below B a (w.drewN n) := ⟨h.os, h.tape, h.output, h.size, h.block⟩
set_option maxHeartbeats 1000000 in
theorem same_any (b1 b2 : Nat) (a1 a2 : Option Addr) (cap1 cap2 : Nat) (l : List KV) (w : World) (h1 : Kl w b1 a1 l) (h2 : Kl w b2 a2 l) (hl : l.length ≤ 1000000) :
   Calls Tryd.prog 13 #[.slice a1 l.length cap1, .slice a2 l.length cap2] w fun e w' => e = .returned (.bool true) ∧ Below w.heap.size w w' := by
  have HS1 := Lib.hid h1
  have HS2 := Lib.hid h2
  clear h1 h2
  go_enter Tryd.func13, Tryd.ntmps13
  go_wp2
  go_loopw [5] (fun i wr => ∃ k : Nat, k ≤ l.length ∧ i = .int .i64 k ∧ ∃ n, wr = w.drewN n) (fun i _ => l.length - (intOf i).toNat)
  case atStart => exact ⟨0, Nat.zero_le _, rfl, 0, rfl⟩
  case round =>
    obtain ⟨k, hk, rfl, n, rfl⟩ := hrel
    by_cases hlt : k < l.length
    · obtain ⟨off1, hb1, rfl, hc1⟩ := HS1.out.at (by omega)
      obtain ⟨off2, hb2, rfl, hc2⟩ := HS2.out.at (by omega)
      obtain ⟨c0, c1, c2, c3⟩ := hc1 k hlt
      obtain ⟨d0, d1, d2, d3⟩ := hc2 k hlt
      clear hc1 hc2
      have hlt' : (k : Int) < l.length := by omega
      go_wp2_with fail
      go_quiet (fail)
      go_wp2_with fail
      exact ⟨⟨k + 1, by omega, by go_num, _, rfl⟩, by simp [intOf]; omega⟩
    · go_wp2_with fail
      go_ret
      exact ⟨rfl, below_drewN (Below.refl _ _) n⟩
def ClonePost (l : List KV) (w : World) (e : Ending) (w' : World) : Prop :=
  ∃ ao cap b, e = .returned (.slice ao l.length cap) ∧ w.heap.size ≤ b ∧ Kv w' b ao cap l ∧ Below w.heap.size w w'
set_option maxHeartbeats 1000000 in
theorem clone_any (b1 c1 : Nat) (a1 : Option Addr) (l : List KV) (w : World) (h1 : Kv w b1 a1 c1 l) (hl : l.length ≤ 1000000) :
   Calls Tryd.prog 19 #[.slice a1 l.length c1] w (ClonePost l w) := by
  have H1 := Lib.hid h1
  cases a1 with
  | none =>
    have hc := h1.2.2.1 rfl
    subst hc
    have hl0 : l = [] := List.eq_nil_of_length_eq_zero (by have := h1.1; omega)
    subst hl0
    clear h1
    have heq := fun (w : World) (a : Option Addr) (n c n' c' : Nat) => Lib.run_eql_slice_nil (P := Tryd.prog) w 28 32 a n c n' c' Tryd.underlying28
    go_enter Tryd.func19, Tryd.ntmps19
    go_wp2
    go_ret
    exact ⟨none, 0, w.heap.size, rfl, Nat.le_refl _, ⟨Nat.le_refl _, Nat.zero_le _, fun _ => rfl, fun h => by simp at h⟩, Below.refl _ _⟩
  | some a =>
    clear h1
    have heq := fun (w : World) (a : Option Addr) (n c n' c' : Nat) => Lib.run_eql_slice_nil (P := Tryd.prog) w 28 32 a n c n' c' Tryd.underlying28
    go_enter Tryd.func19, Tryd.ntmps19
    go_wp2_with (at_builtin; go_must (refine wpList_app rfl (.tmp 5) (.tmp 6) 28 rfl (base := w.heap.size) (n := 0) (xs := []) Tryd.underlying28 info32 rfl (Nat.succ_pos 3) rfl rfl ?own1 ?len1 ?src1 (kg_one l) ?none1 ?c1 ?c2 ?b1 ?nx))
    case own1 => exact World.ownsRow_lit w #[] 0 (Nat.le_refl _) (Nat.zero_le _) rfl
    case len1 => exact kg_len l
    case src1 => exact fun h0 => kl_src (H1.out.2.2.2.below (by go_grown)) h0
    case none1 => exact H1.out.2.2.1
    case c1 => unfold maxLen; omega
    case c2 => omega
    case b1 => simp
    case nx =>
      intro v3 w3 ho3 hg3 hn3
      have HB3 : Hid (Below w.heap.size w w3) := ((Below.refl _ _).alloc (Nat.le_refl _) _).grown hg3.out (by simp) (fun k hk => by simp [Value.ownBlock] at hk; omega)
      have ho4 := ho3.out
      obtain ⟨ao, cap, b, rfl, hb, hk⟩ := own_kv ho4 rfl
      have HK := Lib.hid hk
      have HBB := Lib.hid hb
      clear hg3 hn3 ho3 ho4 hk hb
      go_wp2_with fail
      go_ret
      exact ⟨ao, cap, b, rfl, HBB.out, HK.out, HB3.out⟩
end Go.Proofs.YtgffmkbcppajoaaDoor
