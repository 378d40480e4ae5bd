/- The walk of MacroDoes. -/
import Derived.Test.YtgffmkbcppajoaaDoorMB
import Derived.Deep.CutBlock
import Derived.Deep.LoopGhost
namespace Go.Proofs.YtgffmkbcppajoaaDoor
open Go.RowKit
/-- The calls of a script, as they lie in memory. -/
def CallsAt (w : World) (c off len : Nat) (CK N : Nat → Int) (KY : Nat → KV) : Prop :=
  c < w.heap.size ∧ ∀ i, i < len → w.cell? ⟨c, off + i * 6, none⟩ = some (.int .i64 (CK i)) ∧ w.cell? ⟨c, off + i * 6 + 1, none⟩ = some (.int .i64 (N i)) ∧ w.cell? ⟨c, off + i * 6 + 2, none⟩ = some (.int .i64 (KY i).kd) ∧ w.cell? ⟨c, off + i * 6 + 3, none⟩ = some (.int .i64 (KY i).v) ∧ w.cell? ⟨c, off + i * 6 + 4, none⟩ = some (.string (KY i).tx) ∧ w.cell? ⟨c, off + i * 6 + 5, none⟩ = some (.bool (KY i).ct) ∧ (KY i).tx.size ≤ 9223372036854775807
set_option maxHeartbeats 1000000 in
set_option maxRecDepth 100000 in
theorem does_range (most : Int) (v : Value) (w : World) (ht : KeyTab w) (h : most < 1 ∨ 9999 < most) : Calls Tryd.prog 3 #[.int .i64 most, v] w fun e w' => e = .returned (.bool true) ∧ Below w.heap.size w w' := by
  have HT := Lib.hid ht
  clear ht
  rcases h with h | h
  · go_enter Tryd.func3, Tryd.ntmps3
    go_wp2_with fail
    refine (awake_any _ HT.out).mono ?_
    rintro e w1 ⟨rfl, hb1⟩
    go_wp2_with fail
    refine (new_bad most _ (.inl h)).mono ?_
    rintro e w2 ⟨rfl, rfl⟩
    go_wp2_with fail
    go_ret
    exact ⟨rfl, hb1⟩
  · have h1 : ¬ most < 1 := by omega
    go_enter Tryd.func3, Tryd.ntmps3
    go_wp2_with fail
    refine (awake_any _ HT.out).mono ?_
    rintro e w1 ⟨rfl, hb1⟩
    go_wp2_with fail
    refine (new_bad most _ (.inr h)).mono ?_
    rintro e w2 ⟨rfl, rfl⟩
    go_wp2_with fail
    go_ret
    exact ⟨rfl, hb1⟩
/-- The macro in block m, the reference's M in block q. -/
def Mz (B m q : Nat) (w : World) (most : Nat) : Prop :=
  ∃ (keys begun : List KV) (kp : Bool) (la na : Option Addr) (lc nc bl bn : Nat), My B m w most keys begun kp [(q, #[.slice la keys.length lc, .slice na begun.length nc, .bool kp], 30)] [(bl, la, lc, keys), (bn, na, nc, begun)]
theorem mz_new {B most : Nat} {w : World} (h1 : most ≤ 9999) (hB : B ≤ w.heap.size) : Mz B w.heap.size (w.heap.size + 1) ((w.alloc (.cells #[.int .i64 most, .slice none 0 0, .slice none 0 0, .bool false] 45)).alloc (.cells #[.slice none 0 0, .slice none 0 0, .bool false] 30)) most := by
  have h : My B w.heap.size (w.alloc (.cells #[.int .i64 most, .slice none 0 0, .slice none 0 0, .bool false] 45)) most [] [] false [] [] := ⟨w.heap.size, mc_new most h1 w hB, fun x hx => by simp at hx, fun x hx => by simp at hx⟩
  have hk : ∀ w', Kv w' 0 none 0 [] := fun w' => ⟨Nat.le_refl _, Nat.zero_le _, fun _ => rfl, fun h => by simp at h⟩
  have h2 := h.add (q := w.heap.size + 1) (cs := #[.slice none 0 0, .slice none 0 0, .bool false]) (t := 30) ((Below.refl _ _).alloc (Nat.le_refl _) _) (new_at _ _ _ (by simp)) (by simp)
  have h3 := (h2.row (Below.refl _ _) (hk _) (fun h => by simp at h)).row (Below.refl _ _) (hk _) (fun h => by simp at h)
  exact ⟨[], [], false, none, none, 0, 0, 0, 0, h3⟩
/-- The reference's M in block q; the call in block cb. -/
def RX (q : Nat) (la : Option Addr) (nk lc : Nat) (na : Option Addr) (nb nc : Nat) (p : Bool) : Nat × Array Value × TypeId := (q, #[.slice la nk lc, .slice na nb nc, .bool p], 30)
def CX (cb : Nat) (Ki Ni : Int) (k : KV) : Nat × Array Value × TypeId := (cb, #[.int .i64 Ki, .int .i64 Ni, .int .i64 k.kd, .int .i64 k.v, .string k.tx, .bool k.ct], 34)
theorem blk3 {w : World} {q : Nat} {v0 v1 v2 : Value} {t : TypeId} (h : Blk w q #[v0, v1, v2] t) : w.cell? ⟨q, 0, none⟩ = some v0 ∧ w.cell? ⟨q, 1, none⟩ = some v1 ∧ w.cell? ⟨q, 2, none⟩ = some v2 ∧ ∀ i, w.frozen? ⟨q, i, none⟩ = false :=
  ⟨h.cell 0, h.cell 1, h.cell 2, h.free⟩
theorem blk6 {w : World} {q : Nat} {v0 v1 v2 v3 v4 v5 : Value} {t : TypeId} (h : Blk w q #[v0, v1, v2, v3, v4, v5] t) : w.cell? ⟨q, 0, none⟩ = some v0 ∧ w.cell? ⟨q, 1, none⟩ = some v1 ∧ w.cell? ⟨q, 2, none⟩ = some v2 ∧ w.cell? ⟨q, 3, none⟩ = some v3 ∧ w.cell? ⟨q, 4, none⟩ = some v4 ∧ w.cell? ⟨q, 5, none⟩ = some v5 :=
  ⟨h.cell 0, h.cell 1, h.cell 2, h.cell 3, h.cell 4, h.cell 5⟩
section
variable {B m q cb most nk lc nb nc : Nat} {w : World} {keys begun : List KV} {kp p : Bool} {xs : List (Nat × Array Value × TypeId)} {ks : List (Nat × Option Addr × Nat × List KV)} {la na : Option Addr} {Ki Ni : Int} {k : KV} {x y : Nat × Array Value × TypeId}
theorem My.refh (h : My B m w most keys begun kp (RX q la nk lc na nb nc p :: xs) ks) : w.cell? ⟨q, 0, none⟩ = some (.slice la nk lc) ∧ w.cell? ⟨q, 1, none⟩ = some (.slice na nb nc) ∧ w.cell? ⟨q, 2, none⟩ = some (.bool p) ∧ ∀ i, w.frozen? ⟨q, i, none⟩ = false := blk3 (h.blk (List.mem_cons_self ..))
theorem My.refc (h : My B m w most keys begun kp (x :: RX q la nk lc na nb nc p :: xs) ks) : w.cell? ⟨q, 0, none⟩ = some (.slice la nk lc) ∧ w.cell? ⟨q, 1, none⟩ = some (.slice na nb nc) ∧ w.cell? ⟨q, 2, none⟩ = some (.bool p) ∧ ∀ i, w.frozen? ⟨q, i, none⟩ = false := My.refh (h.sub (xs' := RX q la nk lc na nb nc p :: xs) (fun _ => List.mem_cons_of_mem _) (fun _ h => h))
theorem My.refc' (h : My B m w most keys begun kp (y :: x :: RX q la nk lc na nb nc p :: xs) ks) : w.cell? ⟨q, 0, none⟩ = some (.slice la nk lc) ∧ w.cell? ⟨q, 1, none⟩ = some (.slice na nb nc) ∧ w.cell? ⟨q, 2, none⟩ = some (.bool p) ∧ ∀ i, w.frozen? ⟨q, i, none⟩ = false := My.refc (h.sub (xs' := x :: RX q la nk lc na nb nc p :: xs) (fun _ => List.mem_cons_of_mem _) (fun _ h => h))
theorem My.callc (h : My B m w most keys begun kp (CX cb Ki Ni k :: xs) ks) : w.cell? ⟨cb, 0, none⟩ = some (.int .i64 Ki) ∧ w.cell? ⟨cb, 1, none⟩ = some (.int .i64 Ni) ∧ w.cell? ⟨cb, 2, none⟩ = some (.int .i64 k.kd) ∧ w.cell? ⟨cb, 3, none⟩ = some (.int .i64 k.v) ∧ w.cell? ⟨cb, 4, none⟩ = some (.string k.tx) ∧ w.cell? ⟨cb, 5, none⟩ = some (.bool k.ct) := blk6 (h.blk (List.mem_cons_self ..))
theorem My.callc' (h : My B m w most keys begun kp (x :: CX cb Ki Ni k :: xs) ks) : w.cell? ⟨cb, 0, none⟩ = some (.int .i64 Ki) ∧ w.cell? ⟨cb, 1, none⟩ = some (.int .i64 Ni) ∧ w.cell? ⟨cb, 2, none⟩ = some (.int .i64 k.kd) ∧ w.cell? ⟨cb, 3, none⟩ = some (.int .i64 k.v) ∧ w.cell? ⟨cb, 4, none⟩ = some (.string k.tx) ∧ w.cell? ⟨cb, 5, none⟩ = some (.bool k.ct) := My.callc (h.sub (xs' := CX cb Ki Ni k :: xs) (fun _ => List.mem_cons_of_mem _) (fun _ h => h))
theorem My.store {w0 : World} (h : My B m w most keys begun kp [CX cb Ki Ni k, RX q la nk lc na nb nc p] ks) (hcq : cb ≠ q) (hq : B ≤ q) (hb : Below B w0 w) (la' : Option Addr) (nk' lc' : Nat) (na' : Option Addr) (nb' nc' : Nat) (p' : Bool) :
    Hid (My B m (((w.setCell ⟨q, 0, none⟩ (.slice la' nk' lc')).setCell ⟨q, 1, none⟩ (.slice na' nb' nc')).setCell ⟨q, 2, none⟩ (.bool p')) most keys begun kp [RX q la' nk' lc' na' nb' nc' p', CX cb Ki Ni k] ks) ∧ Hid (Below B w0 (((w.setCell ⟨q, 0, none⟩ (.slice la' nk' lc')).setCell ⟨q, 1, none⟩ (.slice na' nb' nc')).setCell ⟨q, 2, none⟩ (.bool p'))) := by
  have h1 := h.sub (xs' := [RX q la nk lc na nb nc p, CX cb Ki Ni k]) (by simp) (fun _ h => h)
  obtain ⟨k1, k2⟩ := put3 (.slice la' nk' lc') (.slice na' nb' nc') (.bool p') (h1.blk (List.mem_cons_self ..))
  exact ⟨h1.put k1 k2 (fun x hx => by simp at hx; rw [hx]; exact hcq), ((hb.setCell hq _).setCell hq _).setCell hq _⟩
theorem kv_nil (w : World) : Kv w 0 none 0 [] := ⟨Nat.le_refl _, Nat.zero_le _, fun _ => rfl, fun h => by simp at h⟩
theorem mz_of {bl bn : Nat} (h : My B m w most keys begun kp [CX cb Ki Ni k, RX q la keys.length lc na begun.length nc kp] [(bl, la, lc, keys), (bn, na, nc, begun)]) : Hid (Mz B m q w most) :=
  ⟨keys, begun, kp, la, na, lc, nc, bl, bn, h.sub (by simp [RX]) (fun _ h => h)⟩
theorem mz_of1 {bl bn : Nat} (h : My B m w most keys begun kp [RX q la keys.length lc na begun.length nc kp] [(bl, la, lc, keys), (bn, na, nc, begun)]) : Hid (Mz B m q w most) :=
  ⟨keys, begun, kp, la, na, lc, nc, bl, bn, h⟩
theorem mz_of2 {bl bn : Nat} (h : My B m w most keys begun kp [RX q la keys.length lc na begun.length nc kp, CX cb Ki Ni k] [(bl, la, lc, keys), (bn, na, nc, begun)]) : Hid (Mz B m q w most) :=
  ⟨keys, begun, kp, la, na, lc, nc, bl, bn, h.sub (by simp [RX]) (fun _ h => h)⟩
theorem mz_nil {bl c : Nat} {l : List KV} {e : Nat × Option Addr × Nat × List KV} (h : My B m w most l [] kp [RX q la l.length lc none 0 0 kp, CX cb Ki Ni k] [(bl, na, nc, begun), e]) (h1 : (c, la, lc, l) = (bl, na, nc, begun) ∨ (c, la, lc, l) = e) : Hid (Mz B m q w most) :=
  ⟨l, [], kp, la, none, lc, 0, c, 0, My.sub (ks' := [(c, la, lc, l), (0, none, 0, [])]) ((h.row (Below.refl _ _) (kv_nil _) (fun h => by simp at h)).sub (xs' := [(q, #[.slice la l.length lc, .slice none ([] : List KV).length 0, .bool kp], 30)]) (ks' := [(0, none, 0, []), (bl, na, nc, begun), e]) (by simp [RX]) (fun _ h => h)) (fun _ h => h) (by rcases h1 with h1 | h1 <;> simp [h1])⟩
theorem mz_three {bl bn b4 : Nat} {ab : Option Addr} {c4 : Nat} (h : My B m w most keys (begun ++ [k]) kp [RX q la keys.length lc ab (begun.length + 1) c4 kp, CX cb Ki Ni k] [(b4, ab, c4, begun ++ [k]), (bl, la, lc, keys), (bn, na, nc, begun)]) : Hid (Mz B m q w most) :=
  ⟨keys, begun ++ [k], kp, la, ab, lc, c4, bl, b4, h.sub (by simp [RX]) (by simp)⟩
theorem same_nil (w : World) : Calls Tryd.prog 13 #[.slice none 0 0, .slice none 0 0] w fun e w' => e = .returned (.bool true) ∧ Below w.heap.size w w' :=
  same_any 0 0 none none 0 0 [] w (kv_nil w).2.2.2 (kv_nil w).2.2.2 (by simp)
end
set_option maxHeartbeats 80000000 in
set_option maxRecDepth 100000 in
theorem does_ok (most : Nat) (hm0 : 1 ≤ most) (hm1 : most ≤ 9999) (ao1 : Option Addr) (len cap1 : Nat) (hlen : len ≤ 9223372036854775807) (CK N : Nat → Int) (KY : Nat → KV) (w : World) (ht : KeyTab w)
   (hc : 0 < len → ∃ c off, ao1 = some ⟨c, off, none⟩ ∧ CallsAt w c off len CK N KY) :
   Calls Tryd.prog 3 #[.int .i64 most, .slice ao1 len cap1] w fun e w' => e = .returned (.bool true) ∧ Below w.heap.size w w' := by
  have HC := Lib.hid hc
  have HT := Lib.hid ht
  clear hc ht
  have hm2 : decide ((most : Int) < 1) = false := by simp; omega
  have hm3 : decide ((9999 : Int) < most) = false := by simp; omega
  go_enter Tryd.func3, Tryd.ntmps3
  go_wp2_with fail
  refine (awake_any _ HT.out).mono ?_
  rintro e w1 ⟨rfl, hb1⟩
  have HB1 := Lib.hid hb1
  clear hb1
  go_wp2_with fail
  refine (new_any most _ (by omega) (by omega)).mono ?_
  rintro e w2 ⟨rfl, hw2⟩
  have HZ : Hid (Mz w.heap.size w1.heap.size (w1.heap.size + 1) (w2.alloc (.cells #[.slice none 0 0, .slice none 0 0, .bool false] 30)) most) := by show Mz _ _ _ _ _; rw [← hw2]; exact mz_new hm1 HB1.out.size
  have HBa : Hid (Below w.heap.size w (w2.alloc (.cells #[.slice none 0 0, .slice none 0 0, .bool false] 30))) := by show Below _ _ _; rw [← hw2]; exact (HB1.out.alloc HB1.out.size _).alloc (by have := HB1.out.size; simp; omega) _
  have hz2 : w2.heap.size = w1.heap.size + 1 := by rw [← hw2]; simp
  have hs1 := HB1.out.size
  have HZ2 := Lib.hid hz2
  rw [← hz2] at HZ
  clear hw2 hz2
  go_wp2_with fail
  generalize w1.heap.size = m at *
  generalize w2.heap.size = q at *
  go_loopg [8] 61 (fun gk i wr => ∃ i0 : Nat, i = .int .i64 i0 ∧ i0 ≤ 60 ∧ gk = 61 - i0 ∧ Hid (Mz w.heap.size m q wr most) ∧ Hid (Below w.heap.size w wr))
  case atStart => exact ⟨0, rfl, by omega, by omega, HZ, HBa⟩
  case round =>
    obtain ⟨i0, rfl, hi60, hgk, hgz, hbl⟩ := hrel
    have HGK := Lib.hid hgk
    clear hgk HZ HBa
    by_cases hlt : i0 < len ∧ i0 < 60
    · obtain ⟨hlt, hlt60⟩ := hlt
      obtain ⟨c, off, rfl, hcw, hcell⟩ := HC.out (by omega)
      obtain ⟨q0, q1, q2, q3, q4, q5, q6⟩ := hcell i0 hlt
      clear hcell
      have c0 := (hbl.out.cell (p := ⟨c, off + i0 * 6, none⟩) hcw).trans q0
      have c1 := (hbl.out.cell (p := ⟨c, off + i0 * 6 + 1, none⟩) hcw).trans q1
      have c2 := (hbl.out.cell (p := ⟨c, off + i0 * 6 + 2, none⟩) hcw).trans q2
      have c3 := (hbl.out.cell (p := ⟨c, off + i0 * 6 + 3, none⟩) hcw).trans q3
      have c4 := (hbl.out.cell (p := ⟨c, off + i0 * 6 + 4, none⟩) hcw).trans q4
      have c5 := (hbl.out.cell (p := ⟨c, off + i0 * 6 + 5, none⟩) hcw).trans q5
      clear q0 q1 q2 q3 q4 q5
      have hbs := hbl.out.size
      have hcr : c < wr.heap.size := by omega
      generalize CK i0 = Ki at *
      generalize N i0 = Ni at *
      generalize KY i0 = k at *
      by_cases h100 : 100 < k.tx.size
      · go_wp2_with fail
        go_ret
        exact ⟨rfl, hbl.out.alloc hbs _⟩
      · go_upto_region 15 with (fail)
        obtain ⟨keys, begun, kp, la, na, lc, nc, bl, bn, hy⟩ := hgz.out
        have hcq : wr.heap.size ≠ q := by have := (hy.blk (List.mem_cons_self ..)).lt; omega
        have hBq : w.heap.size ≤ q := by have := HZ2.out; omega
        obtain ⟨w3, hw3⟩ : ∃ w3, w3 = wr.alloc (.cells #[.int .i64 Ki, .int .i64 Ni, .int .i64 k.kd, .int .i64 k.v, .string k.tx, .bool k.ct] 34) := ⟨_, rfl⟩
        rw [← hw3]
        have HY3 : Hid (My w.heap.size m w3 most keys begun kp [CX wr.heap.size Ki Ni k, RX q la keys.length lc na begun.length nc kp] [(bl, la, lc, keys), (bn, na, nc, begun)]) := by show My _ _ _ _ _ _ _ _ _; rw [hw3]; exact hy.add ((Below.refl _ _).alloc (Nat.le_refl _) _) (Blk.new _ _ _) (Nat.le_refl _)
        have HB3 : Hid (Below w.heap.size w w3) := by show Below _ _ _; rw [hw3]; exact hbl.out.alloc hbs _
        generalize wr.heap.size = cb at *
        clear hw3 hy hgz c0 c1 c2 c3 c4 c5 hcr hbs hbl HC
        obtain ⟨ax0, ax1, ax2, axf⟩ := HY3.out.refc
        obtain ⟨ac0, ac1, ac2, ac3, ac4, ac5⟩ := HY3.out.callc
        go_upto_block 2 with (fail)
        go_cut [10] (fun _ wx => Hid (Mz w.heap.size m q wx most) ∧ Hid (Below w.heap.size w wx))
        case first =>
          by_cases hk0 : Ki = 0
          · 
            subst hk0
            cases kp
            · as_aux_lemma =>
                go_wp2_with fail
                go_region_held3 (fun w' => w'.cell? ⟨q, 2, none⟩ = some (.bool false)) (first | exact ax2 | exact bx2) ((first | (go_at_call 6; refine ((HY3.out.below (Below.refl _ _).drew).beginYes HB3.out.size).mono ?_; rintro e w4 ⟨rfl, hy4, hb4⟩; have HY4 := Lib.hid hy4; have HB4 : Hid (Below w.heap.size w w4) := HB3.out.drew.trans hb4; clear hy4 hb4; obtain ⟨bx0, bx1, bx2, bxf⟩ := HY4.out.refc)))
                all_goals
                  go_wp2_with fail
                  refine (turn_on la na keys.length lc begun.length nc _).mono ?_
                  rintro e w5 ⟨rfl, hb5⟩
                  have HY5 := Lib.hid (HY4.out.below hb5)
                  have HB5 : Hid (Below w.heap.size w w5) := HB4.out.trans (hb5.mono HB4.out.size)
                  clear hb5
                  obtain ⟨dx0, dx1, dx2, dxf⟩ := HY5.out.refc
                  go_wp2_with fail
                  go_meet
                  obtain ⟨hy6, hb6⟩ := HY5.out.store hcq hBq HB5.out la keys.length lc none 0 0 true
                  exact ⟨mz_nil hy6.out (by first | exact .inl rfl | exact .inr rfl), hb6⟩
            · as_aux_lemma =>
                go_wp2_with fail
                go_region_held3 (fun w' => w'.cell? ⟨q, 2, none⟩ = some (.bool true)) (first | exact ax2 | exact bx2) ((first | (go_at_call 6; refine ((HY3.out.below (Below.refl _ _).drew).beginNo).mono ?_; rintro e w4 ⟨rfl, rfl⟩; have bx2 := ax2)))
                all_goals
                  go_wp2_with fail
                  go_meet
                  exact ⟨mz_of (HY3.out.below (Below.refl _ _).drew), HB3.out.drew⟩
          · by_cases hk1 : Ki = 1
            · 
              subst hk1
              cases kp
              · as_aux_lemma =>
                  go_wp2_with fail
                  refine (rdo_off la na keys.length lc begun.length nc most k _).mono ?_
                  rintro e w4 ⟨rfl, hb4⟩
                  have HY4 := Lib.hid (HY3.out.below hb4)
                  have HB4 : Hid (Below w.heap.size w w4) := HB3.out.trans (hb4.mono HB3.out.size)
                  clear hb4
                  obtain ⟨bx0, bx1, bx2, bxf⟩ := HY4.out.refc
                  obtain ⟨bc0, bc1, bc2, bc3, bc4, bc5⟩ := HY4.out.callc
                  have HS4 := HB4.out.size
                  go_upto_region 27 with (fail)
                  obtain ⟨w5, hw5⟩ : ∃ w5, w5 = w4.alloc (.cells #[.slice la keys.length lc, .slice na begun.length nc, .bool false] 30) := ⟨_, rfl⟩
                  rw [← hw5]
                  have HY5 : Hid (My w.heap.size m w5 most keys begun false [RX w4.heap.size la keys.length lc na begun.length nc false, CX cb 1 Ni k, RX q la keys.length lc na begun.length nc false] [(bl, la, lc, keys), (bn, na, nc, begun)]) := by show My _ _ _ _ _ _ _ _ _; rw [hw5]; exact HY4.out.add ((Below.refl _ _).alloc (Nat.le_refl _) _) (Blk.new _ _ _) (Nat.le_refl _)
                  have HB5 : Hid (Below w.heap.size w w5) := by show Below _ _ _; rw [hw5]; exact HB4.out.alloc HS4 _
                  generalize w4.heap.size = yb at *
                  clear hw5 HS4
                  obtain ⟨dc0, dc1, dc2, dc3, dc4, dc5⟩ := HY5.out.callc'
                  go_wp2_with fail
                  refine (HY5.out.doOff k).mono ?_
                  rintro e w6 ⟨rfl, hb6⟩
                  have HY6 := Lib.hid (HY5.out.below hb6)
                  have HB6 : Hid (Below w.heap.size w w6) := HB5.out.trans (hb6.mono HB5.out.size)
                  clear hb6
                  obtain ⟨ey0, ey1, ey2, eyf⟩ := HY6.out.refh
                  obtain ⟨ex0, ex1, ex2, exf⟩ := HY6.out.refc'
                  go_wp2_with fail
                  go_meet
                  obtain ⟨hy7, hb7⟩ := (HY6.out.sub (xs' := [CX cb 1 Ni k, RX q la keys.length lc na begun.length nc false]) (by simp) (fun _ h => h)).store hcq hBq HB6.out la keys.length lc na begun.length nc false
                  exact ⟨mz_of2 hy7.out, hb7⟩
              · cases hk : k.ok
                · have HK := Lib.hid hk
                  clear hk
                  as_aux_lemma =>
                    go_wp2_with fail
                    refine (rdo_bad la na keys.length lc begun.length nc most k _ q6 HK.out).mono ?_
                    rintro e w4 ⟨rfl, hb4⟩
                    have HY4 := Lib.hid (HY3.out.below hb4)
                    have HB4 : Hid (Below w.heap.size w w4) := HB3.out.trans (hb4.mono HB3.out.size)
                    clear hb4
                    obtain ⟨bx0, bx1, bx2, bxf⟩ := HY4.out.refc
                    obtain ⟨bc0, bc1, bc2, bc3, bc4, bc5⟩ := HY4.out.callc
                    have HS4 := HB4.out.size
                    go_upto_region 27 with (fail)
                    obtain ⟨w5, hw5⟩ : ∃ w5, w5 = w4.alloc (.cells #[.slice la keys.length lc, .slice na begun.length nc, .bool true] 30) := ⟨_, rfl⟩
                    rw [← hw5]
                    have HY5 : Hid (My w.heap.size m w5 most keys begun true [RX w4.heap.size la keys.length lc na begun.length nc true, CX cb 1 Ni k, RX q la keys.length lc na begun.length nc true] [(bl, la, lc, keys), (bn, na, nc, begun)]) := by show My _ _ _ _ _ _ _ _ _; rw [hw5]; exact HY4.out.add ((Below.refl _ _).alloc (Nat.le_refl _) _) (Blk.new _ _ _) (Nat.le_refl _)
                    have HB5 : Hid (Below w.heap.size w w5) := by show Below _ _ _; rw [hw5]; exact HB4.out.alloc HS4 _
                    generalize w4.heap.size = yb at *
                    clear hw5 HS4
                    obtain ⟨dc0, dc1, dc2, dc3, dc4, dc5⟩ := HY5.out.callc'
                    go_wp2_with fail
                    refine (HY5.out.doBad k (HT.out.below HB5.out) q6 HK.out).mono ?_
                    rintro e w6 ⟨rfl, hb6⟩
                    have HY6 := Lib.hid (HY5.out.below hb6)
                    have HB6 : Hid (Below w.heap.size w w6) := HB5.out.trans (hb6.mono HB5.out.size)
                    clear hb6
                    obtain ⟨ey0, ey1, ey2, eyf⟩ := HY6.out.refh
                    obtain ⟨ex0, ex1, ex2, exf⟩ := HY6.out.refc'
                    go_wp2_with fail
                    go_meet
                    obtain ⟨hy7, hb7⟩ := (HY6.out.sub (xs' := [CX cb 1 Ni k, RX q la keys.length lc na begun.length nc true]) (by simp) (fun _ h => h)).store hcq hBq HB6.out la keys.length lc na begun.length nc true
                    exact ⟨mz_of2 hy7.out, hb7⟩
                · have HK := Lib.hid hk
                  clear hk
                  by_cases hfull : most ≤ begun.length
                  · as_aux_lemma =>
                      go_wp2_with fail
                      refine (rdo_full la na keys.length lc begun.length nc most k _ q6 HK.out hfull).mono ?_
                      rintro e w4 ⟨rfl, hb4⟩
                      have HY4 := Lib.hid (HY3.out.below hb4)
                      have HB4 : Hid (Below w.heap.size w w4) := HB3.out.trans (hb4.mono HB3.out.size)
                      clear hb4
                      obtain ⟨bx0, bx1, bx2, bxf⟩ := HY4.out.refc
                      obtain ⟨bc0, bc1, bc2, bc3, bc4, bc5⟩ := HY4.out.callc
                      have HS4 := HB4.out.size
                      go_upto_region 27 with (fail)
                      obtain ⟨w5, hw5⟩ : ∃ w5, w5 = w4.alloc (.cells #[.slice la keys.length lc, .slice na begun.length nc, .bool true] 30) := ⟨_, rfl⟩
                      rw [← hw5]
                      have HY5 : Hid (My w.heap.size m w5 most keys begun true [RX w4.heap.size la keys.length lc na begun.length nc true, CX cb 1 Ni k, RX q la keys.length lc na begun.length nc true] [(bl, la, lc, keys), (bn, na, nc, begun)]) := by show My _ _ _ _ _ _ _ _ _; rw [hw5]; exact HY4.out.add ((Below.refl _ _).alloc (Nat.le_refl _) _) (Blk.new _ _ _) (Nat.le_refl _)
                      have HB5 : Hid (Below w.heap.size w w5) := by show Below _ _ _; rw [hw5]; exact HB4.out.alloc HS4 _
                      generalize w4.heap.size = yb at *
                      clear hw5 HS4
                      obtain ⟨dc0, dc1, dc2, dc3, dc4, dc5⟩ := HY5.out.callc'
                      go_wp2_with fail
                      refine (HY5.out.doFull k (HT.out.below HB5.out) q6 HK.out hfull).mono ?_
                      rintro e w6 ⟨rfl, hb6⟩
                      have HY6 := Lib.hid (HY5.out.below hb6)
                      have HB6 : Hid (Below w.heap.size w w6) := HB5.out.trans (hb6.mono HB5.out.size)
                      clear hb6
                      obtain ⟨ey0, ey1, ey2, eyf⟩ := HY6.out.refh
                      obtain ⟨ex0, ex1, ex2, exf⟩ := HY6.out.refc'
                      go_wp2_with fail
                      go_meet
                      obtain ⟨hy7, hb7⟩ := (HY6.out.sub (xs' := [CX cb 1 Ni k, RX q la keys.length lc na begun.length nc true]) (by simp) (fun _ h => h)).store hcq hBq HB6.out la keys.length lc na begun.length nc true
                      exact ⟨mz_of2 hy7.out, hb7⟩
                  · have hroom : begun.length < most := by omega
                    clear hfull
                    as_aux_lemma =>
                      go_wp2_with fail
                      refine (rdo_yes la na keys.length lc nc most bn begun k _ q6 HK.out hroom hm1 (HY3.out.kv (b := bn) (ao := na) (cap := nc) (l := begun) (List.mem_cons_of_mem _ (List.mem_cons_self ..)))).mono ?_
                      rintro e w4 ⟨ab, b4, cap4, rfl, hb4n, hkv4, hb4⟩
                      have HY4 := Lib.hid ((HY3.out.below hb4))
                      have HR4 := Lib.hid (HY3.out.row hb4 hkv4 (fun _ => hb4n))
                      have HB4 : Hid (Below w.heap.size w w4) := HB3.out.trans (hb4.mono HB3.out.size)
                      clear hb4 hkv4 hb4n
                      obtain ⟨bx0, bx1, bx2, bxf⟩ := HY4.out.refc
                      obtain ⟨bc0, bc1, bc2, bc3, bc4, bc5⟩ := HY4.out.callc
                      have HS4 := HB4.out.size
                      go_upto_region 27 with (fail)
                      obtain ⟨w5, hw5⟩ : ∃ w5, w5 = w4.alloc (.cells #[.slice la keys.length lc, .slice ab (begun.length + 1) cap4, .bool true] 30) := ⟨_, rfl⟩
                      rw [← hw5]
                      have HY5 : Hid (My w.heap.size m w5 most keys begun true [RX w4.heap.size la keys.length lc ab (begun.length + 1) cap4 true, CX cb 1 Ni k, RX q la keys.length lc na begun.length nc true] [(b4, ab, cap4, begun ++ [k]), (bl, la, lc, keys), (bn, na, nc, begun)]) := by show My _ _ _ _ _ _ _ _ _; rw [hw5]; exact HR4.out.add ((Below.refl _ _).alloc (Nat.le_refl _) _) (Blk.new _ _ _) (Nat.le_refl _)
                      have HB5 : Hid (Below w.heap.size w w5) := by show Below _ _ _; rw [hw5]; exact HB4.out.alloc HS4 _
                      generalize w4.heap.size = yb at *
                      clear hw5 HS4 HR4
                      obtain ⟨dc0, dc1, dc2, dc3, dc4, dc5⟩ := HY5.out.callc'
                      go_wp2_with fail
                      refine (HY5.out.doYes k HB5.out.size (HT.out.below HB5.out) q6 HK.out hroom).mono ?_
                      rintro e w6 ⟨rfl, hy6, hb6⟩
                      have HY6 := Lib.hid hy6
                      have HB6 : Hid (Below w.heap.size w w6) := HB5.out.trans hb6
                      clear hb6 hy6
                      obtain ⟨ey0, ey1, ey2, eyf⟩ := HY6.out.refh
                      obtain ⟨ex0, ex1, ex2, exf⟩ := HY6.out.refc'
                      go_wp2_with fail
                      go_meet
                      obtain ⟨hy7, hb7⟩ := (HY6.out.sub (xs' := [CX cb 1 Ni k, RX q la keys.length lc na begun.length nc true]) (by simp) (fun _ h => h)).store hcq hBq HB6.out la keys.length lc ab (begun.length + 1) cap4 true
                      exact ⟨mz_three hy7.out, hb7⟩
            · by_cases hk2 : Ki = 2
              · 
                subst hk2
                cases kp
                · as_aux_lemma =>
                    go_wp2_with fail
                    go_region_held3 (fun w' => w'.cell? ⟨q, 2, none⟩ = some (.bool false)) (first | exact ax2 | exact bx2) ((first | (go_at_call 10; refine ((HY3.out.below (Below.refl _ _).drew).endNo).mono ?_; rintro e w4 ⟨rfl, rfl⟩; have bx2 := ax2)))
                    all_goals
                      go_wp2_with fail
                      go_meet
                      exact ⟨mz_of (HY3.out.below (Below.refl _ _).drew), HB3.out.drew⟩
                · rcases Nat.eq_zero_or_pos begun.length with hb0 | hb0
                  · obtain rfl := List.eq_nil_of_length_eq_zero hb0
                    clear hb0
                    as_aux_lemma =>
                      go_wp2_with fail
                      go_region_held3 (fun w' => w'.cell? ⟨q, 2, none⟩ = some (.bool true)) (first | exact ax2 | exact bx2) ((first | (go_at_call 10; refine ((HY3.out.below (Below.refl _ _).drew).endNone HB3.out.size).mono ?_; rintro e w4 ⟨rfl, hy4, hb4⟩; have HY4 := Lib.hid hy4; have HB4 : Hid (Below w.heap.size w w4) := HB3.out.drew.trans hb4; clear hy4 hb4; obtain ⟨bx0, bx1, bx2, bxf⟩ := HY4.out.refc)))
                      all_goals
                        go_wp2_with fail
                        refine (turn_none la na keys.length lc nc _).mono ?_
                        rintro e w5 ⟨rfl, hb5⟩
                        have HY5 := Lib.hid (HY4.out.below hb5)
                        have HB5 : Hid (Below w.heap.size w w5) := HB4.out.trans (hb5.mono HB4.out.size)
                        clear hb5
                        obtain ⟨dx0, dx1, dx2, dxf⟩ := HY5.out.refc
                        go_wp2_with fail
                        go_meet
                        obtain ⟨hy6, hb6⟩ := HY5.out.store hcq hBq HB5.out la keys.length lc none 0 0 false
                        exact ⟨mz_nil hy6.out (by first | exact .inl rfl | exact .inr rfl), hb6⟩
                  · as_aux_lemma =>
                      go_wp2_with fail
                      go_region_held3 (fun w' => w'.cell? ⟨q, 2, none⟩ = some (.bool true)) (first | exact ax2 | exact bx2) ((first | (go_at_call 10; refine ((HY3.out.below (Below.refl _ _).drew).endSome hb0 HB3.out.size).mono ?_; rintro e w4 ⟨rfl, hy4, hb4⟩; have HY4 := Lib.hid hy4; have HB4 : Hid (Below w.heap.size w w4) := HB3.out.drew.trans hb4; clear hy4 hb4; obtain ⟨bx0, bx1, bx2, bxf⟩ := HY4.out.refc)))
                      all_goals
                        go_wp2_with fail
                        refine (turn_some la na keys.length lc begun.length nc _ hb0).mono ?_
                        rintro e w5 ⟨rfl, hb5⟩
                        have HY5 := Lib.hid (HY4.out.below hb5)
                        have HB5 : Hid (Below w.heap.size w w5) := HB4.out.trans (hb5.mono HB4.out.size)
                        clear hb5
                        obtain ⟨dx0, dx1, dx2, dxf⟩ := HY5.out.refc
                        go_wp2_with fail
                        go_meet
                        obtain ⟨hy6, hb6⟩ := HY5.out.store hcq hBq HB5.out na begun.length nc none 0 0 false
                        exact ⟨mz_nil hy6.out (by first | exact .inl rfl | exact .inr rfl), hb6⟩
              · 
                have hne0 : (Ki == 0) = false := by simp [hk0]
                have hne1 : (Ki == 1) = false := by simp [hk1]
                have hne2 : (Ki == 2) = false := by simp [hk2]
                have HL := Lib.hid HY3.out.lens.1
                clear hk0 hk1 hk2
                cases kp
                · rcases Nat.eq_zero_or_pos keys.length with hk0 | hk0
                  · obtain rfl := List.eq_nil_of_length_eq_zero hk0
                    clear hk0
                    as_aux_lemma =>
                      go_wp2_with fail
                      refine (rplay_none la na lc begun.length nc Ni _).mono ?_
                      rintro e w4 ⟨rfl, hb4⟩
                      have HY4 := Lib.hid (HY3.out.below hb4)
                      have HB4 : Hid (Below w.heap.size w w4) := HB3.out.trans (hb4.mono HB3.out.size)
                      clear hb4
                      obtain ⟨bx0, bx1, bx2, bxf⟩ := HY4.out.refc
                      obtain ⟨bc0, bc1, bc2, bc3, bc4, bc5⟩ := HY4.out.callc
                      go_wp2_with fail
                      refine (HY4.out.playNone Ni).mono ?_
                      rintro e w5 ⟨rfl, rfl⟩
                      go_wp2_with fail
                      refine (same_nil _).mono ?_
                      rintro e w6 ⟨rfl, hb6⟩
                      have HY6 := Lib.hid (HY4.out.below hb6)
                      have HB6 : Hid (Below w.heap.size w w6) := HB4.out.trans (hb6.mono HB4.out.size)
                      clear hb6
                      go_wp2_with fail
                      go_meet
                      exact ⟨mz_of HY6.out, HB6.out⟩
                  · by_cases hn : Ni < 1
                    · as_aux_lemma =>
                        go_wp2_with fail
                        refine (rplay_range la na keys.length lc begun.length nc Ni _ hk0 hn).mono ?_
                        rintro e w4 ⟨rfl, hb4⟩
                        have HY4 := Lib.hid (HY3.out.below hb4)
                        have HB4 : Hid (Below w.heap.size w w4) := HB3.out.trans (hb4.mono HB3.out.size)
                        clear hb4
                        obtain ⟨bx0, bx1, bx2, bxf⟩ := HY4.out.refc
                        obtain ⟨bc0, bc1, bc2, bc3, bc4, bc5⟩ := HY4.out.callc
                        go_wp2_with fail
                        refine (HY4.out.playRange Ni hk0 hn).mono ?_
                        rintro e w5 ⟨rfl, rfl⟩
                        go_wp2_with fail
                        refine (same_nil _).mono ?_
                        rintro e w6 ⟨rfl, hb6⟩
                        have HY6 := Lib.hid (HY4.out.below hb6)
                        have HB6 : Hid (Below w.heap.size w w6) := HB4.out.trans (hb6.mono HB4.out.size)
                        clear hb6
                        go_wp2_with fail
                        go_meet
                        exact ⟨mz_of HY6.out, HB6.out⟩
                    · obtain ⟨n, rfl⟩ : ∃ n : Nat, Ni = n := ⟨Ni.toNat, by omega⟩
                      by_cases hnq : n * keys.length ≤ 9999
                      · have hn1 : 1 ≤ n := by omega
                        clear hn
                        as_aux_lemma =>
                          go_wp2_with fail
                          refine (rplay_yes la na lc begun.length nc bl keys n _ hk0 HL.out hn1 hnq (HY3.out.kv (b := bl) (ao := la) (cap := lc) (l := keys) (List.mem_cons_self ..))).mono ?_
                          rintro e w4 ⟨v4, rfl, ho4, hb4⟩
                          have HY4 := Lib.hid (HY3.out.below hb4)
                          have HB4 : Hid (Below w.heap.size w w4) := HB3.out.trans (hb4.mono HB3.out.size)
                          obtain ⟨a4, k4, b4, rfl, hb4n, hkv4⟩ := own_kv (l := rep n keys) ho4 (rep_len n keys).symm
                          have HK4 := Lib.hid hkv4
                          clear hb4 ho4 hkv4 hb4n
                          obtain ⟨bx0, bx1, bx2, bxf⟩ := HY4.out.refc
                          obtain ⟨bc0, bc1, bc2, bc3, bc4, bc5⟩ := HY4.out.callc
                          go_wp2_with fail
                          refine (HY4.out.playYes n hk0 hn1 hnq).mono ?_
                          rintro e w5 ⟨v5, rfl, ho5, hb5⟩
                          have HY5 := Lib.hid (HY4.out.below hb5)
                          have HB5 : Hid (Below w.heap.size w w5) := HB4.out.trans (hb5.mono HB4.out.size)
                          obtain ⟨a5, k5, b5, rfl, hb5n, hkv5⟩ := own_kv (l := rep n keys) ho5 (rep_len n keys).symm
                          have HK5 := Lib.hid hkv5
                          have HK45 := Lib.hid (HK4.out.below hb5)
                          clear hb5 ho5 hkv5 hb5n
                          go_wp2_with fail
                          refine (same_any b5 b4 a5 a4 k5 k4 (rep n keys) _ HK5.out.2.2.2 HK45.out.2.2.2 (by rw [rep_len]; omega)).mono ?_
                          rintro e w6 ⟨rfl, hb6⟩
                          have HY6 := Lib.hid (HY5.out.below hb6)
                          have HB6 : Hid (Below w.heap.size w w6) := HB5.out.trans (hb6.mono HB5.out.size)
                          clear hb6
                          go_wp2_with fail
                          go_meet
                          exact ⟨mz_of HY6.out, HB6.out⟩
                      · have HQ : Hid (9999 < (n : Int) * (keys.length : Int)) := by show _ < _; rw [← Int.natCast_mul]; omega
                        clear hnq
                        as_aux_lemma =>
                          go_wp2_with fail
                          refine (rplay_big la na keys.length lc begun.length nc n _ hk0 HL.out (by omega) HQ.out).mono ?_
                          rintro e w4 ⟨rfl, hb4⟩
                          have HY4 := Lib.hid (HY3.out.below hb4)
                          have HB4 : Hid (Below w.heap.size w w4) := HB3.out.trans (hb4.mono HB3.out.size)
                          clear hb4
                          obtain ⟨bx0, bx1, bx2, bxf⟩ := HY4.out.refc
                          obtain ⟨bc0, bc1, bc2, bc3, bc4, bc5⟩ := HY4.out.callc
                          go_wp2_with fail
                          refine (HY4.out.playBig n hk0 (by omega) HQ.out).mono ?_
                          rintro e w5 ⟨rfl, rfl⟩
                          go_wp2_with fail
                          refine (same_nil _).mono ?_
                          rintro e w6 ⟨rfl, hb6⟩
                          have HY6 := Lib.hid (HY4.out.below hb6)
                          have HB6 : Hid (Below w.heap.size w w6) := HB4.out.trans (hb6.mono HB4.out.size)
                          clear hb6
                          go_wp2_with fail
                          go_meet
                          exact ⟨mz_of HY6.out, HB6.out⟩
                · as_aux_lemma =>
                    go_wp2_with fail
                    refine (rplay_mode la na keys.length lc begun.length nc Ni _).mono ?_
                    rintro e w4 ⟨rfl, hb4⟩
                    have HY4 := Lib.hid (HY3.out.below hb4)
                    have HB4 : Hid (Below w.heap.size w w4) := HB3.out.trans (hb4.mono HB3.out.size)
                    clear hb4
                    obtain ⟨bx0, bx1, bx2, bxf⟩ := HY4.out.refc
                    obtain ⟨bc0, bc1, bc2, bc3, bc4, bc5⟩ := HY4.out.callc
                    go_wp2_with fail
                    refine (HY4.out.playMode Ni).mono ?_
                    rintro e w5 ⟨rfl, rfl⟩
                    go_wp2_with fail
                    refine (same_nil _).mono ?_
                    rintro e w6 ⟨rfl, hb6⟩
                    have HY6 := Lib.hid (HY4.out.below hb6)
                    have HB6 : Hid (Below w.heap.size w w6) := HB4.out.trans (hb6.mono HB4.out.size)
                    clear hb6
                    go_wp2_with fail
                    go_meet
                    exact ⟨mz_of HY6.out, HB6.out⟩
        case rest =>
          obtain ⟨hgz, hbx⟩ := hcut
          clear HY3 HB3
          obtain ⟨keys, begun, kp, la, na, lc, nc, bl, bn, hy⟩ := hgz.out
          have HY := Lib.hid hy
          have HL := Lib.hid hy.lens.1
          clear hy hgz
          obtain ⟨x0, x1, x2, xf⟩ := HY.out.refh
          go_upto_region 35 with (fail)
          go_cut [138] (fun s138 wx => s138 = .bool false ∧ Hid (Mz w.heap.size m q wx most) ∧ Hid (Below w.heap.size w wx))
          case first =>
            go_region_held3 (fun w' => w'.cell? ⟨q, 0, none⟩ = some (.slice la keys.length lc) ∧ w'.cell? ⟨q, 2, none⟩ = some (.bool kp)) (first | exact ⟨x0, x2⟩ | exact ⟨xa0, xa2⟩ | exact ⟨xb0, xb2⟩) ((first | (go_at_call 14; refine ((HY.out.below (Below.refl _ _).drew).keeps).mono ?_; rintro e y1 ⟨rfl, rfl⟩) | (go_at_call 15; refine ((HY.out.below (Below.refl _ _).drew).keysA).mono ?_; rintro e y2 ⟨ao2, cap2, b2, rfl, hb2, hk2, hl2⟩; have HY2 := Lib.hid ((HY.out.below (Below.refl _ _).drew).below hl2); have HK2 := Lib.hid hk2; have HW2 : Hid (Below w.heap.size w y2) := hbx.out.drew.trans (hl2.mono hbx.out.size); clear hl2 hk2 hb2; obtain ⟨xa0, xa1, xa2, xaf⟩ := HY2.out.refh) | (go_at_call 13; refine (same_any b2 bl ao2 la cap2 lc keys _ HK2.out.2.2.2 (HY2.out.kv (b := bl) (ao := la) (cap := lc) (l := keys) (List.mem_cons_self ..)).2.2.2 (Nat.le_trans HL.out (by decide))).mono ?_; rintro e y3 ⟨rfl, hl3⟩; have HY3 := Lib.hid (HY2.out.below hl3); have HW3 : Hid (Below w.heap.size w y3) := HW2.out.trans (hl3.mono HW2.out.size); clear hl3; obtain ⟨xb0, xb1, xb2, xbf⟩ := HY3.out.refh)))
            all_goals
              go_wp2_with fail
              go_meet
              exact ⟨rfl, mz_of1 HY3.out, HW3.out⟩
          case rest =>
            obtain ⟨rfl, hz9, hb9⟩ := hcut
            go_wp2_with fail
            go_roundg (gk - 1)
            case measure => have := HGK.out; omega
            case rel => exact ⟨i0 + 1, by go_num, by omega, by have := HGK.out; omega, hz9, hb9⟩
    · have hh : ¬ i0 < len ∨ (i0 < len ∧ ¬ i0 < 60) := by omega
      rcases hh with hh | ⟨hh, h60⟩
      · go_wp2_with fail
        go_ret
        exact ⟨rfl, hbl.out⟩
      · go_wp2_with fail
        go_ret
        exact ⟨rfl, hbl.out⟩
end Go.Proofs.YtgffmkbcppajoaaDoor
