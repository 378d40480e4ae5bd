/- The macro beside other blocks and rows that its calls leave alone: what every call keeps. -/
import Derived.Test.YtgffmkbcppajoaaDoorMA
namespace Go.Proofs.YtgffmkbcppajoaaDoor
open Go.RowKit
/-- Blocks (known whole) and rows of keys, none of them m or rb. -/
def Ok (m rb : Nat) (w : World) (xs : List (Nat × Array Value × TypeId)) (ks : List (Nat × Option Addr × Nat × List KV)) : Prop :=
  (∀ x ∈ xs, Blk w x.1 x.2.1 x.2.2 ∧ x.1 ≠ m ∧ x.1 ≠ rb) ∧ (∀ y ∈ ks, Kv w y.1 y.2.1 y.2.2.1 y.2.2.2 ∧ (0 < y.2.2.2.length → y.1 ≠ m ∧ y.1 ≠ rb))
/-- The macro in block m, beside these. -/
def My (B m : Nat) (w : World) (most : Nat) (keys begun : List KV) (kp : Bool) (xs : List (Nat × Array Value × TypeId)) (ks : List (Nat × Option Addr × Nat × List KV)) : Prop :=
  ∃ rb, Mc B m rb w most keys begun kp ∧ Ok m rb w xs ks
section
variable {B m most : Nat} {w w' : World} {keys begun keys' begun' : List KV} {kp kp' : Bool} {xs : List (Nat × Array Value × TypeId)} {ks : List (Nat × Option Addr × Nat × List KV)}
theorem Ok.keep {rb g : Nat} (h : Ok m rb w xs ks) (hk : Keep (fun x => x = m ∨ x = rb) w w') (hg : g = rb ∨ g = m ∨ w.heap.size ≤ g) : Ok m g w' xs ks := by
  refine ⟨fun x hx => ?_, fun y hy => ?_⟩
  · obtain ⟨h1, h2, h3⟩ := h.1 x hx
    have := h1.lt
    exact ⟨hk.blk h1 (by omega), h2, by omega⟩
  · obtain ⟨h1, h2⟩ := h.2 y hy
    refine ⟨h1.keep hk (fun h0 => by have := h2 h0; omega), fun h0 => ?_⟩
    obtain ⟨h3, h4⟩ := h2 h0
    have := (h1.2.2.2 h0).1
    exact ⟨h3, by omega⟩
theorem My.step {f : Nat} {args : Array Value} {r : Ending} (h : My B m w most keys begun kp xs ks) (hB : B ≤ w.heap.size)
    (hc : ∀ rb, Mc B m rb w most keys begun kp → Calls Tryd.prog f args w fun e w' => e = r ∧ ∃ g, Mc B m g w' most keys' begun' kp' ∧ (g = rb ∨ g = m ∨ w.heap.size ≤ g) ∧ Keep (fun x => x = m ∨ x = rb) w w') :
    Calls Tryd.prog f args w fun e w' => e = r ∧ My B m w' most keys' begun' kp' xs ks ∧ Below B w w' := by
  obtain ⟨rb, h1, h2⟩ := h
  refine (hc rb h1).mono ?_
  rintro e w' ⟨rfl, g, h3, h4, h5⟩
  exact ⟨rfl, ⟨g, h3, h2.keep h5 h4⟩, Keep.onto (Below.refl _ _) h5 hB (fun q hq => by have a := h1.2.1; have b := h1.2.2.1; omega)⟩
theorem My.below (h : My B m w most keys begun kp xs ks) (hb : Below w.heap.size w w') : My B m w' most keys begun kp xs ks := by
  obtain ⟨rb, h1, h2⟩ := h
  exact ⟨rb, h1.below hb, h2.keep (Keep.mono (S := fun _ => False) (Keep.of_below hb) (fun _ _ h => h.elim)) (.inl rfl)⟩
theorem My.lt (h : My B m w most keys begun kp xs ks) : m < w.heap.size := by obtain ⟨rb, h1, _⟩ := h; exact h1.lt
theorem My.le (h : My B m w most keys begun kp xs ks) : B ≤ m := by obtain ⟨rb, h1, _⟩ := h; exact h1.2.1
theorem My.lens (h : My B m w most keys begun kp xs ks) : keys.length ≤ 9999 ∧ begun.length ≤ 9999 := by obtain ⟨rb, h1, _⟩ := h; exact ⟨h1.2.2.2.2.1, h1.2.2.2.2.2.1⟩
theorem My.beginYes (h : My B m w most keys begun false xs ks) (hB : B ≤ w.heap.size) : Calls Tryd.prog 6 #[.pointer (some ⟨m, 0, none⟩)] w fun e w' => e = .returned (.bool true) ∧ My B m w' most keys [] true xs ks ∧ Below B w w' :=
  h.step hB fun rb h1 => (begin_yes h1).mono fun _ _ ⟨h2, h3, h4⟩ => ⟨h2, rb, h3, .inl rfl, h4.mono (fun _ _ h => .inl h)⟩
theorem My.beginNo (h : My B m w most keys begun true xs ks) : Calls Tryd.prog 6 #[.pointer (some ⟨m, 0, none⟩)] w fun e w' => e = .returned (.bool false) ∧ w = w' := by
  obtain ⟨rb, h1, _⟩ := h; exact begin_no h1
theorem My.endNo (h : My B m w most keys begun false xs ks) : Calls Tryd.prog 10 #[.pointer (some ⟨m, 0, none⟩)] w fun e w' => e = .returned (.bool false) ∧ w = w' := by
  obtain ⟨rb, h1, _⟩ := h; exact end_no h1
theorem My.endNone (h : My B m w most keys [] true xs ks) (hB : B ≤ w.heap.size) : Calls Tryd.prog 10 #[.pointer (some ⟨m, 0, none⟩)] w fun e w' => e = .returned (.bool true) ∧ My B m w' most keys [] false xs ks ∧ Below B w w' :=
  h.step hB fun rb h1 => (end_none h1).mono fun _ _ ⟨h2, h3, h4⟩ => ⟨h2, rb, h3, .inl rfl, h4.mono (fun _ _ h => .inl h)⟩
theorem My.endSome (h0 : 0 < begun.length) (h : My B m w most keys begun true xs ks) (hB : B ≤ w.heap.size) : Calls Tryd.prog 10 #[.pointer (some ⟨m, 0, none⟩)] w fun e w' => e = .returned (.bool true) ∧ My B m w' most begun [] false xs ks ∧ Below B w w' :=
  h.step hB fun _ h1 => (end_some h0 h1).mono fun _ _ ⟨h2, h3, h4⟩ => ⟨h2, m, h3, .inr (.inl rfl), h4.mono (fun _ _ h => .inl h)⟩
theorem My.doOff (k : KV) (h : My B m w most keys begun false xs ks) : Calls Tryd.prog 9 #[.pointer (some ⟨m, 0, none⟩), .agg #[.int .i64 k.kd, .int .i64 k.v, .string k.tx, .bool k.ct]] w fun e w' => e = .returned (.bool false) ∧ Below w.heap.size w w' := by
  obtain ⟨rb, h1, _⟩ := h; exact do_off k h1
theorem My.doBad (k : KV) (h : My B m w most keys begun true xs ks) (ht : KeyTab w) (hs : k.tx.size ≤ 9223372036854775807) (hk : k.ok = false) : Calls Tryd.prog 9 #[.pointer (some ⟨m, 0, none⟩), .agg #[.int .i64 k.kd, .int .i64 k.v, .string k.tx, .bool k.ct]] w fun e w' => e = .returned (.bool false) ∧ Below w.heap.size w w' := by
  obtain ⟨rb, h1, _⟩ := h; exact do_bad k h1 ht hs hk
theorem My.doFull (k : KV) (h : My B m w most keys begun true xs ks) (ht : KeyTab w) (hs : k.tx.size ≤ 9223372036854775807) (hk : k.ok = true) (hf : most ≤ begun.length) : Calls Tryd.prog 9 #[.pointer (some ⟨m, 0, none⟩), .agg #[.int .i64 k.kd, .int .i64 k.v, .string k.tx, .bool k.ct]] w fun e w' => e = .returned (.bool false) ∧ Below w.heap.size w w' := by
  obtain ⟨rb, h1, _⟩ := h; exact do_full k h1 ht hs hk hf
theorem My.doYes (k : KV) (h : My B m w most keys begun true xs ks) (hB : B ≤ w.heap.size) (ht : KeyTab w) (hs : k.tx.size ≤ 9223372036854775807) (hk : k.ok = true) (hf : begun.length < most) : Calls Tryd.prog 9 #[.pointer (some ⟨m, 0, none⟩), .agg #[.int .i64 k.kd, .int .i64 k.v, .string k.tx, .bool k.ct]] w fun e w' => e = .returned (.bool true) ∧ My B m w' most keys (begun ++ [k]) true xs ks ∧ Below B w w' :=
  h.step hB fun _ h1 => (do_yes k h1 ht hs hk hf).mono fun _ _ ⟨h2, g, h3, h4, h5⟩ => ⟨h2, g, h3, h4.elim .inl (fun h => .inr (.inr h)), h5⟩
theorem My.playMode (n : Int) (h : My B m w most keys begun true xs ks) : Calls Tryd.prog 12 #[.pointer (some ⟨m, 0, none⟩), .int .i64 n] w fun e w' => e = .returned (.tuple #[.slice none 0 0, .int .i64 12]) ∧ w = w' := by
  obtain ⟨rb, h1, _⟩ := h; exact play_mode n h1
theorem My.playNone (n : Int) (h : My B m w most [] begun false xs ks) : Calls Tryd.prog 12 #[.pointer (some ⟨m, 0, none⟩), .int .i64 n] w fun e w' => e = .returned (.tuple #[.slice none 0 0, .int .i64 7]) ∧ w = w' := by
  obtain ⟨rb, h1, _⟩ := h; exact play_none n h1
theorem My.playRange (n : Int) (h0 : 0 < keys.length) (hn : n < 1) (h : My B m w most keys begun false xs ks) : Calls Tryd.prog 12 #[.pointer (some ⟨m, 0, none⟩), .int .i64 n] w fun e w' => e = .returned (.tuple #[.slice none 0 0, .int .i64 3]) ∧ w = w' := by
  obtain ⟨rb, h1, _⟩ := h; exact play_range n h0 hn h1
theorem My.playBig (n : Int) (h0 : 0 < keys.length) (hn : ¬ n < 1) (hq : 9999 < n * (keys.length : Int)) (h : My B m w most keys begun false xs ks) : Calls Tryd.prog 12 #[.pointer (some ⟨m, 0, none⟩), .int .i64 n] w fun e w' => e = .returned (.tuple #[.slice none 0 0, .int .i64 4]) ∧ w = w' := by
  obtain ⟨rb, h1, _⟩ := h
  exact play_big n h0 hn (Int.ediv_lt_of_lt_mul (by omega) hq) h1
theorem My.playYes (n : Nat) (h0 : 0 < keys.length) (hn : 1 ≤ n) (hq : n * keys.length ≤ 9999) (h : My B m w most keys begun false xs ks) : Calls Tryd.prog 12 #[.pointer (some ⟨m, 0, none⟩), .int .i64 n] w fun e w' => ∃ v, e = .returned (.tuple #[v, .int .i64 0]) ∧ w'.ownsRow w.heap.size 32 4 v (n * keys.length) (kg (rep n keys)) ∧ Below w.heap.size w w' := by
  obtain ⟨rb, h1, _⟩ := h; exact play_yes n h0 hn hq h1
theorem My.keeps (h : My B m w most keys begun kp xs ks) : Calls Tryd.prog 14 #[.pointer (some ⟨m, 0, none⟩)] w fun e w' => e = .returned (.bool kp) ∧ w = w' := by
  obtain ⟨rb, h1, _⟩ := h; exact keeps_any h1
theorem My.keysA (h : My B m w most keys begun kp xs ks) : Calls Tryd.prog 15 #[.pointer (some ⟨m, 0, none⟩)] w (ClonePost keys w) := by
  obtain ⟨rb, h1, _⟩ := h; exact keys_any h1
/-- Fewer of them. -/
theorem My.sub {xs' : List (Nat × Array Value × TypeId)} {ks' : List (Nat × Option Addr × Nat × List KV)} (h : My B m w most keys begun kp xs ks) (hx : ∀ x ∈ xs', x ∈ xs) (hy : ∀ y ∈ ks', y ∈ ks) : My B m w most keys begun kp xs' ks' := by
  obtain ⟨rb, h1, h2, h3⟩ := h
  exact ⟨rb, h1, fun x h => h2 x (hx x h), fun y h => h3 y (hy y h)⟩
/-- A new block beside. -/
theorem My.add (h : My B m w most keys begun kp xs ks) (hb : Below w.heap.size w w') {q : Nat} {cs : Array Value} {t : TypeId} (hq : Blk w' q cs t) (hn : w.heap.size ≤ q) : My B m w' most keys begun kp ((q, cs, t) :: xs) ks := by
  obtain ⟨rb, h1, h2⟩ := h
  have hm := h1.lt
  have hr := h1.2.2.2.1
  obtain ⟨h3, h4⟩ := h2.keep (Keep.mono (S := fun _ => False) (Keep.of_below hb) (fun _ _ h => h.elim)) (.inl rfl)
  refine ⟨rb, h1.below hb, fun x hx => ?_, h4⟩
  rcases List.mem_cons.1 hx with rfl | hx
  · exact ⟨hq, by show q ≠ _; omega, by show q ≠ _; omega⟩
  · exact h3 x hx
/-- A new row of keys beside. -/
theorem My.row (h : My B m w most keys begun kp xs ks) (hb : Below w.heap.size w w') {b : Nat} {ao : Option Addr} {cap : Nat} {l : List KV} (hk : Kv w' b ao cap l) (hn : 0 < l.length → w.heap.size ≤ b) : My B m w' most keys begun kp xs ((b, ao, cap, l) :: ks) := by
  obtain ⟨rb, h1, h2⟩ := h
  have hm := h1.lt
  have hr := h1.2.2.2.1
  obtain ⟨h3, h4⟩ := h2.keep (Keep.mono (S := fun _ => False) (Keep.of_below hb) (fun _ _ h => h.elim)) (.inl rfl)
  refine ⟨rb, h1.below hb, h3, fun y hy => ?_⟩
  rcases List.mem_cons.1 hy with rfl | hy
  · exact ⟨hk, fun h0 => by have := hn h0; exact ⟨by show b ≠ _; omega, by show b ≠ _; omega⟩⟩
  · exact h4 y hy
/-- Where a reference's M lies, no keys lie. -/
theorem kv_ne {b q cap : Nat} {ao a1 a2 : Option Addr} {n1 c1 n2 c2 : Nat} {x : Bool} {l : List KV} {t : TypeId} (h : Kv w b ao cap l) (h0 : 0 < l.length) (hq : Blk w q #[.slice a1 n1 c1, .slice a2 n2 c2, .bool x] t) : b ≠ q := by
  rintro rfl
  obtain ⟨off, _, _, hc⟩ := h.2.2.2.at h0
  obtain ⟨c0, -⟩ := hc 0 h0
  rw [hq.cell] at c0
  have e : off + 0 * 4 = off := by omega
  rw [e] at c0
  rcases off with _ | _ | _ | off <;> simp at c0
theorem Mc.keepq {rb q : Nat} {a1 a2 : Option Addr} {n1 c1 n2 c2 : Nat} {x : Bool} {t : TypeId} (h : Mc B m rb w most keys begun kp) (hk : Keep (· = q) w w') (hm : q ≠ m) (hr : q ≠ rb) (hq : Blk w q #[.slice a1 n1 c1, .slice a2 n2 c2, .bool x] t) : Mc B m rb w' most keys begun kp := by
  obtain ⟨b1, b2, b3, b4, b5, b6, ak, ck, bk, ab, cb, h1, h2, h3, h4, h5⟩ := h
  exact ⟨b1, b2, b3, Nat.lt_of_lt_of_le b4 hk.size, b5, b6, ak, ck, bk, ab, cb, hk.blk h1 (fun e => hm e.symm), h2.keep hk (fun h0 => kv_ne h2 h0 hq), h3, own_keep h4 hk (fun k hk' e => hr (by have := (h5 k hk').1; omega)), h5⟩
/-- The reference's M is written. -/
theorem My.put {q : Nat} {a1 a2 : Option Addr} {n1 c1 n2 c2 : Nat} {x : Bool} {t : TypeId} {cs' : Array Value} (h : My B m w most keys begun kp ((q, #[.slice a1 n1 c1, .slice a2 n2 c2, .bool x], t) :: xs) ks) (hk : Keep (· = q) w w') (hq : Blk w' q cs' t) (hx : ∀ x ∈ xs, x.1 ≠ q) : My B m w' most keys begun kp ((q, cs', t) :: xs) ks := by
  obtain ⟨rb, h1, h2, h3⟩ := h
  obtain ⟨hq0, hqm, hqr⟩ := h2 _ (List.mem_cons_self ..)
  refine ⟨rb, h1.keepq hk hqm hqr hq0, fun x hx' => ?_, fun y hy => ?_⟩
  · rcases List.mem_cons.1 hx' with rfl | hx'
    · exact ⟨hq, hqm, hqr⟩
    · obtain ⟨e1, e2⟩ := h2 x (List.mem_cons_of_mem _ hx')
      exact ⟨hk.blk e1 (hx x hx'), e2⟩
  · obtain ⟨e1, e2⟩ := h3 y hy
    exact ⟨e1.keep hk (fun h0 => kv_ne e1 h0 hq0), e2⟩
theorem My.blk (h : My B m w most keys begun kp xs ks) {q : Nat} {cs : Array Value} {t : TypeId} (hx : (q, cs, t) ∈ xs) : Blk w q cs t := by obtain ⟨rb, _, h2, _⟩ := h; exact (h2 _ hx).1
theorem My.kv (h : My B m w most keys begun kp xs ks) {b : Nat} {ao : Option Addr} {cap : Nat} {l : List KV} (hy : (b, ao, cap, l) ∈ ks) : Kv w b ao cap l := by obtain ⟨rb, _, _, h3⟩ := h; exact (h3 _ hy).1
end
/-- Three cells written. -/
theorem put3 {w : World} {q : Nat} {t : TypeId} {c0 c1 c2 : Value} (v0 v1 v2 : Value) (h : Blk w q #[c0, c1, c2] t) : Keep (· = q) w (((w.setCell ⟨q, 0, none⟩ v0).setCell ⟨q, 1, none⟩ v1).setCell ⟨q, 2, none⟩ v2) ∧ Blk (((w.setCell ⟨q, 0, none⟩ v0).setCell ⟨q, 1, none⟩ v1).setCell ⟨q, 2, none⟩ v2) q #[v0, v1, v2] t :=
  ⟨Keep.setCell (S := (· = q)) (Keep.setCell (S := (· = q)) (Keep.setCell (S := (· = q)) (Keep.refl _ _) _ (.inl rfl)) _ (.inl rfl)) _ (.inl rfl), ((h.set 0 v0).set 1 v1).set 2 v2⟩
end Go.Proofs.YtgffmkbcppajoaaDoor
