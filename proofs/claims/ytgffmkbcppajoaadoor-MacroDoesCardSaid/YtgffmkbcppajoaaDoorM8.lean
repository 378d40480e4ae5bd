/- The reference's Turn and Do. -/
import Derived.Test.YtgffmkbcppajoaaDoorM7
namespace Go.Proofs.YtgffmkbcppajoaaDoor
open Go.RowKit
theorem al_cell {w : World} {b o : Nat} {v : Value} (h : w.cell? ⟨b, o, none⟩ = some v) : ∀ x, (w.alloc x).cell? ⟨b, o, none⟩ = some v :=
  fun x => (((Below.refl _ _).alloc (Nat.le_refl _) x).cell (p := ⟨b, o, none⟩) (World.block_lt_of_cell? w ⟨b, o, none⟩ h)).trans h
theorem new_at (w : World) (cs : Array Value) (t : TypeId) {b : Nat} (h : b = w.heap.size) : Blk (w.alloc (.cells cs t)) b cs t := by rw [h]; exact Blk.new w cs t
theorem Blk.grown {w w' : World} {b : Nat} {cs : Array Value} {t : TypeId} {row : Option Nat} (h : Blk w b cs t) (hg : w.grownBy w' row) (hne : row ≠ some b) : Blk w' b cs t := (hg.block b h.lt (fun e => hne e.symm)).trans h
theorem Blk.grown_own {w w' : World} {b b' n c : Nat} {cs : Array Value} {t : TypeId} (h : Blk w b cs t) (hg : w.grownBy w' (Value.slice (some ⟨b', 0, none⟩) n c).ownBlock) (hne : b ≠ b') : Blk w' b cs t :=
  h.grown hg fun e => hne (by simp [Value.ownBlock] at e; exact e.symm)
theorem own0 {w : World} {B b : Nat} (h : Blk w b #[] 32) (hb : B ≤ b) : w.ownsRow B 32 4 (.slice (some ⟨b, 0, none⟩) 0 0) 0 [] :=
  ⟨rfl, .inr ⟨b, 0, #[], rfl, hb, h, Nat.le_refl _, Nat.zero_le _, rfl, rfl⟩⟩
theorem below_own {B b n c : Nat} {a w w' : World} (h : Below B a w) (hg : w.grownBy w' (Value.slice (some ⟨b, 0, none⟩) n c).ownBlock) (hB : B ≤ w.heap.size) (hb : B ≤ b) : Below B a w' :=
  h.grown hg hB fun q hq => by simp [Value.ownBlock] at hq; omega
theorem src_lit {w : World} {b : Nat} {k : KV} (h : Blk w b #[.int .i64 k.kd, .int .i64 k.v, .string k.tx, .bool k.ct] 32) : 0 < 1 → ∃ ad, (some ⟨b, 0, none⟩ : Option Addr) = some ad ∧ ∀ j u, (kg [k])[j]? = some u → w.cell? (ad.add j) = some u :=
  fun _ => ⟨_, rfl, fun j u hj => by rw [addr_add, Nat.zero_add, h.cell, ← hj]; simp [kg, KV.cells]⟩
set_option maxHeartbeats 1000000 in
theorem turn_on (la na : Option Addr) (ln lc nn nc : Nat) (w : World) :
   Calls Tryd.prog 7 #[.agg #[.slice la ln lc, .slice na nn nc, .bool false]] w fun e w' => e = .returned (.agg #[.slice la ln lc, .slice none 0 0, .bool true]) ∧ Below w.heap.size w w' := by
  go_enter Tryd.func7, Tryd.ntmps7
  go_wp2_with fail
  (try simp only [Exit.inBlock, Exit.then])
  refine bodyPost_ret (v := .agg #[.slice la ln lc, .slice none 0 0, .bool true]) ?_ rfl ?_
  · simp only [results, show Tryd.f7.results = #[.cell 2 30] from rfl]
    go_simp
  exact ⟨rfl, by go_grown⟩
set_option maxHeartbeats 1000000 in
theorem turn_some (la na : Option Addr) (ln lc nn nc : Nat) (w : World) (h0 : 0 < nn) :
   Calls Tryd.prog 7 #[.agg #[.slice la ln lc, .slice na nn nc, .bool true]] w fun e w' => e = .returned (.agg #[.slice na nn nc, .slice none 0 0, .bool false]) ∧ Below w.heap.size w w' := by
  go_enter Tryd.func7, Tryd.ntmps7
  go_wp2_with fail
  (try simp only [Exit.inBlock, Exit.then])
  refine bodyPost_ret (v := .agg #[.slice na nn nc, .slice none 0 0, .bool false]) ?_ rfl ?_
  · simp only [results, show Tryd.f7.results = #[.cell 2 30] from rfl]
    go_simp
  exact ⟨rfl, by go_grown⟩
set_option maxHeartbeats 1000000 in
theorem turn_none (la na : Option Addr) (ln lc nc : Nat) (w : World) :
   Calls Tryd.prog 7 #[.agg #[.slice la ln lc, .slice na 0 nc, .bool true]] w fun e w' => e = .returned (.agg #[.slice la ln lc, .slice none 0 0, .bool false]) ∧ Below w.heap.size w w' := by
  go_enter Tryd.func7, Tryd.ntmps7
  go_wp2_with fail
  (try simp only [Exit.inBlock, Exit.then])
  refine bodyPost_ret (v := .agg #[.slice la ln lc, .slice none 0 0, .bool false]) ?_ rfl ?_
  · simp only [results, show Tryd.f7.results = #[.cell 2 30] from rfl]
    go_simp
  exact ⟨rfl, by go_grown⟩
set_option maxHeartbeats 1000000 in
theorem rdo_off (la na : Option Addr) (ln lc nn nc most : Nat) (k : KV) (w : World) :
   Calls Tryd.prog 8 #[.agg #[.slice la ln lc, .slice na nn nc, .bool false], .agg #[.int .i64 k.kd, .int .i64 k.v, .string k.tx, .bool k.ct], .int .i64 most] w fun e w' => e = .returned (.tuple #[.agg #[.slice la ln lc, .slice na nn nc, .bool false], .bool false]) ∧ Below w.heap.size w w' := by
  go_enter Tryd.func8, Tryd.ntmps8
  go_wp2_with fail
  (try simp only [Exit.inBlock, Exit.then])
  refine bodyPost_ret (v := .tuple #[.agg #[.slice la ln lc, .slice na nn nc, .bool false], .bool false]) ?_ rfl ?_
  · simp only [results, show Tryd.f8.results = #[.cell 6 30, .slot 7] from rfl]
    go_simp
  exact ⟨rfl, by go_grown⟩
theorem may_is (k : KV) (b : Bool) (hk : k.ok = b) (w : World) (hs : k.tx.size ≤ 9223372036854775807) :
   Calls Tryd.prog 16 #[.agg #[.int .i64 k.kd, .int .i64 k.v, .string k.tx, .bool k.ct]] w fun e w' => e = .returned (.bool b) ∧ Below w.heap.size w w' := by
  subst hk
  exact may_any k.kd k.v k.tx k.ct w hs
set_option maxHeartbeats 1000000 in
theorem rdo_bad (la na : Option Addr) (ln lc nn nc most : Nat) (k : KV) (w : World) (hs : k.tx.size ≤ 9223372036854775807) (hk : k.ok = false) :
   Calls Tryd.prog 8 #[.agg #[.slice la ln lc, .slice na nn nc, .bool true], .agg #[.int .i64 k.kd, .int .i64 k.v, .string k.tx, .bool k.ct], .int .i64 most] w fun e w' => e = .returned (.tuple #[.agg #[.slice la ln lc, .slice na nn nc, .bool true], .bool false]) ∧ Below w.heap.size w w' := by
  have HK := Lib.hid hk
  clear hk
  go_enter Tryd.func8, Tryd.ntmps8
  go_wp2_with fail
  refine (may_is k false HK.out _ hs).mono ?_
  rintro e w1 ⟨rfl, hb1⟩
  have hc := cellsBelow hb1
  have hf := frozenBelow hb1
  have hz := hb1.size
  simp at hz
  have HB1 : Hid (Below w.heap.size w w1) := ((((Below.refl _ _).alloc (Nat.le_refl _) _).alloc (by simp) _).alloc (by simp; omega) _).trans (hb1.mono (by simp; omega))
  clear hb1
  go_wp2_with fail
  (try simp only [Exit.inBlock, Exit.then])
  refine bodyPost_ret (v := .tuple #[.agg #[.slice la ln lc, .slice na nn nc, .bool true], .bool false]) ?_ rfl ?_
  · simp only [results, show Tryd.f8.results = #[.cell 6 30, .slot 7] from rfl]
    go_simp
  exact ⟨rfl, by have hb1 := HB1.out; go_grown⟩
set_option maxHeartbeats 1000000 in
theorem rdo_full (la na : Option Addr) (ln lc nn nc most : Nat) (k : KV) (w : World) (hs : k.tx.size ≤ 9223372036854775807) (hk : k.ok = true) (hf : most ≤ nn) :
   Calls Tryd.prog 8 #[.agg #[.slice la ln lc, .slice na nn nc, .bool true], .agg #[.int .i64 k.kd, .int .i64 k.v, .string k.tx, .bool k.ct], .int .i64 most] w fun e w' => e = .returned (.tuple #[.agg #[.slice la ln lc, .slice na nn nc, .bool true], .bool false]) ∧ Below w.heap.size w w' := by
  have HK := Lib.hid hk
  clear hk
  go_enter Tryd.func8, Tryd.ntmps8
  go_wp2_with fail
  refine (may_is k true HK.out _ hs).mono ?_
  rintro e w1 ⟨rfl, hb1⟩
  have hc := cellsBelow hb1
  have hf := frozenBelow hb1
  have hz := hb1.size
  simp at hz
  have HB1 : Hid (Below w.heap.size w w1) := ((((Below.refl _ _).alloc (Nat.le_refl _) _).alloc (by simp) _).alloc (by simp; omega) _).trans (hb1.mono (by simp; omega))
  clear hb1
  go_wp2_with fail
  (try simp only [Exit.inBlock, Exit.then])
  refine bodyPost_ret (v := .tuple #[.agg #[.slice la ln lc, .slice na nn nc, .bool true], .bool false]) ?_ rfl ?_
  · simp only [results, show Tryd.f8.results = #[.cell 6 30, .slot 7] from rfl]
    go_simp
  exact ⟨rfl, by have hb1 := HB1.out; go_grown⟩
set_option maxHeartbeats 8000000 in
theorem rdo_yes (la na : Option Addr) (ln lc nc most bn : Nat) (now : List KV) (k : KV) (w : World) (hs : k.tx.size ≤ 9223372036854775807) (hk : k.ok = true) (hf : now.length < most) (hm9 : most ≤ 9999) (hn : Kv w bn na nc now) :
   Calls Tryd.prog 8 #[.agg #[.slice la ln lc, .slice na now.length nc, .bool true], .agg #[.int .i64 k.kd, .int .i64 k.v, .string k.tx, .bool k.ct], .int .i64 most] w fun e w' => ∃ ab b cap, e = .returned (.tuple #[.agg #[.slice la ln lc, .slice ab (now.length + 1) cap, .bool true], .bool true]) ∧ w.heap.size ≤ b ∧ Kv w' b ab cap (now ++ [k]) ∧ Below w.heap.size w w' := by
  have HK := Lib.hid hk
  have HN := Lib.hid hn
  clear hk hn
  go_enter Tryd.func8, Tryd.ntmps8
  go_wp2_with fail
  refine (may_is k true HK.out _ hs).mono ?_
  rintro e w1 ⟨rfl, hb1⟩
  have hz := hb1.size
  simp at hz
  have HM := Lib.hid ((((Blk.new w #[.slice la ln lc, .slice na now.length nc, .bool true] 30).alloc (.cells #[.int .i64 k.kd, .int .i64 k.v, .string k.tx, .bool k.ct] 32)).alloc (.cells #[.slice none 0 0, .slice none 0 0, .bool false] 30)).below hb1 (by simp; omega))
  have HX := Lib.hid (((Blk.new (w.alloc (.cells #[.slice la ln lc, .slice na now.length nc, .bool true] 30)) #[.int .i64 k.kd, .int .i64 k.v, .string k.tx, .bool k.ct] 32).alloc (.cells #[.slice none 0 0, .slice none 0 0, .bool false] 30)).below hb1 (by simp))
  have HR := Lib.hid ((Blk.new ((w.alloc (.cells #[.slice la ln lc, .slice na now.length nc, .bool true] 30)).alloc (.cells #[.int .i64 k.kd, .int .i64 k.v, .string k.tx, .bool k.ct] 32)) #[.slice none 0 0, .slice none 0 0, .bool false] 30).below hb1 (by simp))
  have HB1 : Hid (Below w.heap.size w w1) := ((((Below.refl _ _).alloc (Nat.le_refl _) _).alloc (by simp) _).alloc (by simp; omega) _).trans (hb1.mono (by simp; omega))
  clear hb1
  have m0 := HM.out.cell 0
  have m1 := HM.out.cell 1
  have m2 := HM.out.cell 2
  have x0 := HX.out.cell 0
  have x1 := HX.out.cell 1
  have x2 := HX.out.cell 2
  have x3 := HX.out.cell 3
  have r0 := HR.out.cell 0
  simp at m0 m1 m2 x0 x1 x2 x3 r0
  go_wp2_with fail
  have hmax : 0 + now.length ≤ maxLen := by unfold maxLen; omega
  have hmax2 : 0 + now.length + 1 ≤ maxLen := by unfold maxLen; omega
  have a1 := al_cell m1
  have b0 := al_cell x0
  have b1 := al_cell x1
  have b2 := al_cell x2
  have b3 := al_cell x3
  have c0 := fun x => al_cell (b0 x)
  have c1 := fun x => al_cell (b1 x)
  have c2 := fun x => al_cell (b2 x)
  have c3 := fun x => al_cell (b3 x)
  have c4 := fun x => al_cell (a1 x)
  go_region_law (first | (refine step_app rfl (.tmp 24) (.tmp 26) 28 rfl (base := w1.heap.size) (n := 0) (xs := []) Tryd.underlying28 info32 rfl (Nat.succ_pos 3) rfl rfl (own0 ((Blk.new w1 #[] 32).alloc _) (by simp)) (kg_len now) (fun h0 => kl_src ((HN.out.2.2.2.below HB1.out).below (by go_grown)) h0) (kg_one now) HN.out.2.2.1 hmax (by omega) (by first | omega | (simp; done) | (simp; omega)) ?_; intro v3 w3 ho3 hg3 hn3; have HB3 : Hid (Below w1.heap.size w1 w3) := below_own (by go_grown) hg3.out (by first | omega | (simp; done) | (simp; omega)) (by first | omega | (simp; done) | (simp; omega)); have HM3 := Lib.hid (HM.out.below HB3.out HM.out.lt); have HX3 := Lib.hid (HX.out.below HB3.out HX.out.lt); have hz3 := HB3.out.size; have n1 := HM3.out.cell 1; have p0 := HX3.out.cell 0; have p1 := HX3.out.cell 1; have p2 := HX3.out.cell 2; have p3 := HX3.out.cell 3; have HL3 : Hid (Blk w3 (w1.heap.size + 1) #[.int .i64 k.kd, .int .i64 k.v, .string k.tx, .bool k.ct] 32) := Blk.grown_own (Blk.drew (new_at _ _ _ (by simp))) hg3.out (by simp); have hl3 := HL3.out.lt; simp at n1 p0 p1 p2 p3; clear hg3 hn3) | (refine step_app rfl (.tmp 24) (.tmp 26) 28 rfl (base := w1.heap.size) (n := 0) (xs := []) Tryd.underlying28 info32 rfl (Nat.succ_pos 3) rfl rfl (own0 (Blk.new w1 #[] 32) (by simp)) (kg_len now) (fun h0 => kl_src ((HN.out.2.2.2.below HB1.out).below (by go_grown)) h0) (kg_one now) HN.out.2.2.1 hmax (by omega) (by first | omega | (simp; done) | (simp; omega)) ?_; intro v3 w3 ho3 hg3 hn3; have HB3 : Hid (Below w1.heap.size w1 w3) := below_own (by go_grown) hg3.out (by first | omega | (simp; done) | (simp; omega)) (by first | omega | (simp; done) | (simp; omega)); have HM3 := Lib.hid (HM.out.below HB3.out HM.out.lt); have HX3 := Lib.hid (HX.out.below HB3.out HX.out.lt); have hz3 := HB3.out.size; have n1 := HM3.out.cell 1; have p0 := HX3.out.cell 0; have p1 := HX3.out.cell 1; have p2 := HX3.out.cell 2; have p3 := HX3.out.cell 3; simp at n1 p0 p1 p2 p3; clear hg3 hn3) | (refine step_app rfl (.tmp 24) (.tmp 26) 28 rfl (base := w1.heap.size) (n := 0) (xs := []) Tryd.underlying28 info32 rfl (Nat.succ_pos 3) rfl rfl (own0 (new_at _ _ _ (by simp)) (by simp)) (kg_len now) (fun h0 => kl_src ((HN.out.2.2.2.below HB1.out).below (by go_grown)) h0) (kg_one now) HN.out.2.2.1 hmax (by omega) (by first | omega | (simp; done) | (simp; omega)) ?_; intro v3 w3 ho3 hg3 hn3; have HB3 : Hid (Below w1.heap.size w1 w3) := below_own (by go_grown) hg3.out (by first | omega | (simp; done) | (simp; omega)) (by first | omega | (simp; done) | (simp; omega)); have HM3 := Lib.hid (HM.out.below HB3.out HM.out.lt); have HX3 := Lib.hid (HX.out.below HB3.out HX.out.lt); have hz3 := HB3.out.size; have n1 := HM3.out.cell 1; have p0 := HX3.out.cell 0; have p1 := HX3.out.cell 1; have p2 := HX3.out.cell 2; have p3 := HX3.out.cell 3; have HL3 : Hid (Blk w3 (w1.heap.size) #[.int .i64 k.kd, .int .i64 k.v, .string k.tx, .bool k.ct] 32) := Blk.grown_own (Blk.drew ((Blk.new w1 #[.int .i64 k.kd, .int .i64 k.v, .string k.tx, .bool k.ct] 32).alloc _)) hg3.out (by simp); have hl3 := HL3.out.lt; simp at n1 p0 p1 p2 p3; clear hg3 hn3) | (refine step_app rfl (.tmp 27) (.tmp 29) 28 rfl (base := w1.heap.size) (n := 0 + now.length) (xs := [] ++ kg now) Tryd.underlying28 info32 rfl (Nat.succ_pos 3) rfl rfl (ho3.out) (kg_len [k]) (src_lit (HL3.out)) (kg_one [k]) (by simp) hmax2 (by omega) (by first | omega | (simp; done) | (simp; omega)) ?_; intro v4 w4 ho4 hg4 hn4; have HB4 : Hid (Below w1.heap.size w1 w4) := Below.grown (HB3.out.trans (Below.mono (by go_grown : Below w3.heap.size w3 _) hz3)) hg4.out (by first | omega | (simp; done) | (simp; omega)) (fun q hq => (ho3.out.lt q hq).1); obtain ⟨ab, cap, b, rfl, hb, hkv⟩ := own_kv (l := now ++ [k]) (by rw [kg_app]; exact ho4.out) (by simp); have HKV := Lib.hid hkv; clear hkv ho4 hg4 hn4; have HM4 := Lib.hid (HM.out.below HB4.out HM.out.lt); have HR4 := Lib.hid (HR.out.below HB4.out HR.out.lt); have HX4 := Lib.hid (HX.out.below HB4.out HX.out.lt); have hz4 := HB4.out.size; have q0 := HX4.out.cell 0; have q1 := HX4.out.cell 1; have q2 := HX4.out.cell 2; have q3 := HX4.out.cell 3; have y0 := HM4.out.cell 0; have y1 := HM4.out.cell 1; have y2 := HM4.out.cell 2; have yf := HM4.out.free; have rf := HR4.out.free; have u0 := HR4.out.cell 0; have u1 := HR4.out.cell 1; have u2 := HR4.out.cell 2; simp at y0 y1 y2 rf u0 u1 u2 q0 q1 q2 q3) | (refine step_app rfl (.tmp 27) (.tmp 29) 28 rfl (base := w1.heap.size) (n := 0 + now.length) (xs := [] ++ kg now) Tryd.underlying28 info32 rfl (Nat.succ_pos 3) rfl rfl (ho3.out.alloc _) (kg_len [k]) (src_lit (Blk.new w3 _ 32)) (kg_one [k]) (by simp) hmax2 (by omega) (by first | omega | (simp; done) | (simp; omega)) ?_; intro v4 w4 ho4 hg4 hn4; have HB4 : Hid (Below w1.heap.size w1 w4) := Below.grown (HB3.out.trans (Below.mono (by go_grown : Below w3.heap.size w3 _) hz3)) hg4.out (by first | omega | (simp; done) | (simp; omega)) (fun q hq => (ho3.out.lt q hq).1); obtain ⟨ab, cap, b, rfl, hb, hkv⟩ := own_kv (l := now ++ [k]) (by rw [kg_app]; exact ho4.out) (by simp); have HKV := Lib.hid hkv; clear hkv ho4 hg4 hn4; have HM4 := Lib.hid (HM.out.below HB4.out HM.out.lt); have HR4 := Lib.hid (HR.out.below HB4.out HR.out.lt); have HX4 := Lib.hid (HX.out.below HB4.out HX.out.lt); have hz4 := HB4.out.size; have q0 := HX4.out.cell 0; have q1 := HX4.out.cell 1; have q2 := HX4.out.cell 2; have q3 := HX4.out.cell 3; have y0 := HM4.out.cell 0; have y1 := HM4.out.cell 1; have y2 := HM4.out.cell 2; have yf := HM4.out.free; have rf := HR4.out.free; have u0 := HR4.out.cell 0; have u1 := HR4.out.cell 1; have u2 := HR4.out.cell 2; simp at y0 y1 y2 rf u0 u1 u2 q0 q1 q2 q3))
  all_goals
    go_wp2_with fail
    (try simp only [Exit.inBlock, Exit.then])
    refine bodyPost_ret (v := .tuple #[.agg #[.slice la ln lc, .slice ab (now.length + 1) cap, .bool true], .bool true]) (by simp only [results, show Tryd.f8.results = #[.cell 6 30, .slot 7] from rfl]; go_simp) rfl ⟨ab, b, cap, rfl, ?_, ?_, ?_⟩
    · have := HB1.out.size; omega
    · refine HKV.out.keep (S := fun x => x < w1.heap.size) ?_ (fun _ h => by omega)
      repeat (refine Keep.setCell (S := fun x => x < w1.heap.size) ?_ _ (.inl (by show _ < w1.heap.size; first | omega | (simp; omega))))
      exact Keep.refl _ _
    · have hb5 : Below w.heap.size w w4 := HB1.out.trans (HB4.out.mono HB1.out.size)
      clear HM HX HR HKV HB1 HB4 HM4 HR4 HX4
      go_grown
end Go.Proofs.YtgffmkbcppajoaaDoor
