/- The reference's Distance. -/
import Derived.Test.YtoblaooomphdoaaD2
import Derived.Deep.Onto
namespace Go.Proofs.Ytoblaooomphdoaa
open Go.RowKit
theorem own_heap {w w' : World} {base size n : Nat} {e : TypeId} {v : Value} {xs : List Value} (h : w.ownsRow base e size v n xs) (he : w'.heap = w.heap) : w'.ownsRow base e size v n xs := by unfold World.ownsRow; rw [he]; exact h
theorem below_heap {B : Nat} {a w w' : World} (h : Below B a w) (he : w'.heap = w.heap) (ho : w'.os = w.os) (ht : w'.tape = w.tape) (hp : w'.output = w.output) : Below B a w' :=
  ⟨ho.trans h.os, ht.trans h.tape, hp.trans h.output, by rw [he]; exact h.size, fun k hk => by rw [he]; exact h.block k hk⟩
theorem info29 : (Try.prog.info? 29).map (fun i => (i.zero, i.size, i.bytes)) = some (some (.slice none 0 0), 1, 24) := by kernel_rfl
theorem least_q (a b c : Int) (w : World) : Calls Try.prog 20 #[.int .i64 a, .int .i64 b, .int .i64 c] w fun e w' => e = .returned (.int .i64 (min a (min b c))) ∧ w' = w :=
  (least_any a b c w).mono fun _ _ h => ⟨h.1, h.2.symm⟩
/-- A row of the reference's table. -/
def Drow (A B : List Int) (j k : Nat) : List Int := (List.range k).map fun q => ((lev (A.take j) (B.take q) : Nat) : Int)
theorem drow_len (A B : List Int) (j k : Nat) : (Drow A B j k).length = k := by simp [Drow]
theorem drow_at (A B : List Int) (j k q : Nat) (h : q < k) : (Drow A B j k)[q]? = some ((lev (A.take j) (B.take q) : Nat) : Int) := by simp [Drow, h]
theorem drow_succ (A B : List Int) (j k : Nat) : Drow A B j (k + 1) = Drow A B j k ++ [((lev (A.take j) (B.take k) : Nat) : Int)] := by simp [Drow, List.range_succ]
theorem lev_edge (A B : List Int) (i k : Nat) (hi : i ≤ A.length) (hk : k ≤ B.length) (h : i = 0 ∨ k = 0) : lev (A.take i) (B.take k) = i + k := by
  rcases h with rfl | rfl
  · simp [lev_nil]; omega
  · simp [lev_nil']; omega
theorem lev_in (A B : List Int) (p q : Nat) (hp : p < A.length) (hq : q < B.length) :
    lev (A.take (p + 1)) (B.take (q + 1)) = if A[p] = B[q] then lev (A.take p) (B.take q) else 1 + min (lev (A.take p) (B.take q)) (min (lev (A.take p) (B.take (q + 1))) (lev (A.take (p + 1)) (B.take q))) := by
  rw [List.take_succ_eq_append_getElem hp, List.take_succ_eq_append_getElem hq]
  by_cases h : A[p] = B[q]
  · rw [if_pos h, h, lev_last_same]
  · rw [if_neg h, lev_last_ne _ _ h]
theorem lev_bd (A B : List Int) (i k : Nat) : lev (A.take i) (B.take k) ≤ A.length + B.length := by
  have := lev_max (A.take i) (B.take k)
  simp at this; omega
/-- A row of rows and a row of numbers lie in different blocks. -/
theorem own_ne {w : World} {b1 b2 n m : Nat} {v r : Value} {xs ys : List Value} (h : w.ownsRow b1 29 1 v n xs) (k : w.ownsRow b2 3 1 r m ys) : r.ownBlock = none ∨ r.ownBlock ≠ v.ownBlock := by
  rcases k.2 with ⟨rfl, _⟩ | ⟨g, cap, cur, rfl, _, hg, _⟩
  · exact .inl rfl
  · right
    rcases h.2 with ⟨rfl, _⟩ | ⟨g', cap', cur', rfl, _, hg', _⟩
    · simp [Value.ownBlock]
    · simp only [Value.ownBlock, ne_eq, Option.some.injEq]
      rintro rfl
      rw [hg] at hg'
      simp at hg'
/-- The reference's table, so far. -/
def Tbl (w : World) (base : Nat) (v : Value) (A B : List Int) (i n : Nat) : Prop :=
  ∃ rv : List Value, w.ownsRow base 29 1 v i rv ∧ ∀ j, j < i → ∃ r, rv[j]? = some r ∧ w.ownsRow base 3 1 r (n + 1) (ig (Drow A B j (n + 1)))
theorem Tbl.below {w w' : World} {base : Nat} {v : Value} {A B : List Int} {i n : Nat} (h : Tbl w base v A B i n) (hb : Below w.heap.size w w') : Tbl w' base v A B i n := by
  obtain ⟨rv, h1, h2⟩ := h
  refine ⟨rv, own_below h1 hb, fun j hj => ?_⟩
  obtain ⟨r, h3, h4⟩ := h2 j hj
  exact ⟨r, h3, own_below h4 hb⟩
theorem Tbl.add {w w' : World} {base : Nat} {v v' r : Value} {A B : List Int} {i n : Nat} {rv : List Value} (h1 : w.ownsRow base 29 1 v i rv) (h2 : ∀ j, j < i → ∃ r, rv[j]? = some r ∧ w.ownsRow base 3 1 r (n + 1) (ig (Drow A B j (n + 1))))
    (hr : w.ownsRow base 3 1 r (n + 1) (ig (Drow A B i (n + 1)))) (hn : w'.ownsRow base 29 1 v' (i + 1) (rv ++ [r])) (hg : w.grownBy w' v.ownBlock) : Tbl w' base v' A B (i + 1) n := by
  refine ⟨_, hn, fun j hj => ?_⟩
  have hl : rv.length = i := by have := h1.1; omega
  by_cases hji : j < i
  · obtain ⟨r', h3, h4⟩ := h2 j hji
    exact ⟨r', by rw [List.getElem?_append_left (by omega)]; exact h3, h4.kept hg (own_ne h1 h4)⟩
  · obtain rfl : j = i := by omega
    exact ⟨r, by rw [List.getElem?_append_right (by omega)]; simp [hl], hr.kept hg (own_ne h1 hr)⟩
/-- Reading the table. -/
theorem Tbl.at {w : World} {base : Nat} {v : Value} {A B : List Int} {i n : Nat} (h : Tbl w base v A B i n) (h0 : 0 < i) : ∃ g cap, v = .slice (some ⟨g, 0, none⟩) i cap ∧ ∀ j, j < i → ∃ rb rc, w.cell? ⟨g, j, none⟩ = some (.slice (some ⟨rb, 0, none⟩) (n + 1) rc) ∧ ∀ q, q < n + 1 → w.cell? ⟨rb, q, none⟩ = some (.int .i64 ((lev (A.take j) (B.take q) : Nat) : Int)) := by
  obtain ⟨rv, h1, h2⟩ := h
  obtain ⟨ao, cap, b, rfl, _, _, _, _, h5⟩ := own_slice h1
  obtain ⟨_, rfl, hc⟩ := h5 h0
  refine ⟨b, cap, rfl, fun j hj => ?_⟩
  obtain ⟨r, h3, h4⟩ := h2 j hj
  obtain ⟨ao', cap', b', rfl, _, _, _, _, h6⟩ := own_slice h4
  obtain ⟨_, rfl, hc'⟩ := h6 (by omega)
  exact ⟨b', cap', hc j _ h3, fun q hq => hc' q _ (by simp only [ig, List.getElem?_map, drow_at A B j _ q hq]; rfl)⟩
set_option maxRecDepth 100000 in
set_option maxHeartbeats 16000000 in
theorem rdist_any (b1 b2 : Nat) (a1 a2 : Option Addr) (c1 c2 : Nat) (l m : List (Int × Int)) (w : World) (h1 : Sl w b1 a1 l) (h2 : Sl w b2 a2 m) (hl : l.length ≤ 1000) (hm : m.length ≤ 1000) :
   Calls Try.prog 11 #[.slice a1 l.length c1, .slice a2 m.length c2] w fun e w' => e = .returned (.int .i64 ((lev (vs l) (vs m) : Nat) : Int)) ∧ Below w.heap.size w w' := by
  have HS1 := Lib.hid h1
  have HS2 := Lib.hid h2
  clear h1 h2
  have hvl := Lib.hid (vs_len l)
  have hvm := Lib.hid (vs_len m)
  go_enter Try.func11, Try.ntmps11
  go_wp2_with fail
  go_loopw [5, 6] (fun v i wr => ∃ k : Nat, k ≤ l.length + 1 ∧ i = .int .i64 k ∧ Tbl wr w.heap.size v (vs l) (vs m) k m.length ∧ Below w.heap.size w wr) (fun _ i _ => l.length + 1 - (intOf i).toNat)
  case atStart => exact ⟨0, Nat.zero_le _, rfl, ⟨[], World.ownsRow_lit w #[] 0 (Nat.le_refl _) (Nat.zero_le _) rfl, fun j hj => by omega⟩, (Below.refl _ _).alloc (Nat.le_refl _) _⟩
  case round =>
    obtain ⟨i, hi, rfl, ht, hb⟩ := hrel
    have HT := Lib.hid ht
    have HB := Lib.hid hb
    have hsz := hb.size
    clear ht hb
    obtain ⟨wo, rfl⟩ : ∃ wo : World, wo = wr := ⟨_, rfl⟩
    by_cases hlt : i ≤ l.length
    · go_wp2_with fail
      go_loopw [7, 8] (fun r k wr => ∃ q : Nat, q ≤ m.length + 1 ∧ k = .int .i64 q ∧ wr.ownsRow wo.heap.size 3 1 r q (ig (Drow (vs l) (vs m) i q)) ∧ Below wo.heap.size wo wr) (fun _ k _ => m.length + 1 - (intOf k).toNat)
      case atStart => exact ⟨0, Nat.zero_le _, rfl, World.ownsRow_lit wo #[] 0 (Nat.le_refl _) (Nat.zero_le _) rfl, (Below.refl _ _).alloc (Nat.le_refl _) _⟩
      case round =>
        obtain ⟨q, hq, rfl, ho, hbi⟩ := hrel
        have HO := Lib.hid ho
        have HBI := Lib.hid hbi
        have hszi := hbi.size
        clear ho hbi
        by_cases hlq : q ≤ m.length
        · have hmax : q + 1 ≤ maxLen := by unfold maxLen; omega
          by_cases hedge : i = 0 ∨ q = 0
          · have HV : Hid (ig (Drow (vs l) (vs m) i (q + 1)) = ig (Drow (vs l) (vs m) i q) ++ [.int .i64 ((i : Int) + q)]) := by
              show _ = _
              rw [drow_succ, ig_app, lev_edge _ _ _ _ (by rw [hvl.out]; exact hlt) (by rw [hvm.out]; exact hlq) hedge]
              simp [ig]
            rcases (by omega : i = 0 ∨ (¬ i = 0 ∧ q = 0)) with h0 | ⟨h0, h0'⟩
            · have hi0 : ((i : Int) == 0) = true := by simp [h0]
              clear hedge h0
              go_wp2_with (at_builtin; go_must (refine wpList_app rfl (.tmp 30) (.tmp 34) 29 rfl (base := wo.heap.size) (n := q) (m := 1) (xs := ig (Drow (vs l) (vs m) i q)) (ys := [.int .i64 ((i : Int) + q)]) Try.underlying29 info3 rfl Nat.one_pos rfl rfl ?own rfl ?src (by simp [Value.oneCell']) (by simp) hmax (by omega) ?hb ?nx))
              case own => exact HO.out.alloc _
              case src => exact fun _ => ⟨_, rfl, fun j u hj => by rw [addr_add, Nat.zero_add, (Blk.new wr #[.int .i64 ((i : Int) + q)] 3).cell]; simpa using hj⟩
              case hb => first | (simp; done) | (simp; omega)
              case nx =>
                intro v4 w4 ho4 hg4 hn4
                have HO4 : Hid (w4.ownsRow wo.heap.size 3 1 v4 (q + 1) (ig (Drow (vs l) (vs m) i (q + 1)))) := by show World.ownsRow _ _ _ _ _ _ _; rw [HV.out]; exact ho4.out
                have HB4 : Hid (Below wo.heap.size wo w4) := (HBI.out.alloc hszi _).grown hg4.out (by first | (simp; done) | (simp; omega)) (fun q hq => (HO.out.lt q hq).1)
                clear ho4 hg4 hn4
                go_wp2_with fail
                go_roundw
                case rel => exact ⟨q + 1, by omega, by go_num, HO4.out, HB4.out⟩
                case measure => first | (simp [intOf]; done) | (simp [intOf]; omega)
            · subst h0'
              clear hedge
              have hi0 : ((i : Int) == 0) = false := by simp [h0]
              have HV : Hid (ig (Drow (vs l) (vs m) i (0 + 1)) = ig (Drow (vs l) (vs m) i 0) ++ [.int .i64 (i : Int)]) := by simpa using HV
              go_wp2_with (at_builtin; go_must (refine wpList_app rfl (.tmp 30) (.tmp 34) 29 rfl (base := wo.heap.size) (n := 0) (m := 1) (xs := ig (Drow (vs l) (vs m) i 0)) (ys := [.int .i64 (i : Int)]) Try.underlying29 info3 rfl Nat.one_pos rfl rfl ?own rfl ?src (by simp [Value.oneCell']) (by simp) hmax (by omega) ?hb ?nx))
              case own => exact HO.out.alloc _
              case src => exact fun _ => ⟨_, rfl, fun j u hj => by rw [addr_add, Nat.zero_add, (Blk.new wr #[.int .i64 (i : Int)] 3).cell]; simpa using hj⟩
              case hb => first | (simp; done) | (simp; omega)
              case nx =>
                intro v4 w4 ho4 hg4 hn4
                have HO4 : Hid (w4.ownsRow wo.heap.size 3 1 v4 (0 + 1) (ig (Drow (vs l) (vs m) i (0 + 1)))) := by show World.ownsRow _ _ _ _ _ _ _; rw [HV.out]; exact ho4.out
                have HB4 : Hid (Below wo.heap.size wo w4) := (HBI.out.alloc hszi _).grown hg4.out (by first | (simp; done) | (simp; omega)) (fun q hq => (HO.out.lt q hq).1)
                clear ho4 hg4 hn4
                go_wp2_with fail
                go_roundw
                case rel => exact ⟨0 + 1, by omega, by go_num, HO4.out, HB4.out⟩
                case measure => first | (simp [intOf]; done) | (simp [intOf]; omega)
          · obtain ⟨p, HP⟩ : ∃ p, Hid (i = p + 1) := ⟨i - 1, by show _ = _; omega⟩
            obtain ⟨k, HK⟩ : ∃ k, Hid (q = k + 1) := ⟨q - 1, by show _ = _; omega⟩
            have hpl : p < l.length := by have := HP.out; omega
            have hkm : k < m.length := by have := HK.out; omega
            obtain ⟨g, cap, rfl, hc⟩ := (HT.out.below HBI.out).at (by omega)
            obtain ⟨rb, rc, t0, hcr⟩ := hc p (by have := HP.out; omega)
            have t1 := hcr k (by omega)
            have t2 := hcr q (by omega)
            clear hc hcr
            obtain ⟨ra, rcap, rbl, rfl, _, _, _, _, hro⟩ := own_slice HO.out
            obtain ⟨_, rfl, hrc⟩ := hro (by omega)
            have t3 := hrc k _ (by simp only [ig, List.getElem?_map, drow_at (vs l) (vs m) i q k (by have := HK.out; omega)]; rfl)
            clear hro hrc
            obtain ⟨off1, hb1, rfl, hc1⟩ := HS1.out.at (by omega)
            obtain ⟨off2, hb2, rfl, hc2⟩ := HS2.out.at (by omega)
            obtain ⟨x0, -⟩ := hc1 p hpl
            obtain ⟨y0, -⟩ := hc2 k hkm
            clear hc1 hc2
            have hbw : Below w.heap.size w wr := HB.out.trans (HBI.out.mono hsz)
            rw [← cellsBelow hbw _ _ hb1] at x0
            rw [← cellsBelow hbw _ _ hb2] at y0
            have HDN := Lib.hid (lev_in (vs l) (vs m) p k (by rw [vs_len]; exact hpl) (by rw [vs_len]; exact hkm))
            have HV0 := Lib.hid (drow_succ (vs l) (vs m) i q)
            have e1 : (vs l)[p]'(by rw [vs_len]; exact hpl) = l[p].1 := by simp [vs]
            have e2 : (vs m)[k]'(by rw [vs_len]; exact hkm) = m[k].1 := by simp [vs]
            rw [e1, e2, ← HP.out, ← HK.out] at HDN
            have bd1 := lev_bd (vs l) (vs m) p k
            have bd2 := lev_bd (vs l) (vs m) p q
            have bd3 := lev_bd (vs l) (vs m) i k
            rw [vs_len, vs_len] at bd1 bd2 bd3
            clear e1 e2 hbw
            generalize lev ((vs l).take p) ((vs m).take k) = d1 at *
            generalize lev ((vs l).take p) ((vs m).take q) = d2 at *
            generalize lev ((vs l).take i) ((vs m).take k) = d3 at *
            generalize lev ((vs l).take i) ((vs m).take q) = dn at *
            generalize l[p].1 = x at *
            generalize m[k].1 = y at *
            have HV : Hid (ig (Drow (vs l) (vs m) i (q + 1)) = ig (Drow (vs l) (vs m) i q) ++ [.int .i64 (dn : Int)]) := by
              show _ = _; rw [HV0.out, ig_app]; rfl
            clear HV0
            have hi0 : ((i : Int) == 0) = false := by rw [beq_eq_false_iff_ne]; omega
            have hq0 : ((q : Int) == 0) = false := by rw [beq_eq_false_iff_ne]; omega
            have hpi : (p : Int) < (i : Int) := by have := HP.out; omega
            have hkq : (k : Int) < (q : Int) := by have := HK.out; omega
            have hkm1 : (k : Int) < (m.length : Int) + 1 := by omega
            have hqm1 : (q : Int) < (m.length : Int) + 1 := by omega
            have hpl' : (p : Int) < (l.length : Int) := by omega
            have hkm' : (k : Int) < (m.length : Int) := by omega
            have hwi : IntKind.i64.wrap ((i : Int) - 1) = (p : Int) := by have := HP.out; rw [IntKind.wrap_i64]; omega
            have hwq : IntKind.i64.wrap ((q : Int) - 1) = (k : Int) := by have := HK.out; rw [IntKind.wrap_i64]; omega
            have hii : (i : Int) - 1 = (p : Int) := by have := HP.out; omega
            have hqq : (q : Int) - 1 = (k : Int) := by have := HK.out; omega
            have hmin : IntKind.i64.wrap (1 + min (d1 : Int) (min (d2 : Int) (d3 : Int))) = ((1 + min d1 (min d2 d3) : Nat) : Int) := by rw [IntKind.wrap_i64]; omega
            clear hedge
            by_cases hxy : x = y
            · subst hxy
              have HDN : Hid (dn = d1) := by show _ = _; rw [HDN.out, if_pos rfl]
              rw [HDN.out] at HV
              have hne : (x != x) = false := by simp
              clear hmin
              go_wp2_with fail
              go_quiet (fail)
              clear hwi hwq
              go_wp2_with (at_builtin; go_must (refine wpList_app rfl (.tmp 74) (.tmp 76) 29 rfl (base := wo.heap.size) (n := q) (m := 1) (xs := ig (Drow (vs l) (vs m) i q)) (ys := [.int .i64 (d1 : Int)]) Try.underlying29 info3 rfl Nat.one_pos rfl rfl ?own rfl ?src (by simp [Value.oneCell']) (by simp) hmax (by omega) ?hb ?nx))
              case own => exact own_heap (HO.out.alloc (.cells #[.int .i64 (d1 : Int)] 3)) rfl
              case src => exact fun _ => ⟨_, rfl, fun j u hj => by rw [addr_add, Nat.zero_add]; have hb := Blk.new wr #[.int .i64 (d1 : Int)] 3; exact (hb.cell j).trans (by simpa using hj)⟩
              case hb => first | (simp; done) | (simp; omega)
              case nx =>
                intro v4 w4 ho4 hg4 hn4
                have HO4 : Hid (w4.ownsRow wo.heap.size 3 1 v4 (q + 1) (ig (Drow (vs l) (vs m) i (q + 1)))) := by show World.ownsRow _ _ _ _ _ _ _; rw [HV.out]; exact ho4.out
                have HB4 : Hid (Below wo.heap.size wo w4) := by show Below _ _ _; refine Below.grown ?_ hg4.out (by first | (simp; done) | (simp; omega)) (fun q hq => (HO.out.lt q hq).1); exact (below_heap (HBI.out.alloc hszi (.cells #[.int .i64 (d1 : Int)] 3)) rfl rfl rfl rfl)
                clear ho4 hg4 hn4
                go_wp2_with fail
                go_roundw
                case rel => exact ⟨q + 1, by omega, by go_num, HO4.out, HB4.out⟩
                case measure => simp [intOf]; omega
            · have HDN : Hid (dn = 1 + min d1 (min d2 d3)) := by show _ = _; rw [HDN.out, if_neg hxy]
              rw [HDN.out] at HV
              obtain ⟨dm, hdm⟩ : ∃ dm : Nat, 1 + min d1 (min d2 d3) = dm := ⟨_, rfl⟩
              rw [hdm] at HV hmin
              have HDM := Lib.hid hdm
              clear hdm HDN
              have hne : (x != y) = true := by simp [hxy]
              go_wp2_with fail
              go_quiet (fail)
              go_wp2_with fail
              go_quiet ((go_at_call 20; exact (least_q _ _ _ _).mono (fun _ _ h => ⟨h.1, _, h.2⟩)))
              clear hwi hwq
              go_wp2_with (at_builtin; go_must (refine wpList_app rfl (.tmp 74) (.tmp 76) 29 rfl (base := wo.heap.size) (n := q) (m := 1) (xs := ig (Drow (vs l) (vs m) i q)) (ys := [.int .i64 (dm : Int)]) Try.underlying29 info3 rfl Nat.one_pos rfl rfl ?own rfl ?src (by simp [Value.oneCell']) (by simp) hmax (by omega) ?hb ?nx))
              case own => exact own_heap (HO.out.alloc (.cells #[.int .i64 (dm : Int)] 3)) rfl
              case src => exact fun _ => ⟨_, rfl, fun j u hj => by rw [addr_add, Nat.zero_add]; have hb := Blk.new wr #[.int .i64 (dm : Int)] 3; exact (hb.cell j).trans (by simpa using hj)⟩
              case hb => first | (simp; done) | (simp; omega)
              case nx =>
                intro v4 w4 ho4 hg4 hn4
                have HO4 : Hid (w4.ownsRow wo.heap.size 3 1 v4 (q + 1) (ig (Drow (vs l) (vs m) i (q + 1)))) := by show World.ownsRow _ _ _ _ _ _ _; rw [HV.out]; exact ho4.out
                have HB4 : Hid (Below wo.heap.size wo w4) := by show Below _ _ _; refine Below.grown ?_ hg4.out (by first | (simp; done) | (simp; omega)) (fun q hq => (HO.out.lt q hq).1); exact (below_heap (HBI.out.alloc hszi (.cells #[.int .i64 (dm : Int)] 3)) rfl rfl rfl rfl)
                clear ho4 hg4 hn4
                go_wp2_with fail
                go_roundw
                case rel => exact ⟨q + 1, by omega, by go_num, HO4.out, HB4.out⟩
                case measure => simp [intOf]; omega
        · have he : q = m.length + 1 := by omega
          subst he
          obtain ⟨ao, cap, b, rfl, -⟩ := own_slice HO.out
          have HB5 : Hid (Below w.heap.size w wr) := HB.out.trans (HBI.out.mono hsz)
          obtain ⟨rv, ht1, ht2⟩ := HT.out.below HBI.out
          have HT1 := Lib.hid ht1
          have HT2 := Lib.hid ht2
          clear ht1 ht2 hlq
          have hmax : i + 1 ≤ maxLen := by unfold maxLen; omega
          have hsr : w.heap.size ≤ wr.heap.size := by omega
          go_wp2_with (at_builtin; go_must (refine wpList_app rfl (.tmp 78) (.tmp 80) 46 rfl (base := w.heap.size) (n := i) (m := 1) (xs := rv) (ys := [.slice ao (m.length + 1) cap]) Try.underlying46 info29 rfl Nat.one_pos rfl rfl ?own rfl ?src (by simp [Value.oneCell']) (by simp) hmax (by omega) ?hb ?nx))
          case own => exact HT1.out.alloc _
          case src => exact fun _ => ⟨_, rfl, fun j u hj => by rw [addr_add, Nat.zero_add, (Blk.new wr #[.slice ao (m.length + 1) cap] 29).cell]; simpa using hj⟩
          case hb => first | (simp; done) | (simp; omega)
          case nx =>
            intro v4 w4 ho4 hg4 hn4
            have HT4 : Hid (Tbl w4 w.heap.size v4 (vs l) (vs m) (i + 1) m.length) := Tbl.add (HT1.out.alloc _) (fun j hj => by obtain ⟨r, h1, h2⟩ := HT2.out j hj; exact ⟨r, h1, h2.alloc _⟩) ((HO.out.mono hsz).alloc _) ho4.out hg4.out
            have HB4 : Hid (Below w.heap.size w w4) := (HB5.out.alloc hsr _).grown hg4.out (by first | (simp; done) | (simp; omega)) (fun q hq => (HT1.out.lt q hq).1)
            clear ho4 hg4 hn4
            go_wp2_with fail
            go_roundw
            case rel => exact ⟨i + 1, by omega, by go_num, HT4.out, HB4.out⟩
            case measure => simp [intOf]; omega
    · have he : i = l.length + 1 := by omega
      subst he
      obtain ⟨g, cap, rfl, hc⟩ := HT.out.at (by omega)
      obtain ⟨rb, rc, hc1, hc2⟩ := hc l.length (by omega)
      have hc3 := hc2 m.length (by omega)
      have HE : Hid (lev ((vs l).take l.length) ((vs m).take m.length) = lev (vs l) (vs m)) := by
        show _ = _
        rw [List.take_of_length_le (by rw [vs_len]; exact Nat.le_refl _), List.take_of_length_le (by rw [vs_len]; exact Nat.le_refl _)]
      rw [HE.out] at hc3
      clear hc hc2
      have q1 : (l.length : Int) < (l.length : Int) + 1 := by omega
      have q2 : (m.length : Int) < (m.length : Int) + 1 := by omega
      go_wp2_with fail
      go_ret
      exact ⟨rfl, HB.out⟩
end Go.Proofs.Ytoblaooomphdoaa
