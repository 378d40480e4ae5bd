/- The program's Distance. -/
import Derived.Test.YtoblaooomphdoaaD4
import Derived.Deep.CutBlock
namespace Go.Proofs.Ytoblaooomphdoaa
open Go.RowKit
theorem al_cell {w : World} {b o : Nat} {v : Value} (h : w.cell? ⟨b, o, none⟩ = some v) : ∀ x, (w.alloc x).cell? ⟨b, o, none⟩ = some v :=
  fun x => (((Below.refl _ _).alloc (Nat.le_refl _) x).cell (p := ⟨b, o, none⟩) (World.block_lt_of_cell? w ⟨b, o, none⟩ h)).trans h
theorem dn2 (w : World) (n k : Nat) : (w.drewN n).drewN k = w.drewN (n + k) := by show ({ w with drawn := w.drawn + n + k } : World) = { w with drawn := w.drawn + (n + k) }; rw [Nat.add_assoc]
/-- A row of zeros. -/
def zrow (n : Nat) : Array Value := (ig (List.replicate n 0)).toArray
theorem made_zrow (n : Nat) : madeCells #[.int .i64 0] n = zrow n := by
  apply Array.toList_inj.1
  rw [toList_madeCells_one]; simp [zrow, ig]
theorem make_row (n : Nat) (hn : n ≤ 35184372088830) (w : World) : (Instr.makeSlice 29 (.int .i64 ((n : Int) + 1)) (.int .i64 ((n : Int) + 1))).run Try.prog w = .ok (.slice (some ⟨w.heap.size, 0, none⟩) (n + 1) (n + 1)) (w.alloc (.cells (zrow (n + 1)) 3)) := by
  obtain ⟨i, h2, h3, h4, h5⟩ := info_parts info3
  have := run_make (P := Try.prog) w 29 3 i (.int .i64 0) Try.underlying29 h2 h3 .i64 .i64 ((n : Int) + 1) ((n : Int) + 1) (by omega) (by omega) (by rw [h5]; omega) (by omega)
  rw [this, show ((n : Int) + 1).toNat = n + 1 by omega, h4, Nat.mul_one, ← made_zrow]
  rfl
def sliceLen : Value → Nat
  | .slice _ n _ => n
  | _ => 0
/-- Both slices with what is alike at an end left out. -/
def Trim (w : World) (b1 b2 : Nat) (l m : List (Int × Int)) (s0 s1 : Value) (wx : World) : Prop :=
  ∃ (l' m' : List (Int × Int)) (a1 a2 : Option Addr) (c1 c2 : Nat), s0 = .slice a1 l'.length c1 ∧ s1 = .slice a2 m'.length c2 ∧ Hid (Sv w b1 a1 c1 l') ∧ Hid (Sv w b2 a2 c2 m') ∧ l'.length ≤ l.length ∧ m'.length ≤ m.length ∧ Hid (lev (vs l') (vs m') = lev (vs l) (vs m)) ∧ ∃ n, wx = w.drewN n
theorem Sv.first {w : World} {b c : Nat} {a : Option Addr} {x : Int × Int} {l : List (Int × Int)} (h : Sv w b a c (x :: l)) : ∃ off, a = some ⟨b, off, none⟩ ∧ w.cell? ⟨b, off, none⟩ = some (.int .i64 x.1) := by
  obtain ⟨off, _, ha, hc⟩ := h.2.2.2.at (by simp)
  have := (hc 0 (by simp)).1
  simp at this
  exact ⟨off, ha, this⟩
theorem Sv.tail {w : World} {b off c : Nat} {x : Int × Int} {l : List (Int × Int)} (h : Sv w b (some ⟨b, off, none⟩) c (x :: l)) : Sv w b (if c = 1 then some ⟨b, off, none⟩ else some ⟨b, off + 2, none⟩) (c - 1) l := by
  obtain ⟨h1, h2, h3, h4⟩ := h
  simp at h1
  refine ⟨by omega, by omega, fun e => ?_, ?_⟩
  · split at e <;> cases e
  · by_cases hc : c = 1
    · intro h0; omega
    · rw [if_neg hc]
      have := h4.drop 1
      simp only [Option.map_some, addr_add, Nat.one_mul, List.drop_succ_cons, List.drop_zero] at this
      exact this
theorem Sv.init {w : World} {b c : Nat} {a : Option Addr} {x : Int × Int} {l : List (Int × Int)} (h : Sv w b a c (l ++ [x])) : Sv w b a c l := by
  obtain ⟨h1, h2, h3, h4⟩ := h
  simp at h1
  refine ⟨by omega, h2, h3, ?_⟩
  have := h4.take l.length
  rwa [List.take_left] at this
theorem Sv.last {w : World} {b c : Nat} {a : Option Addr} {x : Int × Int} {l : List (Int × Int)} (h : Sv w b a c (l ++ [x])) : ∃ off, a = some ⟨b, off, none⟩ ∧ w.cell? ⟨b, off + l.length * 2, none⟩ = some (.int .i64 x.1) := by
  obtain ⟨off, _, ha, hc⟩ := h.2.2.2.at (by simp)
  have := (hc l.length (by simp)).1
  simp at this
  exact ⟨off, ha, this⟩
theorem snoc_cases (l : List (Int × Int)) : l = [] ∨ ∃ l' x, l = l' ++ [x] := by
  rcases List.eq_nil_or_concat l with h | ⟨l', x, h⟩
  · exact .inl h
  · exact .inr ⟨l', x, by simpa using h⟩
theorem vs_app (l m : List (Int × Int)) : vs (l ++ m) = vs l ++ vs m := by simp [vs]
/-- A row of numbers whose first k are known. -/
def Rw (w : World) (b N : Nat) (f : Nat → Nat) (k : Nat) : Prop := ∃ cs : Array Value, Blk w b cs 3 ∧ cs.size = N ∧ ∀ q, q < k → cs[q]? = some (.int .i64 ((f q : Nat) : Int))
section
variable {w w' : World} {b N k : Nat} {f g : Nat → Nat}
theorem Rw.cell (h : Rw w b N f k) {q : Nat} (hq : q < k) : w.cell? ⟨b, q, none⟩ = some (.int .i64 ((f q : Nat) : Int)) := by
  obtain ⟨cs, h1, _, h3⟩ := h; rw [h1.cell]; exact h3 q hq
theorem Rw.got (h : Rw w b N f k) {q : Nat} (hq : q < N) : ∃ v, w.cell? ⟨b, q, none⟩ = some v := by
  obtain ⟨cs, h1, h2, _⟩ := h; rw [h1.cell]; exact ⟨_, Array.getElem?_eq_getElem (by omega)⟩
theorem Rw.free (h : Rw w b N f k) (i : Nat) : w.frozen? ⟨b, i, none⟩ = false := by obtain ⟨cs, h1, _⟩ := h; exact h1.free i
theorem Rw.lt (h : Rw w b N f k) : b < w.heap.size := by obtain ⟨cs, h1, _⟩ := h; exact h1.lt
theorem Rw.put (h : Rw w b N f k) (hk : k < N) {n : Int} (hn : n = ((f k : Nat) : Int)) : Rw (w.setCell ⟨b, k, none⟩ (.int .i64 n)) b N f (k + 1) := by
  obtain ⟨cs, h1, h2, h3⟩ := h
  refine ⟨_, h1.set k _, by simp [h2], fun q hq => ?_⟩
  rw [Array.getElem?_setIfInBounds]
  by_cases e : k = q
  · subst e; rw [if_pos rfl, if_pos (by omega), hn]
  · rw [if_neg e]; exact h3 q (by omega)
theorem Rw.none (h : Rw w b N f k) (g : Nat → Nat) : Rw w b N g 0 := by obtain ⟨cs, h1, h2, _⟩ := h; exact ⟨cs, h1, h2, fun q hq => by omega⟩
theorem Rw.congr (h : Rw w b N f k) (hfg : ∀ q, q < k → f q = g q) : Rw w b N g k := by obtain ⟨cs, h1, h2, h3⟩ := h; exact ⟨cs, h1, h2, fun q hq => by rw [h3 q hq, hfg q hq]⟩
theorem Rw.other (h : Rw w b N f k) {a : Addr} (u : Value) (hne : a.block ≠ b) : Rw (w.setCell a u) b N f k := by obtain ⟨cs, h1, h2, h3⟩ := h; exact ⟨cs, h1.other u hne, h2, h3⟩
theorem Rw.alloc (h : Rw w b N f k) (o : Obj) : Rw (w.alloc o) b N f k := by obtain ⟨cs, h1, h2, h3⟩ := h; exact ⟨cs, h1.alloc o, h2, h3⟩
theorem Rw.heap (h : Rw w b N f k) (he : w'.heap = w.heap) : Rw w' b N f k := by obtain ⟨cs, h1, h2, h3⟩ := h; exact ⟨cs, by unfold Blk; rw [he]; exact h1, h2, h3⟩
end
theorem rw_zero {w : World} {b N : Nat} (h : Blk w b (zrow N) 3) (f : Nat → Nat) : Rw w b N f 0 := ⟨_, h, by simp [zrow, ig], fun q hq => by omega⟩
theorem two_new (w : World) (n N : Nat) : Blk (((w.drewN n).alloc (.cells (zrow N) 3)).alloc (.cells (zrow N) 3)) w.heap.size (zrow N) 3 ∧ Blk (((w.drewN n).alloc (.cells (zrow N) 3)).alloc (.cells (zrow N) 3)) (w.heap.size + 1) (zrow N) 3 ∧ Below w.heap.size w (((w.drewN n).alloc (.cells (zrow N) 3)).alloc (.cells (zrow N) 3)) :=
  ⟨(Blk.new (w.drewN n) (zrow N) 3).alloc _, new_at _ _ _ (by rw [World.size_alloc]; rfl), ((below_drewN (Below.refl _ _) n).alloc (Nat.le_refl _) _).alloc (by rw [World.size_alloc]; exact Nat.le_succ _) _⟩
/-- What the reference's table says. -/
def DD (l m : List (Int × Int)) (i k : Nat) : Nat := lev ((vs l).take i) ((vs m).take k)
theorem dd_zero (l m : List (Int × Int)) (k : Nat) (hk : k ≤ m.length) : DD l m 0 k = k := by
  unfold DD; rw [lev_edge _ _ _ _ (Nat.zero_le _) (by rw [vs_len]; exact hk) (.inl rfl)]; omega
theorem dd_left (l m : List (Int × Int)) (i : Nat) (hi : i ≤ l.length) : DD l m i 0 = i := by
  unfold DD; rw [lev_edge _ _ _ _ (by rw [vs_len]; exact hi) (Nat.zero_le _) (.inr rfl)]; omega
theorem dd_bd (l m : List (Int × Int)) (i k : Nat) : DD l m i k ≤ l.length + m.length := by
  have := lev_bd (vs l) (vs m) i k; rw [vs_len, vs_len] at this; exact this
theorem dd_end (l m : List (Int × Int)) : DD l m l.length m.length = lev (vs l) (vs m) := by
  unfold DD; rw [List.take_of_length_le (by rw [vs_len]; exact Nat.le_refl _), List.take_of_length_le (by rw [vs_len]; exact Nat.le_refl _)]
theorem dd_row (l m : List (Int × Int)) (i j : Nat) (hi : i < l.length) (hj : j < m.length) : DD l m (i + 1) (j + 1) = min (DD l m i (j + 1) + 1) (min (DD l m (i + 1) j + 1) (DD l m i j + if l[i].1 = m[j].1 then 0 else 1)) := by
  have e1 : (vs l).take (i + 1) = (vs l).take i ++ [l[i].1] := by rw [List.take_succ_eq_append_getElem (by rw [vs_len]; exact hi)]; simp [vs]
  have e2 : (vs m).take (j + 1) = (vs m).take j ++ [m[j].1] := by rw [List.take_succ_eq_append_getElem (by rw [vs_len]; exact hj)]; simp [vs]
  unfold DD
  rw [e1, e2, lev_row]
set_option maxRecDepth 100000 in
set_option maxHeartbeats 16000000 in
theorem dist_any (b1 b2 : Nat) (a1 a2 : Option Addr) (c1 c2 : Nat) (l m : List (Int × Int)) (w : World) (h1 : Sv w b1 a1 c1 l) (h2 : Sv w b2 a2 c2 m) (hl : l.length ≤ 35184372088830) (hm : m.length ≤ 35184372088830) :
   Calls Try.prog 6 #[.slice a1 l.length c1, .slice a2 m.length c2] w fun e w' => e = .returned (.int .i64 ((lev (vs l) (vs m) : Nat) : Int)) ∧ Below w.heap.size w w' := by
  have HS1 := Lib.hid h1
  have HS2 := Lib.hid h2
  clear h1 h2
  go_enter Try.func6, Try.ntmps6
  go_upto_block 0 with (fail)
  go_cut [0, 1] from 14 to 36 (fun s0 s1 wx => Trim w b1 b2 l m s0 s1 wx)
  case first =>
    go_wp2_with fail
    go_loopw [0, 1] (fun s0 s1 wr => Trim w b1 b2 l m s0 s1 wr) (fun s0 _ _ => sliceLen s0)
    case atStart => exact ⟨l, m, a1, a2, c1, c2, rfl, rfl, HS1, HS2, Nat.le_refl _, Nat.le_refl _, rfl, 0, rfl⟩
    case round =>
      obtain ⟨l', m', a1', a2', c1', c2', rfl, rfl, hs1, hs2, hl1, hl2, hlev, n, rfl⟩ := hrel
      rcases l' with _ | ⟨x, l'⟩
      · go_wp2_with fail
        go_quiet (fail)
        go_wp2_with fail
        go_meet
        exact ⟨[], m', a1', a2', c1', c2', rfl, rfl, hs1, hs2, Nat.zero_le _, hl2, hlev, _, dn2 _ _ _⟩
      · rcases m' with _ | ⟨y, m'⟩
        · go_wp2_with fail
          go_quiet (fail)
          go_wp2_with fail
          go_meet
          exact ⟨x :: l', [], a1', a2', c1', c2', rfl, rfl, hs1, hs2, hl1, Nat.zero_le _, hlev, _, dn2 _ _ _⟩
        · obtain ⟨off1, rfl, x0⟩ := hs1.out.first
          obtain ⟨off2, rfl, y0⟩ := hs2.out.first
          have p1 : (0 : Int) < (l'.length : Int) + 1 := by omega
          have p2 : (0 : Int) < (m'.length : Int) + 1 := by omega
          by_cases hxy : x.1 = y.1
          · have hq : (x.1 == y.1) = true := by simp [hxy]
            have HXY := Lib.hid hxy
            clear hxy
            go_wp2_with fail
            go_quiet (fail)
            go_wp2_with fail
            have q1 : 1 ≤ c1' := by have := hs1.out.1; simp at this; omega
            have q2 : 1 ≤ c2' := by have := hs2.out.1; simp at this; omega
            have p3 : (0 : Int) ≤ (l'.length : Int) := by omega
            have p4 : (0 : Int) ≤ (m'.length : Int) := by omega
            go_quiet (fail)
            go_wp2_with fail
            exact ⟨⟨l', m', _, _, _, _, rfl, rfl, hs1.out.tail, hs2.out.tail, by simp at hl1; omega, by simp at hl2; omega, (by show _ = _; rw [← hlev.out]; simp only [vs, List.map_cons]; rw [HXY.out, lev_same]), _, (by rw [dn2, dn2])⟩, by simp [sliceLen]⟩
          · have hq : (x.1 == y.1) = false := by simp [hxy]
            go_wp2_with fail
            go_quiet (fail)
            go_wp2_with fail
            go_meet
            exact ⟨x :: l', y :: m', _, _, c1', c2', rfl, rfl, hs1, hs2, hl1, hl2, hlev, _, dn2 _ _ _⟩
  case rest =>
    clear HS1 HS2
    obtain ⟨l1, m1, a1', a2', c1', c2', rfl, rfl, hs1, hs2, hl1, hl2, hlev, n, rfl⟩ := hcut
    go_upto_block 2 with (fail)
    go_cut [0, 1] from 37 to 71 (fun s0 s1 wx => Trim w b1 b2 l m s0 s1 wx)
    case first =>
      go_wp2_with fail
      go_loopw [0, 1] (fun s0 s1 wr => Trim w b1 b2 l m s0 s1 wr) (fun s0 _ _ => sliceLen s0)
      case atStart => exact ⟨l1, m1, a1', a2', c1', c2', rfl, rfl, hs1, hs2, hl1, hl2, hlev, n, rfl⟩
      case round =>
        clear hs1 hs2 hl1 hl2 hlev
        obtain ⟨l', m', a1', a2', c1', c2', rfl, rfl, hs1, hs2, hl1, hl2, hlev, n, rfl⟩ := hrel
        rcases snoc_cases l' with rfl | ⟨l', x, rfl⟩
        · go_wp2_with fail
          go_quiet (fail)
          go_wp2_with fail
          go_meet
          exact ⟨[], m', a1', a2', c1', c2', rfl, rfl, hs1, hs2, Nat.zero_le _, hl2, hlev, _, dn2 _ _ _⟩
        · rcases snoc_cases m' with rfl | ⟨m', y, rfl⟩
          · have p1 : (0 : Int) < (l'.length : Int) + 1 := by omega
            go_wp2_with fail
            go_quiet (fail)
            go_wp2_with fail
            go_meet
            exact ⟨l' ++ [x], [], a1', a2', c1', c2', rfl, rfl, hs1, hs2, hl1, Nat.zero_le _, hlev, _, dn2 _ _ _⟩
          · obtain ⟨off1, rfl, x0⟩ := hs1.out.last
            obtain ⟨off2, rfl, y0⟩ := hs2.out.last
            have p1 : (0 : Int) < (l'.length : Int) + 1 := by omega
            have p2 : (0 : Int) < (m'.length : Int) + 1 := by omega
            have q1 : l'.length + 1 ≤ c1' := by have := hs1.out.1; simpa using this
            have q2 : m'.length + 1 ≤ c2' := by have := hs2.out.1; simpa using this
            have q3 : l'.length ≤ c1' := by omega
            have q4 : m'.length ≤ c2' := by omega
            have q5 : c1' ≤ 9223372036854775807 := by have := hs1.out.2.1; unfold maxLen at this; omega
            have q6 : c2' ≤ 9223372036854775807 := by have := hs2.out.2.1; unfold maxLen at this; omega
            have e4 : IntKind.i64.wrap (l'.length : Int) = (l'.length : Int) := by rw [IntKind.wrap_i64]; omega
            have e5 : IntKind.i64.wrap (m'.length : Int) = (m'.length : Int) := by rw [IntKind.wrap_i64]; omega
            by_cases hxy : x.1 = y.1
            · have hq : (x.1 == y.1) = true := by simp [hxy]
              have HXY := Lib.hid hxy
              clear hxy q5 q6
              go_wp2_with fail
              go_quiet (fail)
              go_wp2_with fail
              go_quiet (fail)
              go_wp2_with fail
              exact ⟨⟨l', m', _, _, _, _, rfl, rfl, hs1.out.init, hs2.out.init, by simp at hl1; omega, by simp at hl2; omega, (by show _ = _; rw [← hlev.out, vs_app, vs_app]; show _ = lev (vs l' ++ [x.1]) (vs m' ++ [y.1]); rw [HXY.out, lev_last_same]), _, (by rw [dn2, dn2])⟩, by simp [sliceLen]⟩
            · have hq : (x.1 == y.1) = false := by simp [hxy]
              clear q5 q6
              go_wp2_with fail
              go_quiet (fail)
              go_wp2_with fail
              go_meet
              exact ⟨l' ++ [x], m' ++ [y], _, _, c1', c2', rfl, rfl, hs1, hs2, hl1, hl2, hlev, _, dn2 _ _ _⟩
    case rest =>
      clear hs1 hs2 hl1 hl2 hlev
      obtain ⟨l2, m2, a1', a2', c1', c2', rfl, rfl, hs1, hs2, hl1, hl2, hlev, n, rfl⟩ := hcut
      have hmk := make_row m2.length (by omega)
      have hwr : IntKind.i64.wrap ((m2.length : Int) + 1) = (m2.length : Int) + 1 := by rw [IntKind.wrap_i64]; omega
      go_upto_region 5 with (fail)
      go_cut [5, 6] from 72 to 79 (fun s5 s6 wx => ∃ rb nb, s5 = .slice (some ⟨rb, 0, none⟩) (m2.length + 1) (m2.length + 1) ∧ s6 = .slice (some ⟨nb, 0, none⟩) (m2.length + 1) (m2.length + 1) ∧ rb ≠ nb ∧ w.heap.size ≤ rb ∧ w.heap.size ≤ nb ∧ Hid (Blk wx rb (zrow (m2.length + 1)) 3) ∧ Hid (Blk wx nb (zrow (m2.length + 1)) 3) ∧ Hid (Below w.heap.size w wx))
      case first =>
        go_region_held3 (fun _ => True) (trivial) ((first | fail))
        all_goals
          go_wp2_with fail
          go_meet
          obtain ⟨t1, t2, t3⟩ := two_new w (n + 1) (m2.length + 1)
          first | exact ⟨_, _, rfl, rfl, by omega, Nat.le_refl _, by omega, t1, t2, t3⟩ | exact ⟨_, _, rfl, rfl, by omega, by omega, Nat.le_refl _, t2, t1, t3⟩
      case rest =>
        obtain ⟨rb, nb, rfl, rfl, hne, hrb, hnb, hr, hn, hB⟩ := hcut
        clear hmk hwr
        have hN : (m2.length : Int) ≤ 35184372088830 := by omega
        go_wp2_with fail
        go_loopw [82] (fun p wr => ∃ j : Nat, j ≤ m2.length + 1 ∧ p = .int .i64 j ∧ Hid (Rw wr rb (m2.length + 1) (fun q => q) j) ∧ Hid (Rw wr nb (m2.length + 1) (fun q => q) 0) ∧ Hid (Below w.heap.size w wr)) (fun p _ => m2.length + 1 - (intOf p).toNat)
        case atStart => exact ⟨0, Nat.zero_le _, rfl, rw_zero hr.out _, rw_zero hn.out _, hB⟩
        case round =>
          clear hr hn hB
          obtain ⟨j, hj, rfl, hr, hn, hB⟩ := hrel
          by_cases hlt : j < m2.length + 1
          · obtain ⟨v0, g0⟩ := hr.out.got hlt
            have f0 := hr.out.free
            have hlt' : (j : Int) < (m2.length : Int) + 1 := by omega
            go_wp2_with fail
            go_roundw
            case rel => exact ⟨j + 1, by omega, by go_num, hr.out.put hlt rfl, hn.out.other _ hne, hB.out.setCell hrb _⟩
            case measure => simp [intOf]; omega
          · have he : j = m2.length + 1 := by omega
            subst he
            have HRW : Hid (Rw wr rb (m2.length + 1) (DD l2 m2 0) (m2.length + 1)) := hr.out.congr fun q hq => (dd_zero l2 m2 q (by omega)).symm
            have HNW : Hid (Rw wr nb (m2.length + 1) (DD l2 m2 0) 0) := hn.out.none _
            clear hr hn hlt hj
            go_wp2_with fail
            obtain ⟨wq, rfl⟩ : ∃ wq : World, wq = wr := ⟨_, rfl⟩
            go_loopw [5, 6, 92] (fun s5 s6 p wr => ∃ i rb nb : Nat, i ≤ l2.length ∧ p = .int .i64 i ∧ s5 = .slice (some ⟨rb, 0, none⟩) (m2.length + 1) (m2.length + 1) ∧ s6 = .slice (some ⟨nb, 0, none⟩) (m2.length + 1) (m2.length + 1) ∧ rb ≠ nb ∧ w.heap.size ≤ rb ∧ w.heap.size ≤ nb ∧ Hid (Rw wr rb (m2.length + 1) (DD l2 m2 i) (m2.length + 1)) ∧ Hid (Rw wr nb (m2.length + 1) (DD l2 m2 i) 0) ∧ Hid (Below w.heap.size w wr)) (fun _ _ p _ => l2.length - (intOf p).toNat)
            case atStart => exact ⟨0, rb, nb, Nat.zero_le _, rfl, rfl, rfl, hne, hrb, hnb, HRW, HNW, hB⟩
            case round =>
              clear HRW HNW hB hne hrb hnb
              obtain ⟨i, rb, nb, hi, rfl, rfl, rfl, hne, hrb, hnb, hr, hn, hB⟩ := hrel
              obtain ⟨wo, rfl⟩ : ∃ wo : World, wo = wr := ⟨_, rfl⟩
              by_cases hlt : i < l2.length
              · obtain ⟨off1, hb1, rfl, hc1⟩ := hs1.out.2.2.2.at (by omega)
                obtain ⟨x0, x1⟩ := hc1 i hlt
                rw [← cellsBelow hB.out _ _ hb1] at x0 x1
                obtain ⟨xV, hxV⟩ : ∃ v, l2[i].1 = v := ⟨_, rfl⟩
                obtain ⟨xL, hxL⟩ : ∃ v, l2[i].2 = v := ⟨_, rfl⟩
                rw [hxV] at x0
                rw [hxL] at x1
                have HXV := Lib.hid hxV
                clear hc1 hxV hxL
                have hlt' : (i : Int) < (l2.length : Int) := by omega
                have hsz := hB.out.size
                have hrl := hr.out.lt
                have hnl := hn.out.lt
                have hb1w : b1 < wo.heap.size := by omega
                go_wp2_with fail
                refine (leastfn_any _ _ _ _ _ rfl).mono ?_
                rintro e w4 ⟨hw4, rfl⟩
                have HX4 : Hid (Blk w4 wo.heap.size #[.int .i64 xV, .int .i64 xL] 43) := by show Blk _ _ _ _; rw [← hw4]; exact (Blk.new wo _ _).alloc _
                have HQ4 : Hid (Blk w4 (wo.heap.size + 1) #[.slice (some ⟨rb, 0, none⟩) (m2.length + 1) (m2.length + 1)] 29) := by show Blk _ _ _ _; rw [← hw4]; exact new_at _ _ _ (by simp)
                have HR4 : Hid (Rw w4 rb (m2.length + 1) (DD l2 m2 i) (m2.length + 1)) := by show Rw _ _ _ _ _; rw [← hw4]; exact (hr.out.alloc _).alloc _
                have HN4 : Hid (Rw w4 nb (m2.length + 1) (DD l2 m2 (i + 1)) 0) := by show Rw _ _ _ _ _; rw [← hw4]; exact ((hn.out.alloc _).alloc _).none _
                have HB4 : Hid (Below w.heap.size w w4) := by show Below _ _ _; rw [← hw4]; exact (hB.out.alloc hsz _).alloc (by simp; omega) _
                have hs4 : Hid (w4.heap.size = wo.heap.size + 1 + 1) := by show _ = _; rw [← hw4]; simp
                clear hw4 hr hn hB
                simp only [World.size_alloc]
                obtain ⟨xb, hxb⟩ : ∃ xb, wo.heap.size = xb := ⟨_, rfl⟩
                rw [hxb] at HX4 HQ4 hs4 ⊢
                have hnx : nb ≠ xb := by omega
                have hnx1 : nb ≠ xb + 1 := by omega
                clear hxb
                obtain ⟨v0, g0⟩ := HN4.out.got (q := 0) (by omega)
                have f0 := HN4.out.free
                have hbi : (0 : Int) ≤ (i : Int) ∧ (i : Int) ≤ 35184372088830 := by omega
                go_wp2_with fail
                go_loopw [105] (fun p wr => ∃ j : Nat, j ≤ m2.length ∧ p = .int .i64 j ∧ Hid (Rw wr nb (m2.length + 1) (DD l2 m2 (i + 1)) (j + 1)) ∧ Hid (Rw wr rb (m2.length + 1) (DD l2 m2 i) (m2.length + 1)) ∧ Hid (Blk wr xb #[.int .i64 xV, .int .i64 xL] 43) ∧ Hid (Blk wr (xb + 1) #[.slice (some ⟨rb, 0, none⟩) (m2.length + 1) (m2.length + 1)] 29) ∧ Hid (Below w.heap.size w wr)) (fun p _ => m2.length - (intOf p).toNat)
                case atStart => exact ⟨0, Nat.zero_le _, rfl, HN4.out.put (by omega) (by rw [dd_left _ _ _ (by omega)]; rfl), HR4.out.other _ (fun e => hne e.symm), HX4.out.other _ hnx, HQ4.out.other _ hnx1, HB4.out.setCell hnb _⟩
                case round =>
                  clear HN4 HR4 HX4 HQ4 HB4 g0 f0
                  obtain ⟨j, hj, rfl, hn, hr, hx, hq, hB⟩ := hrel
                  by_cases hlj : j < m2.length
                  · obtain ⟨off2, hb2, rfl, hc2⟩ := hs2.out.2.2.2.at (by omega)
                    obtain ⟨y0, y1⟩ := hc2 j hlj
                    rw [← cellsBelow hB.out _ _ hb2] at y0 y1
                    obtain ⟨yV, hyV⟩ : ∃ v, m2[j].1 = v := ⟨_, rfl⟩
                    obtain ⟨yL, hyL⟩ : ∃ v, m2[j].2 = v := ⟨_, rfl⟩
                    rw [hyV] at y0
                    rw [hyL] at y1
                    have HDD := Lib.hid (dd_row l2 m2 i j hlt hlj)
                    rw [hyV, HXV.out] at HDD
                    clear hc2 hyV hyL
                    have hlj' : (j : Int) < (m2.length : Int) := by omega
                    have hj1 : (j : Int) + 1 < (m2.length : Int) + 1 := by omega
                    have hj2 : (j : Int) < (m2.length : Int) + 1 := by omega
                    have hj0 : (0 : Int) ≤ (j : Int) + 1 := by omega
                    have hjn : ((j : Int) + 1).toNat = j + 1 := by omega
                    have hsz := hB.out.size
                    have hxl := hx.out.lt
                    have hql := hq.out.lt
                    have hnl := hn.out.lt
                    have hrl := hr.out.lt
                    have hb2w : b2 < wr.heap.size := by omega
                    have bd0 := dd_bd l2 m2 i j
                    have bd1 := dd_bd l2 m2 i (j + 1)
                    have bd2 := dd_bd l2 m2 (i + 1) j
                    have k0 := hr.out.cell (q := j) (by omega)
                    have k1 := hr.out.cell (q := j + 1) (by omega)
                    have k2 := hn.out.cell (q := j) (by omega)
                    obtain ⟨v3, k3⟩ := hn.out.got (q := j + 1) (by omega)
                    have kf := hn.out.free
                    have x0 := hx.out.cell 0
                    have z0 := hq.out.cell 0
                    simp at x0 z0
                    have ak := al_cell k0
                    generalize DD l2 m2 i j = d0 at *
                    generalize DD l2 m2 i (j + 1) = d1 at *
                    generalize DD l2 m2 (i + 1) j = d2 at *
                    by_cases hxy : xV = yV
                    · have HD : Hid (DD l2 m2 (i + 1) (j + 1) = min (d1 + 1) (min (d2 + 1) (d0 + 0))) := by show _ = _; rw [HDD.out, if_pos hxy]
                      have hxq : (xV == yV) = true := by simp [hxy]
                      clear HDD hxy
                      go_wp2_with fail
                      refine (least1_any (xb + 1) rb (m2.length + 1) (m2.length + 1) j d2 0 d0 d1 _ (al_cell z0 _) (ak _) (al_cell k1 _) (by omega) (by omega) (by omega) (by omega) (by omega) (by omega)).mono ?_
                      rintro e w5 ⟨rfl, n5, hw5⟩
                      have HN5 : Hid (Rw w5 nb (m2.length + 1) (DD l2 m2 (i + 1)) (j + 1)) := by show Rw _ _ _ _ _; rw [hw5]; exact (hn.out.alloc _).heap rfl
                      have HR5 : Hid (Rw w5 rb (m2.length + 1) (DD l2 m2 i) (m2.length + 1)) := by show Rw _ _ _ _ _; rw [hw5]; exact (hr.out.alloc _).heap rfl
                      have HX5 : Hid (Blk w5 xb #[.int .i64 xV, .int .i64 xL] 43) := by show Blk _ _ _ _; rw [hw5]; exact hx.out.alloc _
                      have HQ5 : Hid (Blk w5 (xb + 1) #[.slice (some ⟨rb, 0, none⟩) (m2.length + 1) (m2.length + 1)] 29) := by show Blk _ _ _ _; rw [hw5]; exact hq.out.alloc _
                      have HB5 : Hid (Below w.heap.size w w5) := by show Below _ _ _; rw [hw5]; exact below_drewN (hB.out.alloc hsz _) _
                      clear hw5 hn hr hx hq hB k0 k1 k2 k3 kf x0 z0 ak y0 y1
                      obtain ⟨v5, g5⟩ := HN5.out.got (q := j + 1) (by omega)
                      have f5 := HN5.out.free
                      have hval : Hid (min ((d1 : Int) + 1) (min ((d2 : Int) + 1) ((d0 : Int) + 0)) = ((DD l2 m2 (i + 1) (j + 1) : Nat) : Int)) := by show _ = _; rw [HD.out]; omega
                      go_wp2_with fail
                      go_roundw
                      case rel => (repeat apply Exists.intro); exact ⟨⟨j + 1, by omega, by go_num, HN5.out.put (by omega) (by first | exact hval.out | simpa using hval.out), HR5.out.other _ (fun e => hne e.symm), HX5.out.other _ hnx, HQ5.out.other _ hnx1, HB5.out.setCell hnb _⟩, rfl⟩
                      case measure => simp [intOf]; omega
                    · have HD : Hid (DD l2 m2 (i + 1) (j + 1) = min (d1 + 1) (min (d2 + 1) (d0 + 1))) := by show _ = _; rw [HDD.out, if_neg hxy]
                      have hxq : (xV == yV) = false := by simp [hxy]
                      clear HDD hxy
                      go_wp2_with fail
                      refine (least1_any (xb + 1) rb (m2.length + 1) (m2.length + 1) j d2 1 d0 d1 _ (al_cell z0 _) (ak _) (al_cell k1 _) (by omega) (by omega) (by omega) (by omega) (by omega) (by omega)).mono ?_
                      rintro e w5 ⟨rfl, n5, hw5⟩
                      have HN5 : Hid (Rw w5 nb (m2.length + 1) (DD l2 m2 (i + 1)) (j + 1)) := by show Rw _ _ _ _ _; rw [hw5]; exact (hn.out.alloc _).heap rfl
                      have HR5 : Hid (Rw w5 rb (m2.length + 1) (DD l2 m2 i) (m2.length + 1)) := by show Rw _ _ _ _ _; rw [hw5]; exact (hr.out.alloc _).heap rfl
                      have HX5 : Hid (Blk w5 xb #[.int .i64 xV, .int .i64 xL] 43) := by show Blk _ _ _ _; rw [hw5]; exact hx.out.alloc _
                      have HQ5 : Hid (Blk w5 (xb + 1) #[.slice (some ⟨rb, 0, none⟩) (m2.length + 1) (m2.length + 1)] 29) := by show Blk _ _ _ _; rw [hw5]; exact hq.out.alloc _
                      have HB5 : Hid (Below w.heap.size w w5) := by show Below _ _ _; rw [hw5]; exact below_drewN (hB.out.alloc hsz _) _
                      clear hw5 hn hr hx hq hB k0 k1 k2 k3 kf x0 z0 ak y0 y1
                      obtain ⟨v5, g5⟩ := HN5.out.got (q := j + 1) (by omega)
                      have f5 := HN5.out.free
                      have hval : Hid (min ((d1 : Int) + 1) (min ((d2 : Int) + 1) ((d0 : Int) + 1)) = ((DD l2 m2 (i + 1) (j + 1) : Nat) : Int)) := by show _ = _; rw [HD.out]; omega
                      go_wp2_with fail
                      go_roundw
                      case rel => (repeat apply Exists.intro); exact ⟨⟨j + 1, by omega, by go_num, HN5.out.put (by omega) (by first | exact hval.out | simpa using hval.out), HR5.out.other _ (fun e => hne e.symm), HX5.out.other _ hnx, HQ5.out.other _ hnx1, HB5.out.setCell hnb _⟩, rfl⟩
                      case measure => simp [intOf]; omega
                  · have he : j = m2.length := by omega
                    subst he
                    go_wp2_with fail
                    go_roundw
                    case rel => exact ⟨i + 1, nb, rb, by omega, by go_num, rfl, rfl, fun e => hne e.symm, hnb, hrb, hn, hr.out.none _, hB⟩
                    case measure => simp [intOf]; omega
              · have he : i = l2.length := by omega
                subst he
                have c0 := hr.out.cell (q := m2.length) (by omega)
                have HE : Hid (DD l2 m2 l2.length m2.length = lev (vs l) (vs m)) := by show _ = _; rw [dd_end, hlev.out]
                rw [HE.out] at c0
                have q1 : (m2.length : Int) < (m2.length : Int) + 1 := by omega
                go_wp2_with fail
                go_ret
                exact ⟨rfl, hB.out⟩
end Go.Proofs.Ytoblaooomphdoaa
