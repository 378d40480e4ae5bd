/- utf.Count, utf.Decode and sign.Of, for texts of plain letters. -/
import Derived.Test.YtoblaooomphdoaaD6
import Derived.Test.YtoblaooomphdoaaUtf
import Derived.Lib.Hide
import Derived.Laws.RangeAny
import Derived.Lib.OthersKept
import Derived.OwnWalk
namespace Go.Proofs.Ytoblaooomphdoaa
open Go.RowKit
theorem value_ascii (s : ByteArray) (v : Nat) (hv : v < 128) (w : World) : Calls Try.prog 26 #[.string s, .int .i32 v] w fun e w' => e = .returned (.int .i64 v) ∧ w = w' := by
  have hne : ((v : Int) == 65533) = false := by rw [beq_eq_false_iff_ne]; omega
  go_enter Try.func26, Try.ntmps26
  go_wp2_with fail
  go_ret
  exact ⟨rfl, rfl⟩
theorem drop_cons (s : ByteArray) (pos : Nat) (h : pos < s.size) : ∃ x l, s.data.toList.drop pos = x :: l ∧ x = s[pos]'h := by
  refine ⟨_, _, List.drop_eq_getElem_cons (by simpa using h), ?_⟩
  rfl
/-- One step of a range over a text, in plain words. -/
theorem range_step (s : ByteArray) (pos : Nat) (h : pos < s.size) :
    1 ≤ (Utf8.decode s pos).2 ∧ pos + (Utf8.decode s pos).2 ≤ s.size ∧ valsL (s.data.toList.drop pos) = (one (s.data.toList.drop pos)).1 :: valsL (s.data.toList.drop (pos + (Utf8.decode s pos).2)) := by
  obtain ⟨x, l, e, _⟩ := drop_cons s pos h
  have hd := (decode_one s pos).1
  rw [hd, e]
  have hs := one_spec x l
  have hl : (x :: l).length = s.size - pos := by rw [← e]; simp
  refine ⟨hs.1, by omega, ?_⟩
  rw [valsL_cons, ← e, List.drop_drop]
set_option maxHeartbeats 1000000 in
theorem count_any (s : ByteArray) (hs : s.size < 9223372036854775807) (w : World) :
   Calls Try.prog 25 #[.string s] w fun e w' => e = .returned (.int .i64 (valsL s.data.toList).length) ∧ Below w.heap.size w w' := by
  go_enter Try.func25, Try.ntmps25
  go_wp2
  go_loopw [3] (fun n w' => ∃ (pos acc : Nat), w' = w.iter s pos ∧ n = .int .i64 acc ∧ acc + (valsL (s.data.toList.drop pos)).length = (valsL s.data.toList).length ∧ pos ≤ s.size ∧ acc ≤ pos) (fun _ w' => s.size - w'.iterPos w.heap.size)
  case atStart => exact ⟨0, 0, rfl, rfl, by simp, by omega, Nat.le_refl _⟩
  case round =>
    obtain ⟨pos, acc, rfl, rfl, hc, hb, ha⟩ := hrel
    have HC := Lib.hid hc
    clear hc
    by_cases hp : pos < s.size
    · have hnx : ∀ ty, (Instr.next (.pointer (some ⟨w.heap.size, 0, none⟩)) true ty).run Try.prog (w.iter s pos) = _ := fun ty => run_next_any w s pos ty hp
      obtain ⟨r1, r2, r3⟩ := range_step s pos hp
      have R3 := Lib.hid r3
      clear r3
      go_wp2
      go_roundw
      case rel =>
        refine ⟨pos + (Utf8.decode s pos).2, acc + 1, rfl, by go_num, ?_, r2, by omega⟩
        have := HC.out
        rw [R3.out, List.length_cons] at this
        omega
      case measure =>
        simp
        omega
    · have hnx : ∀ ty, (Instr.next (.pointer (some ⟨w.heap.size, 0, none⟩)) true ty).run Try.prog (w.iter s pos) = _ := fun ty => run_next_end w s pos ty hp
      go_wp2
      go_ret
      have := HC.out
      rw [List.drop_eq_nil_of_le (by simp; omega), valsL_nil] at this
      refine ⟨?_, by unfold World.iter; go_grown⟩
      rw [← this]; simp
def ints (l : List Nat) : List Value := l.map fun (n : Nat) => Value.int .i64 (n : Int)
theorem ints_len (l : List Nat) : (ints l).length = l.length := by simp [ints]
theorem ints_snoc (l : List Nat) (n : Nat) : ints l ++ [.int .i64 (n : Int)] = ints (l ++ [n]) := by simp [ints]
theorem extract_drop (s : ByteArray) (pos : Nat) : (s.extract pos s.size).data.toList = s.data.toList.drop pos := by
  simp only [ByteArray.data_extract, Array.toList_extract, List.extract_eq_take_drop]
  exact List.take_of_length_le (by simp)
/-- An iterator's block is no row of cells. -/
theorem own_ne_iter {w : World} {base : Nat} {e : TypeId} {size n k pos : Nat} {v : Value} {xs : List Value} {s : ByteArray} (h : w.ownsRow base e size v n xs) (hk : w.heap[k]? = some (.stringIter s pos)) : v.ownBlock ≠ some k := by
  intro hv
  rcases h.2 with ⟨rfl, _⟩ | ⟨g, cap, cur, rfl, _, hg, _⟩
  · simp [Value.ownBlock] at hv
  · simp [Value.ownBlock] at hv
    subst hv
    rw [hk] at hg
    cases hg
theorem own_iterAt {w : World} {base : Nat} {e : TypeId} {size n k pos : Nat} {v : Value} {xs : List Value} {s : ByteArray} (h : w.ownsRow base e size v n xs) (hk : w.heap[k]? = some (.stringIter s pos)) (pos' : Nat) : (w.iterAt k s pos').ownsRow base e size v n xs := by
  have hne := own_ne_iter h hk
  refine ⟨h.1, ?_⟩
  rcases h.2 with hn | ⟨g, cap, cur, rfl, hb, hg, rest⟩
  · exact .inl hn
  · exact .inr ⟨g, cap, cur, rfl, hb, (Lib.iterAt_other w k g s pos' (fun e => hne (by rw [e]; rfl))).trans hg, rest⟩
def DecPost (s : ByteArray) (w : World) (e : Ending) (w' : World) : Prop := ∃ v, e = .returned v ∧ w'.ownsRow w.heap.size 3 1 v (valsL s.data.toList).length (ints (valsL s.data.toList)) ∧ Below w.heap.size w w'
set_option maxHeartbeats 2000000 in
set_option maxRecDepth 100000 in
theorem decode_any (s : ByteArray) (hs : s.size ≤ 1000000) (hA : ∀ x ∈ s.data.toList, x.toNat < 128) (w : World) :
   Calls Try.prog 21 #[.string s] w (DecPost s w) := by
  obtain ⟨i0, hi, hz0, hz1, hz2⟩ := info_parts info3
  have HA := Lib.hid hA
  clear hA
  have hlen := valsL_len s.data.toList
  have hlen' : (valsL s.data.toList).length ≤ 1000000 := by
    have : s.data.toList.length = s.size := by simp
    omega
  clear hlen
  go_enter Try.func21, Try.ntmps21
  go_wp2_with fail
  refine (count_any s (by omega) _).mono ?_
  rintro e w1 ⟨rfl, hb1⟩
  have HB1 := Lib.hid hb1
  have hsz := hb1.size
  clear hb1
  go_wp2_with (at_make; refine wpList_make_own _ rfl _ _ 29 rfl w.heap.size 3 i0 (.int .i64 0) 1 Try.underlying29 hi hz0 hz1 .i64 .i64 _ (valsL s.data.toList).length rfl rfl rfl ?_ ?_ hsz ?_)
  · rw [hz2]; omega
  · unfold maxLen; omega
  intro w2 hown hgr
  have HO2 := Lib.hid hown
  have HB2 := Lib.hid (HB1.out.grown hgr hsz (by intro k h; cases h))
  have hsz2 := hgr.size
  clear hown hgr
  go_wp2_with fail
  have HI3 : Hid ((w2.iter s 0).heap[w2.heap.size]? = some (.stringIter s 0)) := World.iter_heap w2 s 0
  have HO3 : Hid ((w2.iter s 0).ownsRow w.heap.size 3 1 (.slice (some ⟨w1.heap.size, 0, none⟩) 0 (valsL s.data.toList).length) 0 []) := HO2.out.alloc _
  have HB3 : Hid (Below w.heap.size w (w2.iter s 0)) := HB2.out.alloc HB2.out.size _
  go_loopw [3] (fun v wr => ∃ (pos : Nat) (acc : List Nat), wr.ownsRow w.heap.size 3 1 v acc.length (ints acc) ∧ acc ++ valsL (s.data.toList.drop pos) = valsL s.data.toList ∧ pos ≤ s.size ∧ wr.heap[w2.heap.size]? = some (.stringIter s pos) ∧ Below w.heap.size w wr) (fun _ wr => s.size - wr.iterPos w2.heap.size)
  case atStart => exact ⟨0, [], HO3.out, by simp, by omega, HI3.out, HB3.out⟩
  case round =>
    obtain ⟨pos, acc, ho, hc, hp1, hit, hb⟩ := hrel
    have HO := Lib.hid ho
    have HC := Lib.hid hc
    have HIT := Lib.hid hit
    have HB := Lib.hid hb
    have hbs := hb.size
    clear ho hc hit hb
    by_cases hp : pos < s.size
    · have hnx : ∀ ty, (Instr.next (.pointer (some ⟨w2.heap.size, 0, none⟩)) true ty).run Try.prog wr = _ := fun ty => Lib.run_next_any_at wr w2.heap.size s pos ty HIT.out hp
      obtain ⟨r1, r2, r3⟩ := range_step s pos hp
      have R3 := Lib.hid r3
      clear r3
      have hal : acc.length + 1 ≤ (valsL s.data.toList).length := by
        have := congrArg List.length HC.out
        rw [R3.out] at this
        simp at this; omega
      have HO4 := Lib.hid (own_iterAt HO.out HIT.out (pos + (Utf8.decode s pos).2))
      have HI4 := Lib.hid (Lib.iterAt_heap wr w2.heap.size s pos (pos + (Utf8.decode s pos).2) HIT.out)
      have HB4 := Lib.hid (Lib.below_iterAt HB.out (show w.heap.size ≤ w2.heap.size by omega) s (pos + (Utf8.decode s pos).2))
      have hs4 := Lib.iterAt_size wr w2.heap.size s (pos + (Utf8.decode s pos).2)
      have hs5 : w.heap.size ≤ (wr.iterAt w2.heap.size s (pos + (Utf8.decode s pos).2)).heap.size := by omega
      have hs6 : w2.heap.size < (wr.iterAt w2.heap.size s (pos + (Utf8.decode s pos).2)).heap.size := (Array.getElem?_eq_some_iff.1 HI4.out).1
      clear hs4
      have hdd := decode_one s pos
      have HD := Lib.hid hdd
      clear hdd
      go_wp2_with fail
      have hv1 : (Utf8.decode s pos).1 = (one (s.data.toList.drop pos)).1 ∧ (one (s.data.toList.drop pos)).1 < 128 := by
        obtain ⟨x, l, e, _⟩ := drop_cons s pos hp
        have hm : x ∈ s.data.toList.drop pos := by rw [e]; exact List.mem_cons_self ..
        have hx := HA.out x (List.mem_of_mem_drop hm)
        rw [e]
        have h1 : one (x :: l) = (x.toNat, 1) := by
          rcases one_cases x l with ⟨_, h⟩ | h | h | h | h
          · exact h
          · obtain ⟨_, _, _, h, _⟩ := h; omega
          · obtain ⟨_, _, _, _, h, _⟩ := h; omega
          · obtain ⟨_, _, _, _, _, h, _⟩ := h; omega
          · omega
        rw [h1]
        have hd := HD.out
        rw [e, h1] at hd
        rcases hd.2 with ⟨q, _⟩ | ⟨q, _⟩
        · exact ⟨q, hx⟩
        · have : x.toNat = 1114112 + at_ (x :: l) 0 := q
          omega
      have hval := value_ascii (s.extract pos s.size) ((Utf8.decode s pos).1) (by omega) (wr.iterAt w2.heap.size s (pos + (Utf8.decode s pos).2))
      rw [hv1.1] at hval ⊢
      refine hval.mono ?_
      rintro e w5 ⟨rfl, rfl⟩
      clear hval
      generalize hv : (one (s.data.toList.drop pos)).1 = v1 at *
      have HV := Lib.hid hv
      clear hv
      generalize wr.iterAt w2.heap.size s (pos + (Utf8.decode s pos).2) = w5 at *
      go_wp2_with (at_builtin; go_must (refine wpList_append_own _ rfl _ _ 29 rfl w.heap.size 3 i0 (.int .i64 0) 1 8 Try.underlying29 hi hz0 hz1 hz2 rfl (by decide) _ _ _ rfl (HO4.out.alloc _) ⟨w5.heap.size, 0, none⟩ 1 1 [.int .i64 v1] rfl rfl ?c1 ?c2 ?c3 ?c4 ?c5 ?_))
      case c1 =>
        intro j u hj
        match j, hj with
        | 0, hj => simp at hj; subst hj; simp [Addr.add]
      case c2 => intro u hu; simp at hu; subst hu; rfl
      case c3 => unfold maxLen; omega
      case c4 => omega
      case c5 => simp; omega
      intro v' w6 hown6 hgr6 _
      have HO6 := Lib.hid hown6
      have HI6 : Hid (w6.heap[w2.heap.size]? = some (.stringIter s (pos + (Utf8.decode s pos).2))) := by
        show _ = _
        rw [hgr6.block w2.heap.size (by simp; omega) (fun e => own_ne_iter HO4.out HI4.out e.symm), Below.heap_alloc _ _ _ (by omega)]
        exact HI4.out
      have HB6 := Lib.hid ((HB4.out.alloc (by omega) _).grown hgr6 (by simp; omega) (fun k hk => (HO4.out.lt k hk).1))
      clear hown6 hgr6
      go_wp2_with fail
      go_roundw
      case rel =>
        refine ⟨pos + (Utf8.decode s pos).2, acc ++ [v1], ?_, ?_, r2, HI6.out, HB6.out⟩
        · have := HO6.out
          rw [ints_snoc] at this
          simpa using this
        · have := HC.out
          rw [R3.out] at this
          rw [← this]; simp
      case measure =>
        have e1 : w6.iterPos w2.heap.size = pos + (Utf8.decode s pos).2 := by unfold World.iterPos; rw [HI6.out]
        have e2 : wr.iterPos w2.heap.size = pos := by unfold World.iterPos; rw [HIT.out]
        rw [e1, e2]; omega
    · have hnx : ∀ ty, (Instr.next (.pointer (some ⟨w2.heap.size, 0, none⟩)) true ty).run Try.prog wr = _ := fun ty => Lib.run_next_end_at wr w2.heap.size s pos ty HIT.out hp
      go_wp2_with fail
      go_ret
      have hcc := HC.out
      rw [List.drop_eq_nil_of_le (by simp; omega), valsL_nil, List.append_nil] at hcc
      have hho := HO.out
      rw [hcc] at hho
      exact ⟨_, rfl, hho, HB.out⟩
end Go.Proofs.Ytoblaooomphdoaa
