/- The contract of the reference's Decode. -/
import Derived.Test.YtipekkddhelhmaaDoorU12
import Derived.Test.YtipekkddhelhmaaDoorU8
namespace Go.Proofs.YtipekkddhelhmaaDoor
open Go.RowKit
def strN : Value → Nat
  | .string s => s.size
  | _ => 0
theorem step_vals (t : ByteArray) (h : 0 < t.size) : 1 ≤ (one t.data.toList).2 ∧ (one t.data.toList).2 ≤ t.size ∧
    valsL t.data.toList = (one t.data.toList).1 :: valsL (t.extract (one t.data.toList).2 t.size).data.toList := by
  have hl : t.data.toList.length = t.size := by simp
  rw [extract_drop]
  cases hd : t.data.toList with
  | nil => rw [hd] at hl; simp at hl; omega
  | cons x l =>
    obtain ⟨a, b, _, _⟩ := one_spec x l
    refine ⟨a, by rw [hd] at hl; omega, valsL_cons x l⟩
set_option maxHeartbeats 2000000 in
set_option maxRecDepth 100000 in
theorem rdecode_any (s : ByteArray) (hs : s.size ≤ 1000000) (w : World) :
   Calls Tryd.prog 10 #[.string s] w (DecPost s w) := by
  obtain ⟨i0, hi, hz0, hz1, hz2⟩ := info_parts info3
  have hlen := valsL_len s.data.toList
  have hlen' : (valsL s.data.toList).length ≤ 1000000 := by
    have : s.data.toList.length = s.size := by simp
    omega
  clear hlen
  go_enter Tryd.func10, Tryd.ntmps10
  go_wp2_with fail
  go_loopw [0, 3] (fun t0 v wr => ∃ (t : ByteArray) (acc : List Nat), t0 = .string t ∧ wr.ownsRow w.heap.size 3 1 v acc.length (ints acc) ∧ acc ++ valsL t.data.toList = valsL s.data.toList ∧ t.size ≤ 1000000 ∧ Below w.heap.size w wr) (fun t0 _ _ => strN t0)
  case atStart => exact ⟨s, [], rfl, World.ownsRow_nil _ _ _ _, by simp, hs, Below.refl _ _⟩
  case round =>
    obtain ⟨t, acc, rfl, ho, hc, hp1, hb⟩ := hrel
    have HO := Lib.hid ho
    have HC := Lib.hid hc
    have HB := Lib.hid hb
    have hbs := hb.size
    clear ho hc hb
    by_cases hp : 0 < t.size
    · obtain ⟨r1, r2, r3⟩ := step_vals t hp
      have R3 := Lib.hid r3
      clear r3
      have hal : acc.length + 1 ≤ (valsL s.data.toList).length := by
        have := congrArg List.length HC.out
        rw [R3.out] at this
        simp at this; omega
      go_wp2_with fail
      refine (rone_any t hp _).mono ?_
      rintro e w4 ⟨rfl, hb4⟩
      have HB4 := Lib.hid (HB.out.trans (hb4.mono hbs))
      have HO4 : Hid (w4.ownsRow w.heap.size 3 1 u3 acc.length (ints acc)) := by
        have h := HO.out
        refine ⟨h.1, ?_⟩
        rcases h.2 with hn | ⟨g, cap, cur, rfl, hgb, hg, rest⟩
        · exact .inl hn
        · exact .inr ⟨g, cap, cur, rfl, hgb, (hb4.block g (Array.getElem?_eq_some_iff.1 hg).1).trans hg, rest⟩
      have hs4 := HB4.out.size
      clear hb4
      generalize (one t.data.toList).1 = v1 at *
      generalize (one t.data.toList).2 = n1 at *
      go_wp2_with (at_builtin; go_must (refine wpList_append_own _ rfl _ _ 23 rfl w.heap.size 3 i0 (.int .i64 0) 1 8 Tryd.underlying23 hi hz0 hz1 hz2 rfl (by decide) _ _ _ rfl (HO4.out.alloc _) ⟨w4.heap.size, 0, none⟩ 1 1 [.int .i64 v1] rfl rfl ?c1 ?c2 ?c3 ?c4 ?c5 ?_))
      case c1 =>
        intro j u hj
        match j, hj with
        | 0, hj => simp at hj; subst hj; simp [Addr.add]
      case c2 => intro u hu; simp at hu; subst hu; rfl
      case c3 => unfold maxLen; omega
      case c4 => omega
      case c5 => simp; omega
      intro v' w6 hown6 hgr6 _
      have HO6 := Lib.hid hown6
      have HB6 := Lib.hid ((HB4.out.alloc hs4 _).grown hgr6 (by simp; omega) (fun k hk => (HO4.out.lt k hk).1))
      clear hown6 hgr6
      go_wp2_with fail
      go_roundw
      case rel =>
        refine ⟨t.extract n1 t.size, acc ++ [v1], rfl, ?_, ?_, by simp; omega, HB6.out⟩
        · have := HO6.out
          rw [ints_snoc] at this
          simpa using this
        · have := HC.out
          rw [R3.out] at this
          rw [← this]; simp
      case measure => simp [strN]; omega
    · go_wp2_with fail
      go_ret
      have hcc := HC.out
      have he : t.data.toList = [] := by
        have hl : t.data.toList.length = t.size := by simp
        exact List.length_eq_zero_iff.1 (by omega)
      rw [he, valsL_nil, List.append_nil] at hcc
      have hho := HO.out
      rw [hcc] at hho
      exact ⟨_, rfl, hho, HB.out⟩
end Go.Proofs.YtipekkddhelhmaaDoor
