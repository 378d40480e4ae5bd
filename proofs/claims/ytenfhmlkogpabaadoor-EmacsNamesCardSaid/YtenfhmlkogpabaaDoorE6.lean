/- awake and EmacsNames: the walk, for every number and every text. -/
import Derived.Test.YtenfhmlkogpabaaDoorE4
import Derived.Test.YtenfhmlkogpabaaDoorE5
namespace Go.Proofs.YtenfhmlkogpabaaDoor
open Go.RowKit
def EmTabs (w : World) : Prop := KeyTab w ∧ RowTab w 1 ctl ∧ RowTab w 2 oth ∧ NameTab w
theorem EmTabs.below {w w' : World} (h : EmTabs w) (hb : Below w.heap.size w w') : EmTabs w' := ⟨h.1.below hb, h.2.1.below hb, h.2.2.1.below hb, h.2.2.2.below hb⟩
theorem EmTabs.to {w w' : World} (h : EmTabs w) (hb : Below w.heap.size w w') : EmTabs w' := h.below hb
theorem names_nodup : names.Nodup := by decide
theorem names_len : names.length = 42 := by decide
theorem nm_inj {i j : Nat} (hi : i < 42) (hj : j < 42) (h : nm i = nm j) : i = j := by
  have h1 : names.getD i [] = names.getD j [] := by
    have := congrArg (fun b : ByteArray => b.data.toList) h
    simpa [nm] using this
  have hi' : i < names.length := by rw [names_len]; exact hi
  have hj' : j < names.length := by rw [names_len]; exact hj
  simp only [List.getD, List.getElem?_eq_getElem hi', List.getElem?_eq_getElem hj', Option.getD_some] at h1
  exact (List.getElem_inj names_nodup).1 h1
theorem parse_nm {i : Nat} (hi : i < 42) {w w' : World} {e : Ending} (h : ParsePost (nm i) w e w') : e = .returned (.tuple #[.int .i64 i, .int .i64 0]) ∧ w = w' := by
  rcases h with ⟨j, hj, he, hno, heq, hw⟩ | ⟨he, hno, hw⟩
  · have := nm_inj hj hi heq
    subst this
    exact ⟨he, hw⟩
  · exact absurd rfl (hno i hi)
def YesPost (w : World) (e : Ending) (w' : World) : Prop := e = .returned (.bool true) ∧ Below w.heap.size w w'
theorem m1 : mayB 2 11 ⟨#[]⟩ false = true := by decide +kernel
theorem m2 : mayB 4 13 ⟨#[]⟩ false = true := by decide +kernel
theorem nm10 : nm 10 = ⟨#[107, 105, 108, 108, 45, 101, 110, 100]⟩ := rfl
theorem cnt10 : cnt ctl 10 22 + cnt oth 10 31 = 1 := by decide +kernel
theorem cmd1 (w : World) (h : EmTabs w) : Calls Tryd.prog 7 #[.agg #[.int .i64 2, .int .i64 11, .string ⟨#[]⟩, .bool false]] w fun e w' => e = .returned (.int .i64 10) ∧ Below w.heap.size w w' :=
  cmd_ctl 2 11 9 (by omega) (by decide +kernel) (by decide +kernel) m1 w h.1 h.2.1
theorem cmd2 (w : World) (h : EmTabs w) : Calls Tryd.prog 7 #[.agg #[.int .i64 4, .int .i64 13, .string ⟨#[]⟩, .bool false]] w fun e w' => e = .returned (.int .i64 33) ∧ Below w.heap.size w w' :=
  cmd_oth 4 13 18 (by omega) (by decide +kernel) (by decide +kernel) (by decide +kernel) m2 w h.1 h.2.1 h.2.2.1
theorem name10 (w : World) (h : EmTabs w) : Calls Tryd.prog 5 #[.int .i64 10] w fun e w' => e = .returned (.tuple #[.string ⟨#[107, 105, 108, 108, 45, 101, 110, 100]⟩, .int .i64 0]) ∧ w = w' := name_any 10 w h.2.2.2
theorem parse10 (w : World) (h : EmTabs w) : Calls Tryd.prog 6 #[.string ⟨#[107, 105, 108, 108, 45, 101, 110, 100]⟩] w fun e w' => e = .returned (.tuple #[.int .i64 10, .int .i64 0]) ∧ w = w' :=
  (parse_any (nm 10) w h.2.2.2).mono fun _ _ hp => parse_nm (i := 10) (by decide) hp
set_option maxHeartbeats 1000000 in
theorem awake_any (w : World) (ht : EmTabs w) : Calls Tryd.prog 4 #[] w (YesPost w) := by
  have HT := Lib.hid ht
  clear ht
  go_enter Tryd.func4, Tryd.ntmps4
  go_wp2_with fail
  refine (name10 _ HT.out).mono ?_
  rintro e w1 ⟨rfl, rfl⟩
  go_wp2_with fail
  refine (parse10 _ HT.out).mono ?_
  rintro e w1 ⟨rfl, rfl⟩
  go_wp2_with fail
  refine (cmd1 _ HT.out).mono ?_
  rintro e w1 ⟨rfl, hb⟩
  have HB := Lib.hid hb
  have HT1 := Lib.hid (HT.out.below hb)
  clear hb
  go_wp2_with fail
  refine (keys_any 10 _ HT1.out.2.1 HT1.out.2.2.1).mono ?_
  rintro e w2 ⟨ao, cap, rfl, hb2⟩
  rw [cnt10]
  have HB2 := Lib.hid (HB.out.trans (hb2.mono HB.out.size))
  have HT2 := Lib.hid (HT1.out.below hb2)
  clear hb2
  go_wp2_with fail
  refine (cmd2 _ HT2.out).mono ?_
  rintro e w3 ⟨rfl, hb3⟩
  have HB3 := Lib.hid (HB2.out.trans (hb3.mono HB2.out.size))
  clear hb3
  go_wp2_with fail
  go_ret
  exact ⟨rfl, HB3.out⟩
theorem name_at {i : Nat} (hi : i < 42) (w : World) (h : EmTabs w) : Calls Tryd.prog 5 #[.int .i64 i] w fun e w' => e = .returned (.tuple #[.string (nm i), .int .i64 0]) ∧ w = w' :=
  (name_any i w h.2.2.2).mono fun e w' hp => by
    obtain ⟨he, hw⟩ := hp
    rw [if_pos ⟨by omega, by omega⟩, if_pos ⟨by omega, by omega⟩] at he
    exact ⟨by rw [he]; rfl, hw⟩
theorem name_no {c : Int} (hc : ¬ (0 ≤ c ∧ c < 42)) (w : World) (h : EmTabs w) : Calls Tryd.prog 5 #[.int .i64 c] w fun e w' => e = .returned (.tuple #[.string ⟨#[]⟩, .int .i64 3]) ∧ w = w' :=
  (name_any c w h.2.2.2).mono fun e w' hp => by
    obtain ⟨he, hw⟩ := hp
    rw [if_neg hc, if_neg hc] at he
    exact ⟨he, hw⟩
set_option maxHeartbeats 1000000 in
theorem emacsNames_any (c : Int) (s : ByteArray) (hs : s.size ≤ 9223372036854775807) (w : World) (ht : EmTabs w) : Calls Tryd.prog 3 #[.int .i64 c, .string s] w (YesPost w) := by
  have HT := Lib.hid ht
  clear ht
  by_cases h1 : s.size ≤ 100
  · by_cases hc : 0 ≤ c ∧ c < 42
    · obtain ⟨hc0, hc1⟩ := hc
      obtain ⟨n, rfl⟩ := Int.eq_ofNat_of_zero_le hc0
      have hn : n < 42 := by omega
      have HN := Lib.hid (name_at hn w HT.out)
      have HP : Hid (∀ w, EmTabs w → Calls Tryd.prog 6 #[.string (nm n)] w fun e w' => e = .returned (.tuple #[.int .i64 n, .int .i64 0]) ∧ w = w') := fun w h => (parse_any (nm n) w h.2.2.2).mono fun _ _ hp => parse_nm hn hp
      generalize nm n = z at *
      go_enter Tryd.func3, Tryd.ntmps3
      go_wp2_with fail
      refine HN.out.mono ?_
      rintro e w1 ⟨rfl, rfl⟩
      go_wp2_with fail
      refine (parse_any s _ HT.out.2.2.2).mono ?_
      rintro e w1 (⟨i, hi, rfl, -, rfl, rfl⟩ | ⟨rfl, -, rfl⟩)
      · have HM := Lib.hid (name_at hi w HT.out)
        go_wp2_with fail
        refine HM.out.mono ?_
        rintro e w1 ⟨rfl, rfl⟩
        go_wp2_with fail
        refine (HP.out _ HT.out).mono ?_
        rintro e w1 ⟨rfl, rfl⟩
        go_wp2_with fail
        refine (awake_any _ HT.out).mono ?_
        rintro e w1 ⟨rfl, hb⟩
        go_wp2_with fail
        go_ret
        exact ⟨rfl, hb⟩
      · go_wp2_with fail
        refine (HP.out _ HT.out).mono ?_
        rintro e w1 ⟨rfl, rfl⟩
        go_wp2_with fail
        refine (awake_any _ HT.out).mono ?_
        rintro e w1 ⟨rfl, hb⟩
        go_wp2_with fail
        go_ret
        exact ⟨rfl, hb⟩
    · have HN := Lib.hid (name_no hc w HT.out)
      by_cases hc0 : c < 0
      all_goals
        have hd : decide (c < 0) = decide (c < 0) := rfl
        go_enter Tryd.func3, Tryd.ntmps3
        go_wp2_with fail
        refine HN.out.mono ?_
        rintro e w1 ⟨rfl, rfl⟩
        go_wp2_with fail
        refine (parse_any s _ HT.out.2.2.2).mono ?_
        rintro e w1 (⟨i, hi, rfl, -, rfl, rfl⟩ | ⟨rfl, -, rfl⟩)
        · have HM := Lib.hid (name_at hi w HT.out)
          go_wp2_with fail
          refine HM.out.mono ?_
          rintro e w1 ⟨rfl, rfl⟩
          go_wp2_with fail
          refine (awake_any _ HT.out).mono ?_
          rintro e w1 ⟨rfl, hb⟩
          go_wp2_with fail
          go_ret
          exact ⟨rfl, hb⟩
        · go_wp2_with fail
          refine (awake_any _ HT.out).mono ?_
          rintro e w1 ⟨rfl, hb⟩
          go_wp2_with fail
          go_ret
          exact ⟨rfl, hb⟩
  · go_enter Tryd.func3, Tryd.ntmps3
    go_wp2_with fail
    refine (awake_any _ HT.out).mono ?_
    rintro e w1 ⟨rfl, hb⟩
    go_wp2_with fail
    go_ret
    exact ⟨rfl, hb⟩
end Go.Proofs.YtenfhmlkogpabaaDoor
