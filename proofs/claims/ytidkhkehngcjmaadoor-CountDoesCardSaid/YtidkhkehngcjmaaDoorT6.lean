/- The contract of (*count.Count).Do: what it answers and leaves, for every key and every count that stands in a block of its own. -/
import Derived.Test.YtidkhkehngcjmaaDoorT5
namespace Go.Proofs.YtidkhkehngcjmaaDoor
open Go.RowKit
structure CS where
  bg : Bool
  dg : Bool
  bl : Bool
  n : Int
def CS.cells (s : CS) : Array Value := #[.bool s.bg, .bool s.dg, .bool s.bl, .int .i64 s.n]
def CS.some' (s : CS) : Bool := s.bg || s.dg || s.bl || !(s.n == 0)
set_option maxHeartbeats 1000000 in
theorem do_nil (kd v : Int) (tx : ByteArray) (ct : Bool) (w : World) :
   Calls Tryd.prog 9 #[.pointer none, .agg #[.int .i64 kd, .int .i64 v, .string tx, .bool ct]] w fun e w' => e = .returned (.bool false) ∧ Below w.heap.size w w' := by
  go_enter Tryd.func9, Tryd.ntmps9
  go_wp2_with fail
  go_ret
  exact ⟨rfl, by go_grown⟩
set_option maxHeartbeats 1000000 in
theorem do_bad (c : Nat) (kd v : Int) (tx : ByteArray) (ct : Bool) (w : World) (ht : KeyTab w) (hs : tx.size ≤ 9223372036854775807) (hm : mayB kd v tx ct = false) :
   Calls Tryd.prog 9 #[.pointer (some ⟨c, 0, none⟩), .agg #[.int .i64 kd, .int .i64 v, .string tx, .bool ct]] w fun e w' => e = .returned (.bool false) ∧ Below w.heap.size w w' := by
  have HT := Lib.hid ht
  clear ht
  go_enter Tryd.func9, Tryd.ntmps9
  go_wp2_with fail
  refine (check_any kd v tx ct _ (HT.out.below (by go_grown)) hs).mono ?_
  rintro e w2 ⟨rfl, hb⟩
  rw [hm]
  have hbb : Below w.heap.size w w2 := Below.trans (by go_grown) (hb.mono (by simp))
  simp only [chk, Bool.false_eq_true, if_false]
  go_wp2_with fail
  go_ret
  exact ⟨rfl, hbb⟩
set_option maxHeartbeats 1000000 in
theorem do_minus (c : Nat) (s : CS) (tx : ByteArray) (ct : Bool) (w : World) (hc : Blk w c s.cells 42) (ht : KeyTab w) (hs : tx.size ≤ 9223372036854775807) (hm : mayB 3 45 tx ct = true) (hd : s.dg = false) :
   Calls Tryd.prog 9 #[.pointer (some ⟨c, 0, none⟩), .agg #[.int .i64 3, .int .i64 45, .string tx, .bool ct]] w fun e w' => e = .returned (.bool true) ∧ Blk w' c (CS.cells ⟨true, false, !s.bl, s.n⟩) 42 ∧ Keep (· = c) w w' := by
  have HT := Lib.hid ht
  have HC := Lib.hid hc
  clear ht hc
  go_enter Tryd.func9, Tryd.ntmps9
  go_wp2_with fail
  refine (check_any 3 45 tx ct _ (HT.out.below (by go_grown)) hs).mono ?_
  rintro e w2 ⟨rfl, hb⟩
  rw [hm]
  have hlt := HC.out.lt
  have hbb : Below w.heap.size w w2 := Below.trans (by go_grown) (hb.mono (by simp))
  have HC2 := Lib.hid (HC.out.below hbb hlt)
  have HB := Lib.hid hbb
  have HK := Lib.hid ((Blk.new w #[.int .i64 3, .int .i64 45, .string tx, .bool ct] 32).below hb (by simp))
  clear hbb hb
  have c0 := HC2.out.cell 0
  have c1 := HC2.out.cell 1
  have c2 := HC2.out.cell 2
  have cf := HC2.out.free
  have k0 := HK.out.cell 0
  have k1 := HK.out.cell 1
  simp [CS.cells, hd] at c0 c1 c2 k0 k1
  simp only [chk, if_true]
  go_wp2_with fail
  go_ret
  refine ⟨rfl, ?_, ?_⟩
  · have := (HC2.out.set 0 (.bool true)).set 2 (.bool !s.bl)
    simpa [CS.cells, hd] using this
  · refine Keep.setCell (Keep.setCell (Keep.of_below HB.out) _ ?_) _ ?_ <;> exact .inl rfl
theorem digit1_blk (kd v : Int) (bg : Bool) (tx : ByteArray) (ct : Bool) (kb : Nat) (w : World) (h : Blk w kb #[.int .i64 kd, .int .i64 v, .string tx, .bool ct] 32) :
    Calls Tryd.prog 21 #[.bool bg, .pointer (some ⟨kb, 0, none⟩)] w fun e w' => e = .returned (.tuple #[.int .i64 (digN kd v bg), .bool (digOk kd v bg)]) ∧ w = w' :=
  digit1_any kd v bg kb w ((h.cell 0).trans rfl) ((h.cell 1).trans rfl)
def CS.put (s : CS) (kd v : Int) : CS := if digOk kd v s.bg = true then ⟨true, true, s.bl, min (10 * s.n + (v - 48)) 9999⟩ else s
theorem put_yes {s : CS} {kd v : Int} (h : digOk kd v s.bg = true) : s.put kd v = ⟨true, true, s.bl, min (10 * s.n + (v - 48)) 9999⟩ := by simp [CS.put, h]
theorem put_no {s : CS} {kd v : Int} (h : digOk kd v s.bg = false) : s.put kd v = s := by simp [CS.put, h]
def DigPost (c : Nat) (s : CS) (kd v : Int) (w : World) (e : Ending) (w' : World) : Prop := e = .returned (.bool (digOk kd v s.bg)) ∧ Blk w' c (CS.cells (s.put kd v)) 42 ∧ Keep (· = c) w w'
theorem digN_bd (kd v : Int) (bg : Bool) : 0 ≤ digN kd v bg ∧ digN kd v bg ≤ 9 := by
  unfold digN
  split
  · rename_i h; simp [digOk] at h; omega
  · omega
theorem digN_eq {kd v : Int} {bg : Bool} (h : digOk kd v bg = true) : digN kd v bg = v - 48 := by simp [digN, h]
theorem digPost_yes {c : Nat} {bg dg bl : Bool} {n kd v m : Int} {w w2 : World} (hok : digOk kd v bg = true) (hc : Blk w2 c (CS.cells ⟨bg, dg, bl, n⟩) 42) (hb : Below w.heap.size w w2) (hm : m = min (10 * n + (v - 48)) 9999) (o : Obj) :
    DigPost c ⟨bg, dg, bl, n⟩ kd v w (.returned (.bool true)) ((((w2.setCell ⟨c, 0, none⟩ (.bool true)).setCell ⟨c, 1, none⟩ (.bool true)).setCell ⟨c, 3, none⟩ (.int .i64 m)).alloc o).drew := by
  refine ⟨by rw [show digOk kd v (CS.mk bg dg bl n).bg = true from hok], ?_, ?_⟩
  · rw [put_yes (s := ⟨bg, dg, bl, n⟩) hok]
    have := (((hc.set 0 (.bool true)).set 1 (.bool true)).set 3 (.int .i64 m)).alloc o
    exact Blk.drew (by simpa [CS.cells, hm] using this)
  · refine Keep.drew (Keep.alloc (Keep.setCell (Keep.setCell (Keep.setCell (Keep.of_below hb) _ ?_) _ ?_) _ ?_) _) <;> exact .inl rfl
theorem digPost_no {c : Nat} {bg dg bl : Bool} {n kd v : Int} {w w2 : World} (hok : digOk kd v bg = false) (hc : Blk w2 c (CS.cells ⟨bg, dg, bl, n⟩) 42) (hb : Below w.heap.size w w2) (o : Obj) :
    DigPost c ⟨bg, dg, bl, n⟩ kd v w (.returned (.bool false)) (w2.alloc o).drew := by
  refine ⟨by rw [show digOk kd v (CS.mk bg dg bl n).bg = false from hok], ?_, ?_⟩
  · rw [put_no (s := ⟨bg, dg, bl, n⟩) hok]
    exact hc.alloc o
  · exact Keep.drew (Keep.alloc (Keep.of_below hb) _)
set_option maxHeartbeats 2000000 in
theorem do_digit (c : Nat) (s : CS) (kd v : Int) (tx : ByteArray) (ct : Bool) (w : World) (hc : Blk w c s.cells 42) (ht : KeyTab w) (hs : tx.size ≤ 9223372036854775807) (hm : mayB kd v tx ct = true) (hd : ¬ (kd = 3 ∧ v = 45 ∧ s.dg = false))
   (hz : s.bg = false → s = ⟨false, false, false, 0⟩) (hn0 : 0 ≤ s.n) (hn1 : s.n ≤ 9999) :
   Calls Tryd.prog 9 #[.pointer (some ⟨c, 0, none⟩), .agg #[.int .i64 kd, .int .i64 v, .string tx, .bool ct]] w (DigPost c s kd v w) := by
  have HT := Lib.hid ht
  obtain ⟨bg, dg, bl, n⟩ := s
  have hh : (kd = 3 ∧ v = 45 ∧ dg = true ∧ bg = true) ∨ (kd = 3 ∧ ¬ v = 45 ∧ bg = true) ∨ (¬ kd = 3 ∧ bg = true) ∨ (kd = 3 ∧ ¬ v = 45 ∧ bg = false ∧ dg = false ∧ bl = false ∧ n = 0) ∨ (¬ kd = 3 ∧ bg = false ∧ dg = false ∧ bl = false ∧ n = 0) := by
    cases bg
    · have := hz rfl
      simp only [CS.mk.injEq] at this
      obtain ⟨_, rfl, rfl, rfl⟩ := this
      by_cases a : kd = 3 <;> by_cases b : v = 45 <;> simp_all
    · by_cases a : kd = 3 <;> by_cases b : v = 45 <;> simp_all
  have hdn : Hid (0 ≤ digN kd v bg ∧ digN kd v bg ≤ 9) := digN_bd kd v bg
  have hok : digOk kd v bg = true ∨ digOk kd v bg = false := by cases digOk kd v bg <;> simp
  clear ht hd hz
  rcases hh with ⟨rfl, rfl, rfl, rfl⟩ | ⟨rfl, h1, rfl⟩ | ⟨h1, rfl⟩ | ⟨rfl, h1, rfl, rfl, rfl, rfl⟩ | ⟨h1, rfl, rfl, rfl, rfl⟩
  all_goals
    have HC := Lib.hid hc
    clear hc
    go_enter Tryd.func9, Tryd.ntmps9
    go_wp2_with fail
    refine (check_any _ _ tx ct _ (HT.out.below (by go_grown)) hs).mono ?_
    rintro e w2 ⟨rfl, hb⟩
    rw [hm]
    have hlt := HC.out.lt
    have hbb : Below w.heap.size w w2 := Below.trans (by go_grown) (hb.mono (by simp))
    have HC2 := Lib.hid (HC.out.below hbb hlt)
    have HB := Lib.hid hbb
    have HK := Lib.hid ((Blk.new w _ 32).below hb (by simp))
    clear hbb hb
    have c0 := HC2.out.cell 0
    have c1 := HC2.out.cell 1
    have c2 := HC2.out.cell 2
    have c3 := HC2.out.cell 3
    have cf := HC2.out.free
    have k0 := HK.out.cell 0
    have k1 := HK.out.cell 1
    have k2 := HK.out.cell 2
    have k3 := HK.out.cell 3
    have hl2 := HC2.out.lt
    have hk2 := HK.out.lt
    simp [CS.cells] at c0 c1 c2 c3 k0 k1 k2 k3
    simp only [chk, if_true]
    go_wp2_with fail
    go_region_with (first | (go_at_call 18; refine (digit_any _ _ _ _ _).mono ?_; rintro e w' ⟨rfl, rfl⟩) | (go_at_call 21; refine (digit1_blk _ _ _ _ _ w2.heap.size _ (Blk.drew (Blk.new _ _ _))).mono ?_; rintro e w' ⟨rfl, rfl⟩))
    all_goals
      rcases hok with hok | hok
      · first
          | (exfalso; revert hok; simp [digOk]; done)
          | (have hd1 := hdn.out.1
             have hd2 := hdn.out.2
             go_wp2_with fail
             all_goals
               go_ret
               exact digPost_yes hok HC2.out HB.out (by have := digN_eq hok; omega) _)
      · go_wp2_with fail
        go_ret
        exact digPost_no hok HC2.out HB.out _
end Go.Proofs.YtidkhkehngcjmaaDoor
