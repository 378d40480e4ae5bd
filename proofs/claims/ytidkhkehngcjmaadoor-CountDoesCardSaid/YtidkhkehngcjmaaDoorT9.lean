/- The reference count of layer 29: what its Value and its Do answer, for texts of signs and digits of at most 1000 bytes. -/
import Derived.Test.YtidkhkehngcjmaaDoorT6
import Derived.Deep.QuietTactic
import Derived.BigQuiet
namespace Go.Proofs.YtidkhkehngcjmaaDoor
open Go.RowKit
def CS.zero : CS := ⟨false, false, false, 0⟩
def CS.num (s : CS) : Int := if s.bl = true then (if s.dg = true then -s.n else -1) else (if s.dg = true then s.n else 1)
def CS.step (s : CS) (b : UInt8) : CS := if b = 45 then ⟨true, s.dg, !s.bl, s.n⟩ else ⟨true, true, s.bl, min (10 * s.n + (b.toNat - 48)) 9999⟩
def CS.run (l : List UInt8) : CS := l.foldl CS.step CS.zero
theorem run_snoc (l : List UInt8) (b : UInt8) : CS.run (l ++ [b]) = (CS.run l).step b := by simp [CS.run]
def okByte (b : UInt8) : Bool := b == 45 || (decide (48 ≤ b.toNat) && decide (b.toNat ≤ 57))
theorem step_bd (s : CS) (b : UInt8) (hb : okByte b = true) (h : 0 ≤ s.n ∧ s.n ≤ 9999) : 0 ≤ (s.step b).n ∧ (s.step b).n ≤ 9999 := by
  unfold CS.step
  split
  · exact h
  · rename_i hne
    simp [okByte, hne] at hb
    refine ⟨?_, ?_⟩
    · show 0 ≤ min _ _; omega
    · show min _ _ ≤ _; omega
theorem fold_bd (l : List UInt8) : ∀ s : CS, (∀ b ∈ l, okByte b = true) → 0 ≤ s.n ∧ s.n ≤ 9999 → 0 ≤ (l.foldl CS.step s).n ∧ (l.foldl CS.step s).n ≤ 9999 := by
  induction l with
  | nil => intro s _ h; exact h
  | cons b l ih => intro s hl h; exact ih _ (fun x hx => hl x (by simp [hx])) (step_bd s b (hl b (by simp)) h)
theorem run_bd (l : List UInt8) (h : ∀ b ∈ l, okByte b = true) : 0 ≤ (CS.run l).n ∧ (CS.run l).n ≤ 9999 := fold_bd l _ h (by simp [CS.zero])
theorem step_minus (s : CS) {b : UInt8} (h : b = 45) : s.step b = ⟨true, s.dg, !s.bl, s.n⟩ := by simp [CS.step, h]
theorem step_digit (s : CS) {b : UInt8} (h : ¬ b = 45) : s.step b = ⟨true, true, s.bl, min (10 * s.n + (b.toNat - 48)) 9999⟩ := by simp [CS.step, h]
theorem low_min (n : Int) (b : UInt8) : Value.int .i64 (low (n * 10 + (b.toNat : Int) - 48) 9999) = Value.int .i64 (min (10 * n + ((b.toNat : Int) - 48)) 9999) := by
  unfold low; congr 1; split <;> omega
theorem take_snoc' (s : ByteArray) (k : Nat) (h : k < s.size) : s.data.toList.take (k + 1) = s.data.toList.take k ++ [s[k]] := by
  rw [List.take_succ_eq_append_getElem (by simpa using h)]; rfl
def VPost (s : ByteArray) (w : World) (e : Ending) (w' : World) : Prop := e = .returned (.tuple #[.int .i64 (CS.num (CS.run s.data.toList)), .bool (!s.toList.isEmpty)]) ∧ Below w.heap.size w w'
set_option maxHeartbeats 1000000 in
theorem rvalue_any (s : ByteArray) (hv : ∀ b ∈ s.data.toList, okByte b = true) (hs : s.size ≤ 1000) (w : World) :
   Calls Tryd.prog 10 #[.agg #[.string s]] w (VPost s w) := by
  have HV := Lib.hid hv
  clear hv
  go_enter Tryd.func10, Tryd.ntmps10
  go_wp2
  obtain ⟨w1, hw1⟩ : ∃ w1, w1 = w.alloc (.cells #[.string s] 28) := ⟨_, rfl⟩
  rw [← hw1]
  have HK := Lib.hid (show w1.cell? ⟨w.heap.size, 0, none⟩ = some (.string s) by rw [hw1]; simp)
  have HB := Lib.hid (show Below w.heap.size w w1 by rw [hw1]; go_grown)
  clear hw1
  have k0 := HK.out
  go_loop [4, 5, 6, 7] (fun n d b i => ∃ k : Nat, k ≤ s.size ∧ i = .int .i64 k ∧ n = .int .i64 (CS.run (s.data.toList.take k)).n ∧ d = .bool (CS.run (s.data.toList.take k)).dg ∧ b = .bool (CS.run (s.data.toList.take k)).bl) (fun _ _ _ i => s.size - (intOf i).toNat)
  case atStart => exact ⟨0, Nat.zero_le _, rfl, by simp [CS.run, CS.zero], by simp [CS.run, CS.zero], by simp [CS.run, CS.zero]⟩
  case round =>
    obtain ⟨k, hk, rfl, rfl, rfl, rfl⟩ := hrel
    have hbd := run_bd (s.data.toList.take k) (fun b hb => HV.out b (List.mem_of_mem_take hb))
    obtain ⟨hb0, hb1⟩ := hbd
    by_cases hlt : k < s.size
    · have HS := Lib.hid (show CS.run (s.data.toList.take (k + 1)) = (CS.run (s.data.toList.take k)).step s[k] by rw [take_snoc' s k hlt, run_snoc])
      have HO := Lib.hid (HV.out s[k] (List.getElem_mem (l := s.data.toList) (n := k) (by simpa using hlt)))
      generalize hq : CS.run (s.data.toList.take k) = q at *
      clear hq
      by_cases hm : s[k] = 45
      · have HM := Lib.hid hm
        go_wp2_with fail
        go_round
        case rel => exact ⟨k + 1, by omega, by go_num, by rw [HS.out, step_minus q HM.out], by rw [HS.out, step_minus q HM.out], by rw [HS.out, step_minus q HM.out]⟩
        case measure => simp [intOf]; omega
      · have HM := Lib.hid hm
        have hd : 48 ≤ (s[k].toNat : Int) ∧ (s[k].toNat : Int) ≤ 57 := by
          have := HO.out
          simp [okByte, hm] at this
          omega
        obtain ⟨hd1, hd2⟩ := hd
        have hm2 : ((s[k].toNat : Int) == 45) = false := by rw [beq_eq_false_iff_ne]; intro h; exact hm (UInt8.toNat_inj.1 (by simpa using Int.ofNat_inj.1 h))
        go_wp2_with (go_at_call 14; refine (low_any _ _ _).mono ?_; rintro e w' ⟨rfl, rfl⟩)
        go_round
        case rel => exact ⟨k + 1, by omega, by go_num, by rw [HS.out, step_digit q HM.out]; exact low_min _ _, by rw [HS.out, step_digit q HM.out], by rw [HS.out, step_digit q HM.out]⟩
        case measure => simp [intOf]; omega
    · have hke : k = s.size := by omega
      have hq : CS.run (s.data.toList.take k) = CS.run s.data.toList := by rw [hke, List.take_of_length_le (by simp)]
      have HQ := Lib.hid hq
      rw [hq] at hb0 hb1 ⊢
      clear hq hke
      cases hdg : (CS.run s.data.toList).dg <;> cases hbl : (CS.run s.data.toList).bl
      all_goals
        have HD := Lib.hid hdg
        have HL := Lib.hid hbl
        clear hdg hbl
        go_wp2_with fail
        go_quiet (fail)
        go_wp2_with fail
        go_ret2
        exact ⟨by simp [CS.num, HD.out, HL.out], below_drewN HB.out _⟩
end Go.Proofs.YtidkhkehngcjmaaDoor
namespace Go.Proofs.YtidkhkehngcjmaaDoor
open Go.RowKit
/-- What the reference's Do makes of a text: where the key may be. -/
def rdoOk (l : List UInt8) (kd v : Int) : Bool :=
  if 48 ≤ v ∧ v ≤ 57 then kd == 3 || (kd == 1 && !l.isEmpty) else kd == 3 && v == 45 && l.all (· == 45)
def rdoL (l : List UInt8) (kd v : Int) : List UInt8 := if rdoOk l kd v = true then l ++ [UInt8.ofNat v.toNat] else l
def RPost (l : List UInt8) (kd v : Int) (w : World) (e : Ending) (w' : World) : Prop := e = .returned (.tuple #[.agg #[.string ⟨(rdoL l kd v).toArray⟩], .bool (rdoOk l kd v)]) ∧ Below w.heap.size w w'
theorem conv1 (W : World) (n : Nat) (x : Int) (hn : n = W.heap.size) : (convert 43 9 (.slice (some ⟨n, 0, none⟩) 1 1)).run Tryd.prog (W.alloc (.cells #[.int .u8 x] 5)) = .ok (.string (strOfNums [x])) (W.alloc (.cells #[.int .u8 x] 5)) := by
  subst hn
  refine run_convert_bytes_arg _ 43 5 Tryd.underlying43 Tryd.underlying5 _ 0 1 1 [x] rfl ?_ 9 Tryd.underlying9
  intro i hi
  have : i = 0 := by omega
  subst this
  simp
theorem toList_data' (s : ByteArray) : s.toList = s.data.toList := ByteArray.toList_eq s
theorem rpost_yes {s : ByteArray} {kd v : Int} {w w' : World} (h : rdoOk s.data.toList kd v = true) (hb : Below w.heap.size w w') : RPost s.data.toList kd v w (.returned (.tuple #[.agg #[.string (s ++ strOfNums [v])], .bool true])) w' := by
  refine ⟨?_, hb⟩
  have e : s ++ strOfNums [v] = ⟨(rdoL s.data.toList kd v).toArray⟩ := by
    rw [rdoL, if_pos h]
    apply ByteArray.ext
    apply Array.toList_inj.1
    simp [strOfNums]
  rw [h, e]
theorem rpost_no {s : ByteArray} {kd v : Int} {w w' : World} (h : rdoOk s.data.toList kd v = false) (hb : Below w.heap.size w w') : RPost s.data.toList kd v w (.returned (.tuple #[.agg #[.string s], .bool false])) w' := by
  refine ⟨?_, hb⟩
  have e : s = ⟨(rdoL s.data.toList kd v).toArray⟩ := by
    rw [rdoL, if_neg (by simp [h])]
  rw [h, ← e]
set_option maxHeartbeats 1000000 in
theorem rdo_yes (s : ByteArray) (hs : s.size ≤ 1000) (kd v : Int) (h1 : 48 ≤ v) (h2 : v ≤ 57) (hk : kd = 3 ∨ (kd = 1 ∧ s.toList.isEmpty = false)) (w : World) :
   Calls Tryd.prog 7 #[.agg #[.string s], .agg #[.int .i64 kd, .int .i64 v, .string ⟨#[]⟩, .bool false]] w (RPost s.data.toList kd v w) := by
  have hok : Hid (rdoOk s.data.toList kd v = true) := by
    show _ = _
    rw [rdoOk, if_pos ⟨h1, h2⟩]
    rcases hk with rfl | ⟨rfl, h⟩
    · rfl
    · rw [toList_data'] at h
      simp [h]
  have hc := conv1
  have hsz : (strOfNums [v]).size = 1 := by simp [strOfNums_size]
  rcases hk with rfl | ⟨rfl, h⟩
  all_goals
    go_enter Tryd.func7, Tryd.ntmps7
    go_wp2
    refine bodyPost_ret (v := .tuple #[.agg #[.string (s ++ strOfNums [v])], .bool true]) (by simp only [results, Tryd.results7]; go_simp) rfl (rpost_yes hok ?_)
    go_grown
set_option maxHeartbeats 1000000 in
theorem rdo_no (s : ByteArray) (kd v : Int) (tx : ByteArray) (ct : Bool) (hk : (kd = 3 ∧ (v < 48 ∨ 57 < v) ∧ ¬ v = 45) ∨ (kd = 1 ∧ ((v < 48 ∨ 57 < v) ∨ s.toList.isEmpty = true)) ∨ (¬ kd = 3 ∧ ¬ kd = 1)) (w : World) :
   Calls Tryd.prog 7 #[.agg #[.string s], .agg #[.int .i64 kd, .int .i64 v, .string tx, .bool ct]] w (RPost s.data.toList kd v w) := by
  have hok : Hid (rdoOk s.data.toList kd v = false) := by
    show _ = _
    rw [toList_data'] at hk
    unfold rdoOk
    rcases hk with ⟨rfl, h1, h2⟩ | ⟨rfl, h1 | h1⟩ | ⟨h1, h2⟩
    · rw [if_neg (by omega)]; simp [h2]
    · rw [if_neg (by omega)]; simp
    · simp [h1]
    · split <;> simp [h1, h2]
  rcases hk with ⟨rfl, h1, h2⟩ | ⟨rfl, h1 | h1⟩ | ⟨h1, h2⟩
  all_goals
    go_enter Tryd.func7, Tryd.ntmps7
    go_wp2
    all_goals
      refine bodyPost_ret (v := .tuple #[.agg #[.string s], .bool false]) (by simp only [results, Tryd.results7]; go_simp) rfl (rpost_no hok ?_)
      go_grown
end Go.Proofs.YtidkhkehngcjmaaDoor
