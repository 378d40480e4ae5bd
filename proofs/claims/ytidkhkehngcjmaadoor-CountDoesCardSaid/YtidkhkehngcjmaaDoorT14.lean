/- Contracts of the count and of the reference count of layer 29 in one form each, for every key, and that the two agree. -/
import Derived.Test.YtidkhkehngcjmaaDoorT12
namespace Go.Proofs.YtidkhkehngcjmaaDoor
open Go.RowKit
/-- A count's state that can come up. -/
def CS.Inv (s : CS) : Prop := (s.bg = false → s = ⟨false, false, false, 0⟩) ∧ 0 ≤ s.n ∧ s.n ≤ 9999
def CS.doOk (s : CS) (kd v : Int) (m : Bool) : Bool := m && ((kd == 3 && v == 45 && !s.dg) || digOk kd v s.bg)
def CS.doSt (s : CS) (kd v : Int) (m : Bool) : CS := if m = true then (if kd = 3 ∧ v = 45 ∧ s.dg = false then ⟨true, false, !s.bl, s.n⟩ else s.put kd v) else s
def DoPost (c : Nat) (s : CS) (kd v : Int) (m : Bool) (w : World) (e : Ending) (w' : World) : Prop := e = .returned (.bool (s.doOk kd v m)) ∧ Blk w' c (s.doSt kd v m).cells 42 ∧ Keep (· = c) w w'
theorem do_full (c : Nat) (s : CS) (hi : s.Inv) (kd v : Int) (tx : ByteArray) (ct : Bool) (w : World) (hc : Blk w c s.cells 42) (ht : KeyTab w) (hs : tx.size ≤ 9223372036854775807) :
   Calls Tryd.prog 9 #[.pointer (some ⟨c, 0, none⟩), .agg #[.int .i64 kd, .int .i64 v, .string tx, .bool ct]] w (DoPost c s kd v (mayB kd v tx ct) w) := by
  cases hm : mayB kd v tx ct
  · refine (do_bad c kd v tx ct w ht hs hm).mono fun e w' h => ⟨?_, ?_, Keep.of_below h.2⟩
    · rw [h.1]; simp [CS.doOk]
    · simp only [CS.doSt, Bool.false_eq_true, if_false]; exact hc.below h.2 hc.lt
  · by_cases hx : kd = 3 ∧ v = 45 ∧ s.dg = false
    · obtain ⟨rfl, rfl, hd⟩ := hx
      refine (do_minus c s tx ct w hc ht hs hm hd).mono fun e w' h => ⟨?_, ?_, h.2.2⟩
      · rw [h.1]; simp [CS.doOk, hd]
      · simp only [CS.doSt, if_true, hd, and_self]; exact h.2.1
    · refine (do_digit c s kd v tx ct w hc ht hs hm hx hi.1 hi.2.1 hi.2.2).mono fun e w' h => ⟨?_, ?_, h.2.2⟩
      · rw [h.1]
        have : (kd == 3 && v == 45 && !s.dg) = false := by
          cases h3 : (kd == 3 && v == 45 && !s.dg)
          · rfl
          · exfalso; apply hx
            simp at h3
            exact ⟨h3.1.1, h3.1.2, h3.2⟩
        simp [CS.doOk, this]
      · simp only [CS.doSt, if_true, if_neg hx]; exact h.2.1
theorem value_full (c : Nat) (s : CS) (hi : s.Inv) (w : World) (hc : Blk w c s.cells 42) :
   Calls Tryd.prog 11 #[.pointer (some ⟨c, 0, none⟩)] w fun e w' => e = .returned (.tuple #[.int .i64 s.num, .bool s.bg]) ∧ w = w' := by
  obtain ⟨bg, dg, bl, n⟩ := s
  cases bg
  · have := hi.1 rfl
    simp only [CS.mk.injEq, true_and] at this
    obtain ⟨rfl, rfl, rfl⟩ := this
    exact value_zero c w hc
  · exact value_begun c dg bl n hi.2.1 hi.2.2 w hc
theorem take_full (c : Nat) (s : CS) (hi : s.Inv) (w : World) (hc : Blk w c s.cells 42) :
   Calls Tryd.prog 12 #[.pointer (some ⟨c, 0, none⟩)] w fun e w' => e = .returned (.tuple #[.int .i64 s.num, .bool s.bg]) ∧ Blk w' c CS.zero.cells 42 ∧ Keep (· = c) w w' :=
  take_any c s s.num s.bg w hc (value_full c s hi w hc)
theorem num_bd (s : CS) (hi : s.Inv) : -9999 ≤ s.num ∧ s.num ≤ 9999 := by
  obtain ⟨_, h0, h1⟩ := hi
  unfold CS.num
  split <;> split <;> omega
theorem run_Inv (l : List UInt8) (h : ∀ b ∈ l, okByte b = true) : (CS.run l).Inv := ⟨run_zero l, run_bd l h⟩
theorem fold_dg (l : List UInt8) : ∀ s : CS, (l.foldl CS.step s).dg = (s.dg || !l.all (· == 45)) := by
  induction l with
  | nil => intro s; simp
  | cons b l ih =>
    intro s
    rw [List.foldl_cons, ih]
    by_cases h : b = 45
    · rw [step_minus s h]; simp [h]
    · rw [step_digit s h]; simp [h]
theorem run_dg (l : List UInt8) : (CS.run l).dg = !l.all (· == 45) := by
  unfold CS.run; rw [fold_dg]; simp [CS.zero]
/-- The reference's Do, for whatever key. -/
def rOk (l : List UInt8) (kd v : Int) (tx : ByteArray) (ct : Bool) : Bool := rdoOk l kd v && emptyB tx && !ct
def rL (l : List UInt8) (kd v : Int) (tx : ByteArray) (ct : Bool) : List UInt8 := if rOk l kd v tx ct = true then l ++ [UInt8.ofNat v.toNat] else l
def RFull (l : List UInt8) (kd v : Int) (tx : ByteArray) (ct : Bool) (w : World) (e : Ending) (w' : World) : Prop := e = .returned (.tuple #[.agg #[.string ⟨(rL l kd v tx ct).toArray⟩], .bool (rOk l kd v tx ct)]) ∧ Below w.heap.size w w'
set_option maxHeartbeats 1000000 in
theorem rdo_bad (s : ByteArray) (kd v : Int) (tx : ByteArray) (ct : Bool) (hk : kd = 3 ∨ kd = 1) (hb : (emptyB tx && !ct) = false) (w : World) :
   Calls Tryd.prog 7 #[.agg #[.string s], .agg #[.int .i64 kd, .int .i64 v, .string tx, .bool ct]] w (RFull s.data.toList kd v tx ct w) := by
  have hok : Hid (rOk s.data.toList kd v tx ct = false) := by
    show _ = _
    unfold rOk
    rw [Bool.and_assoc, hb, Bool.and_false]
  have hfin : ∀ w', Below w.heap.size w w' → RFull s.data.toList kd v tx ct w (.returned (.tuple #[.agg #[.string s], .bool false])) w' := by
    intro w' h
    refine ⟨?_, h⟩
    rw [rL, hok.out, if_neg (by simp)]
  have HF := Lib.hid hfin
  have he : tx.toList = [] → ct = true := by
    intro h
    simpa [emptyB, h] using hb
  have hcases : ¬ tx.toList = [] ∨ ct = true := by
    by_cases h : tx.toList = []
    · exact .inr (he h)
    · exact .inl h
  clear hfin hb he
  rcases hk with rfl | rfl <;> rcases hcases with h | rfl
  all_goals
    go_enter Tryd.func7, Tryd.ntmps7
    go_wp2
    all_goals
      refine bodyPost_ret (v := .tuple #[.agg #[.string s], .bool false]) (by simp only [results, Tryd.results7]; go_simp) rfl (HF.out _ ?_)
      go_grown
theorem rdo_full (s : ByteArray) (hs : s.size ≤ 1000) (kd v : Int) (tx : ByteArray) (ct : Bool) (w : World) :
   Calls Tryd.prog 7 #[.agg #[.string s], .agg #[.int .i64 kd, .int .i64 v, .string tx, .bool ct]] w (RFull s.data.toList kd v tx ct w) := by
  by_cases hk : kd = 3 ∨ kd = 1
  · cases hb : (emptyB tx && !ct)
    · exact rdo_bad s kd v tx ct hk hb w
    · have hbb := hb
      simp only [Bool.and_eq_true, Bool.not_eq_true', emptyB] at hb
      obtain ⟨h1, rfl⟩ := hb
      rw [toList_data'] at h1
      have htx : tx = ⟨#[]⟩ := by
        apply ByteArray.ext
        apply Array.toList_inj.1
        simpa using h1
      subst htx
      have conv : ∀ e w', RPost s.data.toList kd v w e w' → RFull s.data.toList kd v ⟨#[]⟩ false w e w' := by
        intro e w' h
        have e1 : rOk s.data.toList kd v ⟨#[]⟩ false = rdoOk s.data.toList kd v := by unfold rOk; rw [Bool.and_assoc, hbb, Bool.and_true]
        refine ⟨?_, h.2⟩
        rw [rL, e1]; exact h.1
      by_cases hd : 48 ≤ v ∧ v ≤ 57
      · rcases hk with rfl | rfl
        · exact (rdo_yes s hs 3 v hd.1 hd.2 (.inl rfl) w).mono conv
        · cases hq : s.toList.isEmpty
          · exact (rdo_yes s hs 1 v hd.1 hd.2 (.inr ⟨rfl, hq⟩) w).mono conv
          · exact (rdo_no s 1 v _ _ (.inr (.inl ⟨rfl, .inr hq⟩)) w).mono conv
      · rcases hk with rfl | rfl
        · by_cases h45 : v = 45
          · subst h45; exact (rdo_minus s hs w).mono conv
          · exact (rdo_no s 3 v _ _ (.inl ⟨rfl, by omega, h45⟩) w).mono conv
        · exact (rdo_no s 1 v _ _ (.inr (.inl ⟨rfl, .inl (by omega)⟩)) w).mono conv
  · refine (rdo_no s kd v tx ct (.inr (.inr ⟨fun h => hk (.inl h), fun h => hk (.inr h)⟩)) w).mono fun e w' h => ?_
    have e0 : rdoOk s.data.toList kd v = false := by
      have h3 : ¬ kd = 3 := fun h => hk (.inl h)
      have h1 : ¬ kd = 1 := fun h => hk (.inr h)
      unfold rdoOk; split <;> simp [h1, h3]
    have e1 : rOk s.data.toList kd v tx ct = false := by unfold rOk; rw [e0]; rfl
    refine ⟨?_, h.2⟩
    rw [rL, e1, if_neg (by simp)]
    have := h.1
    rw [rdoL, e0, if_neg (by simp)] at this
    exact this
/-- THE TWO AGREE: at a key that may be. -/
theorem agree (l : List UInt8) (kd v : Int) (tx : ByteArray) (ct : Bool) (hm : mayB kd v tx ct = true) :
    (CS.run l).doOk kd v true = rOk l kd v tx ct ∧ (CS.run l).doSt kd v true = CS.run (rL l kd v tx ct) := by
  have hk : kd = 3 ∨ kd = 1 → (emptyB tx && !ct) = true := by
    intro h
    rcases h with rfl | rfl
    · simp only [mayB] at hm
      simp at hm
      simp [hm]
    · simp only [mayB] at hm
      simp at hm
      simp [hm]
  by_cases hk3 : kd = 3 ∨ kd = 1
  · have hb := hk hk3
    have e1 : rOk l kd v tx ct = rdoOk l kd v := by unfold rOk; rw [Bool.and_assoc, hb, Bool.and_true]
    have e2 : rL l kd v tx ct = rdoL l kd v := by rw [rL, e1]; rfl
    rw [e1, e2]
    by_cases hd : 48 ≤ v ∧ v ≤ 57
    · have hv : ¬ v = 45 := by omega
      have hok : digOk kd v (CS.run l).bg = rdoOk l kd v := by
        unfold digOk rdoOk; rw [if_pos hd, run_bg]; simp [hd.1, hd.2]
      have hb1 : ((UInt8.ofNat v.toNat).toNat : Int) = v := by simp; omega
      refine ⟨by rw [CS.doOk, hok]; simp [hv], ?_⟩
      rw [CS.doSt, if_pos rfl, if_neg (fun h => hv h.2.1), CS.put, hok, rdoL]
      split
      · rw [run_snoc, step_digit _ (by intro e; rw [e] at hb1; simp at hb1; omega), hb1]
      · rfl
    · have hok : digOk kd v (CS.run l).bg = false := by
        unfold digOk
        cases h : (decide (48 ≤ v) && decide (v ≤ 57))
        · simp
        · simp at h; omega
      by_cases h45 : kd = 3 ∧ v = 45
      · obtain ⟨rfl, rfl⟩ := h45
        have hr : rdoOk l 3 45 = l.all (· == 45) := by unfold rdoOk; rw [if_neg hd]; simp
        have hdg := run_dg l
        refine ⟨by rw [CS.doOk, hok, hr, hdg]; simp, ?_⟩
        rw [CS.doSt, if_pos rfl, rdoL, hr]
        cases ha : l.all (· == 45)
        · rw [ha] at hdg
          rw [if_neg (by rw [hdg]; simp), if_neg (by simp), put_no hok]
        · rw [ha] at hdg
          rw [if_pos ⟨rfl, rfl, by rw [hdg]; rfl⟩, if_pos rfl, run_snoc, step_minus _ (by decide), hdg]
          rfl
      · have hr : rdoOk l kd v = false := by
          unfold rdoOk; rw [if_neg hd]
          cases h : (kd == 3 && v == 45)
          · rfl
          · simp at h; exact absurd h h45
        refine ⟨?_, ?_⟩
        · rw [CS.doOk, hok, hr]
          cases h : (kd == 3 && v == 45)
          · rfl
          · simp at h; exact absurd h h45
        · rw [CS.doSt, if_pos rfl, if_neg (fun h => h45 ⟨h.1, h.2.1⟩), put_no hok, rdoL, hr]; rfl
  · have h3 : ¬ kd = 3 := fun h => hk3 (.inl h)
    have h1 : ¬ kd = 1 := fun h => hk3 (.inr h)
    have e0 : rdoOk l kd v = false := by unfold rdoOk; split <;> simp [h1, h3]
    have e1 : rOk l kd v tx ct = false := by unfold rOk; rw [e0]; rfl
    have hok : digOk kd v (CS.run l).bg = false := by unfold digOk; simp [h1, h3]
    refine ⟨by rw [CS.doOk, hok, e1]; simp [h3], ?_⟩
    rw [CS.doSt, if_pos rfl, if_neg (fun h => h3 h.1), put_no hok, rL, e1]; rfl
theorem rL_ok (l : List UInt8) (kd v : Int) (tx : ByteArray) (ct : Bool) (h : ∀ b ∈ l, okByte b = true) : (∀ b ∈ rL l kd v tx ct, okByte b = true) ∧ (rL l kd v tx ct).length ≤ l.length + 1 := by
  unfold rL
  split
  · rename_i hok
    refine ⟨fun b hb => ?_, by simp⟩
    rw [List.mem_append, List.mem_singleton] at hb
    rcases hb with hb | rfl
    · exact h b hb
    · simp only [rOk, Bool.and_eq_true] at hok
      have := hok.1.1
      unfold rdoOk at this
      split at this
      · have e : (UInt8.ofNat v.toNat).toNat = v.toNat := by simp; omega
        simp only [okByte, e]
        simp; omega
      · simp at this
        obtain ⟨⟨_, rfl⟩, _⟩ := this
        decide
  · exact ⟨h, by omega⟩
end Go.Proofs.YtidkhkehngcjmaaDoor
