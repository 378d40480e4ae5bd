/- Contracts of the reference Size and May of layer 2, and what the bytes of a text begin. -/
import Derived.Test.YtipekkddhelhmaaDoorU3
import Derived.Deep.QuietTactic
import Derived.BigQuiet
import Derived.Deep.RegionWith
namespace Go.Proofs.YtipekkddhelhmaaDoor
open Go.RowKit
def sizeN (b : Nat) : Nat := if b < 128 then 1 else if 194 ≤ b ∧ b ≤ 223 then 2 else if 224 ≤ b ∧ b ≤ 239 then 3 else if 240 ≤ b ∧ b ≤ 244 then 4 else 0
def mayN (b c i : Nat) : Bool := decide (128 ≤ c ∧ c ≤ 191 ∧ (1 < i ∨ ¬ ((b = 224 ∧ c < 160) ∨ (b = 237 ∧ 159 < c) ∨ (b = 240 ∧ c < 144) ∨ (b = 244 ∧ 143 < c))))
def SizePost (b : Nat) (w : World) (e : Ending) (w' : World) : Prop := e = .returned (.int .i64 (sizeN b)) ∧ w = w'
set_option maxRecDepth 10000 in
theorem size_any (b : Nat) (w : World) : Calls Tryd.prog 26 #[.int .u8 b] w (SizePost b w) := by
  by_cases h1 : b < 128
  · have e := Lib.hid (show sizeN b = 1 by simp [sizeN, h1])
    go_enter Tryd.func26, Tryd.ntmps26
    go_wp2
    go_ret
    exact ⟨by rw [e.out]; rfl, rfl⟩
  by_cases h2 : 194 ≤ b ∧ b ≤ 223
  · have e := Lib.hid (show sizeN b = 2 by simp [sizeN, h1, h2])
    obtain ⟨h2, h3⟩ := h2
    go_enter Tryd.func26, Tryd.ntmps26
    go_wp2
    go_ret
    exact ⟨by rw [e.out]; rfl, rfl⟩
  by_cases h3 : 224 ≤ b ∧ b ≤ 239
  · have e := Lib.hid (show sizeN b = 3 by simp [sizeN, h1, h2, h3])
    obtain ⟨h4, h5⟩ := h3
    go_enter Tryd.func26, Tryd.ntmps26
    go_wp2
    go_ret
    exact ⟨by rw [e.out]; rfl, rfl⟩
  by_cases h4 : 240 ≤ b ∧ b ≤ 244
  · have e := Lib.hid (show sizeN b = 4 by simp [sizeN, h1, h2, h3, h4])
    obtain ⟨h4, h5⟩ := h4
    go_enter Tryd.func26, Tryd.ntmps26
    go_wp2
    go_ret
    exact ⟨by rw [e.out]; rfl, rfl⟩
  · have e := Lib.hid (show sizeN b = 0 by simp [sizeN, h1, h2, h3, h4])
    go_enter Tryd.func26, Tryd.ntmps26
    go_wp2
    all_goals
      first
      | (exfalso; omega)
      | (go_ret; exact ⟨by rw [e.out]; rfl, rfl⟩)
set_option maxHeartbeats 1000000 in
theorem mayN_any (b c i : Nat) (w : World) : Calls Tryd.prog 29 #[.int .u8 b, .int .u8 c, .int .i64 i] w fun e w' => e = .returned (.bool (mayN b c i)) ∧ w = w' := by
  go_enter Tryd.func29, Tryd.ntmps29
  go_wp2
  all_goals
    (try simp only [Exit.inBlock, Exit.then])
    refine bodyPost_ret (results_tmp rfl _ _ _) rfl ⟨?_, rfl⟩
    refine congrArg (fun b => Ending.returned (.bool b)) ?_
    go_tidy
    unfold mayN
    rw [Bool.eq_iff_iff]
    first | (simp_all; done) | (simp_all; omega)
def okAt (l : List UInt8) (i : Nat) : Prop := i < sizeN (at_ l 0) ∧ i < l.length ∧ mayN (at_ l 0) (at_ l i) i = true
def BegPost (l : List UInt8) (w : World) (e : Ending) (w' : World) : Prop := ∃ k : Nat, e = .returned (.int .i64 k) ∧ 1 ≤ k ∧ k ≤ 4 ∧ (∀ i, 1 ≤ i → i < k → okAt l i) ∧ ¬ okAt l k ∧ Below w.heap.size w w'
theorem at_get (s : ByteArray) (i : Nat) (h : i < s.size) : (s[i]'h).toNat = at_ s.data.toList i := by
  unfold at_
  rw [List.getD_eq_getElem?_getD, Array.getElem?_toList, Array.getElem?_eq_getElem (show i < s.data.size from h)]
  rfl
theorem size_le (b : Nat) : sizeN b ≤ 4 := by unfold sizeN; repeat' split
                                              all_goals omega
end Go.Proofs.YtipekkddhelhmaaDoor
