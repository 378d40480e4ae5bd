/- The macro in memory; New, Keeps, Keys, Begin, End, Do. -/
import Derived.Test.YtgffmkbcppajoaaDoorM1
namespace Go.Proofs.YtgffmkbcppajoaaDoor
open Go.RowKit
/-- A macro: its object in block m; its keys in block bk; the row of those that are being kept in block rb, if it has one. All of it lies from B on. -/
def Mc (B m rb : Nat) (w : World) (most : Nat) (keys begun : List KV) (kp : Bool) : Prop :=
  most ≤ 9999 ∧ B ≤ m ∧ B ≤ rb ∧ rb < w.heap.size ∧ keys.length ≤ 9999 ∧ begun.length ≤ 9999 ∧ ∃ (ak : Option Addr) (ck bk : Nat) (ab : Option Addr) (cb : Nat),
    Blk w m #[.int .i64 most, .slice ak keys.length ck, .slice ab begun.length cb, .bool kp] 45 ∧ Kv w bk ak ck keys ∧ (0 < keys.length → bk ≠ m ∧ bk ≠ rb) ∧
    w.ownsRow B 32 4 (.slice ab begun.length cb) begun.length (kg begun) ∧ (∀ k, (Value.slice ab begun.length cb).ownBlock = some k → k = rb ∧ rb ≠ m)
section
variable {B m rb most : Nat} {w w' : World} {keys begun : List KV} {kp : Bool}
theorem Mc.lt (h : Mc B m rb w most keys begun kp) : m < w.heap.size := by obtain ⟨_, _, _, _, _, _, ak, ck, bk, ab, cb, h1, _⟩ := h; exact h1.lt
theorem Mc.below (h : Mc B m rb w most keys begun kp) (hb : Below w.heap.size w w') : Mc B m rb w' most keys begun kp := by
  obtain ⟨a1, a2, a3, a4, a5, a6, ak, ck, bk, ab, cb, h1, h2, h3, h4, h5⟩ := h
  exact ⟨a1, a2, a3, Nat.lt_of_lt_of_le a4 hb.size, a5, a6, ak, ck, bk, ab, cb, h1.below hb h1.lt, h2.below hb, h3, own_below h4 hb, h5⟩
end
set_option maxHeartbeats 400000 in
theorem new_any (most : Int) (w : World) (h1 : 1 ≤ most) (h2 : most ≤ 9999) : Calls Tryd.prog 5 #[.int .i64 most] w fun e w' => e = .returned (.tuple #[.pointer (some ⟨w.heap.size, 0, none⟩), .int .i64 0]) ∧ w.alloc (.cells #[.int .i64 most, .slice none 0 0, .slice none 0 0, .bool false] 45) = w' := by
  go_enter Tryd.func5, Tryd.ntmps5
  go_wp2
  go_ret2
  exact ⟨rfl, rfl⟩
set_option maxHeartbeats 400000 in
theorem new_bad (most : Int) (w : World) (h : most < 1 ∨ 9999 < most) : Calls Tryd.prog 5 #[.int .i64 most] w fun e w' => e = .returned (.tuple #[.pointer none, .int .i64 3]) ∧ w = w' := by
  rcases h with h | h
  · go_enter Tryd.func5, Tryd.ntmps5
    go_wp2
    go_ret2
    exact ⟨rfl, rfl⟩
  · have h1 : ¬ most < 1 := by omega
    go_enter Tryd.func5, Tryd.ntmps5
    go_wp2
    go_ret2
    exact ⟨rfl, rfl⟩
theorem mc_new {B : Nat} (most : Nat) (h : most ≤ 9999) (w : World) (hB : B ≤ w.heap.size) : Mc B w.heap.size w.heap.size (w.alloc (.cells #[.int .i64 most, .slice none 0 0, .slice none 0 0, .bool false] 45)) most [] [] false :=
  ⟨h, hB, hB, by simp, by simp, by simp, none, 0, 0, none, 0, Blk.new w _ _, ⟨Nat.le_refl _, Nat.zero_le _, fun _ => rfl, fun h => by simp at h⟩, fun h => by simp at h, World.ownsRow_nil _ _ _ _, fun k hk => by simp [Value.ownBlock] at hk⟩
set_option maxHeartbeats 400000 in
theorem keeps_any {B m rb most : Nat} {w : World} {keys begun : List KV} {kp : Bool} (h : Mc B m rb w most keys begun kp) : Calls Tryd.prog 14 #[.pointer (some ⟨m, 0, none⟩)] w fun e w' => e = .returned (.bool kp) ∧ w = w' := by
  obtain ⟨_, _, _, _, _, _, ak, ck, bk, ab, cb, h1, _⟩ := h
  have c3 := h1.cell 3
  simp at c3
  clear h1
  go_enter Tryd.func14, Tryd.ntmps14
  go_wp2
  go_ret
  exact ⟨rfl, rfl⟩
set_option maxHeartbeats 400000 in
theorem keys_any {B m rb most : Nat} {w : World} {keys begun : List KV} {kp : Bool} (h : Mc B m rb w most keys begun kp) : Calls Tryd.prog 15 #[.pointer (some ⟨m, 0, none⟩)] w (ClonePost keys w) := by
  obtain ⟨_, _, _, _, a5, _, ak, ck, bk, ab, cb, h1, h2, _⟩ := h
  have c1 := h1.cell 1
  simp at c1
  have H2 := Lib.hid h2
  clear h1 h2
  go_enter Tryd.func15, Tryd.ntmps15
  go_wp2_with fail
  refine (clone_any bk ck ak keys _ H2.out (by omega)).mono ?_
  rintro e w1 ⟨ao, cap, b, rfl, h1, h2, h3⟩
  have H3 := Lib.hid h2
  have H4 := Lib.hid h3
  have H5 := Lib.hid h1
  clear h1 h2 h3
  go_wp2_with fail
  go_ret
  exact ⟨ao, cap, b, rfl, H5.out, H3.out, H4.out⟩
theorem ownBlock_slice (ab : Option Addr) (n c : Nat) : (Value.slice ab n c).ownBlock = ab.map (·.block) := by cases ab <;> rfl
set_option maxHeartbeats 400000 in
theorem begin_no {B m rb most : Nat} {w : World} {keys begun : List KV} (h : Mc B m rb w most keys begun true) : Calls Tryd.prog 6 #[.pointer (some ⟨m, 0, none⟩)] w fun e w' => e = .returned (.bool false) ∧ w = w' := by
  obtain ⟨_, _, _, _, _, _, ak, ck, bk, ab, cb, h1, _⟩ := h
  have c3 := h1.cell 3
  simp at c3
  clear h1
  go_enter Tryd.func6, Tryd.ntmps6
  go_wp2
  go_ret
  exact ⟨rfl, rfl⟩
set_option maxHeartbeats 400000 in
theorem begin_yes {B m rb most : Nat} {w : World} {keys begun : List KV} (h : Mc B m rb w most keys begun false) : Calls Tryd.prog 6 #[.pointer (some ⟨m, 0, none⟩)] w fun e w' => e = .returned (.bool true) ∧ Mc B m rb w' most keys [] true ∧ Keep (· = m) w w' := by
  obtain ⟨a1, a2, a3, a4, a5, a6, ak, ck, bk, ab, cb, h1, h2, h3, h4, h5⟩ := h
  have H1 := Lib.hid h1
  have H2 := Lib.hid h2
  have H3 := Lib.hid h3
  have c2 := h1.cell 2
  have c3 := h1.cell 3
  have cf := h1.free
  simp at c2 c3
  clear h1 h2 h3 h4 h5
  go_enter Tryd.func6, Tryd.ntmps6
  go_wp2_with fail
  go_ret
  have e1 : Keep (· = m) w ((w.setCell ⟨m, 3, none⟩ (.bool true)).setCell ⟨m, 2, none⟩ (.slice none 0 0)) := Keep.setCell (S := (· = m)) (Keep.setCell (S := (· = m)) (Keep.refl _ _) _ (.inl rfl)) _ (.inl rfl)
  refine ⟨rfl, ⟨a1, a2, a3, by simpa using a4, a5, by simp, ak, ck, bk, none, 0, ?_, H2.out.keep e1 (fun h => (H3.out h).1), H3.out, World.ownsRow_nil _ _ _ _, fun k hk => by simp [Value.ownBlock] at hk⟩, e1⟩
  have := (H1.out.set 3 (.bool true)).set 2 (.slice none 0 0)
  exact this
set_option maxHeartbeats 400000 in
theorem end_no {B m rb most : Nat} {w : World} {keys begun : List KV} (h : Mc B m rb w most keys begun false) : Calls Tryd.prog 10 #[.pointer (some ⟨m, 0, none⟩)] w fun e w' => e = .returned (.bool false) ∧ w = w' := by
  obtain ⟨_, _, _, _, _, _, ak, ck, bk, ab, cb, h1, _⟩ := h
  have c3 := h1.cell 3
  simp at c3
  clear h1
  go_enter Tryd.func10, Tryd.ntmps10
  go_wp2
  go_ret
  exact ⟨rfl, rfl⟩
set_option maxHeartbeats 1000000 in
theorem end_none {B m rb most : Nat} {w : World} {keys : List KV} (h : Mc B m rb w most keys [] true) : Calls Tryd.prog 10 #[.pointer (some ⟨m, 0, none⟩)] w fun e w' => e = .returned (.bool true) ∧ Mc B m rb w' most keys [] false ∧ Keep (· = m) w w' := by
  obtain ⟨a1, a2, a3, a4, a5, a6, ak, ck, bk, ab, cb, h1, h2, h3, h4, h5⟩ := h
  have H1 := Lib.hid h1
  have H2 := Lib.hid h2
  have H3 := Lib.hid h3
  have c2 := h1.cell 2
  have c3 := h1.cell 3
  have cf := h1.free
  simp at c2 c3
  clear h1 h2 h3 h4 h5
  go_enter Tryd.func10, Tryd.ntmps10
  go_wp2_with fail
  go_ret
  have e1 : Keep (· = m) w ((w.setCell ⟨m, 3, none⟩ (.bool false)).setCell ⟨m, 2, none⟩ (.slice none 0 0)) := Keep.setCell (S := (· = m)) (Keep.setCell (S := (· = m)) (Keep.refl _ _) _ (.inl rfl)) _ (.inl rfl)
  refine ⟨rfl, ⟨a1, a2, a3, by simpa using a4, a5, by simp, ak, ck, bk, none, 0, ?_, H2.out.keep e1 (fun h => (H3.out h).1), H3.out, World.ownsRow_nil _ _ _ _, fun k hk => by simp [Value.ownBlock] at hk⟩, e1⟩
  have := (H1.out.set 3 (.bool false)).set 2 (.slice none 0 0)
  exact this
set_option maxHeartbeats 1000000 in
theorem end_some {B m rb most : Nat} {w : World} {keys begun : List KV} (h0 : 0 < begun.length) (h : Mc B m rb w most keys begun true) : Calls Tryd.prog 10 #[.pointer (some ⟨m, 0, none⟩)] w fun e w' => e = .returned (.bool true) ∧ Mc B m m w' most begun [] false ∧ Keep (· = m) w w' := by
  obtain ⟨a1, a2, a3, a4, a5, a6, ak, ck, bk, ab, cb, h1, h2, h3, h4, h5⟩ := h
  have H1 := Lib.hid h1
  have H4 := Lib.hid h4
  have H5 := Lib.hid h5
  have c1 := h1.cell 1
  have c2 := h1.cell 2
  have c3 := h1.cell 3
  have cf := h1.free
  have hlt := h1.lt
  simp at c1 c2 c3
  clear h1 h2 h3 h4 h5
  go_enter Tryd.func10, Tryd.ntmps10
  go_wp2_with fail
  go_ret
  have e1 : Keep (· = m) w (((w.setCell ⟨m, 1, none⟩ (.slice ab begun.length cb)).setCell ⟨m, 3, none⟩ (.bool false)).setCell ⟨m, 2, none⟩ (.slice none 0 0)) := Keep.setCell (S := (· = m)) (Keep.setCell (S := (· = m)) (Keep.setCell (S := (· = m)) (Keep.refl _ _) _ (.inl rfl)) _ (.inl rfl)) _ (.inl rfl)
  obtain ⟨ao, cap, b, hv, hb, hk⟩ := own_kv H4.out rfl
  simp only [Value.slice.injEq] at hv
  obtain ⟨rfl, -, rfl⟩ := hv
  obtain ⟨rfl, hbm⟩ : b = rb ∧ rb ≠ m := by
    obtain ⟨_, off, ha, _⟩ := hk.2.2.2 h0
    exact H5.out b (by rw [ownBlock_slice, ha]; rfl)
  refine ⟨rfl, ⟨a1, a2, a2, by simpa using hlt, a6, by simp, ab, cb, b, none, 0, ?_, hk.keep e1 (fun _ => hbm), fun _ => ⟨hbm, hbm⟩, World.ownsRow_nil _ _ _ _, fun k hk => by simp [Value.ownBlock] at hk⟩, e1⟩
  have := ((H1.out.set 1 (.slice ab begun.length cb)).set 3 (.bool false)).set 2 (.slice none 0 0)
  exact this
end Go.Proofs.YtgffmkbcppajoaaDoor
