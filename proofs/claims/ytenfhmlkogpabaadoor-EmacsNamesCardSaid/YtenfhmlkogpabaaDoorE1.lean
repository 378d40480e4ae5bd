/- The tables of emacs, whole: their blocks, and what their cells are; the name of a command, and the command of a name. -/
import Derived.Test.YtenfhmlkogpabaaDoorKey
import Derived.Laws.Rows
import Derived.ChangeKeysEq
namespace Go.Proofs.YtenfhmlkogpabaaDoor
open Go.RowKit
/-- A variable's block, and how many cells it has. -/
theorem laid_block {P : Program} {W : World} {name : String} {g : Nat} {t e : TypeId} {n : Nat} {rows : List (DataW Unit)} {rest : List (String × DataW Unit)}
    (hg : P.globalNamed name = some g) (hty : (P.globals[g]?).map (·.type) = some t) (ht : P.underlying t = some (.array n e))
    (h : laidMet P ((name, .agg rows) :: rest) W) : ∃ cs t' fr, W.heap[g]? = some (.cells cs t' fr) ∧ cs.size = P.cellsOf t := by
  obtain ⟨ps, ⟨g', t', cs, fuel, p, q, hg', ht', hvar, hd, _, _⟩, _⟩ := h
  obtain rfl := Option.some.inj (hg.symm.trans hg')
  obtain rfl := Option.some.inj (hty.symm.trans ht')
  obtain ⟨xs, m, _, hx, hlen, hxn, hall⟩ := DataW.trod_array ht hd
  simp only [World.var?, hg, Option.bind_some] at hvar
  split at hvar
  · rename_i c t2 f2 hc
    cases hvar
    exact ⟨_, _, _, hc, by simpa using hlen⟩
  · cases hvar
theorem laid_tail {P : Program} {W : World} {x : String × DataW Unit} {rest : List (String × DataW Unit)} (h : laidMet P (x :: rest) W) : laidMet P rest W := by
  obtain ⟨ps, ⟨g', t', cs, fuel, p, q, hg', ht', hvar, hd, hrest, hps⟩, hnod, hcell⟩ := h
  subst hps
  exact ⟨q, hrest, (List.nodup_append.1 hnod).2.1, fun b off hm => hcell b off (by simp [hm])⟩
def names : List (List UInt8) := [[110, 111, 110, 101], [115, 101, 108, 102], [108, 101, 102, 116], [114, 105, 103, 104, 116], [119, 111, 114, 100, 45, 108, 101, 102, 116], [119, 111, 114, 100, 45, 114, 105, 103, 104, 116], [104, 111, 109, 101], [101, 110, 100], [100, 101, 108, 101, 116, 101], [98, 97, 99, 107], [107, 105, 108, 108, 45, 101, 110, 100], [107, 105, 108, 108, 45, 104, 111, 109, 101], [107, 105, 108, 108, 45, 119, 111, 114, 100], [107, 105, 108, 108, 45, 98, 97, 99, 107], [107, 105, 108, 108, 45, 97, 108, 108], [121, 97, 110, 107], [112, 111, 112], [115, 119, 97, 112], [115, 119, 97, 112, 45, 119, 111, 114, 100, 115], [117, 112, 112, 101, 114], [108, 111, 119, 101, 114], [99, 97, 112], [117, 110, 100, 111], [114, 101, 100, 111], [109, 97, 114, 107], [101, 120, 99, 104, 97, 110, 103, 101], [117, 112], [100, 111, 119, 110], [102, 105, 114, 115, 116], [108, 97, 115, 116], [112, 114, 101, 102, 105, 120], [115, 101, 101, 107], [99, 111, 109, 112, 108, 101, 116, 101], [101, 110, 116, 101, 114], [113, 117, 111, 116, 101], [99, 97, 110, 99, 101, 108], [101, 114, 97, 115, 101], [101, 111, 102], [112, 97, 115, 116, 101], [101, 115, 99], [99, 111, 112, 121], [107, 105, 108, 108, 45, 109, 97, 114, 107]]
def nm (i : Nat) : ByteArray := ⟨(names.getD i []).toArray⟩
def Names (cs : Array Value) : Prop := cs.size = 42 ∧ ∀ i, i < 42 → cs[i]? = some (.string (nm i))
/-- The table of names lies in memory. -/
def NameTab (w : World) : Prop := ∃ cs t fr, w.heap[0]? = some (.cells cs t fr) ∧ Names cs
theorem NameTab.below {w w' : World} (h : NameTab w) (hb : Below w.heap.size w w') : NameTab w' := by
  obtain ⟨cs, t, fr, hh, hn⟩ := h
  exact ⟨cs, t, fr, (hb.block 0 (Array.getElem?_eq_some_iff.1 hh).1).trans hh, hn⟩
theorem NameTab.cell {w : World} (h : NameTab w) {i : Nat} (hi : i < 42) : w.cell? ⟨0, i, none⟩ = some (.string (nm i)) := by
  obtain ⟨cs, t, fr, hh, hn⟩ := h
  rw [cell_of_row w 0 i cs t fr hh]; exact hn.2 i hi
theorem bytes_ne {a b : ByteArray} (h : a ≠ b) : (a.toList == b.toList) = false := by
  rw [beq_eq_false_iff_ne, ByteArray.toList_eq, ByteArray.toList_eq]
  intro h2
  exact h (ByteArray.ext (Array.toList_inj.1 h2))
theorem index_name {cs : Array Value} (h : Names cs) {i : Nat} (hi : i < 42) (w : World) : (Instr.index 34 (.agg cs) (.int .i64 i)).run Tryd.prog w = .ok (.string (nm i)) w := by
  have hk := h.2 i hi
  have hu : Tryd.prog.underlying 34 = some (.array 42 9) := Tryd.underlying34
  unfold Instr.index asIntOf
  simp [Sem.run_bind, run_underlying hu]
  rw [if_pos hi, run_part_plain w (e := 9) (by kernel_rfl) hk]
def NamePost (c : Int) (w : World) (e : Ending) (w' : World) : Prop :=
  e = .returned (.tuple #[.string (if 0 ≤ c ∧ c < 42 then nm c.toNat else ⟨#[]⟩), .int .i64 (if 0 ≤ c ∧ c < 42 then 0 else 3)]) ∧ w = w'
set_option maxHeartbeats 400000 in
theorem name_any (c : Int) (w : World) (ht : NameTab w) : Calls Tryd.prog 5 #[.int .i64 c] w (NamePost c w) := by
  by_cases hc : 0 ≤ c ∧ c < 42
  · obtain ⟨h0, h1⟩ := hc
    obtain ⟨n, rfl⟩ := Int.eq_ofNat_of_zero_le h0
    have hn : n < 42 := by omega
    have hk := ht.cell hn
    clear ht
    go_enter Tryd.func5, Tryd.ntmps5
    go_wp2_with fail
    go_ret2
    exact ⟨by rw [if_pos ⟨h0, h1⟩, if_pos ⟨h0, h1⟩]; rfl, rfl⟩
  · by_cases h0 : c < 0
    · go_enter Tryd.func5, Tryd.ntmps5
      go_wp2_with fail
      go_ret2
      exact ⟨by rw [if_neg hc, if_neg hc]; rfl, rfl⟩
    · have h1 : 42 ≤ c := by omega
      go_enter Tryd.func5, Tryd.ntmps5
      go_wp2_with fail
      go_ret2
      exact ⟨by rw [if_neg hc, if_neg hc]; rfl, rfl⟩
/-- The number of a name, if it is one. -/
def numOf (s : ByteArray) : Option Nat := (List.range 42).find? fun i => nm i == s
def ParsePost (s : ByteArray) (w : World) (e : Ending) (w' : World) : Prop :=
  (∃ i : Nat, i < 42 ∧ e = .returned (.tuple #[.int .i64 i, .int .i64 0]) ∧ (∀ j, j < i → nm j ≠ s) ∧ nm i = s ∧ w = w') ∨ (e = .returned (.tuple #[.int .i64 0, .int .i64 6]) ∧ (∀ j, j < 42 → nm j ≠ s) ∧ w = w')
set_option maxHeartbeats 400000 in
theorem parse_any (s : ByteArray) (w : World) (ht : NameTab w) : Calls Tryd.prog 6 #[.string s] w (ParsePost s w) := by
  obtain ⟨cs, t, fr, hh, hn⟩ := ht
  have HH := Lib.hid hh
  have HN := Lib.hid hn
  clear hh hn
  go_enter Tryd.func6, Tryd.ntmps6
  go_wp2_with (refine wpList_load_row rfl 34 _ rfl 0 rfl t cs fr _ HH.out Tryd.underlying34 rfl (by rw [HN.out.1]; kernel_rfl) ?_)
  go_loopw [7] (fun i wr => ∃ k : Nat, k ≤ 42 ∧ i = .int .i64 k ∧ (∀ j, j < k → nm j ≠ s) ∧ wr = w) (fun i _ => 42 - (intOf i).toNat)
  case atStart => exact ⟨0, by omega, rfl, fun j h => by omega, rfl⟩
  case round =>
    obtain ⟨k, hk, rfl, hall, rfl⟩ := hrel
    have HALL := Lib.hid hall
    clear hall
    by_cases hlt : k < 42
    · have hix := index_name HN.out hlt
      by_cases he : nm k = s
      · have HZ := Lib.hid he
        rw [he] at hix
        clear he
        go_wp2_with fail
        go_ret2
        exact .inl ⟨k, hlt, rfl, HALL.out, HZ.out, rfl⟩
      · have hse := bytes_ne he
        go_wp2_with fail
        go_roundw
        case rel => exact ⟨k + 1, by omega, by go_num, fun j hj => by rcases Nat.lt_succ_iff_lt_or_eq.1 hj with h | rfl; exact HALL.out j h; exact he, trivial⟩
        case measure => simp [intOf]; omega
    · go_wp2_with fail
      go_ret2
      exact .inr ⟨rfl, fun j hj => HALL.out j (by omega), rfl⟩
end Go.Proofs.YtenfhmlkogpabaaDoor
