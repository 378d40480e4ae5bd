/- The program's Nearest. -/
import Derived.Test.YtoblaooomphdoaaD8
namespace Go.Proofs.Ytoblaooomphdoaa
open Go.RowKit
/-- Lists of signs in a slice. -/
def Lists (w : World) (ao : Option Addr) (len : Nat) (L : Nat → List (Int × Int)) : Prop :=
  0 < len → ∃ c off, ao = some ⟨c, off, none⟩ ∧ c < w.heap.size ∧ ∀ i, i < len → ∃ a cap b, w.cell? ⟨c, off + i, none⟩ = some (.slice a (L i).length cap) ∧ Sv w b a cap (L i) ∧ (L i).length ≤ 35184372088830
theorem Lists.below {w w' : World} {ao : Option Addr} {len : Nat} {L : Nat → List (Int × Int)} (h : Lists w ao len L) (hb : Below w.heap.size w w') : Lists w' ao len L := by
  intro h0
  obtain ⟨c, off, h1, h2, h3⟩ := h h0
  refine ⟨c, off, h1, Nat.lt_of_lt_of_le h2 hb.size, fun i hi => ?_⟩
  obtain ⟨a, cap, b, h4, h5, h6⟩ := h3 i hi
  exact ⟨a, cap, b, (cellsBelow hb _ _ h2).trans h4, h5.below hb, h6⟩
/-- The place of the nearest of so many, and its distance. -/
def NearI (d : Nat → Nat) (i : Nat) (p b : Int) : Prop := (i = 0 ∧ p = -1 ∧ b = 0) ∨ (∃ q, q < i ∧ p = (q : Int) ∧ b = (d q : Int) ∧ (∀ j, j < i → d q ≤ d j) ∧ ∀ j, j < q → d q < d j)
def NearR (d : Nat → Nat) (n : Nat) (p : Int) : Prop := (n = 0 ∧ p = -1) ∨ (∃ q, q < n ∧ p = (q : Int) ∧ (∀ j, j < n → d q ≤ d j) ∧ ∀ j, j < q → d q < d j)
theorem NearI.new {d : Nat → Nat} {i : Nat} {p b : Int} (h : NearI d i p b) (hn : p < 0 ∨ (d i : Int) < b) : NearI d (i + 1) (i : Int) (d i : Int) := by
  right
  refine ⟨i, by omega, rfl, rfl, fun j hj => ?_, fun j hj => ?_⟩
  · rcases h with ⟨rfl, _, _⟩ | ⟨q, h1, rfl, rfl, h2, h3⟩
    · obtain rfl : j = 0 := by omega
      exact Nat.le_refl _
    · by_cases e : j = i
      · subst e; exact Nat.le_refl _
      · have := h2 j (by omega); omega
  · rcases h with ⟨rfl, _, _⟩ | ⟨q, h1, rfl, rfl, h2, h3⟩
    · omega
    · have := h2 j (by omega); omega
theorem NearI.old {d : Nat → Nat} {i : Nat} {p b : Int} (h : NearI d i p b) (hp : ¬ p < 0) (hn : ¬ (d i : Int) < b) : NearI d (i + 1) p b := by
  right
  rcases h with ⟨rfl, h1, _⟩ | ⟨q, h1, rfl, rfl, h2, h3⟩
  · omega
  · refine ⟨q, by omega, rfl, rfl, fun j hj => ?_, h3⟩
    by_cases e : j = i
    · subst e; omega
    · exact h2 j (by omega)
theorem NearI.done {d : Nat → Nat} {i : Nat} {p b : Int} (h : NearI d i p b) : NearR d i p := by
  rcases h with ⟨h1, h2, _⟩ | ⟨q, h1, h2, _, h3, h4⟩
  · exact .inl ⟨h1, h2⟩
  · exact .inr ⟨q, h1, h2, h3, h4⟩
def NearPost (d : Nat → Nat) (n : Nat) (w : World) (e : Ending) (w' : World) : Prop := ∃ p : Int, e = .returned (.int .i64 p) ∧ NearR d n p ∧ Below w.heap.size w w'
set_option maxHeartbeats 4000000 in
theorem nearest_any (b1 : Nat) (a1 ao : Option Addr) (c1 cap len : Nat) (x : List (Int × Int)) (L : Nat → List (Int × Int)) (w : World) (h1 : Sv w b1 a1 c1 x) (hx : x.length ≤ 35184372088830) (h2 : Lists w ao len L) (hlen : len ≤ 9223372036854775807) :
   Calls Try.prog 14 #[.slice a1 x.length c1, .slice ao len cap] w (NearPost (fun i => lev (vs x) (vs (L i))) len w) := by
  have H1 := Lib.hid h1
  have H2 := Lib.hid h2
  clear h1 h2
  unfold NearPost
  go_enter Try.func14, Try.ntmps14
  go_wp2_with fail
  go_loopw [5, 6, 12] (fun s5 s6 p wr => ∃ (i : Nat) (pl be : Int), i ≤ len ∧ p = .int .i64 i ∧ s5 = .int .i64 pl ∧ s6 = .int .i64 be ∧ Hid (NearI (fun i => lev (vs x) (vs (L i))) i pl be) ∧ Hid (Below w.heap.size w wr)) (fun _ _ p _ => len - (intOf p).toNat)
  case atStart => exact ⟨0, -1, 0, Nat.zero_le _, rfl, rfl, rfl, .inl ⟨rfl, rfl, rfl⟩, Below.refl _ _⟩
  case round =>
    obtain ⟨i, pl, be, hi, rfl, rfl, rfl, hn, hb⟩ := hrel
    by_cases hlt : i < len
    · obtain ⟨c, off, rfl, hcw, hc⟩ := (H2.out.below hb.out) (by omega)
      obtain ⟨a, cp, bl, g0, hs, hl⟩ := hc i hlt
      have HS := Lib.hid hs
      have hlt' : (i : Int) < (len : Int) := by omega
      have hsz := hb.out.size
      clear hc hs
      go_wp2_with fail
      refine (dist_any b1 bl a1 a c1 cp x (L i) _ (H1.out.below hb.out) HS.out hx hl).mono ?_
      rintro e w2 ⟨rfl, hb2⟩
      have HB2 : Hid (Below w.heap.size w w2) := hb.out.trans (hb2.mono hsz)
      have HNEW := Lib.hid (fun h => hn.out.new h)
      have HOLD := Lib.hid (fun h h' => hn.out.old h h')
      clear hb2 hn hb
      obtain ⟨dv, hdv⟩ : ∃ dv, lev (vs x) (vs (L i)) = dv := ⟨_, rfl⟩
      rw [hdv]
      have HDV := Lib.hid hdv
      clear hdv
      by_cases hp : pl < 0
      · go_wp2_with fail
        go_roundw
        case rel => exact ⟨i + 1, i, dv, by omega, by go_num, rfl, rfl, (by show NearI _ _ _ _; have := HNEW.out (.inl hp); rwa [HDV.out] at this), HB2⟩
        case measure => simp [intOf]; omega
      · by_cases hd : (dv : Int) < be
        · go_wp2_with fail
          go_roundw
          case rel => exact ⟨i + 1, i, dv, by omega, by go_num, rfl, rfl, (by show NearI _ _ _ _; have := HNEW.out (.inr (by rw [HDV.out]; exact hd)); rwa [HDV.out] at this), HB2⟩
          case measure => simp [intOf]; omega
        · go_wp2_with fail
          go_roundw
          case rel => exact ⟨i + 1, pl, be, by omega, by go_num, rfl, rfl, HOLD.out (by omega) (by rw [HDV.out]; omega), HB2⟩
          case measure => simp [intOf]; omega
    · have he : i = len := by omega
      subst he
      go_wp2_with fail
      go_ret
      exact ⟨pl, rfl, hn.out.done, hb.out⟩
end Go.Proofs.Ytoblaooomphdoaa
