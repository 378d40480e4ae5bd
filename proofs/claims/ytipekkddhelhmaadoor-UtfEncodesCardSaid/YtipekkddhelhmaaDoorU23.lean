/- Appending one row of ints to another; a row behind a call that writes nothing old. -/
import Derived.Test.YtipekkddhelhmaaDoorU18
import Derived.Laws.OwnMore
import Derived.OwnWalk
namespace Go.Proofs.YtipekkddhelhmaaDoor
open Go.RowKit
theorem own_below {w w' : World} {base size n : Nat} {e : TypeId} {v : Value} {xs : List Value} (h : w.ownsRow base e size v n xs) (hb : Below w.heap.size w w') : w'.ownsRow base e size v n xs := by
  refine ⟨h.1, ?_⟩
  rcases h.2 with hn | ⟨g, cap, cur, rfl, hgb, hg, rest⟩
  · exact .inl hn
  · exact .inr ⟨g, cap, cur, rfl, hgb, (hb.block g (Array.getElem?_eq_some_iff.1 hg).1).trans hg, rest⟩
theorem run_app2 {w : World} {base base' n m : Nat} {ty : TypeId} {v u : Value} {xs ys : List Nat} (hv : w.ownsRow base 3 1 v n (ints xs)) (hu : w.ownsRow base' 3 1 u m (ints ys)) (hnm : n + m ≤ 1000000) (hb : base ≤ w.heap.size) :
    ∃ v' w', (Builtin.append_ #[23, 23] ty #[v, u]).run Tryd.prog w = .ok v' w' ∧ w'.ownsRow base 3 1 v' (n + m) (ints (xs ++ ys)) ∧ w.grownBy w' v.ownBlock := by
  obtain ⟨i0, hi, hz0, hz1, hz2⟩ := info_parts info3
  have hm : m = ys.length := by have := hu.1; rw [ints_len] at this; omega
  rcases hu.2 with ⟨rfl, h0⟩ | ⟨g, cap, cur, rfl, hgb, hg, h1, h2, h3, h4⟩
  · have hy : ys = [] := List.length_eq_zero_iff.1 (by omega)
    subst hy h0
    refine ⟨v, w, run_append_owned_none w base 23 ty 3 i0 1 Tryd.underlying23 hi v n _ hv, by simpa using hv, ⟨rfl, rfl, rfl, Nat.le_refl _, fun _ _ _ => rfl⟩⟩
  · obtain ⟨v', w', e1, e2, e3, _⟩ := run_append_own (P := Tryd.prog) w base 23 ty 3 i0 (.int .i64 0) 1 8 Tryd.underlying23 hi hz0 hz1 hz2 rfl (by decide) v n _ hv ⟨g, 0, none⟩ m cap (ints ys) (by rw [ints_len]; omega)
      (fun j x hj => hu.cells rfl j x hj) (by intro x hx; simp only [ints, List.mem_map] at hx; obtain ⟨q, _, rfl⟩ := hx; rfl) (by unfold maxLen; omega) (by omega) hb
    refine ⟨v', w', e1, ?_, e3⟩
    simpa [ints] using e2
theorem wpList_wanted {P : Program} {ops : Array Oper} {rest : List Oper} {o : Oper} {a : Act} {w : World} {Q : Exit → Act → World → Prop} (hw : Region.wanted o (yielded ops a.tmps) = true)
    (h : ∀ K : Act → World → Prop, (∀ a w, wpList P ops Q rest a w → K a w) → o.wp P a w K Q) : wpList P ops Q (o :: rest) a w :=
  wpList_step fun K hK => by rw [if_pos hw]; exact h K hK
theorem wpList_app2 {ops : Array Oper} {rest : List Oper} {o : Oper} {a : Act} {w : World} {Q : Exit → Act → World → Prop} (hw : Region.wanted o (yielded ops a.tmps) = true) (s x : Operand)
    (ho : o.op = .call { callee := .builtin .append, args := #[s, x], argTypes := #[23, 23] }) {base base' n m : Nat} {v u : Value} {xs ys : List Nat} (hs : a.eval s = v) (hx : a.eval x = u)
    (hv : w.ownsRow base 3 1 v n (ints xs)) (hu : w.ownsRow base' 3 1 u m (ints ys)) (hnm : n + m ≤ 1000000) (hb : base ≤ w.heap.size)
    (h : ∀ v' w', w'.ownsRow base 3 1 v' (n + m) (ints (xs ++ ys)) → w.grownBy w' v.ownBlock → wpList Tryd.prog ops Q rest (a.put o.dst v') w') : wpList Tryd.prog ops Q (o :: rest) a w := by
  refine wpList_wanted hw fun K hK => ?_
  obtain ⟨v', w', hr, h2, h3⟩ := run_app2 (ty := o.type) hv hu hnm hb
  unfold Oper.wp execOp
  simp only [ho, resolve, invoke, builtin, Sem.run_bind, Sem.run_pure, Result.andThen_ok, List.map_toArray, List.map_cons, List.map_nil, hs, hx, hr]
  exact hK _ _ (h v' w' h2 h3)
end Go.Proofs.YtipekkddhelhmaaDoor
