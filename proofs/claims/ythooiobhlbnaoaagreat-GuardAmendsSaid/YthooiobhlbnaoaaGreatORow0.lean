/- Rows that a call owns: append of any number, also none. No conditions beyond those stated. -/
import Derived.Test.YthooiobhlbnaoaaGreatORow
import Derived.Deep.AppendSrc
namespace Go.Proofs.YthooiobhlbnaoaaGreat
open Go.RowKit
set_option linter.unusedVariables false

theorem grownBy_refl (w : World) (row : Option Nat) : w.grownBy w row := ⟨rfl, rfl, rfl, Nat.le_refl _, fun _ _ _ => rfl⟩
theorem wp_append_none {c T : TypeId} {w : World} {o : Oper} {a : Act} {K : Act → World → Prop} {Q : Exit → Act → World → Prop} (s x : Operand) (t : TypeId)
    (ho : o.op = .call { callee := .builtin .append, args := #[s, x], argTypes := #[t, t] }) (ht : Tryz.prog.underlying t = some (.slice T)) (hi : (Tryz.prog.info? T).isSome = true)
    {so : Option Addr} {n cap : Nat} (hs : a.eval s = .slice so n cap) (hn : n ≤ cap) {ao : Option Addr} {m : Nat} (hx : a.eval x = .slice ao 0 m)
    (h : K (a.put o.dst (.slice so n cap)) w) : o.wp Tryz.prog a w K Q := by
  obtain ⟨i, hi⟩ := Option.isSome_iff_exists.1 hi
  have hsrc : Src Tryz.prog i.size t (.slice ao 0 m) 0 [] w := by
    cases ao with
    | none => exact Src.ofNil w ht m
    | some ad => exact Src.ofSlice w ht ad 0 m [] (by simp) (fun j u hj => by simp at hj) (fun u hu => by simp at hu)
  have hr := run_append_nothing (P := Tryz.prog) w t t o.type T i ht hi so n cap hn _ hsrc
  unfold Oper.wp
  simp [execOp, ho, resolve, invoke, builtin, hs, hx, hr, Result.andThen]
  exact h
section
variable {c T base : Nat} {w : World} {v : Value} {rs : List (List Value)}
theorem wp_append_any {o : Oper} {a : Act} {K : Act → World → Prop} {Q : Exit → Act → World → Prop} (s x : Operand) (t : TypeId)
    (ho : o.op = .call { callee := .builtin .append, args := #[s, x], argTypes := #[t, t] }) (ht : Tryz.prog.underlying t = some (.slice T)) {zero : Value} {bytes : Nat}
    (hi : (Tryz.prog.info? T).map (fun i => (i.zero, i.size, i.bytes)) = some (some zero, c, bytes)) (hzs : zero.cells.size = c) (hc : 0 < c)
    (hs : a.eval s = v) (hown : OwnR c T base w v rs) {ao : Option Addr} {m cap : Nat} {ms : List (List Value)} (hx : a.eval x = .slice ao m cap) (hms : ms.length = m) (hok : RowsOk c ms)
    (hcell : 0 < m → ∃ b off, ao = some ⟨b, off, none⟩ ∧ ∀ (i : Nat) (r : List Value) (j : Nat) (u : Value), ms[i]? = some r → r[j]? = some u → w.cell? ⟨b, off + (i * c + j), none⟩ = some u) (h63 : rs.length + m ≤ maxLen) (hby : (rs.length + m) * bytes ≤ 140737488355328) (hbase : base ≤ w.heap.size)
    (h : ∀ v' w', OwnR c T base w' v' (rs ++ ms) → w.grownBy w' v.ownBlock → (∀ g, v'.ownBlock = some g → v.ownBlock = some g ∨ g = w.heap.size) → K (a.put o.dst v') w') : o.wp Tryz.prog a w K Q := by
  by_cases hm : 0 < m
  · obtain ⟨b, off, rfl, hcl⟩ := hcell hm
    refine wp_append_rows s x t ho ht hi hzs hc hs hown hx hms hok hcl hm h63 hby hbase fun g cap' w' h1 h2 h3 => ?_
    refine h _ w' (h1) h2 fun r hr => ?_
    simp only [Value.ownBlock, Option.some.injEq] at hr
    subst hr; exact h3
  · obtain rfl : m = 0 := by omega
    have hms0 : ms = [] := List.eq_nil_of_length_eq_zero hms
    obtain ⟨so, n, rfl, hn, _⟩ := hown.form
    refine wp_append_none (c := c) (T := T) s x t ho ht (by obtain ⟨i, hi, _⟩ := Option.map_eq_some_iff.1 hi; rw [hi]; rfl) hs hn hx (h _ w (by rw [hms0, List.append_nil]; exact hown) (grownBy_refl _ _) fun g hg => .inl hg)
end
end Go.Proofs.YthooiobhlbnaoaaGreat
