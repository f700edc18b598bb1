/- Rows of numbers of the call's own. No conditions. -/
import Derived.Test.YtkdlimigepkepaaGreatTxr
import Derived.Deep.AppendLies
namespace Go.Proofs.YtkdlimigepkepaaGreat
open Go.RowKit
set_option linter.unusedVariables false

theorem Tryz.infoInt : (Tryz.prog.info? 3).map (fun i => (i.zero, i.size, i.bytes)) = some (some (.int .i64 0), 1, 8) := by kernel_rfl

def OwnI (base : Nat) (w : World) (v : Value) (zs : List Int) : Prop := w.ownsRow base 3 1 v zs.length (zs.map (Value.int .i64))

theorem OwnI.form {base : Nat} {w : World} {v : Value} {zs : List Int} (h : OwnI base w v zs) : ∃ a c, v = .slice a zs.length c ∧ zs.length ≤ c ∧ c ≤ maxLen := by
  rcases h.2 with ⟨rfl, h0⟩ | ⟨g, cap, cur, rfl, _, _, h1, h2, _⟩
  · exact ⟨none, 0, by rw [h0], by omega, by simp [maxLen]⟩
  · exact ⟨_, cap, rfl, h1, h2⟩
theorem OwnB.form {base : Nat} {w : World} {v : Value} {l : List UInt8} (h : OwnB base w v l) : ∃ a c, v = .slice a l.length c ∧ l.length ≤ c ∧ c ≤ maxLen := by
  rcases h.2 with ⟨rfl, h0⟩ | ⟨g, cap, cur, rfl, _, _, h1, h2, _⟩
  · exact ⟨none, 0, by rw [h0], by omega, by simp [maxLen]⟩
  · exact ⟨_, cap, rfl, h1, h2⟩
theorem OwnI.alloc {base : Nat} {w : World} {v : Value} {zs : List Int} (h : OwnI base w v zs) (o : Obj) : OwnI base (w.alloc o) v zs := World.ownsRow.alloc h o
theorem OwnI.below {B base : Nat} {w w' : World} {v : Value} {zs : List Int} (h : OwnI base w v zs) (hb : Below B w w') (hB : w.heap.size ≤ B) : OwnI base w' v zs := by
  refine ⟨h.1, ?_⟩
  rcases h.2 with hn | ⟨g, cap, cur, rfl, hb1, hg, rest⟩
  · exact .inl hn
  · have := (Array.getElem?_eq_some_iff.1 hg).1
    exact .inr ⟨g, cap, cur, rfl, hb1, (hb.block g (by omega)).trans hg, rest⟩
theorem OwnI.kept {base : Nat} {w w' : World} {v : Value} {zs : List Int} {row : Option Nat} (h : OwnI base w v zs) (hg : w.grownBy w' row) (hne : v.ownBlock = none ∨ v.ownBlock ≠ row) : OwnI base w' v zs := World.ownsRow.kept h hg hne
theorem OwnI.base_le {base : Nat} {W : World} {v : Value} {zs : List Int} (h : OwnI base W v zs) {r : Nat} (hr : v.ownBlock = some r) : base ≤ r := (ownsRow_cells h hr).1
theorem OwnI.lt {base : Nat} {W : World} {v : Value} {zs : List Int} (h : OwnI base W v zs) {r : Nat} (hr : v.ownBlock = some r) : r < W.heap.size := by
  obtain ⟨o, ho, _⟩ := (ownsRow_cells h hr).2
  exact (Array.getElem?_eq_some_iff.1 ho).1
theorem OwnI.one {base : Nat} (w : World) (z : Int) (hb : base ≤ w.heap.size) : OwnI base (w.alloc (.cells #[.int .i64 z] 3)) (.slice (some ⟨w.heap.size, 0, none⟩) 1 1) [z] :=
  ⟨rfl, .inr ⟨w.heap.size, 1, #[.int .i64 z], rfl, hb, World.alloc_heap_new w _, Nat.le_refl _, by simp [maxLen], rfl, rfl⟩⟩
theorem OwnI.at {base : Nat} {w : World} {zs : List Int} {g n cap : Nat} (h : OwnI base w (.slice (some ⟨g, 0, none⟩) n cap) zs) (i : Nat) (hi : i < zs.length) : w.cell? ⟨g, i, none⟩ = some (.int .i64 (zs[i]?.getD 0)) := by
  have := World.ownsRow.cells h (g := g) rfl i (.int .i64 (zs[i]?.getD 0)) (by simp [hi])
  rw [Addr.add] at this
  by_cases h0 : i = 0
  · subst h0; simpa using this
  · simpa [h0] using this

theorem wpList_append_I {w : World} {ops : Array Oper} {rest : List Oper} {o : Oper} {a : Act} {Q : Exit → Act → World → Prop} (hgd : o.guard = none) (s x : Operand)
    (ho : o.op = .call { callee := .builtin .append, args := #[s, x], argTypes := #[26, 26] })
    {base : Nat} {v : Value} {zs : List Int} {B c : Nat} {z : Int} (hs : a.eval s = v) (hx : a.eval x = .slice (some ⟨B, 0, none⟩) 1 c) (hown : OwnI base w v zs) (hb : w.cell? ⟨B, 0, none⟩ = some (.int .i64 z))
    (h63 : zs.length + 1 ≤ 2 ^ 40) (hbase : base ≤ w.heap.size)
    (h : ∀ g cap w', OwnI base w' (.slice (some ⟨g, 0, none⟩) (zs.length + 1) cap) (zs ++ [z]) → w.grownBy w' v.ownBlock → (v.ownBlock = some g ∨ g = w.heap.size) → wpList Tryz.prog ops Q rest (a.put o.dst (.slice (some ⟨g, 0, none⟩) (zs.length + 1) cap)) w') : wpList Tryz.prog ops Q (o :: rest) a w := by
  obtain ⟨i0, hi, hz0, hz1, hz2⟩ := info_parts Tryz.infoInt
  refine wpList_append_lies w hgd s x 26 ho base 3 i0 _ 1 8 Tryz.underlying26 hi hz0 hz1 hz2 rfl (by decide) v zs.length (zs.map (Value.int .i64)) hs hown ⟨B, 0, none⟩ 1 c [.int .i64 z] hx rfl
    (fun j u hj => by
      match j, hj with
      | 0, hj =>
        simp only [List.getElem?_cons_zero, Option.some.injEq] at hj
        subst hj
        simpa [Addr.add] using hb)
    (by simp [Value.oneCell']) (by decide) (by simp [maxLen]; omega) (by omega) hbase _ rfl fun g cap w' h1 h2 h3 h4 => h g cap w' ?_ h2 h3
  unfold OwnI
  rw [List.length_append, List.map_append]
  exact h1
end Go.Proofs.YtkdlimigepkepaaGreat
