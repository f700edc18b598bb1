/- Layer 15: a clause's cells as a whole. No conditions. -/
import Derived.Test.YthooiobhlbnaoaaGreatOMem
import Derived.Deep.WholeRow
namespace Go.Proofs.YthooiobhlbnaoaaGreat
open Go.RowKit
set_option linter.unusedVariables false

/-- The cells of row k of a slice of clauses. -/
theorem cl_range {g : Nat → Cv} {w : World} {b o k n : Nat} (hc : ∀ i, i < n → ∀ j, j < 24 → w.cell? ⟨b, o + (i * 24 + j), none⟩ = some ((g i).cell j)) (hk : k < n) : w.rangeAt b (o + k * 24) (g k).cl := by
  intro j v hj
  have h24 : j < 24 := by have := (List.getElem?_eq_some_iff.1 hj).1; rwa [Cv.cl_length] at this
  rw [Cv.cl_at _ h24] at hj
  have := hc k hk j h24
  rw [show o + k * 24 + j = o + (k * 24 + j) by omega, this]
  exact hj
theorem infoCl : (Tryz.prog.info? 89).map (fun i => i.size) = some 24 := by kernel_rfl
theorem infoCl' (x : Cv) : (Tryz.prog.info? 89).map (fun i => i.size) = some x.cl.length := by rw [x.cl_length]; exact infoCl
theorem infoEx : (Tryz.prog.info? 32).map (fun i => i.size) = some 9 := by kernel_rfl
/-- A clause is stored into a block that has just been made. -/
theorem wpList_store_cl {ops : Array Oper} {rest : List Oper} {o : Oper} {a : Act} {w : World} {Q : Exit → Act → World → Prop} (hgd : o.guard = none) (x y : Operand) (ho : o.op = .store 89 x y) (c : Cv) (old : Array Value) (hold : old.size = 24)
    (hx : a.eval x = .pointer (some ⟨w.heap.size, 0, none⟩)) (hy : a.eval y = .agg c.cl.toArray)
    (h : wpList Tryz.prog ops Q rest (a.put o.dst undef) (w.alloc (.cells c.cl.toArray 89))) : wpList Tryz.prog ops Q (o :: rest) a (w.alloc (.cells old 89)) := by
  refine wpList_store_row hgd 89 x y ho w.heap.size c.cl.toArray hx hy 89 old (World.alloc_heap_new w _) (by rw [List.size_toArray]; exact infoCl' c) (by rw [hold, List.size_toArray, c.cl_length]) (all_oneCell_toArray c.cl_one) ?_
  rw [World.setRow_alloc_new]
  exact h
theorem ex_range (w : World) (b : Nat) (c : Cv) (h : Blk w b c.cl.toArray 89) : w.rangeAt b 6 c.wh.cells.toList ∧ w.rangeAt b 15 c.th.cells.toList := by
  constructor
  · intro j v hj
    have h9 : j < 9 := by have := (List.getElem?_eq_some_iff.1 hj).1; simpa using this
    rw [Xv.cells_at _ h9] at hj
    rw [← hj]
    exact h.at (by rw [List.getElem?_toArray]; exact c.wh_at h9)
  · intro j v hj
    have h9 : j < 9 := by have := (List.getElem?_eq_some_iff.1 hj).1; simpa using this
    rw [Xv.cells_at _ h9] at hj
    rw [← hj]
    exact h.at (by rw [List.getElem?_toArray]; exact c.th_at h9)
end Go.Proofs.YthooiobhlbnaoaaGreat
