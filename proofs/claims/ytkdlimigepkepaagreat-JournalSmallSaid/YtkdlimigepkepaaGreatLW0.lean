/- Words that the walks of layer 37 share. No conditions. -/
import Derived.Test.YtkdlimigepkepaaGreatJ11
import Derived.Deep.CutRange
namespace Go.Proofs.YtkdlimigepkepaaGreat
open Go.RowKit
set_option linter.unusedVariables false

section
variable {P : Program} {ops : Array Oper} {Q : Exit → Act → World → Prop} {md : Region.Mode} {S : World → Prop} {D : List Nat}
theorem wpAnyD_two {i j : Nat} {o o' : Oper} {fuel : Nat} {listed : Array Bool} {a : Act} {w : World} (hr : Region.ready md ops listed = [i, j]) (ho : ops[i]? = some o) (ho' : ops[j]? = some o')
    (hw : Region.wanted o (yielded ops a.tmps) = true) (hw' : Region.wanted o' (yielded ops a.tmps) = true)
    (h : o.wp P a w (fun a' w' => (i ∉ D → S w') ∧ wpAnyD P md ops Q S D fuel (listed.setIfInBounds i true) a' w') Q)
    (h' : o'.wp P a w (fun a' w' => (j ∉ D → S w') ∧ wpAnyD P md ops Q S D fuel (listed.setIfInBounds j true) a' w') Q) : wpAnyD P md ops Q S D (fuel + 1) listed a w :=
  ⟨fun h0 => by rw [hr] at h0; simp at h0, fun k hk => by
    rw [hr] at hk
    simp only [List.mem_cons, List.not_mem_nil, or_false] at hk
    rcases hk with rfl | rfl
    · exact wpOp_of ho hw h
    · exact wpOp_of ho' hw' h'⟩
end

theorem writeS_pow {s : St} (d : List UInt8) (h : s.power ≤ 2 ^ 63 - 1) : (writeS s d).1.power ≤ 2 ^ 63 - 1 := by
  unfold writeS
  split
  · simp [zSt]
  · split
    · simp [zSt]
    · split
      · exact h
      · split
        · simp
        · simp only; omega
theorem ownB_empty {base : Nat} (W : World) (h : base ≤ W.heap.size) : OwnB base (W.alloc (.cells #[] 5)) (.slice (some ⟨W.heap.size, 0, none⟩) 0 0) [] :=
  ⟨rfl, .inr ⟨W.heap.size, 0, #[], rfl, h, World.alloc_heap_new W _, Nat.le_refl _, Nat.zero_le _, rfl, rfl⟩⟩
theorem OwnB.base_le {base : Nat} {W : World} {v : Value} {l : List UInt8} (h : OwnB base W v l) {r : Nat} (hr : v.ownBlock = some r) : base ≤ r := (ownsRow_cells h hr).1
theorem OwnB.lt {base : Nat} {W : World} {v : Value} {l : List UInt8} (h : OwnB base W v l) {r : Nat} (hr : v.ownBlock = some r) : r < W.heap.size := by
  obtain ⟨o, ho, _⟩ := (ownsRow_cells h hr).2
  exact (Array.getElem?_eq_some_iff.1 ho).1
theorem OwnB.notBlock {base : Nat} {W : World} {v : Value} {l : List UInt8} (h : OwnB base W v l) {b : Nat} (hb : b < base) : some b ≠ v.ownBlock := fun e => by
  have := h.base_le e.symm; omega
theorem OwnB.notNew {base : Nat} {W : World} {v : Value} {l : List UInt8} (h : OwnB base W v l) : v.ownBlock ≠ some W.heap.size := fun e => by
  have := h.lt e; omega
theorem OwnB.keptB2 {base : Nat} {W W' : World} {v : Value} {l : List UInt8} (h : OwnB base W v l) {r : Nat} (hne : v.ownBlock ≠ some r) {x y : Value}
    (hW : (W.setCell ⟨r, 0, none⟩ x).setCell ⟨r, 1, none⟩ y = W') : Byts W'.heap.size W' v l := by
  subst hW
  exact ((h.kept (grownBy_setCell W r 0 x) (.inr hne)).kept (grownBy_setCell _ r 1 y) (.inr hne)).byts
end Go.Proofs.YtkdlimigepkepaaGreat
