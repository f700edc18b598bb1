/- Layer 15: what a law's walk keeps of its plan. No conditions. -/
import Derived.Test.YthbnbjigmgoldaaOlAwake
import Derived.Test.YthbnbjigmgoldaaOlLawS
import Derived.Test.YthbnbjigmgoldaaOReach
import Derived.Test.YthbnbjigmgoldaaOOrder
namespace Go.Proofs.Ythbnbjigmgoldaa
open Go.RowKit
set_option linter.unusedVariables false

/-- The plan's box, its parts as they were. -/
structure Cx (K : Nat) (nm : ByteArray) (vd vt vc : Value) (p : Pl) (w W : World) : Prop where
  bel : Below w.heap.size w W
  box : Blk W w.heap.size #[.string nm, vd, vt, vc] 26
  plan : PlanIs K W vd vc p
  big : K ≤ W.heap.size
theorem Cx.lt {K : Nat} {nm : ByteArray} {vd vt vc : Value} {p : Pl} {w W : World} (h : Cx K nm vd vt vc p w W) : w.heap.size < W.heap.size := h.box.lt
theorem Cx.start {K : Nat} {nm : ByteArray} {vd vt vc : Value} {p : Pl} {w : World} (h : PlanIs K w vd vc p) (hK : K ≤ w.heap.size) : Cx K nm vd vt vc p w (w.alloc (.cells #[.string nm, vd, vt, vc] 26)) := by
  have hb : Below w.heap.size w (w.alloc (.cells #[.string nm, vd, vt, vc] 26)) := (Below.refl _ w).alloc (Nat.le_refl _) _
  exact ⟨hb, Blk.new w _ _, h.below hb hK (Nat.le_refl _), by simp; omega⟩
theorem Cx.below {K : Nat} {nm : ByteArray} {vd vt vc : Value} {p : Pl} {w W W' : World} (h : Cx K nm vd vt vc p w W) (hb : Below W.heap.size W W') : Cx K nm vd vt vc p w W' :=
  ⟨h.bel.trans (hb.mono h.bel.size), h.box.below hb h.box.lt, h.plan.below hb h.big (Nat.le_refl _), Nat.le_trans h.big hb.size⟩
theorem Cx.drewN {K : Nat} {nm : ByteArray} {vd vt vc : Value} {p : Pl} {w W : World} (h : Cx K nm vd vt vc p w W) (n : Nat) : Cx K nm vd vt vc p w (W.drewN n) := h.below (below_drewN (Below.refl _ _) n)
theorem Strs.up {K : Nat} {w w' : World} {v : Value} {l : List Str} (h : Strs K w v l) (hb : Below w.heap.size w w') (hK : K ≤ w.heap.size) : Strs w'.heap.size w' v l := h.below hb hK (Nat.le_trans hK hb.size)
theorem Strs.self {w w' : World} {v : Value} {l : List Str} (h : Strs w.heap.size w v l) (hb : Below w.heap.size w w') : Strs w'.heap.size w' v l := h.below hb (Nat.le_refl _) hb.size
end Go.Proofs.Ythbnbjigmgoldaa
