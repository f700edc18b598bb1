/- A region that draws its order, whose operations read and whose callees lay new blocks alone: walked once, in the text's order. No conditions. -/
import Derived.Test.YthooiobhlbnaoaaGreatGaInF
import Derived.Deep.Quiet
namespace Go.Proofs.YthooiobhlbnaoaaGreat
open Go.RowKit
set_option linter.unusedVariables false

/-- The kit's walk of a region in the text's order, kept shut (else the elaborator opens it at each guard). -/
structure WQ (P : Program) (ops : Array Oper) (C : World → Prop) (Q : Act → Prop) (l : List Oper) (a : Act) : Prop where
  out : wpQuiet P ops C Q l a
theorem WQ.take {P : Program} {ops : Array Oper} {C : World → Prop} {Q : Act → Prop} {o : Oper} {rest : List Oper} {a : Act} (v : Value) (hy : YieldsIn P ops C o v a) (h : WQ P ops C Q rest (a.put o.dst v)) : WQ P ops C Q (o :: rest) a := by
  refine ⟨wpQuiet_step (fun K hK => ?_)⟩
  rcases hy with ⟨hw, hv⟩ | ⟨hw, rfl⟩
  · rw [if_pos hw]; exact ⟨v, hv, hK _ h.out⟩
  · rw [if_neg (by rw [hw]; simp)]; exact hK _ h.out
theorem WQ.nil {P : Program} {ops : Array Oper} {C : World → Prop} {Q : Act → Prop} {a : Act} (h : Q a) : WQ P ops C Q [] a := ⟨wpQuiet_nil h⟩
theorem region_WQ {P : Program} {ops : Array Oper} {id : Nat} {Q : Exit → Act → World → Prop} {a : Act} {w : World} (C : World → Prop) (hm : P.follows .mixedOrders = true) (hB : Region.lexB .any ops = true) (hC : C { w with drawn := w.drawn + 1 })
    (h : WQ P ops C (fun a' => ∀ w', C w' → Q .normal a' w') ops.toList a) : (Code.region id ops true).wp P Q a w := wp_region_quiet hm hB hC h.out
theorem yieldsIn_of_if {P : Program} {ops : Array Oper} {C : World → Prop} {o : Oper} {v : Value} {a : Act} (h : YieldsIf P ops C o v a) : YieldsIn P ops C o v a :=
  h.imp (fun ⟨hw, hv⟩ => ⟨hw, fun w hC => by unfold Oper.quietAt; rw [hv w hC]; first | exact ⟨rfl, rfl⟩ | exact ⟨rfl, hC⟩⟩) id
end Go.Proofs.YthooiobhlbnaoaaGreat
