/- Two bytes exchanged in memory; a region's walk without its relation. No conditions. -/
import Derived.Test.YtaccaebdmndkiaaDoorBChgd
import Derived.Lib.ConvBytes
namespace Go.Proofs.YtaccaebdmndkiaaDoor
open Go.RowKit
set_option linter.unusedVariables false

theorem set_other {w : World} {b i k : Nat} {x : Value} (h : w.cell? ⟨b, k, none⟩ = some x) (hne : i ≠ k) (v : Value) : (w.setCell ⟨b, i, none⟩ v).cell? ⟨b, k, none⟩ = some x :=
  (World.cell?_setCell_other _ _ _ _ (by simp)).trans h
theorem swp_cells {Wb : World} {B0 i k n : Nat} {sl : List UInt8} {ci ck : UInt8} (hn : n = sl.length) (hcl : ∀ j, j < n → Wb.cell? ⟨B0, j, none⟩ = some (B (sl[j]?.getD 0))) (hit : i < n) (hkt : k < n) (hne : i ≠ k) (hci : sl[i]?.getD 0 = ci) (hck : sl[k]?.getD 0 = ck) :
    ∀ j, j < n → ((Wb.setCell ⟨B0, i, none⟩ (B ck)).setCell ⟨B0, k, none⟩ (B ci)).cell? ⟨B0, j, none⟩ = some (B ((swp sl i k)[j]?.getD 0)) := by
  intro j hj
  have xi := hcl i hit
  have xk := hcl k hkt
  by_cases hjk : k = j
  · subst hjk
    rw [World.cell?_setCell_same _ _ _ (set_other xk hne _)]
    unfold swp
    rw [List.getElem?_set_self (by simp; omega), hci]; rfl
  · rw [World.cell?_setCell_other _ _ _ _ (by simp)]
    by_cases hji : i = j
    · subst hji
      rw [World.cell?_setCell_same _ _ _ xi]
      unfold swp
      rw [List.getElem?_set_ne hjk, List.getElem?_set_self (by omega), hck]; rfl
    · rw [World.cell?_setCell_other _ _ _ _ (by simp), hcl j hj]
      unfold swp
      rw [List.getElem?_set_ne hjk, List.getElem?_set_ne hji]
theorem wpAnyD_weaken {P : Program} {md : Region.Mode} {ops : Array Oper} {Q : Exit → Act → World → Prop} {S : World → Prop} {D : List Nat} : ∀ (fuel : Nat) (listed : Array Bool) (a : Act) (w : World), wpAnyD P md ops Q S D fuel listed a w → wpAnyD P md ops Q (fun _ => True) [] fuel listed a w
  | 0, _, _, _, h => h
  | fuel + 1, _, _, _, h => ⟨h.1, fun i hi => wpOp_mono (fun a' w' h' => ⟨fun _ => trivial, wpAnyD_weaken fuel _ a' w' h'.2⟩) (h.2 i hi)⟩

end Go.Proofs.YtaccaebdmndkiaaDoor
