/- The tests of package bank: isNumber, isHead, isOrder. No conditions. -/
import Derived.Test.YtaccaebdmndkiaaGreatDoorBOrd
namespace Go.Proofs.YtaccaebdmndkiaaGreatDoor
open Go.RowKit
set_option linter.unusedVariables false

theorem isNum_any (n : Int) (w : World) : Calls Tryz.prog 50 #[.int .i64 n] w fun e w' => e = .returned (.bool (okNum n)) ∧ w = w' := by
  go_enter Tryz.func50, Tryz.ntmps50
  go_wp2
  all_goals go_ret
  all_goals refine ⟨ret_bool ?_, rfl⟩
  all_goals rw [Bool.eq_iff_iff, okNum_iff]; simp; omega
theorem isHead_any (n d : Int) (w : World) : Calls Tryz.prog 48 #[.int .i64 n, .int .i64 d] w fun e w' => e = .returned (.bool (okHead n d)) ∧ w = w' := by
  obtain ⟨x, hx⟩ : ∃ x, okNum n = x := ⟨_, rfl⟩
  go_enter Tryz.func48, Tryz.ntmps48
  go_wp2_with (go_at_call 50; refine (isNum_any _ _).mono ?_; rintro e w1 ⟨rfl, rfl⟩; rw [hx]; cases x)
  all_goals go_ret
  all_goals refine ⟨ret_bool ?_, rfl⟩
  all_goals rw [Bool.eq_iff_iff]; simp [okHead, hx]; try omega
theorem isOd_any (o : Od) (w : World) : Calls Tryz.prog 49 #[odV o] w fun e w' => e = .returned (.bool (okOd o)) ∧ Below w.heap.size w w' := by
  obtain ⟨x, hx⟩ : ∃ x, okNum o.num = x := ⟨_, rfl⟩
  obtain ⟨y, hy⟩ : ∃ x, okNum o.acc = x := ⟨_, rfl⟩
  go_enter Tryz.func49, Tryz.ntmps49
  go_wp2_with (go_at_call 50; refine (isNum_any _ _).mono ?_; rintro e w1 ⟨rfl, rfl⟩; first | (rw [hx]; cases x) | (rw [hy]; cases y))
  all_goals go_ret
  all_goals refine ⟨ret_bool ?_, (Below.refl _ w).alloc (Nat.le_refl _) _⟩
  all_goals (try simp only [Bool.or_eq_true, decide_eq_true_eq, Bool.or_eq_false_iff, decide_eq_false_iff_not] at *)
  all_goals rw [Bool.eq_iff_iff]; simp [okOd, hx, hy]; try omega
end Go.Proofs.YtaccaebdmndkiaaGreatDoor
