/- The tests of package bank: isNumber, isHead, isOrder. No conditions. -/
import Derived.Test.YtaccaebdmndkiaaDoorBOrd
namespace Go.Proofs.YtaccaebdmndkiaaDoor
open Go.RowKit
set_option linter.unusedVariables false

theorem isNum_any (n : Int) (w : World) : Calls Tryd.prog 31 #[.int .i64 n] w fun e w' => e = .returned (.bool (okNum n)) ∧ w = w' := by
  go_enter Tryd.func31, Tryd.ntmps31
  go_wp2
  all_goals go_ret
  all_goals refine ⟨ret_bool ?_, rfl⟩
  all_goals rw [Bool.eq_iff_iff, okNum_iff]; simp; omega
theorem isHead_any (n d : Int) (w : World) : Calls Tryd.prog 28 #[.int .i64 n, .int .i64 d] w fun e w' => e = .returned (.bool (okHead n d)) ∧ w = w' := by
  obtain ⟨x, hx⟩ : ∃ x, okNum n = x := ⟨_, rfl⟩
  go_enter Tryd.func28, Tryd.ntmps28
  go_wp2_with (go_at_call 31; refine (isNum_any _ _).mono ?_; rintro e w1 ⟨rfl, rfl⟩; rw [hx]; cases x)
  all_goals go_ret
  all_goals refine ⟨ret_bool ?_, rfl⟩
  all_goals rw [Bool.eq_iff_iff]; simp [okHead, hx]; try omega
theorem isOd_any (o : Od) (w : World) : Calls Tryd.prog 29 #[odV o] w fun e w' => e = .returned (.bool (okOd o)) ∧ Below w.heap.size w w' := by
  obtain ⟨x, hx⟩ : ∃ x, okNum o.num = x := ⟨_, rfl⟩
  obtain ⟨y, hy⟩ : ∃ x, okNum o.acc = x := ⟨_, rfl⟩
  go_enter Tryd.func29, Tryd.ntmps29
  go_wp2_with (go_at_call 31; refine (isNum_any _ _).mono ?_; rintro e w1 ⟨rfl, rfl⟩; first | (rw [hx]; cases x) | (rw [hy]; cases y))
  all_goals go_ret
  all_goals refine ⟨ret_bool ?_, (Below.refl _ w).alloc (Nat.le_refl _) _⟩
  all_goals (try simp only [Bool.or_eq_true, decide_eq_true_eq, Bool.or_eq_false_iff, decide_eq_false_iff_not] at *)
  all_goals rw [Bool.eq_iff_iff]; simp [okOd, hx, hy]; try omega
end Go.Proofs.YtaccaebdmndkiaaDoor
