/- Layer 16: plain laws of the clauses in force. No conditions. -/
import Derived.Test.YthooiobhlbnaoaaGreatGSpec
namespace Go.Proofs.YthooiobhlbnaoaaGreat
set_option linter.unusedVariables false

section
variable {cs : List Gc} {nm : Str} {d kn : Int}
theorem forced_at {i : Nat} (h : i ∈ forceL cs nm d kn) : i < cs.length ∧ (gAt cs i).off = false ∧ cov (gAt cs i) nm d kn = true ∧ ∀ k, k < cs.length → cov (gAt cs k) nm d kn = true → (gAt cs k).lb = (gAt cs i).lb → later cs i k = false := by
  obtain ⟨h1, h2, h3⟩ := mem_forceL.1 h
  obtain ⟨j1, j2, j3, j4⟩ := (best_spec cs.length _).1 i h2
  exact ⟨h1, h3, j3, fun k hk hc hl => j4 k hk hl hc⟩
theorem forced_label {i j : Nat} (hi : i ∈ forceL cs nm d kn) (hj : j ∈ forceL cs nm d kn) (h : (gAt cs i).lb = (gAt cs j).lb) : i = j := by
  have h1 := (mem_forceL.1 hi).2.1
  have h2 := (mem_forceL.1 hj).2.1
  rw [h] at h1
  rw [h1] at h2
  exact (Option.some.inj h2)
/-- Clause k withdraws what clause i says. -/
def drawn (cs : List Gc) (nm : Str) (d kn : Int) (i k : Nat) : Bool := cov (gAt cs k) nm d kn && (gAt cs k).lb == (gAt cs i).lb && (gAt cs k).off && (decide ((gAt cs i).kn < (gAt cs k).kn) || ((gAt cs k).kn == (gAt cs i).kn && decide (i ≤ k)))
theorem drawn_any {i : Nat} (hi : i < cs.length) (hc : cov (gAt cs i) nm d kn = true) (hn : ∀ j, j ∈ forceL cs nm d kn → (gAt cs j).lb ≠ (gAt cs i).lb) : ((List.range cs.length).any fun k => drawn cs nm d kn i k) = true := by
  have hb := best_spec (cs := cs) (nm := nm) (d := d) (kn := kn) cs.length (gAt cs i).lb
  cases hq : best cs nm d kn cs.length (gAt cs i).lb with
  | none => have := hb.2 hq i hi rfl; rw [this] at hc; cases hc
  | some j =>
    obtain ⟨j1, j2, j3, j4⟩ := hb.1 j hq
    have hoff : (gAt cs j).off = true := by
      cases ho : (gAt cs j).off with
      | true => rfl
      | false => exact absurd j2 (hn j (mem_forceL.2 ⟨j1, by rw [j2]; exact hq, ho⟩))
    have := later_false.1 (j4 i hi rfl hc)
    refine List.any_eq_true.2 ⟨j, List.mem_range.2 j1, ?_⟩
    unfold drawn
    simp only [j3, j2, hoff, Bool.and_eq_true, beq_iff_eq, Bool.or_eq_true, decide_eq_true_eq, Bool.true_and, beq_self_eq_true]
    by_cases e : (gAt cs j).kn = (gAt cs i).kn
    · exact .inr ⟨e, this.2 e.symm⟩
    · exact .inl (by omega)

/-! ### a clause more -/
theorem gAt_old {c : Gc} {i : Nat} (hi : i < cs.length) : gAt (cs ++ [c]) i = gAt cs i := by unfold gAt; rw [List.getElem?_append_left hi]
theorem gAt_new {c : Gc} : gAt (cs ++ [c]) cs.length = c := by unfold gAt; simp
theorem beaten_more {c : Gc} {i : Nat} (hi : i < cs.length) : beaten (cs ++ [c]) nm d kn i (cs ++ [c]).length = (beaten cs nm d kn i cs.length || (c.lb == (gAt cs i).lb && cov c nm d kn && later (cs ++ [c]) i cs.length)) := by
  unfold beaten
  rw [List.length_append, List.length_singleton, List.range_succ, List.any_append, gAt_old hi]
  congr 1
  · rw [Bool.eq_iff_iff, List.any_eq_true, List.any_eq_true]
    constructor
    · rintro ⟨k, hk, h⟩
      refine ⟨k, hk, ?_⟩
      unfold later at h ⊢
      rwa [gAt_old (List.mem_range.1 hk), gAt_old hi] at h
    · rintro ⟨k, hk, h⟩
      refine ⟨k, hk, ?_⟩
      unfold later at h ⊢
      rwa [gAt_old (List.mem_range.1 hk), gAt_old hi]
  · simp [gAt_new]
theorem forced_more {c : Gc} {i : Nat} (hi : i < cs.length) : forced (cs ++ [c]) nm d kn i = (forced cs nm d kn i && !(c.lb == (gAt cs i).lb && cov c nm d kn && later (cs ++ [c]) i cs.length)) := by
  unfold forced
  rw [beaten_more hi, gAt_old hi, Bool.not_or, Bool.and_assoc, Bool.and_assoc, Bool.and_assoc, Bool.and_assoc]
theorem forceL_more (c : Gc) : forceL (cs ++ [c]) nm d kn = (List.range cs.length).filter (forced (cs ++ [c]) nm d kn) ++ (if forced (cs ++ [c]) nm d kn cs.length then [cs.length] else []) := by
  unfold forceL
  rw [List.length_append, List.length_singleton, List.range_succ, List.filter_append]
  congr 1
  by_cases h : forced (cs ++ [c]) nm d kn cs.length = true <;> simp [h]
/-- A clause that does not cover the date, or is not known, changes nothing. -/
theorem amends_out {c : Gc} (hc : cov c nm d kn = false) : forceL (cs ++ [c]) nm d kn = forceL cs nm d kn := by
  rw [forceL_more]
  have h1 : forced (cs ++ [c]) nm d kn cs.length = false := by unfold forced; rw [gAt_new, hc]; rfl
  rw [h1]
  simp only [Bool.false_eq_true, if_false, List.append_nil]
  unfold forceL
  refine List.filter_congr fun i hi => ?_
  rw [forced_more (List.mem_range.1 hi), hc]; simp
/-- The clauses of other labels are in force as before. -/
theorem amends_other (c : Gc) : (forceL (cs ++ [c]) nm d kn).filter (fun i => !((gAt (cs ++ [c]) i).lb == c.lb)) = (forceL cs nm d kn).filter (fun i => !((gAt cs i).lb == c.lb)) := by
  rw [forceL_more, List.filter_append]
  have h1 : (if forced (cs ++ [c]) nm d kn cs.length then [cs.length] else []).filter (fun i => !((gAt (cs ++ [c]) i).lb == c.lb)) = [] := by
    split
    · simp [gAt_new]
    · rfl
  rw [h1, List.append_nil]
  unfold forceL
  rw [List.filter_filter, List.filter_filter]
  refine List.filter_congr fun i hi => ?_
  have hi := List.mem_range.1 hi
  rw [forced_more hi, gAt_old hi]
  by_cases h : (gAt cs i).lb = c.lb
  · simp [h]
  · have h2 : (c.lb == (gAt cs i).lb) = false := beq_eq_false_iff_ne.2 (Ne.symm h)
    rw [h2]; simp
theorem amends_length (c : Gc) : (forceL (cs ++ [c]) nm d kn).length ≤ (forceL cs nm d kn).length + 1 := by
  rw [forceL_more, List.length_append]
  have h1 : ((List.range cs.length).filter (forced (cs ++ [c]) nm d kn)).length ≤ (forceL cs nm d kn).length := by
    unfold forceL
    have e : (List.range cs.length).filter (forced (cs ++ [c]) nm d kn) = ((List.range cs.length).filter (forced cs nm d kn)).filter (forced (cs ++ [c]) nm d kn) := by
      rw [List.filter_filter]
      refine List.filter_congr fun i hi => ?_
      rw [forced_more (List.mem_range.1 hi)]
      cases forced cs nm d kn i <;> simp
    rw [e]
    exact List.length_filter_le _ _
  have h2 : (if forced (cs ++ [c]) nm d kn cs.length then [cs.length] else []).length ≤ 1 := by split <;> simp
  omega
end
end Go.Proofs.YthooiobhlbnaoaaGreat
