/- Lines one after the other, in plain data. No conditions beyond those stated. -/
import Derived.Test.YtaccaebdmndkiaaGreatDoorBRNumL
namespace Go.Proofs.YtaccaebdmndkiaaGreatDoor
open Go
set_option linter.unusedVariables false

theorem rrows_snoc {w : List UInt8} {m : Nat} {a : List (List UInt8)} {dn : List (List Int)} (h : rowsOf w m a = some dn) {x : List UInt8} {r : List Int} (hx : rowOf w m x = some r) : rowsOf w m (a ++ [x]) = some (dn ++ [r]) := by
  induction a generalizing dn with
  | nil => simp only [rowsOf, Option.some.injEq] at h; subst h; simp [rowsOf, hx]
  | cons y q ih =>
    rw [rowsOf] at h
    cases hy : rowOf w m y with
    | none => rw [hy] at h; cases h
    | some n =>
      rw [hy] at h
      cases hr : rowsOf w m q with
      | none => rw [hr] at h; cases h
      | some ms =>
        rw [hr] at h
        simp only [Option.some.injEq] at h
        subst h
        rw [List.cons_append, rowsOf, hy, ih hr]; rfl
theorem rrows_none {w : List UInt8} {m : Nat} {a : List (List UInt8)} {x : List UInt8} (hx : x ∈ a) (h : rowOf w m x = none) : rowsOf w m a = none := by
  induction a with
  | nil => cases hx
  | cons y r ih =>
    rw [rowsOf]
    cases hy : rowOf w m y with
    | none => rfl
    | some n =>
      rcases List.mem_cons.1 hx with rfl | hx
      · rw [h] at hy; cases hy
      · rw [ih hx]
theorem rall_snoc {hw iw : List UInt8} {hm im : Nat} {a : List (List UInt8)} {dn : List (List Int)} (h : allOf hw hm iw im a = some dn) {x : List UInt8} {r : List Int} (hx : (if a.length = 0 then rowOf hw hm x else rowOf iw im x) = some r) : allOf hw hm iw im (a ++ [x]) = some (dn ++ [r]) := by
  cases a with
  | nil =>
    simp only [allOf, Option.some.injEq] at h; subst h
    rw [if_pos (show ([] : List (List UInt8)).length = 0 from rfl)] at hx
    simp [allOf, hx, rowsOf]
  | cons y q =>
    rw [if_neg (by simp)] at hx
    rw [allOf] at h
    cases hy : rowOf hw hm y with
    | none => rw [hy] at h; cases h
    | some n =>
      rw [hy] at h
      cases hr : rowsOf iw im q with
      | none => rw [hr] at h; cases h
      | some ms =>
        rw [hr] at h
        simp only [Option.some.injEq] at h
        subst h
        rw [List.cons_append, allOf, hy, rrows_snoc hr hx]; rfl
theorem rall_none {hw iw : List UInt8} {hm im : Nat} {ls : List (List UInt8)} {j : Nat} {x : List UInt8} (hj : ls[j]? = some x) (h : (if j = 0 then rowOf hw hm x else rowOf iw im x) = none) : allOf hw hm iw im ls = none := by
  cases ls with
  | nil => simp at hj
  | cons y q =>
    rw [allOf]
    cases j with
    | zero =>
      simp only [List.getElem?_cons_zero, Option.some.injEq] at hj
      subst hj
      rw [if_pos rfl] at h
      rw [h]
    | succ j =>
      rw [if_neg (by omega)] at h
      rw [List.getElem?_cons_succ] at hj
      cases hy : rowOf hw hm y with
      | none => rfl
      | some n => rw [rrows_none (List.mem_of_getElem? hj) h]
/-- The reference's own order of tests. -/
theorem rrow_length {w : List UInt8} {m : Nat} {x : List UInt8} {r : List Int} (h : rowOf w m x = some r) : r.length = m := by
  unfold rowOf at h
  split at h
  · rename_i hh
    have : ∀ (a : List (List UInt8)) (ns : List Int), numsOf a = some ns → ns.length = a.length := by
      intro a
      induction a with
      | nil => intro ns h; simp only [numsOf, Option.some.injEq] at h; subst h; rfl
      | cons y q ih =>
        intro ns h
        rw [numsOf] at h
        cases hy : numOf y with
        | none => rw [hy] at h; cases h
        | some n =>
          rw [hy] at h
          cases hr : numsOf q with
          | none => rw [hr] at h; cases h
          | some ms =>
            rw [hr] at h
            simp only [Option.some.injEq] at h
            subst h
            simp [ih ms hr]
    rw [this _ _ h, List.length_tail, hh.1]; rfl
  · cases h
end Go.Proofs.YtaccaebdmndkiaaGreatDoor
