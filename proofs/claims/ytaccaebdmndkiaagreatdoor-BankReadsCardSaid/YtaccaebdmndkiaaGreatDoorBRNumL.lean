/- The reference's way to a number, in plain data. No conditions beyond those stated. -/
import Derived.Test.YtaccaebdmndkiaaGreatDoorBRdLaw
namespace Go.Proofs.YtaccaebdmndkiaaGreatDoor
open Go
set_option linter.unusedVariables false

theorem itoa_len14 {n : Int} (h : Gm n) : (Lib.itoa n).length ≤ 14 := by
  obtain ⟨h1, h2⟩ := h
  rcases itoa_cases n with ⟨h0, e⟩ | ⟨h0, e⟩
  · rw [e]; have := dec_len 12 n.toNat (by omega); omega
  · rw [e, List.length_cons]; have := dec_len 12 n.natAbs (by omega); omega
theorem itoa_bytes (n : Int) : ∀ b ∈ Lib.itoa n, b = 45 ∨ isDig b = true := by
  intro b hb
  rcases itoa_cases n with ⟨h0, e⟩ | ⟨h0, e⟩
  · rw [e] at hb; exact .inr (decDigits_dig _ b hb)
  · rw [e] at hb
    rcases List.mem_cons.1 hb with rfl | hb
    · exact .inl rfl
    · exact .inr (decDigits_dig _ b hb)
theorem num_long {p : List UInt8} (h : 14 < p.length) : numOf p = none := numOf_none fun n hn e => by
  have := itoa_len14 hn
  rw [e] at this; omega
theorem num_byte {p : List UInt8} {k : Nat} (hk : k < p.length) (h1 : ¬ p[k]?.getD 0 = 45) (h2 : isDig (p[k]?.getD 0) = false) : numOf p = none := numOf_none fun n hn e => by
  rw [List.getElem?_eq_getElem hk, Option.getD_some] at h1 h2
  rcases itoa_bytes n p[k] (by rw [e]; exact List.getElem_mem _) with h | h
  · exact h1 h
  · rw [h] at h2; cases h2
/-- The value of the first bytes of a word, as the reference reads it. -/
def preV (p : List UInt8) (k : Nat) : Nat := digV 0 ((p.take k).filter (· ≠ 45))
theorem preV_zero (p : List UInt8) : preV p 0 = 0 := by simp [preV, digV_nil]
theorem preV_sign {p : List UInt8} {k : Nat} (hk : k < p.length) (h : p[k]?.getD 0 = 45) : preV p (k + 1) = preV p k := by
  rw [List.getElem?_eq_getElem hk, Option.getD_some] at h
  unfold preV
  rw [List.take_add_one, List.getElem?_eq_getElem hk, h]
  simp
theorem preV_dig {p : List UInt8} {k : Nat} (hk : k < p.length) (h : ¬ p[k]?.getD 0 = 45) : preV p (k + 1) = 10 * preV p k + ((p[k]?.getD 0).toNat - 48) := by
  unfold preV
  rw [List.take_add_one, List.getElem?_eq_getElem hk, Option.getD_some]
  rw [List.getElem?_eq_getElem hk, Option.getD_some] at h
  rw [List.filter_append]
  simp only [Option.toList, List.filter_cons, List.filter_nil, decide_eq_true h, if_true]
  exact digV_snoc _ _
theorem preV_lt {p : List UInt8} {k : Nat} (hk : k ≤ p.length) (hb : ∀ j, j < k → p[j]?.getD 0 = 45 ∨ isDig (p[j]?.getD 0) = true) : preV p k < 10 ^ k := by
  induction k with
  | zero => rw [preV_zero]; decide
  | succ k ih =>
    have h1 := ih (by omega) fun j hj => hb j (by omega)
    rw [Nat.pow_succ]
    rcases hb k (by omega) with h | h
    · rw [preV_sign hk h]; omega
    · by_cases h45 : p[k]?.getD 0 = 45
      · rw [preV_sign hk h45]; omega
      · rw [preV_dig hk h45]
        simp only [isDig, Bool.and_eq_true, decide_eq_true_eq] at h
        omega
theorem refV_pre (p : List UInt8) : refV p = if p.head? = some 45 then -(preV p p.length : Int) else preV p p.length := by
  unfold refV preV; rw [List.take_length]
theorem numsOf_snoc {a : List (List UInt8)} {ns : List Int} (h : numsOf a = some ns) (x : List UInt8) {n : Int} (hx : numOf x = some n) : numsOf (a ++ [x]) = some (ns ++ [n]) := by
  induction a generalizing ns with
  | nil => simp only [numsOf, Option.some.injEq] at h; subst h; simp [numsOf, hx]
  | cons y r ih =>
    rw [numsOf] at h
    cases hy : numOf y with
    | none => rw [hy] at h; cases h
    | some m =>
      rw [hy] at h
      cases hr : numsOf r with
      | none => rw [hr] at h; cases h
      | some ms =>
        rw [hr] at h
        simp only [Option.some.injEq] at h
        subst h
        rw [List.cons_append, numsOf, hy, ih hr]; rfl
theorem numsOf_none {a : List (List UInt8)} {x : List UInt8} (hx : x ∈ a) (h : numOf x = none) : numsOf a = none := by
  induction a with
  | nil => cases hx
  | cons y r ih =>
    rw [numsOf]
    cases hy : numOf y with
    | none => rfl
    | some m =>
      rcases List.mem_cons.1 hx with rfl | hx
      · rw [h] at hy; cases hy
      · rw [ih hx]
end Go.Proofs.YtaccaebdmndkiaaGreatDoor
