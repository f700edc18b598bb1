/- What reading a text gives: pieces, numbers, the end, rows, files and answers. Plain data: no program in sight; no conditions. -/
import Derived.Test.YtaccaebdmndkiaaGreatDoorBSpec
import Derived.Lib.Strings
namespace Go.Proofs.YtaccaebdmndkiaaGreatDoor
open Go
set_option linter.unusedVariables false

/-! ### Pieces -/
/-- The pieces of l between the bytes c. -/
def cutAt (c : UInt8) : List UInt8 → List (List UInt8)
  | [] => [[]]
  | b :: r => if b = c then [] :: cutAt c r else (b :: (cutAt c r).headD []) :: (cutAt c r).tail
theorem cutAt_ne (c : UInt8) (l : List UInt8) : cutAt c l ≠ [] := by
  cases l with
  | nil => simp [cutAt]
  | cons b r => rw [cutAt]; split <;> simp
theorem cutAt_none {c : UInt8} {l : List UInt8} (h : c ∉ l) : cutAt c l = [l] := by
  induction l with
  | nil => rfl
  | cons b r ih =>
    simp only [List.mem_cons, not_or] at h
    rw [cutAt, if_neg (fun e => h.1 e.symm), ih h.2]
    rfl
theorem cutAt_hit {c : UInt8} {p : List UInt8} (h : c ∉ p) (r : List UInt8) : cutAt c (p ++ c :: r) = p :: cutAt c r := by
  induction p with
  | nil => rw [List.nil_append, cutAt, if_pos rfl]
  | cons b q ih =>
    simp only [List.mem_cons, not_or] at h
    rw [List.cons_append, cutAt, if_neg (fun e => h.1 e.symm), ih h.2]
    rfl
/-- What is joined again. -/
def joinAt (c : UInt8) : List (List UInt8) → List UInt8
  | [] => []
  | p :: r => p ++ c :: joinAt c r
theorem joinAt_append (c : UInt8) (a b : List (List UInt8)) : joinAt c (a ++ b) = joinAt c a ++ joinAt c b := by
  induction a with
  | nil => rfl
  | cons x r ih => simp [joinAt, ih]
theorem split_first (c : UInt8) (l : List UInt8) : c ∉ l ∨ ∃ p r, l = p ++ c :: r ∧ c ∉ p := by
  induction l with
  | nil => exact .inl (by simp)
  | cons b q ih =>
    by_cases hb : c = b
    · subst hb; exact .inr ⟨[], q, rfl, by simp⟩
    · rcases ih with h | ⟨p, r, rfl, h⟩
      · exact .inl (by simp [hb, h])
      · exact .inr ⟨b :: p, r, rfl, by simp [hb, h]⟩
theorem joinAt_cutAt (c : UInt8) (l : List UInt8) : joinAt c (cutAt c l) = l ++ [c] := by
  induction l with
  | nil => rfl
  | cons b r ih =>
    rw [cutAt]
    split
    · rename_i h; subst h; simp [joinAt, ih]
    · cases h : cutAt c r with
      | nil => exact absurd h (cutAt_ne c r)
      | cons x y =>
        rw [h] at ih
        simp only [List.headD_cons, List.tail_cons, joinAt, List.cons_append] at ih ⊢
        rw [ih]
theorem cutAt_joinAt {c : UInt8} {ls : List (List UInt8)} (h : ∀ l ∈ ls, c ∉ l) (x : List UInt8) (hx : c ∉ x) : cutAt c (joinAt c ls ++ x) = ls ++ [x] := by
  induction ls with
  | nil => rw [joinAt, List.nil_append, cutAt_none hx]; rfl
  | cons a r ih =>
    rw [joinAt, List.append_assoc, List.cons_append, cutAt_hit (h a (by simp)), ih fun l hl => h l (List.mem_cons_of_mem _ hl)]
    rfl
theorem cutAt_no {c : UInt8} (l : List UInt8) : ∀ p ∈ cutAt c l, c ∉ p := by
  induction l with
  | nil => simp [cutAt]
  | cons b r ih =>
    rw [cutAt]
    split
    · intro p hp
      rcases List.mem_cons.1 hp with rfl | hp
      · simp
      · exact ih p hp
    · rename_i hb
      cases h : cutAt c r with
      | nil => exact absurd h (cutAt_ne c r)
      | cons x y =>
        rw [h] at ih
        intro p hp
        simp only [List.headD_cons, List.tail_cons, List.mem_cons] at hp
        rcases hp with rfl | hp
        · simp only [List.mem_cons, not_or]
          exact ⟨fun e => hb e.symm, ih x (by simp)⟩
        · exact ih p (by simp [hp])
theorem cutAt_mem {c : UInt8} (l : List UInt8) : ∀ p ∈ cutAt c l, ∀ b ∈ p, b ∈ l := by
  induction l with
  | nil => simp [cutAt]
  | cons b r ih =>
    rw [cutAt]
    split
    · intro p hp x hx
      rcases List.mem_cons.1 hp with rfl | hp
      · simp at hx
      · exact List.mem_cons_of_mem _ (ih p hp x hx)
    · cases h : cutAt c r with
      | nil => exact absurd h (cutAt_ne c r)
      | cons x y =>
        rw [h] at ih
        intro p hp z hz
        simp only [List.headD_cons, List.tail_cons, List.mem_cons] at hp
        rcases hp with rfl | hp
        · rcases List.mem_cons.1 hz with rfl | hz
          · simp
          · exact List.mem_cons_of_mem _ (ih x (by simp) z hz)
        · exact List.mem_cons_of_mem _ (ih p (by simp [hp]) z hz)
theorem cutAt_len (c : UInt8) (l : List UInt8) : (cutAt c l).length ≤ l.length + 1 := by
  induction l with
  | nil => simp [cutAt]
  | cons b r ih =>
    rw [cutAt]
    split
    · simp only [List.length_cons]; omega
    · simp only [List.length_cons, List.length_tail]; omega

/-! ### Numbers -/
def isDig (b : UInt8) : Bool := decide (48 ≤ b.toNat) && decide (b.toNat ≤ 57)
/-- The value of digits. -/
def digV : Nat → List UInt8 → Nat
  | n, [] => n
  | n, b :: r => digV (10 * n + (b.toNat - 48)) r
theorem digV_nil (n : Nat) : digV n [] = n := by unfold digV; rfl
theorem digV_cons (n : Nat) (b : UInt8) (r : List UInt8) : digV n (b :: r) = digV (10 * n + (b.toNat - 48)) r := by conv => lhs; unfold digV
theorem digV_append (n : Nat) (a b : List UInt8) : digV n (a ++ b) = digV (digV n a) b := by
  induction a generalizing n with
  | nil => rw [digV_nil]; rfl
  | cons x r ih => rw [List.cons_append, digV_cons, digV_cons, ih]
theorem digV_snoc (i : List UInt8) (b : UInt8) : digV 0 (i ++ [b]) = 10 * digV 0 i + (b.toNat - 48) := by rw [digV_append, digV_cons, digV_nil]
theorem digV_cons0 (b : UInt8) (r : List UInt8) : digV 0 (b :: r) = digV (10 * 0 + (b.toNat - 48)) r := digV_cons 0 b r
theorem digV_take (l : List UInt8) (k : Nat) (h : k < l.length) : digV 0 (l.take (k + 1)) = 10 * digV 0 (l.take k) + ((l[k]?.getD 0).toNat - 48) := by
  rw [List.take_add_one, List.getElem?_eq_getElem h]
  exact digV_snoc _ _
theorem digV_mono (n : Nat) (l : List UInt8) : n ≤ digV n l := by
  induction l generalizing n with
  | nil => rw [digV_nil]; exact Nat.le_refl _
  | cons x r ih => rw [digV_cons]; have := ih (10 * n + (x.toNat - 48)); omega
theorem digV_take_le (l : List UInt8) (k : Nat) : digV 0 (l.take k) ≤ digV 0 l := by
  conv => rhs; rw [← List.take_append_drop k l]
  rw [digV_append]; exact digV_mono _ _
/-- No digit 0 ahead of others. -/
def Lead : List UInt8 → Prop
  | [] => False
  | b :: r => b = 48 → r = []
theorem decDigits_ne (n : Nat) : Lib.decDigits n ≠ [] := by
  rw [Lib.decDigits]; split <;> simp
theorem decDigits_dig (n : Nat) : ∀ b ∈ Lib.decDigits n, isDig b = true := by
  induction n using Nat.strongRecOn with
  | _ n ih =>
    rw [Lib.decDigits]
    split
    · rename_i h
      intro b hb
      simp only [List.mem_singleton] at hb
      subst hb
      have : (UInt8.ofNat (48 + n)).toNat = 48 + n := by simp; omega
      rw [isDig, this]; simp; omega
    · intro b hb
      rcases List.mem_append.1 hb with hb | hb
      · exact ih (n / 10) (by omega) b hb
      · simp only [List.mem_singleton] at hb
        subst hb
        have : (UInt8.ofNat (48 + n % 10)).toNat = 48 + n % 10 := by simp; omega
        rw [isDig, this]; simp; omega
theorem digV_decDigits (n : Nat) : digV 0 (Lib.decDigits n) = n := by
  induction n using Nat.strongRecOn with
  | _ n ih =>
    rw [Lib.decDigits]
    split
    · rename_i h
      have : (UInt8.ofNat (48 + n)).toNat = 48 + n := by simp; omega
      rw [digV_cons0, this, digV_nil]; omega
    · rw [digV_snoc, ih (n / 10) (by omega)]
      have : (UInt8.ofNat (48 + n % 10)).toNat = 48 + n % 10 := by simp; omega
      rw [this]; omega
theorem decDigits_lead (n : Nat) : Lead (Lib.decDigits n) := by
  induction n using Nat.strongRecOn with
  | _ n ih =>
    rw [Lib.decDigits]
    split
    · rename_i h; intro _; rfl
    · rename_i h
      have := ih (n / 10) (by omega)
      have h10 := digV_decDigits (n / 10)
      cases hd : Lib.decDigits (n / 10) with
      | nil => exact absurd hd (decDigits_ne _)
      | cons b r =>
        rw [hd] at this h10
        intro hb
        obtain rfl := this hb
        subst hb
        rw [digV_cons0, digV_nil] at h10; simp at h10
        omega
theorem lead_pos {l : List UInt8} (h : Lead l) (hd : ∀ b ∈ l, isDig b = true) (h1 : 2 ≤ l.length) : 1 ≤ digV 0 l := by
  cases l with
  | nil => simp at h1
  | cons b r =>
    have hb := hd b (by simp)
    simp [isDig] at hb
    rw [digV_cons0]
    have := digV_mono (10 * 0 + (b.toNat - 48)) r
    by_cases h48 : b = 48
    · obtain rfl := h h48; simp at h1
    · have : b.toNat ≠ 48 := fun e => h48 (UInt8.toNat_inj.1 e)
      omega
theorem decDigits_digV {l : List UInt8} (h : Lead l) (hd : ∀ b ∈ l, isDig b = true) : Lib.decDigits (digV 0 l) = l := by
  induction hn : l.length generalizing l with
  | zero => cases l with | nil => exact h.elim | cons b r => simp at hn
  | succ k ih =>
    obtain ⟨i, b, rfl⟩ : ∃ i b, l = i ++ [b] := by
      have hne : l ≠ [] := by intro e; subst e; simp at hn
      exact ⟨l.dropLast, l.getLast hne, (List.dropLast_concat_getLast hne).symm⟩
    have hb := hd b (by simp)
    simp only [isDig, Bool.and_eq_true, decide_eq_true_eq] at hb
    rw [digV_snoc]
    cases i with
    | nil =>
      have e : 10 * digV 0 [] + (b.toNat - 48) = b.toNat - 48 := by rw [digV_nil]; omega
      rw [e, Lib.decDigits, dif_pos (by omega)]
      congr 1
      apply UInt8.toNat_inj.1
      have := b.toNat_lt
      simp; omega
    | cons x y =>
      have hi : Lead (x :: y) := by
        intro hx
        have := h hx
        simp at this
      have e2 := ih hi (fun b hb => hd b (by simp at hb ⊢; rcases hb with h | h <;> simp [h])) (by simp at hn ⊢; omega)
      have hp : 1 ≤ digV 0 (x :: y) := by
        have hl := lead_pos h hd (by simp)
        rw [show x :: y ++ [b] = (x :: y) ++ [b] from rfl, digV_snoc] at hl
        by_cases h0 : digV 0 (x :: y) = 0
        · exfalso
          rw [h0] at e2
          rw [Lib.decDigits, dif_pos (by omega)] at e2
          simp only [List.cons.injEq] at e2
          obtain ⟨rfl, rfl⟩ := e2
          have := h rfl
          simp at this
        · omega
      have e3 : (10 * digV 0 (x :: y) + (b.toNat - 48)) / 10 = digV 0 (x :: y) := by omega
      have e4 : (10 * digV 0 (x :: y) + (b.toNat - 48)) % 10 = b.toNat - 48 := by omega
      rw [Lib.decDigits, dif_neg (by omega), e3, e4, e2]
      congr 2
      apply UInt8.toNat_inj.1
      have := b.toNat_lt
      simp; omega

/-- A word as the reference reads it: what it is worth. -/
def refV (l : List UInt8) : Int := if l.head? = some 45 then -(digV 0 (l.filter (· ≠ 45)) : Int) else digV 0 (l.filter (· ≠ 45))
/-- The number that a word is, if it is one. -/
def numOf (l : List UInt8) : Option Int := if -1099511627776 ≤ refV l ∧ refV l ≤ 1099511627776 ∧ Lib.itoa (refV l) = l then some (refV l) else none
def Gm (n : Int) : Prop := -1099511627776 ≤ n ∧ n ≤ 1099511627776
theorem itoa_cases (n : Int) : (0 ≤ n ∧ Lib.itoa n = Lib.decDigits n.toNat) ∨ (n < 0 ∧ Lib.itoa n = 45 :: Lib.decDigits n.natAbs) := by
  unfold Lib.itoa
  by_cases h : n < 0
  · exact .inr ⟨h, if_pos h⟩
  · exact .inl ⟨by omega, if_neg h⟩
theorem dig_45 {l : List UInt8} (h : ∀ b ∈ l, isDig b = true) : l.filter (· ≠ 45) = l := by
  rw [List.filter_eq_self]
  intro b hb
  have := h b hb
  simp only [decide_eq_true_eq]
  intro e; subst e; simp [isDig] at this
theorem refV_itoa (n : Int) : refV (Lib.itoa n) = n := by
  rcases itoa_cases n with ⟨h0, h⟩ | ⟨h0, h⟩
  · rw [h, refV, if_neg, dig_45 (decDigits_dig _), digV_decDigits]
    · omega
    · intro e
      have := decDigits_dig n.toNat 45 (List.mem_of_mem_head? e)
      simp [isDig] at this
  · rw [h, refV, if_pos (by rfl)]
    rw [List.filter_cons, if_neg (by simp), dig_45 (decDigits_dig _), digV_decDigits]
    omega
theorem itoa_inj {a b : Int} (h : Lib.itoa a = Lib.itoa b) : a = b := by rw [← refV_itoa a, h, refV_itoa]
theorem numOf_itoa {n : Int} (h : Gm n) : numOf (Lib.itoa n) = some n := by
  unfold numOf
  rw [refV_itoa, if_pos ⟨h.1, h.2, rfl⟩]
theorem numOf_some {l : List UInt8} {n : Int} (h : numOf l = some n) : Gm n ∧ Lib.itoa n = l := by
  unfold numOf at h
  split at h
  · rename_i hh
    simp only [Option.some.injEq] at h
    subst h
    exact ⟨⟨hh.1, hh.2.1⟩, hh.2.2⟩
  · cases h
theorem numOf_none {l : List UInt8} (h : ∀ n, Gm n → Lib.itoa n ≠ l) : numOf l = none := by
  cases hn : numOf l with
  | none => rfl
  | some n => exact absurd (numOf_some hn).2 (h n (numOf_some hn).1)
theorem numOf_mk {l : List UInt8} {n : Int} (h : Gm n) (he : Lib.itoa n = l) : numOf l = some n := by rw [← he]; exact numOf_itoa h

/-- The program's way. -/
theorem num_bad {l : List UInt8} (h : ¬ Lead (Lib.trimPrefix l [45]) ∨ (∃ b ∈ Lib.trimPrefix l [45], isDig b = false) ∨ l = [45, 48]) : numOf l = none := by
  refine numOf_none fun n hn he => ?_
  subst he
  have hd : ∃ m, Lib.trimPrefix (Lib.itoa n) [45] = Lib.decDigits m ∧ (n < 0 → 1 ≤ m) := by
    rcases itoa_cases n with ⟨h0, h⟩ | ⟨h0, h⟩
    · refine ⟨n.toNat, ?_, by omega⟩
      rw [h, Lib.trimPrefix, if_neg]
      intro e
      cases hd : Lib.decDigits n.toNat with
      | nil => exact absurd hd (decDigits_ne _)
      | cons b r =>
        rw [hd] at e
        simp [Lib.hasPrefix] at e
        have := decDigits_dig n.toNat b (by rw [hd]; simp)
        rw [← e] at this
        simp [isDig] at this
    · refine ⟨n.natAbs, ?_, by omega⟩
      rw [h, Lib.trimPrefix, if_pos (by simp [Lib.hasPrefix])]
      rfl
  obtain ⟨m, hm, hneg⟩ := hd
  rw [hm] at h
  rcases h with h | ⟨b, hb, h⟩ | h
  · exact h (decDigits_lead m)
  · rw [decDigits_dig m b hb] at h; cases h
  · rcases itoa_cases n with ⟨h0, h'⟩ | ⟨h0, h'⟩
    · rw [h'] at h
      have := decDigits_dig n.toNat 45 (by rw [h]; simp)
      simp [isDig] at this
    · rw [h'] at h
      simp only [List.cons.injEq, true_and] at h
      have := digV_decDigits n.natAbs
      rw [h] at this
      rw [digV_cons0, digV_nil] at this
      simp at this
      omega
theorem num_good {l : List UInt8} (h1 : Lead (Lib.trimPrefix l [45])) (h2 : ∀ b ∈ Lib.trimPrefix l [45], isDig b = true) (h3 : l ≠ [45, 48]) (h4 : digV 0 (Lib.trimPrefix l [45]) ≤ 1099511627776) :
    numOf l = some (if (Lib.trimPrefix l [45]).length < l.length then -(digV 0 (Lib.trimPrefix l [45]) : Int) else digV 0 (Lib.trimPrefix l [45])) := by
  have hD := decDigits_digV h1 h2
  by_cases hp : Lib.hasPrefix l [45] = true
  · have ht : Lib.trimPrefix l [45] = l.drop 1 := by rw [Lib.trimPrefix, if_pos hp]; rfl
    obtain ⟨r, rfl⟩ : ∃ r, l = 45 :: r := by
      cases l with
      | nil => simp [Lib.hasPrefix] at hp
      | cons b r => simp [Lib.hasPrefix] at hp; exact ⟨r, by rw [← hp]⟩
    rw [ht] at h1 h2 h4 hD ⊢
    simp only [List.drop_succ_cons, List.drop_zero, List.length_cons, Nat.lt_succ_self, if_true] at h1 h2 h4 hD ⊢
    refine numOf_mk ⟨by omega, by omega⟩ ?_
    have hz : digV 0 r ≠ 0 := by
      intro e
      rw [e, Lib.decDigits, dif_pos (by omega)] at hD
      exact h3 (by rw [← hD]; rfl)
    rw [Lib.itoa, if_pos (by omega)]
    congr 1
    rw [← hD]; congr 1
    rw [hD]; omega
  · have ht : Lib.trimPrefix l [45] = l := by rw [Lib.trimPrefix, if_neg hp]
    rw [ht] at h1 h2 h4 hD ⊢
    rw [if_neg (Nat.lt_irrefl _)]
    refine numOf_mk ⟨by omega, by omega⟩ ?_
    rw [itoa_nat]; exact hD
theorem num_big {l : List UInt8} (h2 : ∀ b ∈ Lib.trimPrefix l [45], isDig b = true) (h4 : 1099511627776 < digV 0 (Lib.trimPrefix l [45])) : numOf l = none := by
  refine numOf_none fun n hn he => ?_
  subst he
  obtain ⟨g1, g2⟩ := hn
  rcases itoa_cases n with ⟨h0, h⟩ | ⟨h0, h⟩
  · have ht : Lib.trimPrefix (Lib.itoa n) [45] = Lib.decDigits n.toNat ∨ Lib.trimPrefix (Lib.itoa n) [45] = (Lib.decDigits n.toNat).drop 1 := by
      rw [h, Lib.trimPrefix]; split
      · exact .inr rfl
      · exact .inl rfl
    rcases ht with ht | ht
    · rw [ht, digV_decDigits] at h4; omega
    · have := digV_decDigits n.toNat
      cases hd : Lib.decDigits n.toNat with
      | nil => exact absurd hd (decDigits_ne _)
      | cons b r =>
        rw [hd] at ht this
        rw [ht] at h4
        simp only [List.drop_succ_cons, List.drop_zero] at h4
        have hm : ∀ (a b : Nat) (l : List UInt8), a ≤ b → digV a l ≤ digV b l := by
          intro a b l
          induction l generalizing a b with
          | nil => exact id
          | cons x y ih => intro hab; exact ih _ _ (by omega)
        rw [digV_cons0] at this
        have := hm 0 (10 * 0 + (b.toNat - 48)) r (by omega)
        omega
  · have ht : Lib.trimPrefix (Lib.itoa n) [45] = Lib.decDigits n.natAbs := by
      rw [h, Lib.trimPrefix, if_pos (by simp [Lib.hasPrefix])]; rfl
    rw [ht, digV_decDigits] at h4
    omega

/-! ### Lines and texts -/
def numsOf : List (List UInt8) → Option (List Int)
  | [] => some []
  | w :: r => match numOf w with
    | none => none
    | some n => match numsOf r with
      | none => none
      | some ns => some (n :: ns)
/-- The numbers of a line with a word and so many numbers. -/
def rowOf (word : List UInt8) (many : Nat) (line : List UInt8) : Option (List Int) :=
  if (cutAt 32 line).length = many + 1 ∧ (cutAt 32 line).headD [] = word then numsOf (cutAt 32 line).tail else none
def rowsOf (word : List UInt8) (many : Nat) : List (List UInt8) → Option (List (List Int))
  | [] => some []
  | l :: r => match rowOf word many l with
    | none => none
    | some x => match rowsOf word many r with
      | none => none
      | some xs => some (x :: xs)
def allOf (hw : List UInt8) (hm : Nat) (iw : List UInt8) (im : Nat) : List (List UInt8) → Option (List (List Int))
  | [] => some []
  | l :: r => match rowOf hw hm l with
    | none => none
    | some x => match rowsOf iw im r with
      | none => none
      | some xs => some (x :: xs)
def isHexd (b : UInt8) : Bool := (decide (48 ≤ b.toNat) && decide (b.toNat ≤ 57)) || (decide (97 ≤ b.toNat) && decide (b.toNat ≤ 102))
/-- The form of an end. -/
def endForm (l : List UInt8) : Bool :=
  l.length == 22 && (l.take 4 == [69, 78, 68, 32] && ((l[12]?.getD 0) == 32 && ((l[21]?.getD 0) == 10 && (((l.drop 4).take 8).all isHexd && ((l.drop 13).take 8).all isHexd))))
/-- All rows of a text, and the error. -/
def parseS (hw : List UInt8) (hm : Nat) (iw : List UInt8) (im : Nat) (l : List UInt8) : List (List Int) × Int :=
  if 1048576 < l.length then ([], 3)
  else if l.length < 23 then ([], 360)
  else if endForm (l.drop (l.length - 22)) = false ∨ l[l.length - 23]?.getD 0 ≠ 10 then ([], 360)
  else match allOf hw hm iw im (cutAt 10 (l.take (l.length - 23))) with
    | none => ([], 360)
    | some rows => if endB (l.take (l.length - 22)) = l.drop (l.length - 22) then (rows, 0) else ([], 361)
def odOf (r : List Int) : Od := ⟨r[0]?.getD 0, r[1]?.getD 0, r[2]?.getD 0, r[3]?.getD 0, r[4]?.getD 0⟩
def rtOf (r : List Int) : Rt := ⟨r[0]?.getD 0, r[1]?.getD 0⟩
def rowF (rows : List (List Int)) : List Int := rows.headD []
def fiOf (rows : List (List Int)) : Fi := ⟨(rowF rows)[0]?.getD 0, (rowF rows)[1]?.getD 0, rows.tail.map odOf⟩
def anOf (rows : List (List Int)) : An := ⟨(rowF rows)[0]?.getD 0, (rowF rows)[1]?.getD 0, rows.tail.map rtOf⟩
def Fi.z : Fi := ⟨0, 0, []⟩
def An.z : An := ⟨0, 0, []⟩
def pF (l : List UInt8) : List (List Int) × Int := parseS wPAY 4 wOrder 5 l
def pA (l : List UInt8) : List (List Int) × Int := parseS wBACK 3 wReturn 2 l
/-- What Read gives. -/
def readF (l : List UInt8) : Fi × Int :=
  if (pF l).2 ≠ 0 then (Fi.z, (pF l).2)
  else if okF (fiOf (pF l).1) = true ∧ (rowF (pF l).1)[2]?.getD 0 = ((fiOf (pF l).1).ods.length : Int) ∧ (rowF (pF l).1)[3]?.getD 0 = tot (fiOf (pF l).1).ods then (fiOf (pF l).1, 0)
  else (Fi.z, 362)
/-- What ReadAnswer gives. -/
def readA (l : List UInt8) : An × Int :=
  if (pA l).2 ≠ 0 then (An.z, (pA l).2)
  else if okA (anOf (pA l).1) = true ∧ (rowF (pA l).1)[2]?.getD 0 = ((anOf (pA l).1).rts.length : Int) then (anOf (pA l).1, 0)
  else (An.z, 362)
end Go.Proofs.YtaccaebdmndkiaaGreatDoor
