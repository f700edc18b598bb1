/- The plain law of changed texts: a byte replaced, inserted, removed, two bytes exchanged: no longer accepted. No program in sight; no conditions. -/
import Derived.Test.YtaccaebdmndkiaaDoorBRdLaw
namespace Go.Proofs.YtaccaebdmndkiaaDoor
open Go
set_option linter.unusedVariables false

/-- What every accepted text is. -/
def Acc (s : List UInt8) : Prop := ∃ B m, s = B ++ endB B ∧ B = m ++ [10] ∧ (∀ b ∈ B, b ≠ 0) ∧ s.length ≤ 1048576
theorem lines_no0 {w : List UInt8} (h : ∀ b ∈ w, b ≠ 0) (rs : List (List Int)) : ∀ b ∈ linesB w rs, b ≠ 0 := by
  induction rs with
  | nil => simp [linesB]
  | cons r rs ih =>
    intro b hb
    simp only [linesB, lineB, List.mem_append, List.mem_singleton] at hb
    rcases hb with ((hb | hb) | hb) | hb
    · exact h b hb
    · exact (numsB_no _ b hb).2
    · subst hb; decide
    · exact ih b hb
theorem acc_of {hw iw : List UInt8} (h1 : ∀ b ∈ hw, b ≠ 0) (h2 : ∀ b ∈ iw, b ≠ 0) (h3 : (32 : UInt8) ∉ hw ∧ (10 : UInt8) ∉ hw) (h4 : (32 : UInt8) ∉ iw ∧ (10 : UInt8) ∉ iw) {hm im : Nat} {l : List UInt8} (h : (parseS hw hm iw im l).2 = 0) : Acc l := by
  obtain ⟨r, rs, _, _, _, hl, hlen⟩ := parse_some (rows := (parseS hw hm iw im l).1) h3.1 h4.1 (by rw [← h])
  obtain ⟨_, m, hm⟩ := cutAt_body h3.2 h4.2 r rs
  refine ⟨_, m, hl, hm, fun b hb => ?_, hlen⟩
  simp only [bodyS, lineB, List.mem_append, List.mem_singleton] at hb
  rcases hb with ((hb | hb) | hb) | hb
  · exact h1 b hb
  · exact (numsB_no _ b hb).2
  · subst hb; decide
  · exact lines_no0 h2 rs b hb
/-- Accepted as a file or as an answer. -/
def taken (l : List UInt8) : Bool := (readF l).2 == 0 || (readA l).2 == 0
theorem acc_taken {l : List UInt8} (h : taken l = true) : Acc l := by
  simp only [taken, Bool.or_eq_true, beq_iff_eq] at h
  rcases h with h | h
  · refine acc_of (hw := wPAY) (hm := 4) (iw := wOrder) (im := 5) (by decide) (by decide) wPAY_no wOrder_no ?_
    unfold readF at h
    split at h
    · rename_i h0; exact absurd h h0
    · rename_i h0; simpa [pF] using h0
  · refine acc_of (hw := wBACK) (hm := 3) (iw := wReturn) (im := 2) (by decide) (by decide) wBACK_no wReturn_no ?_
    unfold readA at h
    split at h
    · rename_i h0; exact absurd h h0
    · rename_i h0; simpa [pA] using h0

/-! ### The sums tell -/
theorem hexk_inj (k : Nat) {a b : Nat} (ha : a < 16 ^ k) (hb : b < 16 ^ k) (h : hexk k a = hexk k b) : a = b := by
  induction k generalizing a b with
  | zero => simp at ha hb; omega
  | succ k ih =>
    rw [hexk, hexk] at h
    obtain ⟨h1, h2⟩ := List.append_inj' h rfl
    have h3 := ih (a := a / 16) (b := b / 16) (by rw [Nat.pow_succ] at ha; omega) (by rw [Nat.pow_succ] at hb; omega) h1
    simp only [List.cons.injEq, and_true] at h2
    have h4 : a % 16 = b % 16 := by
      have ha' := Nat.mod_lt a (by omega : 16 > 0)
      have hb' := Nat.mod_lt b (by omega : 16 > 0)
      generalize a % 16 = x at *
      generalize b % 16 = y at *
      have h5 := congrArg UInt8.toNat h2
      unfold hexd at h5
      have e1 : ∀ n, n < 10 → (UInt8.ofNat (48 + n)).toNat = 48 + n := fun n hn => by simp; omega
      have e2 : ∀ n, n < 16 → (UInt8.ofNat (87 + n)).toNat = 87 + n := fun n hn => by simp; omega
      by_cases hx : x < 10 <;> by_cases hy : y < 10
      · rw [if_pos hx, if_pos hy, e1 _ hx, e1 _ hy] at h5; omega
      · rw [if_pos hx, if_neg hy, e1 _ hx, e2 _ hb'] at h5; omega
      · rw [if_neg hx, if_pos hy, e2 _ ha', e1 _ hy] at h5; omega
      · rw [if_neg hx, if_neg hy, e2 _ ha', e2 _ hb'] at h5; omega
    omega
def endX (a b : List UInt8) : List UInt8 := [69, 78, 68, 32] ++ a ++ [32] ++ b ++ [10]
theorem endB_X (B : List UInt8) : endB B = endX (hex8 (sA B % 4294967296)) (hex8 (sW 0 B % 4294967296)) := rfl
theorem endX_inj {a b a' b' : List UInt8} (h : endX a b = endX a' b') (h1 : a.length = a'.length) : a = a' ∧ b = b' := by
  unfold endX at h
  have h2 := List.append_cancel_right h
  obtain ⟨h3, h4⟩ := List.append_inj h2 (by simp [h1])
  have h5 := List.append_cancel_right h3
  exact ⟨List.append_cancel_left h5, h4⟩
theorem sums_of {B C : List UInt8} (h : endB B = endB C) : sA B % 4294967296 = sA C % 4294967296 ∧ sW 0 B % 4294967296 = sW 0 C % 4294967296 := by
  rw [endB_X, endB_X] at h
  obtain ⟨h1, h2⟩ := endX_inj h (by simp [hex8, hexk_length])
  exact ⟨hexk_inj 8 (by have : (16 : Nat) ^ 8 = 4294967296 := by decide
                        omega) (by have : (16 : Nat) ^ 8 = 4294967296 := by decide
                                   omega) h1, hexk_inj 8 (by have : (16 : Nat) ^ 8 = 4294967296 := by decide
                                                             omega) (by have : (16 : Nat) ^ 8 = 4294967296 := by decide
                                                                        omega) h2⟩
/-- The same text cut in two ways. -/
theorem acc_cut {s : List UInt8} (h : Acc s) {B : List UInt8} {e : List UInt8} (hs : s = B ++ e) (he : e.length = 22) : e = endB B ∧ (∃ m, B = m ++ [10]) ∧ ∀ b ∈ B, b ≠ 0 := by
  obtain ⟨C, m, h1, h2, h3, _⟩ := h
  have h4 : B = C ∧ e = endB C := by
    rw [hs] at h1
    exact List.append_inj' h1 (by rw [he, endB_length])
  obtain ⟨rfl, rfl⟩ := h4
  exact ⟨rfl, ⟨m, h2⟩, h3⟩
/-- change of the law: a byte replaced, inserted, removed. -/
def chg (s : List UInt8) (i how : Nat) (c : UInt8) : List UInt8 :=
  if how = 0 then s.take i ++ c :: s.drop (i + 1) else if how = 1 then s.take i ++ c :: s.drop i else s.take i ++ s.drop (i + 1)
theorem byte_ne {a b : UInt8} (h : a ≠ b) : a.toNat ≠ b.toNat := fun e => h (UInt8.toNat_inj.1 e)
theorem not_replaced {s : List UInt8} (h : Acc s) {i : Nat} (hi : i < s.length) {c : UInt8} (hc : s[i]?.getD 0 ≠ c) : ¬ Acc (chg s i 0 c) := by
  intro hA
  obtain ⟨B, m, rfl, hm, h0, hlen⟩ := h
  rw [chg, if_pos rfl] at hA
  by_cases hb : i < B.length
  · rw [List.take_append_of_le_length (by omega), List.drop_append_of_le_length (by omega)] at hA
    obtain ⟨h1, _, _⟩ := acc_cut hA (B := B.take i ++ c :: B.drop (i + 1)) (e := endB B) (by simp) (endB_length B)
    have h2 := (sums_of h1).1
    have h3 : B = B.take i ++ (B[i]?.getD 0) :: B.drop (i + 1) := by
      rw [List.getElem?_eq_getElem hb, Option.getD_some, ← List.drop_eq_getElem_cons hb, List.take_append_drop]
    rw [List.getElem?_append_left hb] at hc
    have h4 : sA B = sA (B.take i) + ((B[i]?.getD 0).toNat + sA (B.drop (i + 1))) := by
      conv => lhs; rw [h3, sA_append, sA]
    rw [h4, sA_append, sA] at h2
    have h5 := byte_ne hc
    have h6 := (B[i]?.getD 0).toNat_lt
    have h7 := c.toNat_lt
    omega
  · have hj : i - B.length < (endB B).length := by rw [List.length_append] at hi; omega
    rw [List.take_append, List.drop_append, List.take_of_length_le (by omega), List.drop_eq_nil_of_le (by omega), List.nil_append, List.append_assoc] at hA
    obtain ⟨h1, _, _⟩ := acc_cut hA rfl (by rw [endB_length] at hj; simp [endB_length]; omega)
    have h2 : (endB B)[i - B.length]?.getD 0 = c := by
      rw [← h1, List.getElem?_append_right (by simp [endB_length]; omega), List.length_take, endB_length]
      rw [endB_length] at hj
      rw [show i - B.length - min (i - B.length) 22 = 0 by have := Nat.min_eq_left (Nat.le_of_lt hj); omega]; rfl
    rw [List.getElem?_append_right (by omega)] at hc
    exact hc h2
theorem endB_first (B : List UInt8) : ∃ t, endB B = 69 :: 78 :: t := ⟨_, rfl⟩
theorem not_inserted {s : List UInt8} (h : Acc s) {i : Nat} (hi : i ≤ s.length) (c : UInt8) : ¬ Acc (chg s i 1 c) := by
  intro hA
  obtain ⟨B, m, rfl, hm, h0, hlen⟩ := h
  rw [chg, if_neg (by omega), if_pos rfl] at hA
  by_cases hb : i ≤ B.length
  · rw [List.take_append_of_le_length hb, List.drop_append_of_le_length hb] at hA
    obtain ⟨h1, _, h3⟩ := acc_cut hA (B := B.take i ++ c :: B.drop i) (e := endB B) (by simp) (endB_length B)
    have h2 := (sums_of h1).1
    have h4 : sA B = sA (B.take i) + sA (B.drop i) := by
      conv => lhs; rw [← List.take_append_drop i B, sA_append]
    rw [h4, sA_append, sA] at h2
    have h5 := h3 c (by simp)
    have h6 := byte_ne h5
    have h7 := c.toNat_lt
    have h8 : (0 : UInt8).toNat = 0 := rfl
    omega
  · obtain ⟨j, hj⟩ : ∃ j, i = B.length + (j + 1) := ⟨i - B.length - 1, by omega⟩
    obtain ⟨t, ht⟩ := endB_first B
    have hl := endB_length B
    rw [List.length_append] at hi
    rw [List.take_append, List.drop_append, List.take_of_length_le (by omega), List.drop_eq_nil_of_le (by omega), List.nil_append, show i - B.length = j + 1 by omega] at hA
    rw [ht] at hA hl
    simp only [List.take_succ_cons, List.drop_succ_cons] at hA
    simp only [List.length_cons] at hl
    have e : B ++ 69 :: List.take j (78 :: t) ++ c :: List.drop j (78 :: t) = (B ++ [69]) ++ (List.take j (78 :: t) ++ c :: List.drop j (78 :: t)) := by simp
    obtain ⟨_, ⟨m', h2⟩, _⟩ := acc_cut hA e (by simp; omega)
    have h3 := (List.append_inj' h2 rfl).2
    simp at h3
theorem not_removed {s : List UInt8} (h : Acc s) {i : Nat} (hi : i < s.length) (c : UInt8) : ¬ Acc (chg s i 2 c) := by
  intro hA
  obtain ⟨B, m, rfl, hm, h0, hlen⟩ := h
  rw [chg, if_neg (by omega), if_neg (by omega)] at hA
  by_cases hb : i < B.length
  · rw [List.take_append_of_le_length (by omega), List.drop_append_of_le_length (by omega)] at hA
    obtain ⟨h1, _, _⟩ := acc_cut hA (B := B.take i ++ B.drop (i + 1)) (e := endB B) (by simp) (endB_length B)
    have h2 := (sums_of h1).1
    have h3 : B = B.take i ++ (B[i]?.getD 0) :: B.drop (i + 1) := by
      rw [List.getElem?_eq_getElem hb, Option.getD_some, ← List.drop_eq_getElem_cons hb, List.take_append_drop]
    have h4 : sA B = sA (B.take i) + ((B[i]?.getD 0).toNat + sA (B.drop (i + 1))) := by
      conv => lhs; rw [h3, sA_append, sA]
    rw [h4, sA_append] at h2
    have h5 := byte_ne (h0 (B[i]?.getD 0) (getD_mem hb 0))
    have h6 := (B[i]?.getD 0).toNat_lt
    have h8 : (0 : UInt8).toNat = 0 := rfl
    omega
  · have hl := endB_length B
    rw [List.length_append] at hi
    rw [List.take_append, List.drop_append, List.take_of_length_le (by omega), List.drop_eq_nil_of_le (by omega), List.nil_append] at hA
    have e : B ++ (endB B).take (i - B.length) ++ (endB B).drop (i + 1 - B.length) = m ++ (10 :: ((endB B).take (i - B.length) ++ (endB B).drop (i + 1 - B.length))) := by rw [hm]; simp
    obtain ⟨h1, _, _⟩ := acc_cut hA e (by simp; omega)
    obtain ⟨t, ht⟩ := endB_first m
    rw [ht] at h1
    simp at h1

/-! ### Two bytes exchanged -/
def hv (b : UInt8) : Nat := if b.toNat < 58 then b.toNat - 48 else b.toNat - 87
theorem hv_hexd {n : Nat} (h : n < 16) : hv (hexd n) = n := by
  unfold hexd hv
  by_cases hx : n < 10
  · rw [if_pos hx]
    have : (UInt8.ofNat (48 + n)).toNat = 48 + n := by simp; omega
    rw [this, if_pos (by omega)]; omega
  · rw [if_neg hx]
    have : (UInt8.ofNat (87 + n)).toNat = 87 + n := by simp; omega
    rw [this, if_neg (by omega)]; omega
/-- The value of hexadecimal digits. -/
def hexV : List UInt8 → Nat
  | [] => 0
  | b :: r => hv b * 16 ^ r.length + hexV r
theorem hexV_append (a b : List UInt8) : hexV (a ++ b) = hexV a * 16 ^ b.length + hexV b := by
  induction a with
  | nil => simp [hexV]
  | cons x r ih => simp only [List.cons_append, hexV, ih, List.length_append, Nat.pow_add, Nat.add_mul, Nat.mul_assoc]; omega
theorem hexV_hexk (k n : Nat) (h : n < 16 ^ k) : hexV (hexk k n) = n := by
  induction k generalizing n with
  | zero => simp at h; subst h; rfl
  | succ k ih =>
    rw [hexk, hexV_append, ih _ (by rw [Nat.pow_succ] at h; omega)]
    simp only [hexV, hv_hexd (Nat.mod_lt n (by omega : 16 > 0)), List.length_singleton, List.length_nil]
    omega
theorem isHexd_bd {b : UInt8} (h : isHexd b = true) : (48 ≤ b.toNat ∧ b.toNat ≤ 57) ∨ (97 ≤ b.toNat ∧ b.toNat ≤ 102) := by
  simpa [isHexd] using h
/-- s with the bytes at i and k exchanged. -/
def swp (s : List UInt8) (i k : Nat) : List UInt8 := (s.set i (s[k]?.getD 0)).set k (s[i]?.getD 0)
theorem set_eq {l : List UInt8} {i : Nat} (h : i < l.length) (x : UInt8) : l.set i x = l.take i ++ x :: l.drop (i + 1) := by
  rw [List.set_eq_take_append_cons_drop, if_pos h]
theorem sA_set {l : List UInt8} {i : Nat} (h : i < l.length) (x : UInt8) : sA (l.set i x) + (l[i]?.getD 0).toNat = sA l + x.toNat := by
  induction l generalizing i with
  | nil => simp at h
  | cons b r ih =>
    cases i with
    | zero => simp only [List.set_cons_zero, sA, List.getElem?_cons_zero, Option.getD_some]; omega
    | succ i =>
      have := ih (i := i) (by simpa using h)
      simp only [List.set_cons_succ, sA, List.getElem?_cons_succ]; omega
theorem sW_set {l : List UInt8} {i : Nat} (h : i < l.length) (x : UInt8) (j : Nat) : sW j (l.set i x) + (j + i + 1) * (l[i]?.getD 0).toNat = sW j l + (j + i + 1) * x.toNat := by
  induction l generalizing i j with
  | nil => simp at h
  | cons b r ih =>
    cases i with
    | zero => simp only [List.set_cons_zero, sW, List.getElem?_cons_zero, Option.getD_some, Nat.add_zero]; omega
    | succ i =>
      have := ih (i := i) (by simpa using h) (j + 1)
      rw [show j + 1 + i + 1 = j + (i + 1) + 1 by omega] at this
      simp only [List.set_cons_succ, sW, List.getElem?_cons_succ]; omega
theorem hexV_set {l : List UInt8} {i : Nat} (h : i < l.length) (x : UInt8) : hexV (l.set i x) + hv (l[i]?.getD 0) * 16 ^ (l.length - 1 - i) = hexV l + hv x * 16 ^ (l.length - 1 - i) := by
  induction l generalizing i with
  | nil => simp at h
  | cons b r ih =>
    cases i with
    | zero => simp only [List.set_cons_zero, hexV, List.getElem?_cons_zero, Option.getD_some, List.length_cons, Nat.add_sub_cancel, Nat.sub_zero]; omega
    | succ i =>
      have := ih (i := i) (by simpa using h)
      simp only [List.set_cons_succ, hexV, List.getElem?_cons_succ, List.length_set, List.length_cons]
      rw [show r.length + 1 - 1 - (i + 1) = r.length - 1 - i by omega]; omega
theorem swp_mid {B E : List UInt8} {i k : Nat} (hk : k < B.length) (hik : i < k) : swp (B ++ E) i k = (B.set i (B[k]?.getD 0)).set k (B[i]?.getD 0) ++ E := by
  unfold swp
  rw [List.getElem?_append_left hk, List.getElem?_append_left (by omega), List.set_append_left _ _ (by omega), List.set_append_left _ _ (by simpa using hk)]
theorem swp_cross {B E : List UInt8} {i k : Nat} (hi : i < B.length) (hk : B.length ≤ k) : swp (B ++ E) i k = B.set i (E[k - B.length]?.getD 0) ++ E.set (k - B.length) (B[i]?.getD 0) := by
  unfold swp
  rw [List.getElem?_append_right hk, List.getElem?_append_left hi, List.set_append_left _ _ (by omega), List.set_append_right _ _ (by simpa using hk), List.length_set]
theorem swp_end {B E : List UInt8} {i k : Nat} (hi : B.length ≤ i) (hk : B.length ≤ k) : swp (B ++ E) i k = B ++ (E.set (i - B.length) (E[k - B.length]?.getD 0)).set (k - B.length) (E[i - B.length]?.getD 0) := by
  unfold swp
  rw [List.getElem?_append_right hk, List.getElem?_append_right hi, List.set_append_right _ _ hi, List.set_append_right _ _ hk]
theorem endX_set {a b : List UInt8} (ha : a.length = 8) (hb : b.length = 8) {j : Nat} (hj : j < 22) (x : UInt8) {c d : List UInt8} (hc : c.length = 8) (hd : d.length = 8) (h : (endX a b).set j x = endX c d) :
    (x = (endX a b)[j]?.getD 0) ∨ (4 ≤ j ∧ j < 12 ∧ c = a.set (j - 4) x ∧ d = b ∧ (endX a b)[j]?.getD 0 = a[j - 4]?.getD 0) ∨ (13 ≤ j ∧ j < 21 ∧ c = a ∧ d = b.set (j - 13) x) := by
  match a, ha with
  | [a0, a1, a2, a3, a4, a5, a6, a7], _ =>
  match b, hb with
  | [b0, b1, b2, b3, b4, b5, b6, b7], _ =>
  match c, hc with
  | [c0, c1, c2, c3, c4, c5, c6, c7], _ =>
  match d, hd with
  | [d0, d1, d2, d3, d4, d5, d6, d7], _ =>
    have hj' : j = 0 ∨ j = 1 ∨ j = 2 ∨ j = 3 ∨ j = 4 ∨ j = 5 ∨ j = 6 ∨ j = 7 ∨ j = 8 ∨ j = 9 ∨ j = 10 ∨ j = 11 ∨ j = 12 ∨ j = 13 ∨ j = 14 ∨ j = 15 ∨ j = 16 ∨ j = 17 ∨ j = 18 ∨ j = 19 ∨ j = 20 ∨ j = 21 := by omega
    rcases hj' with rfl | rfl | rfl | rfl | rfl | rfl | rfl | rfl | rfl | rfl | rfl | rfl | rfl | rfl | rfl | rfl | rfl | rfl | rfl | rfl | rfl | rfl
    all_goals
      simp [endX] at h ⊢
      try (simp [h])
theorem not_swapped {s : List UInt8} (h : Acc s) {i k : Nat} (hik : i < k) (hk : k < s.length) (hne : s[i]?.getD 0 ≠ s[k]?.getD 0) : ¬ Acc (swp s i k) := by
  intro hA
  obtain ⟨B, m, rfl, hm, h0, hlen⟩ := h
  have hl := endB_length B
  rw [List.length_append, hl] at hk hlen
  by_cases hkB : k < B.length
  · rw [swp_mid hkB hik] at hA
    obtain ⟨h1, _, _⟩ := acc_cut hA rfl (endB_length B)
    have h2 := (sums_of h1).2
    rw [List.getElem?_append_left hkB, List.getElem?_append_left (by omega)] at hne
    have h3 := sW_set (l := B) (i := i) (by omega) (B[k]?.getD 0) 0
    have h4 := sW_set (l := B.set i (B[k]?.getD 0)) (i := k) (by simpa using hkB) (B[i]?.getD 0) 0
    rw [List.getElem?_set_ne (by omega)] at h4
    have h5 := byte_ne hne
    have h6 := (B[i]?.getD 0).toNat_lt
    have h7 := (B[k]?.getD 0).toNat_lt
    generalize (B[i]?.getD 0).toNat = x at *
    generalize (B[k]?.getD 0).toNat = y at *
    generalize sW 0 ((B.set i (B[k]?.getD 0)).set k (B[i]?.getD 0)) = P at *
    generalize sW 0 (B.set i (B[k]?.getD 0)) = Q at *
    generalize sW 0 B = R at *
    obtain ⟨d, rfl⟩ : ∃ d, k = i + 1 + d := ⟨k - i - 1, by omega⟩
    have e1 : (0 + (i + 1 + d) + 1) * y = (0 + i + 1) * y + (d + 1) * y := by rw [← Nat.add_mul]; congr 1; omega
    have e2 : (0 + (i + 1 + d) + 1) * x = (0 + i + 1) * x + (d + 1) * x := by rw [← Nat.add_mul]; congr 1; omega
    rw [e1, e2] at h4
    have e3 : P + (d + 1) * y = R + (d + 1) * x := by omega
    rcases Nat.lt_or_gt_of_ne h5 with hlt | hlt
    · obtain ⟨z, rfl⟩ : ∃ z, y = x + (z + 1) := ⟨y - x - 1, by omega⟩
      rw [Nat.mul_add] at e3
      have e4 : 1 ≤ (d + 1) * (z + 1) := Nat.mul_pos (by omega) (by omega)
      have e5 : (d + 1) * (z + 1) ≤ 1048576 * 256 := Nat.mul_le_mul (by omega) (by omega)
      omega
    · obtain ⟨z, rfl⟩ : ∃ z, x = y + (z + 1) := ⟨x - y - 1, by omega⟩
      rw [Nat.mul_add] at e3
      have e4 : 1 ≤ (d + 1) * (z + 1) := Nat.mul_pos (by omega) (by omega)
      have e5 : (d + 1) * (z + 1) ≤ 1048576 * 256 := Nat.mul_le_mul (by omega) (by omega)
      omega
  · by_cases hiB : i < B.length
    · rw [swp_cross hiB (by omega)] at hA
      rw [List.getElem?_append_left hiB, List.getElem?_append_right (by omega)] at hne
      obtain ⟨h1, _, _⟩ := acc_cut hA rfl (by rw [List.length_set]; exact endB_length B)
      have hA2 := sA_set hiB ((endB B)[k - B.length]?.getD 0)
      have hfx : (hex8 (sA B % 4294967296)).all isHexd = true := hexk_form _ _
      have hj : k - B.length < 22 := by omega
      generalize k - B.length = j at *
      obtain ⟨y, hy⟩ : ∃ y, (endB B)[j]?.getD 0 = y := ⟨_, rfl⟩
      rw [hy] at hne hA2 h1
      have hx8 : (16 : Nat) ^ 8 = 4294967296 := by decide
      have hva : hexV (hex8 (sA B % 4294967296)) = sA B % 4294967296 := hexV_hexk 8 _ (by omega)
      have hvc : hexV (hex8 (sA (B.set i y) % 4294967296)) = sA (B.set i y) % 4294967296 := hexV_hexk 8 _ (by omega)
      have hform : (hex8 (sA (B.set i y) % 4294967296)).all isHexd = true := hexk_form _ _
      rw [endB_X (B.set i y), endB_X B] at h1
      have hla : (hex8 (sA B % 4294967296)).length = 8 := hexk_length _ _
      have hlb : (hex8 (sW 0 B % 4294967296)).length = 8 := hexk_length _ _
      have hlc : (hex8 (sA (B.set i y) % 4294967296)).length = 8 := hexk_length _ _
      have hld : (hex8 (sW 0 (B.set i y) % 4294967296)).length = 8 := hexk_length _ _
      rcases endX_set hla hlb hj _ hlc hld h1 with h2 | ⟨h2, h3, h4, _, h6⟩ | ⟨h2, h3, h4, _⟩
      · exact hne (by rw [h2, ← endB_X, hy])
      · have h5 := hexV_set (l := hex8 (sA B % 4294967296)) (i := j - 4) (by omega) (B[i]?.getD 0)
        rw [← endB_X, hy] at h6
        rw [← h4, hvc, hva, ← h6, hla] at h5
        have hb1 : isHexd (B[i]?.getD 0) = true := by
          rw [h4, List.all_eq_true] at hform
          exact hform _ (List.mem_set (by omega) _)
        have hb2 : isHexd y = true := by
          rw [h6]
          rw [List.all_eq_true] at hfx
          exact hfx _ (getD_mem (by omega) 0)
        generalize B[i]?.getD 0 = x at *
        have hne' := byte_ne hne
        have g1 := isHexd_bd hb1
        have g2 := isHexd_bd hb2
        have hp : 16 ^ (8 - 1 - (j - 4)) ≤ 268435456 := by
          have : (16 : Nat) ^ (8 - 1 - (j - 4)) ≤ 16 ^ 7 := Nat.pow_le_pow_right (by omega) (by omega)
          have h7 : (16 : Nat) ^ 7 = 268435456 := by decide
          omega
        have hp1 : 1 ≤ 16 ^ (8 - 1 - (j - 4)) := Nat.one_le_pow _ _ (by omega)
        generalize 16 ^ (8 - 1 - (j - 4)) = p at *
        generalize sA (B.set i y) = P at *
        generalize sA B = R at *
        have v1 : hv x = if x.toNat < 58 then x.toNat - 48 else x.toNat - 87 := rfl
        have v2 : hv y = if y.toNat < 58 then y.toNat - 48 else y.toNat - 87 := rfl
        rcases Nat.lt_or_gt_of_ne hne' with hlt | hlt
        · have hlt2 : hv x < hv y := by rw [v1, v2]; split <;> split <;> omega
          have hle : hv y ≤ 15 := by rw [v2]; split <;> omega
          obtain ⟨z, hz⟩ : ∃ z, hv y = hv x + (z + 1) := ⟨hv y - hv x - 1, by omega⟩
          rw [hz, Nat.add_mul] at h5
          have e4 : 1 ≤ (z + 1) * p := Nat.mul_pos (by omega) (by omega)
          have e5 : (z + 1) * p ≤ 15 * 268435456 := Nat.mul_le_mul (by omega) (by omega)
          omega
        · have hlt2 : hv y < hv x := by rw [v1, v2]; split <;> split <;> omega
          have hle : hv x ≤ 15 := by rw [v1]; split <;> omega
          obtain ⟨z, hz⟩ : ∃ z, hv x = hv y + (z + 1) := ⟨hv x - hv y - 1, by omega⟩
          rw [hz, Nat.add_mul] at h5
          have e4 : 1 ≤ (z + 1) * p := Nat.mul_pos (by omega) (by omega)
          have e5 : (z + 1) * p ≤ 15 * 268435456 := Nat.mul_le_mul (by omega) (by omega)
          omega
      · rw [h4] at hvc
        have h5 := byte_ne hne
        have h6 := (B[i]?.getD 0).toNat_lt
        have h7 := y.toNat_lt
        omega
    · rw [swp_end (by omega) (by omega)] at hA
      rw [List.getElem?_append_right (by omega), List.getElem?_append_right (by omega)] at hne
      obtain ⟨h1, _, _⟩ := acc_cut hA rfl (by rw [List.length_set, List.length_set]; exact endB_length B)
      have h2 : (endB B)[k - B.length]?.getD 0 = (endB B)[i - B.length]?.getD 0 := by
        conv => lhs; rw [← h1, List.getElem?_set_self (by rw [List.length_set, hl]; omega)]
        rfl
      exact hne h2.symm
end Go.Proofs.YtaccaebdmndkiaaDoor
