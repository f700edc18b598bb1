/- The bank's files, answers and texts as plain data, and what the functions of layer 36 compute. No program in sight; no conditions. -/
import Derived.Lib.ItoaNum
namespace Go.Proofs.YtaccaebdmndkiaaGreatDoor
open Go
set_option linter.unusedVariables false

/-- An order. -/
structure Od where
  num : Int
  acc : Int
  gross : Int
  tax : Int
  net : Int
/-- A file. -/
structure Fi where
  num : Int
  day : Int
  ods : List Od
/-- A return. -/
structure Rt where
  ord : Int
  why : Int
/-- An answer. -/
structure An where
  num : Int
  day : Int
  rts : List Rt

def Od.z : Od := ⟨0, 0, 0, 0, 0⟩
def Rt.z : Rt := ⟨0, 0⟩

def okNum (n : Int) : Bool := decide (1 ≤ n) && decide (n ≤ 1099511627776)
def okHead (n d : Int) : Bool := okNum n && (decide (0 ≤ d) && decide (d < 65536))
/-- An order is valid by itself. -/
def okOd (o : Od) : Bool :=
  okNum o.num && (okNum o.acc && (decide (0 ≤ o.gross) && (decide (o.gross ≤ 1099511627776) && (decide (-1099511627776 ≤ o.tax) && (decide (o.tax ≤ o.gross) &&
    (decide (o.net = o.gross - o.tax) && decide (o.net ≤ 1099511627776)))))))
/-- Orders behind one with the number last. -/
def okTo (last : Int) : List Od → Bool
  | [] => true
  | o :: r => okOd o && (decide (last < o.num) && okTo o.num r)
def tot : List Od → Int
  | [] => 0
  | o :: r => o.net + tot r
/-- A file is valid. -/
def okF (f : Fi) : Bool := okHead f.num f.day && (decide (f.ods.length ≤ 1000) && (okTo 0 f.ods && decide (tot f.ods ≤ 1099511627776)))

def okRt (r : Rt) : Bool := okNum r.ord && (decide (1 ≤ r.why) && decide (r.why ≤ 9))
def okRs (last : Int) : List Rt → Bool
  | [] => true
  | r :: l => okRt r && (decide (last < r.ord) && okRs r.ord l)
/-- An answer is valid. -/
def okA (a : An) : Bool := okHead a.num a.day && (decide (a.rts.length ≤ 1000) && okRs 0 a.rts)

theorem okNum_iff (n : Int) : okNum n = true ↔ 1 ≤ n ∧ n ≤ 1099511627776 := by simp [okNum]
theorem okHead_iff (n d : Int) : okHead n d = true ↔ (1 ≤ n ∧ n ≤ 1099511627776) ∧ 0 ≤ d ∧ d < 65536 := by simp [okHead, okNum]
theorem okOd_iff (o : Od) : okOd o = true ↔ (1 ≤ o.num ∧ o.num ≤ 1099511627776) ∧ (1 ≤ o.acc ∧ o.acc ≤ 1099511627776) ∧ 0 ≤ o.gross ∧ o.gross ≤ 1099511627776 ∧ -1099511627776 ≤ o.tax ∧ o.tax ≤ o.gross ∧ o.net = o.gross - o.tax ∧ o.net ≤ 1099511627776 := by
  simp [okOd, okNum]
theorem okTo_all {last : Int} {l : List Od} (h : okTo last l = true) : ∀ o ∈ l, okOd o = true := by
  induction l generalizing last with
  | nil => intro o ho; cases ho
  | cons x r ih =>
    simp only [okTo, Bool.and_eq_true] at h
    intro o ho
    rcases List.mem_cons.1 ho with rfl | ho
    · exact h.1
    · exact ih h.2.2 o ho
theorem okTo_lt {last : Int} {l : List Od} (h : okTo last l = true) : ∀ o ∈ l, last < o.num := by
  induction l generalizing last with
  | nil => intro o ho; cases ho
  | cons x r ih =>
    simp only [okTo, Bool.and_eq_true, decide_eq_true_eq] at h
    intro o ho
    rcases List.mem_cons.1 ho with rfl | ho
    · exact h.2.1
    · have := ih h.2.2 o ho; omega
theorem okTo_drop {last : Int} {l : List Od} (h : okTo last l = true) : ∀ k, ∃ last', okTo last' (l.drop k) = true := by
  intro k
  induction k generalizing l last with
  | zero => exact ⟨last, by simpa using h⟩
  | succ k ih =>
    cases l with
    | nil => exact ⟨0, rfl⟩
    | cons x r =>
      simp only [okTo, Bool.and_eq_true] at h
      exact ih h.2.2
theorem okRs_all {last : Int} {l : List Rt} (h : okRs last l = true) : ∀ o ∈ l, okRt o = true := by
  induction l generalizing last with
  | nil => intro o ho; cases ho
  | cons x r ih =>
    simp only [okRs, Bool.and_eq_true] at h
    intro o ho
    rcases List.mem_cons.1 ho with rfl | ho
    · exact h.1
    · exact ih h.2.2 o ho
theorem okRs_lt {last : Int} {l : List Rt} (h : okRs last l = true) : ∀ o ∈ l, last < o.ord := by
  induction l generalizing last with
  | nil => intro o ho; cases ho
  | cons x r ih =>
    simp only [okRs, Bool.and_eq_true, decide_eq_true_eq] at h
    intro o ho
    rcases List.mem_cons.1 ho with rfl | ho
    · exact h.2.1
    · have := ih h.2.2 o ho; omega
theorem okRs_drop {last : Int} {l : List Rt} (h : okRs last l = true) : ∀ k, ∃ last', okRs last' (l.drop k) = true := by
  intro k
  induction k generalizing l last with
  | zero => exact ⟨last, by simpa using h⟩
  | succ k ih =>
    cases l with
    | nil => exact ⟨0, rfl⟩
    | cons x r =>
      simp only [okRs, Bool.and_eq_true] at h
      exact ih h.2.2
theorem net_bd {o : Od} (h : okOd o = true) : 0 ≤ o.net ∧ o.net ≤ 1099511627776 := by
  obtain ⟨_, _, h1, h2, h3, h4, h5, h6⟩ := (okOd_iff o).1 h
  omega
theorem tot_bd {l : List Od} (h : ∀ o ∈ l, okOd o = true) : 0 ≤ tot l ∧ tot l ≤ l.length * 1099511627776 := by
  induction l with
  | nil => simp [tot]
  | cons x r ih =>
    have h1 := ih fun o ho => h o (List.mem_cons_of_mem _ ho)
    have h2 := net_bd (h x (by simp))
    simp only [tot, List.length_cons]
    omega
theorem tot_append (l m : List Od) : tot (l ++ m) = tot l + tot m := by
  induction l with
  | nil => simp [tot]
  | cons x r ih => simp only [List.cons_append, tot, ih]; omega
theorem tot_take (l : List Od) (k : Nat) (h : k < l.length) : tot (l.take (k + 1)) = tot (l.take k) + (l[k]?.getD Od.z).net := by
  rw [List.take_add_one, List.getElem?_eq_getElem h, tot_append]; simp [tot]
theorem tot_drop (l : List Od) (k : Nat) (h : k < l.length) : tot (l.drop k) = (l[k]?.getD Od.z).net + tot (l.drop (k + 1)) := by
  rw [List.drop_eq_getElem_cons h, List.getElem?_eq_getElem h]; rfl
theorem okTo_step (l : List Od) (k : Nat) (last : Int) (h : k < l.length) : okTo last (l.drop k) = (okOd (l[k]?.getD Od.z) && (decide (last < (l[k]?.getD Od.z).num) && okTo (l[k]?.getD Od.z).num (l.drop (k + 1)))) := by
  rw [List.drop_eq_getElem_cons h, List.getElem?_eq_getElem h]; rfl
theorem okRs_step (l : List Rt) (k : Nat) (last : Int) (h : k < l.length) : okRs last (l.drop k) = (okRt (l[k]?.getD Rt.z) && (decide (last < (l[k]?.getD Rt.z).ord) && okRs (l[k]?.getD Rt.z).ord (l.drop (k + 1)))) := by
  rw [List.drop_eq_getElem_cons h, List.getElem?_eq_getElem h]; rfl
theorem getD_mem {α : Type} {l : List α} {k : Nat} (h : k < l.length) (z : α) : l[k]?.getD z ∈ l := by
  rw [List.getElem?_eq_getElem h]; simp

/-! ### Texts -/
def numsB : List Int → List UInt8
  | [] => []
  | n :: r => 32 :: Lib.itoa n ++ numsB r
def lineB (w : List UInt8) (ns : List Int) : List UInt8 := w ++ numsB ns ++ [10]
theorem numsB_append (l m : List Int) : numsB (l ++ m) = numsB l ++ numsB m := by
  induction l with
  | nil => rfl
  | cons x r ih => simp [numsB, ih]
theorem numsB_take (l : List Int) (k : Nat) (h : k < l.length) : numsB (l.take (k + 1)) = numsB (l.take k) ++ 32 :: Lib.itoa (l[k]?.getD 0) := by
  rw [List.take_add_one, List.getElem?_eq_getElem h, numsB_append]; simp [numsB]

def wPAY : List UInt8 := [80, 65, 89]
def wOrder : List UInt8 := [111, 114, 100, 101, 114]
def wBACK : List UInt8 := [66, 65, 67, 75]
def wReturn : List UInt8 := [114, 101, 116, 117, 114, 110]
def odL (o : Od) : List UInt8 := lineB wOrder [o.num, o.acc, o.gross, o.tax, o.net]
def rtL (r : Rt) : List UInt8 := lineB wReturn [r.ord, r.why]
def odsB : List Od → List UInt8
  | [] => []
  | o :: r => odL o ++ odsB r
def rtsB : List Rt → List UInt8
  | [] => []
  | o :: r => rtL o ++ rtsB r
theorem odsB_append (l m : List Od) : odsB (l ++ m) = odsB l ++ odsB m := by
  induction l with
  | nil => rfl
  | cons x r ih => simp [odsB, ih]
theorem rtsB_append (l m : List Rt) : rtsB (l ++ m) = rtsB l ++ rtsB m := by
  induction l with
  | nil => rfl
  | cons x r ih => simp [rtsB, ih]
theorem odsB_take (l : List Od) (k : Nat) (h : k < l.length) : odsB (l.take (k + 1)) = odsB (l.take k) ++ odL (l[k]?.getD Od.z) := by
  rw [List.take_add_one, List.getElem?_eq_getElem h, odsB_append]; simp [odsB]
theorem rtsB_take (l : List Rt) (k : Nat) (h : k < l.length) : rtsB (l.take (k + 1)) = rtsB (l.take k) ++ rtL (l[k]?.getD Rt.z) := by
  rw [List.take_add_one, List.getElem?_eq_getElem h, rtsB_append]; simp [rtsB]
def headF (f : Fi) : List UInt8 := lineB wPAY [f.num, f.day, f.ods.length, tot f.ods]
def headA (a : An) : List UInt8 := lineB wBACK [a.num, a.day, a.rts.length]
def bodyF (f : Fi) : List UInt8 := headF f ++ odsB f.ods
def bodyA (a : An) : List UInt8 := headA a ++ rtsB a.rts

/-- The two sums. -/
def sA : List UInt8 → Nat
  | [] => 0
  | b :: r => b.toNat + sA r
def sW (i : Nat) : List UInt8 → Nat
  | [] => 0
  | b :: r => (i + 1) * b.toNat + sW (i + 1) r
theorem sA_append (l m : List UInt8) : sA (l ++ m) = sA l + sA m := by
  induction l with
  | nil => simp [sA]
  | cons x r ih => simp only [List.cons_append, sA, ih]; omega
theorem sW_append (i : Nat) (l m : List UInt8) : sW i (l ++ m) = sW i l + sW (i + l.length) m := by
  induction l generalizing i with
  | nil => simp [sW]
  | cons x r ih => simp only [List.cons_append, sW, ih, List.length_cons]; rw [Nat.add_assoc, Nat.add_assoc, Nat.add_comm 1]
theorem sA_take (l : List UInt8) (k : Nat) (h : k < l.length) : sA (l.take (k + 1)) = sA (l.take k) + (l[k]?.getD 0).toNat := by
  rw [List.take_add_one, List.getElem?_eq_getElem h, sA_append]; simp [sA]
theorem sW_take (l : List UInt8) (k : Nat) (h : k < l.length) : sW 0 (l.take (k + 1)) = sW 0 (l.take k) + (k + 1) * (l[k]?.getD 0).toNat := by
  rw [List.take_add_one, List.getElem?_eq_getElem h, sW_append]
  have : (l.take k).length = k := by rw [List.length_take]; omega
  simp [sW, this]
def hexd (n : Nat) : UInt8 := if n < 10 then UInt8.ofNat (48 + n) else UInt8.ofNat (87 + n)
/-- The last k hexadecimal digits of n, the first ahead. -/
def hexk : Nat → Nat → List UInt8
  | 0, _ => []
  | k + 1, n => hexk k (n / 16) ++ [hexd (n % 16)]
theorem hexk_cons (k n : Nat) : hexk (k + 1) n = hexd (n / 16 ^ k % 16) :: hexk k n := by
  induction k generalizing n with
  | zero => simp [hexk]
  | succ k ih =>
    rw [hexk, ih, hexk, List.cons_append, Nat.div_div_eq_div_mul, Nat.pow_succ, Nat.mul_comm 16]
theorem hexk_pad (m j n : Nat) (h : n < 16 ^ m) : hexk (m + j) n = List.replicate j 48 ++ hexk m n := by
  induction j with
  | zero => simp
  | succ j ih =>
    have h1 : 16 ^ m ≤ 16 ^ (m + j) := Nat.pow_le_pow_right (by omega) (by omega)
    rw [← Nat.add_assoc, hexk_cons, ih, Nat.div_eq_of_lt (by omega), List.replicate_succ, List.cons_append]
    rfl
def hex8 (n : Nat) : List UInt8 := hexk 8 n
/-- The digits of a number ahead of its last one. -/
def decPre (n : Nat) : List UInt8 := if n < 10 then [] else Lib.decDigits (n / 10)
theorem decPre_all (n : Nat) : decPre n ++ [UInt8.ofNat (48 + n % 10)] = Lib.decDigits n := by
  unfold decPre
  by_cases h : n < 10
  · rw [if_pos h, Lib.decDigits, dif_pos h, Nat.mod_eq_of_lt h]; rfl
  · rw [if_neg h]
    conv => rhs; rw [Lib.decDigits, dif_neg h]
theorem decPre_step (n : Nat) (h : ¬ n < 10) (out : List UInt8) : decPre (n / 10) ++ (UInt8.ofNat (48 + n / 10 % 10) :: out) = decPre n ++ out := by
  have := decPre_all (n / 10)
  conv => rhs; rw [decPre, if_neg h, ← this]
  simp
theorem decPre_end (n : Nat) (h : n < 10) (out : List UInt8) : decPre n ++ out = out := by rw [decPre, if_pos h]; rfl
theorem itoa_nat (n : Nat) : Lib.itoa n = Lib.decDigits n := by
  rw [Lib.itoa, if_neg (by omega)]; simp
theorem itoa_neg (n : Int) (h : n < 0) : Lib.itoa n = 45 :: Lib.itoa (-n) := by
  obtain ⟨m, hm⟩ : ∃ m : Nat, -n = m := ⟨(-n).toNat, by omega⟩
  rw [hm, itoa_nat, Lib.itoa, if_pos h]
  congr 2; omega
theorem hexk_length (k n : Nat) : (hexk k n).length = k := by
  induction k generalizing n with
  | zero => rfl
  | succ k ih => simp [hexk, ih]
def endB (l : List UInt8) : List UInt8 := [69, 78, 68, 32] ++ hex8 (sA l % 4294967296) ++ [32] ++ hex8 (sW 0 l % 4294967296) ++ [10]
theorem endB_length (l : List UInt8) : (endB l).length = 22 := by simp [endB, hex8, hexk_length]
def textF (f : Fi) : List UInt8 := bodyF f ++ endB (bodyF f)
def textA (a : An) : List UInt8 := bodyA a ++ endB (bodyA a)

/-! ### How long they are -/
theorem dec_len (k n : Nat) (h : n < 10 ^ (k + 1)) : (Lib.decDigits n).length ≤ k + 1 := by
  induction k generalizing n with
  | zero => rw [Lib.decDigits, dif_pos (by simpa using h)]; simp
  | succ k ih =>
    by_cases h10 : n < 10
    · rw [Lib.decDigits, dif_pos h10]; simp
    · rw [Lib.decDigits, dif_neg h10, List.length_append]
      have := ih (n / 10) (by rw [Nat.pow_succ] at h; omega)
      simp only [List.length_singleton]; omega
/-- A number of at most 16 digits. -/
def Gn (n : Int) : Prop := -10000000000000000 < n ∧ n < 10000000000000000
theorem itoa_len {n : Int} (h : Gn n) : (Lib.itoa n).length ≤ 17 := by
  unfold Lib.itoa
  obtain ⟨h1, h2⟩ := h
  by_cases h0 : n < 0
  · rw [if_pos h0, List.length_cons]
    have := dec_len 15 n.natAbs (by omega)
    omega
  · rw [if_neg h0]
    have := dec_len 15 n.toNat (by omega)
    omega
theorem numsB_len {l : List Int} (h : ∀ n ∈ l, Gn n) : (numsB l).length ≤ 18 * l.length := by
  induction l with
  | nil => simp [numsB]
  | cons x r ih =>
    have h1 := ih fun n hn => h n (List.mem_cons_of_mem _ hn)
    have h2 := itoa_len (h x (by simp))
    simp only [numsB, List.length_append, List.length_cons]
    omega
theorem odGn {o : Od} (h : okOd o = true) : ∀ n ∈ [o.num, o.acc, o.gross, o.tax, o.net], Gn n := by
  have := (okOd_iff o).1 h
  intro n hn
  simp only [List.mem_cons, List.not_mem_nil, or_false] at hn
  unfold Gn
  rcases hn with rfl | rfl | rfl | rfl | rfl <;> omega
theorem rtGn {r : Rt} (h : okRt r = true) : ∀ n ∈ [r.ord, r.why], Gn n := by
  simp [okRt, okNum] at h
  intro n hn
  simp only [List.mem_cons, List.not_mem_nil, or_false] at hn
  unfold Gn
  rcases hn with rfl | rfl <;> omega
theorem odsB_len {l : List Od} (h : ∀ o ∈ l, okOd o = true) : (odsB l).length ≤ 100 * l.length := by
  induction l with
  | nil => simp [odsB]
  | cons x r ih =>
    have h1 := ih fun n hn => h n (List.mem_cons_of_mem _ hn)
    have h2 := numsB_len (odGn (h x (by simp)))
    simp only [odsB, odL, lineB, wOrder, List.length_append, List.length_cons, List.length_nil] at h2 ⊢
    omega
theorem rtsB_len {l : List Rt} (h : ∀ o ∈ l, okRt o = true) : (rtsB l).length ≤ 100 * l.length := by
  induction l with
  | nil => simp [rtsB]
  | cons x r ih =>
    have h1 := ih fun n hn => h n (List.mem_cons_of_mem _ hn)
    have h2 := numsB_len (rtGn (h x (by simp)))
    simp only [rtsB, rtL, lineB, wReturn, List.length_append, List.length_cons, List.length_nil] at h2 ⊢
    omega
theorem okF_parts {f : Fi} (h : okF f = true) : (1 ≤ f.num ∧ f.num ≤ 1099511627776) ∧ (0 ≤ f.day ∧ f.day < 65536) ∧ f.ods.length ≤ 1000 ∧ okTo 0 f.ods = true ∧ tot f.ods ≤ 1099511627776 := by
  simp only [okF, Bool.and_eq_true, okHead_iff, decide_eq_true_eq] at h
  exact ⟨h.1.1, h.1.2, h.2⟩
theorem okA_parts {f : An} (h : okA f = true) : (1 ≤ f.num ∧ f.num ≤ 1099511627776) ∧ (0 ≤ f.day ∧ f.day < 65536) ∧ f.rts.length ≤ 1000 ∧ okRs 0 f.rts = true := by
  simp only [okA, Bool.and_eq_true, okHead_iff, decide_eq_true_eq] at h
  exact ⟨h.1.1, h.1.2, h.2⟩
theorem headGn {f : Fi} (h : okF f = true) : ∀ n ∈ [f.num, f.day, (f.ods.length : Int), tot f.ods], Gn n := by
  obtain ⟨h1, h2, h3, h4, h5⟩ := okF_parts h
  have h6 := (tot_bd (okTo_all h4)).1
  intro n hn
  simp only [List.mem_cons, List.not_mem_nil, or_false] at hn
  unfold Gn
  rcases hn with rfl | rfl | rfl | rfl <;> omega
theorem headGnA {f : An} (h : okA f = true) : ∀ n ∈ [f.num, f.day, (f.rts.length : Int)], Gn n := by
  obtain ⟨h1, h2, h3, h4⟩ := okA_parts h
  intro n hn
  simp only [List.mem_cons, List.not_mem_nil, or_false] at hn
  unfold Gn
  rcases hn with rfl | rfl | rfl <;> omega
theorem bodyF_len {f : Fi} (h : okF f = true) : (bodyF f).length ≤ 100100 := by
  obtain ⟨h1, h2, h3, h4, h5⟩ := okF_parts h
  have a := odsB_len (okTo_all h4)
  have b := numsB_len (headGn h)
  simp only [bodyF, headF, lineB, wPAY, List.length_append, List.length_cons, List.length_nil] at b ⊢
  omega
theorem bodyA_len {f : An} (h : okA f = true) : (bodyA f).length ≤ 100100 := by
  obtain ⟨h1, h2, h3, h4⟩ := okA_parts h
  have a := rtsB_len (okRs_all h4)
  have b := numsB_len (headGnA h)
  simp only [bodyA, headA, lineB, wBACK, List.length_append, List.length_cons, List.length_nil] at b ⊢
  omega

/-! ### The orders that an answer returns -/
def pick (l : List Od) (r : Rt) : List Od := l.filter fun o => decide (o.num = r.ord)
def picks (l : List Od) : List Rt → List Od
  | [] => []
  | r :: rs => pick l r ++ picks l rs
theorem picks_append (l : List Od) (a b : List Rt) : picks l (a ++ b) = picks l a ++ picks l b := by
  induction a with
  | nil => rfl
  | cons x r ih => simp [picks, ih]
theorem picks_take (l : List Od) (rs : List Rt) (k : Nat) (h : k < rs.length) : picks l (rs.take (k + 1)) = picks l (rs.take k) ++ pick l (rs[k]?.getD Rt.z) := by
  rw [List.take_add_one, List.getElem?_eq_getElem h, picks_append]; simp [picks]
/-- What Match gives: the orders, and the error. -/
def matchS (f : Fi) (a : An) : List Od × Int :=
  if okF f = true ∧ okA a = true then
    if f.num ≠ a.num ∨ a.day < f.day then ([], 363)
    else if (picks f.ods a.rts).length = a.rts.length then (picks f.ods a.rts, 0) else ([], 6)
  else ([], 2)

theorem pick_nil {l : List Od} {r : Rt} (h : ∀ o ∈ l, o.num ≠ r.ord) : pick l r = [] := by
  unfold pick
  rw [List.filter_eq_nil_iff]
  intro o ho; simp [h o ho]
theorem pick_one {last : Int} {l : List Od} (h : okTo last l = true) (r : Rt) {k : Nat} (hk : k < l.length) (he : (l[k]?.getD Od.z).num = r.ord) : pick l r = [l[k]?.getD Od.z] := by
  induction l generalizing last k with
  | nil => simp at hk
  | cons x l ih =>
    simp only [okTo, Bool.and_eq_true, decide_eq_true_eq] at h
    obtain ⟨_, _, h2⟩ := h
    cases k with
    | zero =>
      have h3 := okTo_lt h2
      simp only [List.getElem?_cons_zero, Option.getD_some] at he ⊢
      unfold pick
      rw [List.filter_cons, if_pos (by simpa using he)]
      have := pick_nil (l := l) (r := r) fun o ho => by have := h3 o ho; omega
      unfold pick at this
      rw [this]
    | succ k =>
      have hk' : k < l.length := by simpa using hk
      simp only [List.getElem?_cons_succ] at he ⊢
      have h3 := okTo_lt h2 _ (getD_mem hk' Od.z)
      unfold pick
      rw [List.filter_cons, if_neg (by simp; omega)]
      exact ih h2 hk' he
theorem pick_le {last : Int} {l : List Od} (h : okTo last l = true) (r : Rt) : (pick l r).length ≤ 1 := by
  by_cases he : ∃ k, k < l.length ∧ (l[k]?.getD Od.z).num = r.ord
  · obtain ⟨k, hk, he⟩ := he
    rw [pick_one h r hk he]; simp
  · rw [pick_nil]
    · simp
    · intro o ho hn
      obtain ⟨k, hk, rfl⟩ := List.mem_iff_getElem.1 ho
      exact he ⟨k, hk, by rw [List.getElem?_eq_getElem hk]; exact hn⟩
theorem picks_le {last : Int} {l : List Od} (h : okTo last l = true) (rs : List Rt) : (picks l rs).length ≤ rs.length := by
  induction rs with
  | nil => simp [picks]
  | cons x r ih => have := pick_le h x; simp only [picks, List.length_append, List.length_cons]; omega
/-- A return without an order: the lengths differ. -/
theorem picks_ne {last : Int} {l : List Od} (h : okTo last l = true) (rs : List Rt) {k : Nat} (hk : k < rs.length) (hp : pick l (rs[k]?.getD Rt.z) = []) : (picks l rs).length ≠ rs.length := by
  have e : rs = rs.take k ++ (rs[k]?.getD Rt.z :: rs.drop (k + 1)) := by
    rw [List.getElem?_eq_getElem hk, Option.getD_some, ← List.drop_eq_getElem_cons hk, List.take_append_drop]
  have h1 := picks_le h (rs.take k)
  have h2 := picks_le h (rs.drop (k + 1))
  have h3 : (picks l rs).length = (picks l (rs.take k)).length + (picks l (rs.drop (k + 1))).length := by
    conv => lhs; rw [e]
    rw [picks_append, List.length_append]
    simp [picks, hp]
  simp only [List.length_take, List.length_drop] at h1 h2
  omega

/-! ### The reference's way to see whether a file is valid -/
theorem ref_step {l : List Od} {k : Nat} (hk : k < l.length) (last s : Int) :
    (okTo last (l.drop k) && decide (s + tot (l.drop k) ≤ 1099511627776)) =
      (okOd (l[k]?.getD Od.z) && (decide (s + (l[k]?.getD Od.z).net ≤ 1099511627776) && (decide (last < (l[k]?.getD Od.z).num) &&
        (okTo (l[k]?.getD Od.z).num (l.drop (k + 1)) && decide ((s + (l[k]?.getD Od.z).net) + tot (l.drop (k + 1)) ≤ 1099511627776))))) := by
  rw [okTo_step l k last hk, tot_drop l k hk]
  generalize l[k]?.getD Od.z = o
  by_cases h1 : okTo o.num (l.drop (k + 1)) = true
  · have := (tot_bd (okTo_all h1)).1
    rw [h1]
    cases okOd o <;> simp
    by_cases h2 : last < o.num <;> simp [h2]
    rw [Int.add_assoc]
    by_cases h3 : s + (o.net + tot (l.drop (k + 1))) ≤ 1099511627776
    · simp [h3]; omega
    · simp [h3]
  · simp only [Bool.not_eq_true] at h1
    rw [h1]; simp
end Go.Proofs.YtaccaebdmndkiaaGreatDoor
