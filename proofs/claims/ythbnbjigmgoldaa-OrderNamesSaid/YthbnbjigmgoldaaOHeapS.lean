/- The heap of numbers in plain Lean: what up and down keep. No conditions. -/
import Derived.Test.YthbnbjigmgoldaaOSort
namespace Go.Proofs.Ythbnbjigmgoldaa
set_option linter.unusedVariables false

def par (i : Nat) : Nat := (i - 1) / 2
def swapF (f : Nat → Nat) (i j : Nat) : Nat → Nat := fun k => if k = j then f i else if k = i then f j else f k
/-- The first n numbers are a heap. -/
def HeapF (f : Nat → Nat) (n : Nat) : Prop := ∀ i, 0 < i → i < n → f (par i) ≤ f i
def UpOk (f : Nat → Nat) (n j : Nat) : Prop := (∀ i, 0 < i → i < n → i ≠ j → f (par i) ≤ f i) ∧ ∀ k, 0 < k → k < n → par k = j → 0 < j → f (par j) ≤ f k
def DownOk (f : Nat → Nat) (n i : Nat) : Prop := (∀ k, 0 < k → k < n → par k ≠ i → f (par k) ≤ f k) ∧ ∀ k, 0 < k → k < n → par k = i → 0 < i → f (par i) ≤ f k

theorem par_lt {i : Nat} (h : 0 < i) : par i < i := by unfold par; omega
theorem up_done {f : Nat → Nat} {n j : Nat} (h : UpOk f n j) (hd : j = 0 ∨ ¬ f j < f (par j)) : HeapF f n := by
  intro i h0 hn
  by_cases hi : i = j
  · subst hi
    rcases hd with rfl | hd
    · omega
    · omega
  · exact h.1 i h0 hn hi
theorem up_step {f : Nat → Nat} {n j : Nat} (h : UpOk f n j) (hj : 0 < j) (hlt : f j < f (par j)) : UpOk (swapF f (par j) j) n (par j) := by
  have hp := par_lt hj
  constructor
  · intro i h0 hn hip
    have hpi := par_lt h0
    unfold swapF
    by_cases hij : i = j
    · subst hij
      simp only [if_true]
      rw [if_neg (show ¬ par i = i by omega)]
      omega
    · rw [if_neg hij, if_neg hip]
      by_cases h1 : par i = j
      · rw [if_pos h1]; exact h.2 i h0 hn h1 hj
      · rw [if_neg h1]
        by_cases h2 : par i = par j
        · rw [if_pos h2]
          have := h.1 i h0 hn hij
          rw [h2] at this
          omega
        · rw [if_neg h2]; exact h.1 i h0 hn hij
  · intro k h0 hn hk hp0
    have hpp := par_lt hp0
    have hpk := par_lt h0
    unfold swapF
    rw [if_neg (by omega), if_neg (by omega)]
    by_cases hkn : par j < n
    · have h1 := h.1 (par j) hp0 hkn (by omega)
      by_cases hkj : k = j
      · rw [if_pos hkj]; exact h1
      · rw [if_neg hkj, if_neg (by omega)]
        have h2 := h.1 k h0 hn hkj
        rw [hk] at h2
        omega
    · omega
theorem down_leaf {f : Nat → Nat} {n i : Nat} (h : DownOk f n i) (hl : n ≤ 2 * i + 1) : HeapF f n := by
  intro k h0 hn
  refine h.1 k h0 hn ?_
  unfold par; omega
theorem down_done {f : Nat → Nat} {n i j : Nat} (h : DownOk f n i) (hj : ∀ k, 0 < k → k < n → par k = i → f j ≤ f k) (hd : ¬ f j < f i) : HeapF f n := by
  intro k h0 hn
  by_cases hk : par k = i
  · rw [hk]; have := hj k h0 hn hk; omega
  · exact h.1 k h0 hn hk
theorem down_step {f : Nat → Nat} {n i j : Nat} (h : DownOk f n i) (h0 : 0 < j) (hn : j < n) (hp : par j = i) (hj : ∀ k, 0 < k → k < n → par k = i → f j ≤ f k) (hlt : f j < f i) : DownOk (swapF f i j) n j := by
  have hij := par_lt h0
  rw [hp] at hij
  constructor
  · intro k k0 kn hk
    have hpk := par_lt k0
    unfold swapF
    rw [if_neg hk]
    by_cases hkj : k = j
    · subst hkj
      rw [if_pos hp, if_pos rfl]; omega
    · rw [if_neg hkj]
      by_cases hki : k = i
      · subst hki
        rw [if_neg (by omega), if_pos rfl]
        exact h.2 j h0 hn hp k0
      · rw [if_neg hki]
        by_cases hpi : par k = i
        · rw [if_pos hpi]; exact hj k k0 kn hpi
        · rw [if_neg hpi]; exact h.1 k k0 kn hpi
  · intro k k0 kn hk _
    have hpk := par_lt k0
    unfold swapF
    rw [hp, if_neg (by omega), if_pos rfl, if_neg (by omega), if_neg (by omega)]
    have := h.1 k k0 kn (by omega)
    rw [hk] at this
    exact this
theorem heap_min {f : Nat → Nat} {n : Nat} (h : HeapF f n) : ∀ m k, k ≤ m → k < n → f 0 ≤ f k := by
  intro m
  induction m with
  | zero => intro k hk _; obtain rfl : k = 0 := by omega
            exact Nat.le_refl _
  | succ m ih =>
    intro k hk hn
    by_cases h0 : 0 < k
    · have := par_lt h0
      have h1 := h k h0 hn
      have h2 := ih (par k) (by omega) (by omega)
      omega
    · obtain rfl : k = 0 := by omega
      exact Nat.le_refl _

def fn (l : List Nat) (k : Nat) : Nat := l[k]?.getD 0
/-- Two places are exchanged. -/
def swp (l : List Nat) (i j : Nat) : List Nat := (l.set i (fn l j)).set j (fn l i)
theorem swp_length (l : List Nat) (i j : Nat) : (swp l i j).length = l.length := by simp [swp]
theorem fn_swp (l : List Nat) (i j : Nat) (hi : i < l.length) (hj : j < l.length) : fn (swp l i j) = swapF (fn l) i j := by
  funext k
  simp only [fn, swp, swapF]
  by_cases h1 : k = j
  · subst h1; simp [hj, hi]
  · rw [if_neg h1, List.getElem?_set_ne (fun e => h1 e.symm)]
    by_cases h2 : k = i
    · subst h2; simp [hi, hj]
    · rw [if_neg h2, List.getElem?_set_ne (fun e => h2 e.symm)]
theorem swp_perm (l : List Nat) (i j : Nat) (hi : i < l.length) (hj : j < l.length) : (swp l i j).Perm l := by
  have h := Array.swap_perm (xs := l.toArray) (i := i) (j := j) (by simpa using hi) (by simpa using hj)
  have e : (l.toArray.swap i j (by simpa using hi) (by simpa using hj)).toList = swp l i j := by
    simp [Array.swap, swp, fn, hi, hj]
  have h2 := Array.perm_iff_toList_perm.1 h
  rw [e] at h2
  simpa using h2
theorem heapF_congr {f g : Nat → Nat} {n : Nat} (h : HeapF f n) (hg : ∀ k, k < n → f k = g k) : HeapF g n := by
  intro i h0 hn
  have := par_lt h0
  rw [← hg i hn, ← hg _ (by omega)]
  exact h i h0 hn
theorem push_ok {l : List Nat} {x : Nat} (h : HeapF (fn l) l.length) : UpOk (fn (l ++ [x])) (l.length + 1) l.length := by
  constructor
  · intro i h0 hn hi
    have := par_lt h0
    have e : ∀ k, k < l.length → fn (l ++ [x]) k = fn l k := fun k hk => by unfold fn; rw [List.getElem?_append_left hk]
    rw [e i (by omega), e _ (by omega)]
    exact h i h0 (by omega)
  · intro k h0 hn hk _
    have := par_lt h0
    omega
theorem pop_ok {l : List Nat} {n : Nat} (hl : l.length = n + 1) (h : HeapF (fn l) (n + 1)) : DownOk (fn (swp l 0 n)) n 0 := by
  rw [fn_swp l 0 n (by omega) (by omega)]
  constructor
  · intro k h0 hn hk
    have := par_lt h0
    unfold swapF
    rw [if_neg (by omega), if_neg hk, if_neg (by omega), if_neg (by omega)]
    exact h k h0 (by omega)
  · intro k h0 hn hk h
    omega
end Go.Proofs.Ythbnbjigmgoldaa
