/- Layer 15 in plain Lean: the numbers that are taken, as the program counts them. No conditions. -/
import Derived.Test.YthbnbjigmgoldaaOSpec
namespace Go.Proofs.Ythbnbjigmgoldaa
set_option linter.unusedVariables false

theorem nodup_le : ∀ (n : Nat) (l : List Nat), l.Nodup → (∀ x ∈ l, x < n) → l.length ≤ n := by
  intro n
  induction n with
  | zero =>
    intro l _ h
    cases l with
    | nil => simp
    | cons x r => exact absurd (h x (by simp)) (by omega)
  | succ n ih =>
    intro l hl h
    by_cases hn : n ∈ l
    · have h1 := ih (l.erase n) (hl.erase n) (fun x hx => by
        have h2 := (hl.mem_erase_iff).1 hx
        have := h x h2.2
        have := h2.1
        omega)
      rw [List.length_erase_of_mem hn] at h1
      omega
    · have := ih l hl (fun x hx => by
        have h1 := h x hx
        have : x ≠ n := fun e => hn (e ▸ hx)
        omega)
      omega

/-- How many of the numbers on which j depends are not yet taken. -/
def miss (D : Nat → List Nat) (l : List Nat) (j : Nat) : Nat := ((D j).filter fun d => !l.contains d).length
/-- The numbers that depend on j. -/
def need (n : Nat) (D : Nat → List Nat) (j : Nat) : List Nat := (List.range n).filter fun i => (D i).contains j
/-- Each number of the list is the next one behind those ahead of it. -/
def Greedy (n : Nat) (D : Nat → List Nat) (l : List Nat) : Prop := ∀ k, k < l.length → nextT n D (l.take k) = some (l[k]?.getD 0)

theorem rdy_iff {D : Nat → List Nat} {l : List Nat} {i : Nat} : rdy D l i = true ↔ i ∉ l ∧ ∀ d ∈ D i, d ∈ l := by
  unfold rdy
  simp only [Bool.and_eq_true, Bool.not_eq_true', List.all_eq_true]
  constructor
  · rintro ⟨h1, h2⟩
    exact ⟨fun h => (by rw [List.contains_iff_mem.2 h] at h1; cases h1), fun d hd => List.contains_iff_mem.1 (h2 d hd)⟩
  · rintro ⟨h1, h2⟩
    refine ⟨?_, fun d hd => List.contains_iff_mem.2 (h2 d hd)⟩
    cases hc : l.contains i with
    | false => rfl
    | true => exact absurd (List.contains_iff_mem.1 hc) h1
theorem miss_zero {D : Nat → List Nat} {l : List Nat} {j : Nat} : miss D l j = 0 ↔ ∀ d ∈ D j, d ∈ l := by
  unfold miss
  rw [List.length_eq_zero_iff, List.filter_eq_nil_iff]
  constructor
  · intro h d hd
    have := h d hd
    simp at this
    exact this
  · intro h d hd
    simp [h d hd]
theorem rdy_miss {D : Nat → List Nat} {l : List Nat} {i : Nat} : rdy D l i = true ↔ i ∉ l ∧ miss D l i = 0 := by rw [rdy_iff, miss_zero]
theorem next_some {n : Nat} {D : Nat → List Nat} {l : List Nat} {i : Nat} : nextT n D l = some i ↔ i < n ∧ rdy D l i = true ∧ ∀ j, j < i → rdy D l j = false := by
  unfold nextT
  rw [List.find?_range_eq_some]
  constructor
  · rintro ⟨h1, h2, h3⟩
    exact ⟨by simpa using h2, h1, fun j hj => by simpa using h3 j hj⟩
  · rintro ⟨h1, h2, h3⟩
    exact ⟨h2, by simpa using h1, fun j hj => by simpa using h3 j hj⟩
theorem next_none {n : Nat} {D : Nat → List Nat} {l : List Nat} : nextT n D l = none ↔ ∀ j, j < n → rdy D l j = false := by
  unfold nextT
  rw [List.find?_eq_none]
  constructor
  · intro h j hj; have := h j (by simpa using hj); simpa using this
  · intro h j hj; have := h j (by simpa using hj); simpa using this
theorem next_min {n : Nat} {D : Nat → List Nat} {l hs : List Nat} (h : ∀ i, i ∈ hs ↔ i < n ∧ rdy D l i = true) {m : Nat} (hm : m ∈ hs) (hmin : ∀ x ∈ hs, m ≤ x) : nextT n D l = some m := by
  rw [next_some]
  obtain ⟨h1, h2⟩ := (h m).1 hm
  refine ⟨h1, h2, fun j hj => ?_⟩
  cases hr : rdy D l j with
  | false => rfl
  | true => have := hmin j ((h j).2 ⟨by omega, hr⟩); omega
theorem Greedy.nil (n : Nat) (D : Nat → List Nat) : Greedy n D [] := fun k hk => absurd hk (by simp)
theorem Greedy.snoc {n : Nat} {D : Nat → List Nat} {l : List Nat} {i : Nat} (h : Greedy n D l) (hi : nextT n D l = some i) : Greedy n D (l ++ [i]) := by
  intro k hk
  rw [List.length_append, List.length_singleton] at hk
  by_cases h1 : k < l.length
  · rw [List.take_append_of_le_length (by omega), List.getElem?_append_left h1]; exact h k h1
  · obtain rfl : k = l.length := by omega
    rw [List.take_left, List.getElem?_concat_length]; exact hi
theorem Greedy.at {n : Nat} {D : Nat → List Nat} {l : List Nat} (h : Greedy n D l) {k : Nat} (hk : k < l.length) : l[k] < n ∧ rdy D (l.take k) l[k] = true := by
  have := h k hk
  rw [List.getElem?_eq_getElem hk, Option.getD_some, next_some] at this
  exact ⟨this.1, this.2.1⟩
theorem Greedy.lt {n : Nat} {D : Nat → List Nat} {l : List Nat} (h : Greedy n D l) : ∀ x ∈ l, x < n := by
  intro x hx
  obtain ⟨k, hk, rfl⟩ := List.mem_iff_getElem.1 hx
  exact (h.at hk).1
theorem Greedy.nodup {n : Nat} {D : Nat → List Nat} {l : List Nat} (h : Greedy n D l) : l.Nodup := by
  rw [List.nodup_iff_pairwise_ne, List.pairwise_iff_getElem]
  intro i j hi hj hij he
  have h1 := (rdy_iff.1 (h.at hj).2).1
  refine h1 ?_
  rw [← he]
  exact List.mem_take_iff_getElem.2 ⟨i, by omega, rfl⟩
theorem Greedy.length {n : Nat} {D : Nat → List Nat} {l : List Nat} (h : Greedy n D l) : l.length ≤ n := nodup_le n l h.nodup h.lt
theorem Greedy.taken {n : Nat} {D : Nat → List Nat} {l : List Nat} (h : Greedy n D l) (hn : nextT n D l = none) : taken n D = l := by
  suffices hk : ∀ m k, k ≤ l.length → l.length - k ≤ m → takeT n D m (l.take k) = l by
    have := hk n 0 (Nat.zero_le _) (by have := h.length; omega)
    simpa [Go.Proofs.Ythbnbjigmgoldaa.taken] using this
  intro m
  induction m with
  | zero =>
    intro k h1 h2
    rw [takeT, List.take_of_length_le (by omega)]
  | succ m ih =>
    intro k h1 h2
    rw [takeT]
    by_cases hk : k < l.length
    · rw [h k hk]
      simp only
      have e : l.take k ++ [l[k]?.getD 0] = l.take (k + 1) := by rw [List.take_succ_eq_append_getElem hk, List.getElem?_eq_getElem hk]; rfl
      rw [e]
      exact ih (k + 1) (by omega) (by omega)
    · rw [List.take_of_length_le (by omega), hn]

theorem greedy_takeT {n : Nat} {D : Nat → List Nat} : ∀ (m : Nat) (l : List Nat), Greedy n D l → Greedy n D (takeT n D m l) ∧ (nextT n D (takeT n D m l) = none ∨ (takeT n D m l).length = l.length + m) := by
  intro m
  induction m with
  | zero => intro l h; exact ⟨h, .inr rfl⟩
  | succ m ih =>
    intro l h
    rw [takeT]
    cases hn : nextT n D l with
    | none => exact ⟨h, .inl hn⟩
    | some i =>
      obtain ⟨h1, h2⟩ := ih _ (h.snoc hn)
      refine ⟨h1, ?_⟩
      rcases h2 with h2 | h2
      · exact .inl h2
      · refine .inr ?_
        simp only [List.length_append, List.length_singleton] at h2
        simp only
        omega
theorem greedy_taken (n : Nat) (D : Nat → List Nat) : Greedy n D (taken n D) := (greedy_takeT n [] (Greedy.nil n D)).1
/-- When no more can be taken all have been looked at. -/
theorem taken_none (n : Nat) (D : Nat → List Nat) : nextT n D (taken n D) = none := by
  rcases (greedy_takeT n [] (Greedy.nil n D)).2 with h | h
  · exact h
  · rw [next_none]
    intro j hj
    have hg := greedy_taken n D
    have hl : (taken n D).length = n := by simpa [taken] using h
    have hm : j ∈ taken n D := by
      refine Classical.byContradiction fun hc => ?_
      have := nodup_le n (j :: taken n D) (List.nodup_cons.2 ⟨hc, hg.nodup⟩) (fun x hx => by
        rcases List.mem_cons.1 hx with rfl | hx
        · exact hj
        · exact hg.lt x hx)
      simp at this
      omega
    cases hr : rdy D (taken n D) j with
    | false => rfl
    | true => exact absurd hm (rdy_iff.1 hr).1

/-! ### the counts -/
theorem miss_snoc_in {D : Nat → List Nat} {l : List Nat} {i j : Nat} (hd : (D j).Nodup) (hi : i ∉ l) (hj : i ∈ D j) : miss D l j = miss D (l ++ [i]) j + 1 := by
  unfold miss
  have e : (fun d => !(l ++ [i]).contains d) = fun d => (!l.contains d) && d != i := by
    funext d
    by_cases h1 : d = i
    · subst h1; simp
    · simp [h1]
  rw [e]
  have h2 : i ∈ (D j).filter fun d => !l.contains d := List.mem_filter.2 ⟨hj, by simp [hi]⟩
  have h3 : ((D j).filter fun d => (!l.contains d) && d != i) = ((D j).filter fun d => !l.contains d).erase i := by
    rw [List.Nodup.erase_eq_filter (List.Pairwise.filter _ hd), List.filter_filter]
    refine List.filter_congr fun d _ => ?_
    rw [Bool.and_comm]
  rw [h3, List.length_erase_of_mem h2]
  have := List.length_pos_of_mem h2
  omega
theorem miss_snoc_out {D : Nat → List Nat} {l : List Nat} {i j : Nat} (hj : i ∉ D j) : miss D (l ++ [i]) j = miss D l j := by
  unfold miss
  congr 1
  refine List.filter_congr fun d hd => ?_
  have : d ≠ i := fun e => hj (e ▸ hd)
  simp [this]
theorem mem_need {n : Nat} {D : Nat → List Nat} {i j : Nat} : i ∈ need n D j ↔ i < n ∧ j ∈ D i := by unfold need; simp
theorem need_nodup (n : Nat) (D : Nat → List Nat) (j : Nat) : (need n D j).Nodup := List.Pairwise.filter _ List.nodup_range

theorem Greedy.closed {n : Nat} {D : Nat → List Nat} {l : List Nat} (h : Greedy n D l) : ∀ x ∈ l, ∀ d ∈ D x, d ∈ l := by
  intro x hx d hd
  obtain ⟨k, hk, rfl⟩ := List.mem_iff_getElem.1 hx
  exact List.mem_of_mem_take ((rdy_iff.1 (h.at hk).2).2 d hd)
/-- What can be taken behind i. -/
theorem ready_step {n : Nat} {D : Nat → List Nat} {l hs1 : List Nat} {i : Nat} (hg : Greedy n D l) (hi : nextT n D l = some i) (h : ∀ x, x ∈ i :: hs1 ↔ x < n ∧ rdy D l x = true) (hni : i ∉ hs1) :
    ∀ x, x ∈ hs1 ++ (need n D i).filter (fun j => miss D (l ++ [i]) j == 0) ↔ x < n ∧ rdy D (l ++ [i]) x = true := by
  obtain ⟨hin, hri, _⟩ := next_some.1 hi
  have hil := (rdy_iff.1 hri).1
  intro x
  rw [List.mem_append, List.mem_filter, mem_need, rdy_miss]
  constructor
  · rintro (hx | ⟨⟨hx, hix⟩, hm⟩)
    · obtain ⟨h1, h2⟩ := (h x).1 (by simp [hx])
      have h3 := rdy_iff.1 h2
      have hxi : x ≠ i := fun e => hni (e ▸ hx)
      exact ⟨h1, by simp [h3.1, hxi], miss_zero.2 fun d hd => by simp [h3.2 d hd]⟩
    · refine ⟨hx, ?_, by simpa using hm⟩
      rw [List.mem_append, List.mem_singleton]
      rintro (hxl | rfl)
      · exact hil (hg.closed x hxl i hix)
      · exact hil ((rdy_iff.1 hri).2 x hix)
  · rintro ⟨hx, hxl, hm⟩
    rw [List.mem_append, List.mem_singleton] at hxl
    by_cases hix : i ∈ D x
    · exact .inr ⟨⟨hx, hix⟩, by simpa using hm⟩
    · rw [miss_snoc_out hix] at hm
      have := (h x).2 ⟨hx, rdy_miss.2 ⟨fun h => hxl (.inl h), hm⟩⟩
      rcases List.mem_cons.1 this with rfl | h1
      · exact absurd (.inr rfl) hxl
      · exact .inl h1
theorem ready_nodup {n : Nat} {D : Nat → List Nat} {l hs1 : List Nat} {i : Nat} (hi : nextT n D l = some i) (h : ∀ x, x ∈ i :: hs1 ↔ x < n ∧ rdy D l x = true) (hn : hs1.Nodup) :
    (hs1 ++ (need n D i).filter (fun j => miss D (l ++ [i]) j == 0)).Nodup := by
  have hil := (rdy_iff.1 (next_some.1 hi).2.1).1
  rw [List.nodup_append]
  refine ⟨hn, List.Pairwise.filter _ (need_nodup n D i), fun a ha b hb e => ?_⟩
  subst e
  have h1 := rdy_iff.1 ((h a).1 (by simp [ha])).2
  have h2 := (mem_need.1 (List.mem_filter.1 hb).1).2
  exact hil (h1.2 i h2)
/-- The counts while the numbers that depend on i are looked at. -/
def missQ (D : Nat → List Nat) (l : List Nat) (i : Nat) (done : List Nat) (j : Nat) : Nat := if done.contains j then miss D (l ++ [i]) j else miss D l j
theorem missQ_nil (D : Nat → List Nat) (l : List Nat) (i : Nat) : missQ D l i [] = miss D l := by funext j; simp [missQ]
theorem missQ_all {n : Nat} {D : Nat → List Nat} {l : List Nat} {i : Nat} : ∀ j, j < n → missQ D l i (need n D i) j = miss D (l ++ [i]) j := by
  intro j hj
  unfold missQ
  split
  · rfl
  · rename_i h
    have : i ∉ D j := fun hi => h (List.contains_iff_mem.2 (mem_need.2 ⟨hj, hi⟩))
    exact (miss_snoc_out this).symm
theorem missQ_succ (D : Nat → List Nat) (l : List Nat) (i : Nat) (done : List Nat) (j : Nat) : (fun k => if k = j then miss D (l ++ [i]) j else missQ D l i done k) = missQ D l i (done ++ [j]) := by
  funext k
  unfold missQ
  by_cases h : k = j
  · subst h; simp
  · simp [h]
/-- What is needed by the first k names. -/
def needK (D : Nat → List Nat) (k j : Nat) : List Nat := (List.range k).filter fun i => (D i).contains j
theorem needK_zero (D : Nat → List Nat) (j : Nat) : needK D 0 j = [] := rfl
theorem needK_succ (D : Nat → List Nat) (k j : Nat) : needK D (k + 1) j = needK D k j ++ (if (D k).contains j then [k] else []) := by
  unfold needK
  rw [List.range_succ, List.filter_append]
  congr 1
  by_cases h : (D k).contains j <;> simp [List.filter_cons]
/-- .. and by a part of those on which the next one depends. -/
def needQ (D : Nat → List Nat) (k : Nat) (done : List Nat) (j : Nat) : List Nat := needK D k j ++ (if done.contains j then [k] else [])
theorem needQ_nil (D : Nat → List Nat) (k : Nat) : needQ D k [] = needK D k := by funext j; simp [needQ]
theorem needQ_all (D : Nat → List Nat) (k : Nat) : needQ D k (D k) = needK D (k + 1) := by funext j; rw [needK_succ]; rfl
theorem needQ_succ (D : Nat → List Nat) (k : Nat) (done : List Nat) (d : Nat) (h : d ∉ done) : (fun j => if j = d then needQ D k done d ++ [k] else needQ D k done j) = needQ D k (done ++ [d]) := by
  funext j
  unfold needQ
  by_cases hj : j = d
  · subst hj; simp [h]
  · simp [hj]
theorem need_eq (n : Nat) (D : Nat → List Nat) (j : Nat) : needK D n j = need n D j := rfl
/-- The names that depend on nothing. -/
def roots (D : Nat → List Nat) (k : Nat) : List Nat := (List.range k).filter fun i => (D i).isEmpty
theorem roots_succ (D : Nat → List Nat) (k : Nat) : roots D (k + 1) = roots D k ++ (if (D k).isEmpty then [k] else []) := by
  unfold roots
  rw [List.range_succ, List.filter_append]
  congr 1
  by_cases h : (D k).isEmpty <;> simp [h]
theorem mem_roots {D : Nat → List Nat} {n x : Nat} : x ∈ roots D n ↔ x < n ∧ rdy D [] x = true := by
  unfold roots
  rw [List.mem_filter, List.mem_range, rdy_iff]
  simp only [List.not_mem_nil, not_false_eq_true, true_and, List.isEmpty_iff]
  refine and_congr_right fun _ => ⟨fun h d hd => by rw [h] at hd; simp at hd, fun h => ?_⟩
  cases hD : D x with
  | nil => rfl
  | cons d r => exact absurd (h d (by rw [hD]; simp)) (by simp)
theorem roots_nodup (D : Nat → List Nat) (n : Nat) : (roots D n).Nodup := List.Pairwise.filter _ List.nodup_range
theorem miss_nil (D : Nat → List Nat) (j : Nat) : miss D [] j = (D j).length := by unfold miss; simp
end Go.Proofs.Ythbnbjigmgoldaa
