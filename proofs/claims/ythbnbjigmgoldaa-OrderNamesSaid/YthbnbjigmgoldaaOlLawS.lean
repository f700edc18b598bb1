/- Layer 15: what the order, the cycle and the reach are, in plain Lean. No conditions. -/
import Derived.Test.YthbnbjigmgoldaaOCycS
import Derived.Test.YthbnbjigmgoldaaOReachS
import Derived.Test.YthbnbjigmgoldaaOlFew
namespace Go.Proofs.Ythbnbjigmgoldaa
set_option linter.unusedVariables false

theorem left_parts : ∀ (l : Nat) (es : List Ex) (r : Nat), leftE l es = some r → r + (es.map Ex.parts).sum = l := by
  intro l es
  induction es generalizing l with
  | nil => intro r h; simp only [leftE, Option.some.injEq] at h; simp [h]
  | cons e t ih =>
    intro r h
    rw [leftE] at h
    split at h
    · rename_i hc
      have h1 := ih _ _ h
      have h2 := sizeE_parts 24 l e hc
      simp only [List.map_cons, List.sum_cons]; omega
    · cases h
theorem clSize_exs (cs : List Cl) : clSize cs = ((exsOf cs).map Ex.parts).sum := by
  induction cs with
  | nil => rfl
  | cons c r ih => rw [clSize, ih]; simp [exsOf]; omega
theorem few_parts {p : Pl} (h : fewB p = true) : p.defs.length ≤ 40 ∧ p.cls.length ≤ 60 ∧ clSize p.cls ≤ 300 := by
  unfold fewB at h
  simp only [Bool.and_eq_true, decide_eq_true_eq] at h
  obtain ⟨⟨h1, h2⟩, h3⟩ := h
  obtain ⟨r, hr⟩ := Option.isSome_iff_exists.1 h3
  refine ⟨h1, h2, ?_⟩
  rw [clSize_exs]
  have := left_parts _ _ _ hr
  omega
theorem few_size {p : Pl} (h : fewB p = true) : p.size ≤ 2 ^ 38 := by
  obtain ⟨h1, h2, h3⟩ := few_parts h
  unfold Pl.size; omega
theorem few_names {p : Pl} (h : fewB p = true) : (names p).length ≤ 40 := Nat.le_trans (names_length p) (few_parts h).1

section
variable {n : Nat} {D : Nat → List Nat}
theorem fnAt {l : List Nat} {k : Nat} (h : k < l.length) : fn l k = l[k] := by unfold fn; rw [List.getElem?_eq_getElem h]; rfl
theorem fnIn {l : List Nat} {k : Nat} (h : k < l.length) : fn l k ∈ l := by rw [fnAt h]; exact List.getElem_mem h
/-- Each number of the way depends on the next one, none is taken. -/
structure Chn (n : Nat) (D : Nat → List Nat) (way : List Nat) (i : Nat) : Prop where
  un : ∀ x ∈ way, (taken n D).contains x = false
  next : ∀ k, k < way.length → fn (way ++ [i]) (k + 1) ∈ D (fn way k)
theorem way_end (hD : ∀ j, ∀ d ∈ D j, d < n) : ∀ (m : Nat) (way : List Nat) (i : Nat), n - way.length ≤ m → Way n D way i → Chn n D way i → ∃ way' i', Way n D way' i' ∧ Chn n D way' i' ∧ way'.contains i' = true := by
  intro m
  induction m with
  | zero =>
    intro way i hm hw hc
    have hl := hw.length
    cases hin : way.contains i with
    | true => exact ⟨way, i, hw, hc, hin⟩
    | false =>
      have := (hw.step hin hD).length
      rw [List.length_append, List.length_singleton] at this
      omega
  | succ m ih =>
    intro way i hm hw hc
    cases hin : way.contains i with
    | true => exact ⟨way, i, hw, hc, hin⟩
    | false =>
      refine ih _ _ (by rw [List.length_append, List.length_singleton]; omega) (hw.step hin hD) ⟨fun x hx => ?_, fun k hk => ?_⟩
      · rcases List.mem_append.1 hx with hx | hx
        · exact hc.un x hx
        · rw [List.mem_singleton.1 hx]; exact hw.inot
      · rw [List.length_append, List.length_singleton] at hk
        by_cases e : k < way.length
        · have h1 := hc.next k e
          have e1 : fn (way ++ [i] ++ [firstU D (taken n D) i]) (k + 1) = fn (way ++ [i]) (k + 1) := fn_append (by simp; omega)
          have e2 : fn (way ++ [i]) k = fn way k := fn_append e
          rw [e1, e2]; exact h1
        · obtain rfl : k = way.length := by omega
          have e1 : fn (way ++ [i] ++ [firstU D (taken n D) i]) (way.length + 1) = firstU D (taken n D) i := by unfold fn; rw [List.getElem?_append_right (by simp)]; simp
          have e2 : fn (way ++ [i]) way.length = i := by unfold fn; rw [List.getElem?_append_right (by simp)]; simp
          rw [e1, e2]
          exact (firstU_spec hw.ilt hw.inot).1
theorem exists_untaken (h : (taken n D).length < n) : ∃ j, j < n ∧ (taken n D).contains j = false ∧ ∀ k, k < j → (taken n D).contains k = true := by
  have : ∃ j, (taken n D).contains j = false := by
    refine Classical.byContradiction fun hc => ?_
    have := untaken_lt (n := n) (D := D) (j := n) h (fun k _ => by
      cases hk : (taken n D).contains k with
      | true => rfl
      | false => exact absurd ⟨k, hk⟩ hc)
    omega
  classical
  obtain ⟨j, hj⟩ := this
  have hmin : ∃ j, (taken n D).contains j = false ∧ ∀ k, k < j → (taken n D).contains k = true := by
    induction j using Nat.strongRecOn with
    | ind j ih =>
      by_cases hk : ∃ k, k < j ∧ (taken n D).contains k = false
      · obtain ⟨k, h1, h2⟩ := hk
        exact ih k h1 h2
      · refine ⟨j, hj, fun k hkj => ?_⟩
        cases hc : (taken n D).contains k with
        | true => rfl
        | false => exact absurd ⟨k, hkj, hc⟩ hk
  obtain ⟨j, h1, h2⟩ := hmin
  exact ⟨j, untaken_lt h h2, h1, h2⟩
/-- The cycle, where not all are taken. -/
theorem cycle_spec (hD : ∀ j, ∀ d ∈ D j, d < n) (h : (taken n D).length < n) : 0 < (cycleN n D).length ∧ (cycleN n D).Nodup ∧ (∀ x ∈ cycleN n D, x < n) ∧ ∀ k, k < (cycleN n D).length → fn (cycleN n D) ((k + 1) % (cycleN n D).length) ∈ D (fn (cycleN n D) k) := by
  obtain ⟨j, hj, hjt, hall⟩ := exists_untaken h
  obtain ⟨way, i, hw, hc, hin⟩ := way_end hD n [] j (by omega) ⟨List.nodup_nil, fun x hx => by simp at hx, hj, hjt, cycle_some hj hjt hall⟩ ⟨fun x hx => by simp at hx, fun k hk => by simp at hk⟩
  have hq := idxOf_fn hin
  have hqi : way[way.idxOf i] = i := List.getElem_idxOf hq
  rw [hw.done hin]
  obtain ⟨q, hqe⟩ : ∃ q, way.idxOf i = q := ⟨_, rfl⟩
  simp only [hqe] at hq hqi ⊢
  have hlen : (way.drop q).length = way.length - q := List.length_drop
  have hfd : ∀ k, fn (way.drop q) k = fn way (q + k) := fun k => by unfold fn; rw [List.getElem?_drop]
  refine ⟨by omega, hw.nodup.sublist (List.drop_sublist q way), fun x hx => hw.lt x (List.mem_of_mem_drop hx), fun k hk => ?_⟩
  rw [hlen] at hk ⊢
  have h1 := hc.next (q + k) (by omega)
  rw [hfd, hfd]
  by_cases e : k + 1 < way.length - q
  · rw [Nat.mod_eq_of_lt e]
    have e1 : fn (way ++ [i]) (q + k + 1) = fn way (q + (k + 1)) := fn_append (by omega)
    rw [← e1]; exact h1
  · have e2 : k + 1 = way.length - q := by omega
    rw [e2, Nat.mod_self, Nat.add_zero]
    have e1 : fn (way ++ [i]) (q + k + 1) = i := by
      have : q + k + 1 = way.length := by omega
      rw [this]; unfold fn; rw [List.getElem?_append_right (by simp)]; simp
    rw [e1] at h1
    rw [fnAt hq, hqi]; exact h1
theorem cycle_itself (hD : ∀ j, ∀ d ∈ D j, d < n) (h : (taken n D).length < n) : ∃ x, x < n ∧ Rch D (D x) x := by
  obtain ⟨h0, _, hlt, hnx⟩ := cycle_spec hD h
  obtain ⟨c, hc⟩ : ∃ c, cycleN n D = c := ⟨_, rfl⟩
  rw [hc] at h0 hlt hnx
  have key : ∀ k, k < c.length → Rch D (D (fn c 0)) (fn c ((k + 1) % c.length)) := by
    intro k
    induction k with
    | zero => intro hk; exact .base (hnx 0 hk)
    | succ k ih =>
      intro hk
      have := ih (by omega)
      rw [Nat.mod_eq_of_lt hk] at this
      exact .step this (hnx (k + 1) hk)
  refine ⟨fn c 0, hlt _ (fnIn h0), ?_⟩
  have := key (c.length - 1) (by omega)
  rwa [show c.length - 1 + 1 = c.length by omega, Nat.mod_self] at this
/-- What a taken number reaches was taken before. -/
theorem reach_before {T : List Nat} (hg : Greedy n D T) {k : Nat} (hk : k < T.length) {y : Nat} (h : Rch D (D T[k]) y) : y ∈ T.take k := by
  induction h with
  | base hj => exact (rdy_iff.1 (hg.at hk).2).2 _ hj
  | step _ hj ih =>
    obtain ⟨m, hm, he⟩ := List.mem_iff_getElem.1 ih
    rw [List.length_take] at hm
    rw [List.getElem_take] at he
    have h1 := (rdy_iff.1 (hg.at (show m < T.length by omega)).2).2 _ (he ▸ hj)
    exact (List.take_prefix_take_left (show m ≤ k by omega)).subset h1
theorem order_itself (hD : ∀ j, ∀ d ∈ D j, d < n) : (taken n D).length < n ↔ ∃ x, x < n ∧ Rch D (D x) x := by
  refine ⟨cycle_itself hD, fun ⟨x, hx, hr⟩ => ?_⟩
  refine Classical.byContradiction fun hc => ?_
  have hg := greedy_taken n D
  have hm : x ∈ taken n D := by
    refine Classical.byContradiction fun hn => ?_
    have := nodup_le n (x :: taken n D) (List.nodup_cons.2 ⟨hn, hg.nodup⟩) (fun y hy => by
      rcases List.mem_cons.1 hy with rfl | hy
      · exact hx
      · exact hg.lt y hy)
    simp at this
    omega
  obtain ⟨k, hk, he⟩ := List.mem_iff_getElem.1 hm
  have h1 := reach_before hg hk (y := x) (by rw [he]; exact hr)
  obtain ⟨m, hm2, he2⟩ := List.mem_iff_getElem.1 h1
  rw [List.length_take] at hm2
  rw [List.getElem_take] at he2
  have := (List.getElem_inj hg.nodup).1 (he2.trans he.symm)
  omega
theorem mem_reachN {s : List Nat} {j : Nat} : j ∈ reachN n D s ↔ j < n ∧ Rch D s j := by
  unfold reachN; simp
end
/-! ### names and numbers -/
section
variable {ns : List Str}
theorem named_length (l : List Nat) : (named ns l).length = l.length := by simp [named]
theorem named_get (l : List Nat) {k : Nat} (hk : k < l.length) : (named ns l)[k]?.getD [] = ns[fn l k]?.getD [] := by
  unfold named; rw [List.getElem?_map, List.getElem?_eq_getElem hk, fnAt hk]; rfl
theorem ns_inj (hn : ns.Nodup) {i j : Nat} (hi : i < ns.length) (hj : j < ns.length) (h : ns[i]?.getD [] = ns[j]?.getD []) : i = j := by
  rw [List.getElem?_eq_getElem hi, List.getElem?_eq_getElem hj] at h
  exact (List.getElem_inj hn).1 h
theorem mem_named (hn : ns.Nodup) {l : List Nat} (hl : ∀ i ∈ l, i < ns.length) {i : Nat} (hi : i < ns.length) : ns[i]?.getD [] ∈ named ns l ↔ i ∈ l := by
  unfold named
  rw [List.mem_map]
  exact ⟨fun ⟨j, hj, he⟩ => ns_inj hn (hl j hj) hi he ▸ hj, fun h => ⟨i, h, rfl⟩⟩
theorem named_nodup (hn : ns.Nodup) {l : List Nat} (hl : ∀ i ∈ l, i < ns.length) (h : l.Nodup) : (named ns l).Nodup := by
  unfold named
  induction l with
  | nil => exact List.nodup_nil
  | cons a t ih =>
    rw [List.map_cons, List.nodup_cons]
    obtain ⟨h1, h2⟩ := List.nodup_cons.1 h
    exact ⟨fun hm => h1 ((mem_named hn (fun i hi => hl i (List.mem_cons_of_mem _ hi)) (hl a (by simp))).1 hm), ih (fun i hi => hl i (List.mem_cons_of_mem _ hi)) h2⟩
theorem idxI_mem {l : List Str} {s : Str} : 0 ≤ idxI l s ↔ s ∈ l := by
  unfold idxI
  by_cases h : s ∈ l
  · rw [if_pos (List.contains_iff_mem.2 h)]; simp [h]
  · rw [if_neg (fun hc => h (List.contains_iff_mem.1 hc))]; simp [h]
theorem idxI_get {l : List Str} (hn : l.Nodup) {k : Nat} (hk : k < l.length) : idxI l (l[k]?.getD []) = k := by
  refine idxI_at hk rfl fun x hx e => ?_
  obtain ⟨m, hm, he⟩ := List.mem_iff_getElem.1 hx
  rw [List.length_take] at hm
  rw [List.getElem_take] at he
  rw [List.getElem?_eq_getElem hk] at e
  have := (List.getElem_inj hn).1 (he.trans e)
  omega
end
theorem gD_lt (p : Pl) : ∀ j, ∀ d ∈ gD p j, d < (names p).length := fun j d hd => deps_lt d hd
theorem deps_at (p : Pl) {i : Nat} (h : i < (names p).length) : deps p ((names p)[i]?.getD []) = gD p i := rfl
theorem mem_reach {p : Pl} {a : Str} {i : Nat} (hi : i < (names p).length) : (names p)[i]?.getD [] ∈ reach p a ↔ Rch (gD p) (deps p a) i := by
  unfold reach
  rw [mem_named (names_nodup p) (fun j hj => (mem_reachN.1 hj).1) hi, mem_reachN]
  exact ⟨fun h => h.2, fun h => ⟨hi, h⟩⟩
theorem mem_names_at {p : Pl} {s : Str} (h : s ∈ names p) : ∃ i, i < (names p).length ∧ (names p)[i]?.getD [] = s := by
  obtain ⟨i, hi, he⟩ := List.mem_iff_getElem.1 h
  exact ⟨i, hi, by rw [List.getElem?_eq_getElem hi]; exact he⟩

/-- OrderItself. -/
theorem itself_law (p : Pl) : ((orderE p : Int) == 150) = (names p).any fun s => decide (0 ≤ idxI (reach p s) s) := by
  have h := order_itself (gD_lt p)
  unfold orderE ordB takenP
  by_cases hc : (taken (names p).length (gD p)).length < (names p).length
  · obtain ⟨x, hx, hr⟩ := h.1 hc
    have : ((names p).any fun s => decide (0 ≤ idxI (reach p s) s)) = true := by
      rw [List.any_eq_true]
      refine ⟨(names p)[x]?.getD [], by rw [List.getElem?_eq_getElem hx]; exact List.getElem_mem hx, ?_⟩
      rw [decide_eq_true_eq, idxI_mem, mem_reach hx]
      exact hr
    rw [this, decide_eq_false (by simp [hc])]; rfl
  · have : ((names p).any fun s => decide (0 ≤ idxI (reach p s) s)) = false := by
      rw [List.any_eq_false]
      intro s hs
      obtain ⟨i, hi, rfl⟩ := mem_names_at hs
      rw [decide_eq_true_eq, idxI_mem, mem_reach hi]
      exact fun hr => hc (h.2 ⟨i, hi, hr⟩)
    rw [this, decide_eq_true hc]; rfl
end Go.Proofs.Ythbnbjigmgoldaa
