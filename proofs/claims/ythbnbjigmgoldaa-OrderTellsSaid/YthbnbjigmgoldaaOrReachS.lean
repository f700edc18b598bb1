/- The reference of layer 15: Reach in plain Lean. No conditions. -/
import Derived.Test.YthbnbjigmgoldaaOrDepends
import Derived.Test.YthbnbjigmgoldaaOlRchS
namespace Go.Proofs.Ythbnbjigmgoldaa
set_option linter.unusedVariables false

def sliceN : Value → Nat
  | .slice _ n _ => n
  | _ => 0

/-- What is found is extended once. -/
def stepR (p : Pl) (found : List Str) : List Str := found.foldl (fun m f => (depends p f).foldl addS m) found
theorem stepR_mem {p : Pl} {found : List Str} {x : Str} : x ∈ stepR p found ↔ x ∈ found ∨ ∃ f ∈ found, x ∈ depends p f := by
  unfold stepR
  suffices h : ∀ (l acc : List Str), x ∈ l.foldl (fun m f => (depends p f).foldl addS m) acc ↔ x ∈ acc ∨ ∃ f ∈ l, x ∈ depends p f from h found found
  intro l
  induction l with
  | nil => intro acc; simp
  | cons f r ih => intro acc; rw [List.foldl_cons, ih, mem_foldl_addS]; simp [or_assoc]
theorem stepR_prefix (p : Pl) (found : List Str) : ∃ t, stepR p found = found ++ t := by
  unfold stepR
  suffices h : ∀ (l acc : List Str), ∃ t, l.foldl (fun m f => (depends p f).foldl addS m) acc = acc ++ t from h found found
  intro l
  induction l with
  | nil => intro acc; exact ⟨[], by simp⟩
  | cons f r ih =>
    intro acc
    obtain ⟨t1, h1⟩ := foldl_addS_prefix (depends p f) acc
    obtain ⟨t2, h2⟩ := ih ((depends p f).foldl addS acc)
    exact ⟨t1 ++ t2, by rw [List.foldl_cons, h2, h1, List.append_assoc]⟩
theorem stepR_nodup {p : Pl} {found : List Str} (h : found.Nodup) : (stepR p found).Nodup := by
  unfold stepR
  suffices h : ∀ (l acc : List Str), acc.Nodup → (l.foldl (fun m f => (depends p f).foldl addS m) acc).Nodup from h found found ‹_›
  intro l
  induction l with
  | nil => intro acc h; exact h
  | cons f r ih => intro acc h; exact ih _ (nodup_foldl_addS h)
theorem stepR_same {p : Pl} {found : List Str} (h : (stepR p found).length = found.length) : stepR p found = found := by
  obtain ⟨t, ht⟩ := stepR_prefix p found
  rw [ht] at h ⊢
  have : t = [] := List.eq_nil_of_length_eq_zero (by rw [List.length_append] at h; omega)
  rw [this, List.append_nil]
/-- What holds of what is found. -/
structure FoundR (p : Pl) (a : Str) (found : List Str) : Prop where
  nodup : found.Nodup
  rch : ∀ x ∈ found, x ∈ reach p a
  base : ∀ x ∈ depends p a, x ∈ found
theorem depends_reach {p : Pl} {a x : Str} (h : x ∈ depends p a) : x ∈ reach p a := by
  rw [← seq_mem]
  unfold seqOf
  exact List.mem_flatMap.2 ⟨x, h, List.mem_cons_self⟩
theorem reach_step {p : Pl} {a f x : Str} (hf : f ∈ reach p a) (h : x ∈ depends p f) : x ∈ reach p a := by
  obtain ⟨i, hi, rfl⟩ := mem_names_at (reach_mem_names hf)
  obtain ⟨j, hj, rfl⟩ := mem_names_at (depends_mem_names h)
  rw [mem_reach hi] at hf
  rw [mem_reach hj]
  refine .step hf ?_
  unfold depends at h
  exact (mem_named (names_nodup p) deps_lt hj).1 h
theorem depends_nodup (p : Pl) (a : Str) : (depends p a).Nodup := by
  unfold depends
  exact named_nodup (names_nodup p) deps_lt (List.Pairwise.filter _ List.nodup_range)
theorem FoundR.start (p : Pl) (a : Str) : FoundR p a (depends p a) := ⟨depends_nodup p a, fun x hx => depends_reach hx, fun x hx => hx⟩
theorem FoundR.step {p : Pl} {a : Str} {found : List Str} (h : FoundR p a found) : FoundR p a (stepR p found) := by
  refine ⟨stepR_nodup h.nodup, fun x hx => ?_, fun x hx => stepR_mem.2 (.inl (h.base x hx))⟩
  rcases stepR_mem.1 hx with hx | ⟨f, hf, hx⟩
  · exact h.rch x hx
  · exact reach_step (h.rch f hf) hx
theorem FoundR.length {p : Pl} {a : Str} {found : List Str} (h : FoundR p a found) : found.length ≤ (names p).length :=
  List.Nodup.length_le_of_subset h.nodup fun x hx => reach_mem_names (h.rch x hx)
theorem FoundR.all {p : Pl} {a : Str} {found : List Str} (h : FoundR p a found) (hs : stepR p found = found) {x : Str} (hx : x ∈ reach p a) : x ∈ found := by
  obtain ⟨j, hj, rfl⟩ := mem_names_at (reach_mem_names hx)
  rw [mem_reach hj] at hx
  have key : ∀ j, Rch (gD p) (deps p a) j → j < (names p).length → (names p)[j]?.getD [] ∈ found := by
    intro j hr
    induction hr with
    | base hd =>
      intro hj
      refine h.base _ ?_
      unfold depends
      exact (mem_named (names_nodup p) deps_lt hj).2 hd
    | step hi hd ih =>
      intro hj
      rename_i i j
      have hil := Rch.lt (fun x hx => deps_lt x hx) (gD_lt p) hi
      have hin := ih hil
      rw [← hs]
      refine stepR_mem.2 (.inr ⟨_, hin, ?_⟩)
      unfold depends
      exact (mem_named (names_nodup p) deps_lt hj).2 hd
  exact key j hx hj
theorem filter_named (p : Pl) (f : Str → Bool) : (names p).filter f = named (names p) ((List.range (names p).length).filter fun i => f ((names p)[i]?.getD [])) := by
  unfold named
  obtain ⟨ns, hns⟩ : ∃ ns, names p = ns := ⟨_, rfl⟩
  rw [hns]
  have h : (List.range ns.length).map (fun i => ns[i]?.getD []) = ns := by
    refine List.ext_getElem (by simp) fun i h1 h2 => ?_
    simp [List.getElem?_eq_getElem h2]
  conv => lhs; rw [← h]
  rw [List.filter_map]
  rfl
/-- The names that are found, in the plan's order. -/
theorem FoundR.result {p : Pl} {a : Str} {found : List Str} (h : FoundR p a found) (hs : stepR p found = found) : (names p).filter (fun s => found.contains s) = reach p a := by
  classical
  rw [filter_named]
  unfold reach reachN
  congr 1
  refine List.filter_congr fun i hi => ?_
  have hil : i < (names p).length := List.mem_range.1 hi
  have : (names p)[i]?.getD [] ∈ found ↔ Rch (gD p) (deps p a) i := by
    rw [← mem_reach hil]
    exact ⟨h.rch _, h.all hs⟩
  rw [Bool.eq_iff_iff, decide_eq_true_eq, List.contains_iff_mem]
  exact this

/-- A name can be taken behind others. -/
def readyS (p : Pl) (out : List Str) (s : Str) : Bool := !out.contains s && (depends p s).all fun d => out.contains d
theorem named_contains {ns : List Str} (hn : ns.Nodup) {l : List Nat} (hl : ∀ i ∈ l, i < ns.length) {i : Nat} (hi : i < ns.length) : (named ns l).contains (ns[i]?.getD []) = l.contains i := by
  rw [Bool.eq_iff_iff, List.contains_iff_mem, List.contains_iff_mem]
  exact mem_named hn hl hi
theorem ready_rdy {p : Pl} {T : List Nat} (hT : ∀ x ∈ T, x < (names p).length) {i : Nat} (hi : i < (names p).length) : readyS p (named (names p) T) ((names p)[i]?.getD []) = rdy (gD p) T i := by
  unfold readyS rdy
  rw [named_contains (names_nodup p) hT hi]
  congr 1
  unfold depends
  rw [deps_at p hi]
  conv => lhs; arg 1; unfold named
  rw [List.all_map]
  rw [Bool.eq_iff_iff, List.all_eq_true, List.all_eq_true]
  constructor
  · intro h d hd
    have := h d hd
    simp only [Function.comp] at this
    rwa [named_contains (names_nodup p) hT (gD_lt p _ d hd)] at this
  · intro h d hd
    simp only [Function.comp]
    rw [named_contains (names_nodup p) hT (gD_lt p _ d hd)]
    exact h d hd
/-- The names that cannot be taken. -/
def restP (p : Pl) : List Str := (names p).filter fun s => !(named (names p) (takenP p)).contains s
theorem rest_none {p : Pl} : (restP p).length = 0 ↔ ordB p = true := by
  have hg := greedy_taken (names p).length (gD p)
  constructor
  · intro h
    cases hob : ordB p with
    | true => rfl
    | false =>
      obtain ⟨j, hj, hjt, _⟩ := exists_untaken (cyc_lt hob)
      have : (names p)[j]?.getD [] ∈ restP p := by
        unfold restP
        rw [List.mem_filter]
        refine ⟨by rw [List.getElem?_eq_getElem hj]; exact List.getElem_mem hj, ?_⟩
        rw [named_contains (names_nodup p) (takenP_lt p) hj]
        unfold takenP
        rw [hjt]; rfl
      rw [List.eq_nil_of_length_eq_zero h] at this
      simp at this
  · intro hob
    have ht := ord_taken hob
    refine List.length_eq_zero_iff.2 (List.filter_eq_nil_iff.2 fun s hs => ?_)
    obtain ⟨i, hi, rfl⟩ := mem_names_at hs
    rw [named_contains (names_nodup p) (takenP_lt p) hi]
    have hm : i ∈ takenP p := by
      refine Classical.byContradiction fun hn => ?_
      have := nodup_le (names p).length (i :: takenP p) (List.nodup_cons.2 ⟨hn, taken_nodup p⟩) (fun y hy => by
        rcases List.mem_cons.1 hy with rfl | hy
        · exact hi
        · exact takenP_lt p y hy)
      rw [List.length_cons] at this
      omega
    rw [List.contains_iff_mem.2 hm]; simp
end Go.Proofs.Ythbnbjigmgoldaa
