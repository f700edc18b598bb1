/- Layer 15: OrderLess in plain Lean. No conditions. -/
import Derived.Test.YthbnbjigmgoldaaOlRchS
namespace Go.Proofs.Ythbnbjigmgoldaa
set_option linter.unusedVariables false

def lessP (p : Pl) (k : Nat) : Pl := ⟨p.defs, p.cls.take k ++ p.cls.drop (k + 1)⟩
def moreP (p : Pl) (k : Nat) : Pl := ⟨p.defs, p.cls.drop k |>.take 1 |>.append p.cls⟩
/-- Two plans of the same direct dependence. -/
theorem deps_of {p q : Pl} (hn : names p = names q) (hd : ∀ a b, direct p a b = direct q a b) (a : Str) : deps p a = deps q a := by
  unfold deps; rw [hn]
  congr 1
  funext i; exact hd _ _
theorem gD_of {p q : Pl} (hn : names p = names q) (hd : ∀ a b, direct p a b = direct q a b) : gD p = gD q := by
  funext i; unfold gD; rw [deps_of hn hd, hn]
theorem more_direct (p : Pl) (k : Nat) (a b : Str) : direct (moreP p k) a b = direct p a b := by
  unfold direct moreP
  show ((p.cls.drop k).take 1 ++ p.cls).any _ = _
  rw [List.any_append]
  cases h : p.cls.any (fun c => c.nm == a && hits c b) with
  | true => simp
  | false =>
    rw [Bool.or_false, List.any_eq_false]
    intro c hc
    exact List.any_eq_false.1 h c (List.mem_of_mem_drop (List.mem_of_mem_take hc))
theorem more_names (p : Pl) (k : Nat) : names (moreP p k) = names p := rfl
theorem less_names (p : Pl) (k : Nat) : names (lessP p k) = names p := rfl
theorem more_gD (p : Pl) (k : Nat) : gD (moreP p k) = gD p := gD_of rfl (more_direct p k)
theorem more_order (p : Pl) (k : Nat) : orderL (moreP p k) = orderL p ∧ orderE (moreP p k) = orderE p ∧ cycle (moreP p k) = cycle p := by
  have hg := more_gD p k
  have ht : takenP (moreP p k) = takenP p := by unfold takenP; rw [hg, more_names]
  have ho : ordB (moreP p k) = ordB p := by unfold ordB; rw [ht, more_names]
  refine ⟨?_, ?_, ?_⟩
  · unfold orderL; rw [ho, ht, more_names]
  · unfold orderE; rw [ho]
  · unfold cycle; rw [hg, more_names]
theorem less_direct {p : Pl} {k : Nat} {a b : Str} (h : direct (lessP p k) a b = true) : direct p a b = true := by
  unfold direct lessP at h
  unfold direct
  rw [List.any_eq_true] at h ⊢
  obtain ⟨c, hc, h⟩ := h
  refine ⟨c, ?_, h⟩
  rcases List.mem_append.1 hc with hc | hc
  · exact List.mem_of_mem_take hc
  · exact List.mem_of_mem_drop hc
theorem less_deps {p : Pl} {k : Nat} {a : Str} {i : Nat} (h : i ∈ deps (lessP p k) a) : i ∈ deps p a := by
  rw [mem_deps] at h ⊢
  exact ⟨h.1, less_direct h.2⟩
theorem rch_mono {D E : Nat → List Nat} {s t : List Nat} (hD : ∀ i, ∀ j ∈ D i, j ∈ E i) (hs : ∀ j ∈ s, j ∈ t) {x : Nat} (h : Rch D s x) : Rch E t x := by
  induction h with
  | base hj => exact .base (hs _ hj)
  | step _ hj ih => exact .step ih (hD _ _ hj)
theorem less_rch {p : Pl} {k : Nat} {a : Str} {x : Nat} (h : Rch (gD (lessP p k)) (deps (lessP p k) a) x) : Rch (gD p) (deps p a) x :=
  rch_mono (fun i j hj => less_deps hj) (fun j hj => less_deps hj) h
theorem less_order {p : Pl} {k : Nat} (h : ordB p = true) : orderE (lessP p k) = 0 := by
  refine orderE_of ?_
  cases hob : ordB (lessP p k) with
  | true => rfl
  | false =>
    obtain ⟨x, hx, hr⟩ := (order_itself (gD_lt (lessP p k))).1 (cyc_lt hob)
    have := (order_itself (gD_lt p)).2 ⟨x, hx, less_rch (a := (names p)[x]?.getD []) hr⟩
    have h2 := ord_taken h
    unfold takenP at h2
    omega
theorem less_err {p : Pl} {k : Nat} : orderE p = 0 → orderE (lessP p k) = 0 := fun h => by
  cases hob : ordB p with
  | true => exact less_order hob
  | false => rw [orderE_no hob] at h; cases h
theorem less_reach {p : Pl} {k : Nat} {a d : Str} (h : d ∈ reach (lessP p k) a) : ∃ q : Nat, idxI (reach p a) d = q := by
  obtain ⟨j, hj, rfl⟩ := mem_names_at (reach_mem_names h)
  have h2 := (mem_reach (p := lessP p k) hj).1 h
  have h3 : (names (lessP p k))[j]?.getD [] ∈ reach p a := (mem_reach (p := p) hj).2 (less_rch h2)
  exact ⟨_, (Int.toNat_of_nonneg (idxI_mem.2 h3)).symm⟩
theorem clSize_mem {cs : List Cl} {c : Cl} (h : c ∈ cs) : clSize [c] ≤ clSize cs := by
  have := parts_le_clSize h
  simp only [clSize]; omega
theorem less_size {p : Pl} {k : Nat} (h : fewB p = true) : (lessP p k).size ≤ 2 ^ 38 := by
  obtain ⟨h1, h2, h3⟩ := few_parts h
  have h4 := congrArg clSize (List.take_append_drop k p.cls)
  have h5 := congrArg clSize (List.take_append_drop 1 (p.cls.drop k))
  rw [clSize_append] at h4 h5
  rw [List.drop_drop] at h5
  have h6 : clSize (lessP p k).cls ≤ clSize p.cls := by
    show clSize (p.cls.take k ++ p.cls.drop (k + 1)) ≤ _
    rw [clSize_append]
    omega
  have h7 : (lessP p k).cls.length ≤ p.cls.length := by
    show (p.cls.take k ++ p.cls.drop (k + 1)).length ≤ _
    rw [List.length_append, List.length_take, List.length_drop]; omega
  unfold Pl.size
  show p.defs.length + _ + _ ≤ _
  omega
theorem more_size {p : Pl} {k : Nat} (h : fewB p = true) : (moreP p k).size ≤ 2 ^ 38 := by
  obtain ⟨h1, h2, h3⟩ := few_parts h
  have h5 := congrArg clSize (List.take_append_drop 1 (p.cls.drop k))
  have h4 := congrArg clSize (List.take_append_drop k p.cls)
  rw [clSize_append] at h4 h5
  have h6 : clSize (moreP p k).cls ≤ clSize p.cls + clSize p.cls := by
    show clSize ((p.cls.drop k).take 1 ++ p.cls) ≤ _
    rw [clSize_append]; omega
  have h7 : (moreP p k).cls.length ≤ p.cls.length + 1 := by
    show ((p.cls.drop k).take 1 ++ p.cls).length ≤ _
    rw [List.length_append, List.length_take]; omega
  unfold Pl.size
  show p.defs.length + _ + _ ≤ _
  omega
end Go.Proofs.Ythbnbjigmgoldaa
