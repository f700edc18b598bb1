/- OrderNames in plain Lean: marked names. No conditions. -/
import Derived.Test.YthbnbjigmgoldaaOlLawS
namespace Go.Proofs.Ythbnbjigmgoldaa
set_option linter.unusedVariables false

mutual
/-- An expression in which every reference has a mark at its end. -/
def renE (m : Str) : Ex → Ex
  | .mk o n es => .mk o (if o == 5 then n ++ m else n) (renL m es)
def renL (m : Str) : List Ex → List Ex
  | [] => []
  | e :: r => renE m e :: renL m r
end
theorem renL_map (m : Str) (es : List Ex) : renL m es = es.map (renE m) := by
  induction es with
  | nil => rfl
  | cons e r ih => rw [renL, ih]; rfl
def renC (m : Str) (c : Cl) : Cl := ⟨c.nm ++ m, renE m c.wh, renE m c.th⟩
def renP (m : Str) (p : Pl) : Pl := ⟨(p.defs.filter fun d => !d.2).map fun d => (d.1 ++ m, false), p.cls.map (renC m)⟩

theorem app_inj {m a b : Str} (h : a ++ m = b ++ m) : a = b := List.append_cancel_right h
theorem contains_map {f : Str → Str} (hf : ∀ a b, f a = f b → a = b) (l : List Str) (s : Str) : (l.map f).contains (f s) = l.contains s := by
  rw [Bool.eq_iff_iff, List.contains_iff_mem, List.contains_iff_mem, List.mem_map]
  exact ⟨fun ⟨x, hx, he⟩ => hf _ _ he ▸ hx, fun h => ⟨s, h, rfl⟩⟩
theorem dedup_map {f : Str → Str} (hf : ∀ a b, f a = f b → a = b) (l : List Str) : dedup (l.map f) = (dedup l).map f := by
  unfold dedup
  suffices h : ∀ (l acc : List Str), (l.map f).foldl addS (acc.map f) = (l.foldl addS acc).map f from h l []
  intro l
  induction l with
  | nil => intro acc; rfl
  | cons s r ih =>
    intro acc
    rw [List.map_cons, List.foldl_cons, List.foldl_cons, ← ih]
    congr 1
    unfold addS
    rw [contains_map hf]
    split
    · rfl
    · rw [List.map_append]; rfl
mutual
theorem refL_ren (m : Str) : ∀ e : Ex, refL (renE m e).pre = (refL e.pre).map (· ++ m)
  | .mk o n es => by
    rw [renE, Ex.pre, Ex.pre]
    have ih := refL_renL m es
    by_cases h : o = 5
    · subst h
      unfold refL at ih ⊢
      simp only [List.filter_cons, isRef]
      simpa using ih
    · have hb : (o == 5) = false := beq_eq_false_iff_ne.2 h
      unfold refL at ih ⊢
      simp only [List.filter_cons, isRef, hb]
      simpa using ih
theorem refL_renL (m : Str) : ∀ es : List Ex, refL (preL (renL m es)) = (refL (preL es)).map (· ++ m)
  | [] => rfl
  | e :: r => by
    rw [renL, preL, preL, refL_append, refL_append, List.map_append, refL_ren m e, refL_renL m r]
end
theorem refs_ren (m : Str) (e : Ex) : refs (renE m e) = (refs e).map (· ++ m) := by
  unfold refs
  rw [refL_ren, dedup_map fun a b h => app_inj h]
theorem names_ren (m : Str) (p : Pl) : names (renP m p) = (names p).map (· ++ m) := by
  unfold names
  rw [← dedup_map (f := (· ++ m)) fun a b h => app_inj h]
  congr 1
  unfold defL renP
  induction p.defs with
  | nil => rfl
  | cons d r ih =>
    cases hd : d.2 with
    | true => simpa [hd] using ih
    | false => simpa [hd] using ih
theorem direct_ren (m : Str) (p : Pl) (a b : Str) : direct (renP m p) (a ++ m) (b ++ m) = direct p a b := by
  unfold direct renP
  rw [List.any_map]
  congr 1
  funext c
  simp only [Function.comp, renC, hits]
  rw [refs_ren, refs_ren, contains_map (f := (· ++ m)) fun a b h => app_inj h, contains_map (f := (· ++ m)) fun a b h => app_inj h]
  congr 1
  rw [Bool.eq_iff_iff, beq_iff_eq, beq_iff_eq]
  exact ⟨app_inj, fun h => by rw [h]⟩
theorem at_map {f : Str → Str} {l : List Str} {i : Nat} (h : i < l.length) : (l.map f)[i]?.getD [] = f (l[i]?.getD []) := by
  rw [List.getElem?_map, List.getElem?_eq_getElem h]; rfl
theorem deps_ren (m : Str) (p : Pl) (a : Str) : deps (renP m p) (a ++ m) = deps p a := by
  unfold deps
  rw [names_ren, List.length_map]
  refine List.filter_congr fun i hi => ?_
  rw [at_map (f := (· ++ m)) (List.mem_range.1 hi), direct_ren]
theorem gD_ren (m : Str) (p : Pl) {i : Nat} (hi : i < (names p).length) : gD (renP m p) i = gD p i := by
  unfold gD
  rw [names_ren, at_map (f := (· ++ m)) hi, deps_ren]
theorem named_map {f : Str → Str} {ns : List Str} {l : List Nat} (h : ∀ x ∈ l, x < ns.length) : named (ns.map f) l = (named ns l).map f := by
  unfold named
  rw [List.map_map]
  exact List.map_congr_left fun i hi => at_map (h i hi)
theorem depends_ren (m : Str) (p : Pl) (a : Str) : depends (renP m p) (a ++ m) = (depends p a).map (· ++ m) := by
  unfold depends
  rw [deps_ren, names_ren]
  exact named_map fun x hx => deps_lt x hx

/-! ### graphs that are the same below a number -/
section
variable {n : Nat} {D E : Nat → List Nat}
theorem nextT_congr (h : ∀ i, i < n → D i = E i) (out : List Nat) : nextT n D out = nextT n E out := by
  unfold nextT
  have : ∀ (l : List Nat), (∀ i ∈ l, i < n) → l.find? (rdy D out) = l.find? (rdy E out) := by
    intro l
    induction l with
    | nil => intro _; rfl
    | cons i r ih =>
      intro hl
      rw [List.find?_cons, List.find?_cons, ih fun x hx => hl x (List.mem_cons_of_mem _ hx)]
      have : rdy D out i = rdy E out i := by unfold rdy; rw [h i (hl i (by simp))]
      rw [this]
  exact this _ fun i hi => List.mem_range.1 hi
theorem takeT_congr (h : ∀ i, i < n → D i = E i) : ∀ (k : Nat) (out : List Nat), takeT n D k out = takeT n E k out
  | 0, out => rfl
  | k + 1, out => by
    rw [takeT, takeT, nextT_congr h]
    cases nextT n E out with
    | none => rfl
    | some i => exact takeT_congr h k _
theorem taken_congr (h : ∀ i, i < n → D i = E i) : taken n D = taken n E := takeT_congr h n []
theorem rch_congr (h : ∀ i, i < n → D i = E i) (hD : ∀ j, ∀ d ∈ D j, d < n) {s : List Nat} (hs : ∀ x ∈ s, x < n) {j : Nat} (hr : Rch D s j) : Rch E s j := by
  induction hr with
  | base hj => exact .base hj
  | step hi hj ih =>
    rename_i i j
    exact .step ih (by rw [← h i (Rch.lt hs hD hi)]; exact hj)
theorem cycleN_congr (h : ∀ i, i < n → D i = E i) (hD : ∀ j, ∀ d ∈ D j, d < n) : cycleN n D = cycleN n E := by
  unfold cycleN
  rw [taken_congr h]
  cases hf : (List.range n).find? fun i => !(taken n E).contains i with
  | none => rfl
  | some i =>
    have hfi := List.find?_range_eq_some.1 hf
    have hin := List.mem_range.1 hfi.2.1
    have hit : (taken n D).contains i = false := by rw [taken_congr h]; simpa using hfi.1
    show walkC (firstU D (taken n E)) (n + 1) [] i = walkC (firstU E (taken n E)) (n + 1) [] i
    have key : ∀ (k : Nat) (way : List Nat) (i : Nat), i < n → (taken n D).contains i = false → walkC (firstU D (taken n E)) k way i = walkC (firstU E (taken n E)) k way i := by
      intro k
      induction k with
      | zero => intro way i _ _; rfl
      | succ k ih =>
        intro way i hi hit
        rw [walkC, walkC]
        split
        · rfl
        · obtain ⟨h1, h2⟩ := firstU_spec hi hit
          have he : firstU D (taken n E) i = firstU E (taken n E) i := by unfold firstU; rw [h i hi]
          rw [← he]
          rw [taken_congr h] at h1 h2
          exact ih _ _ (hD _ _ h1) (by rw [taken_congr h]; exact h2)
    exact key _ _ _ hin hit
end
theorem len_ren (m : Str) (p : Pl) : (names (renP m p)).length = (names p).length := by rw [names_ren, List.length_map]
theorem gD_same (m : Str) (p : Pl) : ∀ i, i < (names p).length → gD p i = gD (renP m p) i := fun i hi => (gD_ren m p hi).symm
theorem takenP_ren (m : Str) (p : Pl) : takenP (renP m p) = takenP p := by
  unfold takenP
  rw [len_ren]
  exact (taken_congr (gD_same m p)).symm
theorem ordB_ren (m : Str) (p : Pl) : ordB (renP m p) = ordB p := by unfold ordB; rw [takenP_ren, len_ren]
theorem orderE_ren (m : Str) (p : Pl) : orderE (renP m p) = orderE p := by unfold orderE; rw [ordB_ren]
theorem orderL_ren (m : Str) (p : Pl) : orderL (renP m p) = (orderL p).map (· ++ m) := by
  unfold orderL
  rw [ordB_ren, takenP_ren, names_ren]
  split
  · exact named_map (takenP_lt p)
  · rfl
theorem cycle_ren (m : Str) (p : Pl) : cycle (renP m p) = (cycle p).map (· ++ m) := by
  unfold cycle
  rw [len_ren, ← cycleN_congr (gD_same m p) (gD_lt p), names_ren]
  refine named_map fun x hx => ?_
  by_cases hc : (taken (names p).length (gD p)).length < (names p).length
  · exact (cycle_spec (gD_lt p) hc).2.2.1 x hx
  · rw [cycle_none (by omega)] at hx; simp at hx
theorem reach_ren (m : Str) (p : Pl) (a : Str) : reach (renP m p) (a ++ m) = (reach p a).map (· ++ m) := by
  unfold reach
  rw [names_ren, List.length_map, deps_ren]
  have : reachN (names p).length (gD (renP m p)) (deps p a) = reachN (names p).length (gD p) (deps p a) := by
    unfold reachN
    refine List.filter_congr fun j hj => ?_
    have h2 : ∀ j, ∀ d ∈ gD (renP m p) j, d < (names p).length := fun j d hd => by have := gD_lt (renP m p) j d hd; rwa [len_ren] at this
    have : Rch (gD (renP m p)) (deps p a) j ↔ Rch (gD p) (deps p a) j :=
      ⟨fun h => rch_congr (fun i hi => gD_ren m p hi) h2 (fun x hx => deps_lt x hx) h, fun h => rch_congr (fun i hi => (gD_ren m p hi).symm) (gD_lt p) (fun x hx => deps_lt x hx) h⟩
    exact decide_eq_decide.2 this
  rw [this]
  exact named_map fun x hx => by
    unfold reachN at hx
    exact List.mem_range.1 (List.mem_filter.1 hx).1
mutual
theorem parts_ren (m : Str) : ∀ e : Ex, (renE m e).pre.length = e.pre.length
  | .mk o n es => by rw [renE, Ex.pre, Ex.pre, List.length_cons, List.length_cons, partsL_ren m es]
theorem partsL_ren (m : Str) : ∀ es : List Ex, (preL (renL m es)).length = (preL es).length
  | [] => rfl
  | e :: r => by rw [renL, preL, preL, List.length_append, List.length_append, parts_ren m e, partsL_ren m r]
end
theorem size_ren (m : Str) (p : Pl) : (renP m p).size ≤ p.size := by
  unfold Pl.size renP
  have h1 : ((p.defs.filter fun d => !d.2).map fun d => (d.1 ++ m, false)).length ≤ p.defs.length := by rw [List.length_map]; exact List.length_filter_le _ _
  have h2 : clSize (p.cls.map (renC m)) = clSize p.cls := by
    induction p.cls with
    | nil => rfl
    | cons c r ih =>
      have a : (renC m c).wh.parts = c.wh.parts := parts_ren m c.wh
      have b : (renC m c).th.parts = c.th.parts := parts_ren m c.th
      rw [List.map_cons, clSize, clSize, ih, a, b]
  show ((p.defs.filter fun d => !d.2).map fun d => (d.1 ++ m, false)).length + (p.cls.map (renC m)).length + clSize (p.cls.map (renC m)) ≤ _
  have h3 : (p.cls.map (renC m)).length = p.cls.length := by simp
  rw [h2, h3]
  omega
end Go.Proofs.Ythbnbjigmgoldaa
