/- Package order: what newGraph's loops keep. No conditions. -/
import Derived.Test.YthbnbjigmgoldaaOGrSpec
import Derived.Test.YthbnbjigmgoldaaONames
import Derived.Test.YthbnbjigmgoldaaORefs
import Derived.Test.YthbnbjigmgoldaaOClM
namespace Go.Proofs.Ythbnbjigmgoldaa
open Go.RowKit
set_option linter.unusedVariables false

def numV (ns : List Str) (s : Str) : Option Value := if ns.contains s then some (Z (ns.idxOf s)) else none
/-- The first i names' numbers. -/
def numI (ns : List Str) (i : Nat) (s : Str) : Option Value := if (ns.take i).contains s then some (Z (ns.idxOf s)) else none
theorem numI_zero (ns : List Str) : numI ns 0 = fun _ => none := by funext s; simp [numI]
theorem numI_all (ns : List Str) : numI ns ns.length = numV ns := by funext s; simp [numI, numV]
theorem numI_out (ns : List Str) (hn : ns.Nodup) (i : Nat) (hi : i < ns.length) : numI ns i (ns[i]?.getD []) = none := by
  rw [List.getElem?_eq_getElem hi, Option.getD_some]
  unfold numI
  rw [if_neg]
  rw [List.contains_iff_mem, List.mem_iff_getElem]
  rintro ⟨j, hj, he⟩
  rw [List.getElem_take] at he
  rw [List.length_take] at hj
  have h1 := List.Nodup.idxOf_getElem hn j (by omega)
  have h2 := List.Nodup.idxOf_getElem hn i hi
  rw [he, h2] at h1
  omega
theorem numI_succ (ns : List Str) (hn : ns.Nodup) (i : Nat) (hi : i < ns.length) : updF (numI ns i) (ns[i]?.getD []) (Z i) = numI ns (i + 1) := by
  funext s
  unfold updF numI
  rw [List.getElem?_eq_getElem hi, Option.getD_some]
  have e := List.take_succ_eq_append_getElem hi
  by_cases h : s = ns[i]
  · subst h
    rw [if_pos (by simp), if_pos (by rw [List.contains_iff_mem, e, List.mem_append]; exact .inr (List.mem_singleton.2 rfl)), List.Nodup.idxOf_getElem hn]
  · have h1 : (s == ns[i]) = false := by rw [beq_eq_false_iff_ne]; exact h
    rw [h1, if_neg (by simp)]
    have h2 : (ns.take (i + 1)).contains s = (ns.take i).contains s := by
      rw [Bool.eq_iff_iff, List.contains_iff_mem, List.contains_iff_mem, e, List.mem_append]
      simp [h]
    rw [h2]
def rowV (F : Str → Option (List Nat)) (V : Str → Value) (s : Str) : Option Value := (F s).map fun _ => V s
/-- No two names' rows lie in one block. -/
def Dist (F : Str → Option (List Nat)) (V : Str → Value) : Prop := ∀ s s', (F s).isSome = true → (F s').isSome = true → s ≠ s' → (V s).ownBlock = none ∨ (V s).ownBlock ≠ (V s').ownBlock

/-- While a name's row is taken out: the map, the others' rows, the row, the graph's box, the names' numbers. -/
structure Mid (base M1 M2 G m : Nat) (ns : List Str) (nv : Value) (F : Str → Option (List Nat)) (V : Str → Value) (s : Str) (B0 : Nat) (w : World) (lv : Value) (cur : List Nat) (W : World) : Prop where
  map : MapIs W 9 M1 m (fS (rowV F V))
  rows : ∀ s' l, s' ≠ s → F s' = some l → OwnN base W (V s') l ∧ ((V s').ownBlock = none ∨ (V s').ownBlock ≠ lv.ownBlock)
  row : OwnN base W lv cur
  box : Blk W G #[nv, .map (some M1)] 66
  num : MapIs W 9 M2 ns.length (fS (numV ns))
  bel : Below B0 w W
  big : base ≤ W.heap.size
  b1 : M1 < base
  b2 : M2 < base
  b3 : G < base
  b4 : B0 ≤ base
  b5 : M1 ≠ M2
  b6 : B0 ≤ M1
section
variable {base M1 M2 G m : Nat} {ns : List Str} {nv : Value} {F : Str → Option (List Nat)} {V : Str → Value} {s : Str} {B0 : Nat} {w : World} {lv : Value} {cur : List Nat} {W W' : World}
theorem Mid.old (h : Mid base M1 M2 G m ns nv F V s B0 w lv cur W) (hb : Below W.heap.size W W') : Mid base M1 M2 G m ns nv F V s B0 w lv cur W' where
  map := h.map.below hb h.map.lt
  rows := fun s' l h1 h2 => ⟨(h.rows s' l h1 h2).1.old hb (Nat.le_refl _), (h.rows s' l h1 h2).2⟩
  row := h.row.old hb (Nat.le_refl _)
  box := h.box.below hb h.box.lt
  num := h.num.below hb h.num.lt
  bel := h.bel.trans (hb.mono (by have := h.big; have := h.b4; omega))
  big := Nat.le_trans h.big hb.size
  b1 := h.b1
  b2 := h.b2
  b3 := h.b3
  b4 := h.b4
  b5 := h.b5
  b6 := h.b6
theorem Mid.push (h : Mid base M1 M2 G m ns nv F V s B0 w lv cur W) {g n cap : Nat} {cur' : List Nat} (hg : W.grownBy W' lv.ownBlock) (hrow : OwnN base W' (.slice (some ⟨g, 0, none⟩) n cap) cur') (hat : lv.ownBlock = some g ∨ g = W.heap.size) :
    Mid base M1 M2 G m ns nv F V s B0 w (.slice (some ⟨g, 0, none⟩) n cap) cur' W' where
  map := h.map.kept hg (fun e => by have := (ownsRow_cells h.row e.symm).1; have := h.b1; omega)
  rows := fun s' l h1 h2 => by
    obtain ⟨h3, h4⟩ := h.rows s' l h1 h2
    refine ⟨h3.kept hg h4, ?_⟩
    rcases hat with ha | ha
    · rw [ha] at h4; exact h4
    · cases hv : (V s').ownBlock with
      | none => exact .inl rfl
      | some r =>
        refine .inr fun he => ?_
        simp [Value.ownBlock] at he
        have := ownsRow_lt h3 hv
        omega
  row := hrow
  box := h.box.kept hg (fun e => by have := (ownsRow_cells h.row e.symm).1; have := h.b3; omega)
  num := h.num.kept hg (fun e => by have := (ownsRow_cells h.row e.symm).1; have := h.b2; omega)
  bel := h.bel.trans (below_grown hg (fun r e => by have := (ownsRow_cells h.row e).1; have := h.b4; omega) (by have := h.big; have := h.b4; omega))
  big := Nat.le_trans h.big hg.size
  b1 := h.b1
  b2 := h.b2
  b3 := h.b3
  b4 := h.b4
  b5 := h.b5
  b6 := h.b6
end
/-- Between two clauses. -/
structure Gr (base M1 M2 G m : Nat) (ns : List Str) (nv : Value) (F : Str → Option (List Nat)) (V : Str → Value) (B0 : Nat) (w : World) (W : World) : Prop where
  map : MapIs W 9 M1 m (fS (rowV F V))
  rows : ∀ s' l, F s' = some l → OwnN base W (V s') l
  dist : Dist F V
  box : Blk W G #[nv, .map (some M1)] 66
  num : MapIs W 9 M2 ns.length (fS (numV ns))
  bel : Below B0 w W
  big : base ≤ W.heap.size
  b1 : M1 < base
  b2 : M2 < base
  b3 : G < base
  b4 : B0 ≤ base
  b5 : M1 ≠ M2
  b6 : B0 ≤ M1
/-- What stands at a name. -/
def atV (F : Str → Option (List Nat)) (V : Str → Value) (s : Str) : Value := (rowV F V s).getD (.slice none 0 0)
def atL (F : Str → Option (List Nat)) (s : Str) : List Nat := (F s).getD []
section
variable {base M1 M2 G m : Nat} {ns : List Str} {nv : Value} {F : Str → Option (List Nat)} {V : Str → Value} {B0 : Nat} {w : World} {W W' : World}
theorem Gr.row (h : Gr base M1 M2 G m ns nv F V B0 w W) (s : Str) : OwnN base W (atV F V s) (atL F s) := by
  unfold atV atL rowV
  cases hF : F s with
  | none => exact OwnN.nil _ _
  | some l => exact h.rows s l hF
theorem Gr.old (h : Gr base M1 M2 G m ns nv F V B0 w W) (hb : Below W.heap.size W W') : Gr base M1 M2 G m ns nv F V B0 w W' where
  map := h.map.below hb h.map.lt
  rows := fun s' l h1 => (h.rows s' l h1).old hb (Nat.le_refl _)
  dist := h.dist
  box := h.box.below hb h.box.lt
  num := h.num.below hb h.num.lt
  bel := h.bel.trans (hb.mono (by have := h.big; have := h.b4; omega))
  big := Nat.le_trans h.big hb.size
  b1 := h.b1
  b2 := h.b2
  b3 := h.b3
  b4 := h.b4
  b5 := h.b5
  b6 := h.b6
theorem Gr.mid (h : Gr base M1 M2 G m ns nv F V B0 w W) (s : Str) : Mid base M1 M2 G m ns nv F V s B0 w (atV F V s) (atL F s) W where
  map := h.map
  rows := fun s' l h1 h2 => by
    refine ⟨h.rows s' l h2, ?_⟩
    unfold atV rowV
    cases hF : F s with
    | none =>
      cases (V s').ownBlock with
      | none => exact .inl rfl
      | some r => exact .inr (by simp [Value.ownBlock])
    | some l' => exact h.dist s' s (by rw [h2]; rfl) (by rw [hF]; rfl) h1
  row := h.row s
  box := h.box
  num := h.num
  bel := h.bel
  big := h.big
  b1 := h.b1
  b2 := h.b2
  b3 := h.b3
  b4 := h.b4
  b5 := h.b5
  b6 := h.b6
/-- The row is put back. -/
theorem Mid.back {s : Str} {lv : Value} {cur : List Nat} {m' : Nat} (h : Mid base M1 M2 G m ns nv F V s B0 w lv cur W) (hd : Dist F V) (hg : W.grownBy W' (some M1)) (hm : MapIs W' 9 M1 m' (fS (updF (rowV F V) s lv))) :
    Gr base M1 M2 G m' ns nv (fun x => if x == s then some cur else F x) (fun x => if x == s then lv else V x) B0 w W' where
  map := by
    have : updF (rowV F V) s lv = rowV (fun x => if x == s then some cur else F x) (fun x => if x == s then lv else V x) := by
      funext x; unfold updF rowV; split <;> simp_all
    exact this ▸ hm
  rows := fun s' l h1 => by
    have hk : ∀ (v : Value) l, OwnN base W v l → OwnN base W' v l := fun v l ho => ho.kept hg (by
      cases hv : v.ownBlock with
      | none => exact .inl rfl
      | some r => exact .inr fun e => by cases e; have := (ownsRow_cells ho hv).1; have := h.b1; omega)
    by_cases hs : s' = s
    · subst hs
      simp only [BEq.rfl, if_true, Option.some.injEq] at h1 ⊢
      subst h1
      exact hk _ _ h.row
    · have hs' : (s' == s) = false := by rw [beq_eq_false_iff_ne]; exact hs
      simp only [hs', Bool.false_eq_true, if_false] at h1 ⊢
      exact hk _ _ (h.rows s' l hs h1).1
  dist := by
    intro x y hx hy hxy
    by_cases h1 : x = s
    · subst h1
      have h2 : (y == x) = false := by rw [beq_eq_false_iff_ne]; exact fun e => hxy e.symm
      simp only [BEq.rfl, if_true, h2, Bool.false_eq_true, if_false] at hx hy ⊢
      obtain ⟨l, hl⟩ := Option.isSome_iff_exists.1 hy
      rcases (h.rows y l (fun e => hxy e.symm) hl).2 with h3 | h3
      · cases hv : lv.ownBlock with
        | none => exact .inl rfl
        | some r => exact .inr (by rw [h3]; simp)
      · exact .inr (fun e => h3 e.symm)
    · have h1' : (x == s) = false := by rw [beq_eq_false_iff_ne]; exact h1
      by_cases h2 : y = s
      · subst h2
        simp only [BEq.rfl, if_true, h1', Bool.false_eq_true, if_false] at hx hy ⊢
        obtain ⟨l, hl⟩ := Option.isSome_iff_exists.1 hx
        exact (h.rows x l h1 hl).2
      · have h2' : (y == s) = false := by rw [beq_eq_false_iff_ne]; exact h2
        simp only [h1', h2', Bool.false_eq_true, if_false] at hx hy ⊢
        exact hd x y hx hy hxy
  box := h.box.kept hg (fun e => by
    cases e
    obtain ⟨D, ⟨es, clock, hh, _⟩, _⟩ := h.map
    have := h.box; unfold Blk at this; rw [hh] at this; cases this)
  num := h.num.kept hg (fun e => h.b5 (Option.some.inj e).symm)
  bel := h.bel.trans (below_grown hg (fun r e => by cases e; exact h.b6) (by have := h.big; have := h.b4; omega))
  big := Nat.le_trans h.big hg.size
  b1 := h.b1
  b2 := h.b2
  b3 := h.b3
  b4 := h.b4
  b5 := h.b5
  b6 := h.b6
end

/-- What the map holds behind k clauses. -/
def Fk (ns : List Str) (cs : List Cl) (k : Nat) (s : Str) : Option (List Nat) := if hasC (cs.take k) s then some (rawL ns (cs.take k) s) else none
theorem Fk_zero (ns : List Str) (cs : List Cl) : Fk ns cs 0 = fun _ => none := by funext s; simp [Fk, hasC]
theorem Fk_at (ns : List Str) (cs : List Cl) (k : Nat) (s : Str) : atL (Fk ns cs k) s = rawL ns (cs.take k) s := by
  unfold atL Fk
  cases h : hasC (cs.take k) s with
  | true => rfl
  | false => rw [rawL_none _ _ _ h]; rfl
theorem Fk_succ (ns : List Str) (cs : List Cl) (k : Nat) (c : Cl) (hc : cs[k]? = some c) : (fun x => if x == c.nm then some (rawL ns (cs.take k) c.nm ++ rawC ns c) else Fk ns cs k x) = Fk ns cs (k + 1) := by
  have hk := (List.getElem?_eq_some_iff.1 hc).1
  have e : cs.take (k + 1) = cs.take k ++ [c] := by
    rw [List.take_succ_eq_append_getElem hk]
    rw [List.getElem?_eq_getElem hk] at hc
    rw [Option.some.inj hc]
  funext x
  unfold Fk
  rw [e, hasC_snoc]
  by_cases h : x = c.nm
  · subst h; simp [rawL_snoc_same]
  · have h1 : (x == c.nm) = false := by rw [beq_eq_false_iff_ne]; exact h
    have h2 : (c.nm == x) = false := by rw [beq_eq_false_iff_ne]; exact fun e => h e.symm
    rw [h1, h2, rawL_snoc_other _ _ _ _ h]
    simp
theorem atV_fS (F : Str → Option (List Nat)) (V : Str → Value) (s : Str) : (fS (rowV F V) (.string s)).getD (.slice none 0 0) = atV F V s := rfl
theorem row_some (F : Str → Option (List Nat)) (V : Str → Value) (s : Str) : (fS (rowV F V) (.string s)).isSome = (F s).isSome := by
  show ((F s).map fun _ => V s).isSome = _
  cases F s <;> rfl

theorem take_str (l : List Str) (q : Nat) (hq : q < l.length) : l.take (q + 1) = l.take q ++ [l[q]?.getD []] := by
  rw [List.take_succ_eq_append_getElem hq, List.getElem?_eq_getElem hq]; rfl
theorem numV_get (ns : List Str) (s : Str) : (fS (numV ns) (.string s)) = (numOf ns s).map Z := by
  show numV ns s = _
  unfold numV numOf
  split <;> rfl

theorem rows_ne {w : World} {b b' e e' z z' n n' : Nat} {v v' : Value} {xs xs' : List Value} (h : w.ownsRow b e z v n xs) (h' : w.ownsRow b' e' z' v' n' xs') (hne : e ≠ e') : v.ownBlock = none ∨ v.ownBlock ≠ v'.ownBlock := by
  rcases h.2 with ⟨rfl, _⟩ | ⟨g, cap, cur, rfl, _, hg, _⟩
  · exact .inl rfl
  · rcases h'.2 with ⟨rfl, _⟩ | ⟨g', cap', cur', rfl, _, hg', _⟩
    · exact .inr (by simp [Value.ownBlock])
    · refine .inr fun he => ?_
      simp [Value.ownBlock] at he
      subst he
      rw [hg] at hg'; cases hg'; exact hne rfl
theorem blk_ne_row {w : World} {b b' e t z n : Nat} {v : Value} {xs : List Value} {cs : Array Value} (h : Blk w b cs t) (h' : w.ownsRow b' e z v n xs) (hne : t ≠ e) : some b ≠ v.ownBlock := by
  rcases h'.2 with ⟨rfl, _⟩ | ⟨g', cap', cur', rfl, _, hg', _⟩
  · simp [Value.ownBlock]
  · intro he
    simp [Value.ownBlock] at he
    subst he
    unfold Blk at h; rw [h] at hg'; cases hg'; exact hne rfl

/-- The graph: the names; for each name's text the numbers on which it depends. -/
def GraphIs (K : Nat) (w : World) (nv : Value) (b : Nat) (ns : List Str) (f : Str → List Nat) : Prop :=
  Strs K w nv ns ∧ b < K ∧ ∃ m F V, MapIs w 9 b m (fS (rowV F V)) ∧ (∀ s l, F s = some l → Nats K w (V s) l ∧ l = f s) ∧ ∀ s, F s = none → f s = []
theorem GraphIs.below {K K' B : Nat} {w w' : World} {nv : Value} {b : Nat} {ns : List Str} {f : Str → List Nat} (h : GraphIs K w nv b ns f) (hb : Below B w w') (hB : K ≤ B) (hK : K ≤ K') : GraphIs K' w' nv b ns f := by
  obtain ⟨h1, h2, m, F, V, h3, h4, h5⟩ := h
  exact ⟨h1.below hb hB hK, by omega, m, F, V, h3.below hb (by omega), fun s l hs => ⟨(h4 s l hs).1.below hb hB hK, (h4 s l hs).2⟩, h5⟩
theorem GraphIs.look {K : Nat} {w : World} {nv : Value} {b : Nat} {ns : List Str} {f : Str → List Nat} (h : GraphIs K w nv b ns f) (s : Str) (hs : s.length ≤ maxLen) :
    ∃ v, (Instr.lookup 64 (.map (some b)) (S s) false).run Try.prog w = .ok v w ∧ Nats K w v (f s) := by
  obtain ⟨h1, h2, m, F, V, h3, h4, h5⟩ := h
  refine ⟨_, h3.look (t := 64) keyS Try.underlying64 (Try.zeroValue68 _) (keyOf_S s hs), ?_⟩
  show Nats K w (((F s).map fun _ => V s).getD _) (f s)
  cases hF : F s with
  | none => rw [h5 s hF]; exact RowsV.nil none 0 (by simp [maxLen]) (fun _ => rfl)
  | some l => rw [← (h4 s l hF).2]; exact (h4 s l hF).1

/-- While the map is ranged over: the rows that are still to come, those that are sorted. -/
structure Rg (base M1 G M3 r m : Nat) (nv : Value) (F : Str → Option (List Nat)) (V : Str → Value) (D : DataW Value) (B2 : Nat) (w2 : World) (left : Lit → Bool) (cnt : Nat) (W : World) : Prop where
  rng : W.ranges Try.prog 9 tok M1 r m D left cnt
  todo : ∀ s l, left (.string s) = true → F s = some l → OwnN base W (V s) l
  sub : ∀ s, left (.string s) = true → (F s).isSome = true
  done : ∃ (m2 : Nat) (V2 : Str → Value), m2 + cnt ≤ m ∧ MapIs W 9 M3 m2 (fS fun s => if (F s).isSome && !left (.string s) then some (V2 s) else none) ∧
    ∀ s l, F s = some l → left (.string s) = false → OwnN base W (V2 s) (Lib.compact (srt l)) ∧ (V2 s).ownBlock = (V s).ownBlock
  dist : Dist F V
  box : Blk W G #[nv, .map (some M1)] 66
  bel : Below B2 w2 W
  big : base ≤ W.heap.size
  b1 : M1 < base
  b2 : G < base
  b3 : B2 ≤ M1
  b4 : base ≤ M3
  b5 : M3 ≠ r
  b6 : base ≤ r
theorem row_ne_map {w : World} {k b m base e z n : Nat} {f : Lit → Option Value} {v : Value} {xs : List Value} (h : MapIs w k b m f) (h' : w.ownsRow base e z v n xs) : v.ownBlock = none ∨ v.ownBlock ≠ some b := by
  cases hv : v.ownBlock with
  | none => exact .inl rfl
  | some g =>
    refine .inr fun he => ?_
    cases he
    obtain ⟨o, ho, hc⟩ := (ownsRow_cells h' hv).2
    obtain ⟨D, ⟨es, clock, hh, _⟩, _⟩ := h
    rw [hh] at ho; cases ho; simp [Obj.isCells] at hc
theorem row_ne_rng {w : World} {b r n cnt base e z n' : Nat} {D : DataW Value} {left : Lit → Bool} {v : Value} {xs : List Value} (h : w.ranges Try.prog 9 tok b r n D left cnt) (h' : w.ownsRow base e z v n' xs) : v.ownBlock = none ∨ v.ownBlock ≠ some r := by
  cases hv : v.ownBlock with
  | none => exact .inl rfl
  | some g =>
    refine .inr fun he => ?_
    cases he
    obtain ⟨o, ho, hc⟩ := (ownsRow_cells h' hv).2
    obtain ⟨es, clock, since, seen, c0, _, _, _, _, hr, _⟩ := h
    rw [hr] at ho; cases ho; simp [Obj.isCells] at hc
theorem ne_symm_row {v : Value} {b : Nat} (h : v.ownBlock = none ∨ v.ownBlock ≠ some b) : some b ≠ v.ownBlock := by
  rcases h with h | h
  · rw [h]; simp
  · exact fun e => h e.symm

section
variable {base M1 G M3 r m : Nat} {nv : Value} {F : Str → Option (List Nat)} {V : Str → Value} {D : DataW Value} {B2 : Nat} {w2 : World} {left : Lit → Bool} {cnt : Nat} {W : World}
/-- The round of the name x: the step, the sort, the compaction, the store. -/
theorem Rg.round (h : Rg base M1 G M3 r m nv F V D B2 w2 left cnt W) {x : Str} {l : List Nat} (hl : left (.string x) = true) (hF : F x = some l) {cnt' : Nat} {W1 W2 W3 W4 : World} {v' : Value}
    (hr1 : W1.ranges Try.prog 9 tok M1 r m D (fun z => left z && !z.sameKey (.string x)) cnt') (hlt : cnt' < cnt) (hg1 : W.grownBy W1 (some r))
    (hs2 : OwnN base W2 (V x) (srt l)) (hg2 : W1.grownBy W2 (V x).ownBlock) (hs3 : OwnN base W3 v' (Lib.compact (srt l))) (hv3 : v'.ownBlock = (V x).ownBlock) (hg3 : W2.grownBy W3 (V x).ownBlock)
    {m2 : Nat} {V2 : Str → Value} (hmc : m2 + cnt ≤ m) (hmd : MapIs W 9 M3 m2 (fS fun s => if (F s).isSome && !left (.string s) then some (V2 s) else none)) (hd : ∀ s l, F s = some l → left (.string s) = false → OwnN base W (V2 s) (Lib.compact (srt l)) ∧ (V2 s).ownBlock = (V s).ownBlock)
    (hmd4 : MapIs W4 9 M3 (if (fS (fun s => if (F s).isSome && !left (.string s) then some (V2 s) else none) (.string x)).isSome then m2 else m2 + 1) (upd (fS fun s => if (F s).isSome && !left (.string s) then some (V2 s) else none) (.string x) v')) (hg4 : W3.grownBy W4 (some M3)) :
    Rg base M1 G M3 r m nv F V D B2 w2 (fun z => left z && !z.sameKey (.string x)) cnt' W4 := by
  have hx := h.todo x l hl hF
  have hxr := row_ne_rng h.rng hx
  have hx1 : OwnN base W1 (V x) l := hx.kept hg1 hxr
  have hxm := row_ne_map hmd hx
  have hM1x : some M1 ≠ (V x).ownBlock := fun e => by have := (ownsRow_cells hx e.symm).1; have := h.b1; omega
  have hGx : some G ≠ (V x).ownBlock := fun e => by have := (ownsRow_cells hx e.symm).1; have := h.b2; omega
  have hlx : ∀ s, (left (.string s) && !(Lit.string s).sameKey (.string x)) = true ↔ left (.string s) = true ∧ s ≠ x := by
    intro s; simp [Lit.sameKey]
  have hmd3 : MapIs W3 9 M3 m2 _ := ((hmd.kept hg1 (by have := h.b5; simpa using this)).kept hg2 (ne_symm_row hxm)).kept hg3 (ne_symm_row hxm)
  have hmx : (fS (fun s => if (F s).isSome && !left (.string s) then some (V2 s) else none) (.string x)).isSome = false := by
    show (if (F x).isSome && !left (.string x) then some (V2 x) else none).isSome = false
    rw [hl]; simp
  rw [hmx] at hmd4
  simp only [Bool.false_eq_true, if_false] at hmd4
  -- what becomes of another row
  have other : ∀ (v : Value) (l' : List Nat), OwnN base W v l' → (v.ownBlock = none ∨ v.ownBlock ≠ (V x).ownBlock) → OwnN base W4 v l' := by
    intro v l' ho hne
    have h1 := ho.kept hg1 (row_ne_rng h.rng ho)
    have h2 := (h1.kept hg2 hne).kept hg3 hne
    exact h2.kept hg4 (row_ne_map hmd3 h2)
  refine ⟨?_, ?_, ?_, ?_, h.dist, ?_, ?_, ?_, h.b1, h.b2, h.b3, h.b4, h.b5, h.b6⟩
  · have hr2 := hr1.kept hg2 hM1x (ne_symm_row hxr)
    have hr3 := hr2.kept hg3 hM1x (ne_symm_row hxr)
    exact hr3.kept hg4 (by have := h.b1; have := h.b4; simp; omega) (by have := h.b5; simp; omega)
  · intro s l' hs hFs
    obtain ⟨h1, h2⟩ := (hlx s).1 hs
    exact other _ _ (h.todo s l' h1 hFs) (h.dist s x (by rw [hFs]; rfl) (by rw [hF]; rfl) h2)
  · intro s hs
    exact h.sub s ((hlx s).1 hs).1
  · refine ⟨m2 + 1, fun s => if s == x then v' else V2 s, by omega, ?_, ?_⟩
    · rw [upd_S] at hmd4
      refine hmd4.congr fun kl => ?_
      cases kl <;> try rfl
      rename_i s
      simp only [fS]
      unfold updF
      by_cases hs : s = x
      · subst hs
        simp [hF, Lit.sameKey]
      · have hs' : (s == x) = false := by rw [beq_eq_false_iff_ne]; exact hs
        simp [hs, Lit.sameKey]
    · intro s l' hFs hs
      by_cases hsx : s = x
      · subst hsx
        rw [hF] at hFs
        cases hFs
        simp only [BEq.rfl, if_true]
        exact ⟨hs3.kept hg4 (row_ne_map hmd3 hs3), hv3⟩
      · have hs' : (s == x) = false := by rw [beq_eq_false_iff_ne]; exact hsx
        have hle : left (.string s) = false := by
          cases hle : left (.string s) with
          | false => rfl
          | true => rw [Bool.eq_false_iff] at hs; exact absurd ((hlx s).2 ⟨hle, hsx⟩) hs
        simp only [hs', Bool.false_eq_true, if_false]
        obtain ⟨h1, h2⟩ := hd s l' hFs hle
        refine ⟨other _ _ h1 ?_, h2⟩
        rw [h2]
        exact h.dist s x (by rw [hFs]; rfl) (by rw [hF]; rfl) hsx
  · exact (((h.box.kept hg1 (by have := h.b2; have := h.b6; simp; omega)).kept hg2 hGx).kept hg3 hGx).kept hg4 (by have := h.b2; have := h.b4; simp; omega)
  · have e1 := below_grown hg1 (B := B2) (fun r e => by cases e; have := h.b1; have := h.b3; have := h.b6; omega) (by have := h.big; have := h.b1; have := h.b3; omega)
    have hrow : ∀ k, (V x).ownBlock = some k → B2 ≤ k := fun k e => by have := (ownsRow_cells hx e).1; have := h.b1; have := h.b3; omega
    have s1 := hg1.size
    have s2 := hg2.size
    have s3 := hg3.size
    have b0 : B2 ≤ W.heap.size := by have := h.big; have := h.b1; have := h.b3; omega
    exact (((h.bel.trans e1).trans (below_grown hg2 hrow (by omega))).trans (below_grown hg3 hrow (by omega))).trans (below_grown hg4 (fun r e => by cases e; have := h.b4; have := h.b1; have := h.b3; omega) (by omega))
  · have s1 := hg1.size
    have s2 := hg2.size
    have s3 := hg3.size
    have s4 := hg4.size
    have := h.big
    omega
end

theorem invK (key : Value) (kl : Lit) (h : keyOf Try.prog 9 key = some kl) : ∃ x : Str, key = S x := by
  cases key <;> simp [keyOf, mapKey, Try.underlying9] at h
  rename_i s
  exact ⟨s.data.toList, rfl⟩
theorem keyOf_S_inv {x : Str} {kl : Lit} (h : keyOf Try.prog 9 (S x) = some kl) : kl = .string x ∧ x.length ≤ maxLen := by
  unfold keyOf mapKey at h
  simp [Try.underlying9, ByteArray.size] at h
  exact ⟨h.2.symm, h.1⟩
theorem MapIs.at' {w w' : World} {k b m : Nat} {f : Lit → Option Value} (h : MapIs w k b m f) (hk : w'.heap[b]? = w.heap[b]?) : MapIs w' k b m f := by
  obtain ⟨D, ⟨es, clock, hh, rest⟩, h2⟩ := h; exact ⟨D, ⟨es, clock, hk.trans hh, rest⟩, h2⟩
/-- At the end of the range: the graph. -/
theorem Rg.graph {base M1 G M3 r m : Nat} {nv : Value} {V : Str → Value} {D : DataW Value} {B2 B1 : Nat} {w2 : World} {left : Lit → Bool} {cnt : Nat} {W W' : World} {p : Pl} {ns : List Str} {cs : List Cl}
    (h : Rg base M1 G M3 r m nv (Fk ns cs cs.length) V D B2 w2 left cnt W) (hns : ns = names p) (hcs : cs = p.cls) (hl : ∀ kl, left kl = false) (hn : OwnS B1 w2 nv ns) (hw2 : w2.heap.size ≤ B2) (hB1 : B1 ≤ B2)
    (hW : ∀ b, b < W.heap.size → b ≠ G → B1 ≤ b → W'.heap[b]? = W.heap[b]?) : GraphIs W'.heap.size W' nv M3 (names p) (deps p) := by
  subst hns hcs
  obtain ⟨m2, V2, hmc, hmd, hd⟩ := h.done
  have hmd' := hmd.at' (hW M3 hmd.lt (by have := h.b2; have := h.b4; omega) (by have := h.b1; have := h.b3; have := h.b4; omega))
  refine ⟨?_, hmd'.lt, m2, fun s => (Fk (names p) p.cls p.cls.length s).map fun l => Lib.compact (srt l), V2, ?_, ?_, ?_⟩
  · have h1 := hn.old h.bel hw2
    have h2 : OwnS B1 W' nv (names p) := ⟨ownsRow_at h1.1 (fun g hg => hW g (ownsRow_lt h1.1 hg) (fun e => by subst e; exact absurd hg.symm (blk_ne_row h.box h1.1 (by decide))) (ownsRow_cells h1.1 hg).1), h1.2⟩
    exact h2.strs
  · refine hmd'.congr fun kl => ?_
    cases kl <;> try rfl
    rename_i s
    simp only [fS, rowV, hl]
    cases hF : Fk (names p) p.cls p.cls.length s <;> simp
  · intro s l hs
    simp only [Option.map_eq_some_iff] at hs
    obtain ⟨l', hl', rfl⟩ := hs
    obtain ⟨h1, h2⟩ := hd s l' hl' (hl _)
    have h3 : OwnN base W' (V2 s) (Lib.compact (srt l')) := ownsRow_at h1 (fun g hg => hW g (ownsRow_lt h1 hg) (by have := (ownsRow_cells h1 hg).1; have := h.b2; omega) (by have := (ownsRow_cells h1 hg).1; have := h.b1; have := h.b3; omega))
    refine ⟨h3.nats, ?_⟩
    have e := Fk_at (names p) p.cls p.cls.length s
    unfold atL at e
    rw [hl', List.take_length] at e
    simp only [Option.getD_some] at e
    rw [e, compact_raw]
  · intro s hs
    simp only [Option.map_eq_none_iff] at hs
    have e := Fk_at (names p) p.cls p.cls.length s
    unfold atL at e
    rw [hs, List.take_length] at e
    simp only [Option.getD_none] at e
    rw [← compact_raw, ← e]
    simp [srt, Lib.compact, Lib.compactUpTo]
end Go.Proofs.Ythbnbjigmgoldaa
