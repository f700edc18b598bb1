/- Layer 15: rows that a call owns, read as clauses, definitions, names. No conditions. -/
import Derived.Test.YthooiobhlbnaoaaGreatORow
namespace Go.Proofs.YthooiobhlbnaoaaGreat
open Go.RowKit
set_option linter.unusedVariables false

theorem cl_rows (vs : List Cv) : RowsOk 24 (vs.map Cv.cl) := fun r hr => by
  obtain ⟨c, _, rfl⟩ := List.mem_map.1 hr
  exact ⟨c.cl_length, c.cl_one⟩
theorem OwnR.cls {base : Nat} {w : World} {v : Value} {cs : List Cl} {vs : List Cv} {d : Cv} (h : OwnR 24 89 base w v (vs.map Cv.cl)) (hl : vs.length = cs.length) (hx : ∀ (i : Nat) (x : Cl), cs[i]? = some x → ClX w.heap.size w x (vs[i]?.getD d)) : Cls w.heap.size w v cs := by
  refine ⟨fun i => vs[i]?.getD d, ?_, hx⟩
  have := h.rows
  rw [List.length_map, hl] at this
  refine this.congr fun i hi j hj => ?_
  have hv : vs[i]? = some vs[i] := List.getElem?_eq_getElem (show i < vs.length by omega)
  rw [List.getElem?_map, hv]
  simp only [Option.map_some, Option.getD_some]
  rw [Cv.cl_at _ hj]
  show _ = (vs[i]?.getD d).cell j
  rw [hv]; rfl
/-- Clauses that lie anywhere, as the source of an append. -/
theorem Cls.src {K : Nat} {w : World} {v : Value} {cs : List Cl} (h : Cls K w v cs) (hn : 0 < cs.length) : ∃ (b o cap : Nat) (vs : List Cv), v = .slice (some ⟨b, o, none⟩) cs.length cap ∧ cs.length ≤ cap ∧ cap ≤ maxLen ∧ b < K ∧ vs.length = cs.length ∧
    (∀ (i : Nat) (r : List Value) (j : Nat) (u : Value), (vs.map Cv.cl)[i]? = some r → r[j]? = some u → w.cell? ⟨b, o + (i * 24 + j), none⟩ = some u) ∧ ∀ (i : Nat) (x : Cl) (d : Cv), cs[i]? = some x → ClX K w x (vs[i]?.getD d) := by
  obtain ⟨g, h1, h2⟩ := h
  obtain ⟨b, o, cap, rfl, hl, hm, hb, hc⟩ := h1.pos hn
  refine ⟨b, o, cap, (List.range cs.length).map g, rfl, hl, hm, hb, by simp, fun i r j u hi hj => ?_, fun i x d hi => ?_⟩
  · have hil : i < cs.length := by have := (List.getElem?_eq_some_iff.1 hi).1; simpa using this
    rw [List.getElem?_map, List.getElem?_map, List.getElem?_range hil] at hi
    simp only [Option.map_some, Option.some.injEq] at hi
    subst hi
    have hj24 : j < 24 := by have := (List.getElem?_eq_some_iff.1 hj).1; rwa [Cv.cl_length] at this
    rw [Cv.cl_at _ hj24] at hj
    rw [hc i hil j hj24]; exact hj
  · have hil : i < cs.length := (List.getElem?_eq_some_iff.1 hi).1
    rw [List.getElem?_map, List.getElem?_range hil]
    exact h2 i x hi
theorem Tryz.infoClause : (Tryz.prog.info? 89).map (fun i => (i.zero, i.size, i.bytes)) = some (some (.agg ((List.range 24).map (Cv.cell ⟨[], [], 0, 0, 0, false, ⟨0, [], 0, false, ⟨none, 0, 0⟩, false, ⟨none, 0, 0⟩, 0, ⟨none, 0, 0⟩⟩, ⟨0, [], 0, false, ⟨none, 0, 0⟩, false, ⟨none, 0, 0⟩, 0, ⟨none, 0, 0⟩⟩⟩)).toArray), 24, 320) := by kernel_rfl
abbrev dfC (d : (Str × Bool) × Int) : List Value := [S d.1.1, .int .u8 d.2, .bool d.1.2]
theorem df_rows (ds : List ((Str × Bool) × Int)) : RowsOk 3 (ds.map dfC) := fun r hr => by
  obtain ⟨d, _, rfl⟩ := List.mem_map.1 hr
  exact ⟨rfl, fun u hu => by simp at hu; rcases hu with rfl | rfl | rfl <;> rfl⟩
theorem OwnR.defs {base : Nat} {w : World} {v : Value} {ds : List ((Str × Bool) × Int)} (h : OwnR 3 260 base w v (ds.map dfC)) (hx : ∀ d ∈ ds, d.1.1.length ≤ maxLen) : Defs w.heap.size w v (ds.map (·.1)) := by
  refine ⟨fun i j => match j with | 0 => S (ds[i]?.getD (([], false), 0)).1.1 | 1 => .int .u8 (ds[i]?.getD (([], false), 0)).2 | _ => .bool (ds[i]?.getD (([], false), 0)).1.2, ?_, fun i hi => ?_⟩
  · have := h.rows
    rw [List.length_map] at this ⊢
    refine this.congr fun i hi j hj => ?_
    rw [List.getElem?_map, List.getElem?_eq_getElem hi]
    match j, hj with
    | 0, _ => rfl
    | 1, _ => rfl
    | 2, _ => rfl
  · rw [List.length_map] at hi
    have hv : ds[i]? = some ds[i] := List.getElem?_eq_getElem hi
    show S (ds[i]?.getD (([], false), 0)).1.1 = S ((ds.map (·.1))[i]?.getD ([], false)).1 ∧ _ ∧ (∃ k, Value.int .u8 (ds[i]?.getD (([], false), 0)).2 = .int .u8 k) ∧ Value.bool (ds[i]?.getD (([], false), 0)).1.2 = _
    rw [List.getElem?_map, hv]
    exact ⟨rfl, hx _ (List.getElem_mem hi), ⟨_, rfl⟩, rfl⟩
end Go.Proofs.YthooiobhlbnaoaaGreat
