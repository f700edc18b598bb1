/- Layer 16: a clause is appended to clauses. No conditions beyond the readings of the arguments. -/
import Derived.Test.YthooiobhlbnaoaaGreatGlOpn
import Derived.Test.YthooiobhlbnaoaaGreatOlRow
import Derived.Test.YthooiobhlbnaoaaGreatORow0
import Derived.Test.YthooiobhlbnaoaaGreatORC
import Derived.Great.BuildSlice
namespace Go.Proofs.YthooiobhlbnaoaaGreat
open Go.RowKit
set_option linter.unusedVariables false

def CvB (c : Cv) : Prop := c.nm.length ≤ maxLen ∧ c.lb.length ≤ maxLen
theorem OwnR.gls {base : Nat} {w : World} {v : Value} {vs : List Cv} (h : OwnR 24 89 base w v (vs.map Cv.cl)) (hb : ∀ c ∈ vs, CvB c) : Gls w.heap.size w v (vs.map gcOf) := by
  have hat : ∀ i (hi : i < vs.length), vs[i]?.getD default = vs[i] := fun i hi => by rw [List.getElem?_eq_getElem hi]; rfl
  refine ⟨fun i => vs[i]?.getD default, ?_, fun i hi => ?_⟩
  · have h1 := h.rows
    rw [List.length_map] at h1
    rw [List.length_map]
    refine h1.congr fun i hi j hj => ?_
    show _ = (vs[i]?.getD default).cell j
    rw [List.getElem?_map, hat i hi, List.getElem?_eq_getElem hi]
    simp only [Option.map_some, Option.getD_some]
    rw [Cv.cl_at _ hj]; rfl
  · rw [List.length_map] at hi
    have hm := hb _ (List.getElem_mem hi)
    show gcOf (vs[i]?.getD default) = _ ∧ (vs[i]?.getD default).nm.length ≤ _ ∧ (vs[i]?.getD default).lb.length ≤ _
    rw [hat i hi]
    refine ⟨?_, hm.1, hm.2⟩
    unfold gAt; rw [List.getElem?_map, List.getElem?_eq_getElem hi]; rfl
theorem gls_src {K : Nat} {w : World} {v : Value} {cs : List Gc} (h : Gls K w v cs) : ∃ vs : List Cv, vs.map gcOf = cs ∧ (∀ c ∈ vs, CvB c) ∧ (0 < cs.length → ∃ b off cap, v = .slice (some ⟨b, off, none⟩) cs.length cap ∧ b < K ∧
    ∀ (i : Nat) (r : List Value) (j : Nat) (u : Value), (vs.map Cv.cl)[i]? = some r → r[j]? = some u → w.cell? ⟨b, off + (i * 24 + j), none⟩ = some u) := by
  obtain ⟨g, hg, hi⟩ := h
  refine ⟨(List.range cs.length).map g, ?_, fun c hc => ?_, fun h0 => ?_⟩
  · refine List.ext_getElem? fun k => ?_
    by_cases hk : k < cs.length
    · rw [List.getElem?_map, List.getElem?_map, List.getElem?_range hk]
      simp only [Option.map_some]
      rw [(hi k hk).1]; unfold gAt
      rw [List.getElem?_eq_getElem hk]; rfl
    · rw [List.getElem?_eq_none (by simpa using hk), List.getElem?_eq_none (by simpa using hk)]
  · obtain ⟨k, hk, rfl⟩ := List.mem_map.1 hc
    exact (hi k (List.mem_range.1 hk)).2
  · obtain ⟨b, o, cap, he, _, _, hb, hc⟩ := hg.pos h0
    refine ⟨b, o, cap, he, hb, fun i r j u hr hu => ?_⟩
    rw [List.getElem?_map, List.getElem?_map] at hr
    have hik : i < cs.length := by
      by_cases hik : i < cs.length
      · exact hik
      · rw [List.getElem?_eq_none (by simpa using hik)] at hr; cases hr
    rw [List.getElem?_range hik] at hr
    simp only [Option.map_some, Option.some.injEq] at hr
    subst hr
    have hj : j < 24 := by have := (List.getElem?_eq_some_iff.1 hu).1; rwa [Cv.cl_length] at this
    rw [Cv.cl_at _ hj] at hu
    cases hu
    exact hc i hik j hj
theorem own_none {base g : Nat} {W : World} (hq : Blk W g #[] 89) (hb : base ≤ g) : OwnR 24 89 base W (.slice (some ⟨g, 0, none⟩) 0 0) [] :=
  ⟨⟨rfl, .inr ⟨g, 0, _, rfl, hb, hq, Nat.le_refl _, Nat.zero_le _, rfl, rfl⟩⟩, RowsOk.nil 24⟩
/-- A clause is laid by an array literal. -/
theorem wp_build_cl {o : Oper} {a : Act} {w : World} {K : Act → World → Prop} {Q : Exit → Act → World → Prop} (x : Operand) (ho : o.op = .buildSlice 83 1 #[(0, x)]) (c : Cv) (hx : a.eval x = .agg c.cl.toArray)
    (h : K (a.put o.dst (.slice (some ⟨w.heap.size, 0, none⟩) 1 1)) (w.alloc (.cells c.cl.toArray 89))) : o.wp Tryz.prog a w K Q := by
  obtain ⟨i0, hi, hz0, hz1, hz2⟩ := info_parts Tryz.infoClause
  refine wp_buildSlice 83 89 1 #[(0, x)] ho c.cl.toArray i0 _ Tryz.underlying83 hi hz0 (by rw [hz1]; decide) (by rw [hz1]; decide) ?_ h
  rw [hz1]
  obtain ⟨y0, y1, y2, y3, y4, y5, ⟨p0, p1, p2, p3, ⟨p4, p5, p6⟩, p7, ⟨p8, p9, p10⟩, p11, ⟨p12, p13, p14⟩⟩, ⟨r0, r1, r2, r3, ⟨r4, r5, r6⟩, r7, ⟨r8, r9, r10⟩, r11, ⟨r12, r13, r14⟩⟩⟩ := c
  have e : (#[(0, x)] : Array (Nat × Operand)).map (fun (i, x) => (i, a.eval x)) = #[(0, a.eval x)] := by simp
  rw [e, hx]
  first | rfl | (show _ = _; kernel_rfl)
end Go.Proofs.YthooiobhlbnaoaaGreat
