/- Layer 16: what comes in, opened: clauses. No conditions. -/
import Derived.Test.YthooiobhlbnaoaaGreatOlOpn
import Derived.Test.YthooiobhlbnaoaaGreatGaInF
namespace Go.Proofs.YthooiobhlbnaoaaGreat
open Go.RowKit Go.ChangeShapes Go.WideShapes Go.ChangeAt Go.Deep
set_option linter.unusedVariables false

section
variable {H : Type} {enc : TypeId × Value → H} {W : World}
theorem clb_of_trod {fuel : Nat} {cs : List Value} {x : DataW H × List MemPlace} (h : DataW.trod enc Tryz.prog W 0 (fun _ => true) true fuel 89 cs = some x) : ∃ c : Cv, cs = c.cl ∧ c.nm.length ≤ maxLen ∧ c.lb.length ≤ maxLen := by
  obtain ⟨xs, n, rfl, _, hl, hxl, hat⟩ := DataW.trod_struct Tryz.underlying89 h
  rw [show Tryz.prog.cellsOf 89 = 24 by kernel_rfl] at hl
  obtain ⟨a0, a1, a2, a3, a4, a5, cw, ct, hw, ht, rfl⟩ := list24 hl
  have h0 : DataW.trod enc Tryz.prog W 0 (fun _ => true) true n 9 ((([a0, a1, a2, a3, a4, a5] ++ (cw ++ ct)).drop 0).take (Tryz.prog.cellsOf 9)) = xs[0]? := hat 0 _ rfl
  have h1 : DataW.trod enc Tryz.prog W 0 (fun _ => true) true n 9 ((([a0, a1, a2, a3, a4, a5] ++ (cw ++ ct)).drop 1).take (Tryz.prog.cellsOf 9)) = xs[1]? := hat 1 _ rfl
  have h2 : DataW.trod enc Tryz.prog W 0 (fun _ => true) true n 3 ((([a0, a1, a2, a3, a4, a5] ++ (cw ++ ct)).drop 2).take (Tryz.prog.cellsOf 3)) = xs[2]? := hat 2 _ rfl
  have h3 : DataW.trod enc Tryz.prog W 0 (fun _ => true) true n 3 ((([a0, a1, a2, a3, a4, a5] ++ (cw ++ ct)).drop 3).take (Tryz.prog.cellsOf 3)) = xs[3]? := hat 3 _ rfl
  have h4 : DataW.trod enc Tryz.prog W 0 (fun _ => true) true n 3 ((([a0, a1, a2, a3, a4, a5] ++ (cw ++ ct)).drop 4).take (Tryz.prog.cellsOf 3)) = xs[4]? := hat 4 _ rfl
  have h5 : DataW.trod enc Tryz.prog W 0 (fun _ => true) true n 4 ((([a0, a1, a2, a3, a4, a5] ++ (cw ++ ct)).drop 5).take (Tryz.prog.cellsOf 4)) = xs[5]? := hat 5 _ rfl
  have h6 : DataW.trod enc Tryz.prog W 0 (fun _ => true) true n 32 ((([a0, a1, a2, a3, a4, a5] ++ (cw ++ ct)).drop 6).take (Tryz.prog.cellsOf 32)) = xs[6]? := hat 6 _ rfl
  have h7 : DataW.trod enc Tryz.prog W 0 (fun _ => true) true n 32 ((([a0, a1, a2, a3, a4, a5] ++ (cw ++ ct)).drop 15).take (Tryz.prog.cellsOf 32)) = xs[7]? := hat 7 _ rfl
  have hx8 : xs.length = 8 := hxl
  rw [List.getElem?_eq_getElem (by omega)] at h0 h1 h2 h3 h4 h5 h6 h7
  rw [show Tryz.prog.cellsOf 9 = 1 by kernel_rfl] at h0 h1
  rw [show Tryz.prog.cellsOf 3 = 1 by kernel_rfl] at h2 h3 h4
  rw [show Tryz.prog.cellsOf 4 = 1 by kernel_rfl] at h5
  rw [show Tryz.prog.cellsOf 32 = 9 by kernel_rfl] at h6 h7
  have w1 : (([a0, a1, a2, a3, a4, a5] ++ (cw ++ ct)).drop 6).take 9 = cw := by
    rw [List.drop_append, List.drop_eq_nil_of_le (by simp)]; simp [← hw]
  have t1 : (([a0, a1, a2, a3, a4, a5] ++ (cw ++ ct)).drop 15).take 9 = ct := by
    rw [List.drop_append, List.drop_eq_nil_of_le (by simp), List.nil_append, List.drop_append, List.drop_eq_nil_of_le (by simp; omega)]; simp [hw, ← ht]
  rw [w1] at h6
  rw [t1] at h7
  obtain ⟨s0, e0, hs0⟩ := str_of_trod h0
  obtain ⟨s1, e1, hs1⟩ := str_of_trod h1
  obtain ⟨i2, e2, _⟩ := DataW.trod_int Tryz.underlying3 h2
  obtain ⟨i3, e3, _⟩ := DataW.trod_int Tryz.underlying3 h3
  obtain ⟨i4, e4, _⟩ := DataW.trod_int Tryz.underlying3 h4
  obtain ⟨b5, e5, _⟩ := DataW.trod_bool Tryz.underlying4 h5
  obtain ⟨ew, xw, rfl, hew⟩ := ex_of_trod n n (Nat.le_refl _) _ _ h6
  obtain ⟨et, xt, rfl, het⟩ := ex_of_trod n n (Nat.le_refl _) _ _ h7
  simp at e0 e1 e2 e3 e4 e5
  subst e0 e1 e2 e3 e4 e5
  exact ⟨⟨s0, s1, i2, i3, i4, b5, xw, xt⟩, rfl, hs0, hs1⟩
theorem gls_of_trod {fuel : Nat} {v : Value} {x : DataW H × List MemPlace} (h : DataW.trod enc Tryz.prog W 0 (fun _ => true) true fuel 83 [v] = some x) : ∃ l, Gls W.heap.size W v l := by
  obtain ⟨a, len, cap, rfl, hlc, hcm, hz, hrow⟩ := rows_of_trod Tryz.underlying83 (show Tryz.prog.cellsOf 89 = 24 by kernel_rfl) (by decide) h
  by_cases hp : 0 < len
  · obtain ⟨b, o, n', rfl, rfl, hb, hi⟩ := hrow hp
    have hch : ∀ i, i < len → ∃ q : Cv, (q.nm.length ≤ maxLen ∧ q.lb.length ≤ maxLen) ∧ ∀ j, j < 24 → W.cell? ⟨b, o + (i * 24 + j), none⟩ = some (q.cell j) := by
      intro i hil
      obtain ⟨cs', y, hcl, hy, hcell⟩ := hi i hil
      obtain ⟨c, rfl, h1, h2⟩ := clb_of_trod hy
      exact ⟨c, ⟨h1, h2⟩, fun j hj => hcell j _ (c.cl_at hj)⟩
    obtain ⟨f, hf2⟩ := choose_lt (α := Cv) hch
    refine ⟨(List.range len).map fun i => gcOf (f i), f, ?_, fun j hj => ?_⟩
    · rw [List.length_map, List.length_range]
      exact RowsV.mk_cells hlc hcm hb fun i hil j hj => (hf2 i hil).2 j hj
    · have hjl : j < len := by simpa using hj
      refine ⟨?_, (hf2 j hjl).1.1, (hf2 j hjl).1.2⟩
      unfold gAt
      rw [List.getElem?_map, List.getElem?_range hjl]; rfl
  · obtain rfl : len = 0 := by omega
    exact ⟨[], fun _ => default, RowsV.nil a cap hcm hz, fun j hj => by simp at hj⟩
end
end Go.Proofs.YthooiobhlbnaoaaGreat
