/- Arguments of layer 15 opened, their strings bounded. No conditions. -/
import Derived.Test.YthbnbjigmgoldaaOlOpn
import Derived.Test.YthbnbjigmgoldaaOlRen
import Derived.SizedLaws
namespace Go.Proofs.Ythbnbjigmgoldaa
open Go.RowKit Go.Deep Go.ChangeShapes Go.WideShapes Go.ChangeAt
set_option linter.unusedVariables false

section
variable {H : Type} {enc : TypeId × Value → H} {W : World}
/-- The strings and slices in a datum are not larger than the form lets them be. -/
def WB (x : DataW H × List MemPlace) (t : TypeId) : Prop := ∀ n ∈ x.1.weights Try.prog t, n ≤ reachBytes
theorem WB.field {xs : List (DataW H × List MemPlace)} {ps : List MemPlace} {t : TypeId} {fs : Array Field} {f : Field} {i : Nat} {y : DataW H × List MemPlace} (h : WB (.agg (xs.map (·.1)), ps) t) (ht : Try.prog.underlying t = some (.struct fs)) (hf : fs[i]? = some f) (hy : xs[i]? = some y) : WB y f.type := fun n hn => by
  refine h n ?_
  simp only [DataW.weights, ht]
  exact DataW.weights_mem_each (j := i) (t := f.type) (d := y.1) (by rw [List.getElem?_map, Array.getElem?_toList, hf]; rfl) (by rw [List.getElem?_map, hy]; rfl) n hn
theorem weights_all {e : TypeId} {d : DataW H} : ∀ {l : List (DataW H)}, d ∈ l → ∀ n ∈ d.weights Try.prog e, n ∈ DataW.weightsAll Try.prog e l
  | a :: r, hd, n, hn => by
    simp only [DataW.weightsAll, List.mem_append]
    rcases List.mem_cons.1 hd with rfl | hd
    · exact .inl hn
    · exact .inr (weights_all hd n hn)
theorem WB.elem {elems : List (DataW H × List MemPlace)} {rest : List (DataW H)} {ps : List MemPlace} {t e : TypeId} {y : DataW H × List MemPlace} (h : WB (.slice (elems.map (·.1)) rest, ps) t) (ht : Try.prog.underlying t = some (.slice e)) (hy : y ∈ elems) : WB y e := fun n hn => by
  refine h n ?_
  simp only [DataW.weights, ht]
  refine List.mem_cons_of_mem _ (List.mem_append.2 (.inl ?_))
  exact weights_all (List.mem_map.2 ⟨y, hy, rfl⟩) n hn
theorem str_of_trodS {fuel : Nat} {cs : List Value} {x : DataW H × List MemPlace} (hw : WB x 9) (h : DataW.trod enc Try.prog W 0 (fun _ => true) true fuel 9 cs = some x) : ∃ s : Str, cs = [S s] ∧ s.length ≤ maxLen ∧ s.length ≤ 2 ^ 47 := by
  obtain ⟨s, rfl, rfl, hs⟩ := DataW.trod_string Try.underlying9 h
  refine ⟨s.data.toList, by cases s; rfl, by rw [Array.length_toList]; exact hs, ?_⟩
  have := hw s.data.toList.length (by simp [DataW.weights])
  exact Nat.le_trans this (by decide)
/-- A slice of structs that came in. -/
theorem rows_of_trodS {fuel c : Nat} {t e : TypeId} {v : Value} {x : DataW H × List MemPlace} (ht : Try.prog.underlying t = some (.slice e)) (hC : Try.prog.cellsOf e = c) (hpos : 0 < c) (hw : WB x t) (h : DataW.trod enc Try.prog W 0 (fun _ => true) true fuel t [v] = some x) :
    ∃ a len cap, v = .slice a len cap ∧ len ≤ cap ∧ cap ≤ maxLen ∧ (a = none → cap = 0) ∧ (0 < len → ∃ b o n, fuel = n + 1 ∧ a = some ⟨b, o, none⟩ ∧ b < W.heap.size ∧
      ∀ i, i < len → ∃ cs' y, cs'.length = c ∧ DataW.trod enc Try.prog W 0 (fun _ => true) true n e cs' = some y ∧ WB y e ∧ ∀ j u, cs'[j]? = some u → W.cell? ⟨b, o + (i * c + j), none⟩ = some u) := by
  rcases DataW.trod_slice ht h with ⟨hcs, _⟩ | ⟨a, len, cap, elems, rest, n, hf, hcs, hxe, _, hl, hm, hlen, hel, _, _⟩
  · simp only [List.cons.injEq, and_true] at hcs
    subst hcs
    exact ⟨none, 0, 0, rfl, Nat.le_refl _, Nat.zero_le _, fun _ => rfl, fun h => absurd h (by simp)⟩
  · simp only [List.cons.injEq, and_true] at hcs
    subst hcs
    refine ⟨some a, len, cap, rfl, hl, hm, (fun h => nomatch h), fun hp => ?_⟩
    rw [hC] at hel
    rw [hxe] at hw
    have key : ∀ i, i < len → ∃ cs' y, cs'.length = c ∧ DataW.trod enc Try.prog W 0 (fun _ => true) true n e cs' = some y ∧ WB y e ∧ ∀ j, j < c → W.cell? ((a.add (i * c)).add j) = cs'[j]? := by
      intro i hi
      have h1 := hel i hi
      rw [List.getElem?_eq_getElem (by omega)] at h1
      obtain ⟨cs', h2, h3⟩ := Option.bind_eq_some_iff.1 h1
      obtain ⟨_, hcl, hat⟩ := World.cells?_some h2
      exact ⟨cs', _, hcl, h3, hw.elem ht (List.getElem_mem _), hat⟩
    obtain ⟨b, o, sp⟩ := a
    have hlt : ∃ u, W.cell? ((Addr.add ⟨b, o, sp⟩ (0 * c)).add 0) = some u := by
      obtain ⟨cs', y, h1, _, _, h3⟩ := key 0 hp
      exact ⟨cs'[0]'(by omega), by rw [h3 0 hpos, List.getElem?_eq_getElem]⟩
    obtain ⟨u, hu⟩ := hlt
    have hsp : sp = none := by
      have := World.cell?_spot hu
      simpa [Addr.add] using this
    subst hsp
    have hadd : ∀ i, (Addr.add ⟨b, o, none⟩ i) = ⟨b, o + i, none⟩ := by
      intro i
      rw [Addr.add]
      by_cases h0 : i = 0
      · subst h0; simp
      · simp [h0]
    refine ⟨b, o, n, hf, rfl, ?_, fun i hi => ?_⟩
    · rw [add_add, hadd] at hu
      exact lt_of_cell hu
    · obtain ⟨cs', y, h1, h2, hwy, h3⟩ := key i hi
      refine ⟨cs', y, h1, h2, hwy, fun j u hj => ?_⟩
      have := h3 j (by have := (List.getElem?_eq_some_iff.1 hj).1; omega)
      rw [add_add, hadd, hj] at this
      exact this
theorem short_mk {o : Int} {n : Str} {es : List Ex} (hn : n.length ≤ 2 ^ 47) (h : ∀ e ∈ es, Short e) : Short (.mk o n es) := fun q hq => by
  rw [Ex.pre] at hq
  rcases List.mem_cons.1 hq with rfl | hq
  · exact hn
  · induction es with
    | nil => rw [preL] at hq; simp at hq
    | cons a r ih =>
      rw [preL, List.mem_append] at hq
      rcases hq with hq | hq
      · exact h a (by simp) q hq
      · exact ih (fun e he => h e (List.mem_cons_of_mem _ he)) (List.mem_cons_of_mem _ hq) hq
theorem ex_of_trodS : ∀ (m fuel : Nat), fuel ≤ m → ∀ (cs : List Value) (x : DataW H × List MemPlace), WB x 45 → DataW.trod enc Try.prog W 0 (fun _ => true) true fuel 45 cs = some x → ∃ (e : Ex) (c : Xv), cs = c.cells.toList ∧ ExX W.heap.size W e c ∧ Short e := by
  intro m
  induction m with
  | zero =>
    intro fuel hf cs x hw h
    obtain ⟨xs, n, rfl, _⟩ := DataW.trod_struct Try.underlying45 h
    omega
  | succ m ih =>
    intro fuel hf cs x hw h
    obtain ⟨xs, n, rfl, rfl, hl, hxl, hat⟩ := DataW.trod_struct Try.underlying45 h
    rw [show Try.prog.cellsOf 45 = 9 by kernel_rfl] at hl
    obtain ⟨a0, a1, a2, a3, a4, a5, a6, a7, a8, rfl⟩ := list9 hl
    obtain ⟨y0, y1, y2, y3, rfl⟩ := list4 hxl
    have h0 : DataW.trod enc Try.prog W 0 (fun _ => true) true n 5 (([a0, a1, a2, a3, a4, a5, a6, a7, a8].drop 0).take (Try.prog.cellsOf 5)) = some y0 := hat 0 _ rfl
    have h1 : DataW.trod enc Try.prog W 0 (fun _ => true) true n 9 (([a0, a1, a2, a3, a4, a5, a6, a7, a8].drop 1).take (Try.prog.cellsOf 9)) = some y1 := hat 1 _ rfl
    have h2 : DataW.trod enc Try.prog W 0 (fun _ => true) true n 42 (([a0, a1, a2, a3, a4, a5, a6, a7, a8].drop 2).take (Try.prog.cellsOf 42)) = some y2 := hat 2 _ rfl
    have h3 : DataW.trod enc Try.prog W 0 (fun _ => true) true n 43 (([a0, a1, a2, a3, a4, a5, a6, a7, a8].drop 8).take (Try.prog.cellsOf 43)) = some y3 := hat 3 _ rfl
    rw [show Try.prog.cellsOf 5 = 1 by kernel_rfl] at h0
    rw [show Try.prog.cellsOf 9 = 1 by kernel_rfl] at h1
    rw [show Try.prog.cellsOf 42 = 6 by kernel_rfl] at h2
    rw [show Try.prog.cellsOf 43 = 1 by kernel_rfl] at h3
    have w1 : WB y1 9 := hw.field (i := 1) Try.underlying45 rfl rfl
    have w3 : WB y3 43 := hw.field (i := 3) Try.underlying45 rfl rfl
    obtain ⟨op, e0, _⟩ := DataW.trod_int Try.underlying5 h0
    obtain ⟨s, e1, hs, hs47⟩ := str_of_trodS w1 h1
    obtain ⟨kd, b3, s4, b5, s6, i7, e2⟩ := val_of_trod h2
    have h3' : DataW.trod enc Try.prog W 0 (fun _ => true) true n 43 [a8] = some y3 := h3
    obtain ⟨a, len, cap, rfl, hlc, hcm, hz, hrow⟩ := rows_of_trodS Try.underlying43 (show Try.prog.cellsOf 45 = 9 by kernel_rfl) (by decide) w3 h3'
    simp at e0 e1 e2
    obtain ⟨rfl, rfl, rfl, rfl, rfl, rfl⟩ := e2
    subst e0 e1
    by_cases hp : 0 < len
    · obtain ⟨b, o, n', rfl, rfl, hb, hi⟩ := hrow hp
      have hch : ∀ i, i < len → ∃ q : Ex × Xv, (ExX W.heap.size W q.1 q.2 ∧ Short q.1) ∧ ∀ j, j < 9 → W.cell? ⟨b, o + (i * 9 + j), none⟩ = some (q.2.cell j) := by
        intro i hil
        obtain ⟨cs', y, hcl, hy, hwy, hcell⟩ := hi i hil
        obtain ⟨e, c, rfl, hec⟩ := ih n' (by omega) cs' y hwy hy
        exact ⟨(e, c), hec, fun j hj => hcell j _ (c.cells_at hj)⟩
      obtain ⟨f, hf2⟩ := choose_lt (α := Ex × Xv) hch
      refine ⟨.mk op s ((List.range len).map fun i => (f i).1), ⟨op, s, kd, b3, s4, b5, s6, i7, ⟨some ⟨b, o, none⟩, len, cap⟩⟩, rfl, ?_, short_mk hs47 fun e he => by
        obtain ⟨i, hi, rfl⟩ := List.mem_map.1 he
        exact (hf2 i (List.mem_range.1 hi)).1.2⟩
      rw [ExX]
      refine ⟨rfl, rfl, hs, fun i => (f i).2, ?_, exsX_iff.2 fun j e hj => ?_⟩
      · rw [List.length_map, List.length_range]
        exact RowsV.mk_cells hlc hcm hb fun i hil j hj => (hf2 i hil).2 j hj
      · have hjl : j < len := by have := (List.getElem?_eq_some_iff.1 hj).1; simpa using this
        rw [List.getElem?_map, List.getElem?_range hjl] at hj
        simp only [Option.map_some, Option.some.injEq] at hj
        rw [← hj, Nat.zero_add]
        exact (hf2 j hjl).1.1
    · obtain rfl : len = 0 := by omega
      refine ⟨.mk op s [], ⟨op, s, kd, b3, s4, b5, s6, i7, ⟨a, 0, cap⟩⟩, rfl, ?_, short_mk hs47 fun e he => by simp at he⟩
      rw [ExX]
      exact ⟨rfl, rfl, hs, fun _ => default, RowsV.nil a cap hcm hz, exsX_iff.2 fun j e hj => by simp at hj⟩
theorem cl_of_trodS {fuel : Nat} {cs : List Value} {x : DataW H × List MemPlace} (hwb : WB x 56) (h : DataW.trod enc Try.prog W 0 (fun _ => true) true fuel 56 cs = some x) : ∃ (q : Cl) (c : Cv), cs = c.cl ∧ ClX W.heap.size W q c ∧ q.nm.length ≤ 2 ^ 47 ∧ Short q.wh ∧ Short q.th := by
  obtain ⟨xs, n, rfl, rfl, hl, hxl, hat⟩ := DataW.trod_struct Try.underlying56 h
  rw [show Try.prog.cellsOf 56 = 24 by kernel_rfl] at hl
  obtain ⟨a0, a1, a2, a3, a4, a5, cw, ct, hw, ht, rfl⟩ := list24 hl
  have h0 : DataW.trod enc Try.prog W 0 (fun _ => true) true n 9 ((([a0, a1, a2, a3, a4, a5] ++ (cw ++ ct)).drop 0).take (Try.prog.cellsOf 9)) = xs[0]? := hat 0 _ rfl
  have h1 : DataW.trod enc Try.prog W 0 (fun _ => true) true n 9 ((([a0, a1, a2, a3, a4, a5] ++ (cw ++ ct)).drop 1).take (Try.prog.cellsOf 9)) = xs[1]? := hat 1 _ rfl
  have h2 : DataW.trod enc Try.prog W 0 (fun _ => true) true n 3 ((([a0, a1, a2, a3, a4, a5] ++ (cw ++ ct)).drop 2).take (Try.prog.cellsOf 3)) = xs[2]? := hat 2 _ rfl
  have h3 : DataW.trod enc Try.prog W 0 (fun _ => true) true n 3 ((([a0, a1, a2, a3, a4, a5] ++ (cw ++ ct)).drop 3).take (Try.prog.cellsOf 3)) = xs[3]? := hat 3 _ rfl
  have h4 : DataW.trod enc Try.prog W 0 (fun _ => true) true n 3 ((([a0, a1, a2, a3, a4, a5] ++ (cw ++ ct)).drop 4).take (Try.prog.cellsOf 3)) = xs[4]? := hat 4 _ rfl
  have h5 : DataW.trod enc Try.prog W 0 (fun _ => true) true n 4 ((([a0, a1, a2, a3, a4, a5] ++ (cw ++ ct)).drop 5).take (Try.prog.cellsOf 4)) = xs[5]? := hat 5 _ rfl
  have h6 : DataW.trod enc Try.prog W 0 (fun _ => true) true n 45 ((([a0, a1, a2, a3, a4, a5] ++ (cw ++ ct)).drop 6).take (Try.prog.cellsOf 45)) = xs[6]? := hat 6 _ rfl
  have h7 : DataW.trod enc Try.prog W 0 (fun _ => true) true n 45 ((([a0, a1, a2, a3, a4, a5] ++ (cw ++ ct)).drop 15).take (Try.prog.cellsOf 45)) = xs[7]? := hat 7 _ rfl
  have hx8 : xs.length = 8 := hxl
  rw [List.getElem?_eq_getElem (by omega)] at h0 h1 h2 h3 h4 h5 h6 h7
  rw [show Try.prog.cellsOf 9 = 1 by kernel_rfl] at h0 h1
  rw [show Try.prog.cellsOf 3 = 1 by kernel_rfl] at h2 h3 h4
  rw [show Try.prog.cellsOf 4 = 1 by kernel_rfl] at h5
  rw [show Try.prog.cellsOf 45 = 9 by kernel_rfl] at h6 h7
  have w1 : (([a0, a1, a2, a3, a4, a5] ++ (cw ++ ct)).drop 6).take 9 = cw := by
    rw [List.drop_append, List.drop_eq_nil_of_le (by simp)]; simp [← hw]
  have t1 : (([a0, a1, a2, a3, a4, a5] ++ (cw ++ ct)).drop 15).take 9 = ct := by
    rw [List.drop_append, List.drop_eq_nil_of_le (by simp), List.nil_append, List.drop_append, List.drop_eq_nil_of_le (by simp; omega)]; simp [hw, ← ht]
  rw [w1] at h6
  rw [t1] at h7
  have w0 : WB xs[0] 9 := hwb.field (i := 0) Try.underlying56 rfl (List.getElem?_eq_getElem (by omega))
  have w6 : WB xs[6] 45 := hwb.field (i := 6) Try.underlying56 rfl (List.getElem?_eq_getElem (by omega))
  have w7 : WB xs[7] 45 := hwb.field (i := 7) Try.underlying56 rfl (List.getElem?_eq_getElem (by omega))
  obtain ⟨s0, e0, hs0, hs47⟩ := str_of_trodS w0 h0
  obtain ⟨s1, e1, hs1⟩ := str_of_trod h1
  obtain ⟨i2, e2, _⟩ := DataW.trod_int Try.underlying3 h2
  obtain ⟨i3, e3, _⟩ := DataW.trod_int Try.underlying3 h3
  obtain ⟨i4, e4, _⟩ := DataW.trod_int Try.underlying3 h4
  obtain ⟨b5, e5, _⟩ := DataW.trod_bool Try.underlying4 h5
  obtain ⟨ew, xw, rfl, hew, hew2⟩ := ex_of_trodS n n (Nat.le_refl _) _ _ w6 h6
  obtain ⟨et, xt, rfl, het, het2⟩ := ex_of_trodS n n (Nat.le_refl _) _ _ w7 h7
  simp at e0 e1 e2 e3 e4 e5
  subst e0 e1 e2 e3 e4 e5
  refine ⟨⟨s0, ew, et⟩, ⟨s0, s1, i2, i3, i4, b5, xw, xt⟩, rfl, ⟨rfl, hs0, hew, het⟩, hs47, hew2, het2⟩
theorem cls_of_trodS {fuel : Nat} {v : Value} {x : DataW H × List MemPlace} (hw : WB x 24) (h : DataW.trod enc Try.prog W 0 (fun _ => true) true fuel 24 [v] = some x) : ∃ l, Cls W.heap.size W v l ∧ ∀ c ∈ l, c.nm.length ≤ 2 ^ 47 ∧ Short c.wh ∧ Short c.th := by
  obtain ⟨a, len, cap, rfl, hlc, hcm, hz, hrow⟩ := rows_of_trodS Try.underlying24 (show Try.prog.cellsOf 56 = 24 by kernel_rfl) (by decide) hw h
  by_cases hp : 0 < len
  · obtain ⟨b, o, n', rfl, rfl, hb, hi⟩ := hrow hp
    have hch : ∀ i, i < len → ∃ q : Cl × Cv, (ClX W.heap.size W q.1 q.2 ∧ q.1.nm.length ≤ 2 ^ 47 ∧ Short q.1.wh ∧ Short q.1.th) ∧ ∀ j, j < 24 → W.cell? ⟨b, o + (i * 24 + j), none⟩ = some (q.2.cell j) := by
      intro i hil
      obtain ⟨cs', y, hcl, hy, hwy, hcell⟩ := hi i hil
      obtain ⟨e, c, rfl, hec⟩ := cl_of_trodS hwy hy
      exact ⟨(e, c), hec, fun j hj => hcell j _ (c.cl_at hj)⟩
    obtain ⟨f, hf2⟩ := choose_lt (α := Cl × Cv) hch
    refine ⟨(List.range len).map fun i => (f i).1, ⟨fun i => (f i).2, ?_, fun j e hj => ?_⟩, fun c hc => by
      obtain ⟨i, hi, rfl⟩ := List.mem_map.1 hc
      exact (hf2 i (List.mem_range.1 hi)).1.2⟩
    · rw [List.length_map, List.length_range]
      exact RowsV.mk_cells hlc hcm hb fun i hil j hj => (hf2 i hil).2 j hj
    · have hjl : j < len := by have := (List.getElem?_eq_some_iff.1 hj).1; simpa using this
      rw [List.getElem?_map, List.getElem?_range hjl] at hj
      simp only [Option.map_some, Option.some.injEq] at hj
      rw [← hj]
      exact (hf2 j hjl).1.1
  · obtain rfl : len = 0 := by omega
    exact ⟨[], ⟨fun _ => default, RowsV.nil a cap hcm hz, fun j e hj => by simp at hj⟩, fun c hc => by simp at hc⟩
theorem defs_of_trodS {fuel : Nat} {v : Value} {x : DataW H × List MemPlace} (hw : WB x 22) (h : DataW.trod enc Try.prog W 0 (fun _ => true) true fuel 22 [v] = some x) : ∃ l, Defs W.heap.size W v l ∧ ∀ d ∈ l, d.1.length ≤ 2 ^ 47 := by
  obtain ⟨a, len, cap, rfl, hlc, hcm, hz, hrow⟩ := rows_of_trodS Try.underlying22 (show Try.prog.cellsOf 59 = 3 by kernel_rfl) (by decide) hw h
  by_cases hp : 0 < len
  · obtain ⟨b, o, n', rfl, rfl, hb, hi⟩ := hrow hp
    have hch : ∀ i, i < len → ∃ q : (Str × Bool) × Int, (q.1.1.length ≤ maxLen ∧ q.1.1.length ≤ 2 ^ 47) ∧ W.cell? ⟨b, o + (i * 3 + 0), none⟩ = some (S q.1.1) ∧ W.cell? ⟨b, o + (i * 3 + 1), none⟩ = some (.int .u8 q.2) ∧ W.cell? ⟨b, o + (i * 3 + 2), none⟩ = some (.bool q.1.2) := by
      intro i hil
      obtain ⟨cs', y, hcl, hy, hwy, hcell⟩ := hi i hil
      obtain ⟨y0, y1, y2, n, rfl, hl, h0, h1, h2⟩ := trod_struct3 Try.underlying59 hy
      obtain ⟨a0, a1, a2, rfl⟩ := list3 hcl
      rw [show Try.prog.cellsOf 9 = 1 by kernel_rfl] at h0
      rw [show Try.prog.cellsOf 5 = 1 by kernel_rfl] at h1
      rw [show Try.prog.cellsOf 4 = 1 by kernel_rfl] at h2
      have w0 : WB y0 9 := WB.field (xs := [y0, y1, y2]) (i := 0) hwy Try.underlying59 rfl rfl
      obtain ⟨s0, e0, hs0⟩ := str_of_trodS w0 h0
      obtain ⟨i1, e1, _⟩ := DataW.trod_int Try.underlying5 h1
      obtain ⟨b2, e2, _⟩ := DataW.trod_bool Try.underlying4 h2
      simp at e0 e1 e2
      subst e0 e1 e2
      exact ⟨((s0, b2), i1), hs0, hcell 0 _ rfl, hcell 1 _ rfl, hcell 2 _ rfl⟩
    obtain ⟨f, hf2⟩ := choose_lt (α := (Str × Bool) × Int) hch
    refine ⟨(List.range len).map fun i => (f i).1, ⟨fun i j => match j with | 0 => S (f i).1.1 | 1 => .int .u8 (f i).2 | _ => .bool (f i).1.2, ?_, fun i hil => ?_⟩, fun d hd => by
      obtain ⟨i, hi, rfl⟩ := List.mem_map.1 hd
      exact (hf2 i (List.mem_range.1 hi)).1.2⟩
    · rw [List.length_map, List.length_range]
      refine RowsV.mk_cells hlc hcm hb fun i hil j hj => ?_
      match j, hj with
      | 0, _ => exact (hf2 i hil).2.1
      | 1, _ => exact (hf2 i hil).2.2.1
      | 2, _ => exact (hf2 i hil).2.2.2
    · rw [List.length_map, List.length_range] at hil
      rw [List.getElem?_map, List.getElem?_range hil]
      exact ⟨rfl, (hf2 i hil).1.1, ⟨_, rfl⟩, rfl⟩
  · obtain rfl : len = 0 := by omega
    exact ⟨[], ⟨fun _ _ => undef, RowsV.nil a cap hcm hz, fun i hi => by simp at hi⟩, fun d hd => by simp at hd⟩
end
end Go.Proofs.Ythbnbjigmgoldaa
