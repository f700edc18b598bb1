/- Layer 15: what comes in, opened: plans, expressions, names. No conditions. -/
import Derived.Test.YthooiobhlbnaoaaGreatOMem
import Derived.OpenShut
import Derived.Deep.Slices
import Derived.Deep.Fields
import Derived.Deep.Strs
import Derived.ChangeSame
import Derived.Lib.SmallJoins
namespace Go.Proofs.YthooiobhlbnaoaaGreat
open Go.RowKit Go.ChangeShapes Go.WideShapes Go.ChangeAt Go.Deep
set_option linter.unusedVariables false

theorem lt_of_cell {w : World} {a : Addr} {v : Value} (h : w.cell? a = some v) : a.block < w.heap.size := World.block_lt_of_cell? w _ h
theorem list3 {α : Type} {l : List α} (h : l.length = 3) : ∃ a b c, l = [a, b, c] := by
  match l, h with
  | [a, b, c], _ => exact ⟨a, b, c, rfl⟩
theorem list2 {α : Type} {l : List α} (h : l.length = 2) : ∃ a b, l = [a, b] := by
  match l, h with
  | [a, b], _ => exact ⟨a, b, rfl⟩
theorem list4 {α : Type} {l : List α} (h : l.length = 4) : ∃ a b c d, l = [a, b, c, d] := by
  match l, h with
  | [a, b, c, d], _ => exact ⟨a, b, c, d, rfl⟩
theorem list6 {α : Type} {l : List α} (h : l.length = 6) : ∃ a b c d e f, l = [a, b, c, d, e, f] := by
  match l, h with
  | [a, b, c, d, e, f], _ => exact ⟨a, b, c, d, e, f, rfl⟩
theorem list9 {α : Type} {l : List α} (h : l.length = 9) : ∃ a b c d e f g i j, l = [a, b, c, d, e, f, g, i, j] := by
  match l, h with
  | [a, b, c, d, e, f, g, i, j], _ => exact ⟨a, b, c, d, e, f, g, i, j, rfl⟩
theorem list24 {α : Type} {l : List α} (h : l.length = 24) : ∃ a0 a1 a2 a3 a4 a5, ∃ w t : List α, w.length = 9 ∧ t.length = 9 ∧ l = [a0, a1, a2, a3, a4, a5] ++ (w ++ t) := by
  obtain ⟨a0, a1, a2, a3, a4, a5, h6⟩ := list6 (l := l.take 6) (by simp; omega)
  refine ⟨a0, a1, a2, a3, a4, a5, (l.drop 6).take 9, (l.drop 6).drop 9, by simp; omega, by simp; omega, ?_⟩
  rw [← h6, List.take_append_drop, List.take_append_drop]

section
variable {H : Type} {enc : TypeId × Value → H} {W : World}

/-- A slice of structs that came in. -/
theorem rows_of_trod {fuel c : Nat} {t e : TypeId} {v : Value} {x : DataW H × List MemPlace} (ht : Tryz.prog.underlying t = some (.slice e)) (hC : Tryz.prog.cellsOf e = c) (hpos : 0 < c) (h : DataW.trod enc Tryz.prog W 0 (fun _ => true) true fuel t [v] = some x) :
    ∃ a len cap, v = .slice a len cap ∧ len ≤ cap ∧ cap ≤ maxLen ∧ (a = none → cap = 0) ∧ (0 < len → ∃ b o n, fuel = n + 1 ∧ a = some ⟨b, o, none⟩ ∧ b < W.heap.size ∧
      ∀ i, i < len → ∃ cs' y, cs'.length = c ∧ DataW.trod enc Tryz.prog W 0 (fun _ => true) true n e cs' = some y ∧ ∀ j u, cs'[j]? = some u → W.cell? ⟨b, o + (i * c + j), none⟩ = some u) := by
  rcases DataW.trod_slice ht h with ⟨hcs, _⟩ | ⟨a, len, cap, elems, rest, n, hf, hcs, _, _, hl, hm, hlen, hel, _, _⟩
  · simp only [List.cons.injEq, and_true] at hcs
    subst hcs
    exact ⟨none, 0, 0, rfl, Nat.le_refl _, Nat.zero_le _, fun _ => rfl, fun h => absurd h (by simp)⟩
  · simp only [List.cons.injEq, and_true] at hcs
    subst hcs
    refine ⟨some a, len, cap, rfl, hl, hm, (fun h => nomatch h), fun hp => ?_⟩
    rw [hC] at hel
    have key : ∀ i, i < len → ∃ cs' y, cs'.length = c ∧ DataW.trod enc Tryz.prog W 0 (fun _ => true) true n e cs' = some y ∧ ∀ j, j < c → W.cell? ((a.add (i * c)).add j) = cs'[j]? := by
      intro i hi
      have h1 := hel i hi
      rw [List.getElem?_eq_getElem (by omega)] at h1
      obtain ⟨cs', h2, h3⟩ := Option.bind_eq_some_iff.1 h1
      obtain ⟨_, hcl, hat⟩ := World.cells?_some h2
      exact ⟨cs', _, hcl, h3, hat⟩
    obtain ⟨b, o, sp⟩ := a
    have hlt : ∃ u, W.cell? ((Addr.add ⟨b, o, sp⟩ (0 * c)).add 0) = some u := by
      obtain ⟨cs', y, h1, _, h3⟩ := key 0 hp
      exact ⟨cs'[0]'(by omega), by rw [h3 0 hpos, List.getElem?_eq_getElem]⟩
    obtain ⟨u, hu⟩ := hlt
    have hsp : sp = none := by
      have := World.cell?_spot hu
      simpa [Addr.add] using this
    subst hsp
    have hadd : ∀ i, (Addr.add ⟨b, o, none⟩ i) = ⟨b, o + i, none⟩ := by
      intro i
      rw [Addr.add]
      by_cases h0 : i = 0
      · subst h0; simp
      · simp [h0]
    refine ⟨b, o, n, hf, rfl, ?_, fun i hi => ?_⟩
    · rw [add_add, hadd] at hu
      exact lt_of_cell hu
    · obtain ⟨cs', y, h1, h2, h3⟩ := key i hi
      refine ⟨cs', y, h1, h2, fun j u hj => ?_⟩
      have := h3 j (by have := (List.getElem?_eq_some_iff.1 hj).1; omega)
      rw [add_add, hadd, hj] at this
      exact this
theorem str_of_trod {fuel : Nat} {cs : List Value} {x : DataW H × List MemPlace} (h : DataW.trod enc Tryz.prog W 0 (fun _ => true) true fuel 9 cs = some x) : ∃ s : Str, cs = [S s] ∧ s.length ≤ maxLen := by
  obtain ⟨s, rfl, _, hs⟩ := DataW.trod_string Tryz.underlying9 h
  exact ⟨s.data.toList, by cases s; rfl, by rw [Array.length_toList]; exact hs⟩
theorem sl_of_trod {fuel c : Nat} {t e : TypeId} {cs : List Value} {x : DataW H × List MemPlace} (ht : Tryz.prog.underlying t = some (.slice e)) (h : DataW.trod enc Tryz.prog W 0 (fun _ => true) true fuel t cs = some x) : ∃ s : Sl, cs = [s.val] := by
  rcases DataW.trod_slice ht h with ⟨hcs, _⟩ | ⟨a, len, cap, elems, rest, n, hf, hcs, _⟩
  · exact ⟨⟨none, 0, 0⟩, hcs⟩
  · exact ⟨⟨some a, len, cap⟩, hcs⟩
theorem whole_of_trod {fuel : Nat} {cs : List Value} {x : DataW H × List MemPlace} (h : DataW.trod enc Tryz.prog W 0 (fun _ => true) true fuel 26 cs = some x) : ∃ (b : Bool) (s : Sl), cs = [.bool b, s.val] := by
  obtain ⟨y0, y1, n, _, hl, h0, h1⟩ := trod_struct2 Tryz.underlying26 h
  rw [show Tryz.prog.cellsOf 26 = 2 by kernel_rfl] at hl
  obtain ⟨a, b, rfl⟩ := list2 hl
  rw [show Tryz.prog.cellsOf 4 = 1 by kernel_rfl] at h0
  rw [show Tryz.prog.cellsOf 24 = 1 by kernel_rfl] at h1
  obtain ⟨q0, e0, _⟩ := DataW.trod_bool Tryz.underlying4 h0
  obtain ⟨q1, e1⟩ := sl_of_trod (c := 1) Tryz.underlying24 h1
  simp at e0 e1
  exact ⟨q0, q1, by rw [e0, e1]⟩
theorem frac_of_trod {fuel : Nat} {cs : List Value} {x : DataW H × List MemPlace} (h : DataW.trod enc Tryz.prog W 0 (fun _ => true) true fuel 28 cs = some x) : ∃ (b : Bool) (s : Sl) (b' : Bool) (s' : Sl), cs = [.bool b, s.val, .bool b', s'.val] := by
  obtain ⟨y0, y1, n, _, hl, h0, h1⟩ := trod_struct2 Tryz.underlying28 h
  rw [show Tryz.prog.cellsOf 28 = 4 by kernel_rfl] at hl
  obtain ⟨a, b, c, d, rfl⟩ := list4 hl
  rw [show Tryz.prog.cellsOf 26 = 2 by kernel_rfl] at h0 h1
  obtain ⟨q0, s0, e0⟩ := whole_of_trod h0
  obtain ⟨q1, s1, e1⟩ := whole_of_trod h1
  simp at e0 e1
  exact ⟨q0, s0, q1, s1, by rw [e0.1, e0.2, e1.1, e1.2]⟩
theorem val_of_trod {fuel : Nat} {cs : List Value} {x : DataW H × List MemPlace} (h : DataW.trod enc Tryz.prog W 0 (fun _ => true) true fuel 30 cs = some x) : ∃ (k : Int) (b : Bool) (s : Sl) (b' : Bool) (s' : Sl) (i : Int), cs = [.int .u8 k, .bool b, s.val, .bool b', s'.val, .int .i64 i] := by
  obtain ⟨y0, y1, y2, n, _, hl, h0, h1, h2⟩ := trod_struct3 Tryz.underlying30 h
  rw [show Tryz.prog.cellsOf 30 = 6 by kernel_rfl] at hl
  obtain ⟨a, b, c, d, e, f, rfl⟩ := list6 hl
  rw [show Tryz.prog.cellsOf 5 = 1 by kernel_rfl] at h0
  rw [show Tryz.prog.cellsOf 28 = 4 by kernel_rfl] at h1
  rw [show Tryz.prog.cellsOf 3 = 1 by kernel_rfl] at h2
  obtain ⟨q0, e0, _⟩ := DataW.trod_int Tryz.underlying5 h0
  obtain ⟨b1, s1, b2, s2, e1⟩ := frac_of_trod h1
  obtain ⟨q2, e2, _⟩ := DataW.trod_int Tryz.underlying3 h2
  simp at e0 e1 e2
  exact ⟨q0, b1, s1, b2, s2, q2, by rw [e0, e1.1, e1.2.1, e1.2.2.1, e1.2.2.2, e2]⟩
instance : Inhabited Xv := ⟨⟨0, [], 0, false, ⟨none, 0, 0⟩, false, ⟨none, 0, 0⟩, 0, ⟨none, 0, 0⟩⟩⟩
/-- An expression that came in. -/
theorem ex_of_trod : ∀ (m fuel : Nat), fuel ≤ m → ∀ (cs : List Value) (x : DataW H × List MemPlace), DataW.trod enc Tryz.prog W 0 (fun _ => true) true fuel 32 cs = some x → ∃ (e : Ex) (c : Xv), cs = c.cells.toList ∧ ExX W.heap.size W e c := by
  intro m
  induction m with
  | zero =>
    intro fuel hf cs x h
    obtain ⟨xs, n, rfl, _⟩ := DataW.trod_struct Tryz.underlying32 h
    omega
  | succ m ih =>
    intro fuel hf cs x h
    obtain ⟨xs, n, rfl, _, hl, hxl, hat⟩ := DataW.trod_struct Tryz.underlying32 h
    rw [show Tryz.prog.cellsOf 32 = 9 by kernel_rfl] at hl
    obtain ⟨a0, a1, a2, a3, a4, a5, a6, a7, a8, rfl⟩ := list9 hl
    obtain ⟨y0, y1, y2, y3, rfl⟩ := list4 hxl
    have h0 : DataW.trod enc Tryz.prog W 0 (fun _ => true) true n 5 (([a0, a1, a2, a3, a4, a5, a6, a7, a8].drop 0).take (Tryz.prog.cellsOf 5)) = some y0 := hat 0 _ rfl
    have h1 : DataW.trod enc Tryz.prog W 0 (fun _ => true) true n 9 (([a0, a1, a2, a3, a4, a5, a6, a7, a8].drop 1).take (Tryz.prog.cellsOf 9)) = some y1 := hat 1 _ rfl
    have h2 : DataW.trod enc Tryz.prog W 0 (fun _ => true) true n 30 (([a0, a1, a2, a3, a4, a5, a6, a7, a8].drop 2).take (Tryz.prog.cellsOf 30)) = some y2 := hat 2 _ rfl
    have h3 : DataW.trod enc Tryz.prog W 0 (fun _ => true) true n 22 (([a0, a1, a2, a3, a4, a5, a6, a7, a8].drop 8).take (Tryz.prog.cellsOf 22)) = some y3 := hat 3 _ rfl
    rw [show Tryz.prog.cellsOf 5 = 1 by kernel_rfl] at h0
    rw [show Tryz.prog.cellsOf 9 = 1 by kernel_rfl] at h1
    rw [show Tryz.prog.cellsOf 30 = 6 by kernel_rfl] at h2
    rw [show Tryz.prog.cellsOf 22 = 1 by kernel_rfl] at h3
    obtain ⟨op, e0, _⟩ := DataW.trod_int Tryz.underlying5 h0
    obtain ⟨s, e1, hs⟩ := str_of_trod h1
    obtain ⟨kd, b3, s4, b5, s6, i7, e2⟩ := val_of_trod h2
    have h3' : DataW.trod enc Tryz.prog W 0 (fun _ => true) true n 22 [a8] = some y3 := h3
    obtain ⟨a, len, cap, rfl, hlc, hcm, hz, hrow⟩ := rows_of_trod Tryz.underlying22 (show Tryz.prog.cellsOf 32 = 9 by kernel_rfl) (by decide) h3'
    simp at e0 e1 e2
    obtain ⟨rfl, rfl, rfl, rfl, rfl, rfl⟩ := e2
    subst e0 e1
    by_cases hp : 0 < len
    · obtain ⟨b, o, n', rfl, rfl, hb, hi⟩ := hrow hp
      have hch : ∀ i, i < len → ∃ q : Ex × Xv, ExX W.heap.size W q.1 q.2 ∧ ∀ j, j < 9 → W.cell? ⟨b, o + (i * 9 + j), none⟩ = some (q.2.cell j) := by
        intro i hil
        obtain ⟨cs', y, hcl, hy, hcell⟩ := hi i hil
        obtain ⟨e, c, rfl, hec⟩ := ih n' (by omega) cs' y hy
        exact ⟨(e, c), hec, fun j hj => hcell j _ (c.cells_at hj)⟩
      obtain ⟨f, hf2⟩ := choose_lt (α := Ex × Xv) hch
      refine ⟨.mk op s ((List.range len).map fun i => (f i).1), ⟨op, s, kd, b3, s4, b5, s6, i7, ⟨some ⟨b, o, none⟩, len, cap⟩⟩, rfl, ?_⟩
      rw [ExX]
      refine ⟨rfl, rfl, hs, fun i => (f i).2, ?_, exsX_iff.2 fun j e hj => ?_⟩
      · rw [List.length_map, List.length_range]
        exact RowsV.mk_cells hlc hcm hb fun i hil j hj => (hf2 i hil).2 j hj
      · have hjl : j < len := by have := (List.getElem?_eq_some_iff.1 hj).1; simpa using this
        rw [List.getElem?_map, List.getElem?_range hjl] at hj
        simp only [Option.map_some, Option.some.injEq] at hj
        rw [← hj, Nat.zero_add]
        exact (hf2 j hjl).1
    · obtain rfl : len = 0 := by omega
      refine ⟨.mk op s [], ⟨op, s, kd, b3, s4, b5, s6, i7, ⟨a, 0, cap⟩⟩, rfl, ?_⟩
      rw [ExX]
      exact ⟨rfl, rfl, hs, fun _ => default, RowsV.nil a cap hcm hz, exsX_iff.2 fun j e hj => by simp at hj⟩
instance : Inhabited Cv := ⟨⟨[], [], 0, 0, 0, false, default, default⟩⟩
theorem cl_of_trod {fuel : Nat} {cs : List Value} {x : DataW H × List MemPlace} (h : DataW.trod enc Tryz.prog W 0 (fun _ => true) true fuel 89 cs = some x) : ∃ (q : Cl) (c : Cv), cs = c.cl ∧ ClX W.heap.size W q c := by
  obtain ⟨xs, n, rfl, _, hl, hxl, hat⟩ := DataW.trod_struct Tryz.underlying89 h
  rw [show Tryz.prog.cellsOf 89 = 24 by kernel_rfl] at hl
  obtain ⟨a0, a1, a2, a3, a4, a5, cw, ct, hw, ht, rfl⟩ := list24 hl
  have h0 : DataW.trod enc Tryz.prog W 0 (fun _ => true) true n 9 ((([a0, a1, a2, a3, a4, a5] ++ (cw ++ ct)).drop 0).take (Tryz.prog.cellsOf 9)) = xs[0]? := hat 0 _ rfl
  have h1 : DataW.trod enc Tryz.prog W 0 (fun _ => true) true n 9 ((([a0, a1, a2, a3, a4, a5] ++ (cw ++ ct)).drop 1).take (Tryz.prog.cellsOf 9)) = xs[1]? := hat 1 _ rfl
  have h2 : DataW.trod enc Tryz.prog W 0 (fun _ => true) true n 3 ((([a0, a1, a2, a3, a4, a5] ++ (cw ++ ct)).drop 2).take (Tryz.prog.cellsOf 3)) = xs[2]? := hat 2 _ rfl
  have h3 : DataW.trod enc Tryz.prog W 0 (fun _ => true) true n 3 ((([a0, a1, a2, a3, a4, a5] ++ (cw ++ ct)).drop 3).take (Tryz.prog.cellsOf 3)) = xs[3]? := hat 3 _ rfl
  have h4 : DataW.trod enc Tryz.prog W 0 (fun _ => true) true n 3 ((([a0, a1, a2, a3, a4, a5] ++ (cw ++ ct)).drop 4).take (Tryz.prog.cellsOf 3)) = xs[4]? := hat 4 _ rfl
  have h5 : DataW.trod enc Tryz.prog W 0 (fun _ => true) true n 4 ((([a0, a1, a2, a3, a4, a5] ++ (cw ++ ct)).drop 5).take (Tryz.prog.cellsOf 4)) = xs[5]? := hat 5 _ rfl
  have h6 : DataW.trod enc Tryz.prog W 0 (fun _ => true) true n 32 ((([a0, a1, a2, a3, a4, a5] ++ (cw ++ ct)).drop 6).take (Tryz.prog.cellsOf 32)) = xs[6]? := hat 6 _ rfl
  have h7 : DataW.trod enc Tryz.prog W 0 (fun _ => true) true n 32 ((([a0, a1, a2, a3, a4, a5] ++ (cw ++ ct)).drop 15).take (Tryz.prog.cellsOf 32)) = xs[7]? := hat 7 _ rfl
  have hx8 : xs.length = 8 := hxl
  rw [List.getElem?_eq_getElem (by omega)] at h0 h1 h2 h3 h4 h5 h6 h7
  rw [show Tryz.prog.cellsOf 9 = 1 by kernel_rfl] at h0 h1
  rw [show Tryz.prog.cellsOf 3 = 1 by kernel_rfl] at h2 h3 h4
  rw [show Tryz.prog.cellsOf 4 = 1 by kernel_rfl] at h5
  rw [show Tryz.prog.cellsOf 32 = 9 by kernel_rfl] at h6 h7
  have w1 : (([a0, a1, a2, a3, a4, a5] ++ (cw ++ ct)).drop 6).take 9 = cw := by
    rw [List.drop_append, List.drop_eq_nil_of_le (by simp)]; simp [← hw]
  have t1 : (([a0, a1, a2, a3, a4, a5] ++ (cw ++ ct)).drop 15).take 9 = ct := by
    rw [List.drop_append, List.drop_eq_nil_of_le (by simp), List.nil_append, List.drop_append, List.drop_eq_nil_of_le (by simp; omega)]; simp [hw, ← ht]
  rw [w1] at h6
  rw [t1] at h7
  obtain ⟨s0, e0, hs0⟩ := str_of_trod h0
  obtain ⟨s1, e1, hs1⟩ := str_of_trod h1
  obtain ⟨i2, e2, _⟩ := DataW.trod_int Tryz.underlying3 h2
  obtain ⟨i3, e3, _⟩ := DataW.trod_int Tryz.underlying3 h3
  obtain ⟨i4, e4, _⟩ := DataW.trod_int Tryz.underlying3 h4
  obtain ⟨b5, e5, _⟩ := DataW.trod_bool Tryz.underlying4 h5
  obtain ⟨ew, xw, rfl, hew⟩ := ex_of_trod n n (Nat.le_refl _) _ _ h6
  obtain ⟨et, xt, rfl, het⟩ := ex_of_trod n n (Nat.le_refl _) _ _ h7
  simp at e0 e1 e2 e3 e4 e5
  subst e0 e1 e2 e3 e4 e5
  refine ⟨⟨s0, ew, et⟩, ⟨s0, s1, i2, i3, i4, b5, xw, xt⟩, rfl, rfl, hs0, hew, het⟩
theorem cls_of_trod {fuel : Nat} {v : Value} {x : DataW H × List MemPlace} (h : DataW.trod enc Tryz.prog W 0 (fun _ => true) true fuel 83 [v] = some x) : ∃ l, Cls W.heap.size W v l := by
  obtain ⟨a, len, cap, rfl, hlc, hcm, hz, hrow⟩ := rows_of_trod Tryz.underlying83 (show Tryz.prog.cellsOf 89 = 24 by kernel_rfl) (by decide) h
  by_cases hp : 0 < len
  · obtain ⟨b, o, n', rfl, rfl, hb, hi⟩ := hrow hp
    have hch : ∀ i, i < len → ∃ q : Cl × Cv, ClX W.heap.size W q.1 q.2 ∧ ∀ j, j < 24 → W.cell? ⟨b, o + (i * 24 + j), none⟩ = some (q.2.cell j) := by
      intro i hil
      obtain ⟨cs', y, hcl, hy, hcell⟩ := hi i hil
      obtain ⟨e, c, rfl, hec⟩ := cl_of_trod hy
      exact ⟨(e, c), hec, fun j hj => hcell j _ (c.cl_at hj)⟩
    obtain ⟨f, hf2⟩ := choose_lt (α := Cl × Cv) hch
    refine ⟨(List.range len).map fun i => (f i).1, fun i => (f i).2, ?_, fun j e hj => ?_⟩
    · rw [List.length_map, List.length_range]
      exact RowsV.mk_cells hlc hcm hb fun i hil j hj => (hf2 i hil).2 j hj
    · have hjl : j < len := by have := (List.getElem?_eq_some_iff.1 hj).1; simpa using this
      rw [List.getElem?_map, List.getElem?_range hjl] at hj
      simp only [Option.map_some, Option.some.injEq] at hj
      rw [← hj]
      exact (hf2 j hjl).1
  · obtain rfl : len = 0 := by omega
    exact ⟨[], fun _ => default, RowsV.nil a cap hcm hz, fun j e hj => by simp at hj⟩
theorem defs_of_trod {fuel : Nat} {v : Value} {x : DataW H × List MemPlace} (h : DataW.trod enc Tryz.prog W 0 (fun _ => true) true fuel 81 [v] = some x) : ∃ l, Defs W.heap.size W v l := by
  obtain ⟨a, len, cap, rfl, hlc, hcm, hz, hrow⟩ := rows_of_trod Tryz.underlying81 (show Tryz.prog.cellsOf 260 = 3 by kernel_rfl) (by decide) h
  by_cases hp : 0 < len
  · obtain ⟨b, o, n', rfl, rfl, hb, hi⟩ := hrow hp
    have hch : ∀ i, i < len → ∃ q : (Str × Bool) × Int, q.1.1.length ≤ maxLen ∧ W.cell? ⟨b, o + (i * 3 + 0), none⟩ = some (S q.1.1) ∧ W.cell? ⟨b, o + (i * 3 + 1), none⟩ = some (.int .u8 q.2) ∧ W.cell? ⟨b, o + (i * 3 + 2), none⟩ = some (.bool q.1.2) := by
      intro i hil
      obtain ⟨cs', y, hcl, hy, hcell⟩ := hi i hil
      obtain ⟨y0, y1, y2, n, _, hl, h0, h1, h2⟩ := trod_struct3 Tryz.underlying260 hy
      obtain ⟨a0, a1, a2, rfl⟩ := list3 hcl
      rw [show Tryz.prog.cellsOf 9 = 1 by kernel_rfl] at h0
      rw [show Tryz.prog.cellsOf 5 = 1 by kernel_rfl] at h1
      rw [show Tryz.prog.cellsOf 4 = 1 by kernel_rfl] at h2
      obtain ⟨s0, e0, hs0⟩ := str_of_trod h0
      obtain ⟨i1, e1, _⟩ := DataW.trod_int Tryz.underlying5 h1
      obtain ⟨b2, e2, _⟩ := DataW.trod_bool Tryz.underlying4 h2
      simp at e0 e1 e2
      subst e0 e1 e2
      exact ⟨((s0, b2), i1), hs0, hcell 0 _ rfl, hcell 1 _ rfl, hcell 2 _ rfl⟩
    obtain ⟨f, hf2⟩ := choose_lt (α := (Str × Bool) × Int) hch
    refine ⟨(List.range len).map fun i => (f i).1, fun i j => match j with | 0 => S (f i).1.1 | 1 => .int .u8 (f i).2 | _ => .bool (f i).1.2, ?_, fun i hil => ?_⟩
    · rw [List.length_map, List.length_range]
      refine RowsV.mk_cells hlc hcm hb fun i hil j hj => ?_
      match j, hj with
      | 0, _ => exact (hf2 i hil).2.1
      | 1, _ => exact (hf2 i hil).2.2.1
      | 2, _ => exact (hf2 i hil).2.2.2
    · rw [List.length_map, List.length_range] at hil
      rw [List.getElem?_map, List.getElem?_range hil]
      exact ⟨rfl, (hf2 i hil).1, ⟨_, rfl⟩, rfl⟩
  · obtain rfl : len = 0 := by omega
    exact ⟨[], fun _ _ => undef, RowsV.nil a cap hcm hz, fun i hi => by simp at hi⟩
end
end Go.Proofs.YthooiobhlbnaoaaGreat
