/- Layer 16: what comes in, opened: rows of bytes, twelve bytes. No conditions. -/
import Derived.Test.YthooiobhlbnaoaaGreatGlOpn
import Derived.Test.YthooiobhlbnaoaaGreatGlMA
namespace Go.Proofs.YthooiobhlbnaoaaGreat
open Go.RowKit Go.ChangeShapes Go.WideShapes Go.ChangeAt Go.Deep
set_option linter.unusedVariables false

section
variable {H : Type} {enc : TypeId × Value → H} {W : World}
theorem u8_wf {q : Int} (h : (Lit.int .u8 q).wf = true) : ∃ y : Nat, y < 256 ∧ q = y := by
  simp [Lit.wf, IntKind.min, IntKind.max, IntKind.signed, IntKind.bits] at h
  exact ⟨q.toNat, by omega, by omega⟩
theorem u8s_of_trod {fuel : Nat} {v : Value} {x : DataW H × List MemPlace} (h : DataW.trod enc Tryz.prog W 0 (fun _ => true) true fuel 68 [v] = some x) : ∃ l, U8s W.heap.size W v l ∧ ∀ y ∈ l, y < 256 := by
  obtain ⟨a, len, cap, rfl, hlc, hcm, hz, hrow⟩ := rows_of_trod Tryz.underlying68 (show Tryz.prog.cellsOf 5 = 1 by kernel_rfl) (by decide) h
  by_cases hp : 0 < len
  · obtain ⟨b, o, n', rfl, rfl, hb, hi⟩ := hrow hp
    have hch : ∀ i, i < len → ∃ y : Nat, y < 256 ∧ W.cell? ⟨b, o + (i * 1 + 0), none⟩ = some (.int .u8 (y : Int)) := by
      intro i hil
      obtain ⟨cs', y, hcl, hy, hcell⟩ := hi i hil
      obtain ⟨q, e, _, hw⟩ := DataW.trod_int Tryz.underlying5 hy
      obtain ⟨y, hy1, rfl⟩ := u8_wf hw
      exact ⟨y, hy1, hcell 0 _ (by rw [e]; rfl)⟩
    obtain ⟨f, hf⟩ := choose_lt (α := Nat) hch
    refine ⟨(List.range len).map f, ?_, fun y hy => ?_⟩
    · unfold U8s
      rw [List.length_map, List.length_range]
      refine RowsV.mk_cells hlc hcm hb fun i hil j hj => ?_
      obtain rfl : j = 0 := by omega
      rw [(hf i hil).2, List.getElem?_map, List.getElem?_range hil]; rfl
    · obtain ⟨i, hi, rfl⟩ := List.mem_map.1 hy
      exact (hf i (List.mem_range.1 hi)).1
  · obtain rfl : len = 0 := by omega
    exact ⟨[], RowsV.nil a cap hcm hz, fun y hy => by cases hy⟩
theorem u12_of_trod {fuel : Nat} {cs : Array Value} {x : DataW H × List MemPlace} (hs : cs.size = 12) (h : DataW.trod enc Tryz.prog W 0 (fun _ => true) true fuel 69 cs.toList = some x) : ∃ l : List Nat, l.length = 12 ∧ (∀ y ∈ l, y < 256) ∧ cs = (l.map fun n : Nat => Value.int .u8 (n : Int)).toArray := by
  obtain ⟨xs, m, _, _, hl, hxl, hat⟩ := DataW.trod_array Tryz.underlying69 h
  rw [show Tryz.prog.cellsOf 5 = 1 by kernel_rfl] at hat
  have hch : ∀ i, i < 12 → ∃ y : Nat, y < 256 ∧ cs[i]? = some (.int .u8 (y : Int)) := by
    intro i hi
    have h1 := hat i hi
    rw [List.getElem?_eq_getElem (by omega), Nat.mul_one] at h1
    obtain ⟨q, e, _, hw⟩ := DataW.trod_int Tryz.underlying5 h1
    obtain ⟨y, hy1, rfl⟩ := u8_wf hw
    refine ⟨y, hy1, ?_⟩
    have h2 : (List.take 1 (List.drop i cs.toList))[0]? = some (.int .u8 (y : Int)) := by rw [e]; rfl
    rw [List.getElem?_take, if_pos (by omega), List.getElem?_drop, Nat.add_zero] at h2
    simpa using h2
  obtain ⟨f, hf⟩ := choose_lt (α := Nat) hch
  refine ⟨(List.range 12).map f, by simp, fun y hy => ?_, ?_⟩
  · obtain ⟨i, hi, rfl⟩ := List.mem_map.1 hy
    exact (hf i (List.mem_range.1 hi)).1
  · apply Array.ext_getElem?
    intro i
    by_cases hi : i < 12
    · rw [(hf i hi).2, List.getElem?_toArray, List.getElem?_map, List.getElem?_map, List.getElem?_range hi]; rfl
    · rw [Array.getElem?_eq_none (by omega), List.getElem?_toArray, List.getElem?_eq_none (by simp; omega)]
set_option maxRecDepth 100000 in
theorem okWide_u12 {r : Reach} {b0 : Nat} {v : Value} (h : Value.okWide Tryz.prog W r b0 69 v) : ∃ cs : Array Value, v = .agg cs ∧ cs.size = 12 := by
  simp only [Value.okWide, Tryz.underlying69] at h
  obtain ⟨cs, h1, h2, _⟩ := h
  exact ⟨cs, h1, by rw [h2]; kernel_rfl⟩
end
end Go.Proofs.YthooiobhlbnaoaaGreat
