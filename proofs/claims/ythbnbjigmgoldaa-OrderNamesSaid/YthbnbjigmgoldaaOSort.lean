/- Layer 15: sort.Ints and slices.Compact on rows of numbers; sorted lists. No conditions beyond those stated. -/
import Derived.Test.YthbnbjigmgoldaaOMap
import Derived.Test.YthbnbjigmgoldaaOShelf
import Derived.Sort.OwnSortedInts
import Derived.Lib.SlicesCompact
namespace Go.Proofs.Ythbnbjigmgoldaa
open Go.RowKit
set_option linter.unusedVariables false

/-! ### plain -/
theorem eq_of_increasing : ∀ {l m : List Nat}, l.Pairwise (· < ·) → m.Pairwise (· < ·) → (∀ x, x ∈ l ↔ x ∈ m) → l = m := by
  intro l
  induction l with
  | nil =>
    intro m _ _ h
    cases m with
    | nil => rfl
    | cons y r => exact absurd ((h y).2 (by simp)) (by simp)
  | cons x r ih =>
    intro m hl hm h
    cases m with
    | nil => exact absurd ((h x).1 (by simp)) (by simp)
    | cons y s =>
      rw [List.pairwise_cons] at hl hm
      have hxy : x = y := by
        have h1 := (h x).1 (by simp)
        have h2 := (h y).2 (by simp)
        rcases List.mem_cons.1 h1 with h1 | h1
        · exact h1
        · rcases List.mem_cons.1 h2 with h2 | h2
          · exact h2.symm
          · have := hm.1 x h1; have := hl.1 y h2; omega
      subst hxy
      rw [ih hl.2 hm.2 fun z => ?_]
      constructor
      · intro hz
        have := (h z).1 (by simp [hz])
        rcases List.mem_cons.1 this with rfl | h3
        · exact absurd (hl.1 z hz) (by omega)
        · exact h3
      · intro hz
        have := (h z).2 (by simp [hz])
        rcases List.mem_cons.1 this with rfl | h3
        · exact absurd (hm.1 z hz) (by omega)
        · exact h3

def srt (l : List Nat) : List Nat := l.mergeSort fun x y => decide (x ≤ y)
theorem srt_perm (l : List Nat) : (srt l).Perm l := List.mergeSort_perm l _
theorem srt_sorted (l : List Nat) : (srt l).Pairwise (· ≤ ·) := by
  have := List.pairwise_mergeSort (le := fun x y : Nat => decide (x ≤ y)) (fun a b c h1 h2 => by simp at *; omega) (fun a b => by simp; omega) l
  exact this.imp (fun h => by simpa using h)
theorem srt_length (l : List Nat) : (srt l).length = l.length := (srt_perm l).length_eq
theorem mem_srt {l : List Nat} {x : Nat} : x ∈ srt l ↔ x ∈ l := (srt_perm l).mem_iff

theorem compact_mem {l : List Nat} {x : Nat} : x ∈ Lib.compact l ↔ x ∈ l := by
  unfold Lib.compact Lib.compactUpTo
  simp only [List.mem_map, List.mem_filter, List.mem_range]
  constructor
  · rintro ⟨i, ⟨hi, _⟩, rfl⟩
    simp [hi]
  · intro h
    obtain ⟨i, hi, rfl⟩ := List.mem_iff_getElem.1 h
    induction i with
    | zero => exact ⟨0, ⟨hi, by simp [Lib.keeps]⟩, by simp [hi]⟩
    | succ i ih =>
      by_cases he : l[i + 1] = l[i]
      · obtain ⟨j, hj⟩ := ih (by omega) (by simp)
        exact ⟨j, hj.1, by rw [he]; exact hj.2⟩
      · refine ⟨i + 1, ⟨hi, ?_⟩, by simp [hi]⟩
        have hi' : i < l.length := by omega
        simp [Lib.keeps, hi, hi', he]
theorem compact_increasing {l : List Nat} (h : l.Pairwise (· ≤ ·)) : (Lib.compact l).Pairwise (· < ·) := by
  unfold Lib.compact Lib.compactUpTo
  rw [List.pairwise_map]
  have hr : ((List.range l.length).filter (Lib.keeps l.toArray)).Pairwise (· < ·) := (List.pairwise_lt_range (n := l.length)).filter _
  refine hr.imp_of_mem fun {i j} hi hj hij => ?_
  simp only [List.mem_filter, List.mem_range] at hi hj
  have hj0 : j ≠ 0 := by omega
  have hk := hj.2
  have hj1 : j - 1 < l.length := by omega
  simp only [Lib.keeps, hj0, false_or, decide_eq_true_eq] at hk
  have hle := List.pairwise_iff_getElem.1 h
  have e1 : l.toArray[j]! = l[j] := by simp [hj.1]
  have e2 : l.toArray[j - 1]! = l[j - 1] := by simp [hj1]
  have e3 : l.toArray[i]! = l[i] := by simp [hi.1]
  rw [e1, e2] at hk
  rw [e1, e3]
  have h1 : l[j - 1] ≤ l[j] := hle (j - 1) j hj1 hj.1 (by omega)
  have h2 : l[i] ≤ l[j - 1] := by
    by_cases he : i = j - 1
    · subst he; exact Nat.le_refl _
    · exact hle i (j - 1) hi.1 hj1 (by omega)
  omega

abbrev zc (l : List Nat) : List Int := l.map fun n : Nat => (n : Int)
theorem zc_val (l : List Nat) : (zc l).map (Value.int .i64) = l.map Z := by simp [zc]
theorem zc_srt (l : List Nat) : (zc l).mergeSort (fun x y => decide (x ≤ y)) = zc (srt l) := by
  unfold zc srt
  rw [List.map_mergeSort]
  intro a _ b _
  simp
theorem zc_compact (l : List Nat) : Lib.compact (zc l) = zc (Lib.compact l) := by
  unfold Lib.compact Lib.compactUpTo zc
  simp only [List.length_map, List.map_map]
  have hk : ∀ j, j < l.length → Lib.keeps (l.map fun n : Nat => (n : Int)).toArray j = Lib.keeps l.toArray j := by
    intro j hj
    have hj1 : j - 1 < l.length := by omega
    by_cases h0 : j = 0
    · subst h0; simp [Lib.keeps]
    · simp [Lib.keeps, hj, hj1, h0]
      omega
  rw [List.filter_congr (fun j hj => hk j (List.mem_range.1 hj))]
  refine List.map_congr_left fun j hj => ?_
  have := List.mem_range.1 (List.mem_filter.1 hj).1
  simp [this]

/-! ### the library's functions -/
theorem sortInts_own (base : Nat) (v : Value) (l : List Nat) (w : World) (h : OwnN base w v l) (hl : l.length ≤ 2 ^ 40) :
    Calls Try.prog 39 #[v] w fun e w' => e = .returned (.tuple #[]) ∧ OwnN base w' v (srt l) ∧ w.grownBy w' v.ownBlock := by
  rcases id h.2 with ⟨rfl, h0⟩ | ⟨g, cap, cur, rfl, hb, hg, hn, hm, hs, ht⟩
  · have : l = [] := List.eq_nil_of_length_eq_zero h0
    subst this
    refine (Try.sort_Ints_none none 0 w).mono ?_
    rintro e w' ⟨rfl, rfl⟩
    exact ⟨rfl, by simpa [srt] using OwnN.nil base w', World.grownBy.refl _ _⟩
  · have hlz : (zc l).length = l.length := by simp
    have hlt := (Array.getElem?_eq_some_iff.1 hg).1
    have ht' : cur.toList.take (zc l).length = (zc l).map (Value.int .i64) := by rw [hlz, zc_val]; simpa using ht
    have hc := Try.sort_Ints g 0 cap (zc l) w (holds_of_blockI hg ht') hlt (by rw [hlz]; omega)
    rw [hlz] at hc
    refine hc.mono ?_
    rintro e w' ⟨rfl, n, os, rfl⟩
    refine ⟨rfl, ?_, grownBy_sortedI _⟩
    rw [zc_srt]
    have := ownsRow_sortedI (n := n) (os := os) (ss := zc l) (ts := zc (srt l)) (by simp [srt_length]) hb hg (by simpa using hn) hm hs
    unfold OwnN
    rw [← zc_val, srt_length]
    rw [hlz] at this
    exact this

theorem compact_len_le (l : List Nat) : (Lib.compact l).length ≤ l.length := by
  unfold Lib.compact Lib.compactUpTo
  rw [List.length_map]
  exact Nat.le_trans (List.length_filter_le _ _) (by simp)

theorem compact_own (base : Nat) (v : Value) (l : List Nat) (w : World) (h : OwnN base w v l) :
    Calls Try.prog 43 #[v] w fun e w' => ∃ v', e = .returned v' ∧ OwnN base w' v' (Lib.compact l) ∧ v'.ownBlock = v.ownBlock ∧ w.grownBy w' v.ownBlock := by
  rcases id h.2 with ⟨rfl, h0⟩ | ⟨g, cap, cur, rfl, hb, hg, hn, hm, hs, ht⟩
  · have : l = [] := List.eq_nil_of_length_eq_zero h0
    subst this
    refine (Try.slices_Compact_int_empty none 0 w).mono ?_
    rintro e w' ⟨rfl, rfl⟩
    exact ⟨_, rfl, OwnN.nil _ _, rfl, World.grownBy.refl _ _⟩
  · have hlz : (zc l).length = l.length := by simp
    have hlt := (Array.getElem?_eq_some_iff.1 hg).1
    have ht' : cur.toList.take (zc l).length = (zc l).map (Value.int .i64) := by rw [hlz, zc_val]; simpa using ht
    have hc := Try.slices_Compact_int g 0 cap (zc l) w (holds_of_blockI hg ht') (by rw [hlz]; unfold maxLen at hm; omega) (by rw [hlz]; exact hn)
    rw [hlz] at hc
    refine hc.mono ?_
    rintro e w' ⟨rfl, q, rfl⟩
    have hle := compact_len_le l
    have e1 : (Lib.compact (zc l)).length = (Lib.compact l).length := by rw [zc_compact]; simp
    refine ⟨_, rfl, ?_, rfl, ?_⟩
    · rw [zc_compact]; simp only [List.length_map]
      obtain ⟨d, hd⟩ : ∃ d : List Int, zc (Lib.compact l) ++ List.replicate (l.length - (Lib.compact l).length) 0 = d := ⟨_, rfl⟩
      rw [hd]
      have hdl : d.length = l.length := by rw [← hd]; simp; omega
      have hcur : d.length ≤ cur.size := by rw [hs, hdl]; omega
      have hh := heap_sortedI (n := q) (os := #[]) d.toArray hg
      rw [Sort.grow_empty] at hh
      refine ⟨by simp, .inr ⟨g, cap, _, rfl, hb, hh, by omega, hm, by simp [Sort.putCells, hs], ?_⟩⟩
      have h1 := take_putCellsI cur d hcur
      have h2 := congrArg (List.take (Lib.compact l).length) h1
      rw [List.take_take, Nat.min_eq_left (by omega)] at h2
      rw [Nat.mul_one, h2, ← hd, List.map_append, List.take_append_of_le_length (by simp), zc_val, List.take_of_length_le (by simp)]
    · have := grownBy_sortedI (w := w) (g := g) (n := q) (os := #[]) (Lib.compact (zc l) ++ List.replicate (l.length - (Lib.compact (zc l)).length) 0).toArray
      rw [Sort.grow_empty] at this
      exact this
end Go.Proofs.Ythbnbjigmgoldaa
