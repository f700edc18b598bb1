/- What comes in, opened: files and answers. No conditions. -/
import Derived.Test.YtaccaebdmndkiaaGreatDoorBOrd
import Derived.OpenShut
import Derived.Deep.Slices
import Derived.Deep.Fields
import Derived.ChangeSame
import Derived.Lib.SmallJoins
namespace Go.Proofs.YtaccaebdmndkiaaGreatDoor
open Go.RowKit Go.ChangeShapes Go.WideShapes Go.ChangeAt Go.Deep
set_option linter.unusedVariables false

theorem lt_of_cell {w : World} {a : Addr} {v : Value} (h : w.cell? a = some v) : a.block < w.heap.size := World.block_lt_of_cell? w _ h

/-- A slice of structs of integers that came in. -/
theorem recs_of_trod {H : Type} {enc : TypeId × Value → H} {W : World} {fuel : Nat} {t e : TypeId} {fs : Array Field} {v : Value} {x : DataW H × List MemPlace}
    (ht : Tryz.prog.underlying t = some (.slice e)) (he : Tryz.prog.underlying e = some (.struct fs)) (hone : oneCellFields Tryz.prog fs = true) (hC : Tryz.prog.cellsOf e = fs.size) (hpos : 0 < fs.size)
    (hint : ∀ (j : Nat) (f : Field), fs[j]? = some f → Tryz.prog.underlying f.type = some (.int .i64))
    (h : DataW.trod enc Tryz.prog W 0 (fun _ => true) true fuel t [v] = some x) :
    ∃ f n, Recs fs.size f W.heap.size W v n ∧ (x.1 = .nil ∧ n = 0 ∨ ∃ el sp, x.1 = .slice el sp ∧ el.length = n) := by
  rcases open_slice ht h with ⟨hcs, hx⟩ | ⟨a, len, cap, m, n', D, Pl, hcs, hb, hl, hm, hmm, hx, hi⟩
  · simp only [List.cons.injEq, and_true] at hcs
    subst hcs
    exact ⟨fun _ _ => 0, 0, Recs.nil none 0 (Nat.zero_le _) (fun _ => rfl), .inl ⟨by rw [hx], rfl⟩⟩
  · simp only [List.cons.injEq, and_true] at hcs
    subst hcs
    simp only [if_true] at hmm
    subst hmm
    have key : ∀ i, i < m → ∀ j, j < fs.size → ∃ z, W.cell? (a.add (i * fs.size + j)) = some (.int .i64 z) := by
      intro i him j hj
      obtain ⟨cs', hc, ht'⟩ := hi i him
      rw [hC] at hc
      obtain ⟨ys, n'', hn', hy, hlen, hyl, hf⟩ := DataW.trod_struct he ht'
      obtain ⟨_, hcl, hat⟩ := World.cells?_some hc
      have hjf : fs[j]? = some (fs[j]'hj) := Array.getElem?_eq_getElem hj
      obtain ⟨ho, hk⟩ := hone_of hone j _ hjf
      have hcell := hat j hj
      have h1 := hf j _ hjf
      rw [ho, hk] at h1
      have hone' : (cs'.drop j).take 1 = [cs'[j]'(by omega)] := by
        rw [List.drop_eq_getElem_cons (by omega)]
        rfl
      rw [hone', List.getElem?_eq_getElem (by omega)] at h1
      obtain ⟨z, hz, _⟩ := DataW.trod_int (hint j _ hjf) h1
      simp only [List.cons.injEq, and_true] at hz
      refine ⟨z, ?_⟩
      rw [← add_add, hcell, List.getElem?_eq_getElem (by omega), hz]
    by_cases h0 : len = 0
    · subst h0
      exact ⟨fun _ _ => 0, 0, ⟨some a, m, rfl, Nat.zero_le _, hm, (fun h => nomatch h), fun i hi => absurd hi (by simp)⟩, .inr ⟨_, _, by rw [hx], by simp⟩⟩
    · obtain ⟨b, o, sp⟩ := a
      have hsp : sp = none := by
        obtain ⟨z, hz⟩ := key 0 (by omega) 0 hpos
        have := World.cell?_spot hz
        simpa [Addr.add] using this
      subst hsp
      have hadd : ∀ i, (Addr.add ⟨b, o, none⟩ i) = ⟨b, o + i, none⟩ := by
        intro i
        rw [Addr.add]
        by_cases h0 : i = 0
        · subst h0; simp
        · simp [h0]
      refine ⟨fun i j => match W.cell? ⟨b, o + (i * fs.size + j), none⟩ with | some (.int .i64 z) => z | _ => 0, len, Recs.mk_cells hl hm ?_ fun i hi2 j hj => ?_, .inr ⟨_, _, by rw [hx], by simp⟩⟩
      · obtain ⟨z, hz⟩ := key 0 (by omega) 0 hpos
        rw [hadd] at hz
        exact lt_of_cell hz
      · obtain ⟨z, hz⟩ := key i (by omega) j hj
        rw [hadd] at hz
        rw [hz]

theorem ords_of_trod {H : Type} {enc : TypeId × Value → H} {W : World} {fuel : Nat} {v : Value} {x : DataW H × List MemPlace}
    (h : DataW.trod enc Tryz.prog W 0 (fun _ => true) true fuel 25 [v] = some x) : ∃ l, Ords W.heap.size W v l ∧ (x.1 = .nil ∧ l.length = 0 ∨ ∃ el sp, x.1 = .slice el sp ∧ el.length = l.length) := by
  obtain ⟨f, n, hr, hx⟩ := recs_of_trod Tryz.underlying25 Tryz.underlying47 (by kernel_rfl) (by kernel_rfl) (by decide) (fun j f hf => by
    match j, hf with
    | 0, hf => cases hf; exact Tryz.underlying3
    | 1, hf => cases hf; exact Tryz.underlying3
    | 2, hf => cases hf; exact Tryz.underlying3
    | 3, hf => cases hf; exact Tryz.underlying3
    | 4, hf => cases hf; exact Tryz.underlying3) h
  refine ⟨(List.range n).map fun i => ⟨f i 0, f i 1, f i 2, f i 3, f i 4⟩, ?_, by simpa using hx⟩
  unfold Ords
  rw [List.length_map, List.length_range]
  refine Recs.congr hr fun i hi j hj => ?_
  rw [List.getElem?_map, List.getElem?_range hi]
  have hj5 : j < 5 := hj
  match j, hj5 with
  | 0, _ => rfl
  | 1, _ => rfl
  | 2, _ => rfl
  | 3, _ => rfl
  | 4, _ => rfl
theorem rets_of_trod {H : Type} {enc : TypeId × Value → H} {W : World} {fuel : Nat} {v : Value} {x : DataW H × List MemPlace}
    (h : DataW.trod enc Tryz.prog W 0 (fun _ => true) true fuel 28 [v] = some x) : ∃ l, Rets W.heap.size W v l ∧ (x.1 = .nil ∧ l.length = 0 ∨ ∃ el sp, x.1 = .slice el sp ∧ el.length = l.length) := by
  obtain ⟨f, n, hr, hx⟩ := recs_of_trod Tryz.underlying28 Tryz.underlying49 (by kernel_rfl) (by kernel_rfl) (by decide) (fun j f hf => by
    match j, hf with
    | 0, hf => cases hf; exact Tryz.underlying3
    | 1, hf => cases hf; exact Tryz.underlying3) h
  refine ⟨(List.range n).map fun i => ⟨f i 0, f i 1⟩, ?_, by simpa using hx⟩
  unfold Rets
  rw [List.length_map, List.length_range]
  refine Recs.congr hr fun i hi j hj => ?_
  rw [List.getElem?_map, List.getElem?_range hi]
  have hj5 : j < 2 := hj
  match j, hj5 with
  | 0, _ => rfl
  | 1, _ => rfl
end Go.Proofs.YtaccaebdmndkiaaGreatDoor
