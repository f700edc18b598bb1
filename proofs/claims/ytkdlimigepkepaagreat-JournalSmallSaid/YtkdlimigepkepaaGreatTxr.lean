/- Lists of texts that are read; a slice of bytes as a string. No conditions. -/
import Derived.Test.YtkdlimigepkepaaGreatTxt
namespace Go.Proofs.YtkdlimigepkepaaGreat
open Go.RowKit
set_option linter.unusedVariables false

/-- v reads as the texts ps in w; all cells lie in blocks below K. -/
def Txts (K : Nat) (w : World) (v : Value) (ps : List (List UInt8)) : Prop :=
  ∃ a cap, v = .slice a ps.length cap ∧ ps.length ≤ cap ∧ cap ≤ maxLen ∧
    ∀ i, i < ps.length → ∃ b o u, a = some ⟨b, o, none⟩ ∧ b < K ∧ w.cell? ⟨b, o + i, none⟩ = some u ∧ Byts K w u (ps[i]?.getD [])

theorem Txts.below {K K' : Nat} {w w' : World} {v : Value} {ps : List (List UInt8)} (h : Txts K w v ps) (hb : Below K w w') (hK : K ≤ K') : Txts K' w' v ps := by
  obtain ⟨a, cap, rfl, hl, hm, hc⟩ := h
  refine ⟨a, cap, rfl, hl, hm, fun i hi => ?_⟩
  obtain ⟨b, o, u, rfl, hbK, hcell, hu⟩ := hc i hi
  exact ⟨b, o, u, rfl, by omega, (hb.cell (p := ⟨b, o + i, none⟩) hbK).trans hcell, hu.below hb hK⟩

theorem OwnTs.txts {base : Nat} {w : World} {v : Value} {ps : List (List UInt8)} (h : OwnTs base w v ps) : Txts w.heap.size w v ps := by
  obtain ⟨vs, hl, ho, hi, hn⟩ := h
  rcases ho.2 with ⟨rfl, h0⟩ | ⟨g, cap, cur, rfl, hb, hg, hn', hm, hs, ht⟩
  · have : ps = [] := List.eq_nil_of_length_eq_zero h0
    subst this
    exact ⟨none, 0, rfl, Nat.le_refl _, by simp [maxLen], fun i hi => absurd hi (Nat.not_lt_zero i)⟩
  · refine ⟨some ⟨g, 0, none⟩, cap, rfl, hn', hm, fun i hlt => ⟨g, 0, vs[i]?.getD undef, rfl, (Array.getElem?_eq_some_iff.1 hg).1, ?_, (hi i hlt).byts⟩⟩
    have := World.ownsRow.cells ho (g := g) rfl i (vs[i]?.getD undef) (by rw [List.getElem?_eq_getElem (by omega)]; simp)
    rw [Addr.add] at this
    by_cases h0 : i = 0
    · subst h0; simpa using this
    · simpa [h0] using this

theorem Txts.cases {K : Nat} {w : World} {v : Value} {ps : List (List UInt8)} (h : Txts K w v ps) :
    (∃ a cap, v = .slice a 0 cap ∧ ps = [] ∧ cap ≤ maxLen) ∨
    (∃ (b o cap : Nat) (us : List Value), v = .slice (some ⟨b, o, none⟩) ps.length cap ∧ 0 < ps.length ∧ ps.length ≤ cap ∧ cap ≤ maxLen ∧ b < K ∧ us.length = ps.length ∧
      ∀ i, i < ps.length → w.cell? ⟨b, o + i, none⟩ = some (us[i]?.getD undef) ∧ Byts K w (us[i]?.getD undef) (ps[i]?.getD [])) := by
  obtain ⟨a, cap, rfl, hl, hm, hc⟩ := h
  by_cases h0 : ps.length = 0
  · have : ps = [] := List.eq_nil_of_length_eq_zero h0
    subst this
    exact .inl ⟨a, cap, rfl, rfl, hm⟩
  · obtain ⟨b, o, u, rfl, hb, _, _⟩ := hc 0 (by omega)
    refine .inr ⟨b, o, cap, (List.range ps.length).map fun i => (w.cell? ⟨b, o + i, none⟩).getD undef, rfl, by omega, hl, hm, hb, by simp, fun i hi => ?_⟩
    obtain ⟨b', o', u, he, _, hcell, hu⟩ := hc i hi
    simp only [Option.some.injEq, Addr.mk.injEq, and_true] at he
    obtain ⟨rfl, rfl⟩ := he
    have e : ((List.range ps.length).map fun i => (w.cell? ⟨b, o + i, none⟩).getD undef)[i]?.getD undef = u := by
      rw [List.getElem?_map, List.getElem?_range hi]; simp [hcell]
    rw [e]
    exact ⟨hcell, hu⟩

theorem Txts.len_le {K : Nat} {w : World} {v : Value} {ps : List (List UInt8)} (h : Txts K w v ps) : ps.length ≤ maxLen := by
  obtain ⟨a, cap, rfl, hl, hm, _⟩ := h; omega

/-- string(b). -/
theorem conv_str {K : Nat} {w : World} {v : Value} {l : List UInt8} (h : Byts K w v l) : (convert 22 9 v).run Tryz.prog w = .ok (.string ⟨l.toArray⟩) w := by
  obtain ⟨a, cap, rfl, hl, hm, hz, hc⟩ := h
  cases a with
  | none =>
    have h0 : l = [] := by
      cases l with
      | nil => rfl
      | cons b r => obtain ⟨b', o', h, _⟩ := hc 0 (by simp); cases h
    subst h0
    exact run_convert_bytes_nil w 22 5 Tryz.underlying22 Tryz.underlying5 _ _ 9 Tryz.underlying9
  | some ad =>
    refine run_convert_bytes_back w 22 9 5 ad cap l Tryz.underlying22 Tryz.underlying5 Tryz.underlying9 fun j hj => ?_
    obtain ⟨b, o, he, _, hcell⟩ := hc j hj
    simp only [Option.some.injEq] at he
    subst he
    rw [List.getElem?_eq_getElem hj] at hcell
    rw [Addr.add]
    by_cases h0 : j = 0
    · subst h0; simpa using hcell
    · simpa [h0] using hcell

theorem below_drewN' {B : Nat} {w : World} (n : Nat) : Below B w (w.drewN n) := ⟨rfl, rfl, rfl, Nat.le_refl _, fun _ _ => rfl⟩

end Go.Proofs.YtkdlimigepkepaaGreat
