/- Rows of texts of the call's own whose texts are shared. No conditions. -/
import Derived.Test.YtkdlimigepkepaaGreatOwnI
import Derived.Test.YtkdlimigepkepaaGreatJ10
namespace Go.Proofs.YtkdlimigepkepaaGreat
open Go.RowKit
set_option linter.unusedVariables false

section
variable {P : Program} {ops : Array Oper} {Q : Exit → Act → World → Prop} {md : Region.Mode} {S : World → Prop} {D : List Nat}
theorem wpAnyD_both {i j : Nat} {o o' : Oper} {fuel : Nat} {listed : Array Bool} {a : Act} {w : World} (hr : Region.ready md ops listed = [i, j]) (ho : ops[i]? = some o) (ho' : ops[j]? = some o')
    (hw : Region.wanted o (yielded ops a.tmps) = true) (hw' : Region.wanted o' (yielded ops a.tmps) = true)
    (h : o.wp P a w (fun a' w' => (i ∉ D → S w') ∧ wpAnyD P md ops Q S D fuel (listed.setIfInBounds i true) a' w') Q)
    (h' : o'.wp P a w (fun a' w' => (j ∉ D → S w') ∧ wpAnyD P md ops Q S D fuel (listed.setIfInBounds j true) a' w') Q) : wpAnyD P md ops Q S D (fuel + 1) listed a w :=
  ⟨fun h0 => by rw [hr] at h0; simp at h0, fun k hk => by
    rw [hr] at hk
    simp only [List.mem_cons, List.not_mem_nil, or_false] at hk
    rcases hk with rfl | rfl
    · exact wpOp_of ho hw h
    · exact wpOp_of ho' hw' h'⟩
end

/-- kept: its row is the call's own; its texts are read in blocks below K. -/
def Kp (K base : Nat) (w : World) (v : Value) (ps : List (List UInt8)) : Prop :=
  ∃ vs : List Value, vs.length = ps.length ∧ w.ownsRow base 22 1 v vs.length vs ∧ ∀ i, i < ps.length → Byts K w (vs[i]?.getD undef) (ps[i]?.getD [])

theorem Kp.nil (K base : Nat) (w : World) : Kp K base w (.slice none 0 0) [] := ⟨[], rfl, World.ownsRow_nil w base 22 1, fun i hi => absurd hi (Nat.not_lt_zero i)⟩
theorem Kp.form {K base : Nat} {w : World} {v : Value} {ps : List (List UInt8)} (h : Kp K base w v ps) : ∃ a c, v = .slice a ps.length c ∧ ps.length ≤ c ∧ c ≤ maxLen := by
  obtain ⟨vs, hl, ho, _⟩ := h
  rcases ho.2 with ⟨rfl, h0⟩ | ⟨g, cap, cur, rfl, _, _, h1, h2, _⟩
  · exact ⟨none, 0, by rw [← hl, h0], by omega, by simp [maxLen]⟩
  · exact ⟨_, cap, by rw [hl], by omega, h2⟩
theorem Kp.base_le {K base : Nat} {w : World} {v : Value} {ps : List (List UInt8)} (h : Kp K base w v ps) {r : Nat} (hr : v.ownBlock = some r) : base ≤ r := by
  obtain ⟨vs, hl, ho, _⟩ := h; exact (ownsRow_cells ho hr).1
theorem Kp.lt {K base : Nat} {w : World} {v : Value} {ps : List (List UInt8)} (h : Kp K base w v ps) {r : Nat} (hr : v.ownBlock = some r) : r < w.heap.size := by
  obtain ⟨vs, hl, ho, _⟩ := h
  obtain ⟨o, ho, _⟩ := (ownsRow_cells ho hr).2
  exact (Array.getElem?_eq_some_iff.1 ho).1
theorem Kp.below {K B base : Nat} {w w' : World} {v : Value} {ps : List (List UInt8)} (h : Kp K base w v ps) (hb : Below B w w') (hB : w.heap.size ≤ B) (hK : K ≤ B) : Kp K base w' v ps := by
  obtain ⟨vs, hl, ho, hi⟩ := h
  refine ⟨vs, hl, ⟨ho.1, ?_⟩, fun i hlt => (hi i hlt).below (hb.mono hK) (Nat.le_refl _)⟩
  rcases ho.2 with hn | ⟨g, cap, cur, rfl, hb1, hg, rest⟩
  · exact .inl hn
  · have := (Array.getElem?_eq_some_iff.1 hg).1
    exact .inr ⟨g, cap, cur, rfl, hb1, (hb.block g (by omega)).trans hg, rest⟩
theorem Kp.above {K B base : Nat} {w w' : World} {v : Value} {ps : List (List UInt8)} (h : Kp K base w v ps) (ha : Above B w w') (hB : B ≤ base) (hb : Below K w w') : Kp K base w' v ps := by
  obtain ⟨vs, hl, ho, hi⟩ := h
  exact ⟨vs, hl, ownsRow_above ho ha hB, fun i hlt => (hi i hlt).below hb (Nat.le_refl _)⟩
theorem Kp.txts {K base : Nat} {w : World} {v : Value} {ps : List (List UInt8)} (h : Kp K base w v ps) (hK : K ≤ w.heap.size) : Txts w.heap.size w v ps := by
  obtain ⟨a, c, rfl, h1, h2⟩ := h.form
  obtain ⟨vs, hl, ho, hi⟩ := id h
  refine ⟨a, c, rfl, h1, h2, fun i hlt => ?_⟩
  rcases ho.2 with ⟨he, h0⟩ | ⟨g, cap, cur, he, _⟩
  · omega
  · simp only [Value.slice.injEq] at he
    obtain ⟨rfl, _, rfl⟩ := he
    refine ⟨g, 0, vs[i]?.getD undef, rfl, h.lt rfl, ?_, (hi i hlt).below (Below.refl _ _) hK⟩
    have := World.ownsRow.cells ho (g := g) rfl i (vs[i]?.getD undef) (by rw [List.getElem?_eq_getElem (by omega)]; simp)
    rw [Addr.add] at this
    by_cases h0 : i = 0
    · subst h0; simpa using this
    · simpa [h0] using this
/-- Blocks of different types are different. -/
theorem Kp.ne_blk {K base : Nat} {w : World} {v : Value} {ps : List (List UInt8)} (h : Kp K base w v ps) {b t : Nat} {cs : Array Value} (hq : Blk w b cs t) (ht : t ≠ 22) : some b ≠ v.ownBlock := by
  intro e
  obtain ⟨vs, hl, ho, _⟩ := h
  rcases ho.2 with ⟨rfl, _⟩ | ⟨g, cap, cur, rfl, _, hg, _⟩
  · cases e
  · simp only [Value.ownBlock, Option.some.injEq] at e
    subst e
    unfold Blk at hq
    rw [hg] at hq
    simp only [Option.some.injEq, Obj.cells.injEq] at hq
    exact ht hq.2.1.symm
theorem Kp.ne_own {K base base' : Nat} {w : World} {v u : Value} {ps : List (List UInt8)} {l : List UInt8} (h : Kp K base w v ps) (hu : OwnB base' w u l) : u.ownBlock = none ∨ u.ownBlock ≠ v.ownBlock := by
  rcases hu.2 with ⟨rfl, _⟩ | ⟨g, cap, cur, rfl, _, hg, _⟩
  · exact .inl rfl
  · right
    have hq : Blk w g cur 5 := hg
    exact h.ne_blk hq (by decide)

theorem wpList_append_L {w : World} {ops : Array Oper} {rest : List Oper} {o : Oper} {a : Act} {Q : Exit → Act → World → Prop} (hgd : o.guard = none) (s x : Operand)
    (ho : o.op = .call { callee := .builtin .append, args := #[s, x], argTypes := #[45, 45] })
    {K base : Nat} {v : Value} {ps : List (List UInt8)} {B c : Nat} {ua : Option Addr} {uc : Nat} {p : List UInt8} (hs : a.eval s = v) (hx : a.eval x = .slice (some ⟨B, 0, none⟩) 1 c) (hown : Kp K base w v ps)
    (hb : w.cell? ⟨B, 0, none⟩ = some (.slice ua p.length uc)) (hp : Byts K w (.slice ua p.length uc) p)
    (h63 : ps.length + 1 ≤ 2 ^ 40) (hbase : base ≤ w.heap.size) (hKb : K ≤ base)
    (h : ∀ g cap w', Kp K base w' (.slice (some ⟨g, 0, none⟩) (ps.length + 1) cap) (ps ++ [p]) → w.grownBy w' v.ownBlock → (v.ownBlock = some g ∨ g = w.heap.size) → wpList Tryz.prog ops Q rest (a.put o.dst (.slice (some ⟨g, 0, none⟩) (ps.length + 1) cap)) w') : wpList Tryz.prog ops Q (o :: rest) a w := by
  obtain ⟨i0, hi, hz0, hz1, hz2⟩ := info_parts Tryz.infoBytes
  have hbl : ∀ r, v.ownBlock = some r → base ≤ r := fun r hr => hown.base_le hr
  obtain ⟨vs, hl, hrow, hel⟩ := hown
  refine wpList_append_lies w hgd s x 45 ho base 22 i0 _ 1 24 Tryz.underlying45 hi hz0 hz1 hz2 rfl (by decide) v vs.length vs hs hrow ⟨B, 0, none⟩ 1 c [.slice ua p.length uc] hx rfl
    (fun j u hj => by
      match j, hj with
      | 0, hj =>
        simp only [List.getElem?_cons_zero, Option.some.injEq] at hj
        subst hj
        simpa [Addr.add] using hb)
    (by simp [Value.oneCell']) (by decide) (by simp [maxLen]; omega) (by omega) hbase _ rfl fun g cap w' h1 h2 h3 h4 => ?_
  rw [hl] at h1 ⊢
  refine h g cap w' ⟨vs ++ [.slice ua p.length uc], by simp [hl], by rw [List.length_append, hl]; exact h1, fun i hi => ?_⟩ h2 h3
  have hbw : Below K w w' := below_of_grown h2 (fun r hr => by have := hbl r hr; omega) (by omega)
  rw [List.length_append, List.length_singleton] at hi
  by_cases hip : i < ps.length
  · rw [List.getElem?_append_left (by omega), List.getElem?_append_left hip]
    exact (hel i hip).below hbw (Nat.le_refl _)
  · obtain rfl : i = ps.length := by omega
    rw [← hl, List.getElem?_concat_length, hl, List.getElem?_concat_length]
    exact hp.below hbw (Nat.le_refl _)
end Go.Proofs.YtkdlimigepkepaaGreat
