/- Layer 37's logs: words. No conditions. -/
import Derived.Test.YtkdlimigepkepaaGreatK5
namespace Go.Proofs.YtkdlimigepkepaaGreat
open Go.RowKit
set_option linter.unusedVariables false

/-- A row of the call's own whose block lies from lo on, below hi. -/
structure Row (lo hi : Nat) (W : World) (v : Value) (l : List UInt8) : Prop where
  own : OwnB lo W v l
  hi : ∀ b, v.ownBlock = some b → b < hi
theorem Row.mk' {lo : Nat} {W : World} {v : Value} {l : List UInt8} (h : OwnB lo W v l) : Row lo W.heap.size W v l := ⟨h, fun b hb => (World.ownsRow.lt h b hb).2⟩
theorem Row.below {lo hi : Nat} {W W' : World} {v : Value} {l : List UInt8} (h : Row lo hi W v l) (hb : Below W.heap.size W W') : Row lo hi W' v l := ⟨h.own.below hb (Nat.le_refl _), h.hi⟩
theorem Row.short {lo hi : Nat} {W : World} {a : Option Addr} {n cap : Nat} {l r : List UInt8} (h : Row lo hi W (.slice a n cap) (l ++ r)) (hr : 0 < r.length) : Row lo hi W (.slice a l.length cap) l := by
  obtain ⟨g, c, he, _⟩ := h.own.some' (by simp; omega)
  simp only [Value.slice.injEq] at he
  obtain ⟨rfl, rfl, rfl⟩ := he
  have h1 := h.own.short l.length (by simp)
  rw [List.take_left] at h1
  exact ⟨h1, h.hi⟩

/-- Blocks of a list of rows. -/
def blocks (vs : List Value) : List Nat := vs.filterMap Value.ownBlock
theorem blocks_cons (v : Value) (vs : List Value) : blocks (v :: vs) = v.ownBlock.toList ++ blocks vs := filterMap_cons_toList v vs
theorem nodup_at {vs : List Value} (h : (blocks vs).Nodup) : ∀ j k b, j < vs.length → k < vs.length → (vs[j]?.getD undef).ownBlock = some b → (vs[k]?.getD undef).ownBlock = some b → j = k := by
  induction vs with
  | nil => intro j k b hj; simp at hj
  | cons v vs ih =>
    rw [blocks_cons, List.nodup_append] at h
    obtain ⟨_, h2, h3⟩ := h
    have hmem : ∀ k b, k < vs.length → (vs[k]?.getD undef).ownBlock = some b → b ∈ blocks vs := by
      intro k b hk hb
      rw [List.getElem?_eq_getElem hk] at hb
      exact List.mem_filterMap.2 ⟨_, List.getElem_mem hk, hb⟩
    intro j k b hj hk hbj hbk
    match j, k with
    | 0, 0 => rfl
    | 0, k + 1 =>
      exfalso
      simp only [List.getElem?_cons_zero, Option.getD_some, List.getElem?_cons_succ] at hbj hbk
      exact h3 b (by rw [hbj]; simp) b (hmem k b (by simpa using hk) hbk) rfl
    | j + 1, 0 =>
      exfalso
      simp only [List.getElem?_cons_zero, Option.getD_some, List.getElem?_cons_succ] at hbj hbk
      exact h3 b (by rw [hbk]; simp) b (hmem j b (by simpa using hj) hbj) rfl
    | j + 1, k + 1 =>
      simp only [List.getElem?_cons_succ] at hbj hbk
      have := ih h2 j k b (by simpa using hj) (by simpa using hk) hbj hbk
      omega
theorem two_of {base : Nat} {W : World} {vs : List Value} {ls : List (List UInt8)} (h : ∀ i, i < vs.length → OwnB base W (vs[i]?.getD undef) (ls[i]?.getD [])) (hn : (blocks vs).Nodup) :
    Two base W vs.length (fun k => vs[k]?.getD undef) (fun k => ls[k]?.getD []) (fun k => vs[k]?.getD undef) (fun k => ls[k]?.getD []) :=
  ⟨h, h, fun k _ => Nat.le_refl _, fun j k b hj hk h1 h2 => nodup_at hn j k b hj hk (by rcases h1 with h | h <;> exact h) (by rcases h2 with h | h <;> exact h)⟩
theorem nodup_row {lo hi : Nat} {W : World} {v : Value} {l : List UInt8} {bs : List Nat} (h : Row lo hi W v l) (hn : bs.Nodup) (hb : ∀ b ∈ bs, b < lo ∨ hi ≤ b) : (v.ownBlock.toList ++ bs).Nodup :=
  nodup_cons_of hn (fun b e hm => by have h1 := h.hi b e; have h2 := h.own.base_le' e; have := hb b hm; omega)

theorem nodup4 {l0 h0 l1 h1 l2 h2 l3 h3 : Nat} {W0 W1 W2 W3 : World} {v0 v1 v2 v3 : Value} {x0 x1 x2 x3 : List UInt8} (r3 : Row l3 h3 W3 v3 x3) (r2 : Row l2 h2 W2 v2 x2) (r0 : Row l0 h0 W0 v0 x0) (r1 : Row l1 h1 W1 v1 x1)
    (a : h3 ≤ l2) (p2 : l2 ≤ h2) (b : h2 ≤ l0) (p0 : l0 ≤ h0) (c : h0 ≤ l1) : (blocks [v0, v1, v2, v3]).Nodup := by
  have e0 : ∀ x, x ∈ v0.ownBlock.toList → l0 ≤ x ∧ x < h0 := fun x hx => by rw [Option.mem_toList] at hx; exact ⟨r0.own.base_le' hx, r0.hi x hx⟩
  have e1 : ∀ x, x ∈ v1.ownBlock.toList → l1 ≤ x ∧ x < h1 := fun x hx => by rw [Option.mem_toList] at hx; exact ⟨r1.own.base_le' hx, r1.hi x hx⟩
  have e2 : ∀ x, x ∈ v2.ownBlock.toList → l2 ≤ x ∧ x < h2 := fun x hx => by rw [Option.mem_toList] at hx; exact ⟨r2.own.base_le' hx, r2.hi x hx⟩
  have e3 : ∀ x, x ∈ v3.ownBlock.toList → l3 ≤ x ∧ x < h3 := fun x hx => by rw [Option.mem_toList] at hx; exact ⟨r3.own.base_le' hx, r3.hi x hx⟩
  have n3 : (v3.ownBlock.toList ++ blocks []).Nodup := by cases v3.ownBlock <;> simp [blocks]
  rw [blocks_cons, blocks_cons, blocks_cons, blocks_cons]
  refine nodup_row r0 (nodup_row r1 (nodup_row r2 n3 ?_) ?_) ?_
  · intro x hx
    simp only [blocks, List.filterMap_nil, List.append_nil] at hx
    have := e3 x hx; omega
  · intro x hx
    simp only [blocks, List.filterMap_nil, List.append_nil, List.mem_append] at hx
    rcases hx with hx | hx
    · have := e2 x hx; omega
    · have := e3 x hx; omega
  · intro x hx
    simp only [blocks, List.filterMap_nil, List.append_nil, List.mem_append] at hx
    rcases hx with hx | hx | hx
    · have := e1 x hx; omega
    · have := e2 x hx; omega
    · have := e3 x hx; omega
theorem writeS_len (s : St) (x : List UInt8) : (writeS s x).1.data.length ≤ s.data.length + x.length := by
  unfold writeS
  split
  · simp [zSt]
  · split
    · simp [zSt]
    · split
      · simp
      · split
        · simp; omega
        · simp
theorem addS_len {l L : Lg} {q : List UInt8} {c : Int} (h : addS l q = (L, c)) : L.st.data.length ≤ l.st.data.length + 10 + q.length := by
  have hw := writeS_len l.st (formOf (l.count + 1).toNat q)
  rw [formOf_length] at hw
  unfold addS at h
  split at h
  · simp only [Prod.mk.injEq] at h; rw [← h.1]; simp [zLg, zSt]
  · split at h
    · simp only [Prod.mk.injEq] at h; rw [← h.1]; simp [zLg, zSt]
    · split at h
      · simp only [Prod.mk.injEq] at h; rw [← h.1]; simp [zLg, zSt]
      · split at h
        · simp only [Prod.mk.injEq] at h; rw [← h.1]; simp only; omega
        · split at h
          · simp only [Prod.mk.injEq] at h; rw [← h.1]; simp only; omega
          · simp only [Prod.mk.injEq] at h; rw [← h.1]; simp [zLg, zSt]
theorem restoreS_len' {l : Lg} {p c : Int} {rs : St} (h : restoreS l p = (rs, c)) : rs.data.length ≤ l.st.data.length := by
  unfold restoreS at h
  split at h
  · simp only [Prod.mk.injEq] at h; rw [← h.1]; simp [zSt]
  · simp only [Prod.mk.injEq] at h; rw [← h.1]; exact Nat.le_refl _

def S6 (b1 : Nat) (c1 : Array Value) (t1 : TypeId) (b2 : Nat) (c2 : Array Value) (t2 : TypeId) (b3 : Nat) (c3 : Array Value) (t3 : TypeId) (b4 : Nat) (c4 : Array Value) (t4 : TypeId) (b5 : Nat) (c5 : Array Value) (t5 : TypeId) (b6 : Nat) (c6 : Array Value) (t6 : TypeId) (W : World) : Prop :=
  Blk W b1 c1 t1 ∧ Blk W b2 c2 t2 ∧ Blk W b3 c3 t3 ∧ Blk W b4 c4 t4 ∧ Blk W b5 c5 t5 ∧ Blk W b6 c6 t6
theorem S6.below {b1 : Nat} {c1 : Array Value} {t1 : TypeId} {b2 : Nat} {c2 : Array Value} {t2 : TypeId} {b3 : Nat} {c3 : Array Value} {t3 : TypeId} {b4 : Nat} {c4 : Array Value} {t4 : TypeId} {b5 : Nat} {c5 : Array Value} {t5 : TypeId} {b6 : Nat} {c6 : Array Value} {t6 : TypeId} {W W' : World}
    (h : S6 b1 c1 t1 b2 c2 t2 b3 c3 t3 b4 c4 t4 b5 c5 t5 b6 c6 t6 W) (hb : Below W.heap.size W W') : S6 b1 c1 t1 b2 c2 t2 b3 c3 t3 b4 c4 t4 b5 c5 t5 b6 c6 t6 W' := by
  obtain ⟨h1, h2, h3, h4, h5, h6⟩ := h
  exact ⟨h1.below hb h1.lt, h2.below hb h2.lt, h3.below hb h3.lt, h4.below hb h4.lt, h5.below hb h5.lt, h6.below hb h6.lt⟩
end Go.Proofs.YtkdlimigepkepaaGreat
