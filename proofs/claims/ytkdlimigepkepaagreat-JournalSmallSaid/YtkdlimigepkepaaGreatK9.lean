/- Layer 37's stores: words: rows of rows, texts that are appended. No conditions. -/
import Derived.Test.YtkdlimigepkepaaGreatK8
namespace Go.Proofs.YtkdlimigepkepaaGreat
open Go.RowKit
set_option linter.unusedVariables false

theorem OwnB.keptP2 {base : Nat} {W W' : World} {v : Value} {l : List UInt8} (h : OwnB base W v l) {r : Nat} (hne : v.ownBlock ≠ some r) {x y : Value}
    (hW : (W.setCell ⟨r, 0, none⟩ x).setCell ⟨r, 1, none⟩ y = W') : OwnB base W' v l := by
  subst hW
  exact (h.kept (grownBy_setCell W r 0 x) (.inr hne)).kept (grownBy_setCell _ r 1 y) (.inr hne)
structure Rws (base : Nat) (W : World) (vs : List Value) (ls : List (List UInt8)) (P : Nat → Prop) : Prop where
  len : ls.length = vs.length
  own : ∀ i, i < vs.length → OwnB base W (vs[i]?.getD undef) (ls[i]?.getD [])
  nd : (blocks vs).Nodup
  mem : ∀ b, b ∈ blocks vs → P b
theorem Rws.cons {base : Nat} {W : World} {vs : List Value} {ls : List (List UInt8)} {P Q : Nat → Prop} {v : Value} {l : List UInt8} (h : Rws base W vs ls P) (hr : OwnB base W v l) (hb : ∀ b, v.ownBlock = some b → ¬ P b) (hq : ∀ b, v.ownBlock = some b → Q b) (hpq : ∀ b, P b → Q b) :
    Rws base W (v :: vs) (l :: ls) Q := by
  refine ⟨by simp [h.len], fun i hi => ?_, ?_, fun b hm => ?_⟩
  · match i with
    | 0 => exact hr
    | i + 1 => exact h.own i (by simpa using hi)
  · rw [blocks_cons]
    exact nodup_cons_of h.nd (fun b e hm => hb b e (h.mem b hm))
  · rw [blocks_cons, List.mem_append, Option.mem_toList] at hm
    rcases hm with hm | hm
    · exact hq b hm
    · exact hpq b (h.mem b hm)
theorem blocks_append (a b : List Value) : blocks (a ++ b) = blocks a ++ blocks b := by simp [blocks]
theorem Rws.append {base : Nat} {W : World} {vs us : List Value} {ls ms : List (List UInt8)} {P Q : Nat → Prop} (h : Rws base W vs ls P) (k : Rws base W us ms Q) (hd : ∀ b, P b → ¬ Q b) : Rws base W (vs ++ us) (ls ++ ms) (fun b => P b ∨ Q b) := by
  refine ⟨by simp [h.len, k.len], fun i hi => ?_, ?_, fun b hm => ?_⟩
  · rw [List.length_append] at hi
    have hl := h.len
    by_cases h1 : i < vs.length
    · rw [List.getElem?_append_left h1, List.getElem?_append_left (by omega)]; exact h.own i h1
    · rw [List.getElem?_append_right (by omega), List.getElem?_append_right (by omega), hl]; exact k.own _ (by omega)
  · rw [blocks_append, List.nodup_append]
    exact ⟨h.nd, k.nd, fun a ha b hb e => hd a (h.mem a ha) (e ▸ k.mem b hb)⟩
  · rw [blocks_append, List.mem_append] at hm
    exact hm.imp (h.mem b) (k.mem b)

/-- Texts of the call's own, their slices named; the blocks below hi. -/
structure Tx (lo hi : Nat) (W : World) (v : Value) (vs : List Value) (ps : List (List UInt8)) : Prop where
  ts : TsV lo W v vs ps
  nd : (blocks (v :: vs)).Nodup
  hi : ∀ b, b ∈ blocks (v :: vs) → b < hi
theorem Tx.of {lo : Nat} {W : World} {v : Value} {ps : List (List UInt8)} (h : OwnTs lo W v ps) : ∃ vs, Tx lo W.heap.size W v vs ps := by
  obtain ⟨vs, h1, h2⟩ := h.named
  exact ⟨vs, h1, h2, fun b hb => h1.lt b hb⟩
theorem Tx.below {lo hi : Nat} {W W' : World} {v : Value} {vs : List Value} {ps : List (List UInt8)} (h : Tx lo hi W v vs ps) (hb : Below W.heap.size W W') : Tx lo hi W' v vs ps := ⟨h.ts.below hb (Nat.le_refl _), h.nd, h.hi⟩
theorem Tx.txts {lo hi : Nat} {W : World} {v : Value} {vs : List Value} {ps : List (List UInt8)} (h : Tx lo hi W v vs ps) : Txts W.heap.size W v ps := (h.ts.texts h.nd).txts
theorem Tx.rws {lo hi base : Nat} {W : World} {v : Value} {vs : List Value} {ps : List (List UInt8)} (h : Tx lo hi W v vs ps) (hb : base ≤ lo) : Rws base W vs ps (fun b => b ∈ blocks vs ∧ lo ≤ b ∧ b < hi) := by
  obtain ⟨h1, h2, h3⟩ := h.ts
  refine ⟨h1.symm, fun i hi => (h3 i (by omega)).mono hb, ?_, fun b hm => ⟨hm, ?_, h.hi b (by rw [blocks_cons]; exact List.mem_append_right _ hm)⟩⟩
  · have := h.nd
    rw [blocks_cons, List.nodup_append] at this
    exact this.2.1
  · obtain ⟨u, hu, hub⟩ := List.mem_filterMap.1 hm
    obtain ⟨i, hi, rfl⟩ := List.mem_iff_getElem.1 hu
    have := h3 i (by omega)
    rw [List.getElem?_eq_getElem hi] at this
    exact this.base_le' hub
theorem Tx.form {lo hi : Nat} {W : World} {v : Value} {vs : List Value} {ps : List (List UInt8)} (h : Tx lo hi W v vs ps) : ∃ a c, v = .slice a ps.length c ∧ ps.length ≤ c ∧ c ≤ maxLen := by
  obtain ⟨a, c, he, h1, h2, _⟩ := h.txts
  exact ⟨a, c, he, h1, h2⟩

/-- Texts appended to a row of the call's own. -/
theorem wpList_append_TT {w : World} {ops : Array Oper} {rest : List Oper} {o : Oper} {a : Act} {Q : Exit → Act → World → Prop} (hgd : o.guard = none) (s x : Operand)
    (ho : o.op = .call { callee := .builtin .append, args := #[s, x], argTypes := #[45, 45] })
    {base lo hi : Nat} {v u : Value} {xs us : List Value} {ps : List (List UInt8)} {n : Nat} (hs : a.eval s = v) (hxv : a.eval x = u) (hown : w.ownsRow base 22 1 v n xs) (hu : Tx lo hi w u us ps) (h63 : n + ps.length ≤ 2 ^ 40) (hbase : base ≤ w.heap.size)
    (h : ∀ v' w', w'.ownsRow base 22 1 v' (n + ps.length) (xs ++ us) → w.grownBy w' v.ownBlock → wpList Tryz.prog ops Q rest (a.put o.dst v') w') : wpList Tryz.prog ops Q (o :: rest) a w := by
  obtain ⟨i0, hi0, hz0, hz1, hz2⟩ := info_parts Tryz.infoBytes
  obtain ⟨h1, h2, h3⟩ := hu.ts
  have hrun : ∃ v' w', (Builtin.append_ #[45, 45] o.type #[v, u]).run Tryz.prog w = .ok v' w' ∧ w'.ownsRow base 22 1 v' (n + ps.length) (xs ++ us) ∧ w.grownBy w' v.ownBlock := by
    rcases id h2.2 with ⟨rfl, h0⟩ | ⟨g, cap, cur, rfl, hb, hg, k1, k2, k3, k4⟩
    · have hus : us = [] := List.eq_nil_of_length_eq_zero (by omega)
      subst hus
      refine ⟨v, w, run_append_owned_none w base 45 o.type 22 i0 1 Tryz.underlying45 hi0 v n xs hown, ?_, World.grownBy.refl _ _⟩
      rw [h0, Nat.add_zero, List.append_nil]; exact hown
    · obtain ⟨v', w', r1, r2, r3, _, _⟩ := run_append_own_at (P := Tryz.prog) w base 45 o.type 22 i0 (.slice none 0 0) 1 24 Tryz.underlying45 hi0 hz0 hz1 hz2 rfl (by decide) v n xs hown ⟨g, 0, none⟩ ps.length cap us (by omega)
        (World.ownsRow.cells h2 (g := g) rfl) (by
          intro u hu
          obtain ⟨i, hi, rfl⟩ := List.mem_iff_getElem.1 hu
          have := h3 i (by omega)
          rw [List.getElem?_eq_getElem hi] at this
          obtain ⟨a, m, c, he⟩ := ownBlock_of_OwnB this
          simp only [Option.getD_some] at he
          rw [he]; rfl) (by simp only [maxLen]; omega) (by omega) hbase
      exact ⟨v', w', r1, r2, r3⟩
  obtain ⟨v', w', r1, r2, r3⟩ := hrun
  refine wpList_plain hgd fun _ hK => ?_
  unfold Oper.wp execOp
  simp only [ho, resolve, invoke, builtin, Sem.run_bind, Sem.run_pure, Result.andThen_ok, List.map_toArray, List.map_cons, List.map_nil, hs, hxv, r1]
  exact hK _ _ (h v' w' r2 r3)
theorem row_cells {W : World} {base N : Nat} {v : Value} {xs : List Value} (h : W.ownsRow base 22 1 v N xs) (h0 : 0 < N) : ∃ lb lcap cs, v = .slice (some ⟨lb, 0, none⟩) N lcap ∧ Blk W lb cs 22 ∧ (∀ k, k < N → cs[k]? = some (xs[k]?.getD undef)) ∧ N ≤ lcap ∧ lcap ≤ 2 ^ 63 - 1 := by
  have hl := h.1
  rcases h.2 with ⟨_, h1⟩ | ⟨g, cap, cur, rfl, hb, hg, h1, h2, h3, h4⟩
  · omega
  · refine ⟨g, cap, cur, rfl, hg, fun k hk => ?_, h1, by unfold maxLen at h2; omega⟩
    have h5 : (cur.toList.take (N * 1))[k]? = xs[k]? := by rw [h4]
    rw [List.getElem?_take, if_pos (by omega), Array.getElem?_toList] at h5
    rw [h5, List.getElem?_eq_getElem (by omega)]; rfl
theorem row_new (W : World) (vs : List Value) {base : Nat} (hb : base ≤ W.heap.size) (hm : vs.length ≤ 2 ^ 40) : (W.alloc (.cells vs.toArray 22)).ownsRow base 22 1 (.slice (some ⟨W.heap.size, 0, none⟩) vs.length vs.length) vs.length vs :=
  ⟨by simp, .inr ⟨W.heap.size, vs.length, vs.toArray, rfl, hb, World.alloc_heap_new W _, Nat.le_refl _, by unfold maxLen; omega, by simp, by simp⟩⟩

/-- Eight boxes and two rows that are read. -/
structure SB (K b1 : Nat) (c1 : Array Value) (t1 : TypeId) (b2 : Nat) (c2 : Array Value) (t2 : TypeId) (b3 : Nat) (c3 : Array Value) (t3 : TypeId) (b4 : Nat) (c4 : Array Value) (t4 : TypeId) (b5 : Nat) (c5 : Array Value) (t5 : TypeId) (b6 : Nat) (c6 : Array Value) (t6 : TypeId)
    (b7 : Nat) (c7 : Array Value) (t7 : TypeId) (b8 : Nat) (c8 : Array Value) (t8 : TypeId) (xv yv : Value) (fx : List UInt8) (W : World) : Prop where
  q1 : Blk W b1 c1 t1
  q2 : Blk W b2 c2 t2
  q3 : Blk W b3 c3 t3
  q4 : Blk W b4 c4 t4
  q5 : Blk W b5 c5 t5
  q6 : Blk W b6 c6 t6
  q7 : Blk W b7 c7 t7
  q8 : Blk W b8 c8 t8
  x : Byts K W xv fx
  y : Byts K W yv fx
  sz : K ≤ W.heap.size
theorem SB.below {K b1 : Nat} {c1 : Array Value} {t1 : TypeId} {b2 : Nat} {c2 : Array Value} {t2 : TypeId} {b3 : Nat} {c3 : Array Value} {t3 : TypeId} {b4 : Nat} {c4 : Array Value} {t4 : TypeId} {b5 : Nat} {c5 : Array Value} {t5 : TypeId} {b6 : Nat} {c6 : Array Value} {t6 : TypeId}
    {b7 : Nat} {c7 : Array Value} {t7 : TypeId} {b8 : Nat} {c8 : Array Value} {t8 : TypeId} {xv yv : Value} {fx : List UInt8} {W W' : World} (h : SB K b1 c1 t1 b2 c2 t2 b3 c3 t3 b4 c4 t4 b5 c5 t5 b6 c6 t6 b7 c7 t7 b8 c8 t8 xv yv fx W) (hb : Below W.heap.size W W') :
    SB K b1 c1 t1 b2 c2 t2 b3 c3 t3 b4 c4 t4 b5 c5 t5 b6 c6 t6 b7 c7 t7 b8 c8 t8 xv yv fx W' :=
  ⟨h.q1.below hb h.q1.lt, h.q2.below hb h.q2.lt, h.q3.below hb h.q3.lt, h.q4.below hb h.q4.lt, h.q5.below hb h.q5.lt, h.q6.below hb h.q6.lt, h.q7.below hb h.q7.lt, h.q8.below hb h.q8.lt, h.x.below (hb.mono h.sz) (Nat.le_refl _), h.y.below (hb.mono h.sz) (Nat.le_refl _), Nat.le_trans h.sz hb.size⟩

theorem cutS_len (s : St) (n : Int) : (cutS s n).1.data.length ≤ s.data.length := by
  unfold cutS
  repeat' split
  all_goals simp [zSt]
  all_goals omega
theorem openS_len {s : St} {L : Lg} {qs : List (List UInt8)} {c : Int} (h : openS s = (L, qs, c)) : L.st.data.length ≤ s.data.length ∧ (qs = [] ∨ qs = scanOf s.data) := by
  have hc := cutS_len s (endOf (scanOf s.data))
  unfold openS at h
  split at h
  · simp only [Prod.mk.injEq] at h; rw [← h.1, ← h.2.1]; simp [zLg, zSt]
  · split at h
    · simp only [Prod.mk.injEq] at h; rw [← h.1, ← h.2.1]; simp [zLg, zSt]
    · simp only [Prod.mk.injEq] at h; rw [← h.1, ← h.2.1]; exact ⟨hc, .inr rfl⟩
theorem scan_small (l : List UInt8) : (scanOf l).length ≤ 65536 ∧ ∀ i, i < (scanOf l).length → ((scanOf l)[i]?.getD []).length ≤ 4096 := by
  have h := scanOf_spec l
  refine ⟨h.1.fits.2, fun i hi => ?_⟩
  have := h.1 i hi
  exact (nextRec_fits this).2.2
end Go.Proofs.YtkdlimigepkepaaGreat
