/- Lists of texts of the call's own: a row of slices, each a row of its own, all in different blocks. No conditions. -/
import Derived.Test.YtkdlimigepkepaaGreatLib
import Derived.RangeFuncNested
namespace Go.Proofs.YtkdlimigepkepaaGreat
open Go.RowKit
set_option linter.unusedVariables false

/-- Texts of the call's own: a row of slices, each a row of its own, all in different blocks. -/
def OwnTs (base : Nat) (w : World) (v : Value) (ps : List (List UInt8)) : Prop :=
  ∃ vs : List Value, vs.length = ps.length ∧ w.ownsRow base 22 1 v ps.length vs ∧ (∀ i, i < ps.length → OwnB base w (vs[i]?.getD undef) (ps[i]?.getD [])) ∧ ((v :: vs).filterMap Value.ownBlock).Nodup

theorem OwnTs.nil (base : Nat) (w : World) : OwnTs base w (.slice none 0 0) [] :=
  ⟨[], rfl, World.ownsRow_nil w base 22 1, fun i hi => absurd hi (Nat.not_lt_zero i), (List.nodup_nil : ([] : List Nat).Nodup)⟩

/-- The block of an owned row holds cells. -/
theorem ownsRow_cells {w : World} {base e size n : Nat} {v : Value} {xs : List Value} (h : w.ownsRow base e size v n xs) {r : Nat} (hr : v.ownBlock = some r) : base ≤ r ∧ ∃ o, w.heap[r]? = some o ∧ o.isCells = true := by
  rcases h.2 with ⟨rfl, _⟩ | ⟨g, cap, cur, rfl, hb, hg, _⟩
  · simp [Value.ownBlock] at hr
  · simp [Value.ownBlock] at hr; subst hr; exact ⟨hb, _, hg, rfl⟩

/-- What may be turned besides owned rows. -/
def Apart (base : Nat) (w : World) (row : Option Nat) : Prop := ∀ r, row = some r → r < base ∨ ∃ o, w.heap[r]? = some o ∧ o.isCells = false

theorem Apart.no (base : Nat) (w : World) : Apart base w none := fun r h => nomatch h
theorem Apart.lt {base : Nat} {w : World} {r : Nat} (h : r < base) : Apart base w (some r) := fun r' h' => by cases h'; exact .inl h
theorem Apart.other {base : Nat} {w : World} {r : Nat} {o : Obj} (h : w.heap[r]? = some o) (ho : o.isCells = false) : Apart base w (some r) := fun r' h' => by cases h'; exact .inr ⟨o, h, ho⟩

theorem Apart.ne {base : Nat} {w : World} {row : Option Nat} (h : Apart base w row) {e size n : Nat} {v : Value} {xs : List Value} (ho : w.ownsRow base e size v n xs) : v.ownBlock = none ∨ v.ownBlock ≠ row := by
  cases hv : v.ownBlock with
  | none => exact .inl rfl
  | some r =>
    refine .inr fun he => ?_
    obtain ⟨hb, o, hg, hc⟩ := ownsRow_cells ho hv
    rcases h r he.symm with h1 | ⟨o', hg', hc'⟩
    · omega
    · rw [hg] at hg'; cases hg'; rw [hc] at hc'; cases hc'

theorem OwnB.keptA {base : Nat} {w w' : World} {v : Value} {l : List UInt8} {row : Option Nat} (h : OwnB base w v l) (hg : w.grownBy w' row) (ha : Apart base w row) : OwnB base w' v l := h.kept hg (ha.ne h)

theorem OwnTs.keptA {base : Nat} {w w' : World} {v : Value} {ps : List (List UInt8)} {row : Option Nat} (h : OwnTs base w v ps) (hg : w.grownBy w' row) (ha : Apart base w row) : OwnTs base w' v ps := by
  obtain ⟨vs, hl, ho, hi, hn⟩ := h
  exact ⟨vs, hl, ho.kept hg (ha.ne ho), fun i hlt => (hi i hlt).keptA hg ha, hn⟩

theorem ownsRow_mono {w : World} {base base' e size n : Nat} {v : Value} {xs : List Value} (h : w.ownsRow base e size v n xs) (hb : base' ≤ base) : w.ownsRow base' e size v n xs := by
  refine ⟨h.1, ?_⟩
  rcases h.2 with hn | ⟨g, cap, cur, rfl, hbg, rest⟩
  · exact .inl hn
  · exact .inr ⟨g, cap, cur, rfl, by omega, rest⟩
theorem OwnTs.mono {base base' : Nat} {w : World} {v : Value} {ps : List (List UInt8)} (h : OwnTs base w v ps) (hb : base' ≤ base) : OwnTs base' w v ps := by
  obtain ⟨vs, hl, ho, hi, hn⟩ := h
  exact ⟨vs, hl, ownsRow_mono ho hb, fun i hlt => (hi i hlt).mono hb, hn⟩

theorem OwnTs.base_le {base : Nat} {w : World} {v : Value} {ps : List (List UInt8)} (h : OwnTs base w v ps) {r : Nat} (hr : v.ownBlock = some r) : base ≤ r := by
  obtain ⟨vs, _, ho, _⟩ := h
  exact (ownsRow_cells ho hr).1

theorem OwnTs.form {base : Nat} {w : World} {v : Value} {ps : List (List UInt8)} (h : OwnTs base w v ps) : ∃ a n c, v = .slice a n c := by
  obtain ⟨vs, _, ho, _⟩ := h
  rcases ho.2 with ⟨rfl, _⟩ | ⟨g, cap, cur, rfl, _⟩
  · exact ⟨_, _, _, rfl⟩
  · exact ⟨_, _, _, rfl⟩
theorem OwnTs.cells {base : Nat} {w : World} {v : Value} {ps : List (List UInt8)} (h : OwnTs base w v ps) {r : Nat} (hr : v.ownBlock = some r) : ∃ o, w.heap[r]? = some o ∧ o.isCells = true := by
  obtain ⟨vs, _, ho, _⟩ := h
  exact (ownsRow_cells ho hr).2

theorem below_of_grown {B : Nat} {W W' : World} {row : Option Nat} (hg : W.grownBy W' row) (hr : ∀ k, row = some k → B ≤ k) (hB : B ≤ W.heap.size) : Below B W W' := (Below.refl B W).grown hg hB hr

/-- The box of a variable. -/
def Box (w : World) (b : Nat) (t : TypeId) (v : Value) : Prop := w.heap[b]? = some (.cells #[v] t (0, 0))
theorem Box.facts {w : World} {b t : Nat} {v : Value} (h : Box w b t v) : w.cell? ⟨b, 0, none⟩ = some v ∧ w.frozen? ⟨b, 0, none⟩ = false := by
  unfold Box at h
  simp [World.cell?, World.frozen?, h]
theorem Box.lt {w : World} {b t : Nat} {v : Value} (h : Box w b t v) : b < w.heap.size := (Array.getElem?_eq_some_iff.1 h).1
theorem Box.kept {w w' : World} {b t : Nat} {v : Value} {row : Option Nat} (h : Box w b t v) (hg : w.grownBy w' row) (hne : some b ≠ row) : Box w' b t v := (hg.block b h.lt hne).trans h
theorem Box.set {w : World} {b t : Nat} {v : Value} (h : Box w b t v) (x : Value) : Box (w.setCell ⟨b, 0, none⟩ x) b t x := by
  unfold Box at *
  simp [World.setCell, Array.getElem?_modify, h]

/-- A block that is known whole. -/
def Blk (w : World) (b : Nat) (cs : Array Value) (t : TypeId) : Prop := w.heap[b]? = some (.cells cs t (0, 0))
theorem Blk.new (w : World) (cs : Array Value) (t : TypeId) : Blk (w.alloc (.cells cs t)) w.heap.size cs t := World.alloc_heap_new w _
theorem Blk.lt {w : World} {b t : Nat} {cs : Array Value} (h : Blk w b cs t) : b < w.heap.size := (Array.getElem?_eq_some_iff.1 h).1
theorem Blk.alloc {w : World} {b t : Nat} {cs : Array Value} (h : Blk w b cs t) (o : Obj) : Blk (w.alloc o) b cs t := (Below.heap_alloc _ _ _ h.lt).trans h
theorem Blk.below {w w' : World} {B b t : Nat} {cs : Array Value} (h : Blk w b cs t) (hb : Below B w w') (hlt : b < B) : Blk w' b cs t := (hb.block b hlt).trans h
theorem Blk.kept {w w' : World} {b t : Nat} {cs : Array Value} {row : Option Nat} (h : Blk w b cs t) (hg : w.grownBy w' row) (hne : some b ≠ row) : Blk w' b cs t := (hg.block b h.lt hne).trans h
theorem Blk.set {w : World} {b t i : Nat} {cs : Array Value} (h : Blk w b cs t) (x : Value) : Blk (w.setCell ⟨b, i, none⟩ x) b (cs.setIfInBounds i x) t := by
  unfold Blk at *
  simp [World.setCell, Array.getElem?_modify, h]
theorem Blk.other {w : World} {b b' t i : Nat} {cs : Array Value} (h : Blk w b cs t) (hne : b ≠ b') (x : Value) : Blk (w.setCell ⟨b', i, none⟩ x) b cs t := (Below.heap_setCell _ _ _ _ (by simpa using hne)).trans h
theorem Blk.at {w : World} {b t i : Nat} {cs : Array Value} {x : Value} (h : Blk w b cs t) (hi : cs[i]? = some x) : w.cell? ⟨b, i, none⟩ = some x := by
  unfold Blk at h; simp [World.cell?, h, hi]
theorem Blk.free {w : World} {b t : Nat} {cs : Array Value} (h : Blk w b cs t) (i : Nat) : w.frozen? ⟨b, i, none⟩ = false := by
  unfold Blk at h; simp [World.frozen?, h]
theorem Blk.two {w : World} {b t : Nat} {x y : Value} (h : Blk w b #[x, y] t) : w.cell? ⟨b, 0, none⟩ = some x ∧ w.cell? ⟨b, 1, none⟩ = some y ∧ w.frozen? ⟨b, 0, none⟩ = false ∧ w.frozen? ⟨b, 1, none⟩ = false :=
  ⟨h.at rfl, h.at rfl, h.free _, h.free _⟩
theorem Blk.four {w : World} {b t : Nat} {x y z u : Value} (h : Blk w b #[x, y, z, u] t) : w.cell? ⟨b, 0, none⟩ = some x ∧ w.cell? ⟨b, 1, none⟩ = some y ∧ w.cell? ⟨b, 2, none⟩ = some z ∧ w.cell? ⟨b, 3, none⟩ = some u ∧
    w.frozen? ⟨b, 0, none⟩ = false ∧ w.frozen? ⟨b, 1, none⟩ = false ∧ w.frozen? ⟨b, 2, none⟩ = false ∧ w.frozen? ⟨b, 3, none⟩ = false :=
  ⟨h.at rfl, h.at rfl, h.at rfl, h.at rfl, h.free _, h.free _, h.free _, h.free _⟩

theorem Tryz.infoBytes : (Tryz.prog.info? 22).map (fun i => (i.zero, i.size, i.bytes)) = some (some (.slice none 0 0), 1, 24) := by kernel_rfl

theorem ownBlock_of_OwnB {base : Nat} {w : World} {v : Value} {l : List UInt8} (h : OwnB base w v l) : ∃ a n c, v = .slice a n c := by
  rcases h.2 with ⟨rfl, _⟩ | ⟨g, cap, cur, rfl, _⟩
  · exact ⟨_, _, _, rfl⟩
  · exact ⟨_, _, _, rfl⟩

/-- append of one text, made since the world w0, to texts of the call's own. -/
theorem run_append_T (w0 w : World) (ty : TypeId) {base : Nat} {v pv : Value} {ps : List (List UInt8)} {p : List UInt8} (hown0 : OwnTs base w0 v ps) (hg0 : w0.grownBy w none)
    (hp : OwnB w0.heap.size w pv p) (hB : base ≤ w0.heap.size) (h63 : ps.length ≤ 2 ^ 40) :
    ∃ v' w', (Builtin.append_ #[45, 45] ty #[v, .slice (some ⟨w.heap.size, 0, none⟩) 1 1]).run Tryz.prog (w.alloc (.cells #[pv] 22)) = .ok v' w' ∧ OwnTs base w' v' (ps ++ [p]) ∧ (w.alloc (.cells #[pv] 22)).grownBy w' v.ownBlock := by
  obtain ⟨B0, hB0⟩ : ∃ B0, w0.heap.size = B0 := ⟨_, rfl⟩
  have hB2 : B0 ≤ w.heap.size := hB0 ▸ hg0.size
  have hlo' : ∀ vs : List Value, w0.ownsRow base 22 1 v ps.length vs → vs.length = ps.length → (∀ i, i < ps.length → OwnB base w0 (vs[i]?.getD undef) (ps[i]?.getD [])) → ∀ b, b ∈ (v :: vs).filterMap Value.ownBlock → b < B0 := by
    intro vs ho hl hin b hb
    rw [← hB0]
    obtain ⟨u, hu, hub⟩ := List.mem_filterMap.1 hb
    rcases List.mem_cons.1 hu with rfl | hu
    · exact (ho.lt b hub).2
    · obtain ⟨i, hi, rfl⟩ := List.mem_iff_getElem.1 hu
      have := hin i (by omega)
      rw [List.getElem?_eq_getElem hi] at this
      exact (World.ownsRow.lt this b hub).2
  obtain ⟨vs0, hl0, ho0, hin0, hnd0⟩ := hown0
  have hlo' := hlo' vs0 ho0 hl0 hin0
  have hown : OwnTs base w v ps ∧ True := ⟨OwnTs.keptA ⟨vs0, hl0, ho0, hin0, hnd0⟩ hg0 (Apart.no _ _), trivial⟩
  have ho := ho0.kept hg0 ((Apart.no base w0).ne ho0)
  have hin : ∀ i, i < ps.length → OwnB base w (vs0[i]?.getD undef) (ps[i]?.getD []) := fun i h => (hin0 i h).keptA hg0 (Apart.no _ _)
  rw [hB0] at hp hB
  clear hown hB0
  obtain ⟨vs, hvs⟩ : ∃ vs, vs0 = vs := ⟨_, rfl⟩
  subst hvs
  have hl := hl0; have hnd := hnd0
  obtain ⟨i0, hi, hz0, hz1, hz2⟩ := info_parts Tryz.infoBytes
  have hpv : pv.oneCell' = true := by obtain ⟨a, n, c, rfl⟩ := ownBlock_of_OwnB hp; rfl
  obtain ⟨v', w', h1, h2, h3, _, h5⟩ := run_append_own_at (P := Tryz.prog) (w.alloc (.cells #[pv] 22)) base 45 ty 22 i0 (.slice none 0 0) 1 24 Tryz.underlying45 hi hz0 hz1 hz2 rfl (by decide) v ps.length vs0 (ho.alloc _)
    ⟨w.heap.size, 0, none⟩ 1 1 [pv] rfl (cell_one_new w pv 22) (by intro u hu; simp at hu; subst hu; exact hpv) (by simp only [maxLen]; omega) (by omega) (by simp; omega)
  refine ⟨v', w', h1, ⟨vs0 ++ [pv], by simp [hl], by rw [List.length_append]; exact h2, ?_, ?_⟩, h3⟩
  · intro i hlt
    rw [List.length_append, List.length_singleton] at hlt
    by_cases hi : i < ps.length
    · rw [List.getElem?_append_left (by omega), List.getElem?_append_left hi]
      refine ((hin i hi).alloc _).kept h3 ?_
      cases hb : (vs0[i]?.getD undef).ownBlock with
      | none => exact .inl rfl
      | some b =>
        refine .inr fun he => ?_
        rw [List.filterMap_cons] at hnd
        rw [← he] at hnd
        simp only [List.nodup_cons] at hnd
        refine hnd.1 (List.mem_filterMap.2 ⟨vs0[i]?.getD undef, ?_, hb⟩)
        rw [List.getElem?_eq_getElem (by omega)]
        simp
    · obtain rfl : i = ps.length := by omega
      rw [← hl, List.getElem?_concat_length, hl, List.getElem?_concat_length]
      simp only [Option.getD_some]
      refine OwnB.mono ((hp.alloc _).kept h3 ?_) hB
      cases hb : pv.ownBlock with
      | none => exact .inl rfl
      | some b =>
        refine .inr fun he => ?_
        have h6 := (ownsRow_cells hp hb).1
        have h7 := hlo' b (List.mem_filterMap.2 ⟨v, by simp, he.symm⟩)
        omega
  · -- the blocks are different
    have key : ∀ (hd : Option Nat), (hd = v.ownBlock ∨ hd = some (w.heap.size + 1)) → (hd.toList ++ (vs0 ++ [pv]).filterMap Value.ownBlock).Nodup := by
      intro hd hhd
      have hb1 : ∀ b, pv.ownBlock = some b → B0 ≤ b ∧ b < w.heap.size := fun b hb => ⟨(ownsRow_cells hp hb).1, (hp.lt b hb).2⟩
      have hpn : (pv.ownBlock.toList).Nodup := by cases pv.ownBlock <;> simp
      have hvs : (vs0.filterMap Value.ownBlock).Nodup ∧ ∀ b, v.ownBlock = some b → b ∉ vs0.filterMap Value.ownBlock := by
        rw [List.filterMap_cons] at hnd
        cases hv : v.ownBlock with
        | none => rw [hv] at hnd; exact ⟨hnd, fun b h => nomatch h⟩
        | some b => rw [hv] at hnd; simp only [List.nodup_cons] at hnd; exact ⟨hnd.2, fun b' h => by cases h; exact hnd.1⟩
      have hlt : ∀ b, b ∈ vs0.filterMap Value.ownBlock → b < B0 := fun b hb => hlo' b (by
        rw [List.filterMap_cons]; cases v.ownBlock <;> simp [hb])
      have hvlt : ∀ b, v.ownBlock = some b → b < B0 := fun b hb => hlo' b (List.mem_filterMap.2 ⟨v, by simp, hb⟩)
      rw [List.filterMap_append, show [pv].filterMap Value.ownBlock = pv.ownBlock.toList by cases h : pv.ownBlock <;> simp [h]]
      rw [List.nodup_append, List.nodup_append]
      refine ⟨by cases hd <;> simp, ⟨hvs.1, hpn, ?_⟩, ?_⟩
      · intro a ha b hb he
        subst he
        have := hlt a ha
        rw [Option.mem_toList] at hb
        have := (hb1 a hb).1
        omega
      · intro a ha b hb he
        subst he
        rw [Option.mem_toList] at ha
        rw [List.mem_append] at hb
        rcases hhd with rfl | rfl
        · rcases hb with hb | hb
          · exact hvs.2 a ha hb
          · rw [Option.mem_toList] at hb
            have := hvlt a ha
            have := (hb1 a hb).1
            omega
        · cases ha
          rcases hb with hb | hb
          · have := hlt _ hb; omega
          · rw [Option.mem_toList] at hb
            have := (hb1 _ hb).2
            omega
    rw [List.filterMap_cons]
    rw [World.size_alloc] at h5
    have := key v'.ownBlock h5
    cases hv : v'.ownBlock with
    | none => rw [hv] at this; simpa using this
    | some b => rw [hv] at this; simpa using this

theorem wp_append_T {o : Oper} {a : Act} {C : Act → World → Prop} {Q : Exit → Act → World → Prop} (s x : Operand)
    (ho : o.op = .call { callee := .builtin .append, args := #[s, x], argTypes := #[45, 45] })
    (w0 w : World) {base : Nat} {v pv : Value} {ps : List (List UInt8)} {p : List UInt8} (hs : a.eval s = v) (hxv : a.eval x = .slice (some ⟨w.heap.size, 0, none⟩) 1 1) (hown0 : OwnTs base w0 v ps) (hg0 : w0.grownBy w none)
    (hp : OwnB w0.heap.size w pv p) (hB : base ≤ w0.heap.size) (h63 : ps.length ≤ 2 ^ 40)
    (h : ∀ v' w', OwnTs base w' v' (ps ++ [p]) → (w.alloc (.cells #[pv] 22)).grownBy w' v.ownBlock → C (a.put o.dst v') w') : o.wp Tryz.prog a (w.alloc (.cells #[pv] 22)) C Q := by
  obtain ⟨v', w', hr, h2, h3⟩ := run_append_T w0 w o.type hown0 hg0 hp hB h63
  unfold Oper.wp execOp
  simp only [ho, resolve, invoke, builtin, Sem.run_bind, Sem.run_pure, Result.andThen_ok, List.map_toArray, List.map_cons, List.map_nil, hs, hxv, hr]
  exact h v' w' h2 h3

end Go.Proofs.YtkdlimigepkepaaGreat
