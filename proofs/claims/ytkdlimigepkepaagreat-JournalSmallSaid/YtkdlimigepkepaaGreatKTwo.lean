/- Families of rows of bytes, all in different blocks; append where it is told whether it fits. No conditions. -/
import Derived.Test.YtkdlimigepkepaaGreatQ8
namespace Go.Proofs.YtkdlimigepkepaaGreat
open Go.RowKit
set_option linter.unusedVariables false

/-- append of bytes: in the row (its end known), or in a new block. -/
theorem run_append_two (w : World) (ty : TypeId) {base K : Nat} {v vx : Value} {xs l : List UInt8} (hown : OwnB base w v xs) (hx : Byts K w vx l) (h0 : 0 < l.length) (h63 : xs.length + l.length ≤ 2 ^ 46) (hbase : base ≤ w.heap.size) :
    ∃ v' w', (Builtin.append_ #[22, 22] ty #[v, vx]).run Tryz.prog w = .ok v' w' ∧ OwnB base w' v' (xs ++ l) ∧
      ((∃ g n m cap, v = .slice (some ⟨g, 0, none⟩) n cap ∧ v' = .slice (some ⟨g, 0, none⟩) m cap ∧ n ≤ m ∧ w.grownBy w' (some g)) ∨ (w.grownBy w' none ∧ v'.ownBlock = some w.heap.size)) := by
  obtain ⟨i0, hi, hz0, hz1, hz2⟩ := info_parts Tryz.infoU8
  obtain ⟨v', w', hrun, ho', hg', hat⟩ := run_append_B w ty hown hx h63 hbase
  obtain ⟨a, cap, rfl, hl, hm, hz, hc⟩ := hx
  have hsome : ∃ ad, a = some ad := by
    obtain ⟨b, o, h, _⟩ := hc 0 h0; exact ⟨_, h⟩
  obtain ⟨ad, rfl⟩ := hsome
  have hnl : (l.map B).length = l.length * 1 := by simp
  have hcell : ∀ j u, (l.map B)[j]? = some u → w.cell? (ad.add j) = some u := fun j u hj => by
    have hjl : j < l.length := by
      have := (List.getElem?_eq_some_iff.1 hj).1; simpa using this
    obtain ⟨b, o, he, _, hcell⟩ := hc j hjl
    simp only [Option.some.injEq] at he
    subst he
    have hu : u = B (l[j]?.getD 0) := by simp [hjl] at hj; simp [hjl, hj]
    rw [hu, ← hcell, Addr.add]
    by_cases hj0 : j = 0
    · subst hj0; rfl
    · simp [hj0]
  refine ⟨v', w', hrun, ho', ?_⟩
  rcases hown.2 with ⟨rfl, h00⟩ | ⟨g, vcap, cur, rfl, hbg, hg, hnc, hcm, hcs, htake⟩
  · right
    have hr := run_append_nil (P := Tryz.prog) w 22 ty 5 i0 (.int .u8 0) Tryz.underlying22 hi hz0 ad l.length cap (l.map B) (by rw [hz1]; exact hnl) hcell h0 (by omega) (by rw [hz2]; omega)
    rw [hr] at hrun
    simp only [Result.ok.injEq] at hrun
    obtain ⟨rfl, rfl⟩ := hrun
    exact ⟨⟨rfl, rfl, rfl, by simp, fun k hk _ => Below.heap_alloc w.drew _ k hk⟩, rfl⟩
  · by_cases hroom : xs.length + l.length ≤ vcap
    · left
      obtain ⟨w2, hr, h1, h2⟩ := run_append_fits (P := Tryz.prog) w base 22 ty 5 i0 1 Tryz.underlying22 hi hz1 g xs.length vcap (xs.map B) hown ad l.length cap (l.map B) hnl hcell (B_oneCell l) hroom
      rw [hr] at hrun
      simp only [Result.ok.injEq] at hrun
      obtain ⟨rfl, rfl⟩ := hrun
      exact ⟨g, xs.length, xs.length + l.length, vcap, rfl, rfl, by omega, h2⟩
    · right
      have holds : ∀ j u, (xs.map B)[j]? = some u → w.cell? ((⟨g, 0, none⟩ : Addr).add j) = some u := World.ownsRow.cells hown (g := g) rfl
      have hr := run_append_grow (P := Tryz.prog) w 22 ty 5 i0 (.int .u8 0) Tryz.underlying22 hi hz0 ⟨g, 0, none⟩ xs.length vcap (xs.map B) (by rw [hz1]; simp) holds ad l.length cap (l.map B) (by rw [hz1]; exact hnl) hcell (by omega) (by omega) (growslice_fits (by omega) (by rw [hz2]; omega))
      rw [hr] at hrun
      simp only [Result.ok.injEq] at hrun
      obtain ⟨rfl, rfl⟩ := hrun
      exact ⟨⟨rfl, rfl, rfl, by simp, fun k hk _ => Below.heap_alloc w.drew _ k hk⟩, rfl⟩

theorem wpList_append_two {w : World} {ops : Array Oper} {rest : List Oper} {o : Oper} {a : Act} {Q : Exit → Act → World → Prop} (hgd : o.guard = none) (s x : Operand)
    (ho : o.op = .call { callee := .builtin .append, args := #[s, x], argTypes := #[22, 22] })
    {base K : Nat} {v vx : Value} {xs l : List UInt8} (hs : a.eval s = v) (hxv : a.eval x = vx) (hown : OwnB base w v xs) (hx : Byts K w vx l) (h0 : 0 < l.length) (h63 : xs.length + l.length ≤ 2 ^ 46) (hbase : base ≤ w.heap.size)
    (h : ∀ v' w', OwnB base w' v' (xs ++ l) → ((∃ g n m cap, v = .slice (some ⟨g, 0, none⟩) n cap ∧ v' = .slice (some ⟨g, 0, none⟩) m cap ∧ n ≤ m ∧ w.grownBy w' (some g)) ∨ (w.grownBy w' none ∧ v'.ownBlock = some w.heap.size)) →
      wpList Tryz.prog ops Q rest (a.put o.dst v') w') : wpList Tryz.prog ops Q (o :: rest) a w :=
  wpList_plain hgd fun _ hK => by
    obtain ⟨v', w', hr, h2, h3⟩ := run_append_two w o.type hown hx h0 h63 hbase
    unfold Oper.wp execOp
    simp only [ho, resolve, invoke, builtin, Sem.run_bind, Sem.run_pure, Result.andThen_ok, List.map_toArray, List.map_cons, List.map_nil, hs, hxv, hr]
    exact hK _ _ (h v' w' h2 h3)

theorem OwnB.base_le' {base : Nat} {W : World} {v : Value} {l : List UInt8} (h : OwnB base W v l) {r : Nat} (hr : v.ownBlock = some r) : base ≤ r := (ownsRow_cells h hr).1
/-- A row cut short is a row. -/
theorem OwnB.short {base : Nat} {W : World} {g n cap : Nat} {l : List UInt8} (h : OwnB base W (.slice (some ⟨g, 0, none⟩) n cap) l) (m : Nat) (hm : m ≤ l.length) : OwnB base W (.slice (some ⟨g, 0, none⟩) m cap) (l.take m) := by
  have hl : (l.take m).length = m := by simp; omega
  refine ⟨by simp, ?_⟩
  rcases h.2 with ⟨he, _⟩ | ⟨g', cap', cur, he, hb, hg, h1, h2, h3, h4⟩
  · cases he
  · simp only [Value.slice.injEq, Option.some.injEq, Addr.mk.injEq, and_true] at he
    obtain ⟨rfl, rfl, rfl⟩ := he
    refine .inr ⟨g, cap, cur, by rw [hl], hb, hg, by rw [hl]; omega, h2, h3, ?_⟩
    rw [hl, List.map_take, ← h4, List.take_take, Nat.mul_one, Nat.mul_one, Nat.min_eq_left hm]
/-- Two rows in one block. -/
theorem OwnB.same_block {base : Nat} {W : World} {x y : Value} {dx dy : List UInt8} (hx : OwnB base W x dx) (hy : OwnB base W y dy) {g : Nat} (h1 : x.ownBlock = some g) (h2 : y.ownBlock = some g) (hle : dx.length ≤ dy.length) :
    ∃ cap, x = .slice (some ⟨g, 0, none⟩) dx.length cap ∧ y = .slice (some ⟨g, 0, none⟩) dy.length cap ∧ dx = dy.take dx.length := by
  rcases hx.2 with ⟨rfl, _⟩ | ⟨g1, c1, cur1, rfl, hb1, hg1, p1, p2, p3, p4⟩
  · cases h1
  rcases hy.2 with ⟨rfl, _⟩ | ⟨g2, c2, cur2, rfl, hb2, hg2, q1, q2, q3, q4⟩
  · cases h2
  simp only [Value.ownBlock, Option.some.injEq] at h1 h2
  subst h1 h2
  rw [hg1] at hg2
  simp only [Option.some.injEq, Obj.cells.injEq] at hg2
  obtain ⟨rfl, _, _⟩ := hg2
  have hcc : c1 = c2 := by omega
  subst hcc
  refine ⟨c1, rfl, rfl, ?_⟩
  have h5 : dx.map B = (dy.map B).take dx.length := by
    rw [← p4, ← q4, List.take_take]; congr 1; omega
  have hinj : ∀ a b : UInt8, B a = B b → a = b := fun a b h => by
    simp only [Value.int.injEq, true_and] at h
    exact UInt8.toNat.inj (by omega)
  rw [← List.map_take] at h5
  exact List.map_inj_right hinj |>.1 h5

def Bl (F G : Nat → Value) (k b : Nat) : Prop := (F k).ownBlock = some b ∨ (G k).ownBlock = some b
def upd {α : Type} (f : Nat → α) (k : Nat) (x : α) : Nat → α := fun j => if j = k then x else f j
theorem upd_same {α : Type} (f : Nat → α) (k : Nat) (x : α) : upd f k x k = x := by simp [upd]
theorem upd_other {α : Type} (f : Nat → α) {k j : Nat} (x : α) (h : j ≠ k) : upd f k x j = f j := by simp [upd, h]

/-- Two families of rows; the blocks of one number are no blocks of another. -/
structure Two (base : Nat) (W : World) (N : Nat) (F : Nat → Value) (D : Nat → List UInt8) (G : Nat → Value) (E : Nat → List UInt8) : Prop where
  f : ∀ k, k < N → OwnB base W (F k) (D k)
  g : ∀ k, k < N → OwnB base W (G k) (E k)
  le : ∀ k, k < N → (D k).length ≤ (E k).length
  sep : ∀ j k b, j < N → k < N → Bl F G j b → Bl F G k b → j = k

section
variable {base : Nat} {W W' : World} {N : Nat} {F : Nat → Value} {D : Nat → List UInt8} {G : Nat → Value} {E : Nat → List UInt8}
theorem Two.lt (h : Two base W N F D G E) {k b : Nat} (hk : k < N) (hb : Bl F G k b) : b < W.heap.size := by
  rcases hb with hb | hb
  · exact (World.ownsRow.lt (h.f k hk) b hb).2
  · exact (World.ownsRow.lt (h.g k hk) b hb).2
theorem Two.below (h : Two base W N F D G E) {B : Nat} (hb : Below B W W') (hB : W.heap.size ≤ B) : Two base W' N F D G E :=
  ⟨fun k hk => (h.f k hk).below hb hB, fun k hk => (h.g k hk).below hb hB, h.le, h.sep⟩
/-- Another block is turned. -/
theorem Two.kept (h : Two base W N F D G E) {r : Nat} (hg : W.grownBy W' (some r)) (hr : ∀ k, k < N → ¬ Bl F G k r) : Two base W' N F D G E :=
  ⟨fun k hk => (h.f k hk).kept hg (.inr fun e => hr k hk (.inl e)), fun k hk => (h.g k hk).kept hg (.inr fun e => hr k hk (.inr e)), h.le, h.sep⟩
/-- A new row in the place of G k. -/
theorem Two.put (h : Two base W N F D G E) {k : Nat} (hk : k < N) {y y' : Value} {dy l : List UInt8} (hy : OwnB base W y dy) (hyb : ∀ b, y.ownBlock = some b → Bl F G k b) (hle : (D k).length ≤ dy.length) (hy' : OwnB base W' y' (dy ++ l))
    (hat : (∃ g n m cap, y = .slice (some ⟨g, 0, none⟩) n cap ∧ y' = .slice (some ⟨g, 0, none⟩) m cap ∧ n ≤ m ∧ W.grownBy W' (some g)) ∨ (W.grownBy W' none ∧ y'.ownBlock = some W.heap.size)) :
    Two base W' N F D (upd G k y') (upd E k (dy ++ l)) := by
  have hbl : ∀ j b, j < N → Bl F (upd G k y') j b → Bl F G j b ∨ (j = k ∧ y'.ownBlock = some b) := by
    intro j b hj hb
    by_cases hjk : j = k
    · subst hjk
      rcases hb with hb | hb
      · exact .inl (.inl hb)
      · rw [upd_same] at hb; exact .inr ⟨rfl, hb⟩
    · rcases hb with hb | hb
      · exact .inl (.inl hb)
      · rw [upd_other _ _ hjk] at hb; exact .inl (.inr hb)
  rcases hat with ⟨g, n, m, cap, rfl, rfl, hnm, hg⟩ | ⟨hg, hnew⟩
  · have hgk : Bl F G k g := hyb g rfl
    have hoth : ∀ j, j < N → j ≠ k → ¬ Bl F G j g := fun j hj hjk hb => hjk (h.sep j k g hj hk hb hgk)
    have hfk : OwnB base W' (F k) (D k) := by
      by_cases hfb : (F k).ownBlock = some g
      · obtain ⟨c, hx, hyv, hd⟩ := (h.f k hk).same_block hy hfb rfl hle
        simp only [Value.slice.injEq, true_and] at hyv
        obtain ⟨rfl, rfl⟩ := hyv
        rw [hx]
        have h1 := hy'.short (D k).length (by rw [List.length_append]; omega)
        rw [List.take_append_of_le_length hle, ← hd] at h1
        exact h1
      · exact (h.f k hk).kept hg (.inr hfb)
    refine ⟨fun j hj => ?_, fun j hj => ?_, fun j hj => ?_, fun i j b hi hj hbi hbj => ?_⟩
    · by_cases hjk : j = k
      · subst hjk; exact hfk
      · exact (h.f j hj).kept hg (.inr fun e => hoth j hj hjk (.inl e))
    · by_cases hjk : j = k
      · subst hjk; rw [upd_same, upd_same]; exact hy'
      · rw [upd_other _ _ hjk, upd_other _ _ hjk]; exact (h.g j hj).kept hg (.inr fun e => hoth j hj hjk (.inr e))
    · by_cases hjk : j = k
      · subst hjk; rw [upd_same, List.length_append]; omega
      · rw [upd_other _ _ hjk]; exact h.le j hj
    · have key : ∀ i, i < N → Bl F (upd G k (.slice (some ⟨g, 0, none⟩) m cap)) i b → Bl F G i b := by
        intro i hi hb
        rcases hbl i b hi hb with h1 | ⟨rfl, h1⟩
        · exact h1
        · simp only [Value.ownBlock, Option.some.injEq] at h1; subst h1; exact hgk
      exact h.sep i j b hi hj (key i hi hbi) (key j hj hbj)
  · refine ⟨fun j hj => (h.f j hj).kept hg (by cases (F j).ownBlock <;> simp), fun j hj => ?_, fun j hj => ?_, fun i j b hi hj hbi hbj => ?_⟩
    · by_cases hjk : j = k
      · subst hjk; rw [upd_same, upd_same]; exact hy'
      · rw [upd_other _ _ hjk, upd_other _ _ hjk]; exact (h.g j hj).kept hg (by cases (G j).ownBlock <;> simp)
    · by_cases hjk : j = k
      · subst hjk; rw [upd_same, List.length_append]; omega
      · rw [upd_other _ _ hjk]; exact h.le j hj
    · rcases hbl i b hi hbi with h1 | ⟨rfl, h1⟩
      · rcases hbl j b hj hbj with h2 | ⟨rfl, h2⟩
        · exact h.sep i j b hi hj h1 h2
        · rw [hnew] at h2; simp only [Option.some.injEq] at h2; have := h.lt hi h1; omega
      · rcases hbl j b hj hbj with h2 | ⟨rfl, h2⟩
        · rw [hnew] at h1; simp only [Option.some.injEq] at h1; have := h.lt hj h2; omega
        · rfl

/-- A byte is written. -/
theorem OwnB.set {base : Nat} {W : World} {g n cap : Nat} {l : List UInt8} (h : OwnB base W (.slice (some ⟨g, 0, none⟩) n cap) l) (i : Nat) (hi : i < l.length) (x : UInt8) :
    OwnB base (W.setCell ⟨g, i, none⟩ (B x)) (.slice (some ⟨g, 0, none⟩) n cap) (l.set i x) := by
  refine ⟨by simp, ?_⟩
  rcases h.2 with ⟨he, _⟩ | ⟨g', cap', cur, he, hb, hg, h1, h2, h3, h4⟩
  · cases he
  · simp only [Value.slice.injEq, Option.some.injEq, Addr.mk.injEq, and_true] at he
    obtain ⟨rfl, rfl, rfl⟩ := he
    refine .inr ⟨g, cap, cur.setIfInBounds i (B x), by simp, hb, ?_, by simpa using h1, h2, by simpa using h3, ?_⟩
    · have := Blk.set (w := W) (b := g) (t := 5) (i := i) (cs := cur) hg (B x)
      exact this
    · rw [List.length_set, List.map_set, ← h4, Array.toList_setIfInBounds, List.take_set]
theorem Two.set (h : Two base W N F D F D) {k : Nat} (hk : k < N) {g n cap : Nat} (hv : F k = .slice (some ⟨g, 0, none⟩) n cap) (i : Nat) (hi : i < (D k).length) (x : UInt8) :
    Two base (W.setCell ⟨g, i, none⟩ (B x)) N F (upd D k ((D k).set i x)) F (upd D k ((D k).set i x)) := by
  have hg := grownBy_setCell W g i (B x)
  have hgk : Bl F F k g := .inl (by rw [hv]; rfl)
  have key : ∀ j, j < N → OwnB base (W.setCell ⟨g, i, none⟩ (B x)) (F j) (upd D k ((D k).set i x) j) := by
    intro j hj
    by_cases hjk : j = k
    · subst hjk; rw [upd_same, hv]; have := h.f j hj; rw [hv] at this; exact this.set i hi x
    · rw [upd_other _ _ hjk]; exact (h.f j hj).kept hg (.inr fun e => hjk (h.sep j k g hj hk (.inl e) hgk))
  exact ⟨key, key, fun j hj => Nat.le_refl _, h.sep⟩
end
end Go.Proofs.YtkdlimigepkepaaGreat
