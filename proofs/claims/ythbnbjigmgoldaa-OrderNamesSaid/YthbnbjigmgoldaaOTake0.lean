/- Package order: what take's loops keep in memory. No conditions. -/
import Derived.Test.YthbnbjigmgoldaaOHeap2
import Derived.Test.YthbnbjigmgoldaaOTakeS
import Derived.Laws.MakeOwn
namespace Go.Proofs.Ythbnbjigmgoldaa
open Go.RowKit
set_option linter.unusedVariables false

def arrF (n : Nat) (f : Nat → Value) : Array Value := ((List.range n).map f).toArray
theorem arrF_size (n : Nat) (f : Nat → Value) : (arrF n f).size = n := by simp [arrF]
theorem arrF_at {n i : Nat} (f : Nat → Value) (h : i < n) : (arrF n f)[i]? = some (f i) := by simp [arrF, h]
theorem arrF_set (n i : Nat) (f : Nat → Value) (x : Value) : (arrF n f).setIfInBounds i x = arrF n (fun k => if k = i then x else f k) := by
  apply Array.ext_getElem?
  intro k
  by_cases hk : k < n
  · rw [arrF_at _ hk]
    by_cases h : k = i
    · subst h; rw [Array.getElem?_setIfInBounds_self_of_lt (by rw [arrF_size]; exact hk)]; simp
    · rw [Array.getElem?_setIfInBounds_ne (fun e => h e.symm), arrF_at _ hk, if_neg h]
  · rw [Array.getElem?_eq_none (by simp [arrF_size]; omega), Array.getElem?_eq_none (by simp [arrF_size]; omega)]
theorem arrF_congr {n : Nat} {f g : Nat → Value} (h : ∀ i, i < n → f i = g i) : arrF n f = arrF n g := by
  unfold arrF
  congr 1
  exact List.map_congr_left fun i hi => h i (List.mem_range.1 hi)
theorem made_one (z : Value) (n : Nat) : madeCells #[z] (n * 1) = arrF n fun _ => z := by
  apply Array.ext_getElem?
  intro k
  by_cases hk : k < n
  · rw [arrF_at _ hk]; simp [madeCells, hk, Nat.mod_one]
  · rw [Array.getElem?_eq_none (by simp [madeCells]; omega), Array.getElem?_eq_none (by simp [arrF_size]; omega)]
theorem Try.infoInts : (Try.prog.info? 68).map (fun i => (i.zero, i.size, i.bytes)) = some (some (.slice none 0 0), 1, 24) := by kernel_rfl
theorem make_ints (n : Nat) (hn : n ≤ 2 ^ 38) (w : World) : (Instr.makeSlice 68 (.int .i64 n) (.int .i64 n)).run Try.prog w = .ok (.slice (some ⟨w.heap.size, 0, none⟩) n n) (w.alloc (.cells (arrF n fun _ => Z 0) 3)) := by
  obtain ⟨i0, hi, hz0, hz1, hz2⟩ := info_parts Try.infoI
  have h := run_make (P := Try.prog) w 68 3 i0 _ Try.underlying68 hi hz0 .i64 .i64 n n (by omega) (Int.le_refl _) (by rw [hz2]; omega) (by omega)
  rw [hz1, Int.toNat_natCast] at h
  rw [h]
  have := made_one (.int .i64 0) n
  simp only [Value.cells] at this ⊢
  rw [this]; rfl
theorem make_intss (n : Nat) (hn : n ≤ 2 ^ 38) (w : World) : (Instr.makeSlice 86 (.int .i64 n) (.int .i64 n)).run Try.prog w = .ok (.slice (some ⟨w.heap.size, 0, none⟩) n n) (w.alloc (.cells (arrF n fun _ => .slice none 0 0) 68)) := by
  obtain ⟨i0, hi, hz0, hz1, hz2⟩ := info_parts Try.infoInts
  have h := run_make (P := Try.prog) w 86 68 i0 _ Try.underlying86 hi hz0 .i64 .i64 n n (by omega) (Int.le_refl _) (by rw [hz2]; omega) (by omega)
  rw [hz1, Int.toNat_natCast] at h
  rw [h]
  have := made_one (.slice none 0 0) n
  simp only [Value.cells] at this ⊢
  rw [this]

def Away (v u : Value) : Prop := v.ownBlock = none ∨ v.ownBlock ≠ u.ownBlock
theorem Away.nil (v : Value) (n c : Nat) : Away v (.slice none n c) := by
  unfold Away; cases v.ownBlock <;> simp [Value.ownBlock]
theorem Away.of_nil (v : Value) (n c : Nat) : Away (.slice none n c) v := .inl rfl
theorem Away.symm {v u : Value} (h : Away v u) : Away u v := by
  unfold Away at *
  rcases h with h | h
  · rw [h]; cases u.ownBlock <;> simp
  · exact .inr fun e => h e.symm
/-- A row that has been appended to still lies away. -/
theorem Away.grown {W : World} {base e z m : Nat} {xs : List Value} {v u : Value} {g n c : Nat} (h : Away v u) (hv : W.ownsRow base e z v m xs) (hat : u.ownBlock = some g ∨ W.heap.size ≤ g) : Away v (.slice (some ⟨g, 0, none⟩) n c) := by
  unfold Away at *
  rcases hat with ha | ha
  · rcases h with h | h
    · exact .inl h
    · exact .inr (by rw [ha] at h; exact h)
  · cases hb : v.ownBlock with
    | none => exact .inl rfl
    | some r =>
      refine .inr fun he => ?_
      simp [Value.ownBlock] at he
      have := ownsRow_lt hv hb
      omega

/-- take's memory: the counts, the rows of those that need each, the heap, the list. -/
structure Tk (base Bm R n : Nat) (M : Nat → Nat) (V : Nat → Value) (L : Nat → List Nat) (hv : Value) (hs : List Nat) (lv : Value) (l : List Nat) (B0 : Nat) (w W : World) : Prop where
  mis : Blk W Bm (arrF n fun i => Z (M i)) 3
  out : Blk W (Bm + 1) (arrF n V) 68
  rows : ∀ j, j < n → OwnN base W (V j) (L j)
  dist : ∀ j k, j < n → k < n → j ≠ k → Away (V j) (V k)
  box : Blk W R #[hv] 89
  heap : OwnN base W hv hs
  hapt : ∀ j, j < n → Away (V j) hv
  lst : OwnN base W lv l
  lapt : Away lv hv
  vapt : ∀ j, j < n → Away (V j) lv
  bel : Below B0 w W
  big : base ≤ W.heap.size
  b1 : Bm + 1 < base
  b2 : R < base
  b3 : B0 ≤ Bm
  b4 : Bm + 1 < R
section
variable {base Bm R n : Nat} {M : Nat → Nat} {V : Nat → Value} {L : Nat → List Nat} {hv : Value} {hs : List Nat} {lv : Value} {l : List Nat} {B0 : Nat} {w W W' : World}
theorem OwnN.ne {base b : Nat} {W : World} {v : Value} {l : List Nat} (h : OwnN base W v l) (hb : b < base) : v.ownBlock = none ∨ v.ownBlock ≠ some b := by
  cases hv : v.ownBlock with
  | none => exact .inl rfl
  | some r => exact .inr fun e => by cases e; have := (ownsRow_cells h hv).1; omega
theorem Tk.old (h : Tk base Bm R n M V L hv hs lv l B0 w W) (hb : Below W.heap.size W W') : Tk base Bm R n M V L hv hs lv l B0 w W' where
  mis := h.mis.below hb h.mis.lt
  out := h.out.below hb h.out.lt
  rows := fun j hj => (h.rows j hj).old hb (Nat.le_refl _)
  dist := h.dist
  box := h.box.below hb h.box.lt
  heap := h.heap.old hb (Nat.le_refl _)
  hapt := h.hapt
  lst := h.lst.old hb (Nat.le_refl _)
  lapt := h.lapt
  vapt := h.vapt
  bel := h.bel.trans (hb.mono (by have := h.big; have := h.b1; have := h.b3; omega))
  big := Nat.le_trans h.big hb.size
  b1 := h.b1
  b2 := h.b2
  b3 := h.b3
  b4 := h.b4
/-- A count is stored. -/
theorem Tk.setM (h : Tk base Bm R n M V L hv hs lv l B0 w W) (i x : Nat) : Tk base Bm R n (fun k => if k = i then x else M k) V L hv hs lv l B0 w (W.setCell ⟨Bm, i, none⟩ (Z x)) := by
  have hg := grownBy_setCell W Bm i (Z x)
  refine ⟨?_, h.out.other (by omega) _, fun j hj => (h.rows j hj).kept hg ((h.rows j hj).ne (by have := h.b1; omega)), h.dist, h.box.other (by have := h.b4; omega) _, h.heap.kept hg (h.heap.ne (by have := h.b1; omega)), h.hapt, h.lst.kept hg (h.lst.ne (by have := h.b1; omega)), h.lapt, h.vapt, h.bel.setCell (p := ⟨Bm, i, none⟩) h.b3 _, Nat.le_trans h.big hg.size, h.b1, h.b2, h.b3, h.b4⟩
  have := h.mis.set (i := i) (Z x)
  rw [arrF_set] at this
  rwa [show (fun k => if k = i then Z x else Z (M k)) = fun k => Z (if k = i then x else M k) by funext k; split <;> rfl] at this
/-- The heap has been turned. -/
theorem Tk.turn (h : Tk base Bm R n M V L hv hs lv l B0 w W) {hv' : Value} {hs' : List Nat} (ht : Turns W W' (fun b => b = R ∨ hv.ownBlock = some b)) (hb : Blk W' R #[hv'] 89) (ho : OwnN base W' hv' hs')
    (ha : ∀ (v : Value) (l' : List Nat), OwnN base W v l' → Away v hv → Away v hv') : Tk base Bm R n M V L hv' hs' lv l B0 w W' := by
  have hne : ∀ b, b < base → b ≠ R → ¬ (b = R ∨ hv.ownBlock = some b) := fun b h1 h2 h3 => h3.elim h2 fun e => by have := (ownsRow_cells h.heap e).1; omega
  have hrow : ∀ (v : Value) (l' : List Nat), OwnN base W v l' → Away v hv → OwnN base W' v l' := fun v l' h1 h2 => h1.turns ht fun r hr => by
    rintro (rfl | e)
    · have := (ownsRow_cells h1 hr).1; have := h.b2; omega
    · rcases h2 with h2 | h2
      · rw [h2] at hr; cases hr
      · exact h2 (by rw [hr, e])
  exact ⟨h.mis.turns ht (hne _ (by have := h.b1; omega) (by have := h.b4; omega)), h.out.turns ht (hne _ h.b1 (by have := h.b4; omega)), fun j hj => hrow _ _ (h.rows j hj) (h.hapt j hj), h.dist, hb, ho, fun j hj => ha _ _ (h.rows j hj) (h.hapt j hj),
    hrow _ _ h.lst h.lapt, ha _ _ h.lst h.lapt, h.vapt, h.bel.trans (ht.below (by have := h.big; have := h.b1; have := h.b3; omega) (fun i hi => by
      rcases hi with rfl | e
      · have := h.b4; have := h.b3; omega
      · have := (ownsRow_cells h.heap e).1; have := h.b1; have := h.b3; omega)), Nat.le_trans h.big ht.size, h.b1, h.b2, h.b3, h.b4⟩
/-- A number goes to the list's end. -/
theorem Tk.push (h : Tk base Bm R n M V L hv hs lv l B0 w W) {g m c : Nat} {l' : List Nat} (hg : W.grownBy W' lv.ownBlock) (ho : OwnN base W' (.slice (some ⟨g, 0, none⟩) m c) l') (hat : lv.ownBlock = some g ∨ g = W.heap.size) :
    Tk base Bm R n M V L hv hs (.slice (some ⟨g, 0, none⟩) m c) l' B0 w W' := by
  have hb : ∀ r, lv.ownBlock = some r → base ≤ r := fun r hr => (ownsRow_cells h.lst hr).1
  have hat' : lv.ownBlock = some g ∨ W.heap.size ≤ g := hat.elim .inl fun e => .inr (Nat.le_of_eq e.symm)
  exact ⟨h.mis.kept hg (fun e => by have := hb _ e.symm; have := h.b1; omega), h.out.kept hg (fun e => by have := hb _ e.symm; have := h.b1; omega), fun j hj => (h.rows j hj).kept hg (h.vapt j hj), h.dist, h.box.kept hg (fun e => by have := hb _ e.symm; have := h.b2; omega),
    h.heap.kept hg h.lapt.symm, h.hapt, ho, (Away.grown h.lapt.symm h.heap hat').symm, fun j hj => Away.grown (h.vapt j hj) (h.rows j hj) hat', h.bel.trans (below_grown hg (fun r e => by have := hb r e; have := h.b1; have := h.b3; omega) (by have := h.big; have := h.b1; have := h.b3; omega)), Nat.le_trans h.big hg.size, h.b1, h.b2, h.b3, h.b4⟩
/-- A number goes to the end of a row. -/
theorem Tk.need (h : Tk base Bm R n M V L hv hs lv l B0 w W) {j g m c : Nat} {l' : List Nat} (hj : j < n) (hg : W.grownBy W' (V j).ownBlock) (ho : OwnN base W' (.slice (some ⟨g, 0, none⟩) m c) l') (hat : (V j).ownBlock = some g ∨ g = W.heap.size) :
    Tk base Bm R n M (fun k => if k = j then .slice (some ⟨g, 0, none⟩) m c else V k) (fun k => if k = j then l' else L k) hv hs lv l B0 w (W'.setCell ⟨Bm + 1, j, none⟩ (.slice (some ⟨g, 0, none⟩) m c)) := by
  have hrj := h.rows j hj
  have hb : ∀ r, (V j).ownBlock = some r → base ≤ r := fun r hr => (ownsRow_cells hrj hr).1
  have hat' : (V j).ownBlock = some g ∨ W.heap.size ≤ g := hat.elim .inl fun e => .inr (Nat.le_of_eq e.symm)
  have hg2 := grownBy_setCell W' (Bm + 1) j (.slice (some ⟨g, 0, none⟩) m c)
  have hk : ∀ (v : Value) (l' : List Nat), OwnN base W v l' → Away v (V j) → OwnN base (W'.setCell ⟨Bm + 1, j, none⟩ (.slice (some ⟨g, 0, none⟩) m c)) v l' := fun v l' h1 h2 => (h1.kept hg h2).kept hg2 (h1.ne h.b1)
  refine ⟨(h.mis.kept hg (fun e => by have := hb _ e.symm; have := h.b1; omega)).other (by omega) _, ?_, ?_, ?_, (h.box.kept hg (fun e => by have := hb _ e.symm; have := h.b2; omega)).other (by have := h.b4; omega) _, hk _ _ h.heap (h.hapt j hj).symm, ?_, hk _ _ h.lst (h.vapt j hj).symm, h.lapt, ?_,
    (h.bel.trans (below_grown hg (fun r e => by have := hb r e; have := h.b1; have := h.b3; omega) (by have := h.big; have := h.b1; have := h.b3; omega))).setCell (p := ⟨Bm + 1, j, none⟩) (show B0 ≤ Bm + 1 by have := h.b3; omega) _, Nat.le_trans h.big (Nat.le_trans hg.size hg2.size), h.b1, h.b2, h.b3, h.b4⟩
  · have := (h.out.kept hg (fun e => by have := hb _ e.symm; have := h.b1; omega)).set (i := j) (.slice (some ⟨g, 0, none⟩) m c)
    rwa [arrF_set] at this
  · intro k hkn
    by_cases e : k = j
    · subst e; simp only [if_true]; exact ho.kept hg2 (ho.ne h.b1)
    · simp only [if_neg e]; exact hk _ _ (h.rows k hkn) (h.dist k j hkn hj e)
  · intro a b ha hb' hab
    by_cases e1 : a = j
    · have e2 : ¬ b = j := fun e => hab (e1.trans e.symm)
      simp only [if_pos e1, if_neg e2]
      exact (Away.grown (h.dist b j hb' hj e2) (h.rows b hb') hat').symm
    · by_cases e2 : b = j
      · simp only [if_neg e1, if_pos e2]
        exact Away.grown (h.dist a j ha hj e1) (h.rows a ha) hat'
      · simp only [if_neg e1, if_neg e2]
        exact h.dist a b ha hb' hab
  · intro k hkn
    by_cases e : k = j
    · simp only [if_pos e]; exact (Away.grown (h.hapt j hj).symm h.heap hat').symm
    · simp only [if_neg e]; exact h.hapt k hkn
  · intro k hkn
    by_cases e : k = j
    · simp only [if_pos e]; exact (Away.grown (h.vapt j hj).symm h.lst hat').symm
    · simp only [if_neg e]; exact h.vapt k hkn
end

theorem Tk.congrM {base Bm R n : Nat} {M M' : Nat → Nat} {V : Nat → Value} {L : Nat → List Nat} {hv : Value} {hs : List Nat} {lv : Value} {l : List Nat} {B0 : Nat} {w W : World} (h : Tk base Bm R n M V L hv hs lv l B0 w W) (hM : ∀ j, j < n → M j = M' j) : Tk base Bm R n M' V L hv hs lv l B0 w W :=
  { h with mis := by have := h.mis; rwa [arrF_congr (fun i hi => by rw [hM i hi])] at this }
theorem OwnN.pos {base : Nat} {w : World} {v : Value} {l : List Nat} (h : OwnN base w v l) (hl : 0 < l.length) : ∃ g c, v = .slice (some ⟨g, 0, none⟩) l.length c ∧ l.length ≤ c ∧ c ≤ maxLen := by
  rcases h.2 with ⟨_, h0⟩ | ⟨g, cap, cur, rfl, _, _, h1, h2, _⟩
  · omega
  · exact ⟨g, cap, rfl, h1, h2⟩
theorem OwnN.cell {base g n c : Nat} {w : World} {l : List Nat} (h : OwnN base w (.slice (some ⟨g, 0, none⟩) n c) l) {q : Nat} (hq : q < l.length) : w.cell? ⟨g, q, none⟩ = some (Z (fn l q)) := by
  obtain ⟨b, o, cap', he, _, _, _, hc⟩ := Nats.pos h.nats (by omega)
  simp only [Value.slice.injEq, Option.some.injEq, Addr.mk.injEq, and_true] at he
  obtain ⟨⟨rfl, rfl⟩, _, rfl⟩ := he
  have := hc q hq
  rwa [Nat.zero_add] at this
theorem take_fn (l : List Nat) (q : Nat) (hq : q < l.length) : l.take (q + 1) = l.take q ++ [fn l q] := by
  rw [List.take_succ_eq_append_getElem hq]; unfold fn; rw [List.getElem?_eq_getElem hq]; rfl
theorem fn_mem {l : List Nat} {q : Nat} (hq : q < l.length) : fn l q ∈ l := by
  unfold fn; rw [List.getElem?_eq_getElem hq]; exact List.getElem_mem hq
theorem fn_not_mem_take {l : List Nat} (hn : l.Nodup) {q : Nat} (hq : q < l.length) : fn l q ∉ l.take q := by
  intro h
  obtain ⟨j, hj, he⟩ := List.mem_take_iff_getElem.1 h
  have h1 := List.Nodup.idxOf_getElem hn j (by omega)
  have h2 := List.Nodup.idxOf_getElem hn q hq
  have e : fn l q = l[q] := by unfold fn; rw [List.getElem?_eq_getElem hq]; rfl
  rw [e] at he
  rw [he, h2] at h1
  omega
end Go.Proofs.Ythbnbjigmgoldaa
