/- Package order: Refs. No conditions beyond the readings of the arguments. -/
import Derived.Test.YthbnbjigmgoldaaOWalk
namespace Go.Proofs.Ythbnbjigmgoldaa
open Go.RowKit
set_option linter.unusedVariables false
attribute [local go_sem] Oper.semAt_some

theorem not_box_map {w : World} {k b m : Nat} {f : Lit → Option Value} (h : MapIs w k b m f) (cs : Array Value) (t : TypeId) : ¬ Blk w b cs t := by
  obtain ⟨D, ⟨es, clock, hh, _⟩, _⟩ := h
  intro hb; unfold Blk at hb; rw [hh] at hb; cases hb
theorem not_box_other {w : World} {b t t' : Nat} {cs : Array Value} (h : Blk w b cs t) (hne : t ≠ t') (cs' : Array Value) : ¬ Blk w b cs' t' := by
  intro hb; unfold Blk at h hb; rw [h] at hb; cases hb; exact hne rfl
theorem not_box_row {w : World} {base e size n t r : Nat} {v : Value} {xs : List Value} (h : w.ownsRow base e size v n xs) (hr : v.ownBlock = some r) (hne : e ≠ t) (cs : Array Value) : ¬ Blk w r cs t := by
  rcases h.2 with ⟨rfl, _⟩ | ⟨g, cap, cur, rfl, hb, hg, _⟩
  · simp [Value.ownBlock] at hr
  · simp [Value.ownBlock] at hr
    subst hr
    intro hb; unfold Blk at hb; rw [hg] at hb; cases hb; exact hne rfl
theorem KpE.grown {K : Nat} {A C : World} {row : Option Nat} (hg : A.grownBy C row) (hK : K ≤ A.heap.size) (hr : ∀ r, row = some r → K ≤ r ∧ ∀ cs, ¬ Blk A r cs 45) : KpE K A C :=
  ⟨below_grown hg (fun r h => (hr r h).1) hK, fun r cs hb => hb.kept hg (fun h => (hr r h.symm).2 cs hb)⟩
theorem KpE.trans {K : Nat} {A B C : World} (h1 : KpE K A B) (h2 : KpE K B C) : KpE K A C := ⟨h1.1.trans h2.1, fun r cs hb => h2.2 r cs (h1.2 r cs hb)⟩
theorem KpE.refl (K : Nat) (A : World) : KpE K A A := ⟨Below.refl _ _, fun _ _ h => h⟩

/-- Between two rounds: the list's box, the list, the set's box, the set. -/
def RefI (B0 : Nat) (w : World) (pre : List Xv) (W : World) : Prop :=
  ∃ lv m, Blk W (B0 + 1) #[lv] 29 ∧ OwnS (B0 + 5) W lv (dedup (refL (pre.map Xv.key))) ∧ Blk W (B0 + 3) #[.map (some (B0 + 2))] 63 ∧ MapIs W 9 (B0 + 2) m (fS (inSet (dedup (refL (pre.map Xv.key))))) ∧ m ≤ pre.length ∧ Below B0 w W ∧ B0 + 5 ≤ W.heap.size

theorem RefI.kept {B0 : Nat} {w W W' : World} {pre : List Xv} {row : Option Nat} (h : RefI B0 w pre W) (hg : W.grownBy W' row) (hr : ∀ k, row = some k → B0 + 5 ≤ k ∧ ∀ o, W.heap[k]? = some o → o.isCells = false) : RefI B0 w pre W' := by
  obtain ⟨lv, m, h1, h2, h3, h4, h5, h6, h7⟩ := h
  refine ⟨lv, m, h1.kept hg (fun e => by have := (hr _ e.symm).1; omega), h2.kept hg ?_, h3.kept hg (fun e => by have := (hr _ e.symm).1; omega), h4.kept hg (fun e => by have := (hr _ e.symm).1; omega), h5, h6.trans (below_grown hg (fun k e => by have := (hr k e).1; omega) (by omega)), Nat.le_trans h7 hg.size⟩
  cases hv : lv.ownBlock with
  | none => exact .inl rfl
  | some r =>
    refine .inr fun he => ?_
    obtain ⟨o, ho, hc⟩ := (ownsRow_cells h2.1 hv).2
    have := (hr r he.symm).2 o ho
    rw [hc] at this; cases this

set_option maxRecDepth 100000 in
set_option maxHeartbeats 2000000 in
theorem refs_any (K : Nat) (e : Ex) (x : Xv) (w : World) (h : ExX K w e x) (hK : K ≤ w.heap.size) (hbig : e.parts ≤ 2 ^ 39) :
    Calls Try.prog 19 #[x.agg] w fun en w' => ∃ v, en = .returned v ∧ OwnS w.heap.size w' v (refs e) ∧ Below w.heap.size w w' := by
  have hmm := @run_makeMap Try.prog
  obtain ⟨B0, hB0⟩ : ∃ B0, w.heap.size = B0 := ⟨_, rfl⟩
  obtain ⟨W5, hW5⟩ : ∃ W5, ((((w.alloc (.cells x.cells 45)).alloc (.cells #[.slice none 0 0] 29)).alloc (.map #[] 0)).alloc (.cells #[.map (some (w.heap.size + 1 + 1))] 63)).alloc (.cells x.cells 45) = W5 := ⟨_, rfl⟩
  have hsz : W5.heap.size = B0 + 5 := by rw [← hW5, ← hB0]; simp
  have hbel : Below B0 w W5 := by rw [← hW5, ← hB0]; exact (((((Below.refl _ w).alloc (Nat.le_refl _) _).alloc (by simp) _).alloc (by simp; omega) _).alloc (by simp; omega) _).alloc (by simp; omega) _
  have hq1 : Blk W5 (B0 + 1) #[.slice none 0 0] 29 := by
    rw [← hW5, ← hB0]
    have := Blk.new (w.alloc (.cells x.cells 45)) #[.slice none 0 0] 29
    rw [World.size_alloc] at this
    exact ((this.alloc _).alloc _).alloc _
  have hm2 : MapIs W5 9 (B0 + 2) 0 (fS (inSet [])) := by
    have := MapIs.made ((w.alloc (.cells x.cells 45)).alloc (.cells #[.slice none 0 0] 29)) 9
    rw [World.size_alloc, World.size_alloc, fS_none, inSet_nil] at this
    rw [← hW5, ← hB0]
    exact (this.alloc _).alloc _
  have hq3 : Blk W5 (B0 + 3) #[.map (some (B0 + 2))] 63 := by
    rw [← hW5, ← hB0]
    have := Blk.new (((w.alloc (.cells x.cells 45)).alloc (.cells #[.slice none 0 0] 29)).alloc (.map #[] 0)) #[.map (some (w.heap.size + 2))] 63
    rw [World.size_alloc, World.size_alloc, World.size_alloc] at this
    exact this.alloc _
  have hq4 : Blk W5 (B0 + 4) x.cells 45 := by
    rw [← hW5, ← hB0]
    have := Blk.new ((((w.alloc (.cells x.cells 45)).alloc (.cells #[.slice none 0 0] 29)).alloc (.map #[] 0)).alloc (.cells #[.map (some (w.heap.size + 1 + 1))] 63)) x.cells 45
    rw [World.size_alloc, World.size_alloc, World.size_alloc, World.size_alloc] at this
    exact this
  have HB := Lib.hid hB0
  rw [hB0] at hW5
  simp only [Nat.add_assoc, Nat.reduceAdd] at hW5
  have HW := Lib.hid hW5
  rw [hB0] at hK ⊢
  clear hB0 hW5
  refine callsIn_wide.1 (callsIn_of_wp_marks (n := 5) Try.func19 rfl trivial ?_)
  simp only [Try.ntmps19, List.size_toArray, List.length_cons, List.length_nil, Nat.reduceAdd, Nat.reduceSub, Array.replicate_succ, Array.replicate_zero, List.push_toArray, List.append_toArray, List.nil_append, List.cons_append]
  gi_wp2_with fail
  refine ⟨trivial, callsIn_wide.2 ((parts_any x _).mono ?_)⟩
  rintro en w' ⟨rfl, rfl⟩
  gi_wp2_with fail
  simp only [HB.out, Nat.add_assoc, Nat.reduceAdd]
  rw [HW.out]
  clear hmm
  refine range_law (gf := 47) (fi := #[]) (lb := #[.pointer (some ⟨B0 + 4, 0, none⟩)]) rfl (enters_of Try.func47 (by kernel_rfl) rfl) (parts_iter K (B0 + 4) e x) (fun _ => rfl)
    (fun pre W => RefI B0 w pre W) (fun _ _ _ => False)
    (fun pre x' a1 W => RefI B0 w pre W ∧ x'.nm.length ≤ maxLen ∧ pre.length < e.pre.length ∧ ∃ Bx, B0 + 5 ≤ Bx ∧ Blk W Bx x'.cells 45 ∧
      a1 = { tmps := #[x.agg, .pointer (some ⟨B0, 0, none⟩), .slice none 0 0, .pointer (some ⟨B0 + 1, 0, none⟩), .pointer (some ⟨B0 + 3, 0, none⟩), .pointer (some ⟨Bx, 0, none⟩), .map (some (B0 + 2)), x.agg, .func (.func 47) #[] #[.pointer (some ⟨B0 + 4, 0, none⟩)], x'.agg,
        undef, undef, undef, undef, undef, undef, undef, undef, undef, undef, undef, undef, undef, undef, undef, undef, undef, undef, undef], defers := [] })
    ?hSt ?hI ?hIx ?hA ?hS ?hSp ?hISt ?hIxSt ?hKt ?hKb ?h0 ?hPre ?hassign ?hbody ?hdone ?hstop
  case hSt => exact fun A B _ hg => KeepsFrom.of_grownBy hg (fun j e => by cases e)
  case hI => exact fun s W l o o' hi hle hl ho => hi.kept (grownBy_putObj' W l o') (fun k e => by cases e; exact ⟨by omega, fun o2 h2 => by rw [hl] at h2; cases h2; exact ho⟩)
  case hIx => exact fun c s W l o o' hi _ _ _ => hi
  case hA =>
    rintro s y a1 W l o o' ⟨hi, hx1, hx2, Bx, hBx, hbx, ha⟩ hle hl ho
    refine ⟨hi.kept (grownBy_putObj' W l o') (fun k e => by cases e; exact ⟨by omega, fun o2 h2 => by rw [hl] at h2; cases h2; exact ho⟩), hx1, hx2, Bx, hBx, hbx.kept (grownBy_putObj' W l o') (fun e => ?_), ha⟩
    cases e
    unfold Blk at hbx; rw [hl] at hbx; cases hbx; simp [Obj.isCells] at ho
  case hS => exact fun s W l o o' h _ _ _ => h
  case hSp => exact fun s W l o o' h _ _ _ => h
  case hISt => exact fun s A B hi hg => hi.kept hg (fun k e => by cases e)
  case hIxSt => exact fun c s A B hi _ => hi
  case hKt => exact fun A B C h1 h2 => h1.trans h2
  case hKb =>
    intro W l o o' hle hl ho
    refine KpE.grown (grownBy_putObj' W l o') (by have := (Array.getElem?_eq_some_iff.1 hl).1; omega) (fun r e => ?_)
    cases e
    refine ⟨by omega, fun cs hb => ?_⟩
    unfold Blk at hb; rw [hl] at hb; cases hb; simp [Obj.isCells] at ho
  case h0 =>
    intro o o'
    refine ⟨.slice none 0 0, 0, (hq1.alloc _).alloc _, OwnS.nil _ _, (hq3.alloc _).alloc _, (hm2.alloc _).alloc _, Nat.le_refl _, (hbel.alloc (by omega) o).alloc (by simp; omega) o', by simp; omega⟩
  case hPre =>
    intro o o'
    refine ⟨by simp; omega, (hq4.alloc _).alloc _, h.below ((hbel.alloc (by omega) o).alloc (by simp; omega) o') hK (Nat.le_refl _)⟩
  case hstop => exact fun D c pre W _ _ hi _ => hi.elim
  case hassign =>
    intro i pre y W hi hx hlt
    have hWs : B0 + 5 ≤ W.heap.size := by omega
    dsimp only [Xv.enc]
    gi_wp2
    refine ⟨(KeepsOthers.alloc _ _).from _, KpE.grown (World.grownBy_alloc W _ none) (by omega) (fun r e => by cases e), hi.kept (World.grownBy_alloc W _ none) (fun r e => by cases e), hx.1, hx.2, W.heap.size, by omega, Blk.new W _ _, rfl⟩
  case hbody =>
    rintro i pre y a1 W ⟨hi, hx1, hx2, Bx, hBx, hbx, rfl⟩
    obtain ⟨lv, m, h1, h2, h3, h4, h5, h6, h7⟩ := hi
    obtain ⟨d0, d1, _⟩ := hbx.nine
    obtain ⟨a0, a1⟩ := h1.one
    obtain ⟨s0, s1⟩ := h3.one
    obtain ⟨acc, hacc⟩ : ∃ acc, dedup (refL (pre.map Xv.key)) = acc := ⟨_, rfl⟩
    rw [hacc] at h2 h4
    have hlen : acc.length ≤ pre.length := by
      rw [← hacc]
      refine Nat.le_trans (dedup_length_le _) (Nat.le_trans (refL_length _) ?_)
      simp
    have HACC := Lib.hid hacc
    clear hacc
    by_cases hop : y.op = 5
    · have hop' : (y.op == 5) = true := by rw [hop]; rfl
      have hs1 : Hid (dedup (refL ((pre ++ [y]).map Xv.key)) = addS acc y.nm) := by
        unfold Hid
        rw [List.map_append, show [y].map Xv.key = [(5, y.nm)] by simp [Xv.key, hop], refL_snoc_ref, dedup_snoc, HACC.out]
      have hl : (Instr.lookup 63 (.map (some (B0 + 2))) (S y.nm) false).run Try.prog W = .ok (.bool (acc.contains y.nm)) W := by
        have := h4.look (t := 63) keyS Try.underlying63 (Try.zeroValue4 _) (keyOf_S y.nm hx1)
        rw [this]
        show Result.ok ((inSet acc y.nm).getD (.bool false)) _ = _
        rw [inSet_get]
      obtain ⟨ct, hct⟩ : ∃ ct, acc.contains y.nm = ct := ⟨_, rfl⟩
      rw [hct] at hl
      have HCT := Lib.hid hct
      clear hct hop
      cases ct with
      | true =>
        gi_wp2_with fail
        have he : addS acc y.nm = acc := addS_in (List.contains_iff_mem.1 HCT.out)
        exact ⟨KeepsFrom.refl _ _, KpE.refl _ _, lv, m, h1, by rw [hs1.out, he]; exact h2, h3, by rw [hs1.out, he]; exact h4, by simp; omega, h6, h7⟩
      | false =>
        have he : Hid (addS acc y.nm = acc ++ [y.nm]) := Lib.hid (addS_out (fun h => by have := List.contains_iff_mem.2 h; rw [HCT.out] at this; cases this))
        have hml : m < maxLen := by unfold maxLen; unfold Ex.parts at hbig; omega
        have hl1 : acc.length + 1 ≤ 2 ^ 40 := by unfold Ex.parts at hbig; omega
        have hne : lv.ownBlock = none ∨ lv.ownBlock ≠ some (B0 + 2) := by
          cases hv : lv.ownBlock with
          | none => exact .inl rfl
          | some r => exact .inr fun he => by cases he; have := (ownsRow_cells h2.1 hv).1; omega
        have HNE := Lib.hid hne
        have hbb : ∀ r, lv.ownBlock = some r → B0 + 5 ≤ r := fun r hr => (ownsRow_cells h2.1 hr).1
        have HBB := Lib.hid hbb
        have HM := Lib.hid h4
        have hW5 : B0 + 5 ≤ W.heap.size := h7
        have hBxne : Hid (Bx ≠ B0 + 1 ∧ Bx ≠ B0 + 2 ∧ Bx ≠ B0 + 3) := Lib.hid ⟨by omega, by omega, by omega⟩
        clear h4 hbb hne
        gi_wp2_with (first
          | (gi_at_mapUpdate; refine wpListIn_put_M _ rfl _ _ _ 63 rfl _ keyS Try.underlying63 rfl HM.out hml _ (.string y.nm) rfl (keyOf_S y.nm hx1) (.bool true) rfl ?_; intro w2 hm2' hg2; have p1 := h1.kept hg2 (by simp); have p2 := h2.kept hg2 HNE.out; have p3 := h3.kept hg2 (by simp); have pb := hbx.kept hg2 (by have := hBxne.out; simp; omega); obtain ⟨a0', a1'⟩ := p1.one; have d1' : w2.cell? ⟨Bx, 1, none⟩ = some (S y.nm) := pb.at rfl; have hs2 := hg2.size)
          | (gi_at_builtin; refine wpListIn_append_S rfl (.tmp 23) (.tmp 26) rfl rfl rfl (p2.old ((Below.refl _ _).alloc (Nat.le_refl _) _) (Nat.le_refl _)) ((Blk.new w2 #[S y.nm] _).at rfl) hx1 hl1 (by simp; omega) ?_; intro g1 cap1 w3 hown3 hg3 hat3; have r1 := (p1.alloc (.cells #[S y.nm] 9)).kept hg3 (fun e => by have := HBB.out _ e.symm; omega); obtain ⟨b0', b1'⟩ := r1.one))
        have q2 : OwnS (B0 + 5) (w2.alloc (.cells #[S y.nm] 9)) lv acc := p2.old ((Below.refl _ _).alloc (Nat.le_refl _) _) (Nat.le_refl _)
        have hK2 : K ≤ w2.heap.size := by omega
        have hs3 := hg3.size
        simp only [World.size_alloc] at hs3
        have m3 := ((hm2'.alloc (.cells #[S y.nm] 9)).kept hg3 (fun e => by have := HBB.out _ e.symm; omega)).kept (grownBy_setCell w3 (B0 + 1) 0 (.slice (some ⟨g1, 0, none⟩) (acc.length + 1) cap1)) (by simp)
        have hg1 : B0 + 5 ≤ g1 := by
          rcases hat3 with h | h
          · exact HBB.out _ h
          · rw [h, World.size_alloc]; omega
        refine ⟨?_, ?_, .slice (some ⟨g1, 0, none⟩) (acc.length + 1) cap1, m + 1, r1.set _, ?_, ?_, ?_, by simp; omega, ?_, ?_⟩
        · refine ((KeepsFrom.of_grownBy hg2 (fun j e => by cases e; omega)).trans ((KeepsOthers.alloc _ _).from _)).trans (((KeepsOthers.of_grownBy hg3 (fun j o e ho => ?_)).from _).trans ((KeepsOthers.setCell _ _ _).from _))
          obtain ⟨o', ho', hc⟩ := (ownsRow_cells q2.1 e).2
          rw [ho] at ho'; cases ho'; exact hc
        · refine ((KpE.grown hg2 (by omega) (fun r e => ?_)).trans (KpE.grown (World.grownBy_alloc w2 _ none) hK2 (fun r e => by cases e))).trans ((KpE.grown hg3 (by simp; omega) (fun r e => ?_)).trans (KpE.grown (grownBy_setCell w3 (B0 + 1) 0 _) (by omega) (fun r e => ?_)))
          · cases e; exact ⟨by omega, fun cs => not_box_map HM.out cs _⟩
          · exact ⟨by have := HBB.out _ e; omega, fun cs => not_box_row q2.1 e (by decide) cs⟩
          · cases e; exact ⟨by omega, fun cs => not_box_other r1 (by decide) cs⟩
        · rw [hs1.out, he.out]
          exact hown3.kept (grownBy_setCell w3 (B0 + 1) 0 _) (.inr (by simp [Value.ownBlock]; omega))
        · exact ((p3.alloc _).kept hg3 (fun e => by have := HBB.out _ e.symm; omega)).other (by simp) _
        · rw [hs1.out, he.out]
          rw [upd_S, updF_inSet, show (fS (inSet acc) (.string y.nm)).isSome = false from (inSet_some acc y.nm).trans HCT.out] at m3
          exact m3
        · exact (((h6.trans (below_grown hg2 (fun r e => by cases e; omega) (by omega))).alloc (by omega) _).trans (below_grown hg3 (fun r e => by have := HBB.out _ e; omega) (by simp; omega))).setCell (by simp) _
        · simp [World.setCell]; omega
    · have hop' : (y.op == 5) = false := by rw [beq_eq_false_iff_ne]; exact hop
      have hs1 : Hid (dedup (refL ((pre ++ [y]).map Xv.key)) = acc) := by
        unfold Hid
        rw [List.map_append, show [y].map Xv.key = [(y.op, y.nm)] by simp [Xv.key], refL_snoc_no _ _ _ hop, HACC.out]
      clear hop
      gi_wp2_with fail
      exact ⟨KeepsFrom.refl _ _, KpE.refl _ _, lv, m, h1, by rw [hs1.out]; exact h2, h3, by rw [hs1.out]; exact h4, by simp; omega, h6, h7⟩
  case hdone =>
    rintro D xs W hD hxs ⟨lv, m, h1, h2, h3, h4, h5, h6, h7⟩ hK'
    obtain ⟨a0, a1⟩ := h1.one
    gi_wp2_with fail
    refine ⟨by simp, .inl ⟨_, _, rfl, run_takeDeferred hK', ?_⟩⟩
    rw [hxs] at h2
    refine ⟨_, results_tmp rfl _ _ _, lv, rfl, ?_, ?_⟩
    · refine (h2.kept (grownBy_putObj' W D (.deferred none)) ?_).mono (by omega)
      cases hv : lv.ownBlock with
      | none => exact .inl rfl
      | some r =>
        refine .inr fun he => ?_
        cases he
        obtain ⟨o, ho, hc⟩ := (ownsRow_cells h2.1 hv).2
        rw [hK'] at ho; cases ho; simp [Obj.isCells] at hc
    · exact h6.trans (below_grown (grownBy_putObj' W D (.deferred none)) (fun r e => by cases e; omega) (by omega))
end Go.Proofs.Ythbnbjigmgoldaa
