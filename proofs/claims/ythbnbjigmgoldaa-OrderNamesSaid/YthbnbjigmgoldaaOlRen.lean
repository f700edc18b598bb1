/- The statements' function renamed of layer 15. Conditions: the names and the mark are of at most 2^47 bytes. -/
import Derived.Test.YthbnbjigmgoldaaOlRefer
import Derived.Test.YthbnbjigmgoldaaOlNamesS
import Derived.Laws.Concat
namespace Go.Proofs.Ythbnbjigmgoldaa
open Go.RowKit
set_option linter.unusedVariables false

theorem str_app (a b : List UInt8) : (⟨a.toArray⟩ : ByteArray) ++ (⟨b.toArray⟩ : ByteArray) = ⟨(a ++ b).toArray⟩ := ByteArray.mk_append_mk a b
/-- An expression lies in blocks of a world that were made from 'base' on, the row's own left out. -/
def ExZ (base : Nat) (w : World) (row : Option Nat) (e : Ex) (x : Xv) : Prop := ∀ W : World, (∀ r, base ≤ r → r < w.heap.size → row ≠ some r → W.heap[r]? = w.heap[r]?) → ExX W.heap.size W e x
theorem ExZ.here {base : Nat} {w : World} {row : Option Nat} {e : Ex} {x : Xv} (h : ExZ base w row e x) : ExX w.heap.size w e x := h w fun _ _ _ _ => rfl
/-- The rows of expressions. -/
def exRows (vs : List Xv) : List (List Value) := vs.map fun y => y.cells.toList
theorem exRows_length (vs : List Xv) : (exRows vs).length = vs.length := by simp [exRows]
theorem exRows_snoc (vs : List Xv) (x : Xv) : exRows vs ++ [x.cells.toList] = exRows (vs ++ [x]) := by simp [exRows]
/-- All parts of an expression that lie in a row of a call's own. -/
structure ArgsZ (base : Nat) (w : World) (a : Option Addr) (m : Nat) (qs : List Ex) (vs : List Xv) : Prop where
  len : vs.length = qs.length
  own : OwnR 9 45 base w (.slice a qs.length m) (exRows vs)
  each : ∀ (j : Nat) (e : Ex), qs[j]? = some e → ExZ base w (Value.slice a qs.length m).ownBlock e (vs[j]?.getD default)
theorem ArgsZ.node {base : Nat} {w : World} {a : Option Addr} {m : Nat} {qs : List Ex} {vs : List Xv} (h : ArgsZ base w a m qs vs) {op : Int} {nm : Str} {x : Xv} (h0 : x.op = op) (h1 : x.nm = nm) (hn : nm.length ≤ maxLen) (h8 : x.s8 = ⟨a, qs.length, m⟩) :
    ExZ base w none (.mk op nm qs) x := by
  intro W hW
  have hlo : ∀ r, (Value.slice a qs.length m).ownBlock = some r → base ≤ r ∧ r < w.heap.size := fun r hr => ⟨h.own.low hr, h.own.lt hr⟩
  have hown : OwnR 9 45 base W (.slice a qs.length m) (exRows vs) := ⟨ownsRow_at h.own.1 fun g hg => hW g (hlo g hg).1 (hlo g hg).2 (by simp), h.own.2⟩
  rw [ExX]
  refine ⟨h0, h1, hn, fun i => vs[i]?.getD default, ?_, exsX_iff.2 fun j e hj => ?_⟩
  · have := hown.rows
    rw [exRows_length, h.len] at this
    rw [h8]
    refine this.congr fun i hi j hj => ?_
    have hiv : i < vs.length := by rw [h.len]; exact hi
    have hv : vs[i]? = some (vs[i]'hiv) := List.getElem?_eq_getElem hiv
    unfold exRows
    rw [List.getElem?_map, hv]
    simp only [Option.map_some, Option.getD_some]
    rw [Xv.cells_at _ hj]
    show _ = (vs[i]?.getD default).cell j
    rw [hv]; rfl
  · rw [Nat.zero_add]
    exact h.each j e hj W fun r h1 h2 h3 => hW r h1 h2 (by simp)
theorem ArgsZ.keep {base : Nat} {w w' : World} {a : Option Addr} {m : Nat} {qs : List Ex} {vs : List Xv} (h : ArgsZ base w a m qs vs) (hk : ∀ r, base ≤ r → r < w.heap.size → w'.heap[r]? = w.heap[r]?) (hs : w.heap.size ≤ w'.heap.size) : ArgsZ base w' a m qs vs := by
  refine ⟨h.len, ⟨ownsRow_at h.own.1 fun g hg => hk g (h.own.low hg) (h.own.lt hg), h.own.2⟩, fun j e hj W hW => ?_⟩
  exact h.each j e hj W fun r h1 h2 h3 => (hW r h1 (by omega) h3).trans (hk r h1 h2)
/-- One more. -/
theorem ArgsZ.snoc {base : Nat} {w w5 W6 w7 : World} {a : Option Addr} {m : Nat} {qs : List Ex} {vs : List Xv} (h : ArgsZ base w a m qs vs) {e : Ex} {x : Xv} {lo g cap : Nat} (hlo : base ≤ lo) (hlw : w.heap.size ≤ lo) (hx : ExZ lo w5 none e x)
    (hb : Below w.heap.size w w5) (hb6 : Below w5.heap.size w5 W6) (hs6 : W6.heap.size = w5.heap.size + 1) (hg : W6.grownBy w7 (Value.slice a qs.length m).ownBlock) (hat : (Value.slice a qs.length m).ownBlock = some g ∨ g = W6.heap.size)
    (hown : OwnR 9 45 base w7 (.slice (some ⟨g, 0, none⟩) (qs.length + 1) cap) (exRows vs ++ [x.cells.toList])) : ArgsZ base w7 (some ⟨g, 0, none⟩) cap (qs ++ [e]) (vs ++ [x]) := by
  have hsz := hb.size
  have hs7 := hg.size
  refine ⟨by rw [List.length_append, List.length_append, h.len]; rfl, by rw [← exRows_snoc, List.length_append, List.length_singleton]; exact hown, fun j q hj W hW => ?_⟩
  rw [List.length_append, List.length_singleton] at hW
  have hW' : ∀ r, base ≤ r → r < w5.heap.size → (Value.slice a qs.length m).ownBlock ≠ some r → W.heap[r]? = w5.heap[r]? := by
    intro r h1 h2 h3
    rw [hW r h1 (by omega) (fun e => by
      simp only [Value.ownBlock, Option.some.injEq] at e
      rcases hat with h4 | h4
      · exact h3 (by rw [h4, e])
      · omega)]
    rw [hg.block r (by omega) (fun e => h3 e.symm)]
    exact hb6.block r h2
  by_cases hjl : j < qs.length
  · rw [List.getElem?_append_left hjl] at hj
    rw [List.getElem?_append_left (by rw [h.len]; exact hjl)]
    exact h.each j q hj W fun r h1 h2 h3 => (hW' r h1 (by omega) h3).trans (hb.block r h2)
  · have hjq : j = qs.length := by
      have := (List.getElem?_eq_some_iff.1 hj).1
      rw [List.length_append, List.length_singleton] at this
      omega
    subst hjq
    rw [List.getElem?_append_right (Nat.le_refl _), Nat.sub_self] at hj
    simp only [List.getElem?_cons_zero, Option.some.injEq] at hj
    subst hj
    rw [← h.len, List.getElem?_append_right (Nat.le_refl _), Nat.sub_self]
    refine hx W fun r h1 h2 _ => hW' r (by omega) h2 (fun hr => ?_)
    have := h.own.lt hr
    omega
theorem ArgsZ.nil (base : Nat) (w : World) : ArgsZ base w none 0 [] [] := ⟨rfl, OwnR.nil _ _ _ _, fun j e hj => by simp at hj⟩
theorem renE_mk (m : Str) (o : Int) (n : Str) (es : List Ex) : renE m (.mk o n es) = .mk o (if o == 5 then n ++ m else n) (es.map (renE m)) := by rw [renE, renL_map]
/-- The names in an expression are not long. -/
def Short (e : Ex) : Prop := ∀ q ∈ e.pre, q.2.length ≤ 2 ^ 47
theorem Short.arg {o : Int} {n : Str} {es : List Ex} (h : Short (.mk o n es)) {e : Ex} (he : e ∈ es) : Short e := fun q hq => by
  refine h q ?_
  rw [Ex.pre]
  refine List.mem_cons_of_mem _ ?_
  clear h
  induction es with
  | nil => simp at he
  | cons a r ih =>
    rw [preL, List.mem_append]
    rcases List.mem_cons.1 he with rfl | he
    · exact .inl hq
    · exact .inr (ih he)
theorem Short.nm {o : Int} {n : Str} {es : List Ex} (h : Short (.mk o n es)) : n.length ≤ 2 ^ 47 := h (o, n) (by rw [Ex.pre]; exact List.mem_cons_self)
theorem map_take_snoc {es : List Ex} {k : Nat} {e : Ex} (f : Ex → Ex) (h : es[k]? = some e) : (es.take (k + 1)).map f = (es.take k).map f ++ [f e] := by
  have hk := (List.getElem?_eq_some_iff.1 h).1
  rw [List.take_succ_eq_append_getElem hk, List.map_append, show es[k] = e by rw [List.getElem?_eq_getElem hk] at h; exact Option.some.inj h]; rfl
theorem exs_len : ∀ es : List Ex, es.length ≤ (preL es).length
  | [] => by simp
  | .mk o n es :: r => by have := exs_len r; rw [preL, Ex.pre]; simp only [List.length_append, List.length_cons]; omega
theorem blk_row {W : World} {b t : Nat} {x : Xv} (h : Blk W b x.cells t) : ∀ (i : Nat) (r : List Value) (j : Nat) (u : Value), [x.cells.toList][i]? = some r → r[j]? = some u → W.cell? ⟨b, 0 + (i * 9 + j), none⟩ = some u := by
  intro i r j u hi hj
  have hi0 : i = 0 := by have := (List.getElem?_eq_some_iff.1 hi).1; simpa using this
  subst hi0
  simp only [List.getElem?_cons_zero, Option.some.injEq] at hi
  subst hi
  rw [Nat.zero_add, Nat.zero_mul, Nat.zero_add]
  exact h.at (by rw [← hj, ← Array.getElem?_toList])

set_option maxRecDepth 100000 in
set_option maxHeartbeats 8000000 in
theorem renamed_any (K : Nat) (m : Str) (hm : m.length ≤ 2 ^ 47) : ∀ (d : Nat) (e : Ex), e.parts ≤ d → ∀ (x : Xv) (w : World), ExX K w e x → K ≤ w.heap.size → e.parts ≤ 2 ^ 30 → Short e →
    Calls Try.prog 27 #[x.agg, S m] w fun en w' => ∃ y : Xv, en = .returned y.agg ∧ ExZ w.heap.size w' none (renE m e) y ∧ Below w.heap.size w w' := by
  intro d
  induction d with
  | zero => intro e hm; cases e; rw [parts_mk] at hm; omega
  | succ d ih =>
    intro e hd x w h hK hbig hsh
    cases e with
    | mk op nm es =>
    rw [ExX] at h
    obtain ⟨e0, e1, hnm, g, hg, hgs⟩ := h
    have hgs := exsX_iff.1 hgs
    have hnl := hsh.nm
    have hp : ∀ {e : Ex}, e ∈ es → e.parts ≤ d ∧ e.parts ≤ 2 ^ 30 := fun {e} he => by have := parts_arg he; rw [parts_mk] at hd hbig; omega
    have hel : es.length ≤ 2 ^ 30 := by
      have h1 := exs_len es
      rw [parts_mk] at hbig
      omega
    obtain ⟨va, vcap, h8, hvl, hvm⟩ := hg.form
    obtain ⟨xop, xnm, kd, b3, ⟨a4, n4, m4⟩, b5, ⟨a6, n6, m6⟩, i7, ⟨a8, n8, m8⟩⟩ := x
    dsimp only at e0 e1 h8 hg
    subst e0 e1
    simp only [Sl.val, Value.slice.injEq] at h8
    obtain ⟨rfl, rfl, rfl⟩ := h8
    unfold maxLen at hvm
    obtain ⟨B0, hB0⟩ : ∃ B0, w.heap.size = B0 := ⟨_, rfl⟩
    rw [hB0] at hK ⊢
    have HB := Lib.hid hB0
    have HR := Lib.hid (renE_mk m xop xnm es)
    by_cases hop : xop = 5
    · have hcat := str_app xnm m
      have hle : ¬ (9223372036854775807 < xnm.length + m.length) := by omega
      rw [hop] at HR
      have HR2 : Hid (renE m (.mk 5 xnm es) = .mk 5 (xnm ++ m) (es.map (renE m))) := Lib.hid HR.out
      have hnn : (xnm ++ m).length ≤ maxLen := by rw [List.length_append]; simp only [maxLen]; omega
      subst hop
      obtain ⟨W1, hW1⟩ : ∃ W1, (w.alloc (.cells (Xv.cells ⟨5, (xnm ++ m), kd, b3, ⟨a4, n4, m4⟩, b5, ⟨a6, n6, m6⟩, i7, ⟨a8, es.length, m8⟩⟩) 45)).alloc (.cells (exC 0 [] none 0 0) 45) = W1 := ⟨_, rfl⟩
      have hb2 : Below B0 w W1 := hW1 ▸ ((Below.refl B0 w).alloc (by omega) _).alloc (by simp; omega) _
      have hs1 : W1.heap.size = B0 + 2 := by rw [← hW1, ← hB0]; simp
      have q2 : Blk W1 B0 (Xv.cells ⟨5, (xnm ++ m), kd, b3, ⟨a4, n4, m4⟩, b5, ⟨a6, n6, m6⟩, i7, ⟨a8, es.length, m8⟩⟩) 45 := by rw [← hW1, ← hB0]; exact (Blk.new w _ _).alloc _
      have q3 : Blk W1 (B0 + 1) (exC 0 [] none 0 0) 45 := by
        rw [← hW1, ← hB0]
        have := Blk.new (w.alloc (.cells (Xv.cells ⟨5, (xnm ++ m), kd, b3, ⟨a4, n4, m4⟩, b5, ⟨a6, n6, m6⟩, i7, ⟨a8, es.length, m8⟩⟩) 45)) (exC 0 [] none 0 0) 45
        rw [World.size_alloc] at this
        exact this
      dsimp only [Xv.cells, Xv.agg] at hW1 ⊢
      simp only [exC, S] at hW1
      have HW1 := Lib.hid hW1
      have hs2 : B0 + 2 ≤ W1.heap.size := by omega
      have d8 : W1.cell? ⟨B0, 8, none⟩ = some (.slice a8 es.length m8) := q2.at rfl
      clear hB0 hW1 hs1 hd hbig hvl HR
      go_enter Try.func27, Try.ntmps27
      go_wp2_with fail
      simp only [HB.out]
      rw [HW1.out]
      clear hcat hle
      go_wp2_with fail
      clear d8
      go_loopw [5, 19] (fun lv i wr => ∃ (k : Nat) (vs : List Xv) (sa : Option Addr) (sm : Nat), k ≤ es.length ∧ i = .int .i64 k ∧ lv = .slice sa k sm ∧ ArgsZ (B0 + 2) wr sa sm ((es.take k).map (renE m)) vs ∧ Blk wr B0 (Xv.cells ⟨5, (xnm ++ m), kd, b3, ⟨a4, n4, m4⟩, b5, ⟨a6, n6, m6⟩, i7, ⟨a8, es.length, m8⟩⟩) 45 ∧ Blk wr (B0 + 1) (exC 0 [] none 0 0) 45 ∧ Below B0 w wr ∧ B0 + 2 ≤ wr.heap.size) (fun _ i _ => es.length - (intOf i).toNat)
      case atStart => exact ⟨0, [], none, 0, Nat.zero_le _, rfl, rfl, ArgsZ.nil _ _, q2, q3, hb2, hs2⟩
      case round =>
        clear q2 q3 hb2 hs2
        obtain ⟨k, vs, sa, sm, hk, rfl, rfl, hA, hq0, hq1, hbr, hsr⟩ := hrel
        have hqn : ((es.take k).map (renE m)).length = k := by rw [List.length_map, List.length_take]; omega
        by_cases hlt : k < es.length
        · obtain ⟨b, o, cap, he, _, hcm, hbK, hc⟩ := hg.pos (by omega)
          simp only [Sl.val, Value.slice.injEq, true_and] at he
          obtain ⟨rfl, rfl⟩ := he
          obtain ⟨k0, k1, k2, k3, k4, k5, k6, k7, k8⟩ := ex_cells (cells_below hbr (Nat.lt_of_lt_of_le hbK hK) hc) hlt
          obtain ⟨ek, hek⟩ : ∃ ek, es[k]? = some ek := ⟨_, List.getElem?_eq_getElem hlt⟩
          have hmem := List.mem_of_getElem? hek
          have hq := hgs k ek hek
          rw [Nat.zero_add] at hq
          obtain ⟨y, hy⟩ : ∃ y, g k = y := ⟨_, rfl⟩
          rw [hy] at hq k0 k1 k2 k3 k4 k5 k6 k7 k8
          obtain ⟨hp1, hp2⟩ := hp hmem
          have hbl : Below B0 w (wr.alloc (.cells y.cells 45)) := hbr.alloc (by omega) _
          have hcall := ih ek hp1 y (wr.alloc (.cells y.cells 45)) (hq.below hbl hK (Nat.le_refl _)) (by simp; omega) hp2 (hsh.arg hmem)
          have HTS := Lib.hid (map_take_snoc (renE m) hek)
          have HQN := Lib.hid hqn
          have HHA := Lib.hid hA
          have hown := hA.own
          rw [hqn] at hown
          have hvl : (exRows vs).length = k := by rw [exRows_length, hA.len, hqn]
          have HVL := Lib.hid hvl
          clear hek hc hy hmem hp1 hp2 hqn hA hq hvl
          obtain ⟨Wa, hWa⟩ : ∃ Wa, wr.alloc (.cells y.cells 45) = Wa := ⟨_, rfl⟩
          have hba : Below wr.heap.size wr Wa := by rw [← hWa]; exact (Below.refl _ wr).alloc (Nat.le_refl _) _
          have hsa : wr.heap.size ≤ Wa.heap.size := hba.size
          rw [hWa] at hcall
          simp only [Xv.cells] at hWa
          have HWA := Lib.hid hWa
          have HCALL := Lib.hid hcall
          clear hWa hbl hcall
          have hcall := HCALL.out
          dsimp only [Xv.agg] at hcall
          go_wp2_with (rw [HWA.out]; refine hcall.mono ?_)
          rintro e w5 ⟨x5, rfl, hz5, hb5⟩
          obtain ⟨yop, ynm, ykd, yb3, ⟨ya4, yn4, ym4⟩, yb5, ⟨ya6, yn6, ym6⟩, yi7, ⟨ya8, yn8, ym8⟩⟩ := x5
          dsimp only [Xv.agg]
          have hbw5 : Below wr.heap.size wr w5 := hba.trans (hb5.mono hsa)
          have hs5 := hbw5.size
          have own5 := hown.old hbw5 (Nat.le_refl _)
          have HLO : Hid (∀ r, (Value.slice sa k sm).ownBlock = some r → B0 + 2 ≤ r ∧ r < wr.heap.size) := Lib.hid fun r hr => ⟨hown.low hr, hown.lt hr⟩
          clear hcall k0 k1 k2 k3 k4 k5 k6 k7 k8 hown HCALL
          obtain ⟨W6, hW6⟩ : ∃ W6, w5.alloc (.cells (Xv.cells ⟨yop, ynm, ykd, yb3, ⟨ya4, yn4, ym4⟩, yb5, ⟨ya6, yn6, ym6⟩, yi7, ⟨ya8, yn8, ym8⟩⟩) 45) = W6 := ⟨_, rfl⟩
          have q6 : Blk W6 w5.heap.size (Xv.cells ⟨yop, ynm, ykd, yb3, ⟨ya4, yn4, ym4⟩, yb5, ⟨ya6, yn6, ym6⟩, yi7, ⟨ya8, yn8, ym8⟩⟩) 45 := by rw [← hW6]; exact Blk.new _ _ _
          have hb6 : Below w5.heap.size w5 W6 := by rw [← hW6]; exact (Below.refl _ _).alloc (Nat.le_refl _) _
          have hs6 : W6.heap.size = w5.heap.size + 1 := by rw [← hW6]; simp
          have own6 := own5.old hb6 (Nat.le_refl _)
          have HS6 := Lib.hid hs6
          have hs6' : w5.heap.size + 1 ≤ W6.heap.size := by omega
          have hrow6 := blk_row q6
          have HROW := Lib.hid hrow6
          simp only [Xv.cells, S] at hW6
          have HW6 := Lib.hid hW6
          clear hW6 hs6 hrow6 q6
          go_wp2_with (at_builtin; rw [HW6.out]; refine wpList_append_rows rfl (.tmp 23) (.tmp 27) 43 rfl Try.underlying43 Try.infoExpr rfl (by decide) rfl own6 (b := w5.heap.size) (off := 0) (m := 1) (cap := 1) (ms := [(Xv.cells ⟨yop, ynm, ykd, yb3, ⟨ya4, yn4, ym4⟩, yb5, ⟨ya6, yn6, ym6⟩, yi7, ⟨ya8, yn8, ym8⟩⟩).toList]) rfl rfl (xv_row _) HROW.out (by decide) (by rw [HVL.out]; simp only [maxLen]; omega) (by rw [HVL.out]; omega) (by omega) ?_)
          intro g2 cap2 w7 hown7 hg7 hat7
          have hsz7 : W6.heap.size ≤ w7.heap.size := hg7.size
          have hb7 : Below (B0 + 2) wr w7 := (hbw5.mono hsr).trans ((hb6.mono (by omega)).trans (below_grown hg7 (fun r hr => (HLO.out r hr).1) (by omega)))
          have hA7 : ArgsZ (B0 + 2) w7 (some ⟨g2, 0, none⟩) cap2 ((es.take (k + 1)).map (renE m)) (vs ++ [⟨yop, ynm, ykd, yb3, ⟨ya4, yn4, ym4⟩, yb5, ⟨ya6, yn6, ym6⟩, yi7, ⟨ya8, yn8, ym8⟩⟩]) := by
            rw [HTS.out]
            refine HHA.out.snoc (lo := Wa.heap.size) (by omega) hsa hz5 hbw5 hb6 HS6.out (by rw [HQN.out]; exact hg7) (by rw [HQN.out]; exact hat7) ?_
            rw [HQN.out]
            rw [HVL.out] at hown7
            exact hown7
          have HHA7 := Lib.hid hA7
          try rw [HVL.out]
          clear hA7 hown7 HHA hz5 hg7 hat7 own6 own5
          go_wp2_with fail
          refine ⟨⟨k + 1, _, some ⟨g2, 0, none⟩, cap2, by omega, by go_num, rfl, HHA7.out, hq0.below hb7 (by omega), hq1.below hb7 (by omega), hbr.trans (hb7.mono (by omega)), by omega⟩, by simp [intOf]; omega⟩
        · obtain rfl : k = es.length := by omega
          rw [List.take_length] at hA
          rw [List.take_length] at hqn
          have hq0' : Blk (wr.setCell ⟨B0, 8, none⟩ (.slice sa es.length sm)) B0 (Xv.cells ⟨5, (xnm ++ m), kd, b3, ⟨a4, n4, m4⟩, b5, ⟨a6, n6, m6⟩, i7, ⟨sa, es.length, sm⟩⟩) 45 := hq0.set (i := 8) (.slice sa es.length sm)
          have hq1' := hq1.other (b' := B0) (i := 8) (by omega) (.slice sa es.length sm)
          have hfr := hq0.free 8
          have hbe := hbr.setCell (p := ⟨B0, 8, none⟩) (Nat.le_refl _) (.slice sa es.length sm)
          have hA' : ArgsZ (B0 + 2) (wr.setCell ⟨B0, 8, none⟩ (.slice sa es.length sm)) sa sm (es.map (renE m)) vs := hA.keep (fun r h1 h2 => Below.heap_setCell _ _ _ _ (by show r ≠ B0; omega)) (by simp)
          have hse : B0 + 2 ≤ (wr.setCell ⟨B0, 8, none⟩ (.slice sa es.length sm)).heap.size := by simp; exact hsr
          have d8 : wr.cell? ⟨B0, 8, none⟩ = some (.slice a8 es.length m8) := hq0.at rfl
          have HA' := Lib.hid hA'
          have HQN := Lib.hid hqn
          clear hA hq0 hq1 hbr hsr hA' hqn
          go_upto_region 10 with fail
          obtain ⟨We, hWe⟩ : ∃ We, wr.setCell ⟨B0, 8, none⟩ (.slice sa es.length sm) = We := ⟨_, rfl⟩
          rw [hWe] at hq0' hq1' hbe hse HA'
          try rw [hWe]
          clear hWe hfr d8
          obtain ⟨W9, hW9⟩ : ∃ W9 : World, We.setRow (B0 + 1) (Xv.cells ⟨5, (xnm ++ m), kd, b3, ⟨a4, n4, m4⟩, b5, ⟨a6, n6, m6⟩, i7, ⟨sa, es.length, sm⟩⟩) = W9 := ⟨_, rfl⟩
          have hg9 : We.grownBy W9 (some (B0 + 1)) := by
            rw [← hW9]
            refine ⟨rfl, rfl, rfl, by simp, fun r _ hr => ?_⟩
            have hr' : B0 + 1 ≠ r := fun e => hr (by rw [e])
            simp [World.setRow, Array.getElem?_modify, hr']
          have hq9 : Blk W9 (B0 + 1) (Xv.cells ⟨5, (xnm ++ m), kd, b3, ⟨a4, n4, m4⟩, b5, ⟨a6, n6, m6⟩, i7, ⟨sa, es.length, sm⟩⟩) 45 := by rw [← hW9]; exact setRow_heap _ _ _ _ _ _ hq1'
          have hA9 : ArgsZ (B0 + 2) W9 sa sm (es.map (renE m)) vs := HA'.out.keep (fun r h1 h2 => hg9.block r h2 (fun e => by cases e; omega)) hg9.size
          have hX : ExZ B0 W9 none (renE m (.mk 5 xnm es)) ⟨5, (xnm ++ m), kd, b3, ⟨a4, n4, m4⟩, b5, ⟨a6, n6, m6⟩, i7, ⟨sa, es.length, sm⟩⟩ := by
            rw [HR2.out]
            have := hA9.node (op := 5) (nm := (xnm ++ m)) (x := ⟨5, (xnm ++ m), kd, b3, ⟨a4, n4, m4⟩, b5, ⟨a6, n6, m6⟩, i7, ⟨sa, es.length, sm⟩⟩) rfl rfl hnn (by rw [HQN.out])
            exact fun W hW => this W fun r h1 h2 h3 => hW r (by omega) h2 h3
          have hb9 : Below B0 w W9 := hbe.trans (below_grown hg9 (fun r hr => by cases hr; omega) (by omega))
          obtain ⟨f0, f1, f2, f3, f4, f5, f6, f7, f8⟩ := hq0'.nine
          obtain ⟨e0, e1, e2, e3, e4, e5, e6, e7, e8⟩ := hq9.nine
          have HW9 := Lib.hid hW9
          have HX := Lib.hid hX
          clear hW9 hA9 hX HA'
          go_wp2_with (first
            | (refine wpList_store_row rfl 45 (.tmp 4) (.tmp 32) rfl (B0 + 1) (Xv.cells ⟨5, (xnm ++ m), kd, b3, ⟨a4, n4, m4⟩, b5, ⟨a6, n6, m6⟩, i7, ⟨sa, es.length, sm⟩⟩) rfl rfl 45 _ hq1' (by exact infoEx) (by rfl) (all_oneCell_toArray (xv_one ⟨5, (xnm ++ m), kd, b3, ⟨a4, n4, m4⟩, b5, ⟨a6, n6, m6⟩, i7, ⟨sa, es.length, sm⟩⟩)) ?_; rw [HW9.out]))
          (try simp only [Exit.inBlock, Exit.then])
          refine bodyPost_ret (results_cell_row rfl _ _ (B0 + 1) 45 (Xv.cells ⟨5, (xnm ++ m), kd, b3, ⟨a4, n4, m4⟩, b5, ⟨a6, n6, m6⟩, i7, ⟨sa, es.length, sm⟩⟩) _ _ rfl hq9 Try.underlying45 rfl (by exact infoEx)) rfl ?_
          exact ⟨⟨5, (xnm ++ m), kd, b3, ⟨a4, n4, m4⟩, b5, ⟨a6, n6, m6⟩, i7, ⟨sa, es.length, sm⟩⟩, rfl, HX.out, hb9⟩
    · have hopb : (xop == 5) = false := beq_eq_false_iff_ne.2 hop
      have HR2 : Hid (renE m (.mk xop xnm es) = .mk xop xnm (es.map (renE m))) := Lib.hid (by rw [HR.out, hopb]; rfl)
      have hnn := hnm
      obtain ⟨W1, hW1⟩ : ∃ W1, (w.alloc (.cells (Xv.cells ⟨xop, xnm, kd, b3, ⟨a4, n4, m4⟩, b5, ⟨a6, n6, m6⟩, i7, ⟨a8, es.length, m8⟩⟩) 45)).alloc (.cells (exC 0 [] none 0 0) 45) = W1 := ⟨_, rfl⟩
      have hb2 : Below B0 w W1 := hW1 ▸ ((Below.refl B0 w).alloc (by omega) _).alloc (by simp; omega) _
      have hs1 : W1.heap.size = B0 + 2 := by rw [← hW1, ← hB0]; simp
      have q2 : Blk W1 B0 (Xv.cells ⟨xop, xnm, kd, b3, ⟨a4, n4, m4⟩, b5, ⟨a6, n6, m6⟩, i7, ⟨a8, es.length, m8⟩⟩) 45 := by rw [← hW1, ← hB0]; exact (Blk.new w _ _).alloc _
      have q3 : Blk W1 (B0 + 1) (exC 0 [] none 0 0) 45 := by
        rw [← hW1, ← hB0]
        have := Blk.new (w.alloc (.cells (Xv.cells ⟨xop, xnm, kd, b3, ⟨a4, n4, m4⟩, b5, ⟨a6, n6, m6⟩, i7, ⟨a8, es.length, m8⟩⟩) 45)) (exC 0 [] none 0 0) 45
        rw [World.size_alloc] at this
        exact this
      dsimp only [Xv.cells, Xv.agg] at hW1 ⊢
      simp only [exC, S] at hW1
      have HW1 := Lib.hid hW1
      have hs2 : B0 + 2 ≤ W1.heap.size := by omega
      have d8 : W1.cell? ⟨B0, 8, none⟩ = some (.slice a8 es.length m8) := q2.at rfl
      clear hB0 hW1 hs1 hd hbig hvl HR
      go_enter Try.func27, Try.ntmps27
      go_wp2_with fail
      simp only [HB.out]
      rw [HW1.out]
      clear hopb
      go_wp2_with fail
      clear d8
      go_loopw [5, 19] (fun lv i wr => ∃ (k : Nat) (vs : List Xv) (sa : Option Addr) (sm : Nat), k ≤ es.length ∧ i = .int .i64 k ∧ lv = .slice sa k sm ∧ ArgsZ (B0 + 2) wr sa sm ((es.take k).map (renE m)) vs ∧ Blk wr B0 (Xv.cells ⟨xop, xnm, kd, b3, ⟨a4, n4, m4⟩, b5, ⟨a6, n6, m6⟩, i7, ⟨a8, es.length, m8⟩⟩) 45 ∧ Blk wr (B0 + 1) (exC 0 [] none 0 0) 45 ∧ Below B0 w wr ∧ B0 + 2 ≤ wr.heap.size) (fun _ i _ => es.length - (intOf i).toNat)
      case atStart => exact ⟨0, [], none, 0, Nat.zero_le _, rfl, rfl, ArgsZ.nil _ _, q2, q3, hb2, hs2⟩
      case round =>
        clear q2 q3 hb2 hs2
        obtain ⟨k, vs, sa, sm, hk, rfl, rfl, hA, hq0, hq1, hbr, hsr⟩ := hrel
        have hqn : ((es.take k).map (renE m)).length = k := by rw [List.length_map, List.length_take]; omega
        by_cases hlt : k < es.length
        · obtain ⟨b, o, cap, he, _, hcm, hbK, hc⟩ := hg.pos (by omega)
          simp only [Sl.val, Value.slice.injEq, true_and] at he
          obtain ⟨rfl, rfl⟩ := he
          obtain ⟨k0, k1, k2, k3, k4, k5, k6, k7, k8⟩ := ex_cells (cells_below hbr (Nat.lt_of_lt_of_le hbK hK) hc) hlt
          obtain ⟨ek, hek⟩ : ∃ ek, es[k]? = some ek := ⟨_, List.getElem?_eq_getElem hlt⟩
          have hmem := List.mem_of_getElem? hek
          have hq := hgs k ek hek
          rw [Nat.zero_add] at hq
          obtain ⟨y, hy⟩ : ∃ y, g k = y := ⟨_, rfl⟩
          rw [hy] at hq k0 k1 k2 k3 k4 k5 k6 k7 k8
          obtain ⟨hp1, hp2⟩ := hp hmem
          have hbl : Below B0 w (wr.alloc (.cells y.cells 45)) := hbr.alloc (by omega) _
          have hcall := ih ek hp1 y (wr.alloc (.cells y.cells 45)) (hq.below hbl hK (Nat.le_refl _)) (by simp; omega) hp2 (hsh.arg hmem)
          have HTS := Lib.hid (map_take_snoc (renE m) hek)
          have HQN := Lib.hid hqn
          have HHA := Lib.hid hA
          have hown := hA.own
          rw [hqn] at hown
          have hvl : (exRows vs).length = k := by rw [exRows_length, hA.len, hqn]
          have HVL := Lib.hid hvl
          clear hek hc hy hmem hp1 hp2 hqn hA hq hvl
          obtain ⟨Wa, hWa⟩ : ∃ Wa, wr.alloc (.cells y.cells 45) = Wa := ⟨_, rfl⟩
          have hba : Below wr.heap.size wr Wa := by rw [← hWa]; exact (Below.refl _ wr).alloc (Nat.le_refl _) _
          have hsa : wr.heap.size ≤ Wa.heap.size := hba.size
          rw [hWa] at hcall
          simp only [Xv.cells] at hWa
          have HWA := Lib.hid hWa
          have HCALL := Lib.hid hcall
          clear hWa hbl hcall
          have hcall := HCALL.out
          dsimp only [Xv.agg] at hcall
          go_wp2_with (rw [HWA.out]; refine hcall.mono ?_)
          rintro e w5 ⟨x5, rfl, hz5, hb5⟩
          obtain ⟨yop, ynm, ykd, yb3, ⟨ya4, yn4, ym4⟩, yb5, ⟨ya6, yn6, ym6⟩, yi7, ⟨ya8, yn8, ym8⟩⟩ := x5
          dsimp only [Xv.agg]
          have hbw5 : Below wr.heap.size wr w5 := hba.trans (hb5.mono hsa)
          have hs5 := hbw5.size
          have own5 := hown.old hbw5 (Nat.le_refl _)
          have HLO : Hid (∀ r, (Value.slice sa k sm).ownBlock = some r → B0 + 2 ≤ r ∧ r < wr.heap.size) := Lib.hid fun r hr => ⟨hown.low hr, hown.lt hr⟩
          clear hcall k0 k1 k2 k3 k4 k5 k6 k7 k8 hown HCALL
          obtain ⟨W6, hW6⟩ : ∃ W6, w5.alloc (.cells (Xv.cells ⟨yop, ynm, ykd, yb3, ⟨ya4, yn4, ym4⟩, yb5, ⟨ya6, yn6, ym6⟩, yi7, ⟨ya8, yn8, ym8⟩⟩) 45) = W6 := ⟨_, rfl⟩
          have q6 : Blk W6 w5.heap.size (Xv.cells ⟨yop, ynm, ykd, yb3, ⟨ya4, yn4, ym4⟩, yb5, ⟨ya6, yn6, ym6⟩, yi7, ⟨ya8, yn8, ym8⟩⟩) 45 := by rw [← hW6]; exact Blk.new _ _ _
          have hb6 : Below w5.heap.size w5 W6 := by rw [← hW6]; exact (Below.refl _ _).alloc (Nat.le_refl _) _
          have hs6 : W6.heap.size = w5.heap.size + 1 := by rw [← hW6]; simp
          have own6 := own5.old hb6 (Nat.le_refl _)
          have HS6 := Lib.hid hs6
          have hs6' : w5.heap.size + 1 ≤ W6.heap.size := by omega
          have hrow6 := blk_row q6
          have HROW := Lib.hid hrow6
          simp only [Xv.cells, S] at hW6
          have HW6 := Lib.hid hW6
          clear hW6 hs6 hrow6 q6
          go_wp2_with (at_builtin; rw [HW6.out]; refine wpList_append_rows rfl (.tmp 23) (.tmp 27) 43 rfl Try.underlying43 Try.infoExpr rfl (by decide) rfl own6 (b := w5.heap.size) (off := 0) (m := 1) (cap := 1) (ms := [(Xv.cells ⟨yop, ynm, ykd, yb3, ⟨ya4, yn4, ym4⟩, yb5, ⟨ya6, yn6, ym6⟩, yi7, ⟨ya8, yn8, ym8⟩⟩).toList]) rfl rfl (xv_row _) HROW.out (by decide) (by rw [HVL.out]; simp only [maxLen]; omega) (by rw [HVL.out]; omega) (by omega) ?_)
          intro g2 cap2 w7 hown7 hg7 hat7
          have hsz7 : W6.heap.size ≤ w7.heap.size := hg7.size
          have hb7 : Below (B0 + 2) wr w7 := (hbw5.mono hsr).trans ((hb6.mono (by omega)).trans (below_grown hg7 (fun r hr => (HLO.out r hr).1) (by omega)))
          have hA7 : ArgsZ (B0 + 2) w7 (some ⟨g2, 0, none⟩) cap2 ((es.take (k + 1)).map (renE m)) (vs ++ [⟨yop, ynm, ykd, yb3, ⟨ya4, yn4, ym4⟩, yb5, ⟨ya6, yn6, ym6⟩, yi7, ⟨ya8, yn8, ym8⟩⟩]) := by
            rw [HTS.out]
            refine HHA.out.snoc (lo := Wa.heap.size) (by omega) hsa hz5 hbw5 hb6 HS6.out (by rw [HQN.out]; exact hg7) (by rw [HQN.out]; exact hat7) ?_
            rw [HQN.out]
            rw [HVL.out] at hown7
            exact hown7
          have HHA7 := Lib.hid hA7
          try rw [HVL.out]
          clear hA7 hown7 HHA hz5 hg7 hat7 own6 own5
          go_wp2_with fail
          refine ⟨⟨k + 1, _, some ⟨g2, 0, none⟩, cap2, by omega, by go_num, rfl, HHA7.out, hq0.below hb7 (by omega), hq1.below hb7 (by omega), hbr.trans (hb7.mono (by omega)), by omega⟩, by simp [intOf]; omega⟩
        · obtain rfl : k = es.length := by omega
          rw [List.take_length] at hA
          rw [List.take_length] at hqn
          have hq0' : Blk (wr.setCell ⟨B0, 8, none⟩ (.slice sa es.length sm)) B0 (Xv.cells ⟨xop, xnm, kd, b3, ⟨a4, n4, m4⟩, b5, ⟨a6, n6, m6⟩, i7, ⟨sa, es.length, sm⟩⟩) 45 := hq0.set (i := 8) (.slice sa es.length sm)
          have hq1' := hq1.other (b' := B0) (i := 8) (by omega) (.slice sa es.length sm)
          have hfr := hq0.free 8
          have hbe := hbr.setCell (p := ⟨B0, 8, none⟩) (Nat.le_refl _) (.slice sa es.length sm)
          have hA' : ArgsZ (B0 + 2) (wr.setCell ⟨B0, 8, none⟩ (.slice sa es.length sm)) sa sm (es.map (renE m)) vs := hA.keep (fun r h1 h2 => Below.heap_setCell _ _ _ _ (by show r ≠ B0; omega)) (by simp)
          have hse : B0 + 2 ≤ (wr.setCell ⟨B0, 8, none⟩ (.slice sa es.length sm)).heap.size := by simp; exact hsr
          have d8 : wr.cell? ⟨B0, 8, none⟩ = some (.slice a8 es.length m8) := hq0.at rfl
          have HA' := Lib.hid hA'
          have HQN := Lib.hid hqn
          clear hA hq0 hq1 hbr hsr hA' hqn
          go_upto_region 10 with fail
          obtain ⟨We, hWe⟩ : ∃ We, wr.setCell ⟨B0, 8, none⟩ (.slice sa es.length sm) = We := ⟨_, rfl⟩
          rw [hWe] at hq0' hq1' hbe hse HA'
          try rw [hWe]
          clear hWe hfr d8
          obtain ⟨W9, hW9⟩ : ∃ W9 : World, We.setRow (B0 + 1) (Xv.cells ⟨xop, xnm, kd, b3, ⟨a4, n4, m4⟩, b5, ⟨a6, n6, m6⟩, i7, ⟨sa, es.length, sm⟩⟩) = W9 := ⟨_, rfl⟩
          have hg9 : We.grownBy W9 (some (B0 + 1)) := by
            rw [← hW9]
            refine ⟨rfl, rfl, rfl, by simp, fun r _ hr => ?_⟩
            have hr' : B0 + 1 ≠ r := fun e => hr (by rw [e])
            simp [World.setRow, Array.getElem?_modify, hr']
          have hq9 : Blk W9 (B0 + 1) (Xv.cells ⟨xop, xnm, kd, b3, ⟨a4, n4, m4⟩, b5, ⟨a6, n6, m6⟩, i7, ⟨sa, es.length, sm⟩⟩) 45 := by rw [← hW9]; exact setRow_heap _ _ _ _ _ _ hq1'
          have hA9 : ArgsZ (B0 + 2) W9 sa sm (es.map (renE m)) vs := HA'.out.keep (fun r h1 h2 => hg9.block r h2 (fun e => by cases e; omega)) hg9.size
          have hX : ExZ B0 W9 none (renE m (.mk xop xnm es)) ⟨xop, xnm, kd, b3, ⟨a4, n4, m4⟩, b5, ⟨a6, n6, m6⟩, i7, ⟨sa, es.length, sm⟩⟩ := by
            rw [HR2.out]
            have := hA9.node (op := xop) (nm := xnm) (x := ⟨xop, xnm, kd, b3, ⟨a4, n4, m4⟩, b5, ⟨a6, n6, m6⟩, i7, ⟨sa, es.length, sm⟩⟩) rfl rfl hnn (by rw [HQN.out])
            exact fun W hW => this W fun r h1 h2 h3 => hW r (by omega) h2 h3
          have hb9 : Below B0 w W9 := hbe.trans (below_grown hg9 (fun r hr => by cases hr; omega) (by omega))
          obtain ⟨f0, f1, f2, f3, f4, f5, f6, f7, f8⟩ := hq0'.nine
          obtain ⟨e0, e1, e2, e3, e4, e5, e6, e7, e8⟩ := hq9.nine
          have HW9 := Lib.hid hW9
          have HX := Lib.hid hX
          clear hW9 hA9 hX HA'
          go_wp2_with (first
            | (refine wpList_store_row rfl 45 (.tmp 4) (.tmp 32) rfl (B0 + 1) (Xv.cells ⟨xop, xnm, kd, b3, ⟨a4, n4, m4⟩, b5, ⟨a6, n6, m6⟩, i7, ⟨sa, es.length, sm⟩⟩) rfl rfl 45 _ hq1' (by exact infoEx) (by rfl) (all_oneCell_toArray (xv_one ⟨xop, xnm, kd, b3, ⟨a4, n4, m4⟩, b5, ⟨a6, n6, m6⟩, i7, ⟨sa, es.length, sm⟩⟩)) ?_; rw [HW9.out]))
          (try simp only [Exit.inBlock, Exit.then])
          refine bodyPost_ret (results_cell_row rfl _ _ (B0 + 1) 45 (Xv.cells ⟨xop, xnm, kd, b3, ⟨a4, n4, m4⟩, b5, ⟨a6, n6, m6⟩, i7, ⟨sa, es.length, sm⟩⟩) _ _ rfl hq9 Try.underlying45 rfl (by exact infoEx)) rfl ?_
          exact ⟨⟨xop, xnm, kd, b3, ⟨a4, n4, m4⟩, b5, ⟨a6, n6, m6⟩, i7, ⟨sa, es.length, sm⟩⟩, rfl, HX.out, hb9⟩

set_option maxRecDepth 100000 in
set_option maxHeartbeats 2000000 in
theorem marked_any (K : Nat) (v : Value) (l : List Str) (m : Str) (bb : Nat) (w : World) (hv : Strs K w v l) (hm : m.length ≤ 2 ^ 47) (hs : ∀ s ∈ l, s.length ≤ 2 ^ 47) (hbx : w.cell? ⟨bb, 0, none⟩ = some (S m)) (hbK : bb < w.heap.size) (hK : K ≤ w.heap.size) (hl : l.length ≤ 2 ^ 30) :
    Calls Try.prog 28 #[v, .pointer (some ⟨bb, 0, none⟩)] w fun e w' => ∃ x, e = .returned x ∧ OwnS w.heap.size w' x (l.map (· ++ m)) ∧ Below w.heap.size w w' := by
  obtain ⟨va, vcap, rfl, hv1, hv2⟩ := id hv.form
  unfold maxLen at hv2
  obtain ⟨B0, hB0⟩ : ∃ B0, w.heap.size = B0 := ⟨_, rfl⟩
  rw [hB0] at hbK hK ⊢
  have HSL := Lib.hid hs
  have hB0' : B0 ≤ w.heap.size := by omega
  clear hB0 hs
  go_enter Try.func28, Try.ntmps28
  go_wp2_with fail
  go_loopw [4, 9] (fun lv i wr => ∃ (k : Nat), k ≤ l.length ∧ i = .int .i64 k ∧ OwnS B0 wr lv ((l.take k).map (· ++ m)) ∧ Below B0 w wr ∧ B0 ≤ wr.heap.size) (fun _ i _ => l.length - (intOf i).toNat)
  case atStart => exact ⟨0, Nat.zero_le _, rfl, OwnS.nil _ _, Below.refl _ _, hB0'⟩
  case round =>
    obtain ⟨k, hk, rfl, hown, hbr, hsr⟩ := hrel
    obtain ⟨la, lc, rfl, hl1, hl2⟩ := hown.form
    have hml : ((l.take k).map (· ++ m)).length = k := by rw [List.length_map, List.length_take]; omega
    by_cases hlt : k < l.length
    · obtain ⟨b, o, cap, he, _, _, hbK', hc⟩ := hv.pos (by omega)
      simp only [Value.slice.injEq, true_and] at he
      obtain ⟨rfl, rfl⟩ := he
      have c0 := (hbr.cell (p := ⟨b, o + k, none⟩) (by show b < B0; omega)).trans (hc k hlt)
      have c1 := (hbr.cell (p := ⟨bb, 0, none⟩) hbK).trans hbx
      have hsl : (l[k]?.getD []).length ≤ 2 ^ 47 := by rw [List.getElem?_eq_getElem hlt]; exact HSL.out _ (List.getElem_mem hlt)
      have HTS : Hid ((l.take (k + 1)).map (· ++ m) = (l.take k).map (· ++ m) ++ [l[k]?.getD [] ++ m]) := Lib.hid (by rw [List.take_succ_eq_append_getElem hlt, List.map_append, List.getElem?_eq_getElem hlt]; rfl)
      obtain ⟨s, hs⟩ : ∃ s, l[k]?.getD [] = s := ⟨_, rfl⟩
      rw [hs] at c0 hsl HTS
      have hcat := str_app s m
      have hle : ¬ (9223372036854775807 < s.length + m.length) := by omega
      have hsm : (s ++ m).length ≤ maxLen := by rw [List.length_append]; simp only [maxLen]; omega
      have own5' := hown.old (w' := wr.alloc (.cells #[S (s ++ m)] 9)) ((Below.refl _ _).alloc (Nat.le_refl _) _) (Nat.le_refl _)
      have q3 := (Blk.new wr #[S (s ++ m)] 9).at (i := 0) rfl
      have HML := Lib.hid hml
      clear hc hs hml
      go_wp2_with (at_builtin; refine wpList_append_S rfl (.tmp 13) (.tmp 17) rfl rfl rfl own5' q3 hsm (by rw [HML.out]; omega) (by simp; omega) ?_; intro g4 cap4 w4 own4 hg4 hat4)
      have hlo : ∀ r, (Value.slice la ((l.take k).map (· ++ m)).length lc).ownBlock = some r → B0 ≤ r := fun r hr => (ownsRow_cells hown.1 hr).1
      have s4 := hg4.size
      simp only [World.size_alloc] at s4
      have b4 : Below B0 wr w4 := ((Below.refl B0 wr).alloc (by omega) (.cells #[S (s ++ m)] 9)).trans (below_grown hg4 (fun r hr => hlo r hr) (by simp; omega))
      rw [HML.out] at own4
      exact ⟨⟨k + 1, by omega, by go_num, by rw [HTS.out]; exact own4, hbr.trans b4, by omega⟩, by simp [intOf]; omega⟩
    · obtain rfl : k = l.length := by omega
      rw [List.take_length] at hown ⊢
      clear hml
      go_wp2_with fail
      go_ret
      exact ⟨_, rfl, hown, hbr⟩
end Go.Proofs.Ythbnbjigmgoldaa
