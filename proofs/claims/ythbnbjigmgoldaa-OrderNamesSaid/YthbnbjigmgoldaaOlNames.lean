/- OrderNames: the walk. The strings are of at most 2^47 bytes. No conditions beyond the readings of the arguments. -/
import Derived.Test.YthbnbjigmgoldaaOlCx
import Derived.Test.YthbnbjigmgoldaaOlRen
import Derived.Test.YthbnbjigmgoldaaOlRow
import Derived.Test.YthbnbjigmgoldaaORow0
import Derived.Test.YthbnbjigmgoldaaOlRchS
import Derived.Test.YthbnbjigmgoldaaOlSortS
import Derived.Test.YthbnbjigmgoldaaOCycle
import Derived.Test.YthbnbjigmgoldaaODepends
namespace Go.Proofs.Ythbnbjigmgoldaa
open Go.RowKit
set_option linter.unusedVariables false
structure ShortP (p : Pl) : Prop where
  d : ∀ d ∈ p.defs, d.1.length ≤ 2 ^ 47
  c : ∀ c ∈ p.cls, c.nm.length ≤ 2 ^ 47 ∧ Short c.wh ∧ Short c.th
theorem ShortP.names {p : Pl} (h : ShortP p) : ∀ s ∈ names p, s.length ≤ 2 ^ 47 := fun s hs => by
  unfold Go.Proofs.Ythbnbjigmgoldaa.names at hs
  rw [mem_dedup] at hs
  unfold defL at hs
  obtain ⟨d, hd, rfl⟩ := List.mem_map.1 hs
  exact h.d d (List.mem_filter.1 hd).1
theorem named_short {ns : List Str} (h : ∀ s ∈ ns, s.length ≤ 2 ^ 47) (l : List Nat) : ∀ s ∈ named ns l, s.length ≤ 2 ^ 47 := fun s hs => by
  unfold named at hs
  obtain ⟨i, _, rfl⟩ := List.mem_map.1 hs
  by_cases hi : i < ns.length
  · rw [List.getElem?_eq_getElem hi]; exact h _ (List.getElem_mem hi)
  · rw [List.getElem?_eq_none (by omega)]; simp
theorem orderL_short {p : Pl} (h : ShortP p) : ∀ s ∈ orderL p, s.length ≤ 2 ^ 47 := by
  unfold orderL
  split
  · exact named_short h.names _
  · intro s hs; simp at hs
theorem orderL_len40 {p : Pl} (h : (names p).length ≤ 40) : (orderL p).length ≤ 40 := by
  cases hob : ordB p with
  | true => rw [orderL_length hob]; exact h
  | false => rw [orderL_no hob]; simp
theorem cycle_len {p : Pl} : (cycle p).length ≤ (names p).length := by
  unfold cycle
  rw [named_length]
  by_cases hc : (taken (names p).length (gD p)).length < (names p).length
  · obtain ⟨_, h2, h3, _⟩ := cycle_spec (gD_lt p) hc
    exact nodup_le _ _ h2 h3
  · rw [cycle_none (by omega)]; simp
theorem at_short {ns : List Str} (h : ∀ s ∈ ns, s.length ≤ 2 ^ 47) (i : Nat) : (ns[i]?.getD []).length ≤ 2 ^ 47 := by
  by_cases hi : i < ns.length
  · rw [List.getElem?_eq_getElem hi]; exact h _ (List.getElem_mem hi)
  · rw [List.getElem?_eq_none (by omega)]; simp
theorem lsame_refl2 {l m : List Str} (e : l = m) {K : Nat} {u v : Value} {w : World} (hu : Strs K w u l) (hv : Strs K w v m) :
    Calls Try.prog 18 #[u, v] w fun e w' => e = .returned (.bool true) ∧ Below w.heap.size w w' := by
  subst e
  refine (lsame_any K u v l l w hu hv).mono ?_
  rintro e w' ⟨rfl, n, rfl⟩
  exact ⟨by rw [show (l == l) = true by simp], below_drewN (Below.refl _ _) n⟩
/-- The definitions that are marked. -/
def renD (m : Str) (l : List (Str × Bool)) : List (Str × Bool) := (l.filter fun d => !d.2).map fun d => (d.1 ++ m, false)
theorem renD_yes {m : Str} {l : List (Str × Bool)} {k : Nat} {s : Str} (h : l[k]? = some (s, true)) : renD m (l.take (k + 1)) = renD m (l.take k) := by
  have hk := (List.getElem?_eq_some_iff.1 h).1
  unfold renD
  rw [List.take_succ_eq_append_getElem hk, List.filter_append, show l[k] = (s, true) by rw [List.getElem?_eq_getElem hk] at h; exact Option.some.inj h]
  simp
theorem renD_no {m : Str} {l : List (Str × Bool)} {k : Nat} {s : Str} (h : l[k]? = some (s, false)) : renD m (l.take (k + 1)) = renD m (l.take k) ++ [(s ++ m, false)] := by
  have hk := (List.getElem?_eq_some_iff.1 h).1
  unfold renD
  rw [List.take_succ_eq_append_getElem hk, List.filter_append, List.map_append, show l[k] = (s, false) by rw [List.getElem?_eq_getElem hk] at h; exact Option.some.inj h]
  simp
theorem Try.infoDef : (Try.prog.info? 59).map (fun i => (i.zero, i.size, i.bytes)) = some (some (.agg #[.string ⟨#[]⟩, .int .u8 0, .bool false]), 3, 24) := by kernel_rfl
theorem df_cell {W : World} {b t : Nat} {d : (Str × Bool) × Int} (h : Blk W b #[S d.1.1, .int .u8 d.2, .bool d.1.2] t) : ∀ (i : Nat) (r : List Value) (j : Nat) (u : Value), [dfC d][i]? = some r → r[j]? = some u → W.cell? ⟨b, 0 + (i * 3 + j), none⟩ = some u := by
  intro i r j u hi hj
  have hi0 : i = 0 := by have := (List.getElem?_eq_some_iff.1 hi).1; simpa using this
  subst hi0
  simp only [List.getElem?_cons_zero, Option.some.injEq] at hi
  subst hi
  rw [Nat.zero_add, Nat.zero_mul, Nat.zero_add]
  exact h.at (by rw [← hj, ← Array.getElem?_toList])
/-- What the walk keeps: the plan's box, the mark's. -/
structure Mx (K : Nat) (nm : ByteArray) (vd vt vc : Value) (p : Pl) (m : Str) (w W : World) : Prop where
  cx : Cx K nm vd vt vc p w W
  mb : Blk W (w.heap.size + 1) #[S m] 9
theorem Mx.below {K : Nat} {nm : ByteArray} {vd vt vc : Value} {p : Pl} {m : Str} {w W W' : World} (h : Mx K nm vd vt vc p m w W) (hb : Below W.heap.size W W') : Mx K nm vd vt vc p m w W' := ⟨h.cx.below hb, h.mb.below hb h.mb.lt⟩
theorem Mx.from {K : Nat} {nm : ByteArray} {vd vt vc : Value} {p : Pl} {m : Str} {w W W' : World} {B : Nat} (h : Mx K nm vd vt vc p m w W) (hb : Below B W W') (hK : K ≤ w.heap.size) (hB : w.heap.size + 2 ≤ B) : Mx K nm vd vt vc p m w W' :=
  ⟨⟨h.cx.bel.trans (hb.mono (by omega)), h.cx.box.below hb (by omega), h.cx.plan.below hb (by omega) (Nat.le_refl _), Nat.le_trans h.cx.big hb.size⟩, h.mb.below hb (by omega)⟩

theorem ExZ.up {base : Nat} {w w' : World} {row : Option Nat} {e : Ex} {x : Xv} (h : ExZ base w row e x) (hb : Below w.heap.size w w') : ExZ base w' row e x := fun W hW =>
  h W fun r h1 h2 h3 => (hW r h1 (Nat.lt_of_lt_of_le h2 hb.size) h3).trans (hb.block r h2)
/-- Marked clauses that lie in a row of the call's own. -/
structure ClsZ (base : Nat) (w : World) (a : Option Addr) (m : Nat) (qs : List Cl) (vs : List Cv) : Prop where
  len : vs.length = qs.length
  own : OwnR 24 56 base w (.slice a qs.length m) (vs.map Cv.cl)
  each : ∀ (j : Nat) (x : Cl), qs[j]? = some x → (vs[j]?.getD default).nm = x.nm ∧ x.nm.length ≤ maxLen ∧ ExZ base w (Value.slice a qs.length m).ownBlock x.wh (vs[j]?.getD default).wh ∧ ExZ base w (Value.slice a qs.length m).ownBlock x.th (vs[j]?.getD default).th
theorem ClsZ.nil (base : Nat) (w : World) : ClsZ base w none 0 [] [] := ⟨rfl, OwnR.nil _ _ _ _, fun j e hj => by simp at hj⟩
theorem ClsZ.cls {base : Nat} {w : World} {a : Option Addr} {m : Nat} {qs : List Cl} {vs : List Cv} (h : ClsZ base w a m qs vs) : Cls w.heap.size w (.slice a qs.length m) qs :=
  OwnR.cls h.own h.len fun i x hx => let ⟨h1, h2, h3, h4⟩ := h.each i x hx; ⟨h1, h2, h3.here, h4.here⟩
theorem ClsZ.keep {base : Nat} {w w' : World} {a : Option Addr} {m : Nat} {qs : List Cl} {vs : List Cv} (h : ClsZ base w a m qs vs) (hk : ∀ r, base ≤ r → r < w.heap.size → w'.heap[r]? = w.heap[r]?) (hs : w.heap.size ≤ w'.heap.size) : ClsZ base w' a m qs vs := by
  refine ⟨h.len, ⟨ownsRow_at h.own.1 fun g hg => hk g (h.own.low hg) (h.own.lt hg), h.own.2⟩, fun j x hj => ?_⟩
  obtain ⟨h1, h2, h3, h4⟩ := h.each j x hj
  exact ⟨h1, h2, fun W hW => h3 W fun r a b c => (hW r a (by omega) c).trans (hk r a b), fun W hW => h4 W fun r a b c => (hW r a (by omega) c).trans (hk r a b)⟩
theorem ClsZ.snoc {base : Nat} {w w5 W6 w7 : World} {a : Option Addr} {m : Nat} {qs : List Cl} {vs : List Cv} (h : ClsZ base w a m qs vs) {q : Cl} {x : Cv} {lo g cap : Nat} (hlo : base ≤ lo) (hlw : w.heap.size ≤ lo) (hn : x.nm = q.nm) (hl : q.nm.length ≤ maxLen)
    (hx : ExZ lo w5 none q.wh x.wh) (hx' : ExZ lo w5 none q.th x.th)
    (hb : Below w.heap.size w w5) (hb6 : Below w5.heap.size w5 W6) (hs6 : W6.heap.size = w5.heap.size + 1) (hg : W6.grownBy w7 (Value.slice a qs.length m).ownBlock) (hat : (Value.slice a qs.length m).ownBlock = some g ∨ g = W6.heap.size)
    (hown : OwnR 24 56 base w7 (.slice (some ⟨g, 0, none⟩) (qs.length + 1) cap) (vs.map Cv.cl ++ [x.cl])) : ClsZ base w7 (some ⟨g, 0, none⟩) cap (qs ++ [q]) (vs ++ [x]) := by
  have hsz := hb.size
  have hs7 := hg.size
  refine ⟨by rw [List.length_append, List.length_append, h.len]; rfl, by rw [List.map_append, List.length_append, List.length_singleton]; exact hown, fun j z hj => ?_⟩
  rw [List.length_append, List.length_singleton]
  have hW' : ∀ W : World, (∀ r, base ≤ r → r < w7.heap.size → (Value.slice (some ⟨g, 0, none⟩) (qs.length + 1) cap).ownBlock ≠ some r → W.heap[r]? = w7.heap[r]?) → ∀ r, base ≤ r → r < w5.heap.size → (Value.slice a qs.length m).ownBlock ≠ some r → W.heap[r]? = w5.heap[r]? := by
    intro W hW r h1 h2 h3
    rw [hW r h1 (by omega) (fun e => by
      simp only [Value.ownBlock, Option.some.injEq] at e
      rcases hat with h4 | h4
      · exact h3 (by rw [h4, e])
      · omega)]
    rw [hg.block r (by omega) (fun e => h3 e.symm)]
    exact hb6.block r h2
  by_cases hjl : j < qs.length
  · rw [List.getElem?_append_left hjl] at hj
    rw [List.getElem?_append_left (by rw [h.len]; exact hjl)]
    obtain ⟨h1, h2, h3, h4⟩ := h.each j z hj
    exact ⟨h1, h2, fun W hW => h3 W fun r a b c => (hW' W hW r a (by omega) c).trans (hb.block r b), fun W hW => h4 W fun r a b c => (hW' W hW r a (by omega) c).trans (hb.block r b)⟩
  · have hjq : j = qs.length := by
      have := (List.getElem?_eq_some_iff.1 hj).1
      rw [List.length_append, List.length_singleton] at this
      omega
    subst hjq
    rw [List.getElem?_append_right (Nat.le_refl _), Nat.sub_self] at hj
    simp only [List.getElem?_cons_zero, Option.some.injEq] at hj
    subst hj
    rw [← h.len, List.getElem?_append_right (Nat.le_refl _), Nat.sub_self, h.len]
    have hno : ∀ r, lo ≤ r → (Value.slice a qs.length m).ownBlock ≠ some r := fun r hr e => by have := h.own.lt e; omega
    exact ⟨hn, hl, fun W hW => hx W fun r a b _ => hW' W hW r (by omega) b (hno r a), fun W hW => hx' W fun r a b _ => hW' W hW r (by omega) b (hno r a)⟩
theorem cl_row {W : World} {b t : Nat} {x : Cv} (h : Blk W b x.cl.toArray t) : ∀ (i : Nat) (r : List Value) (j : Nat) (u : Value), [x.cl][i]? = some r → r[j]? = some u → W.cell? ⟨b, 0 + (i * 24 + j), none⟩ = some u := by
  intro i r j u hi hj
  have hi0 : i = 0 := by have := (List.getElem?_eq_some_iff.1 hi).1; simpa using this
  subst hi0
  simp only [List.getElem?_cons_zero, Option.some.injEq] at hi
  subst hi
  rw [Nat.zero_add, Nat.zero_mul, Nat.zero_add]
  exact h.at (by rw [List.getElem?_toArray]; exact hj)
theorem cl_c {W : World} {b t : Nat} {x : Cv} (h : Blk W b x.cl.toArray t) {j : Nat} (hj : j < 24) : W.cell? ⟨b, j, none⟩ = some (x.cell j) := h.at (by rw [List.getElem?_toArray]; exact x.cl_at hj)
theorem cl_wh {W : World} {b t : Nat} {x : Cv} (h : Blk W b x.cl.toArray t) : W.cell? ⟨b, 6, none⟩ = some (.int .u8 x.wh.op) ∧ W.cell? ⟨b, 7, none⟩ = some (S x.wh.nm) ∧ W.cell? ⟨b, 8, none⟩ = some (.int .u8 x.wh.kd) ∧ W.cell? ⟨b, 9, none⟩ = some (.bool x.wh.b3) ∧
    W.cell? ⟨b, 10, none⟩ = some (.slice x.wh.s4.a x.wh.s4.n x.wh.s4.m) ∧ W.cell? ⟨b, 11, none⟩ = some (.bool x.wh.b5) ∧ W.cell? ⟨b, 12, none⟩ = some (.slice x.wh.s6.a x.wh.s6.n x.wh.s6.m) ∧ W.cell? ⟨b, 13, none⟩ = some (.int .i64 x.wh.i7) ∧ W.cell? ⟨b, 14, none⟩ = some (.slice x.wh.s8.a x.wh.s8.n x.wh.s8.m) :=
  ⟨cl_c h (by omega), cl_c h (by omega), cl_c h (by omega), cl_c h (by omega), cl_c h (by omega), cl_c h (by omega), cl_c h (by omega), cl_c h (by omega), cl_c h (by omega)⟩
theorem cl_th {W : World} {b t : Nat} {x : Cv} (h : Blk W b x.cl.toArray t) : W.cell? ⟨b, 15, none⟩ = some (.int .u8 x.th.op) ∧ W.cell? ⟨b, 16, none⟩ = some (S x.th.nm) ∧ W.cell? ⟨b, 17, none⟩ = some (.int .u8 x.th.kd) ∧ W.cell? ⟨b, 18, none⟩ = some (.bool x.th.b3) ∧
    W.cell? ⟨b, 19, none⟩ = some (.slice x.th.s4.a x.th.s4.n x.th.s4.m) ∧ W.cell? ⟨b, 20, none⟩ = some (.bool x.th.b5) ∧ W.cell? ⟨b, 21, none⟩ = some (.slice x.th.s6.a x.th.s6.n x.th.s6.m) ∧ W.cell? ⟨b, 22, none⟩ = some (.int .i64 x.th.i7) ∧ W.cell? ⟨b, 23, none⟩ = some (.slice x.th.s8.a x.th.s8.n x.th.s8.m) :=
  ⟨cl_c h (by omega), cl_c h (by omega), cl_c h (by omega), cl_c h (by omega), cl_c h (by omega), cl_c h (by omega), cl_c h (by omega), cl_c h (by omega), cl_c h (by omega)⟩
theorem renC_snoc {cs : List Cl} {k : Nat} {x : Cl} (m : Str) (h : cs[k]? = some x) : (cs.take (k + 1)).map (renC m) = (cs.take k).map (renC m) ++ [renC m x] := by
  have hk := (List.getElem?_eq_some_iff.1 h).1
  rw [List.take_succ_eq_append_getElem hk, List.map_append, show cs[k] = x by rw [List.getElem?_eq_getElem hk] at h; exact Option.some.inj h]; rfl
/-- What the walk keeps behind the loops. -/
structure Nx (K : Nat) (nm : ByteArray) (vd vt vc : Value) (p : Pl) (m : Str) (qb : Nat) (qd qc : Value) (w W : World) : Prop where
  mx : Mx K nm vd vt vc p m w W
  q : Blk W qb #[.string (nm ++ ⟨m.toArray⟩), qd, .slice none 0 0, qc] 26
  pq : PlanIs W.heap.size W qd qc (renP m p)
theorem Nx.below {K : Nat} {nm : ByteArray} {vd vt vc : Value} {p : Pl} {m : Str} {qb : Nat} {qd qc : Value} {w W W' : World} (h : Nx K nm vd vt vc p m qb qd qc w W) (hb : Below W.heap.size W W') : Nx K nm vd vt vc p m qb qd qc w W' :=
  ⟨h.mx.below hb, h.q.below hb h.q.lt, h.pq.below hb (Nat.le_refl _) hb.size⟩

set_option maxRecDepth 100000 in
set_option maxHeartbeats 16000000 in
theorem names_walk (K : Nat) (p : Pl) (nm : ByteArray) (vd vt vc : Value) (m : Str) (w : World) (h : PlanIs K w vd vc p) (hm : m.length ≤ 2 ^ 47) (hnm : nm.size ≤ 2 ^ 47) (hsh : ShortP p) (hK : K ≤ w.heap.size) :
    Calls Try.prog 9 #[.agg #[.string nm, vd, vt, vc], S m] w fun e w' => e = .returned (.bool true) ∧ Below w.heap.size w w' := by
  obtain ⟨da, dn, dm, rfl⟩ : ∃ a n m, vd = .slice a n m := by obtain ⟨g, hg, _⟩ := h.1; obtain ⟨a, m, hv, _⟩ := hg.form; exact ⟨a, _, m, hv⟩
  obtain ⟨ca, cn, cm, rfl⟩ : ∃ a n m, vc = .slice a n m := by obtain ⟨g, hg, _⟩ := h.2; obtain ⟨a, m, hv, _⟩ := hg.form; exact ⟨a, _, m, hv⟩
  have hx0 := Cx.start (nm := nm) (vt := vt) h hK
  obtain ⟨W1, hW1⟩ : ∃ W1, w.alloc (.cells #[.string nm, .slice da dn dm, vt, .slice ca cn cm] 26) = W1 := ⟨_, rfl⟩
  have hs1 : W1.heap.size = w.heap.size + 1 := by rw [← hW1]; simp
  rw [hW1] at hx0
  obtain ⟨W2, hW2⟩ : ∃ W2, W1.alloc (.cells #[S m] 9) = W2 := ⟨_, rfl⟩
  have hx : Mx K nm (.slice da dn dm) vt (.slice ca cn cm) p m w W2 := by
    have hb : Below W1.heap.size W1 W2 := by rw [← hW2]; exact (Below.refl _ _).alloc (Nat.le_refl _) _
    have hq : Blk W2 W1.heap.size #[S m] 9 := by rw [← hW2]; exact Blk.new W1 _ _
    rw [hs1] at hq
    exact ⟨hx0.below hb, hq⟩
  clear hx0
  have hf := few_any K p nm _ vt _ W2 hx.cx.plan hx.cx.big
  have hHW : Hid ((w.alloc (.cells #[.string nm, .slice da dn dm, vt, .slice ca cn cm] 26)).alloc (.cells #[S m] 9) = W2) := Lib.hid (by rw [hW1, hW2])
  clear hW1 hW2 hs1
  obtain ⟨d0, d1, d2, d3⟩ := hx.cx.box.four
  dsimp only [S] at hHW
  go_enter Try.func9, Try.ntmps9
  go_wp2_with fail
  rw [hHW.out]
  go_wp2_with fail
  refine hf.mono ?_
  rintro en w3 ⟨rfl, b2⟩
  replace hx := hx.below b2
  obtain ⟨fb, hfb⟩ : ∃ fb, fewB p = fb := ⟨_, rfl⟩
  rw [hfb]
  clear hf b2 d0 d1 d2 d3
  cases fb with
  | false =>
    go_wp2_with fail
    refine (awake_any w3).mono ?_
    rintro en w4 ⟨rfl, b3⟩
    go_wp2_with fail
    go_ret
    exact ⟨rfl, (hx.below b3).cx.bel⟩
  | true =>
    have hsz := few_size hfb
    have hnl := few_names hfb
    obtain ⟨hdl, hcl, hcs⟩ := few_parts hfb
    clear hfb
    obtain ⟨d0, d1, d2, d3⟩ := hx.cx.box.four
    have m0 : w3.cell? ⟨w.heap.size + 1, 0, none⟩ = some (S m) := hx.mb.at rfl
    have hle : ¬ (9223372036854775807 < nm.size + m.length) := by omega
    have hlt0 : w.heap.size < w3.heap.size := hx.cx.lt
    obtain ⟨dg, hdg, hdgi⟩ := h.1
    obtain ⟨da', dm', hde, hd1, hd2⟩ := hdg.form
    simp only [Value.slice.injEq] at hde
    obtain ⟨rfl, rfl, rfl⟩ := hde
    unfold maxLen at hd2
    obtain ⟨qb, hqb⟩ : ∃ qb, w3.heap.size = qb := ⟨_, rfl⟩
    obtain ⟨W4, hW4⟩ : ∃ W4, w3.alloc (.cells #[.string (nm ++ ⟨m.toArray⟩), .slice none 0 0, .slice none 0 0, .slice none 0 0] 26) = W4 := ⟨_, rfl⟩
    have b4 : Below w3.heap.size w3 W4 := by rw [← hW4]; exact (Below.refl _ _).alloc (Nat.le_refl _) _
    have q4 : Blk W4 qb #[.string (nm ++ ⟨m.toArray⟩), .slice none 0 0, .slice none 0 0, .slice none 0 0] 26 := by rw [← hW4, ← hqb]; exact Blk.new w3 _ _
    have s4 : W4.heap.size = qb + 1 := by rw [← hW4, ← hqb]; simp
    have hx4 := hx.below b4
    have hqb2 : w.heap.size + 2 ≤ qb := by have := hx.mb.lt; omega
    have HQB := Lib.hid hqb
    have HW4 := Lib.hid hW4
    have hs4 : qb + 1 ≤ W4.heap.size := by omega
    have hDGI := Lib.hid hdgi
    clear hW4 s4 hqb hdgi
    go_wp2_with fail
    simp only [HQB.out]
    rw [HW4.out]
    clear d0 d1 d2 d3 m0 hle hlt0 hx b4 HW4 HQB
    go_loopw [29] (fun i wr => ∃ (k : Nat) (ds : List ((Str × Bool) × Int)) (sa : Option Addr) (sn sm : Nat), k ≤ p.defs.length ∧ i = .int .i64 k ∧ Hid (ds.map (·.1) = renD m (p.defs.take k)) ∧ ds.length = sn ∧ sn ≤ k ∧ (∀ d ∈ ds, d.1.1.length ≤ maxLen) ∧ OwnR 3 59 (qb + 1) wr (.slice sa sn sm) (ds.map dfC) ∧ Blk wr qb #[.string (nm ++ ⟨m.toArray⟩), .slice sa sn sm, .slice none 0 0, .slice none 0 0] 26 ∧ Mx K nm (.slice da p.defs.length dm) vt (.slice ca cn cm) p m w wr ∧ qb + 1 ≤ wr.heap.size) (fun i _ => p.defs.length - (intOf i).toNat)
    case atStart => exact ⟨0, [], none, 0, 0, Nat.zero_le _, rfl, Lib.hid rfl, rfl, Nat.le_refl _, by simp, OwnR.nil _ _ _ _, q4, hx4, hs4⟩
    case round =>
      clear q4 hx4 hs4
      obtain ⟨k, ds, sa, sn, sm, hk, rfl, HD, hdn, hsk, hdsl, hown, hq, hx, hsr⟩ := hrel
      have HDN := Lib.hid hdn
      have HDSL := Lib.hid hdsl
      clear hdn hdsl
      by_cases hlt : k < p.defs.length
      · obtain ⟨b, oo, cap, he, _, _, hbK, hc⟩ := hdg.pos (by omega)
        simp only [Value.slice.injEq, true_and] at he
        obtain ⟨rfl, rfl⟩ := he
        have hcc := cells_below hx.cx.bel (Nat.lt_of_lt_of_le hbK hK) hc k hlt
        obtain ⟨g0, hgl, ⟨kd, g1⟩, g2⟩ := hDGI.out k hlt
        have c0 := hcc 0 (by omega)
        have c1 := hcc 1 (by omega)
        have c2 := hcc 2 (by omega)
        rw [g0] at c0
        rw [g1] at c1
        rw [g2] at c2
        rw [Nat.add_zero] at c0
        rw [← Nat.add_assoc] at c1 c2
        have hsl : (p.defs[k]?.getD ([], false)).1.length ≤ 2 ^ 47 := by rw [List.getElem?_eq_getElem hlt]; exact hsh.d _ (List.getElem_mem hlt)
        obtain ⟨⟨s, f⟩, hsf⟩ : ∃ z, p.defs[k]?.getD ([], false) = z := ⟨_, rfl⟩
        have hat : p.defs[k]? = some (s, f) := by rw [List.getElem?_eq_getElem hlt] at hsf ⊢; exact congrArg some hsf
        rw [hsf] at c0 c2 hsl
        dsimp only at c0 c2 hsl
        have q1 : wr.cell? ⟨qb, 1, none⟩ = some (.slice sa sn sm) := hq.at rfl
        have m0 : wr.cell? ⟨w.heap.size + 1, 0, none⟩ = some (S m) := hx.mb.at rfl
        have hfr := hq.free 1
        have hqlt : qb < wr.heap.size := hq.lt
        have hmlt : w.heap.size + 1 < wr.heap.size := hx.mb.lt
        clear hcc hc g0 g1 g2 hgl hsf
        have hq' := hq.alloc (.cells #[S s, .int .u8 kd, .bool f] 59)
        cases f with
        | true =>
          have HD2 := Lib.hid (renD_yes (m := m) hat)
          clear hat
          go_wp2_with fail
          exact ⟨⟨k + 1, ds, sa, sn, sm, by omega, by go_num, by rw [HD2.out]; exact HD, HDN.out, by omega, HDSL.out, hown.old ((Below.refl _ _).alloc (Nat.le_refl _) _) (Nat.le_refl _), hq', hx.below ((Below.refl _ _).alloc (Nat.le_refl _) _), by simp; omega⟩, by simp [intOf]; omega⟩
        | false =>
          have HD2 := Lib.hid (renD_no (m := m) hat)
          have hcat := str_app s m
          have hle : ¬ (9223372036854775807 < s.length + m.length) := by omega
          have hsm : (s ++ m).length ≤ maxLen := by rw [List.length_append]; simp only [maxLen]; omega
          have HDC : Hid ((ds.map dfC).length = sn) := Lib.hid (by rw [List.length_map]; exact HDN.out)
          obtain ⟨W5, hW5⟩ : ∃ W5, (wr.alloc (.cells #[S s, .int .u8 kd, .bool false] 59)).alloc (.cells #[S (s ++ m), .int .u8 ((kd + 1) % 256), .bool false] 59) = W5 := ⟨_, rfl⟩
          have b5 : Below wr.heap.size wr W5 := by rw [← hW5]; exact ((Below.refl _ _).alloc (Nat.le_refl _) _).alloc (by simp) _
          have q5 : Blk W5 (wr.heap.size + 1) #[S (s ++ m), .int .u8 ((kd + 1) % 256), .bool false] 59 := by
            rw [← hW5]
            have := Blk.new (wr.alloc (.cells #[S s, .int .u8 kd, .bool false] 59)) #[S (s ++ m), .int .u8 ((kd + 1) % 256), .bool false] 59
            rw [World.size_alloc] at this
            exact this
          have s5 : wr.heap.size + 2 ≤ W5.heap.size := by rw [← hW5]; simp
          have own5 := hown.old b5 (Nat.le_refl _)
          have HROW := Lib.hid (df_cell (d := ((s ++ m, false), (kd + 1) % 256)) q5)
          dsimp only [S] at hW5
          have HW5 := Lib.hid hW5
          have HLO : Hid (∀ r, (Value.slice sa sn sm).ownBlock = some r → qb + 1 ≤ r ∧ r < wr.heap.size) := Lib.hid fun r hr => ⟨hown.low hr, hown.lt hr⟩
          clear hat hW5 q5 hq' hown
          go_wp2_with (at_builtin; rw [HW5.out]; refine wpList_append_rows rfl (.tmp 37) (.tmp 46) 22 rfl Try.underlying22 Try.infoDef rfl (by decide) rfl own5 (b := wr.heap.size + 1) (off := 0) (m := 1) (cap := 1) (ms := [dfC ((s ++ m, false), (kd + 1) % 256)]) rfl rfl (RowsOk.one rfl (by intro u hu; simp at hu; rcases hu with rfl | rfl | rfl <;> rfl)) HROW.out (by decide) (by rw [HDC.out]; simp only [maxLen]; omega) (by rw [HDC.out]; omega) (by omega) ?_)
          intro g2 cap2 w7 hown7 hg7 hat7
          have sz7 : W5.heap.size ≤ w7.heap.size := hg7.size
          have bq : ∀ r, r ≤ qb → r < W5.heap.size → w7.heap[r]? = W5.heap[r]? := fun r h1 h2 => hg7.block r h2 (fun e => by have := HLO.out _ e.symm; omega)
          have hq7 : Blk w7 qb #[.string (nm ++ ⟨m.toArray⟩), .slice sa sn sm, .slice none 0 0, .slice none 0 0] 26 := (hq.below b5 hq.lt).kept hg7 (fun e => by have := HLO.out _ e.symm; omega)
          have b7 : Below (qb + 1) wr w7 := (b5.mono hsr).trans (below_grown hg7 (fun r hr => (HLO.out r hr).1) (by omega))
          have hx7 := hx.from b7 hK (by omega)
          have g9 := hq7.free 1
          have g8 : w7.cell? ⟨qb, 1, none⟩ = some (.slice sa sn sm) := hq7.at rfl
          first | rw [HDC.out] at hown7 | rw [HDN.out] at hown7
          rw [show ds.map dfC ++ [dfC ((s ++ m, false), (kd + 1) % 256)] = (ds ++ [((s ++ m, false), (kd + 1) % 256)]).map dfC by simp] at hown7
          have hge : g2 ≠ qb := by
            intro e
            rcases hat7 with h4 | h4
            · have := HLO.out _ h4; omega
            · omega
          have hown8 := hown7.kept (grownBy_setCell w7 qb 1 (.slice (some ⟨g2, 0, none⟩) (sn + 1) cap2)) (.inr (fun e => by simp only [Value.ownBlock, Option.some.injEq] at e; exact hge e))
          have hq8 : Blk (w7.setCell ⟨qb, 1, none⟩ (.slice (some ⟨g2, 0, none⟩) (sn + 1) cap2)) qb #[.string (nm ++ ⟨m.toArray⟩), .slice (some ⟨g2, 0, none⟩) (sn + 1) cap2, .slice none 0 0, .slice none 0 0] 26 := hq7.set (i := 1) _
          have hx8 := hx7.from (W' := w7.setCell ⟨qb, 1, none⟩ (.slice (some ⟨g2, 0, none⟩) (sn + 1) cap2)) (B := qb) ((Below.refl qb w7).setCell (p := ⟨qb, 1, none⟩) (Nat.le_refl _) _) hK hqb2
          first | rw [HDC.out] | rw [HDN.out] | skip
          have HO8 := Lib.hid hown8
          have HX8 := Lib.hid hx8
          have HQ8 := Lib.hid hq8
          clear hown7 hown8 hx8 hq8 own5 hg7 hat7 bq hcat
          go_wp2_with fail
          refine ⟨⟨k + 1, ds ++ [((s ++ m, false), (kd + 1) % 256)], some ⟨g2, 0, none⟩, sn + 1, cap2, by omega, by go_num, Lib.hid (by rw [List.map_append, HD.out, HD2.out]; rfl), by rw [List.length_append, HDN.out]; rfl, by omega, fun d hd => ?_, HO8.out, HQ8.out, HX8.out, by simp; omega⟩, by simp [intOf]; omega⟩
          rcases List.mem_append.1 hd with hd | hd
          · exact HDSL.out d hd
          · rw [List.mem_singleton.1 hd]; exact hsm
      · obtain rfl : k = p.defs.length := by omega
        rw [List.take_length] at HD
        obtain ⟨d0, d1, d2, d3⟩ := hx.cx.box.four
        obtain ⟨cg, hcg, hcgi⟩ := h.2
        obtain ⟨ca', cm', hce, hc1, hc2⟩ := hcg.form
        simp only [Value.slice.injEq] at hce
        obtain ⟨rfl, rfl, rfl⟩ := hce
        unfold maxLen at hc2
        have HCG := Lib.hid hcgi
        have hr0 : qb + 1 ≤ wr.heap.size := hsr
        clear hcgi hsr
        go_wp2_with fail
        clear d0 d1 d2 d3
        obtain ⟨wo, rfl⟩ : ∃ wo : World, wo = wr := ⟨_, rfl⟩
        go_loopw [53] (fun i wr => ∃ (k : Nat) (vs : List Cv) (va : Option Addr) (vm : Nat), k ≤ p.cls.length ∧ i = .int .i64 k ∧ ClsZ (qb + 1) wr va vm ((p.cls.take k).map (renC m)) vs ∧ OwnR 3 59 (qb + 1) wr (.slice sa sn sm) (ds.map dfC) ∧ (∀ g, (Value.slice sa sn sm).ownBlock = some g → (Value.slice va k vm).ownBlock ≠ some g) ∧ Blk wr qb #[.string (nm ++ ⟨m.toArray⟩), .slice sa sn sm, .slice none 0 0, .slice va k vm] 26 ∧ Mx K nm (.slice da p.defs.length dm) vt (.slice ca p.cls.length cm) p m w wr ∧ qb + 1 ≤ wr.heap.size) (fun i _ => p.cls.length - (intOf i).toNat)
        case atStart => exact ⟨0, [], none, 0, Nat.zero_le _, rfl, ClsZ.nil _ _, hown, fun g _ e => by simp [Value.ownBlock] at e, hq, hx, hr0⟩
        case round =>
          clear hown hq hx hr0
          obtain ⟨k, vs, va, vm, hk, rfl, hZ, hown, hne, hq, hx, hsr⟩ := hrel
          have hqn : ((p.cls.take k).map (renC m)).length = k := by rw [List.length_map, List.length_take]; omega
          by_cases hlt : k < p.cls.length
          · obtain ⟨b, oc, cap, he, _, _, hbK, hc⟩ := hcg.pos (by omega)
            simp only [Value.slice.injEq, true_and] at he
            obtain ⟨rfl, rfl⟩ := he
            have hcc := cl_range (cells_below hx.cx.bel (Nat.lt_of_lt_of_le hbK hK) hc) hlt
            obtain ⟨x, hxk⟩ : ∃ x, p.cls[k]? = some x := ⟨_, List.getElem?_eq_getElem hlt⟩
            have hxx := HCG.out k x hxk
            obtain ⟨c, hcd⟩ : ∃ c, cg k = c := ⟨_, rfl⟩
            rw [hcd] at hcc hxx
            obtain ⟨hxn, hxl, hxw, hxt⟩ := hxx
            obtain ⟨hcn, hcw, hct⟩ := hsh.c x (List.mem_of_getElem? hxk)
            have hpl : x.wh.parts ≤ 300 ∧ x.th.parts ≤ 300 := by have := parts_le_clSize (List.mem_of_getElem? hxk); omega
            have HSN := Lib.hid (renC_snoc m hxk)
            rw [← hxn] at hcn
            obtain ⟨wc, hwc⟩ : ∃ wc, wr.alloc (.cells c.cl.toArray 56) = wc := ⟨_, rfl⟩
            obtain ⟨cb, hcb⟩ : ∃ cb, wr.heap.size = cb := ⟨_, rfl⟩
            have hqc : Blk wc cb c.cl.toArray 56 := by rw [← hwc, ← hcb]; exact Blk.new wr _ _
            have bwc : Below wr.heap.size wr wc := by rw [← hwc]; exact (Below.refl _ _).alloc (Nat.le_refl _) _
            have swc : wc.heap.size = cb + 1 := by rw [← hwc, ← hcb]; simp
            have hqcb : qb < cb := by omega
            have hmcb : w.heap.size + 1 < cb := by have := hx.mb.lt; omega
            have hcat := str_app c.nm m
            have hle : ¬ (9223372036854775807 < c.nm.length + m.length) := by omega
            have HXN := Lib.hid hxn
            have HWC := Lib.hid hwc
            have HCB := Lib.hid hcb
            have HQN := Lib.hid hqn
            have HSWC := Lib.hid swc
            have hswc : cb + 1 ≤ wc.heap.size := by omega
            have hcb' : cb ≤ wr.heap.size := by omega
            have hcb2 : wr.heap.size ≤ cb := by omega
            have hxc := hx.below bwc
            have hq6 := hq.below bwc hq.lt
            have hown6 := hown.old bwc (Nat.le_refl _)
            have hzo := hZ.own
            rw [hqn] at hzo
            have HLO : Hid (∀ r, (Value.slice va k vm).ownBlock = some r → qb + 1 ≤ r ∧ r < wr.heap.size) := Lib.hid fun r hr => ⟨hzo.low hr, hzo.lt hr⟩
            have hzo6 := hzo.old bwc (Nat.le_refl _)
            have hvl : (vs.map Cv.cl).length = k := by rw [List.length_map, hZ.len, hqn]
            have HVL := Lib.hid hvl
            have HZ := Lib.hid hZ
            have HNE := Lib.hid hne
            have HQC := Lib.hid hqc
            have hoth : Below K w w := Below.refl _ _
            clear hc hcd hxn hwc hcb hqn swc hqc hx hq hown hzo hvl hZ hne hxk hoth
            go_upto_region 13 with (first
                | (refine wpList_load_mid rfl 56 (.tmp 55) rfl b (oc + k * 24) rfl c.cl _ hcc Try.underlying56 rfl (infoCl' c) ?_)
                | (refine wpList_store_cl rfl (.tmp 9) (.tmp 56) rfl c _ (by rfl) rfl rfl ?_; rw [HWC.out, HCB.out]))
            clear hcc
            go_frame
            refine wp_onlyN ?_
            refine region_plain (fun W => Blk W cb c.cl.toArray 56 ∧ Blk W qb #[.string (nm ++ ⟨m.toArray⟩), .slice sa sn sm, .slice none 0 0, .slice va k vm] 26 ∧ Blk W (w.heap.size + 1) #[S m] 9) [21] (by kernel_rfl) ?_
            have qS : (fun W => Blk W cb c.cl.toArray 56 ∧ Blk W qb #[.string (nm ++ ⟨m.toArray⟩), .slice sa sn sm, .slice none 0 0, .slice va k vm] 26 ∧ Blk W (w.heap.size + 1) #[S m] 9) wc.drew := ⟨HQC.out, hq6, hxc.mb⟩
            have bd : Below wc.heap.size wc wc.drew := (Below.refl _ wc).drew
            obtain ⟨wd, hwd⟩ : ∃ wd, wc.drew = wd := ⟨_, rfl⟩
            rw [hwd] at qS bd ⊢
            have sd : wc.heap.size ≤ wd.heap.size := bd.size
            clear hwd
            refine wpAnyD_take (i := 0) (v := .pointer (some ⟨qb, 3, none⟩)) rfl (by kernel_rfl) (by kernel_rfl) (by kernel_rfl) (by kernel_rfl) (by kernel_rfl) (fun _ _ _ h => h) (.inl ⟨by kernel_rfl, fun W' hS => by go_simp⟩) qS ?_
            refine wpAnyD_take (i := 1) (v := .slice va k vm) rfl (by kernel_rfl) (by kernel_rfl) (by kernel_rfl) (by kernel_rfl) (by kernel_rfl) (fun _ _ _ h => h) (.inl ⟨by kernel_rfl, fun W' hS => by obtain ⟨e0, e1, e2, e3⟩ := Blk.four hS.2.1; go_simp⟩) qS ?_
            refine wpAnyD_take (i := 2) (v := .pointer (some ⟨cb, 0, none⟩)) rfl (by kernel_rfl) (by kernel_rfl) (by kernel_rfl) (by kernel_rfl) (by kernel_rfl) (fun _ _ _ h => h) (.inl ⟨by kernel_rfl, fun W' hS => by go_simp⟩) qS ?_
            refine wpAnyD_take (i := 3) (v := S c.nm) rfl (by kernel_rfl) (by kernel_rfl) (by kernel_rfl) (by kernel_rfl) (by kernel_rfl) (fun _ _ _ h => h) (.inl ⟨by kernel_rfl, fun W' hS => by have e0 : W'.cell? ⟨cb, 0, none⟩ = some (S c.nm) := cl_c hS.1 (by omega); go_simp⟩) qS ?_
            refine wpAnyD_take (i := 4) (v := S m) rfl (by kernel_rfl) (by kernel_rfl) (by kernel_rfl) (by kernel_rfl) (by kernel_rfl) (fun _ _ _ h => h) (.inl ⟨by kernel_rfl, fun W' hS => by have e0 : W'.cell? ⟨w.heap.size + 1, 0, none⟩ = some (S m) := hS.2.2.at rfl; go_simp⟩) qS ?_
            refine wpAnyD_take (i := 5) (v := S (c.nm ++ m)) rfl (by kernel_rfl) (by kernel_rfl) (by kernel_rfl) (by kernel_rfl) (by kernel_rfl) (fun _ _ _ h => h) (.inl ⟨by kernel_rfl, fun W' hS => by go_simp⟩) qS ?_
            refine wpAnyD_take (i := 6) (v := .pointer (some ⟨cb, 5, none⟩)) rfl (by kernel_rfl) (by kernel_rfl) (by kernel_rfl) (by kernel_rfl) (by kernel_rfl) (fun _ _ _ h => h) (.inl ⟨by kernel_rfl, fun W' hS => by go_simp⟩) qS ?_
            refine wpAnyD_take (i := 7) (v := .bool c.off) rfl (by kernel_rfl) (by kernel_rfl) (by kernel_rfl) (by kernel_rfl) (by kernel_rfl) (fun _ _ _ h => h) (.inl ⟨by kernel_rfl, fun W' hS => by have e0 : W'.cell? ⟨cb, 5, none⟩ = some (.bool c.off) := cl_c hS.1 (by omega); go_simp⟩) qS ?_
            refine wpAnyD_take (i := 8) (v := .bool (!c.off)) rfl (by kernel_rfl) (by kernel_rfl) (by kernel_rfl) (by kernel_rfl) (by kernel_rfl) (fun _ _ _ h => h) (.inl ⟨by kernel_rfl, fun W' hS => by go_simp⟩) qS ?_
            refine wpAnyD_take (i := 9) (v := .pointer (some ⟨cb, 6, none⟩)) rfl (by kernel_rfl) (by kernel_rfl) (by kernel_rfl) (by kernel_rfl) (by kernel_rfl) (fun _ _ _ h => h) (.inl ⟨by kernel_rfl, fun W' hS => by go_simp⟩) qS ?_
            refine wpAnyD_take (i := 10) (v := c.wh.agg) rfl (by kernel_rfl) (by kernel_rfl) (by kernel_rfl) (by kernel_rfl) (by kernel_rfl) (fun _ _ _ h => h) (.inl ⟨by kernel_rfl, fun W' hS => by obtain ⟨e0, e1, e2, e3, e4, e5, e6, e7, e8⟩ := cl_wh hS.1; dsimp only [Xv.agg]; go_simp⟩) qS ?_
            refine wpAnyD_take (i := 11) (v := S m) rfl (by kernel_rfl) (by kernel_rfl) (by kernel_rfl) (by kernel_rfl) (by kernel_rfl) (fun _ _ _ h => h) (.inl ⟨by kernel_rfl, fun W' hS => by have e0 : W'.cell? ⟨w.heap.size + 1, 0, none⟩ = some (S m) := hS.2.2.at rfl; go_simp⟩) qS ?_
            refine wpAnyD_take (i := 13) (v := .pointer (some ⟨cb, 15, none⟩)) rfl (by kernel_rfl) (by kernel_rfl) (by kernel_rfl) (by kernel_rfl) (by kernel_rfl) (fun _ _ _ h => h) (.inl ⟨by kernel_rfl, fun W' hS => by go_simp⟩) qS ?_
            refine wpAnyD_take (i := 14) (v := c.th.agg) rfl (by kernel_rfl) (by kernel_rfl) (by kernel_rfl) (by kernel_rfl) (by kernel_rfl) (fun _ _ _ h => h) (.inl ⟨by kernel_rfl, fun W' hS => by obtain ⟨e0, e1, e2, e3, e4, e5, e6, e7, e8⟩ := cl_th hS.1; dsimp only [Xv.agg]; go_simp⟩) qS ?_
            refine wpAnyD_take (i := 15) (v := S m) rfl (by kernel_rfl) (by kernel_rfl) (by kernel_rfl) (by kernel_rfl) (by kernel_rfl) (fun _ _ _ h => h) (.inl ⟨by kernel_rfl, fun W' hS => by have e0 : W'.cell? ⟨w.heap.size + 1, 0, none⟩ = some (S m) := hS.2.2.at rfl; go_simp⟩) qS ?_
            have hr1 := renamed_any K m hm _ x.wh (Nat.le_refl _) c.wh wd (hxw.below ((hxc.cx.bel).trans (bd.mono (by omega))) hK (Nat.le_refl _)) (by omega) (by omega) hcw
            refine wpAnyD_one (i := 12) (by kernel_rfl) rfl (by kernel_rfl) ?_
            go_simp
            refine hr1.mono ?_
            rintro en w12 ⟨y, rfl, hy, b12⟩
            obtain ⟨y0, y1, y2, y3, ⟨y4, y5, y6⟩, y7, ⟨y8, y9, y10⟩, y11, ⟨y12, y13, y14⟩⟩ := y
            have s12 := b12.size
            have bw12 : Below wc.heap.size wc w12 := bd.trans (b12.mono sd)
            have qS : (fun W => Blk W cb c.cl.toArray 56 ∧ Blk W qb #[.string (nm ++ ⟨m.toArray⟩), .slice sa sn sm, .slice none 0 0, .slice va k vm] 26 ∧ Blk W (w.heap.size + 1) #[S m] 9) w12 := ⟨HQC.out.below bw12 HQC.out.lt, hq6.below bw12 hq6.lt, hxc.mb.below bw12 hxc.mb.lt⟩
            have hr2 := renamed_any K m hm _ x.th (Nat.le_refl _) c.th w12 (hxt.below ((hxc.cx.bel).trans (bw12.mono (by omega))) hK (Nat.le_refl _)) (by omega) (by omega) hct
            clear hr1
            dsimp only [Xv.agg]
            go_simp
            try refine ⟨qS, ?_⟩
            refine wpAnyD_one (i := 16) (by kernel_rfl) rfl (by kernel_rfl) ?_
            go_simp
            refine hr2.mono ?_
            rintro en w16 ⟨z, rfl, hz, b16⟩
            obtain ⟨z0, z1, z2, z3, ⟨z4, z5, z6⟩, z7, ⟨z8, z9, z10⟩, z11, ⟨z12, z13, z14⟩⟩ := z
            have s16 := b16.size
            have bw16 : Below wc.heap.size wc w16 := bw12.trans (b16.mono (by omega))
            have bwr16 : Below wr.heap.size wr w16 := bwc.trans (bw16.mono (by omega))
            have qS : (fun W => Blk W cb c.cl.toArray 56 ∧ Blk W qb #[.string (nm ++ ⟨m.toArray⟩), .slice sa sn sm, .slice none 0 0, .slice va k vm] 26 ∧ Blk W (w.heap.size + 1) #[S m] 9) w16 := ⟨HQC.out.below bw16 HQC.out.lt, hq6.below bw16 hq6.lt, hxc.mb.below bw16 hxc.mb.lt⟩
            have HYZ : Hid (ExZ wd.heap.size w16 none (renE m x.wh) ⟨y0, y1, y2, y3, ⟨y4, y5, y6⟩, y7, ⟨y8, y9, y10⟩, y11, ⟨y12, y13, y14⟩⟩ ∧ ExZ wd.heap.size w16 none (renE m x.th) ⟨z0, z1, z2, z3, ⟨z4, z5, z6⟩, z7, ⟨z8, z9, z10⟩, z11, ⟨z12, z13, z14⟩⟩) := Lib.hid ⟨hy.up b16, fun W hW => hz W fun r a b c => hW r (by omega) b c⟩
            clear hr2 hy hz
            dsimp only [Xv.agg]
            go_simp
            try refine ⟨qS, ?_⟩
            refine wpAnyD_one (i := 17) (by kernel_rfl) rfl (by kernel_rfl) ?_
            go_simp
            try refine ⟨qS, ?_⟩
            refine wpAnyD_one (i := 18) (by kernel_rfl) rfl (by kernel_rfl) ?_
            go_simp
            have b6 : Below w16.heap.size w16 (w16.alloc (.cells (Cv.cl ⟨c.nm ++ m, [], 0, 0, 0, !c.off, ⟨y0, y1, y2, y3, ⟨y4, y5, y6⟩, y7, ⟨y8, y9, y10⟩, y11, ⟨y12, y13, y14⟩⟩, ⟨z0, z1, z2, z3, ⟨z4, z5, z6⟩, z7, ⟨z8, z9, z10⟩, z11, ⟨z12, z13, z14⟩⟩⟩).toArray 56)) := (Below.refl _ _).alloc (Nat.le_refl _) _
            have hs6 : (w16.alloc (.cells (Cv.cl ⟨c.nm ++ m, [], 0, 0, 0, !c.off, ⟨y0, y1, y2, y3, ⟨y4, y5, y6⟩, y7, ⟨y8, y9, y10⟩, y11, ⟨y12, y13, y14⟩⟩, ⟨z0, z1, z2, z3, ⟨z4, z5, z6⟩, z7, ⟨z8, z9, z10⟩, z11, ⟨z12, z13, z14⟩⟩⟩).toArray 56)).heap.size = w16.heap.size + 1 := by simp
            have HS6 := Lib.hid hs6
            have hs6' := Nat.le_of_eq hs6.symm
            have qS6 : (fun W => Blk W cb c.cl.toArray 56 ∧ Blk W qb #[.string (nm ++ ⟨m.toArray⟩), .slice sa sn sm, .slice none 0 0, .slice va k vm] 26 ∧ Blk W (w.heap.size + 1) #[S m] 9) (w16.alloc (.cells (Cv.cl ⟨c.nm ++ m, [], 0, 0, 0, !c.off, ⟨y0, y1, y2, y3, ⟨y4, y5, y6⟩, y7, ⟨y8, y9, y10⟩, y11, ⟨y12, y13, y14⟩⟩, ⟨z0, z1, z2, z3, ⟨z4, z5, z6⟩, z7, ⟨z8, z9, z10⟩, z11, ⟨z12, z13, z14⟩⟩⟩).toArray 56)) := ⟨qS.1.below b6 qS.1.lt, qS.2.1.below b6 qS.2.1.lt, qS.2.2.below b6 qS.2.2.lt⟩
            have own6 : OwnR 24 56 (qb + 1) (w16.alloc (.cells (Cv.cl ⟨c.nm ++ m, [], 0, 0, 0, !c.off, ⟨y0, y1, y2, y3, ⟨y4, y5, y6⟩, y7, ⟨y8, y9, y10⟩, y11, ⟨y12, y13, y14⟩⟩, ⟨z0, z1, z2, z3, ⟨z4, z5, z6⟩, z7, ⟨z8, z9, z10⟩, z11, ⟨z12, z13, z14⟩⟩⟩).toArray 56)) (.slice va k vm) (vs.map Cv.cl) := (hzo6.old bw16 (Nat.le_refl _)).old b6 (Nat.le_refl _)
            have HROW := Lib.hid (cl_row (Blk.new w16 (Cv.cl ⟨c.nm ++ m, [], 0, 0, 0, !c.off, ⟨y0, y1, y2, y3, ⟨y4, y5, y6⟩, y7, ⟨y8, y9, y10⟩, y11, ⟨y12, y13, y14⟩⟩, ⟨z0, z1, z2, z3, ⟨z4, z5, z6⟩, z7, ⟨z8, z9, z10⟩, z11, ⟨z12, z13, z14⟩⟩⟩).toArray 56))
            clear hs6
            try refine ⟨qS6, ?_⟩
            refine wpAnyD_one (i := 19) (by kernel_rfl) rfl (by kernel_rfl) ?_
            refine wp_append_rows (.tmp 58) (.tmp 75) 24 rfl Try.underlying24 Try.infoClause (by kernel_rfl) (by decide) (by kernel_rfl) own6 (b := w16.heap.size) (off := 0) (m := 1) (cap := 1) (ms := [Cv.cl ⟨c.nm ++ m, [], 0, 0, 0, !c.off, ⟨y0, y1, y2, y3, ⟨y4, y5, y6⟩, y7, ⟨y8, y9, y10⟩, y11, ⟨y12, y13, y14⟩⟩, ⟨z0, z1, z2, z3, ⟨z4, z5, z6⟩, z7, ⟨z8, z9, z10⟩, z11, ⟨z12, z13, z14⟩⟩⟩]) (by kernel_rfl) rfl (RowsOk.one (Cv.cl_length _) (Cv.cl_one _)) HROW.out (by decide) (by rw [HVL.out]; simp only [maxLen]; omega) (by rw [HVL.out]; omega) (by rw [World.size_alloc]; omega) ?_
            intro g2 cap2 w7 hown7 hg7 hat7
            have sz7 := hg7.size
            simp only [World.size_alloc] at sz7
            have b67 : Below (qb + 1) w16 w7 := (b6.mono (by omega)).trans (below_grown hg7 (fun r hr => (HLO.out r hr).1) (by omega))
            have bwr7 : Below (qb + 1) wr w7 := (bwr16.mono hsr).trans b67
            have hx7 := hxc.from ((bw16.mono (by omega)).trans b67) hK (by omega)
            have hq7 : Blk w7 qb #[.string (nm ++ ⟨m.toArray⟩), .slice sa sn sm, .slice none 0 0, .slice va k vm] 26 := hq6.below ((bw16.mono (by omega)).trans b67) (by omega)
            have hc7 : Blk w7 cb c.cl.toArray 56 := (qS6.1).kept hg7 (fun e => by have := (HLO.out _ e.symm).2; omega)
            have hd7 : OwnR 3 59 (qb + 1) w7 (.slice sa sn sm) (ds.map dfC) := ((hown6.old bw16 (Nat.le_refl _)).old b6 (Nat.le_refl _)).kept hg7 (by
              cases hob : (Value.slice sa sn sm).ownBlock with
              | none => exact .inl rfl
              | some g => exact .inr (fun e => HNE.out g hob e.symm))
            have hZ7 : ClsZ (qb + 1) w7 (some ⟨g2, 0, none⟩) cap2 ((p.cls.take (k + 1)).map (renC m)) (vs ++ [⟨c.nm ++ m, [], 0, 0, 0, !c.off, ⟨y0, y1, y2, y3, ⟨y4, y5, y6⟩, y7, ⟨y8, y9, y10⟩, y11, ⟨y12, y13, y14⟩⟩, ⟨z0, z1, z2, z3, ⟨z4, z5, z6⟩, z7, ⟨z8, z9, z10⟩, z11, ⟨z12, z13, z14⟩⟩⟩]) := by
              rw [HSN.out]
              refine HZ.out.snoc (lo := wd.heap.size) (by omega) (by omega) (by rw [HXN.out]; rfl) (by show (x.nm ++ m).length ≤ maxLen; rw [← HXN.out, List.length_append]; simp only [maxLen]; omega) HYZ.out.1 HYZ.out.2 bwr16 b6 HS6.out (by rw [HQN.out]; exact hg7) (by rw [HQN.out]; exact hat7) ?_
              rw [HQN.out]
              rw [HVL.out] at hown7
              exact hown7
            have hne7 : ∀ g, (Value.slice sa sn sm).ownBlock = some g → (Value.slice (some ⟨g2, 0, none⟩) (k + 1) cap2).ownBlock ≠ some g := by
              intro g hg e
              simp only [Value.ownBlock, Option.some.injEq] at e
              subst e
              rcases hat7 with h4 | h4
              · exact HNE.out _ hg h4
              · have := hown6.lt hg
                have := bw16.size
                simp only [World.size_alloc] at h4
                omega
            have qS7 : (fun W => Blk W cb c.cl.toArray 56 ∧ Blk W qb #[.string (nm ++ ⟨m.toArray⟩), .slice sa sn sm, .slice none 0 0, .slice va k vm] 26 ∧ Blk W (w.heap.size + 1) #[S m] 9) w7 := ⟨hc7, hq7, hx7.mb⟩
            have HZ7 := Lib.hid hZ7
            have HNE7 := Lib.hid hne7
            first | rw [HVL.out] | skip
            clear own6 hown7 hg7 hat7 HROW qS6 hZ7 hne7 b6 b67
            refine ⟨fun _ => qS7, ?_⟩
            have g8 : w7.cell? ⟨qb, 3, none⟩ = some (.slice va k vm) := hq7.at rfl
            have g9 := hq7.free 3
            refine wpAnyD_one (i := 20) (by kernel_rfl) rfl (by kernel_rfl) ?_
            go_simp
            try refine ⟨qS7, ?_⟩
            refine wpAnyD_one (i := 21) (by kernel_rfl) rfl (by kernel_rfl) ?_
            go_simp
            try refine ⟨fun h => absurd (List.mem_singleton.2 rfl) h, ?_⟩
            refine wpAnyD_done (by kernel_rfl) ?_ _
            refine onlyN_mk ?_
            have hge : g2 ≠ qb := by
              intro e
              have h1 := HZ7.out.own.low (r := g2) rfl
              omega
            have hq8 : Blk (w7.setCell ⟨qb, 3, none⟩ (.slice (some ⟨g2, 0, none⟩) (k + 1) cap2)) qb #[.string (nm ++ ⟨m.toArray⟩), .slice sa sn sm, .slice none 0 0, .slice (some ⟨g2, 0, none⟩) (k + 1) cap2] 26 := hq7.set (i := 3) _
            have hx8 := hx7.from (W' := w7.setCell ⟨qb, 3, none⟩ (.slice (some ⟨g2, 0, none⟩) (k + 1) cap2)) (B := qb) ((Below.refl qb w7).setCell (p := ⟨qb, 3, none⟩) (Nat.le_refl _) _) hK hqb2
            have hd8 := hd7.kept (grownBy_setCell w7 qb 3 (.slice (some ⟨g2, 0, none⟩) (k + 1) cap2)) (.inr (fun e => by have := hd7.low e; omega))
            have hZ8 := HZ7.out.keep (w' := w7.setCell ⟨qb, 3, none⟩ (.slice (some ⟨g2, 0, none⟩) (k + 1) cap2)) (fun r h1 h2 => Below.heap_setCell _ _ _ _ (by show r ≠ qb; omega)) (by simp)
            have HH := Lib.hid (And.intro hq8 (And.intro hx8 (And.intro hd8 hZ8)))
            clear hq8 hx8 hd8 hZ8 qS qS7 g8 g9 hx7 hq7 hc7 hd7
            go_simp
            go_wp2_with fail
            exact ⟨⟨k + 1, _, some ⟨g2, 0, none⟩, cap2, by omega, by go_num, HH.out.2.2.2, HH.out.2.2.1, HNE7.out, HH.out.1, HH.out.2.1, by simp; omega⟩, by simp [intOf]; omega⟩
          · obtain rfl : k = p.cls.length := by omega
            rw [List.take_length] at hZ
            have hcls := hZ.cls
            rw [List.length_map] at hcls
            have hdefs := hown.defs HDSL.out
            rw [HD.out] at hdefs
            have hN : Nx K nm (.slice da p.defs.length dm) vt (.slice ca p.cls.length cm) p m qb (.slice sa sn sm) (.slice va p.cls.length vm) w wr := ⟨hx, hq, hdefs, hcls⟩
            have hmk := hm
            clear hm
            have hsq : (renP m p).size ≤ 2 ^ 38 := Nat.le_trans (size_ren m p) hsz
            clear hZ hcls hdefs hown hne hq hx hsr hqn HD HDN HDSL hd1 hc1 hd2 hc2
            obtain ⟨d0, d1, d2, d3⟩ := hN.mx.cx.box.four
            have ho := order_any K p nm _ vt _ wr hN.mx.cx.plan hN.mx.cx.big hsz
            go_wp2_with fail
            refine ho.mono ?_
            rintro en w5 ⟨x5, rfl, hl, b5⟩
            obtain ⟨la, lc, rfl, _, _⟩ := hl.form
            replace hl := hl.strs
            replace hN := hN.below b5
            clear ho b5 d0 d1 d2 d3
            have ho := order_any w5.heap.size (renP m p) (nm ++ ⟨m.toArray⟩) _ (.slice none 0 0) _ w5 hN.pq (Nat.le_refl _) hsq
            obtain ⟨ol, hml⟩ : ∃ ml, (orderL p).map (· ++ m) = ml := ⟨_, rfl⟩
            have HML := Lib.hid hml
            rw [orderE_ren, orderL_ren, hml] at ho
            clear hml
            obtain ⟨d0, d1, d2, d3⟩ := hN.q.four
            go_wp2_with fail
            refine ho.mono ?_
            rintro en w6 ⟨x6, rfl, hm, b6⟩
            obtain ⟨ma, mc, rfl, _, _⟩ := hm.form
            replace hm := hm.strs
            replace hN := hN.below b6
            replace hl := hl.self b6
            clear ho b6 d0 d1 d2 d3
            obtain ⟨z, hz⟩ : ∃ z, orderE p = z := ⟨_, rfl⟩
            try rw [hz]
            clear hz
            go_upto_region 18 with fail
            refine wp_onlyN ?_
            refine region_plain (fun W => Blk W w.heap.size #[.string nm, .slice da p.defs.length dm, vt, .slice ca p.cls.length cm] 26 ∧ Blk W qb #[.string (nm ++ ⟨m.toArray⟩), .slice sa sn sm, .slice none 0 0, .slice va p.cls.length vm] 26 ∧ Blk W (w.heap.size + 1) #[S m] 9) [] (by kernel_rfl) ?_
            have bb : Below w6.heap.size w6 w6.drew := (Below.refl _ w6).drew
            replace hN := hN.below bb
            replace hl := hl.self bb
            replace hm := hm.self bb
            obtain ⟨v0, hv0⟩ : ∃ v0, w6.drew = v0 := ⟨_, rfl⟩
            rw [hv0] at hN hl hm ⊢
            clear hv0 bb
            have qS : (fun W => Blk W w.heap.size #[.string nm, .slice da p.defs.length dm, vt, .slice ca p.cls.length cm] 26 ∧ Blk W qb #[.string (nm ++ ⟨m.toArray⟩), .slice sa sn sm, .slice none 0 0, .slice va p.cls.length vm] 26 ∧ Blk W (w.heap.size + 1) #[S m] 9) v0 := ⟨hN.mx.cx.box, hN.q, hN.mx.mb⟩
            refine wpAnyD_take (i := 0) (v := .int .i64 z) rfl (by kernel_rfl) (by kernel_rfl) (by kernel_rfl) (by kernel_rfl) (by kernel_rfl) (fun _ _ _ h => h) (.inl ⟨by kernel_rfl, fun W' hS => by go_simp⟩) qS ?_
            refine wpAnyD_take (i := 1) (v := .int .i64 z) rfl (by kernel_rfl) (by kernel_rfl) (by kernel_rfl) (by kernel_rfl) (by kernel_rfl) (fun _ _ _ h => h) (.inl ⟨by kernel_rfl, fun W' hS => by go_simp⟩) qS ?_
            refine wpAnyD_one (i := 2) (by kernel_rfl) rfl (by kernel_rfl) ?_
            go_simp
            try refine ⟨qS, ?_⟩
            refine wpAnyD_one (i := 3) (by kernel_rfl) rfl (by kernel_rfl) ?_
            go_simp
            try refine ⟨qS, ?_⟩
            refine wpAnyD_take (i := 4) (v := .func (.func 28) #[] #[.pointer (some ⟨w.heap.size + 1, 0, none⟩)]) rfl (by kernel_rfl) (by kernel_rfl) (by kernel_rfl) (by kernel_rfl) (by kernel_rfl) (fun _ _ _ h => h) (.inl ⟨by kernel_rfl, fun W' hS => by go_simp⟩) qS ?_
            refine wpAnyD_take (i := 5) (v := .slice la (orderL p).length lc) rfl (by kernel_rfl) (by kernel_rfl) (by kernel_rfl) (by kernel_rfl) (by kernel_rfl) (fun _ _ _ h => h) (.inl ⟨by kernel_rfl, fun W' hS => by go_simp⟩) qS ?_
            refine wpAnyD_take (i := 7) (v := .slice ma ol.length mc) rfl (by kernel_rfl) (by kernel_rfl) (by kernel_rfl) (by kernel_rfl) (by kernel_rfl) (fun _ _ _ h => h) (.inl ⟨by kernel_rfl, fun W' hS => by go_simp⟩) qS ?_
            have hc := marked_any v0.heap.size _ (orderL p) m (w.heap.size + 1) v0 hl hmk (orderL_short hsh) (hN.mx.mb.at rfl) hN.mx.mb.lt (Nat.le_refl _) (by have := orderL_len40 hnl; omega)
            rw [HML.out] at hc
            refine wpAnyD_one (i := 6) (by kernel_rfl) rfl (by kernel_rfl) ?_
            go_simp
            refine hc.mono ?_
            rintro en v6 ⟨xv6, rfl, hf, bb⟩
            obtain ⟨av6, cv6, rfl, _, _⟩ := hf.form
            replace hf := hf.strs
            replace hN := hN.below bb
            replace hm := hm.self bb
            have qS : (fun W => Blk W w.heap.size #[.string nm, .slice da p.defs.length dm, vt, .slice ca p.cls.length cm] 26 ∧ Blk W qb #[.string (nm ++ ⟨m.toArray⟩), .slice sa sn sm, .slice none 0 0, .slice va p.cls.length vm] 26 ∧ Blk W (w.heap.size + 1) #[S m] 9) v6 := ⟨hN.mx.cx.box, hN.q, hN.mx.mb⟩
            clear hc bb hl
            go_simp
            try refine ⟨qS, ?_⟩
            have hc := lsame_refl2 rfl hf hm
            refine wpAnyD_one (i := 8) (by kernel_rfl) rfl (by kernel_rfl) ?_
            go_simp
            refine hc.mono ?_
            rintro en v8 ⟨rfl, bb⟩
            replace hN := hN.below bb
            have qS : (fun W => Blk W w.heap.size #[.string nm, .slice da p.defs.length dm, vt, .slice ca p.cls.length cm] 26 ∧ Blk W qb #[.string (nm ++ ⟨m.toArray⟩), .slice sa sn sm, .slice none 0 0, .slice va p.cls.length vm] 26 ∧ Blk W (w.heap.size + 1) #[S m] 9) v8 := ⟨hN.mx.cx.box, hN.q, hN.mx.mb⟩
            clear hc bb hf hm
            go_simp
            try refine ⟨qS, ?_⟩
            refine wpAnyD_one (i := 9) (by kernel_rfl) rfl (by kernel_rfl) ?_
            go_simp
            try refine ⟨qS, ?_⟩
            refine wpAnyD_one (i := 10) (by kernel_rfl) rfl (by kernel_rfl) ?_
            go_simp
            try refine ⟨qS, ?_⟩
            refine wpAnyD_one (i := 11) (by kernel_rfl) rfl (by kernel_rfl) ?_
            go_simp
            try refine ⟨qS, ?_⟩
            refine wpAnyD_take (i := 12) (v := .func (.func 28) #[] #[.pointer (some ⟨w.heap.size + 1, 0, none⟩)]) rfl (by kernel_rfl) (by kernel_rfl) (by kernel_rfl) (by kernel_rfl) (by kernel_rfl) (fun _ _ _ h => h) (.inl ⟨by kernel_rfl, fun W' hS => by go_simp⟩) qS ?_
            refine wpAnyD_take (i := 13) (v := .agg #[.string nm, .slice da p.defs.length dm, vt, .slice ca p.cls.length cm]) rfl (by kernel_rfl) (by kernel_rfl) (by kernel_rfl) (by kernel_rfl) (by kernel_rfl) (fun _ _ _ h => h) (.inl ⟨by kernel_rfl, fun W' hS => by obtain ⟨c0, c1, c2, c3⟩ := Blk.four hS.1; go_simp⟩) qS ?_
            refine wpAnyD_take (i := 16) (v := .agg #[.string (nm ++ ⟨m.toArray⟩), .slice sa sn sm, .slice none 0 0, .slice va p.cls.length vm]) rfl (by kernel_rfl) (by kernel_rfl) (by kernel_rfl) (by kernel_rfl) (by kernel_rfl) (fun _ _ _ h => h) (.inl ⟨by kernel_rfl, fun W' hS => by obtain ⟨c0, c1, c2, c3⟩ := Blk.four hS.2.1; go_simp⟩) qS ?_
            have hc := cycle_any K p nm _ vt _ v8 hN.mx.cx.plan hN.mx.cx.big hsz
            refine wpAnyD_one (i := 14) (by kernel_rfl) rfl (by kernel_rfl) ?_
            go_simp
            refine hc.mono ?_
            rintro en v14 ⟨xv14, rfl, hl, bb⟩
            obtain ⟨av14, cv14, rfl, _, _⟩ := hl.form
            replace hl := hl.strs
            replace hN := hN.below bb
            have qS : (fun W => Blk W w.heap.size #[.string nm, .slice da p.defs.length dm, vt, .slice ca p.cls.length cm] 26 ∧ Blk W qb #[.string (nm ++ ⟨m.toArray⟩), .slice sa sn sm, .slice none 0 0, .slice va p.cls.length vm] 26 ∧ Blk W (w.heap.size + 1) #[S m] 9) v14 := ⟨hN.mx.cx.box, hN.q, hN.mx.mb⟩
            clear hc bb
            go_simp
            try refine ⟨qS, ?_⟩
            have hc := marked_any v14.heap.size _ (cycle p) m (w.heap.size + 1) v14 hl hmk (named_short hsh.names _) (hN.mx.mb.at rfl) hN.mx.mb.lt (Nat.le_refl _) (by have := cycle_len (p := p); omega)
            obtain ⟨ml15, hml⟩ : ∃ ml, (cycle p).map (· ++ m) = ml := ⟨_, rfl⟩
            have HML := Lib.hid hml
            clear hml
            rw [HML.out] at hc
            refine wpAnyD_one (i := 15) (by kernel_rfl) rfl (by kernel_rfl) ?_
            go_simp
            refine hc.mono ?_
            rintro en v15 ⟨xv15, rfl, hf, bb⟩
            obtain ⟨av15, cv15, rfl, _, _⟩ := hf.form
            replace hf := hf.strs
            replace hN := hN.below bb
            have qS : (fun W => Blk W w.heap.size #[.string nm, .slice da p.defs.length dm, vt, .slice ca p.cls.length cm] 26 ∧ Blk W qb #[.string (nm ++ ⟨m.toArray⟩), .slice sa sn sm, .slice none 0 0, .slice va p.cls.length vm] 26 ∧ Blk W (w.heap.size + 1) #[S m] 9) v15 := ⟨hN.mx.cx.box, hN.q, hN.mx.mb⟩
            clear hc bb hl
            go_simp
            try refine ⟨qS, ?_⟩
            have hc := cycle_any v15.heap.size (renP m p) (nm ++ ⟨m.toArray⟩) _ (.slice none 0 0) _ v15 hN.pq (Nat.le_refl _) hsq
            rw [cycle_ren, HML.out] at hc
            refine wpAnyD_one (i := 17) (by kernel_rfl) rfl (by kernel_rfl) ?_
            go_simp
            refine hc.mono ?_
            rintro en v17 ⟨xv17, rfl, hm, bb⟩
            obtain ⟨av17, cv17, rfl, _, _⟩ := hm.form
            replace hm := hm.strs
            replace hN := hN.below bb
            replace hf := hf.self bb
            have qS : (fun W => Blk W w.heap.size #[.string nm, .slice da p.defs.length dm, vt, .slice ca p.cls.length cm] 26 ∧ Blk W qb #[.string (nm ++ ⟨m.toArray⟩), .slice sa sn sm, .slice none 0 0, .slice va p.cls.length vm] 26 ∧ Blk W (w.heap.size + 1) #[S m] 9) v17 := ⟨hN.mx.cx.box, hN.q, hN.mx.mb⟩
            clear hc bb
            go_simp
            try refine ⟨qS, ?_⟩
            have hc := lsame_refl2 rfl hf hm
            refine wpAnyD_one (i := 18) (by kernel_rfl) rfl (by kernel_rfl) ?_
            go_simp
            refine hc.mono ?_
            rintro en v18 ⟨rfl, bb⟩
            replace hN := hN.below bb
            have qS : (fun W => Blk W w.heap.size #[.string nm, .slice da p.defs.length dm, vt, .slice ca p.cls.length cm] 26 ∧ Blk W qb #[.string (nm ++ ⟨m.toArray⟩), .slice sa sn sm, .slice none 0 0, .slice va p.cls.length vm] 26 ∧ Blk W (w.heap.size + 1) #[S m] 9) v18 := ⟨hN.mx.cx.box, hN.q, hN.mx.mb⟩
            clear hc bb hf hm
            go_simp
            try refine ⟨qS, ?_⟩
            refine wpAnyD_one (i := 19) (by kernel_rfl) rfl (by kernel_rfl) ?_
            go_simp
            try refine ⟨qS, ?_⟩
            refine wpAnyD_one (i := 20) (by kernel_rfl) rfl (by kernel_rfl) ?_
            go_simp
            try refine ⟨qS, ?_⟩
            refine wpAnyD_one (i := 21) (by kernel_rfl) rfl (by kernel_rfl) ?_
            go_simp
            try refine ⟨qS, ?_⟩
            refine wpAnyD_take (i := 22) (v := .func (.func 28) #[] #[.pointer (some ⟨w.heap.size + 1, 0, none⟩)]) rfl (by kernel_rfl) (by kernel_rfl) (by kernel_rfl) (by kernel_rfl) (by kernel_rfl) (fun _ _ _ h => h) (.inl ⟨by kernel_rfl, fun W' hS => by go_simp⟩) qS ?_
            refine wpAnyD_take (i := 23) (v := .agg #[.string nm, .slice da p.defs.length dm, vt, .slice ca p.cls.length cm]) rfl (by kernel_rfl) (by kernel_rfl) (by kernel_rfl) (by kernel_rfl) (by kernel_rfl) (fun _ _ _ h => h) (.inl ⟨by kernel_rfl, fun W' hS => by obtain ⟨c0, c1, c2, c3⟩ := Blk.four hS.1; go_simp⟩) qS ?_
            refine wpAnyD_take (i := 26) (v := .agg #[.string (nm ++ ⟨m.toArray⟩), .slice sa sn sm, .slice none 0 0, .slice va p.cls.length vm]) rfl (by kernel_rfl) (by kernel_rfl) (by kernel_rfl) (by kernel_rfl) (by kernel_rfl) (fun _ _ _ h => h) (.inl ⟨by kernel_rfl, fun W' hS => by obtain ⟨c0, c1, c2, c3⟩ := Blk.four hS.2.1; go_simp⟩) qS ?_
            have hc := names_any K p nm _ vt (.slice ca p.cls.length cm) v18 hN.mx.cx.plan.1 hN.mx.cx.big (by omega)
            refine wpAnyD_one (i := 24) (by kernel_rfl) rfl (by kernel_rfl) ?_
            go_simp
            refine hc.mono ?_
            rintro en v24 ⟨xv24, rfl, hl, bb⟩
            obtain ⟨av24, cv24, rfl, _, _⟩ := hl.form
            replace hl := hl.strs
            replace hN := hN.below bb
            have qS : (fun W => Blk W w.heap.size #[.string nm, .slice da p.defs.length dm, vt, .slice ca p.cls.length cm] 26 ∧ Blk W qb #[.string (nm ++ ⟨m.toArray⟩), .slice sa sn sm, .slice none 0 0, .slice va p.cls.length vm] 26 ∧ Blk W (w.heap.size + 1) #[S m] 9) v24 := ⟨hN.mx.cx.box, hN.q, hN.mx.mb⟩
            clear hc bb
            go_simp
            try refine ⟨qS, ?_⟩
            have hc := marked_any v24.heap.size _ (names p) m (w.heap.size + 1) v24 hl hmk (hsh.names) (hN.mx.mb.at rfl) hN.mx.mb.lt (Nat.le_refl _) (by omega)
            obtain ⟨ml25, hml⟩ : ∃ ml, (names p).map (· ++ m) = ml := ⟨_, rfl⟩
            have HML := Lib.hid hml
            clear hml
            rw [HML.out] at hc
            refine wpAnyD_one (i := 25) (by kernel_rfl) rfl (by kernel_rfl) ?_
            go_simp
            refine hc.mono ?_
            rintro en v25 ⟨xv25, rfl, hf, bb⟩
            obtain ⟨av25, cv25, rfl, _, _⟩ := hf.form
            replace hf := hf.strs
            replace hN := hN.below bb
            have qS : (fun W => Blk W w.heap.size #[.string nm, .slice da p.defs.length dm, vt, .slice ca p.cls.length cm] 26 ∧ Blk W qb #[.string (nm ++ ⟨m.toArray⟩), .slice sa sn sm, .slice none 0 0, .slice va p.cls.length vm] 26 ∧ Blk W (w.heap.size + 1) #[S m] 9) v25 := ⟨hN.mx.cx.box, hN.q, hN.mx.mb⟩
            clear hc bb hl
            go_simp
            try refine ⟨qS, ?_⟩
            have hc := names_any v25.heap.size (renP m p) (nm ++ ⟨m.toArray⟩) _ (.slice none 0 0) (.slice va p.cls.length vm) v25 hN.pq.1 (Nat.le_refl _) (by have := hsq; unfold Pl.size at this; omega)
            rw [names_ren, HML.out] at hc
            refine wpAnyD_one (i := 27) (by kernel_rfl) rfl (by kernel_rfl) ?_
            go_simp
            refine hc.mono ?_
            rintro en v27 ⟨xv27, rfl, hm, bb⟩
            obtain ⟨av27, cv27, rfl, _, _⟩ := hm.form
            replace hm := hm.strs
            replace hN := hN.below bb
            replace hf := hf.self bb
            have qS : (fun W => Blk W w.heap.size #[.string nm, .slice da p.defs.length dm, vt, .slice ca p.cls.length cm] 26 ∧ Blk W qb #[.string (nm ++ ⟨m.toArray⟩), .slice sa sn sm, .slice none 0 0, .slice va p.cls.length vm] 26 ∧ Blk W (w.heap.size + 1) #[S m] 9) v27 := ⟨hN.mx.cx.box, hN.q, hN.mx.mb⟩
            clear hc bb
            go_simp
            try refine ⟨qS, ?_⟩
            have hc := lsame_refl2 rfl hf hm
            refine wpAnyD_one (i := 28) (by kernel_rfl) rfl (by kernel_rfl) ?_
            go_simp
            refine hc.mono ?_
            rintro en v28 ⟨rfl, bb⟩
            replace hN := hN.below bb
            have qS : (fun W => Blk W w.heap.size #[.string nm, .slice da p.defs.length dm, vt, .slice ca p.cls.length cm] 26 ∧ Blk W qb #[.string (nm ++ ⟨m.toArray⟩), .slice sa sn sm, .slice none 0 0, .slice va p.cls.length vm] 26 ∧ Blk W (w.heap.size + 1) #[S m] 9) v28 := ⟨hN.mx.cx.box, hN.q, hN.mx.mb⟩
            clear hc bb hf hm
            go_simp
            try refine ⟨qS, ?_⟩
            refine wpAnyD_one (i := 29) (by kernel_rfl) rfl (by kernel_rfl) ?_
            go_simp
            try refine ⟨qS, ?_⟩
            refine wpAnyD_one (i := 30) (by kernel_rfl) rfl (by kernel_rfl) ?_
            go_simp
            try refine ⟨qS, ?_⟩
            refine wpAnyD_done (by kernel_rfl) ?_ _
            refine onlyN_mk ?_
            clear qS
            go_simp
            obtain ⟨d0, d1, d2, d3⟩ := hN.mx.cx.box.four
            have hc := names_any K p nm _ vt (.slice ca p.cls.length cm) v28 hN.mx.cx.plan.1 hN.mx.cx.big (by omega)
            go_wp2_with fail
            refine hc.mono ?_
            rintro en w8 ⟨x8, rfl, hn, b8⟩
            obtain ⟨na, nc, rfl, hn1, hn2⟩ := hn.form
            replace hn := hn.strs
            replace hN := hN.below b8
            clear hc b8 d0 d1 d2 d3
            have HSH := Lib.hid hsh.names
            obtain ⟨ns, hnsE⟩ : ∃ ns, names p = ns := ⟨_, rfl⟩
            rw [hnsE] at hn hn1 HSH ⊢
            unfold maxLen at hn2
            clear hnsE
            go_wp2_with fail
            go_loopw [124] (fun i wr => ∃ (k : Nat), k ≤ ns.length ∧ i = .int .i64 k ∧ Nx K nm (.slice da p.defs.length dm) vt (.slice ca p.cls.length cm) p m qb (.slice sa sn sm) (.slice va p.cls.length vm) w wr ∧ Strs wr.heap.size wr (.slice na ns.length nc) ns) (fun i _ => ns.length - (intOf i).toNat)
            case atStart => exact ⟨0, Nat.zero_le _, rfl, hN, hn⟩
            case round =>
              clear hN hn
              obtain ⟨k, hk, rfl, hN, hn⟩ := hrel
              by_cases hlt : k < ns.length
              · obtain ⟨b, oo, cap, he, _, _, hbN, hc⟩ := hn.pos (by omega)
                simp only [Value.slice.injEq, true_and] at he
                obtain ⟨rfl, rfl⟩ := he
                have c0 := hc k hlt
                have hsl : (ns[k]?.getD []).length ≤ maxLen := hn.len
                have hs47 := at_short HSH.out k
                obtain ⟨s, hs⟩ : ∃ s, ns[k]?.getD [] = s := ⟨_, rfl⟩
                rw [hs] at c0 hsl hs47
                have hcat := str_app s m
                have hle : ¬ (9223372036854775807 < s.length + m.length) := by omega
                have hsm : (s ++ m).length ≤ maxLen := by rw [List.length_append]; simp only [maxLen]; omega
                clear hc hs
                go_upto_region 23 with fail
                clear c0
                refine wp_onlyN ?_
                refine region_plain (fun W => Blk W w.heap.size #[.string nm, .slice da p.defs.length dm, vt, .slice ca p.cls.length cm] 26 ∧ Blk W qb #[.string (nm ++ ⟨m.toArray⟩), .slice sa sn sm, .slice none 0 0, .slice va p.cls.length vm] 26 ∧ Blk W (w.heap.size + 1) #[S m] 9) [] (by kernel_rfl) ?_
                have bb : Below wr.heap.size wr wr.drew := (Below.refl _ wr).drew
                replace hN := hN.below bb
                replace hn := hn.self bb
                obtain ⟨v0, hv0⟩ : ∃ v0, wr.drew = v0 := ⟨_, rfl⟩
                rw [hv0] at hN hn ⊢
                clear hv0 bb
                have qS : (fun W => Blk W w.heap.size #[.string nm, .slice da p.defs.length dm, vt, .slice ca p.cls.length cm] 26 ∧ Blk W qb #[.string (nm ++ ⟨m.toArray⟩), .slice sa sn sm, .slice none 0 0, .slice va p.cls.length vm] 26 ∧ Blk W (w.heap.size + 1) #[S m] 9) v0 := ⟨hN.mx.cx.box, hN.q, hN.mx.mb⟩
                refine wpAnyD_take (i := 0) (v := .func (.func 28) #[] #[.pointer (some ⟨w.heap.size + 1, 0, none⟩)]) rfl (by kernel_rfl) (by kernel_rfl) (by kernel_rfl) (by kernel_rfl) (by kernel_rfl) (fun _ _ _ h => h) (.inl ⟨by kernel_rfl, fun W' hS => by go_simp⟩) qS ?_
                refine wpAnyD_take (i := 1) (v := .agg #[.string nm, .slice da p.defs.length dm, vt, .slice ca p.cls.length cm]) rfl (by kernel_rfl) (by kernel_rfl) (by kernel_rfl) (by kernel_rfl) (by kernel_rfl) (fun _ _ _ h => h) (.inl ⟨by kernel_rfl, fun W' hS => by obtain ⟨c0, c1, c2, c3⟩ := Blk.four hS.1; go_simp⟩) qS ?_
                refine wpAnyD_take (i := 2) (v := S s) rfl (by kernel_rfl) (by kernel_rfl) (by kernel_rfl) (by kernel_rfl) (by kernel_rfl) (fun _ _ _ h => h) (.inl ⟨by kernel_rfl, fun W' hS => by go_simp⟩) qS ?_
                refine wpAnyD_take (i := 5) (v := .agg #[.string (nm ++ ⟨m.toArray⟩), .slice sa sn sm, .slice none 0 0, .slice va p.cls.length vm]) rfl (by kernel_rfl) (by kernel_rfl) (by kernel_rfl) (by kernel_rfl) (by kernel_rfl) (fun _ _ _ h => h) (.inl ⟨by kernel_rfl, fun W' hS => by obtain ⟨c0, c1, c2, c3⟩ := Blk.four hS.2.1; go_simp⟩) qS ?_
                refine wpAnyD_take (i := 6) (v := S s) rfl (by kernel_rfl) (by kernel_rfl) (by kernel_rfl) (by kernel_rfl) (by kernel_rfl) (fun _ _ _ h => h) (.inl ⟨by kernel_rfl, fun W' hS => by go_simp⟩) qS ?_
                refine wpAnyD_take (i := 7) (v := S m) rfl (by kernel_rfl) (by kernel_rfl) (by kernel_rfl) (by kernel_rfl) (by kernel_rfl) (fun _ _ _ h => h) (.inl ⟨by kernel_rfl, fun W' hS => by have e0 : W'.cell? ⟨w.heap.size + 1, 0, none⟩ = some (S m) := hS.2.2.at rfl; go_simp⟩) qS ?_
                refine wpAnyD_take (i := 8) (v := S (s ++ m)) rfl (by kernel_rfl) (by kernel_rfl) (by kernel_rfl) (by kernel_rfl) (by kernel_rfl) (fun _ _ _ h => h) (.inl ⟨by kernel_rfl, fun W' hS => by go_simp⟩) qS ?_
                have hc := reach_any K p nm _ vt _ _ v0 hN.mx.cx.plan hN.mx.cx.big hsz hsl
                refine wpAnyD_one (i := 3) (by kernel_rfl) rfl (by kernel_rfl) ?_
                go_simp
                refine hc.mono ?_
                rintro en v3 ⟨xv3, rfl, hl, bb⟩
                obtain ⟨av3, cv3, rfl, _, _⟩ := hl.form
                replace hl := hl.strs
                replace hN := hN.below bb
                replace hn := hn.self bb
                have qS : (fun W => Blk W w.heap.size #[.string nm, .slice da p.defs.length dm, vt, .slice ca p.cls.length cm] 26 ∧ Blk W qb #[.string (nm ++ ⟨m.toArray⟩), .slice sa sn sm, .slice none 0 0, .slice va p.cls.length vm] 26 ∧ Blk W (w.heap.size + 1) #[S m] 9) v3 := ⟨hN.mx.cx.box, hN.q, hN.mx.mb⟩
                clear hc bb
                go_simp
                try refine ⟨qS, ?_⟩
                have hc := marked_any v3.heap.size _ (reach p s) m (w.heap.size + 1) v3 hl hmk (named_short hsh.names _) (hN.mx.mb.at rfl) hN.mx.mb.lt (Nat.le_refl _) (by have := reach_length p s; omega)
                obtain ⟨ml4, hml⟩ : ∃ ml, (reach p s).map (· ++ m) = ml := ⟨_, rfl⟩
                have HML := Lib.hid hml
                clear hml
                rw [HML.out] at hc
                refine wpAnyD_one (i := 4) (by kernel_rfl) rfl (by kernel_rfl) ?_
                go_simp
                refine hc.mono ?_
                rintro en v4 ⟨xv4, rfl, hf, bb⟩
                obtain ⟨av4, cv4, rfl, _, _⟩ := hf.form
                replace hf := hf.strs
                replace hN := hN.below bb
                replace hn := hn.self bb
                have qS : (fun W => Blk W w.heap.size #[.string nm, .slice da p.defs.length dm, vt, .slice ca p.cls.length cm] 26 ∧ Blk W qb #[.string (nm ++ ⟨m.toArray⟩), .slice sa sn sm, .slice none 0 0, .slice va p.cls.length vm] 26 ∧ Blk W (w.heap.size + 1) #[S m] 9) v4 := ⟨hN.mx.cx.box, hN.q, hN.mx.mb⟩
                clear hc bb hl
                go_simp
                try refine ⟨qS, ?_⟩
                have hc := reach_any v4.heap.size (renP m p) (nm ++ ⟨m.toArray⟩) _ (.slice none 0 0) _ _ v4 hN.pq (Nat.le_refl _) hsq hsm
                rw [reach_ren, HML.out] at hc
                refine wpAnyD_one (i := 9) (by kernel_rfl) rfl (by kernel_rfl) ?_
                go_simp
                refine hc.mono ?_
                rintro en v9 ⟨xv9, rfl, hm, bb⟩
                obtain ⟨av9, cv9, rfl, _, _⟩ := hm.form
                replace hm := hm.strs
                replace hN := hN.below bb
                replace hn := hn.self bb
                replace hf := hf.self bb
                have qS : (fun W => Blk W w.heap.size #[.string nm, .slice da p.defs.length dm, vt, .slice ca p.cls.length cm] 26 ∧ Blk W qb #[.string (nm ++ ⟨m.toArray⟩), .slice sa sn sm, .slice none 0 0, .slice va p.cls.length vm] 26 ∧ Blk W (w.heap.size + 1) #[S m] 9) v9 := ⟨hN.mx.cx.box, hN.q, hN.mx.mb⟩
                clear hc bb
                go_simp
                try refine ⟨qS, ?_⟩
                have hc := lsame_refl2 rfl hf hm
                refine wpAnyD_one (i := 10) (by kernel_rfl) rfl (by kernel_rfl) ?_
                go_simp
                refine hc.mono ?_
                rintro en v10 ⟨rfl, bb⟩
                replace hN := hN.below bb
                replace hn := hn.self bb
                have qS : (fun W => Blk W w.heap.size #[.string nm, .slice da p.defs.length dm, vt, .slice ca p.cls.length cm] 26 ∧ Blk W qb #[.string (nm ++ ⟨m.toArray⟩), .slice sa sn sm, .slice none 0 0, .slice va p.cls.length vm] 26 ∧ Blk W (w.heap.size + 1) #[S m] 9) v10 := ⟨hN.mx.cx.box, hN.q, hN.mx.mb⟩
                clear hc bb hf hm
                go_simp
                try refine ⟨qS, ?_⟩
                refine wpAnyD_one (i := 11) (by kernel_rfl) rfl (by kernel_rfl) ?_
                go_simp
                try refine ⟨qS, ?_⟩
                refine wpAnyD_one (i := 12) (by kernel_rfl) rfl (by kernel_rfl) ?_
                go_simp
                try refine ⟨qS, ?_⟩
                refine wpAnyD_take (i := 13) (v := .func (.func 28) #[] #[.pointer (some ⟨w.heap.size + 1, 0, none⟩)]) rfl (by kernel_rfl) (by kernel_rfl) (by kernel_rfl) (by kernel_rfl) (by kernel_rfl) (fun _ _ _ h => h) (.inl ⟨by kernel_rfl, fun W' hS => by go_simp⟩) qS ?_
                refine wpAnyD_take (i := 14) (v := .agg #[.string nm, .slice da p.defs.length dm, vt, .slice ca p.cls.length cm]) rfl (by kernel_rfl) (by kernel_rfl) (by kernel_rfl) (by kernel_rfl) (by kernel_rfl) (fun _ _ _ h => h) (.inl ⟨by kernel_rfl, fun W' hS => by obtain ⟨c0, c1, c2, c3⟩ := Blk.four hS.1; go_simp⟩) qS ?_
                refine wpAnyD_take (i := 15) (v := S s) rfl (by kernel_rfl) (by kernel_rfl) (by kernel_rfl) (by kernel_rfl) (by kernel_rfl) (fun _ _ _ h => h) (.inl ⟨by kernel_rfl, fun W' hS => by go_simp⟩) qS ?_
                refine wpAnyD_take (i := 18) (v := .agg #[.string (nm ++ ⟨m.toArray⟩), .slice sa sn sm, .slice none 0 0, .slice va p.cls.length vm]) rfl (by kernel_rfl) (by kernel_rfl) (by kernel_rfl) (by kernel_rfl) (by kernel_rfl) (fun _ _ _ h => h) (.inl ⟨by kernel_rfl, fun W' hS => by obtain ⟨c0, c1, c2, c3⟩ := Blk.four hS.2.1; go_simp⟩) qS ?_
                refine wpAnyD_take (i := 19) (v := S s) rfl (by kernel_rfl) (by kernel_rfl) (by kernel_rfl) (by kernel_rfl) (by kernel_rfl) (fun _ _ _ h => h) (.inl ⟨by kernel_rfl, fun W' hS => by go_simp⟩) qS ?_
                refine wpAnyD_take (i := 20) (v := S m) rfl (by kernel_rfl) (by kernel_rfl) (by kernel_rfl) (by kernel_rfl) (by kernel_rfl) (fun _ _ _ h => h) (.inl ⟨by kernel_rfl, fun W' hS => by have e0 : W'.cell? ⟨w.heap.size + 1, 0, none⟩ = some (S m) := hS.2.2.at rfl; go_simp⟩) qS ?_
                refine wpAnyD_take (i := 21) (v := S (s ++ m)) rfl (by kernel_rfl) (by kernel_rfl) (by kernel_rfl) (by kernel_rfl) (by kernel_rfl) (fun _ _ _ h => h) (.inl ⟨by kernel_rfl, fun W' hS => by go_simp⟩) qS ?_
                have hc := depends_any K p nm _ vt _ _ v10 hN.mx.cx.plan hN.mx.cx.big hsz hsl
                refine wpAnyD_one (i := 16) (by kernel_rfl) rfl (by kernel_rfl) ?_
                go_simp
                refine hc.mono ?_
                rintro en v16 ⟨xv16, rfl, hl, bb⟩
                obtain ⟨av16, cv16, rfl, _, _⟩ := hl.form
                replace hl := hl.strs
                replace hN := hN.below bb
                replace hn := hn.self bb
                have qS : (fun W => Blk W w.heap.size #[.string nm, .slice da p.defs.length dm, vt, .slice ca p.cls.length cm] 26 ∧ Blk W qb #[.string (nm ++ ⟨m.toArray⟩), .slice sa sn sm, .slice none 0 0, .slice va p.cls.length vm] 26 ∧ Blk W (w.heap.size + 1) #[S m] 9) v16 := ⟨hN.mx.cx.box, hN.q, hN.mx.mb⟩
                clear hc bb
                go_simp
                try refine ⟨qS, ?_⟩
                have hc := marked_any v16.heap.size _ (depends p s) m (w.heap.size + 1) v16 hl hmk (named_short hsh.names _) (hN.mx.mb.at rfl) hN.mx.mb.lt (Nat.le_refl _) (by have := depends_length p s; omega)
                obtain ⟨ml17, hml⟩ : ∃ ml, (depends p s).map (· ++ m) = ml := ⟨_, rfl⟩
                have HML := Lib.hid hml
                clear hml
                rw [HML.out] at hc
                refine wpAnyD_one (i := 17) (by kernel_rfl) rfl (by kernel_rfl) ?_
                go_simp
                refine hc.mono ?_
                rintro en v17 ⟨xv17, rfl, hf, bb⟩
                obtain ⟨av17, cv17, rfl, _, _⟩ := hf.form
                replace hf := hf.strs
                replace hN := hN.below bb
                replace hn := hn.self bb
                have qS : (fun W => Blk W w.heap.size #[.string nm, .slice da p.defs.length dm, vt, .slice ca p.cls.length cm] 26 ∧ Blk W qb #[.string (nm ++ ⟨m.toArray⟩), .slice sa sn sm, .slice none 0 0, .slice va p.cls.length vm] 26 ∧ Blk W (w.heap.size + 1) #[S m] 9) v17 := ⟨hN.mx.cx.box, hN.q, hN.mx.mb⟩
                clear hc bb hl
                go_simp
                try refine ⟨qS, ?_⟩
                have hc := depends_any v17.heap.size (renP m p) (nm ++ ⟨m.toArray⟩) _ (.slice none 0 0) _ _ v17 hN.pq (Nat.le_refl _) hsq hsm
                rw [depends_ren, HML.out] at hc
                refine wpAnyD_one (i := 22) (by kernel_rfl) rfl (by kernel_rfl) ?_
                go_simp
                refine hc.mono ?_
                rintro en v22 ⟨xv22, rfl, hm, bb⟩
                obtain ⟨av22, cv22, rfl, _, _⟩ := hm.form
                replace hm := hm.strs
                replace hN := hN.below bb
                replace hn := hn.self bb
                replace hf := hf.self bb
                have qS : (fun W => Blk W w.heap.size #[.string nm, .slice da p.defs.length dm, vt, .slice ca p.cls.length cm] 26 ∧ Blk W qb #[.string (nm ++ ⟨m.toArray⟩), .slice sa sn sm, .slice none 0 0, .slice va p.cls.length vm] 26 ∧ Blk W (w.heap.size + 1) #[S m] 9) v22 := ⟨hN.mx.cx.box, hN.q, hN.mx.mb⟩
                clear hc bb
                go_simp
                try refine ⟨qS, ?_⟩
                have hc := lsame_refl2 rfl hf hm
                refine wpAnyD_one (i := 23) (by kernel_rfl) rfl (by kernel_rfl) ?_
                go_simp
                refine hc.mono ?_
                rintro en v23 ⟨rfl, bb⟩
                replace hN := hN.below bb
                replace hn := hn.self bb
                have qS : (fun W => Blk W w.heap.size #[.string nm, .slice da p.defs.length dm, vt, .slice ca p.cls.length cm] 26 ∧ Blk W qb #[.string (nm ++ ⟨m.toArray⟩), .slice sa sn sm, .slice none 0 0, .slice va p.cls.length vm] 26 ∧ Blk W (w.heap.size + 1) #[S m] 9) v23 := ⟨hN.mx.cx.box, hN.q, hN.mx.mb⟩
                clear hc bb hf hm
                go_simp
                try refine ⟨qS, ?_⟩
                refine wpAnyD_one (i := 24) (by kernel_rfl) rfl (by kernel_rfl) ?_
                go_simp
                try refine ⟨qS, ?_⟩
                refine wpAnyD_one (i := 25) (by kernel_rfl) rfl (by kernel_rfl) ?_
                go_simp
                try refine ⟨qS, ?_⟩
                refine wpAnyD_done (by kernel_rfl) ?_ _
                refine onlyN_mk ?_
                clear qS hcat hle
                go_simp
                go_wp2_with fail
                exact ⟨⟨k + 1, by omega, by go_num, hN, hn⟩, by simp [intOf]; omega⟩
              · obtain rfl : k = ns.length := by omega
                go_wp2_with fail
                refine (awake_any wr).mono ?_
                rintro en w9 ⟨rfl, b9⟩
                go_wp2_with fail
                go_ret
                exact ⟨rfl, (hN.below b9).mx.cx.bel⟩
end Go.Proofs.Ythbnbjigmgoldaa
