/- Contracts and plain laws, several texts in one (GCopy, GCopy2, GCopy3, GIns0, GIns, GIns2, GIns3, GIns4). No conditions beyond those stated. -/
import Derived.Test.YthooiobhlbnaoaaGreatGaTim
import Derived.Test.YthooiobhlbnaoaaGreatORow
import Derived.Lib.LazyBuf
import Derived.Test.YthooiobhlbnaoaaGreatGaSea
import Derived.Laws.CopyRow
import Derived.Lib.AppendZerosOnto
import Derived.Lib.Overlaps
import Derived.Laws.Externs
import Derived.Laws.IdiomCopy
import Derived.Laws.NewBlocks
import Derived.Test.YthooiobhlbnaoaaGreatORC
namespace Go.Proofs.YthooiobhlbnaoaaGreat
open Go.RowKit
set_option linter.unusedVariables false

/-! ### readings of some blocks alone -/
/-- The blocks of F that hold cells are the same. -/
def Agr (F : Nat → Prop) (w W : World) : Prop := ∀ b o, F b → w.heap[b]? = some o → o.isCells = true → W.heap[b]? = some o
theorem Agr.of {F : Nat → Prop} {w W : World} (h : ∀ b, F b → W.heap[b]? = w.heap[b]?) : Agr F w W := fun b o hb ho _ => (h b hb).trans ho
def Btw (lo hi : Nat) (b : Nat) : Prop := lo ≤ b ∧ b < hi
/-- What R says of w, it says of any world in which the blocks of F are the same. -/
def Zed (F : Nat → Prop) (w : World) (R : Nat → World → Prop) : Prop := ∀ W K, Agr F w W → (∀ b, F b → b < K) → R K W
section
variable {F G : Nat → Prop} {w w' : World} {R : Nat → World → Prop}
theorem Zed.mono (h : Zed F w R) (hF : ∀ b, F b → G b) : Zed G w R := fun W K ha hK => h W K (fun b o hb => ha b o (hF b hb)) fun b hb => hK b (hF b hb)
theorem Zed.move (h : Zed F w R) (ha : Agr F w w') : Zed F w' R := fun W K hb hK => h W K (fun b o hb' ho hc => hb b o hb' (ha b o hb' ho hc) hc) hK
theorem Zed.get (h : Zed F w R) (hF : ∀ b, F b → b < w.heap.size) : R w.heap.size w := h w _ (Agr.of fun _ _ => rfl) hF
theorem Zed.imp {R' : Nat → World → Prop} (h : Zed F w R) (hi : ∀ K W, R K W → R' K W) : Zed F w R' := fun W K ha hK => hi K W (h W K ha hK)
theorem agr_below {B : Nat} (hb : Below B w w') (hF : ∀ b, F b → b < B) : Agr F w w' := Agr.of fun b h => hb.block b (hF b h)
theorem agr_grown {row : Option Nat} (hg : w.grownBy w' row) (hF : ∀ b, F b → b < w.heap.size) (hr : ∀ b, row = some b → ¬ F b) : Agr F w w' := Agr.of fun b h => hg.block b (hF b h) fun e => hr b e.symm h
theorem Agr.trans {w'' : World} (h : Agr F w w') (h' : Agr F w' w'') : Agr F w w'' := fun b o hb ho hc => h' b o hb (h b o hb ho hc) hc
theorem Agr.mono (h : Agr G w w') (hF : ∀ b, F b → G b) : Agr F w w' := fun b o hb => h b o (hF b hb)
end
theorem ownsRow_zed {F : Nat → Prop} {base T c n : Nat} {w : World} {v : Value} {xs : List Value} (h : w.ownsRow base T c v n xs) (hF : ∀ b, v.ownBlock = some b → F b) : Zed F w fun K W => (v = .slice none 0 0 ∧ n = 0 ∨ ∃ g, v.ownBlock = some g ∧ g < K) ∧ W.ownsRow base T c v n xs := by
  intro W K ha hK
  obtain ⟨h1, h2⟩ := h
  rcases h2 with ⟨rfl, h0⟩ | ⟨g, cap, cur, rfl, hb, hg, h3⟩
  · exact ⟨.inl ⟨rfl, h0⟩, h1, .inl ⟨rfl, h0⟩⟩
  · exact ⟨.inr ⟨g, rfl, hK g (hF g rfl)⟩, h1, .inr ⟨g, cap, cur, rfl, hb, ha g _ (hF g rfl) hg rfl, h3⟩⟩
theorem OwnR.zed {F : Nat → Prop} {c T base : Nat} {w : World} {v : Value} {rs : List (List Value)} (h : OwnR c T base w v rs) (hF : ∀ b, v.ownBlock = some b → F b) :
    Zed F w fun K W => RowsV c (fun i j => ((rs[i]?.getD [])[j]?).getD undef) K W v rs.length := by
  intro W K ha hK
  obtain ⟨h1, h2⟩ := ownsRow_zed h.1 hF W K ha hK
  have hr := OwnR.rows (show OwnR c T base W v rs from ⟨h2, h.2⟩)
  obtain ⟨a, cap, hv, h3, h4, h5, h6⟩ := hr
  refine ⟨a, cap, hv, h3, h4, h5, fun i hi => ?_⟩
  obtain ⟨b, o, rfl, hb, hc⟩ := h6 i hi
  refine ⟨b, o, rfl, ?_, hc⟩
  rcases h1 with ⟨h1, h0⟩ | ⟨g, hg, hgK⟩
  · omega
  · rw [hv] at hg
    simp only [Value.ownBlock, Option.some.injEq] at hg
    omega

/-! ### slices.Clone of limbs -/
theorem lm_own {base : Nat} {w : World} {v : Value} {l : List Nat} (h : w.ownsRow base 151 1 v l.length (l.map D16)) (hd : ∀ d ∈ l, d < 65536) {F : Nat → Prop} (hF : ∀ b, v.ownBlock = some b → F b) : Zed F w fun K W => Lm K W v l := by
  intro W K ha hK
  obtain ⟨h1, h2⟩ := ownsRow_zed h hF W K ha hK
  refine ⟨?_, hd⟩
  rcases h2.2 with ⟨rfl, h0⟩ | ⟨g, cap, cur, rfl, hb, hg, hn, hm, hs, ht⟩
  · rw [h0]; exact RowsV.nil none 0 (by simp [maxLen]) fun _ => rfl
  · have hgK : g < K := by
      rcases h1 with ⟨h1, _⟩ | ⟨g', h1, h3⟩
      · cases h1
      · simp only [Value.ownBlock, Option.some.injEq] at h1; omega
    refine RowsV.mk_cells hn hm hgK fun i hi j hj => ?_
    obtain rfl : j = 0 := by omega
    have := World.ownsRow.cells h2 (g := g) rfl i (D16 (l[i]?.getD 0)) (by simp [hi])
    rw [Addr.add] at this
    by_cases h0 : i = 0
    · subst h0; simpa using this
    · simpa [h0] using this
theorem D16_one (l : List Nat) : ∀ u ∈ l.map D16, u.oneCell' = true := by
  intro u hu
  obtain ⟨d, _, rfl⟩ := List.mem_map.1 hu
  rfl
theorem eql_nil_limbs (w : World) (a : Option Addr) (n c : Nat) : (binOp .eql 24 (.slice a n c) (.slice none 0 0)).run Tryz.prog w = .ok (.bool a.isNone) w := Lib.run_eql_slice_nil w _ _ a n c 0 0 Tryz.underlying24

set_option maxRecDepth 100000 in
set_option maxHeartbeats 2000000 in
theorem cloneL_any (K : Nat) (v : Value) (l : List Nat) (w : World) (h : Lm K w v l) (hK : K ≤ w.heap.size) (hl : l.length ≤ 2 ^ 40) :
    Calls Tryz.prog 109 #[v] w fun e w' => ∃ v', e = .returned v' ∧ Zed (Btw w.heap.size w'.heap.size) w' (fun K W => Lm K W v' l) ∧ Below w.heap.size w w' := by
  have hq := eql_nil_limbs
  have hd := h.2
  obtain ⟨i0, hi, hz0, hz1, hz2⟩ := info_parts Tryz.infoU16
  obtain ⟨a, cap, rfl, hn, hm, hz, hc⟩ := h.1
  cases a with
  | none =>
    have h0 : l = [] := by
      cases l with
      | nil => rfl
      | cons d r => obtain ⟨b', o', h, _⟩ := hc 0 (by simp); cases h
    subst h0
    obtain rfl := hz rfl
    go_enter Tryz.func109, Tryz.ntmps109
    go_wp2_with fail
    go_ret
    exact ⟨_, rfl, fun W K _ _ => Lm.nil K W, Below.refl _ _⟩
  | some ad =>
    go_enter Tryz.func109, Tryz.ntmps109
    go_wp2_with (at_builtin; refine wpList_append_own _ rfl _ _ 24 rfl w.heap.size 151 i0 (.int .u16 0) 1 2 Tryz.underlying24 hi hz0 hz1 hz2 rfl (by decide) _ _ _ rfl (World.ownsRow_made w #[] 0 (Nat.le_refl _) (Nat.zero_le _) rfl) ad l.length cap (l.map D16) rfl (by simp) ?qc2 (D16_one l) ?qc4 ?qc5 ?qc6 ?_)
    case qc2 =>
      intro j u hj
      have hjn : j < l.length := (List.getElem?_eq_some_iff.1 hj).1
      obtain ⟨b, o, he, hbK, hcell⟩ := hc j hjn
      simp only [Option.some.injEq] at he
      subst he
      have h0 := hcell 0 (by omega)
      rw [hj] at h0
      rw [addr_add]
      refine (Below.cell ((Below.refl w.heap.size w).alloc (Nat.le_refl _) _) (p := ⟨b, o + j, none⟩) (by simp; omega)).trans ?_
      simpa using h0
    case qc4 => simp [maxLen]; omega
    case qc5 => omega
    intro v' w1 hown hgrow hnil
    have hb1 : Below w.heap.size w w1 := ((Below.refl _ w).alloc (Nat.le_refl _) (.cells #[] 151)).grown hgrow (by simp) (by intro k hk; simp [Value.ownBlock] at hk; omega)
    go_wp2_with fail
    go_ret
    have hown' : w1.ownsRow w.heap.size 151 1 v' l.length (l.map D16) := by simpa using hown
    exact ⟨v', rfl, lm_own hown' hd fun b hb => ⟨(ownsRow_cells hown' hb).1, ownsRow_lt hown' hb⟩, hb1⟩
end Go.Proofs.YthooiobhlbnaoaaGreat
namespace Go.Proofs.YthooiobhlbnaoaaGreat
open Go.RowKit
set_option linter.unusedVariables false

theorem infoVal : (Tryz.prog.info? 30).map (fun i => i.size) = some 6 := by kernel_rfl
theorem vl_one (y : Vv) (h1 : y.s1.oneCell' = true) (h2 : y.s2.oneCell' = true) : ∀ u ∈ y.cells, u.oneCell' = true := by
  simp only [Vv.cells, List.mem_toArray, List.mem_cons, List.not_mem_nil, or_false]
  rintro u (rfl | rfl | rfl | rfl | rfl | rfl) <;> first | rfl | assumption
theorem btw_low {lo lo' hi : Nat} (h : lo' ≤ lo) (b : Nat) (hb : Btw lo hi b) : Btw lo' hi b := ⟨Nat.le_trans h hb.1, hb.2⟩
theorem btw_mono {lo lo' hi hi' : Nat} (h : lo' ≤ lo) (h' : hi ≤ hi') (b : Nat) (hb : Btw lo hi b) : Btw lo' hi' b := ⟨Nat.le_trans h hb.1, Nat.lt_of_lt_of_le hb.2 h'⟩

set_option maxRecDepth 100000 in
set_option maxHeartbeats 4000000 in
theorem copyValue_any (K : Nat) (v : Vq) (x : Vv) (w : World) (h : VlX K w v x) (hg : v.good = true) (hK : K ≤ w.heap.size) :
    Calls Tryz.prog 65 #[x.agg] w fun e w' => ∃ y : Vv, e = .returned y.agg ∧ Zed (Btw w.heap.size w'.heap.size) w' (fun K W => VlX K W v y) ∧ Below w.heap.size w w' := by
  obtain ⟨hs1, hs2⟩ := Vq.short hg
  have HX := Lib.hid h
  obtain ⟨ua, uc, hu, _⟩ := h.n.form
  obtain ⟨va, vc, hv, _⟩ := h.d.form
  obtain ⟨kd, f1, s1, f2, s2, i⟩ := x
  dsimp only at hu hv
  subst hu hv
  obtain ⟨W1, hW1⟩ : ∃ W1, (w.alloc (.cells (⟨kd, f1, .slice ua v.l1.length uc, f2, .slice va v.l2.length vc, i⟩ : Vv).cells 30)).alloc (.cells vv0.cells 30) = W1 := ⟨_, rfl⟩
  have b1 : Below w.heap.size w W1 := by rw [← hW1]; exact ((Below.refl _ _).alloc (Nat.le_refl _) _).alloc (by simp) _
  have q1 : Blk W1 w.heap.size (⟨kd, f1, .slice ua v.l1.length uc, f2, .slice va v.l2.length vc, i⟩ : Vv).cells 30 := by rw [← hW1]; exact (Blk.new w _ _).alloc _
  have q2 : Blk W1 (w.heap.size + 1) vv0.cells 30 := by
    rw [← hW1]
    have := Blk.new (w.alloc (.cells (⟨kd, f1, .slice ua v.l1.length uc, f2, .slice va v.l2.length vc, i⟩ : Vv).cells 30)) vv0.cells 30
    rwa [World.size_alloc] at this
  have sz1 : W1.heap.size = w.heap.size + 2 := by rw [← hW1]; simp
  obtain ⟨B, hB⟩ : ∃ B, w.heap.size = B := ⟨_, rfl⟩
  have HB := Lib.hid hB
  have HW := Lib.hid hW1
  rw [hB] at hK b1 q1 q2 sz1 ⊢
  have hc1 := cloneL_any B _ v.l1 W1 (h.n.below b1 hK hK) (by omega) (by omega)
  have HC2 : Hid (∀ W, Below B w W → Calls Tryz.prog 109 #[.slice va v.l2.length vc] W fun e w' => ∃ v', e = .returned v' ∧ Zed (Btw W.heap.size w'.heap.size) w' (fun K W => Lm K W v' v.l2) ∧ Below W.heap.size W w') := Lib.hid fun W hW => cloneL_any W.heap.size _ v.l2 W (h.d.below hW hK (by have := hW.size; have := HB.out; omega)) (Nat.le_refl _) (by omega)
  obtain ⟨n1, hn1⟩ : ∃ n, v.l1.length = n := ⟨_, rfl⟩
  obtain ⟨n2, hn2⟩ : ∃ n, v.l2.length = n := ⟨_, rfl⟩
  simp only [hn1] at q1 hc1 HW
  simp only [hn2] at q1 HC2 HW
  have HN1 := Lib.hid hn1
  have HN2 := Lib.hid hn2
  simp only [hn1, hn2]
  dsimp only [Vv.cells, vv0] at HW
  clear hB hW1 h hg hs1 hs2 hn1 hn2
  obtain ⟨c0, c1, c2, c3, c4, c5⟩ := q1.six
  go_enter Tryz.func65, Tryz.ntmps65
  go_upto_region 1 with fail
  simp only [HB.out]
  rw [HW.out]
  go_wp2_with fail
  refine hc1.mono ?_
  rintro e w2 ⟨r1, rfl, hz1, hb2⟩
  clear hc1 c0 c1 c2 c3 c4 c5
  have p1 := q1.below hb2 (by omega)
  have p2 := q2.below hb2 (by omega)
  obtain ⟨c0, c1, c2, c3, c4, c5⟩ := p1.six
  have fr2 := p1.free 2
  have hlm1 := hz1.get fun b hb => hb.2
  obtain ⟨ra, rc, hr, _⟩ := hlm1.form
  rw [HN1.out] at hr
  subst hr
  have hs2 := hb2.size
  go_upto_region 2 with fail
  obtain ⟨W2, hW2⟩ : ∃ W2, w2.setCell ⟨B, 2, none⟩ (.slice ra n1 rc) = W2 := ⟨_, rfl⟩
  have p3 : Blk W2 B (⟨kd, f1, .slice ra n1 rc, f2, .slice va n2 vc, i⟩ : Vv).cells 30 := by rw [← hW2]; exact p1.set (.slice ra n1 rc)
  have p4 : Blk W2 (B + 1) vv0.cells 30 := by rw [← hW2]; exact p2.other (by omega) _
  have b2 : Below B w W2 := by rw [← hW2]; exact (b1.trans (hb2.mono (by omega))).setCell (Nat.le_refl _) _
  have sz2 : W2.heap.size = w2.heap.size := by rw [← hW2]; simp [World.setCell]
  have hz1' : Zed (Btw W1.heap.size w2.heap.size) W2 (fun K W => Lm K W (.slice ra n1 rc) v.l1) := hz1.move <| Agr.of fun b hb => by rw [← hW2]; exact Below.heap_setCell _ _ _ _ (by have := hb.1; show b ≠ B; omega)
  rw [hW2]
  clear hW2 c0 c1 c2 c3 c4 c5 fr2 hlm1 hz1 p1 p2 q1 q2
  obtain ⟨c0, c1, c2, c3, c4, c5⟩ := p3.six
  go_wp2_with fail
  refine (HC2.out W2 b2).mono ?_
  rintro e w3 ⟨r2, rfl, hz2, hb3⟩
  clear c0 c1 c2 c3 c4 c5
  have p5 := p3.below hb3 (by omega)
  have p6 := p4.below hb3 (by omega)
  obtain ⟨c0, c1, c2, c3, c4, c5⟩ := p5.six
  have fr4 := p5.free 4
  have hlm2 := hz2.get fun b hb => hb.2
  obtain ⟨ta, tc, hr, _⟩ := hlm2.form
  rw [HN2.out] at hr
  subst hr
  have hs3 := hb3.size
  go_upto_region 3 with fail
  obtain ⟨W3, hW3⟩ : ∃ W3, w3.setCell ⟨B, 4, none⟩ (.slice ta n2 tc) = W3 := ⟨_, rfl⟩
  have p7 : Blk W3 B (⟨kd, f1, .slice ra n1 rc, f2, .slice ta n2 tc, i⟩ : Vv).cells 30 := by rw [← hW3]; exact p5.set (.slice ta n2 tc)
  have p8 : Blk W3 (B + 1) vv0.cells 30 := by rw [← hW3]; exact p6.other (by omega) _
  have b3 : Below B w W3 := by rw [← hW3]; exact (b2.trans (hb3.mono (by omega))).setCell (Nat.le_refl _) _
  have sz3 : W3.heap.size = w3.heap.size := by rw [← hW3]; simp [World.setCell]
  have hz1'' : Zed (Btw W1.heap.size w2.heap.size) W3 (fun K W => Lm K W (.slice ra n1 rc) v.l1) := hz1'.move <| Agr.of fun b hb => by rw [← hW3]; exact (Below.heap_setCell _ _ _ _ (by have := hb.1; show b ≠ B; omega)).trans (hb3.block b (by have := hb.2; omega))
  have hz2' : Zed (Btw W2.heap.size w3.heap.size) W3 (fun K W => Lm K W (.slice ta n2 tc) v.l2) := hz2.move <| Agr.of fun b hb => by rw [← hW3]; exact Below.heap_setCell _ _ _ _ (by have := hb.1; show b ≠ B; omega)
  rw [hW3]
  clear hW3 c0 c1 c2 c3 c4 c5 fr4 hlm2 hz2 hz1' p3 p4 p5 p6
  obtain ⟨c0, c1, c2, c3, c4, c5⟩ := p7.six
  iterate 4 go_step
  refine wpList_store_blk rfl 30 30 (.tmp 2) (.tmp 19) rfl (⟨kd, f1, .slice ra n1 rc, f2, .slice ta n2 tc, i⟩ : Vv).cells _ (B + 1) p8 infoVal rfl (vl_one _ rfl rfl) rfl rfl ?_
  intro W5 t1 t2 t3 t4
  clear c0 c1 c2 c3 c4 c5
  have hb5 : Below B w W5 := b3.trans (t2 B (by omega))
  have hA : ∀ lo hi, B + 2 ≤ lo → hi ≤ W3.heap.size → Agr (Btw lo hi) W3 W5 := fun lo hi h1 h2 => Agr.of fun b hb => t3.block b (by have := hb.2; omega) (fun e => by simp at e; have := hb.1; omega)
  go_wp2_with fail
  refine bodyPost_ret (results_blk rfl _ _ (B + 1) _ _ t1 rfl Tryz.underlying30 rfl infoVal) rfl ?_
  refine ⟨⟨kd, f1, .slice ra n1 rc, f2, .slice ta n2 tc, i⟩, rfl, fun W K ha hk => ?_, hb5⟩
  have hx := HX.out
  exact ⟨hx.kd, hx.b1, hx.b2, hx.i, (hz1''.move (hA _ _ (by omega) (by omega))).mono (btw_mono (by omega) (by omega)) W K ha hk, (hz2'.move (hA _ _ (by omega) (by omega))).mono (btw_mono (by omega) (by omega)) W K ha hk⟩
end Go.Proofs.YthooiobhlbnaoaaGreat
namespace Go.Proofs.YthooiobhlbnaoaaGreat
open Go.RowKit
set_option linter.unusedVariables false

theorem gx_one (x : Xv) : ∀ u ∈ x.cells.toList, u.oneCell' = true := by
  intro u hu
  simp at hu
  rcases hu with rfl | rfl | rfl | rfl | rfl | rfl | rfl | rfl | rfl <;> rfl
theorem gx_row (x : Xv) : RowsOk 9 [x.cells.toList] := RowsOk.one rfl (gx_one x)
theorem Tryz.infoExprG : (Tryz.prog.info? 32).map (fun i => (i.zero, i.size, i.bytes)) = some (some xz.agg, 9, 128) := by kernel_rfl
theorem xv_cell_at (x : Xv) {j : Nat} (hj : j < 9) : (x.cells.toList[j]?).getD undef = x.cell j := by
  match j, hj with
  | 0, _ => rfl
  | 1, _ => rfl
  | 2, _ => rfl
  | 3, _ => rfl
  | 4, _ => rfl
  | 5, _ => rfl
  | 6, _ => rfl
  | 7, _ => rfl
  | 8, _ => rfl
/-- The blocks of a call that are no row's. -/
def Frz (lo hi : Nat) (v : Value) (b : Nat) : Prop := lo ≤ b ∧ b < hi ∧ v.ownBlock ≠ some b
/-- The rows of some expressions read as they. -/
theorem rows_exs {base hi : Nat} {w : World} {v : Value} {es : List Gx} {xs : List Xv} (h : OwnR 9 32 base w v (xs.map fun x => x.cells.toList)) (hl : xs.length = es.length)
    (he : ∀ (j : Nat) (a : Gx), es[j]? = some a → Zed (Frz base hi v) w fun K W => ExG K W a (xs[j]?.getD xz)) (hhi : w.heap.size ≤ hi) :
    Zed (Btw base hi) w fun K W => RowsV 9 (fun i j => (xs[i]?.getD xz).cell j) K W v es.length ∧ ∀ (j : Nat) (a : Gx), es[j]? = some a → ExG K W a (xs[j]?.getD xz) := by
  intro W K ha hK
  constructor
  · have hr := OwnR.zed h (F := Btw base hi) (fun b hb => ⟨h.low hb, by have := h.lt hb; omega⟩) W K ha hK
    rw [List.length_map, hl] at hr
    refine hr.congr fun i hi j hj => ?_
    rw [List.getElem?_map, List.getElem?_eq_getElem (l := xs) (i := i) (by omega)]
    exact xv_cell_at _ hj
  · intro j a hj
    exact (he j a hj).mono (fun b hb => (⟨hb.1, hb.2.1⟩ : Btw base hi b)) W K ha hK

/-- A row has grown; what is read of the other blocks stays. -/
theorem frz_step {lo g : Nat} {wr W w5 : World} {u v : Value} (hg : W.grownBy w5 u.ownBlock) (hat : u.ownBlock = some g ∨ g = W.heap.size) (hv : v.ownBlock = some g) (hb : Below wr.heap.size wr W) {R : Nat → World → Prop} (h : Zed (Frz lo wr.heap.size u) wr R) : Zed (Frz lo w5.heap.size v) w5 R := by
  have hs := hb.size
  have hs5 := hg.size
  have h2 := (h.move (agr_below hb fun b hb => hb.2.1)).move (agr_grown hg (fun b hb => by have := hb.2.1; omega) fun b hr hf => hf.2.2 hr)
  refine h2.mono fun b hb => ⟨hb.1, by have := hb.2.1; omega, fun e => ?_⟩
  rw [hv] at e
  obtain rfl := Option.some.inj e
  rcases hat with hat | hat
  · exact hb.2.2 hat
  · have := hb.2.1; omega
theorem frz_new {lo lo' hi g : Nat} {W w5 : World} {u v : Value} (hg : W.grownBy w5 u.ownBlock) (hat : u.ownBlock = some g ∨ g = W.heap.size) (hv : v.ownBlock = some g) (hlo : lo ≤ lo') (hu : ∀ r, u.ownBlock = some r → r < lo') (hhi : hi ≤ W.heap.size) {R : Nat → World → Prop} (h : Zed (Btw lo' hi) W R) : Zed (Frz lo w5.heap.size v) w5 R := by
  have hs5 := hg.size
  have h2 := h.move (agr_grown hg (fun b hb => by have := hb.2; omega) fun b hr hf => by have := hu b hr; have := hf.1; omega)
  refine h2.mono fun b hb => ⟨by have := hb.1; omega, by have := hb.2; omega, fun e => ?_⟩
  rw [hv] at e
  obtain rfl := Option.some.inj e
  rcases hat with hat | hat
  · have := hu g hat; have := hb.1; omega
  · have := hb.2; omega
theorem row_cell (w : World) (z : Xv) {i j : Nat} {r : List Value} {u : Value} (hi : [z.cells.toList][i]? = some r) (hj : r[j]? = some u) : (w.alloc (.cells z.cells 32)).cell? ⟨w.heap.size, 0 + (i * 9 + j), none⟩ = some u := by
  match i, hi with
  | 0, hi =>
    simp only [List.getElem?_cons_zero, Option.some.injEq] at hi
    subst hi
    have := (Blk.new w z.cells 32).at (i := j) (x := u) (by simpa using hj)
    rwa [show 0 + (0 * 9 + j) = j by omega]
  | i + 1, hi => simp at hi

set_option maxRecDepth 100000 in
set_option maxHeartbeats 8000000 in
theorem copyExpr_at (m : Nat) : ∀ (K : Nat) (e : Gx) (x : Xv) (w : World), e.parts ≤ m → e.parts ≤ 2 ^ 20 → ExG K w e x → e.good = true → K ≤ w.heap.size →
    Calls Tryz.prog 52 #[x.agg] w fun en w' => ∃ y : Xv, en = .returned y.agg ∧ Zed (Btw w.heap.size w'.heap.size) w' (fun K W => ExG K W e y) ∧ Below w.heap.size w w' := by
  induction m with
  | zero => intro K e x w hm; cases e; rw [partsG_mk] at hm; omega
  | succ m ih =>
    intro K e x w hm hbig h hg hK
    have HX := Lib.hid h
    obtain ⟨h1, h2, h3, hv, g, hr, hgr⟩ := h.open
    obtain ⟨a8, m8, h8, hn8, hm8⟩ := hr.form
    have hal : e.args.length ≤ 2 ^ 20 := by
      have h0 := partsG_args e
      have : ∀ l : List Gx, l.length ≤ partsL l := by
        intro l
        induction l with
        | nil => simp [partsL]
        | cons a r ih => have h1 := partsG_args a; rw [partsL, List.length_cons]; omega
      have := this e.args
      omega
    have HA : Hid (∀ k, k < e.args.length → (argAt e k).parts ≤ m ∧ (argAt e k).parts ≤ 2 ^ 20 ∧ ExG K w (argAt e k) (g k) ∧ (argAt e k).good = true ∧ e.args[k]? = some (argAt e k)) := Lib.hid fun k hk => by
      have e1 := arg_some hk
      have hp := partsG_arg (List.mem_of_getElem? e1)
      have := partsG_args e
      exact ⟨by omega, by omega, hgr k _ e1, good_args hg _ (List.mem_of_getElem? e1), e1⟩
    have HIH := Lib.hid ih
    have HR := Lib.hid hr
    have HG := Lib.hid hg
    have HV := Lib.hid hv
    obtain ⟨op, nm, kd, b3, ⟨a4, n4, m4⟩, b5, ⟨a6, n6, m6⟩, i7, ⟨x8, nx8, mx8⟩⟩ := x
    simp only [Sl.val, Value.slice.injEq] at h8
    obtain ⟨rfl, rfl, rfl⟩ := h8
    obtain ⟨q, hq⟩ : ∃ q, e.args.length = q := ⟨_, rfl⟩
    have HQ := Lib.hid hq
    obtain ⟨x, hx⟩ : ∃ x : Xv, x = ⟨op, nm, kd, b3, ⟨a4, n4, m4⟩, b5, ⟨a6, n6, m6⟩, i7, ⟨x8, q, mx8⟩⟩ := ⟨_, rfl⟩
    rw [hq] at HX HR HV hal HA ⊢
    rw [← hx] at HX ⊢
    obtain ⟨W1, hW1⟩ : ∃ W1, (w.alloc (.cells x.cells 32)).alloc (.cells xz.cells 32) = W1 := ⟨_, rfl⟩
    have b1 : Below w.heap.size w W1 := by rw [← hW1]; exact ((Below.refl _ _).alloc (Nat.le_refl _) _).alloc (by simp) _
    have q1 : Blk W1 w.heap.size x.cells 32 := by rw [← hW1]; exact (Blk.new w _ _).alloc _
    have q2 : Blk W1 (w.heap.size + 1) xz.cells 32 := by
      rw [← hW1]
      have := Blk.new (w.alloc (.cells x.cells 32)) xz.cells 32
      rwa [World.size_alloc] at this
    have sz1 : W1.heap.size = w.heap.size + 2 := by rw [← hW1]; simp
    obtain ⟨B, hB⟩ : ∃ B, w.heap.size = B := ⟨_, rfl⟩
    have HB := Lib.hid hB
    have HW := Lib.hid hW1
    rw [hB] at hK b1 q1 q2 sz1 ⊢
    have hc1 := copyValue_any B e.v _ W1 (hv.below b1 hK hK) (good_v hg) (by omega)
    rw [hx] at q1 HW ⊢
    dsimp only [Xv.cells, Xv.agg, xz] at HW ⊢
    dsimp only [Vv.agg, Sl.val] at hc1
    clear hB hW1 h h1 h2 h3 hv hg hr hgr ih hm hbig hq hn8 hm8
    obtain ⟨d0, d1, d2, d3, d4, d5, d6, d7, d8⟩ := q1.nine
    go_enter Tryz.func52, Tryz.ntmps52
    go_upto_region 1 with fail
    simp only [HB.out]
    rw [HW.out]
    go_wp2_with fail
    refine hc1.mono ?_
    rintro en w2 ⟨y, rfl, hz1, hb2⟩
    clear hc1 d0 d1 d2 d3 d4 d5 d6 d7 d8
    have p1 := q1.below hb2 (by omega)
    have p2 := q2.below hb2 (by omega)
    have hs2 := hb2.size
    have hy := hz1.get fun b hb => hb.2
    obtain ⟨ya, yc, hy1, _⟩ := hy.n.form
    obtain ⟨za, zc, hy2, _⟩ := hy.d.form
    obtain ⟨ykd, yf1, ys1, yf2, ys2, yi⟩ := y
    dsimp only at hy1 hy2
    subst hy1 hy2
    clear hy
    obtain ⟨d0, d1, d2, d3, d4, d5, d6, d7, d8⟩ := p1.nine
    have fr : ∀ j, w2.frozen? ⟨B, j, none⟩ = false := fun j => p1.free j
    go_upto_region 2 with fail
    obtain ⟨W2, hW2⟩ : ∃ W2, ((((((w2.setCell ⟨B, 2, none⟩ (.int .u8 ykd)).setCell ⟨B, 3, none⟩ (.bool yf1)).setCell ⟨B, 4, none⟩ (.slice ya e.v.l1.length yc)).setCell ⟨B, 5, none⟩ (.bool yf2)).setCell ⟨B, 6, none⟩ (.slice za e.v.l2.length zc)).setCell ⟨B, 7, none⟩ (.int .i64 yi)) = W2 := ⟨_, rfl⟩
    have hch : ∀ b, b ≠ B → W2.heap[b]? = w2.heap[b]? := fun b hb => by
      rw [← hW2]
      exact (Below.heap_setCell _ _ _ _ hb).trans ((Below.heap_setCell _ _ _ _ hb).trans ((Below.heap_setCell _ _ _ _ hb).trans ((Below.heap_setCell _ _ _ _ hb).trans ((Below.heap_setCell _ _ _ _ hb).trans (Below.heap_setCell _ _ _ _ hb)))))
    have sz2 : W2.heap.size = w2.heap.size := by rw [← hW2]; simp [World.setCell]
    have b2 : Below B w W2 := by rw [← hW2]; exact ((((((b1.trans (hb2.mono (by omega))).setCell (Nat.le_refl _) _).setCell (Nat.le_refl _) _).setCell (Nat.le_refl _) _).setCell (Nat.le_refl _) _).setCell (Nat.le_refl _) _).setCell (Nat.le_refl _) _
    have p3 : Blk W2 B (⟨op, nm, ykd, yf1, ⟨ya, e.v.l1.length, yc⟩, yf2, ⟨za, e.v.l2.length, zc⟩, yi, ⟨x8, q, mx8⟩⟩ : Xv).cells 32 := by rw [← hW2]; exact (((((p1.set (.int .u8 ykd)).set (.bool yf1)).set (.slice ya e.v.l1.length yc)).set (.bool yf2)).set (.slice za e.v.l2.length zc)).set (.int .i64 yi)
    have p4 : Blk W2 (B + 1) xz.cells 32 := (hch _ (by omega)).trans p2
    have hz1' : Zed (Btw (B + 2) W2.heap.size) W2 (fun K W => VlX K W e.v ⟨ykd, yf1, .slice ya e.v.l1.length yc, yf2, .slice za e.v.l2.length zc, yi⟩) := (hz1.move <| Agr.of fun b hb => hch b (by have := hb.1; omega)).mono (btw_mono (by omega) (by omega))
    obtain ⟨l1, hl1⟩ : ∃ n, e.v.l1.length = n := ⟨_, rfl⟩
    obtain ⟨l2, hl2⟩ : ∃ n, e.v.l2.length = n := ⟨_, rfl⟩
    rw [hW2]
    rw [hl1, hl2] at p3 hz1' ⊢
    have HZ := Lib.hid hz1'
    clear hW2 hch hz1 hz1' p1 p2 q1 q2 fr d0 d1 d2 d3 d4 d5 d6 d7 d8 hl1 hl2
    obtain ⟨x2, hx2⟩ : ∃ x2 : Xv, x2 = ⟨op, nm, ykd, yf1, ⟨ya, l1, yc⟩, yf2, ⟨za, l2, zc⟩, yi, ⟨x8, q, mx8⟩⟩ := ⟨_, rfl⟩
    obtain ⟨d0, d1, d2, d3, d4, d5, d6, d7, d8⟩ := p3.nine
    rw [← hx2] at p3
    go_wp2_with fail
    clear d0 d1 d2 d3 d4 d5 d6 d7 d8
    go_loopw [3, 13] (fun v i wr => ∃ (k : Nat) (xs : List Xv), k ≤ q ∧ i = .int .i64 k ∧ xs.length = k ∧ Blk wr B x2.cells 32 ∧ Blk wr (B + 1) xz.cells 32 ∧ OwnR 9 32 (B + 2) wr v (xs.map fun x => x.cells.toList) ∧ Below B w wr ∧ B + 2 ≤ wr.heap.size ∧
      Hid (Zed (Frz (B + 2) wr.heap.size v) wr (fun K W => VlX K W e.v ⟨ykd, yf1, .slice ya l1 yc, yf2, .slice za l2 zc, yi⟩)) ∧ Hid (∀ j, j < k → Zed (Frz (B + 2) wr.heap.size v) wr fun K W => ExG K W (argAt e j) (xs[j]?.getD xz))) (fun _ i _ => q - (intOf i).toNat)
    case atStart => exact ⟨0, [], Nat.zero_le _, rfl, rfl, p3, p4, OwnR.nil _ _ _ _, b2, by omega, Lib.hid (HZ.out.mono fun b hb => ⟨hb.1, hb.2, by simp [Value.ownBlock]⟩), Lib.hid fun j hj => absurd hj (Nat.not_lt_zero j)⟩
    case round =>
      obtain ⟨k, xs, hk, rfl, hxs, r1, r2, hown, hbr, hsr, HZV, HZA⟩ := hrel
      by_cases hlt : k < q
      · obtain ⟨b, o, cap, he, _, _, hbK, hc⟩ := HR.out.pos (by omega)
        simp only [Sl.val, Value.slice.injEq, true_and] at he
        obtain ⟨rfl, rfl⟩ := he
        obtain ⟨c0, c1, c2, c3, c4, c5, c6, c7, c8⟩ := ex_cells (cells_below hbr (by omega) hc) hlt
        obtain ⟨ak1, ak2, ak3, ak4, ak5⟩ := HA.out k hlt
        obtain ⟨y, hy⟩ : ∃ y, g k = y := ⟨_, rfl⟩
        rw [hy] at c0 c1 c2 c3 c4 c5 c6 c7 c8 ak3
        have hbl : b < wr.heap.size := by omega
        have hbW : Below B w (wr.alloc (.cells y.cells 32)) := hbr.alloc (by omega) _
        have hcall := HIH.out B (argAt e k) y (wr.alloc (.cells y.cells 32)) ak1 ak2 (ak3.below hbW hK hK) ak4 (by simp; omega)
        have HBW := Lib.hid hbW
        have HXS := Lib.hid hxs
        clear hy hc ak1 ak2 ak3 ak4 ak5 hbW hxs
        go_wp2_with fail
        refine hcall.mono ?_
        rintro en w3 ⟨z, rfl, hz3, hb3⟩
        clear hcall c0 c1 c2 c3 c4 c5 c6 c7 c8
        obtain ⟨va, vn, hv3, hvn, hvm⟩ := hown.form
        rw [List.length_map, HXS.out] at hv3 hvn
        subst hv3
        have hb4 : Below wr.heap.size wr (w3.alloc (.cells z.cells 32)) := ((((Below.refl _ wr).alloc (Nat.le_refl _) (.cells y.cells 32)).trans (hb3.mono (by simp))).alloc (by have := hb3.size; simp at this; omega) _)
        have hs3 : wr.heap.size + 1 ≤ w3.heap.size := by have := hb3.size; simpa using this
        have hown4 := hown.old hb4 (Nat.le_refl _)
        have HB4 := Lib.hid hb4
        have HB3 := Lib.hid hb3
        have HOWN := Lib.hid hown
        have HZ3 := Lib.hid hz3
        have HRC : Hid (∀ (i : Nat) (r : List Value) (j : Nat) (u : Value), [z.cells.toList][i]? = some r → r[j]? = some u → (w3.alloc (.cells z.cells 32)).cell? ⟨w3.heap.size, 0 + (i * 9 + j), none⟩ = some u) := Lib.hid fun i r j u hi hj => row_cell w3 z hi hj
        have hrl : (xs.map fun x => x.cells.toList).length = k := by rw [List.length_map]; exact HXS.out
        obtain ⟨RS, hRS⟩ : ∃ RS, xs.map (fun x => x.cells.toList) = RS := ⟨_, rfl⟩
        rw [hRS] at hown4 hrl
        have HRS := Lib.hid hRS
        have HRL := Lib.hid hrl
        clear hb4 hb3 hown hz3 hRS hrl
        go_wp2_with (at_builtin; refine wpList_append_rows rfl (.tmp 17) (.tmp 20) 22 rfl Tryz.underlying22 Tryz.infoExprG (by kernel_rfl) (by decide) rfl hown4 (b := w3.heap.size) (off := 0) (m := 1) (cap := 1) (ms := [z.cells.toList]) rfl rfl (gx_row z) HRC.out (by decide) (by rw [HRL.out]; simp [maxLen]; omega) (by rw [HRL.out]; omega) (by simp; omega) ?_; intro g1 cap1 w5 hown5 hg5 hat5)
        have hg6 : g1 = (w3.alloc (.cells z.cells 32)).heap.size ∨ (Value.slice va k vn).ownBlock = some g1 := hat5.symm
        have hs5 := hg5.size
        rw [World.size_alloc] at hs5
        have hlow := fun r hr => HOWN.out.low (r := r) hr
        have hlt2 := fun r hr => HOWN.out.lt (r := r) hr
        have r3 := (r1.below HB4.out r1.lt).kept hg5 (fun e => by have := hlow B e.symm; omega)
        have r4 := (r2.below HB4.out r2.lt).kept hg5 (fun e => by have := hlow (B + 1) e.symm; omega)
        have hb5 : Below B w w5 := (hbr.trans (HB4.out.mono (by omega))).grown hg5 (by simp; omega) (fun r hr => by have := hlow r hr; omega)
        have hs4 := HB4.out.size
        rw [World.size_alloc] at hs4
        refine ⟨⟨k + 1, xs ++ [z], by omega, by go_num, by rw [List.length_append, HXS.out]; rfl, r3, r4, ?_, hb5, by omega, ?_, ?_⟩, by simp [intOf]; omega⟩
        · rw [List.map_append, HRS.out]
          exact hown5
        · exact Lib.hid (frz_step hg5 hat5 rfl HB4.out HZV.out)
        · refine Lib.hid fun j hj => ?_
          by_cases hjk : j = k
          · subst hjk
            rw [List.getElem?_append_right (by rw [HXS.out]; exact Nat.le_refl _), HXS.out, Nat.sub_self]
            refine frz_new hg5 hat5 rfl (lo' := wr.heap.size + 1) (hi := w3.heap.size) (by omega) (fun r hr => by have := hlt2 r hr; omega) (by simp) ?_
            have h1 := HZ3.out
            rw [World.size_alloc] at h1
            exact h1.move (agr_below ((Below.refl w3.heap.size w3).alloc (Nat.le_refl _) _) fun b hb => hb.2)
          · rw [List.getElem?_append_left (by rw [HXS.out]; omega)]
            exact frz_step hg5 hat5 rfl HB4.out (HZA.out j (by omega))
      · obtain rfl : k = q := by omega
        obtain ⟨va, vn, hv3, hvn, hvm⟩ := hown.form
        rw [List.length_map, hxs] at hv3 hvn
        subst hv3
        have HOWN := Lib.hid hown
        have HXS := Lib.hid hxs
        have r1' := r1
        rw [hx2] at r1'
        obtain ⟨d0, d1, d2, d3, d4, d5, d6, d7, d8⟩ := r1'.nine
        have fr8 := r1.free 8
        clear r1' hown hxs
        go_upto_region 9 with fail
        obtain ⟨W3, hW3⟩ : ∃ W3, wr.setCell ⟨B, 8, none⟩ (.slice va k vn) = W3 := ⟨_, rfl⟩
        have hch : ∀ b, b ≠ B → W3.heap[b]? = wr.heap[b]? := fun b hb => by rw [← hW3]; exact Below.heap_setCell _ _ _ _ hb
        have sz3 : W3.heap.size = wr.heap.size := by rw [← hW3]; simp [World.setCell]
        have p5 : Blk W3 B (⟨op, nm, ykd, yf1, ⟨ya, l1, yc⟩, yf2, ⟨za, l2, zc⟩, yi, ⟨va, k, vn⟩⟩ : Xv).cells 32 := by rw [← hW3]; rw [hx2] at r1; exact r1.set (.slice va k vn)
        have p6 : Blk W3 (B + 1) xz.cells 32 := (hch _ (by omega)).trans r2
        have b5' : Below B w W3 := by rw [← hW3]; exact hbr.setCell (Nat.le_refl _) _
        rw [hW3]
        clear hW3 d0 d1 d2 d3 d4 d5 d6 d7 d8 fr8 r1 r2 hx2
        obtain ⟨d0, d1, d2, d3, d4, d5, d6, d7, d8⟩ := p5.nine
        iterate 4 go_step
        refine wpList_store_blk rfl 32 32 (.tmp 2) (.tmp 25) rfl (⟨op, nm, ykd, yf1, ⟨ya, l1, yc⟩, yf2, ⟨za, l2, zc⟩, yi, ⟨va, k, vn⟩⟩ : Xv).cells _ (B + 1) p6 infoEx rfl (fun u hu => gx_one (⟨op, nm, ykd, yf1, ⟨ya, l1, yc⟩, yf2, ⟨za, l2, zc⟩, yi, ⟨va, k, vn⟩⟩ : Xv) u (Array.mem_toList_iff.2 hu)) rfl rfl ?_
        intro W5 t1 t2 t3 t4
        clear d0 d1 d2 d3 d4 d5 d6 d7 d8
        have hb5 : Below B w W5 := b5'.trans (t2 B (by omega))
        have hA : Agr (Btw (B + 2) wr.heap.size) wr W5 := Agr.of fun b hb => (t3.block b (by have := hb.2; omega) (fun e => by simp at e; have := hb.1; omega)).trans (hch b (by have := hb.1; omega))
        go_wp2_with fail
        refine bodyPost_ret (results_blk rfl _ _ (B + 1) _ _ t1 rfl Tryz.underlying32 rfl infoEx) rfl ?_
        refine ⟨⟨op, nm, ykd, yf1, ⟨ya, l1, yc⟩, yf2, ⟨za, l2, zc⟩, yi, ⟨va, k, vn⟩⟩, rfl, ?_, hb5⟩
        have hsz5 : wr.heap.size ≤ W5.heap.size := by omega
        have z1 := ((HZV.out.mono (G := Btw (B + 2) wr.heap.size) fun b hb => ⟨hb.1, hb.2.1⟩).move hA).mono (btw_mono (lo' := B) (hi' := W5.heap.size) (by omega) hsz5)
        have hel : xs.length = e.args.length := by rw [HXS.out, HQ.out]
        have z2 := ((rows_exs HOWN.out hel (fun j a hj => by
          have hjl : j < k := by have := (List.getElem?_eq_some_iff.1 hj).1; have := HQ.out; omega
          have h1 := (HA.out j hjl).2.2.2.2
          rw [hj] at h1
          obtain rfl := Option.some.inj h1
          exact HZA.out j hjl) (Nat.le_refl _)).move hA).mono (btw_mono (lo' := B) (hi' := W5.heap.size) (by omega) hsz5)
        intro W K' ha hk'
        obtain ⟨y1, y2⟩ := z2 W K' ha hk'
        obtain ⟨o1, o2, o3, _⟩ := HX.out.open
        rw [hx] at o1 o2
        exact ExG.make o1 o2 o3 (z1 W K' ha hk') (fun i => xs[i]?.getD xz) (by rw [HQ.out] at y1 ⊢; exact y1) y2
theorem copyExpr_any (K : Nat) (e : Gx) (x : Xv) (w : World) (hbig : e.parts ≤ 2 ^ 20) (h : ExG K w e x) (hg : e.good = true) (hK : K ≤ w.heap.size) :
    Calls Tryz.prog 52 #[x.agg] w fun en w' => ∃ y : Xv, en = .returned y.agg ∧ Zed (Btw w.heap.size w'.heap.size) w' (fun K W => ExG K W e y) ∧ Below w.heap.size w w' := copyExpr_at e.parts K e x w (Nat.le_refl _) hbig h hg hK
end Go.Proofs.YthooiobhlbnaoaaGreat
namespace Go.Proofs.YthooiobhlbnaoaaGreat
open Go.RowKit
set_option linter.unusedVariables false

/-- copy into a row of elements of c cells each: all is read before anything is written. -/
theorem run_copy_rowC (w : World) (dT sT ty elem c : Nat) (g o dLen dCap : Nat) (a : Addr) (sLen sCap : Nat) (cur : Array Value) (t : TypeId) (cs : List Value)
    (hu : Tryz.prog.underlying dT = some (.slice elem)) (hs : (Tryz.prog.info? elem).map (fun i => i.size) = some c)
    (hg : w.heap[g]? = some (.cells cur t (0, 0))) (hn : cs.length = Nat.min sLen dLen * c)
    (hsrc : ∀ j v, cs[j]? = some v → w.cell? (a.add j) = some v) (hfit : o + cs.length ≤ cur.size) (h1 : ∀ v ∈ cs, v.oneCell' = true) :
    (Builtin.copy_ #[dT, sT] ty #[.slice (some ⟨g, o, none⟩) dLen dCap, .slice (some a) sLen sCap]).run Tryz.prog w =
      .ok (goInt (Nat.min sLen dLen)) (w.setRow g (cur.toList.take o ++ cs ++ cur.toList.drop (o + cs.length)).toArray) := by
  have hl := run_loadCells_list (P := Tryz.prog) w a cs hsrc
  have hst := run_storeCells_at Tryz.prog g o t cs 0 cur w hg (by simpa using hfit) h1
  cases hq : Tryz.prog.info? elem with
  | none => simp [hq] at hs
  | some i =>
    have hi : i.size = c := by simpa [hq] using hs
    simp [Builtin.copy_, run_underlying hu, Builtin.lenOf, Builtin.firstCells, sizeOf, typeInfo, hq, hi, ← hn, hl, hst]
theorem wp_copy_runV (w : World) {o : Oper} {a : Act} {K : Act → World → Prop} {Q : Exit → Act → World → Prop} (d s : Operand) (t t' : TypeId)
    (ho : o.op = .call { callee := .builtin .copy, args := #[d, s], argTypes := #[t, t'] }) (v u : Value) (hd : a.eval d = v) (hs : a.eval s = u) {v' : Value} {w' : World}
    (hr : (Builtin.copy_ #[t, t'] o.type #[v, u]).run Tryz.prog w = .ok v' w') (h : K (a.put o.dst v') w') : o.wp Tryz.prog a w K Q := by
  unfold Oper.wp execOp
  simp only [ho, resolve, invoke, builtin, Sem.run_bind, Sem.run_pure, Result.andThen_ok, List.map_toArray, List.map_cons, List.map_nil, hd, hs, hr]
  exact h
theorem wp_append_runV (w : World) {o : Oper} {a : Act} {K : Act → World → Prop} {Q : Exit → Act → World → Prop} (s x : Operand) (t t' : TypeId)
    (ho : o.op = .call { callee := .builtin .append, args := #[s, x], argTypes := #[t, t'] }) (v u : Value) (hs : a.eval s = v) (hx : a.eval x = u) {v' : Value} {w' : World}
    (hr : (Builtin.append_ #[t, t'] o.type #[v, u]).run Tryz.prog w = .ok v' w') (h : K (a.put o.dst v') w') : o.wp Tryz.prog a w K Q := by
  unfold Oper.wp execOp
  simp only [ho, resolve, invoke, builtin, Sem.run_bind, Sem.run_pure, Result.andThen_ok, List.map_toArray, List.map_cons, List.map_nil, hs, hx, hr]
  exact h
/-- A new row, filled. -/
theorem grow_list {ROW fl r : List Value} {c n i : Nat} (hR : ROW.take (i * c) = fl.take (i * c)) (hfl : fl.length = n * c) (hi : i ≤ n) (hr : r.length = c) {cur1 cur2 : List Value} (hlen : (n + 1) * c ≤ ROW.length)
    (h1 : cur1 = ROW.take (i * c) ++ r ++ ROW.drop (i * c + r.length)) (h2 : cur2 = cur1.take ((i + 1) * c) ++ fl.drop (i * c) ++ cur1.drop ((i + 1) * c + (fl.drop (i * c)).length)) :
    cur2.take ((n + 1) * c) = fl.take (i * c) ++ (r ++ fl.drop (i * c)) := by
  have hic : i * c ≤ n * c := Nat.mul_le_mul_right _ hi
  have e1 : (i + 1) * c = i * c + c := Nat.succ_mul _ _
  have e2 : (n + 1) * c = n * c + c := Nat.succ_mul _ _
  have hd : (fl.drop (i * c)).length = n * c - i * c := by rw [List.length_drop, hfl]
  have hl : (fl.take (i * c)).length = i * c := by rw [List.length_take]; omega
  have t1 : cur1.take ((i + 1) * c) = fl.take (i * c) ++ r := by
    rw [h1, hR, List.take_append_of_le_length (by rw [List.length_append, hl]; omega), List.take_of_length_le (by rw [List.length_append, hl]; omega)]
  rw [h2, t1, List.append_assoc, List.append_assoc, ← List.append_assoc r, ← List.append_assoc]
  rw [List.take_append_of_le_length (by simp only [List.length_append]; omega), List.take_of_length_le (by simp only [List.length_append]; omega)]
theorem flat_take {c : Nat} {rs : List (List Value)} (h : RowsOk c rs) (i : Nat) : (rs.take i).flatten = rs.flatten.take (i * c) := by
  induction rs generalizing i with
  | nil => simp
  | cons r t ih =>
    cases i with
    | zero => simp
    | succ i =>
      have hr := (h r (by simp)).1
      rw [List.take_succ_cons, List.flatten_cons, List.flatten_cons, ih (fun x hx => h x (List.mem_cons_of_mem _ hx)), List.take_append, hr, Nat.succ_mul, List.take_of_length_le (l := r) (by omega)]
      congr 2; omega
theorem flat_drop {c : Nat} {rs : List (List Value)} (h : RowsOk c rs) (i : Nat) : (rs.drop i).flatten = rs.flatten.drop (i * c) := by
  induction rs generalizing i with
  | nil => simp
  | cons r t ih =>
    cases i with
    | zero => simp
    | succ i =>
      have hr := (h r (by simp)).1
      rw [List.drop_succ_cons, List.flatten_cons, ih (fun x hx => h x (List.mem_cons_of_mem _ hx)), List.drop_append, hr, Nat.succ_mul, List.drop_of_length_le (l := r) (by omega)]
      simp
theorem RowsOk.take {c : Nat} {rs : List (List Value)} (h : RowsOk c rs) (i : Nat) : RowsOk c (rs.take i) := fun r hr => h r (List.mem_of_mem_take hr)
theorem RowsOk.drop {c : Nat} {rs : List (List Value)} (h : RowsOk c rs) (i : Nat) : RowsOk c (rs.drop i) := fun r hr => h r (List.mem_of_mem_drop hr)
/-- Rows with one more. -/
def insR (rs : List (List Value)) (i : Nat) (r : List Value) : List (List Value) := rs.take i ++ r :: rs.drop i
theorem insR_ok {c : Nat} {rs : List (List Value)} (h : RowsOk c rs) {i : Nat} {r : List Value} (hr : RowsOk c [r]) : RowsOk c (insR rs i r) := by
  unfold insR
  exact (h.take i).append (fun x hx => by
    rcases List.mem_cons.1 hx with rfl | hx
    · exact hr _ (by simp)
    · exact h.drop i _ hx)
theorem insR_length {rs : List (List Value)} {i : Nat} {r : List Value} (hi : i ≤ rs.length) : (insR rs i r).length = rs.length + 1 := by
  unfold insR; rw [List.length_append, List.length_cons, List.length_take, List.length_drop]; omega
theorem insR_flat {c : Nat} {rs : List (List Value)} (h : RowsOk c rs) (i : Nat) (r : List Value) : (insR rs i r).flatten = rs.flatten.take (i * c) ++ (r ++ rs.flatten.drop (i * c)) := by
  unfold insR; rw [List.flatten_append, List.flatten_cons, flat_take h, flat_drop h]
/-- What is shifted and then filled. -/
theorem shift_list {cur fl r : List Value} {c n i : Nat} (hc : cur.take (n * c) = fl) (hfl : fl.length = n * c) (hi : i ≤ n) (hr : r.length = c) {cur1 cur2 : List Value}
    (h1 : cur1 = cur.take ((i + 1) * c) ++ fl.drop (i * c) ++ cur.drop ((i + 1) * c + (fl.drop (i * c)).length)) (h2 : cur2 = cur1.take (i * c) ++ r ++ cur1.drop (i * c + r.length)) (hlen : (n + 1) * c ≤ cur.length) :
    cur2.take ((n + 1) * c) = fl.take (i * c) ++ (r ++ fl.drop (i * c)) := by
  have hic : i * c ≤ n * c := Nat.mul_le_mul_right _ hi
  have e1 : (i + 1) * c = i * c + c := Nat.succ_mul _ _
  have e2 : (n + 1) * c = n * c + c := Nat.succ_mul _ _
  have hd : (fl.drop (i * c)).length = n * c - i * c := by rw [List.length_drop, hfl]
  have ht : (cur.take ((i + 1) * c)).length = i * c + c := by rw [List.length_take]; omega
  have t1 : cur1.take (i * c) = fl.take (i * c) := by
    rw [h1, List.append_assoc, List.take_append_of_le_length (by omega), List.take_take, ← hc, List.take_take]
    congr 1; omega
  have t2 : cur1.drop (i * c + r.length) = fl.drop (i * c) ++ cur.drop ((i + 1) * c + (fl.drop (i * c)).length) := by
    rw [h1, List.append_assoc, hr, ← ht, List.drop_left]
  rw [h2, t1, t2]
  have hl : (fl.take (i * c)).length = i * c := by rw [List.length_take]; omega
  rw [show fl.take (i * c) ++ r ++ (fl.drop (i * c) ++ cur.drop ((i + 1) * c + (fl.drop (i * c)).length)) = (fl.take (i * c) ++ (r ++ fl.drop (i * c))) ++ cur.drop ((i + 1) * c + (fl.drop (i * c)).length) by simp]
  rw [List.take_append_of_le_length (by simp only [List.length_append]; omega), List.take_of_length_le (by simp only [List.length_append]; omega)]
end Go.Proofs.YthooiobhlbnaoaaGreat
namespace Go.Proofs.YthooiobhlbnaoaaGreat
open Go.RowKit
set_option linter.unusedVariables false

theorem infoVal6 : (Tryz.prog.info? 30).map (fun i => i.size) = some 6 := by kernel_rfl
theorem Tryz.infoValG : (Tryz.prog.info? 30).map (fun i => (i.zero, i.size, i.bytes)) = some (some vv0.agg, 6, 80) := by kernel_rfl
theorem overlap_no (w : World) (a b ao bo la ca lb cb : Nat) (A B : Array Value) (hA : Blk w a A 30) (hB : Blk w b B 30) (hne : a ≠ b) (hB0 : B.size ≠ 0) :
    (callFunc 125 #[.slice (some ⟨a, ao, none⟩) la ca, .slice (some ⟨b, bo, none⟩) lb cb]).run Tryz.prog w = .ok (.value (.bool false)) w := by
  have hsa : w.shape? a = some (30, A.size) := by unfold World.shape?; rw [hA]
  have hsb : w.shape? b = some (30, B.size) := by unfold World.shape?; rw [hB]
  rw [run_callFunc_extern Tryz.func125 (by kernel_rfl) (by kernel_rfl) (by kernel_rfl) (e := Extern.SlicesOverlaps.overlaps #[46, 46] #[4]) (by kernel_rfl),
    Lib.run_overlaps_apart w 46 4 30 Tryz.underlying46 6 Tryz.sizeOf30 ⟨a, ao, none⟩ ⟨b, bo, none⟩ la ca lb cb hne 30 30 A.size B.size hsa hsb hB0 (hA.free _) (hA.free _)]
  rfl

set_option maxRecDepth 100000 in
set_option maxHeartbeats 1000000 in
theorem insertV_room (base g n cap i xb : Nat) (cur : Array Value) (rs : List (List Value)) (x : Vv) (w : World) (hq : Blk w g cur 30) (hsz : cur.size = cap * 6) (hcur : cur.toList.take (n * 6) = rs.flatten) (hok : RowsOk 6 rs) (hl : rs.length = n)
    (hi : i < n) (hroom : n + 1 ≤ cap) (hcm : cap ≤ maxLen) (hx : Blk w xb x.cells 30) (h1 : ∀ u ∈ x.cells.toList, u.oneCell' = true) (hne : xb ≠ g) :
    Calls Tryz.prog 97 #[.slice (some ⟨g, 0, none⟩) n cap, .int .i64 i, .slice (some ⟨xb, 0, none⟩) 1 1] w fun e w' => e = .returned (.slice (some ⟨g, 0, none⟩) (n + 1) cap) ∧
      (∃ cur', Blk w' g cur' 30 ∧ cur'.size = cap * 6 ∧ cur'.toList.take ((n + 1) * 6) = (insR rs i x.cells.toList).flatten) ∧ w.grownBy w' (some g) := by
  have hfl := flat_length hok
  rw [hl] at hfl
  have hov : ∀ lb cb, (callFunc 125 #[.slice (some ⟨xb, 0, none⟩) 1 1, .slice (some ⟨g, (i + 1) * 6, none⟩) lb cb]).run Tryz.prog w = .ok (.value (.bool false)) w := fun lb cb => overlap_no w xb g 0 _ 1 1 lb cb _ _ hx hq hne (by omega)
  unfold maxLen at hcm
  obtain ⟨cs1, hcs1⟩ : ∃ cs1, rs.flatten.drop (i * 6) = cs1 := ⟨_, rfl⟩
  have hcl : cs1.length = (n - i) * 6 := by rw [← hcs1, List.length_drop, hfl]; omega
  obtain ⟨cur1, hcur1⟩ : ∃ cur1, (cur.toList.take ((i + 1) * 6) ++ cs1 ++ cur.toList.drop ((i + 1) * 6 + cs1.length)).toArray = cur1 := ⟨_, rfl⟩
  obtain ⟨cur2, hcur2⟩ : ∃ cur2, (cur1.toList.take (i * 6) ++ x.cells.toList ++ cur1.toList.drop (i * 6 + x.cells.toList.length)).toArray = cur2 := ⟨_, rfl⟩
  have hs1 : cur1.size = cap * 6 := by
    rw [← hcur1, List.size_toArray]
    simp only [List.length_append, List.length_take, List.length_drop, Array.length_toList, hsz, hcl]
    omega
  have hs2 : cur2.size = cap * 6 := by
    rw [← hcur2, List.size_toArray]
    simp only [List.length_append, List.length_take, List.length_drop, Array.length_toList, hs1]
    simp only [List.length_cons, List.length_nil]
    omega
  have hcells : ∀ (j : Nat) (u : Value), rs.flatten[j]? = some u → w.cell? ⟨g, j, none⟩ = some u := fun j u hj => by
    refine hq.at ?_
    rw [← hcur, List.getElem?_take] at hj
    split at hj
    · rw [← Array.getElem?_toList]; exact hj
    · cases hj
  have h1c : ∀ v ∈ cs1, v.oneCell' = true := fun v hv => by
    rw [← hcs1] at hv
    have := List.mem_of_mem_drop hv
    rw [List.mem_flatten] at this
    obtain ⟨r, hr, hv⟩ := this
    exact (hok r hr).2 v hv
  have hcp1 : ∀ ty dc sc, (Builtin.copy_ #[46, 46] ty #[.slice (some ⟨g, (i + 1) * 6, none⟩) (n + 1 - (i + 1)) dc, .slice (some ⟨g, i * 6, none⟩) (n + 1 - i) sc]).run Tryz.prog w.drew = .ok (goInt (n - i : Nat)) (w.drew.setRow g cur1) := fun ty dc sc => by
    have hmin : Nat.min (n + 1 - i) (n + 1 - (i + 1)) = n - i := by simp only [Nat.min_def]; split <;> omega
    have := run_copy_rowC w.drew 46 46 ty 30 6 g ((i + 1) * 6) (n + 1 - (i + 1)) dc ⟨g, i * 6, none⟩ (n + 1 - i) sc cur 30 cs1 Tryz.underlying46 infoVal6 hq (by rw [hmin, hcl])
      (fun j v hj => by rw [addr_add]; exact hcells _ v (by rw [← hcs1, List.getElem?_drop] at hj; exact hj)) (by rw [hcl, hsz]; omega) h1c
    rw [hmin, hcur1] at this
    exact this
  have hcp2 : ∀ (W : World), Blk W g cur1 30 → Blk W xb x.cells 30 → ∀ ty dc, (Builtin.copy_ #[46, 46] ty #[.slice (some ⟨g, i * 6, none⟩) (n + 1 - i) dc, .slice (some ⟨xb, 0, none⟩) 1 1]).run Tryz.prog W = .ok (goInt (1 : Nat)) (W.setRow g cur2) := fun W hW1 hW2 ty dc => by
    have hmin : Nat.min 1 (n + 1 - i) = 1 := by simp only [Nat.min_def]; split <;> omega
    have := run_copy_rowC W 46 46 ty 30 6 g (i * 6) (n + 1 - i) dc ⟨xb, 0, none⟩ 1 1 cur1 30 x.cells.toList Tryz.underlying46 infoVal6 hW1 (by rw [hmin]; rfl)
      (fun j v hj => by rw [addr_add]; exact hW2.at (by rw [Nat.zero_add]; simpa using hj)) (by rw [hs1]; simp only [List.length_cons, List.length_nil]; omega) h1
    rw [hmin, hcur2] at this
    exact this
  have hz2 : ((i : Int) == (n : Int)) = false := by simp; omega
  have hz3 : decide ((cap : Int) < (n : Int) + 1) = false := by simp; omega
  have hn2 : ¬ cap = i := by omega
  have hn3 : ¬ cap = i + 1 := by omega
  have hin : i ≤ n := by omega
  have HCP1 := Lib.hid hcp1
  have HCP2 := Lib.hid hcp2
  have HX := Lib.hid hx
  have HQ := Lib.hid hq
  have HLN := Lib.hid hl
  have HCS := Lib.hid hcs1
  clear hcp1 hcp2 hcells h1c hcs1 hcl hx hq hfl hl
  go_enter Tryz.func97, Tryz.ntmps97
  go_upto_region 14 with fail
  go_wp2_with (simp only [hov])
  have htn : ((i : Int) + 1).toNat = i + 1 := by omega
  have hb1 : (0 : Int) ≤ (i : Int) + 1 := by omega
  have hb3 : (i : Int) + 1 ≤ (n : Int) + 1 := by omega
  have hb4 : i ≤ n + 1 := by omega
  have hb5 : (i : Int) ≤ (n : Int) + 1 := by omega
  have hb6 : ¬ ((n : Int) + 1 < (i : Int)) := by omega
  have hw1 : IntKind.i64.wrap ((i : Int) + 1) = (i : Int) + 1 := by rw [IntKind.wrap_i64]; omega
  refine region_plain (fun _ => True) [] (by kernel_rfl) ?_
  have qS : (fun _ : World => True) w.drew := trivial
  refine wpAnyD_take (i := 0) (v := .slice (some ⟨g, 0, none⟩) (n + 1) cap) rfl (by kernel_rfl) (by kernel_rfl) (by kernel_rfl) (by kernel_rfl) (by kernel_rfl) (fun _ _ _ h => h) (.inl ⟨by kernel_rfl, fun W' hS => by go_simp⟩) qS ?_
  refine wpAnyD_take (i := 1) (v := .int .i64 i) rfl (by kernel_rfl) (by kernel_rfl) (by kernel_rfl) (by kernel_rfl) (by kernel_rfl) (fun _ _ _ h => h) (.inl ⟨by kernel_rfl, fun W' hS => by go_simp⟩) qS ?_
  refine wpAnyD_take (i := 2) (v := .int .i64 1) rfl (by kernel_rfl) (by kernel_rfl) (by kernel_rfl) (by kernel_rfl) (by kernel_rfl) (fun _ _ _ h => h) (.inl ⟨by kernel_rfl, fun W' hS => by go_simp⟩) qS ?_
  refine wpAnyD_take (i := 3) (v := .int .i64 ((i : Int) + 1)) rfl (by kernel_rfl) (by kernel_rfl) (by kernel_rfl) (by kernel_rfl) (by kernel_rfl) (fun _ _ _ h => h) (.inl ⟨by kernel_rfl, fun W' hS => by go_simp⟩) qS ?_
  refine wpAnyD_take (i := 4) (v := .slice (some ⟨g, (i + 1) * 6, none⟩) (n + 1 - (i + 1)) (cap - (i + 1))) rfl (by kernel_rfl) (by kernel_rfl) (by kernel_rfl) (by kernel_rfl) (by kernel_rfl) (fun _ _ _ h => h) (.inl ⟨by kernel_rfl, fun W' hS => by go_simp⟩) qS ?_
  refine wpAnyD_take (i := 5) (v := .slice (some ⟨g, 0, none⟩) (n + 1) cap) rfl (by kernel_rfl) (by kernel_rfl) (by kernel_rfl) (by kernel_rfl) (by kernel_rfl) (fun _ _ _ h => h) (.inl ⟨by kernel_rfl, fun W' hS => by go_simp⟩) qS ?_
  refine wpAnyD_take (i := 6) (v := .int .i64 i) rfl (by kernel_rfl) (by kernel_rfl) (by kernel_rfl) (by kernel_rfl) (by kernel_rfl) (fun _ _ _ h => h) (.inl ⟨by kernel_rfl, fun W' hS => by go_simp⟩) qS ?_
  refine wpAnyD_take (i := 7) (v := .slice (some ⟨g, i * 6, none⟩) (n + 1 - i) (cap - i)) rfl (by kernel_rfl) (by kernel_rfl) (by kernel_rfl) (by kernel_rfl) (by kernel_rfl) (fun _ _ _ h => h) (.inl ⟨by kernel_rfl, fun W' hS => by go_simp⟩) qS ?_
  refine wpAnyD_one (i := 8) (by kernel_rfl) rfl (by kernel_rfl) ?_
  refine wp_copy_runV _ _ _ 46 46 rfl (.slice (some ⟨g, (i + 1) * 6, none⟩) (n + 1 - (i + 1)) (cap - (i + 1))) (.slice (some ⟨g, i * 6, none⟩) (n + 1 - i) (cap - i)) (by simp [Act.eval, Act.put]) (by simp [Act.eval, Act.put]) (HCP1.out _ _ _) ?_
  refine ⟨fun _ => trivial, ?_⟩
  refine wpAnyD_done (by kernel_rfl) ?_ _
  have hq1 : Blk (w.drew.setRow g cur1) g cur1 30 := setRow_heap w.drew g cur cur1 30 _ HQ.out
  have hx1 : Blk (w.drew.setRow g cur1) xb x.cells 30 := (setRow_other w.drew g xb cur1 hne).trans HX.out
  obtain ⟨W1, hW1⟩ : ∃ W1, w.drew.setRow g cur1 = W1 := ⟨_, rfl⟩
  rw [hW1] at hq1 hx1 ⊢
  have HW1 := Lib.hid hW1
  have HC2 := Lib.hid (HCP2.out W1 hq1 hx1)
  clear hW1
  go_simp
  go_upto_region 16 with fail
  iterate 13 go_step
  refine wpList_plain rfl fun _ hKK => wp_copy_runV W1 _ _ 46 46 rfl (.slice (some ⟨g, i * 6, none⟩) (n + 1 - i) (cap - i)) (.slice (some ⟨xb, 0, none⟩) 1 1) (by simp [Act.eval]) (by simp [Act.eval]) (HC2.out _ _) (hKK _ _ ?_)
  go_wp2_with fail
  go_ret
  have hsw : (W1.setRow g cur2).heap.size = w.heap.size := by rw [← HW1.out]; simp [World.setRow]
  refine ⟨by simp, ⟨cur2, setRow_heap W1 g cur1 cur2 30 _ hq1, hs2, ?_⟩, ⟨by rw [← HW1.out]; rfl, by rw [← HW1.out]; rfl, by rw [← HW1.out]; rfl, by omega, fun k _ hk => ?_⟩⟩
  · rw [insR_flat hok]
    refine shift_list (c := 6) (n := n) (i := i) (cur1 := cur1.toList) hcur (by have := flat_length hok; rw [HLN.out] at this; exact this) hin rfl ?_ ?_ (by rw [Array.length_toList, hsz]; omega)
    · rw [← hcur1, HCS.out]
    · rw [← hcur2]
  · have hkg : k ≠ g := fun e => hk (by rw [e])
    rw [setRow_other W1 g k cur2 hkg, ← HW1.out, setRow_other w.drew g k cur1 hkg]
    rfl
end Go.Proofs.YthooiobhlbnaoaaGreat
namespace Go.Proofs.YthooiobhlbnaoaaGreat
open Go.RowKit
set_option linter.unusedVariables false

set_option maxRecDepth 100000 in
set_option maxHeartbeats 1000000 in
theorem insertV_grow (base g n i xb : Nat) (cur : Array Value) (rs : List (List Value)) (x : Vv) (w : World) (hq : Blk w g cur 30) (hsz : cur.size = n * 6) (hcur : cur.toList.take (n * 6) = rs.flatten) (hok : RowsOk 6 rs) (hl : rs.length = n)
    (hi : i < n) (hbig : n ≤ 2 ^ 20) (hx : Blk w xb x.cells 30) (h1 : ∀ u ∈ x.cells.toList, u.oneCell' = true) :
    Calls Tryz.prog 97 #[.slice (some ⟨g, 0, none⟩) n n, .int .i64 i, .slice (some ⟨xb, 0, none⟩) 1 1] w fun e w' => ∃ G, e = .returned (.slice (some ⟨w.heap.size, 0, none⟩) (n + 1) G) ∧ n + 1 ≤ G ∧ G ≤ maxLen ∧
      (∃ cur', Blk w' w.heap.size cur' 30 ∧ cur'.size = G * 6 ∧ cur'.toList.take ((n + 1) * 6) = (insR rs i x.cells.toList).flatten) ∧ w.grownBy w' none := by
  have hfl := flat_length hok
  rw [hl] at hfl
  obtain ⟨i0, hi0, hz0, hzs, hzb⟩ := info_parts Tryz.infoValG
  have hgl := hq.lt
  have hxl := hx.lt
  obtain ⟨N, hN⟩ : ∃ N, w.heap.size = N := ⟨_, rfl⟩
  rw [hN] at hgl hxl ⊢
  obtain ⟨G, hG⟩ : ∃ G, grownCap w (n + 1) n 30 = G := ⟨_, rfl⟩
  have hGn : n + 1 ≤ G := by rw [← hG]; exact grownCap_ge w _ _ _
  have hGm : G ≤ maxLen := by rw [← hG]; exact grownCap_le_maxLen w (n + 1) n 30 (by unfold maxLen; omega)
  have hcells : ∀ (j : Nat) (u : Value), rs.flatten[j]? = some u → w.cell? ⟨g, j, none⟩ = some u := fun j u hj => by
    refine hq.at ?_
    rw [← hcur, List.getElem?_take] at hj
    split at hj
    · rw [← Array.getElem?_toList]; exact hj
    · cases hj
  have h1c : ∀ v ∈ rs.flatten, v.oneCell' = true := fun v hv => by
    rw [List.mem_flatten] at hv
    obtain ⟨r, hr, hv⟩ := hv
    exact (hok r hr).2 v hv
  obtain ⟨ROW, hROW⟩ : ∃ ROW : Array Value, (rs.flatten.take (i * 6)).toArray ++ Builtin.zeroCells vv0.agg.cells (n + 1 - i) ++ Builtin.zeroCells vv0.agg.cells (G - (n + 1)) = ROW := ⟨_, rfl⟩
  have hRs : ROW.size = G * 6 := by
    rw [← hROW]
    simp [Builtin.zeroCells, Value.cells, hfl]
    omega
  have hRt : ROW.toList.take (i * 6) = rs.flatten.take (i * 6) := by
    rw [← hROW, Array.toList_append, Array.toList_append, List.append_assoc, List.take_append_of_le_length (by rw [List.length_take, hfl]; omega), List.take_of_length_le (by rw [List.length_take, hfl]; omega)]
  have hap : ∀ ty, (Builtin.append_ #[46, 3] ty #[.slice (some ⟨g, 0, none⟩) i n, .int .i64 ((n : Int) + 1 - (i : Int))]).run Tryz.prog w = .ok (.slice (some ⟨N, 0, none⟩) (n + 1) G) (w.drew.alloc (.cells ROW 30)) := fun ty => by
    have hold : (Builtin.firstCells i0.size i (.slice (some ⟨g, 0, none⟩) i n)).run Tryz.prog w.drew = .ok (rs.flatten.take (i * 6)).toArray w.drew := by
      rw [hzs]
      exact run_firstCells_some w.drew 6 i ⟨g, 0, none⟩ i n (rs.flatten.take (i * 6)) (by rw [List.length_take, hfl]; omega) (fun j v hj => by
        rw [addr_add, Nat.zero_add]
        rw [List.getElem?_take] at hj
        split at hj
        · exact hcells j v hj
        · cases hj)
    have hik : i + (n + 1 - i) = n + 1 := by omega
    have h := Lib.run_append_grow_zeros w 46 3 ty 30 i0 _ .i64 .i64 Tryz.underlying46 Tryz.underlying3 hi0 hz0 (some ⟨g, 0, none⟩) i n (rs.flatten.take (i * 6)) hold (n + 1 - i) (by omega) (by omega) (by omega) (by omega) (by rw [hzb]; omega) (by rw [hzb, hik]; exact growslice_fits (by omega) (by omega))
    rw [hik, hG, hROW, hN, show (((n + 1 - i : Nat)) : Int) = (n : Int) + 1 - (i : Int) by omega] at h
    exact h
  obtain ⟨cur1, hcur1⟩ : ∃ cur1, (ROW.toList.take (i * 6) ++ x.cells.toList ++ ROW.toList.drop (i * 6 + x.cells.toList.length)).toArray = cur1 := ⟨_, rfl⟩
  obtain ⟨cs1, hcs1⟩ : ∃ cs1, rs.flatten.drop (i * 6) = cs1 := ⟨_, rfl⟩
  have hcl : cs1.length = (n - i) * 6 := by rw [← hcs1, List.length_drop, hfl]; omega
  obtain ⟨cur2, hcur2⟩ : ∃ cur2, (cur1.toList.take ((i + 1) * 6) ++ cs1 ++ cur1.toList.drop ((i + 1) * 6 + cs1.length)).toArray = cur2 := ⟨_, rfl⟩
  have hs1 : cur1.size = G * 6 := by
    rw [← hcur1, List.size_toArray]
    simp only [List.length_append, List.length_take, List.length_drop, Array.length_toList, hRs]
    simp only [List.length_cons, List.length_nil]
    omega
  have hs2 : cur2.size = G * 6 := by
    rw [← hcur2, List.size_toArray]
    simp only [List.length_append, List.length_take, List.length_drop, Array.length_toList, hs1, hcl]
    omega
  obtain ⟨W1, hW1⟩ : ∃ W1, w.drew.alloc (.cells ROW 30) = W1 := ⟨_, rfl⟩
  rw [hW1] at hap
  have hNW : w.drew.heap.size = N := hN
  have hR1 : Blk W1 N ROW 30 := by rw [← hW1, ← hNW]; exact Blk.new w.drew ROW 30
  have hbW : ∀ k, k < N → W1.heap[k]? = w.heap[k]? := fun k hk => by rw [← hW1]; exact Below.heap_alloc w.drew _ _ (by rw [hNW]; exact hk)
  have hcp1 : ∀ ty dc, (Builtin.copy_ #[46, 46] ty #[.slice (some ⟨N, i * 6, none⟩) (n + 1 - i) dc, .slice (some ⟨xb, 0, none⟩) 1 1]).run Tryz.prog W1 = .ok (goInt (1 : Nat)) (W1.setRow N cur1) := fun ty dc => by
    have hmin : Nat.min 1 (n + 1 - i) = 1 := by simp only [Nat.min_def]; split <;> omega
    have := run_copy_rowC W1 46 46 ty 30 6 N (i * 6) (n + 1 - i) dc ⟨xb, 0, none⟩ 1 1 ROW 30 x.cells.toList Tryz.underlying46 infoVal6 hR1 (by rw [hmin]; rfl)
      (fun j v hj => by rw [addr_add]; exact Blk.at ((hbW xb hxl).trans hx) (by rw [Nat.zero_add]; simpa using hj)) (by rw [hRs]; simp only [List.length_cons, List.length_nil]; omega) h1
    rw [hmin, hcur1] at this
    exact this
  have hcp2 : ∀ (W : World), Blk W N cur1 30 → W.heap[g]? = w.heap[g]? → ∀ ty dc sc, (Builtin.copy_ #[46, 46] ty #[.slice (some ⟨N, (i + 1) * 6, none⟩) (n + 1 - (i + 1)) dc, .slice (some ⟨g, i * 6, none⟩) (n - i) sc]).run Tryz.prog W = .ok (goInt (n - i : Nat)) (W.setRow N cur2) := fun W hW1 hW2 ty dc sc => by
    have hmin : Nat.min (n - i) (n + 1 - (i + 1)) = n - i := by simp only [Nat.min_def]; split <;> omega
    have := run_copy_rowC W 46 46 ty 30 6 N ((i + 1) * 6) (n + 1 - (i + 1)) dc ⟨g, i * 6, none⟩ (n - i) sc cur1 30 cs1 Tryz.underlying46 infoVal6 hW1 (by rw [hmin, hcl])
      (fun j v hj => by
        rw [addr_add]
        refine (World.cell?_of_block (w := w) (a := ⟨g, _, none⟩) hW2).trans (hcells _ v ?_)
        rw [← hcs1, List.getElem?_drop] at hj; exact hj) (by rw [hcl, hs1]; omega) (fun v hv => h1c v (by rw [← hcs1] at hv; exact List.mem_of_mem_drop hv))
    rw [hmin, hcur2] at this
    exact this
  have hm := hGm
  unfold maxLen at hm
  have hz2 : ((i : Int) == (n : Int)) = false := by simp; omega
  have hz3 : decide ((n : Int) < (n : Int) + 1) = true := by simp; omega
  have hn2 : ¬ n = i := by omega
  have hn4 : ¬ G = i := by omega
  have hn5 : ¬ G = i + 1 := by omega
  have hin : i ≤ n := by omega
  have hin2 : i ≤ n + 1 := by omega
  have htn : ((i : Int) + 1).toNat = i + 1 := by omega
  have hb1 : (0 : Int) ≤ (i : Int) + 1 := by omega
  have hb3 : (i : Int) + 1 ≤ (n : Int) + 1 := by omega
  have hb5 : (i : Int) ≤ (n : Int) + 1 := by omega
  have hb6 : ¬ ((n : Int) + 1 < (i : Int)) := by omega
  have hw1 : IntKind.i64.wrap ((i : Int) + 1) = (i : Int) + 1 := by rw [IntKind.wrap_i64]; omega
  have HAP := Lib.hid hap
  have HCP1 := Lib.hid hcp1
  have HCP2 := Lib.hid hcp2
  have HLN := Lib.hid hl
  have HCS := Lib.hid hcs1
  have HQ := Lib.hid hq
  have HX := Lib.hid hx
  have HB := Lib.hid hbW
  have HR1 := Lib.hid hR1
  have HW1 := Lib.hid hW1
  have HNN := Lib.hid hN
  have HRT := Lib.hid hRt
  have H1C := Lib.hid h1c
  clear hap hcp1 hcp2 hcells h1c hcs1 hcl hx hq hfl hl hbW hR1 hW1 hN hNW hRt hROW hG hi0 hz0 hzs hzb
  go_enter Tryz.func97, Tryz.ntmps97
  go_upto_region 9 with fail
  iterate 25 go_step
  refine wpList_plain rfl fun _ hKK => wp_append_runV w _ _ 46 3 rfl (.slice (some ⟨g, 0, none⟩) i n) (.int .i64 ((n : Int) + 1 - (i : Int))) (by simp [Act.eval]) (by simp [Act.eval]) (HAP.out _) (hKK _ _ ?_)
  go_upto_region 10 with fail
  iterate 13 go_step
  refine wpList_plain rfl fun _ hKK => wp_copy_runV W1 _ _ 46 46 rfl (.slice (some ⟨N, i * 6, none⟩) (n + 1 - i) (G - i)) (.slice (some ⟨xb, 0, none⟩) 1 1) (by simp [Act.eval]) (by simp [Act.eval]) (HCP1.out _ _) (hKK _ _ ?_)
  have hgN : g ≠ N := by omega
  have hq2 : Blk (W1.setRow N cur1) N cur1 30 := setRow_heap W1 N ROW cur1 30 _ HR1.out
  have hg2 : (W1.setRow N cur1).heap[g]? = w.heap[g]? := (setRow_other W1 N g cur1 hgN).trans (HB.out g hgl)
  have HW1s : Hid (W1.heap.size = N + 1) := Lib.hid (by rw [← HW1.out, World.size_alloc]; show w.heap.size + 1 = _; rw [HNN.out])
  obtain ⟨W2, hW2⟩ : ∃ W2, W1.setRow N cur1 = W2 := ⟨_, rfl⟩
  rw [hW2] at hq2 hg2 ⊢
  have HW2 := Lib.hid hW2
  have HC2 := Lib.hid (HCP2.out W2.drew hq2 hg2)
  clear hW2
  go_upto_region 11 with fail
  refine region_plain (fun _ => True) [] (by kernel_rfl) ?_
  have qS : (fun _ : World => True) W2.drew := trivial
  refine wpAnyD_take (i := 0) (v := .slice (some ⟨N, 0, none⟩) (n + 1) G) rfl (by kernel_rfl) (by kernel_rfl) (by kernel_rfl) (by kernel_rfl) (by kernel_rfl) (fun _ _ _ h => h) (.inl ⟨by kernel_rfl, fun W' hS => by go_simp⟩) qS ?_
  refine wpAnyD_take (i := 1) (v := .int .i64 i) rfl (by kernel_rfl) (by kernel_rfl) (by kernel_rfl) (by kernel_rfl) (by kernel_rfl) (fun _ _ _ h => h) (.inl ⟨by kernel_rfl, fun W' hS => by go_simp⟩) qS ?_
  refine wpAnyD_take (i := 2) (v := .int .i64 1) rfl (by kernel_rfl) (by kernel_rfl) (by kernel_rfl) (by kernel_rfl) (by kernel_rfl) (fun _ _ _ h => h) (.inl ⟨by kernel_rfl, fun W' hS => by go_simp⟩) qS ?_
  refine wpAnyD_take (i := 3) (v := .int .i64 ((i : Int) + 1)) rfl (by kernel_rfl) (by kernel_rfl) (by kernel_rfl) (by kernel_rfl) (by kernel_rfl) (fun _ _ _ h => h) (.inl ⟨by kernel_rfl, fun W' hS => by go_simp⟩) qS ?_
  refine wpAnyD_take (i := 4) (v := .slice (some ⟨N, (i + 1) * 6, none⟩) (n + 1 - (i + 1)) (G - (i + 1))) rfl (by kernel_rfl) (by kernel_rfl) (by kernel_rfl) (by kernel_rfl) (by kernel_rfl) (fun _ _ _ h => h) (.inl ⟨by kernel_rfl, fun W' hS => by go_simp⟩) qS ?_
  refine wpAnyD_take (i := 5) (v := .slice (some ⟨g, 0, none⟩) n n) rfl (by kernel_rfl) (by kernel_rfl) (by kernel_rfl) (by kernel_rfl) (by kernel_rfl) (fun _ _ _ h => h) (.inl ⟨by kernel_rfl, fun W' hS => by go_simp⟩) qS ?_
  refine wpAnyD_take (i := 6) (v := .int .i64 i) rfl (by kernel_rfl) (by kernel_rfl) (by kernel_rfl) (by kernel_rfl) (by kernel_rfl) (fun _ _ _ h => h) (.inl ⟨by kernel_rfl, fun W' hS => by go_simp⟩) qS ?_
  refine wpAnyD_take (i := 7) (v := .slice (some ⟨g, i * 6, none⟩) (n - i) (n - i)) rfl (by kernel_rfl) (by kernel_rfl) (by kernel_rfl) (by kernel_rfl) (by kernel_rfl) (fun _ _ _ h => h) (.inl ⟨by kernel_rfl, fun W' hS => by go_simp⟩) qS ?_
  refine wpAnyD_one (i := 8) (by kernel_rfl) rfl (by kernel_rfl) ?_
  refine wp_copy_runV _ _ _ 46 46 rfl (.slice (some ⟨N, (i + 1) * 6, none⟩) (n + 1 - (i + 1)) (G - (i + 1))) (.slice (some ⟨g, i * 6, none⟩) (n - i) (n - i)) (by simp [Act.eval, Act.put]) (by simp [Act.eval, Act.put]) (HC2.out _ _ _) ?_
  refine ⟨fun _ => trivial, ?_⟩
  refine wpAnyD_done (by kernel_rfl) ?_ _
  go_simp
  go_wp2_with fail
  go_ret
  have hsw : (W2.drew.setRow N cur2).heap.size = N + 1 := by rw [← HW1s.out, ← HW2.out]; simp [World.setRow]
  refine ⟨G, rfl, hGn, hGm, ⟨cur2, setRow_heap W2.drew N cur1 cur2 30 _ hq2, hs2, ?_⟩, ⟨by rw [← HW2.out, ← HW1.out]; rfl, by rw [← HW2.out, ← HW1.out]; rfl, by rw [← HW2.out, ← HW1.out]; rfl, by rw [hsw, HNN.out]; omega, fun k hk _ => ?_⟩⟩
  · rw [insR_flat hok]
    refine grow_list (c := 6) (n := n) (i := i) (ROW := ROW.toList) (cur1 := cur1.toList) HRT.out (by have := flat_length hok; rw [HLN.out] at this; exact this) hin rfl (by rw [Array.length_toList, hRs]; omega) ?_ ?_
    · rw [← hcur1]
    · rw [← hcur2, HCS.out]
  · rw [HNN.out] at hk
    have hkN : k ≠ N := by omega
    rw [setRow_other W2.drew N k cur2 hkN]
    show W2.heap[k]? = _
    rw [← HW2.out, setRow_other W1 N k cur1 hkN]
    exact HB.out k hk
end Go.Proofs.YthooiobhlbnaoaaGreat
namespace Go.Proofs.YthooiobhlbnaoaaGreat
open Go.RowKit
set_option linter.unusedVariables false

theorem vv_row (x : Vv) (h1 : ∀ u ∈ x.cells.toList, u.oneCell' = true) : RowsOk 6 [x.cells.toList] := RowsOk.one rfl h1
theorem row_cellV {w : World} {xb : Nat} {z : Vv} (h : Blk w xb z.cells 30) {i j : Nat} {r : List Value} {u : Value} (hi : [z.cells.toList][i]? = some r) (hj : r[j]? = some u) : w.cell? ⟨xb, 0 + (i * 6 + j), none⟩ = some u := by
  match i, hi with
  | 0, hi =>
    simp only [List.getElem?_cons_zero, Option.some.injEq] at hi
    subst hi
    have := h.at (i := j) (x := u) (by simpa using hj)
    rwa [show 0 + (0 * 6 + j) = j by omega]
  | i + 1, hi => simp at hi
theorem insR_end {rs : List (List Value)} (r : List Value) : insR rs rs.length r = rs ++ [r] := by unfold insR; rw [List.take_length, List.drop_length]

set_option maxRecDepth 100000 in
set_option maxHeartbeats 1000000 in
theorem insertV_end (base xb : Nat) (v : Value) (rs : List (List Value)) (x : Vv) (w : World) (hown : OwnR 6 30 base w v rs) (hbig : rs.length ≤ 2 ^ 20) (hbase : base ≤ w.heap.size) (hx : Blk w xb x.cells 30) (h1 : ∀ u ∈ x.cells.toList, u.oneCell' = true) :
    Calls Tryz.prog 97 #[v, .int .i64 rs.length, .slice (some ⟨xb, 0, none⟩) 1 1] w fun e w' => ∃ v', e = .returned v' ∧ OwnR 6 30 base w' v' (rs ++ [x.cells.toList]) ∧ w.grownBy w' v.ownBlock ∧ ∃ g, v'.ownBlock = some g ∧ (v.ownBlock = some g ∨ g = w.heap.size) := by
  have HRC : Hid (∀ (i : Nat) (r : List Value) (j : Nat) (u : Value), [x.cells.toList][i]? = some r → r[j]? = some u → w.cell? ⟨xb, 0 + (i * 6 + j), none⟩ = some u) := Lib.hid fun i r j u hi hj => row_cellV hx hi hj
  have hrow := vv_row x h1
  obtain ⟨n, hn⟩ : ∃ n, rs.length = n := ⟨_, rfl⟩
  obtain ⟨R, hR⟩ : ∃ R, x.cells.toList = R := ⟨_, rfl⟩
  have hRl : ([R] : List (List Value)).length = 1 := rfl
  rw [hR] at HRC hrow ⊢
  have HN := Lib.hid hn
  have HOWN := Lib.hid hown
  have HROW := Lib.hid hrow
  have hnn : ((n : Int) == (n : Int)) = true := by simp
  clear hn
  rcases hown.1.2 with ⟨rfl, h0⟩ | ⟨g, cap, cur, rfl, hb, hg, hnc, hm, hs, ht⟩
  · rw [HN.out] at h0 hbig ⊢
    subst h0
    clear hown hrow hx h1 hR
    go_enter Tryz.func97, Tryz.ntmps97
    go_wp2_with (at_builtin; refine wpList_append_rows rfl (.tmp 23) (.tmp 24) 46 rfl Tryz.underlying46 Tryz.infoValG (by kernel_rfl) (by decide) rfl HOWN.out (b := xb) (off := 0) (m := 1) (cap := 1) (ms := [R]) rfl rfl HROW.out HRC.out (by decide) (by rw [HN.out]; simp [maxLen]) (by rw [HN.out]; omega) hbase ?_; intro g1 cap1 w5 hown5 hg5 hat5)
    all_goals go_wp2_with fail
    all_goals go_ret
    all_goals
      exact ⟨_, rfl, hown5, hg5, g1, rfl, hat5⟩
  · rw [HN.out] at hnc HOWN hbig ⊢
    unfold maxLen at hm
    clear hown hrow hx h1 hR ht hs hg
    go_enter Tryz.func97, Tryz.ntmps97
    go_wp2_with (at_builtin; refine wpList_append_rows rfl (.tmp 23) (.tmp 24) 46 rfl Tryz.underlying46 Tryz.infoValG (by kernel_rfl) (by decide) rfl HOWN.out (b := xb) (off := 0) (m := 1) (cap := 1) (ms := [R]) rfl rfl HROW.out HRC.out (by decide) (by rw [HN.out]; simp [maxLen]; omega) (by rw [HN.out]; omega) hbase ?_; intro g1 cap1 w5 hown5 hg5 hat5)
    all_goals go_wp2_with fail
    all_goals go_ret
    all_goals
      exact ⟨_, rfl, hown5, hg5, g1, rfl, hat5⟩

theorem insertV_any (base i xb : Nat) (v : Value) (rs : List (List Value)) (x : Vv) (w : World) (hown : OwnR 6 30 base w v rs) (hi : i ≤ rs.length) (hbig : rs.length ≤ 2 ^ 20) (hbase : base ≤ w.heap.size) (hx : Blk w xb x.cells 30)
    (h1 : ∀ u ∈ x.cells.toList, u.oneCell' = true) (hne : v.ownBlock ≠ some xb) :
    Calls Tryz.prog 97 #[v, .int .i64 i, .slice (some ⟨xb, 0, none⟩) 1 1] w fun e w' => ∃ v', e = .returned v' ∧ OwnR 6 30 base w' v' (insR rs i x.cells.toList) ∧ w.grownBy w' v.ownBlock ∧ ∃ g, v'.ownBlock = some g ∧ (v.ownBlock = some g ∨ g = w.heap.size) := by
  by_cases he : i = rs.length
  · subst he
    rw [insR_end]
    exact insertV_end base xb v rs x w hown hbig hbase hx h1
  · have hlt : i < rs.length := by omega
    rcases hown.1.2 with ⟨rfl, h0⟩ | ⟨g, cap, cur, rfl, hb, hg, hnc, hm, hs, ht⟩
    · omega
    · have hne' : xb ≠ g := fun e => hne (by simp [Value.ownBlock, e])
      have hlr := insR_length (r := x.cells.toList) hi
      by_cases hroom : rs.length + 1 ≤ cap
      · refine (insertV_room base g rs.length cap i xb cur rs x w hg hs ht hown.2 rfl hlt hroom hm hx h1 hne').mono ?_
        rintro e w' ⟨rfl, ⟨cur', hq, hsz, htk⟩, hgr⟩
        refine ⟨_, rfl, ⟨⟨by rw [flat_length (insR_ok hown.2 (vv_row x h1))], .inr ⟨g, cap, cur', by rw [hlr], hb, hq, by omega, hm, hsz, by rw [hlr]; exact htk⟩⟩, insR_ok hown.2 (vv_row x h1)⟩, hgr, g, rfl, .inl rfl⟩
      · obtain rfl : cap = rs.length := by omega
        refine (insertV_grow base g rs.length i xb cur rs x w hg hs ht hown.2 rfl hlt hbig hx h1).mono ?_
        rintro e w' ⟨G, rfl, hG1, hG2, ⟨cur', hq, hsz, htk⟩, hgr⟩
        refine ⟨_, rfl, ⟨⟨by rw [flat_length (insR_ok hown.2 (vv_row x h1))], .inr ⟨w.heap.size, G, cur', by rw [hlr], hbase, hq, by omega, hG2, hsz, by rw [hlr]; exact htk⟩⟩, insR_ok hown.2 (vv_row x h1)⟩, ⟨hgr.os, hgr.tape, hgr.output, hgr.size, fun k hk _ => hgr.block k hk (by simp)⟩, w.heap.size, rfl, .inr rfl⟩
end Go.Proofs.YthooiobhlbnaoaaGreat
namespace Go.Proofs.YthooiobhlbnaoaaGreat
open Go.RowKit
set_option linter.unusedVariables false

/-- What insert leaves. -/
def InsPost (base sb so : Nat) (cv : Value) (l : List Vq) (v : Vq) (rs : List (List Value)) (w : World) (e : Ending) (w' : World) : Prop :=
  (insC l v = none ∧ e = .returned (.bool false) ∧ Below w.heap.size w w') ∨ (fnd l v = true ∧ e = .returned (.bool true) ∧ Below w.heap.size w w') ∨
  (fnd l v = false ∧ l.length ≠ 32 ∧ e = .returned (.bool true) ∧ ∃ (z : Vv) (cv' : Value) (W5 : World) (g hi : Nat), w' = W5.setCell ⟨sb, so + 10, none⟩ cv' ∧ OwnR 6 30 base W5 cv' (insR rs (srch l v) z.cells.toList) ∧ w.grownBy W5 cv.ownBlock ∧
    Zed (Btw w.heap.size hi) W5 (fun K W => VlX K W v z) ∧ w.heap.size ≤ hi ∧ hi ≤ W5.heap.size ∧ cv'.ownBlock = some g ∧ (cv.ownBlock = some g ∨ hi ≤ g))

set_option maxRecDepth 100000 in
set_option maxHeartbeats 4000000 in
theorem ginsert_any (K base sb so : Nat) (cv : Value) (l : List Vq) (kd : Int) (v : Vq) (x : Vv) (rs : List (List Value)) (w : World) (hl : CutsX K w cv l) (hown : OwnR 6 30 base w cv rs) (hrl : rs.length = l.length) (hv : VlX K w v x)
    (hvo : v.good = true) (hvo1 : v.ok = true) (hvk : v.kd = kd) (ho : CutsOk kd l) (hlen : l.length ≤ 32) (hK : K ≤ w.heap.size) (hbase : base ≤ w.heap.size) (hs : w.cell? ⟨sb, so + 10, none⟩ = some cv) (hfz : w.frozen? ⟨sb, so + 10, none⟩ = false) (hne : cv.ownBlock ≠ some sb) :
    Calls Tryz.prog 53 #[.pointer (some ⟨sb, so, none⟩), x.agg] w (InsPost base sb so cv l v rs w) := by
  have hsb : sb < w.heap.size := block_lt_of_cell hs
  have bW : Below w.heap.size w (w.alloc (.cells x.cells 30)) := (Below.refl _ _).alloc (Nat.le_refl _) _
  have qW : Blk (w.alloc (.cells x.cells 30)) w.heap.size x.cells 30 := Blk.new w _ _
  have hsr := gsearch_any w.heap.size sb so cv l kd v x (w.alloc (.cells x.cells 30)) (hl.below bW hK hK) (hv.below bW hK hK) ho hvo hvo1 hvk (by simp) ((bW.cell (p := ⟨sb, so + 10, none⟩) hsb).trans hs) (by simp; omega) (by omega)
  have HS := Lib.hid hs
  have HF := Lib.hid hfz
  have HV := Lib.hid hv
  have HOWN := Lib.hid hown
  have HRL := Lib.hid hrl
  have HNE := Lib.hid hne
  have HG := Lib.hid hvo
  have HBW := Lib.hid bW
  have HQW := Lib.hid qW
  obtain ⟨ca, cn, hcv, _⟩ := hl.form
  have HSL := Lib.hid (srch_le l v)
  have HINS : Hid (insC l v = if fnd l v then some l else if l.length = 32 then none else some (l.take (srch l v) ++ v :: l.drop (srch l v))) := Lib.hid rfl
  have HP : Hid (∀ e w', ((insC l v = none ∧ e = .returned (.bool false) ∧ Below w.heap.size w w') ∨ (fnd l v = true ∧ e = .returned (.bool true) ∧ Below w.heap.size w w') ∨
    (fnd l v = false ∧ l.length ≠ 32 ∧ e = .returned (.bool true) ∧ ∃ (z : Vv) (cv' : Value) (W5 : World) (g hi : Nat), w' = W5.setCell ⟨sb, so + 10, none⟩ cv' ∧ OwnR 6 30 base W5 cv' (insR rs (srch l v) z.cells.toList) ∧ w.grownBy W5 cv.ownBlock ∧
    Zed (Btw w.heap.size hi) W5 (fun K W => VlX K W v z) ∧ w.heap.size ≤ hi ∧ hi ≤ W5.heap.size ∧ cv'.ownBlock = some g ∧ (cv.ownBlock = some g ∨ hi ≤ g))) → InsPost base sb so cv l v rs w e w') := Lib.hid fun _ _ h => h
  obtain ⟨f, hf⟩ : ∃ f, fnd l v = f := ⟨_, rfl⟩
  obtain ⟨r, hr⟩ : ∃ r, srch l v = r := ⟨_, rfl⟩
  obtain ⟨n, hn⟩ : ∃ n, l.length = n := ⟨_, rfl⟩
  rw [hf, hr] at hsr
  rw [hf, hr, hn] at HP
  rw [hf, hn] at HINS
  rw [hr, hn] at HSL
  rw [hn] at HRL hlen hcv
  subst hcv
  have hx1 : x.s1.oneCell' = true ∧ x.s2.oneCell' = true := by
    obtain ⟨_, _, h1, _⟩ := hv.n.form
    obtain ⟨_, _, h2, _⟩ := hv.d.form
    rw [h1, h2]; exact ⟨rfl, rfl⟩
  clear hl hown hrl hv hvo hvo1 hvk ho hs hfz hne bW qW hf hr hn
  obtain ⟨kx, m1, x1, m2, x2, xi⟩ := x
  dsimp only at hx1
  obtain ⟨hx1, hx2⟩ := hx1
  go_enter Tryz.func53, Tryz.ntmps53
  go_wp2_with fail
  refine hsr.mono ?_
  rintro e w2 ⟨rfl, hb2⟩
  clear hsr
  have b2 : Below w.heap.size w w2 := HBW.out.trans (hb2.mono (by simp))
  have q2 := HQW.out.below hb2 (by simp)
  have c2 : w2.cell? ⟨sb, so + 10, none⟩ = some (.slice ca n cn) := (b2.cell (p := ⟨sb, so + 10, none⟩) hsb).trans HS.out
  cases f with
  | true =>
    go_wp2_with fail
    go_ret
    exact HP.out _ _ (.inr (.inl ⟨by simp, rfl, b2⟩))
  | false =>
    by_cases h32 : n = 32
    · have hi := HINS.out
      rw [if_neg (by simp), if_pos h32] at hi
      have HI := Lib.hid hi
      subst h32
      clear hi
      go_wp2_with fail
      go_ret
      exact HP.out _ _ (.inl ⟨HI.out, rfl, b2⟩)
    · have h32' : ((n : Int) == 32) = false := by simp; omega
      have H32 := Lib.hid h32
      have hs2 := b2.size
      have q2lt := q2.lt
      clear h32
      go_upto_region 6 with fail
      have HC2 := Lib.hid c2
      have HQ2 := Lib.hid q2
      clear c2 q2
      refine region_plain (fun W' => W'.cell? ⟨sb, so + 10, none⟩ = some (.slice ca n cn) ∧ Blk W' w.heap.size #[.int .u8 kx, .bool m1, x1, .bool m2, x2, .int .i64 xi] 30) [12] (by kernel_rfl) ?_
      have qS : (fun W' : World => W'.cell? ⟨sb, so + 10, none⟩ = some (.slice ca n cn) ∧ Blk W' w.heap.size #[.int .u8 kx, .bool m1, x1, .bool m2, x2, .int .i64 xi] 30) w2.drew := ⟨HC2.out, HQ2.out⟩
      refine wpAnyD_takeC [12, 11, 10] (i := 0) (v := .pointer (some ⟨sb, so, none⟩)) rfl (by kernel_rfl) (by kernel_rfl) (by kernel_rfl) (by kernel_rfl) (by kernel_rfl) (by kernel_rfl) (fun _ _ _ h => h) (.inl ⟨by kernel_rfl, fun W' hS => by go_simp⟩) qS ?_
      refine wpAnyD_takeC [12, 9, 4, 3, 2] (i := 1) (v := .pointer (some ⟨sb, so, none⟩)) rfl (by kernel_rfl) (by kernel_rfl) (by kernel_rfl) (by kernel_rfl) (by kernel_rfl) (by kernel_rfl) (fun _ _ _ h => h) (.inl ⟨by kernel_rfl, fun W' hS => by go_simp⟩) qS ?_
      refine wpAnyD_takeC [12, 9, 4, 3] (i := 2) (v := .pointer (some ⟨sb, so, none⟩)) rfl (by kernel_rfl) (by kernel_rfl) (by kernel_rfl) (by kernel_rfl) (by kernel_rfl) (by kernel_rfl) (fun _ _ _ h => h) (.inl ⟨by kernel_rfl, fun W' hS => by go_simp⟩) qS ?_
      refine wpAnyD_takeC [12, 9, 4] (i := 3) (v := .pointer (some ⟨sb, so + 10, none⟩)) rfl (by kernel_rfl) (by kernel_rfl) (by kernel_rfl) (by kernel_rfl) (by kernel_rfl) (by kernel_rfl) (fun _ _ _ h => h) (.inl ⟨by kernel_rfl, fun W' hS => by go_simp⟩) qS ?_
      refine wpAnyD_takeC [12, 9] (i := 4) (v := .slice ca n cn) rfl (by kernel_rfl) (by kernel_rfl) (by kernel_rfl) (by kernel_rfl) (by kernel_rfl) (by kernel_rfl) (fun _ _ _ h => h) (.inl ⟨by kernel_rfl, fun W' hS => by have d := hS.1; go_simp⟩) qS ?_
      refine wpAnyD_takeC [12, 9] (i := 5) (v := .int .i64 r) rfl (by kernel_rfl) (by kernel_rfl) (by kernel_rfl) (by kernel_rfl) (by kernel_rfl) (by kernel_rfl) (fun _ _ _ h => h) (.inl ⟨by kernel_rfl, fun W' hS => by go_simp⟩) qS ?_
      refine wpAnyD_takeC [12, 9, 8, 7] (i := 6) (v := .agg #[.int .u8 kx, .bool m1, x1, .bool m2, x2, .int .i64 xi]) rfl (by kernel_rfl) (by kernel_rfl) (by kernel_rfl) (by kernel_rfl) (by kernel_rfl) (by kernel_rfl) (fun _ _ _ h => h) (.inl ⟨by kernel_rfl, fun W' hS => by obtain ⟨d0, d1, d2, d3, d4, d5⟩ := hS.2.six; go_simp⟩) qS ?_
      refine wpAnyD_one (i := 7) (by kernel_rfl) rfl (by kernel_rfl) ?_
      go_simp
      have hcp := copyValue_any K v ⟨kx, m1, x1, m2, x2, xi⟩ w2.drew (HV.out.below (below_quiet b2) hK (Nat.le_refl _)) HG.out (by show K ≤ w2.heap.size; omega)
      refine hcp.mono ?_
      rintro en w3 ⟨z, rfl, hz3, hb3⟩
      have b3 : Below w.heap.size w w3 := (below_quiet b2).trans (hb3.mono hs2)
      have qS3 : w3.cell? ⟨sb, so + 10, none⟩ = some (.slice ca n cn) ∧ Blk w3 w.heap.size #[.int .u8 kx, .bool m1, x1, .bool m2, x2, .int .i64 xi] 30 := ⟨(hb3.cell (p := ⟨sb, so + 10, none⟩) (by show sb < w2.heap.size; omega)).trans qS.1, qS.2.below hb3 q2lt⟩
      have hzg := hz3.get fun b hb => hb.2
      obtain ⟨za, zc, hz1, _⟩ := hzg.n.form
      obtain ⟨ya, yc, hz2, _⟩ := hzg.d.form
      have h1z : ∀ u ∈ z.cells.toList, u.oneCell' = true := fun u hu => vl_one z (by rw [hz1]; rfl) (by rw [hz2]; rfl) u (Array.mem_toList_iff.1 hu)
      have HZ3 := Lib.hid hz3
      have H1Z := Lib.hid h1z
      have HB3 := Lib.hid b3
      have hs3 : w2.heap.size ≤ w3.heap.size := hb3.size
      clear hcp hz3 hzg h1z hb3 b3
      obtain ⟨zk, zb1, zs1, zb2, zs2, zi⟩ := z
      dsimp only at hz1 hz2
      subst hz1 hz2
      refine ⟨qS3, ?_⟩
      refine wpAnyD_one (i := 8) (by kernel_rfl) rfl (by kernel_rfl) ?_
      go_simp
      have qS4 : (w3.alloc (.cells (⟨zk, zb1, .slice za v.l1.length zc, zb2, .slice ya v.l2.length yc, zi⟩ : Vv).cells 30)).cell? ⟨sb, so + 10, none⟩ = some (.slice ca n cn) := (Below.cell ((Below.refl w3.heap.size w3).alloc (Nat.le_refl _) _) (p := ⟨sb, so + 10, none⟩) (by show sb < w3.heap.size; omega)).trans qS3.1
      have b4 : Below w.heap.size w (w3.alloc (.cells (⟨zk, zb1, .slice za v.l1.length zc, zb2, .slice ya v.l2.length yc, zi⟩ : Vv).cells 30)) := HB3.out.alloc (by omega) _
      have hci := insertV_any base r w3.heap.size (.slice ca n cn) rs ⟨zk, zb1, .slice za v.l1.length zc, zb2, .slice ya v.l2.length yc, zi⟩ (w3.alloc (.cells (⟨zk, zb1, .slice za v.l1.length zc, zb2, .slice ya v.l2.length yc, zi⟩ : Vv).cells 30)) (HOWN.out.old b4 (Nat.le_refl _)) (by rw [HRL.out]; exact HSL.out) (by rw [HRL.out]; omega) (by simp; omega) (Blk.new w3 _ _) H1Z.out (fun e => by have := HOWN.out.lt e; omega)
      have HB4 := Lib.hid b4
      clear b4
      refine ⟨⟨qS4, qS3.2.alloc _⟩, ?_⟩
      refine wpAnyD_one (i := 9) (by kernel_rfl) rfl (by kernel_rfl) ?_
      go_simp
      refine hci.mono ?_
      rintro en w5 ⟨v', rfl, hown5, hg5, g, hvg, hat⟩
      clear hci
      have hsz5 := hg5.size
      rw [World.size_alloc] at hsz5
      have hk5 : ∀ b, b < w3.heap.size + 1 → (Value.slice ca n cn).ownBlock ≠ some b → w5.heap[b]? = (w3.alloc (.cells (⟨zk, zb1, .slice za v.l1.length zc, zb2, .slice ya v.l2.length yc, zi⟩ : Vv).cells 30)).heap[b]? := fun b hb hne => hg5.block b (by rw [World.size_alloc]; exact hb) (fun e => hne e.symm)
      have c5 : w5.cell? ⟨sb, so + 10, none⟩ = some (.slice ca n cn) := (World.cell?_of_block (hk5 sb (by omega) HNE.out)).trans qS4
      have f5 : w5.frozen? ⟨sb, so + 10, none⟩ = false := (World.frozen?_of_block (a := ⟨sb, so + 10, none⟩) (hk5 sb (by omega) HNE.out)).trans ((HB4.out.frozen (p := ⟨sb, so + 10, none⟩) hsb).trans HF.out)
      have q5 : Blk w5 w.heap.size #[.int .u8 kx, .bool m1, x1, .bool m2, x2, .int .i64 xi] 30 := (hk5 w.heap.size (by omega) (fun e => by have := HOWN.out.lt e; omega)).trans (qS3.2.alloc _)
      obtain ⟨va, vn, hv5, _⟩ := hown5.form
      rw [insR_length (by rw [HRL.out]; exact HSL.out), HRL.out] at hv5
      subst hv5
      have HO5 := Lib.hid hown5
      have HG5 := Lib.hid hg5
      have HVG := Lib.hid hvg
      have HAT := Lib.hid hat
      clear hown5 hg5 hk5 qS4 hvg hat
      refine ⟨⟨c5, q5⟩, ?_⟩
      have HQ5 := Lib.hid q5
      have HC5 := Lib.hid c5
      clear q5 c5
      refine wpAnyD_one (i := 10) (by kernel_rfl) rfl (by kernel_rfl) ?_
      go_simp
      refine ⟨⟨HC5.out, HQ5.out⟩, ?_⟩
      refine wpAnyD_one (i := 11) (by kernel_rfl) rfl (by kernel_rfl) ?_
      go_simp
      refine ⟨⟨HC5.out, HQ5.out⟩, ?_⟩
      have c5 := HC5.out
      refine wpAnyD_one (i := 12) (by kernel_rfl) rfl (by kernel_rfl) ?_
      go_simp
      refine wpAnyD_done (by kernel_rfl) ?_ _
      clear c5 f5
      go_wp2_with fail
      go_ret
      have hlz : ∀ q, (Value.slice ca n cn).ownBlock = some q → q < w.heap.size := fun q h => HOWN.out.lt h
      refine HP.out _ _ (.inr (.inr ⟨by simp, H32.out, rfl, ⟨zk, zb1, .slice za v.l1.length zc, zb2, .slice ya v.l2.length yc, zi⟩, .slice va (n + 1) vn, w5, g, w3.heap.size, rfl, HO5.out, ?_, ?_, by omega, by omega, HVG.out, ?_⟩))
      · have h1 := HB4.out
        have h2 := HG5.out
        exact ⟨h2.os.trans h1.os, h2.tape.trans h1.tape, h2.output.trans h1.output, Nat.le_trans h1.size h2.size, fun k hk hne => (h2.block k (by have := h1.size; omega) hne).trans (h1.block k hk)⟩
      · have h1 := (HZ3.out.mono (btw_low (lo' := w.heap.size) (by show w.heap.size ≤ w2.heap.size; omega))).move (w' := w5) (Agr.of fun b hb => (HG5.out.block b (by rw [World.size_alloc]; have := hb.2; omega) (fun e => by have := hlz b e.symm; have := hb.1; omega)).trans (Below.heap_alloc _ _ _ hb.2))
        exact h1
      · rcases HAT.out with h | h
        · exact .inl h
        · exact .inr (by rw [h, World.size_alloc]; omega)
end Go.Proofs.YthooiobhlbnaoaaGreat
