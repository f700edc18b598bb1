/- The statements' function refer of layer 15. No conditions beyond the readings of the arguments. -/
import Derived.Test.YthbnbjigmgoldaaORow
import Derived.Test.YthbnbjigmgoldaaOlOpn
namespace Go.Proofs.Ythbnbjigmgoldaa
open Go.RowKit
set_option linter.unusedVariables false

/-- The cells of an expression without a value. -/
def exA (op : Int) (nm : Str) (s : Sl) : Xv := ⟨op, nm, 0, false, ⟨none, 0, 0⟩, false, ⟨none, 0, 0⟩, 0, s⟩
abbrev exC (op : Int) (nm : Str) (a : Option Addr) (n m : Nat) : Array Value := #[.int .u8 op, S nm, .int .u8 0, .bool false, .slice none 0 0, .bool false, .slice none 0 0, .int .i64 0, .slice a n m]
def todayE : Ex := .mk 2 [] []
def refE (n : Str) : Ex := .mk 5 n [todayE]
/-- An expression that refers to names. -/
def referE (l : List Str) : Ex := .mk 7 [] (l.map refE)
def rowX (n : Str) (b : Nat) : Xv := exA 5 n ⟨some ⟨b, 0, none⟩, 1, 1⟩
def rowsOf (l : List Str) (bs : List Nat) : List (List Value) := (List.range bs.length).map fun i => (rowX (l[i]?.getD []) (bs[i]?.getD 0)).cells.toList
theorem rowsOf_snoc (l : List Str) (bs : List Nat) (b : Nat) : rowsOf l (bs ++ [b]) = rowsOf l bs ++ [(rowX (l[bs.length]?.getD []) b).cells.toList] := by
  unfold rowsOf
  rw [List.length_append, List.length_singleton, List.range_succ, List.map_append]
  congr 1
  · refine List.map_congr_left fun i hi => ?_
    rw [List.getElem?_append_left (by simpa using hi)]
  · simp
theorem rowsOf_length (l : List Str) (bs : List Nat) : (rowsOf l bs).length = bs.length := by simp [rowsOf]
theorem xv_one (x : Xv) : ∀ u ∈ x.cells.toList, u.oneCell' = true := by
  intro u hu
  simp at hu
  rcases hu with rfl | rfl | rfl | rfl | rfl | rfl | rfl | rfl | rfl <;> rfl
theorem xv_row (x : Xv) : RowsOk 9 [x.cells.toList] := RowsOk.one rfl (xv_one x)
theorem Try.infoExpr : (Try.prog.info? 45).map (fun i => (i.zero, i.size, i.bytes)) = some (some (.agg (exC 0 [] none 0 0)), 9, 128) := by kernel_rfl

theorem exC_one (op : Int) (nm : Str) (a : Option Addr) (n m : Nat) : ∀ u ∈ (exC op nm a n m).toList, u.oneCell' = true := by
  intro u hu
  simp at hu
  rcases hu with rfl | rfl | rfl | rfl | rfl | rfl | rfl | rfl | rfl <;> rfl
theorem todayX {K : Nat} {w : World} {b : Nat} (h : Blk w b (exC 2 [] none 0 0) 45) : ExX K w todayE (exA 2 [] ⟨none, 0, 0⟩) := by
  rw [todayE, ExX]
  exact ⟨rfl, rfl, by simp, fun _ => default, RowsV.nil none 0 (Nat.zero_le _) (fun _ => rfl), trivial⟩
theorem refX {w : World} {b : Nat} {n : Str} (hn : n.length ≤ maxLen) (h : Blk w b (exC 2 [] none 0 0) 45) : ExX w.heap.size w (refE n) (rowX n b) := by
  rw [refE, ExX]
  refine ⟨rfl, rfl, hn, fun _ => exA 2 [] ⟨none, 0, 0⟩, ?_, ?_⟩
  · show RowsV 9 _ w.heap.size w (.slice (some ⟨b, 0, none⟩) 1 1) 1
    refine RowsV.mk_cells (Nat.le_refl _) (by simp [maxLen]) h.lt fun i hi j hj => ?_
    obtain rfl : i = 0 := by omega
    rw [Nat.zero_add, Nat.zero_mul, Nat.zero_add]
    match j, hj with
    | 0, _ => exact h.at rfl
    | 1, _ => exact h.at rfl
    | 2, _ => exact h.at rfl
    | 3, _ => exact h.at rfl
    | 4, _ => exact h.at rfl
    | 5, _ => exact h.at rfl
    | 6, _ => exact h.at rfl
    | 7, _ => exact h.at rfl
    | 8, _ => exact h.at rfl
  · rw [ExsX]
    exact ⟨todayX h, trivial⟩
theorem referX {w : World} {base : Nat} {l : List Str} {bs : List Nat} {s : Sl} (hl : ∀ n ∈ l, n.length ≤ maxLen) (hb : bs.length = l.length) (ho : OwnR 9 45 base w s.val (rowsOf l bs)) (h : ∀ b ∈ bs, Blk w b (exC 2 [] none 0 0) 45) :
    ExX w.heap.size w (referE l) (exA 7 [] s) := by
  rw [referE, ExX]
  refine ⟨rfl, rfl, by simp, fun i => rowX (l[i]?.getD []) (bs[i]?.getD 0), ?_, exsX_iff.2 fun j e hj => ?_⟩
  · have := ho.rows
    rw [rowsOf_length, hb] at this
    rw [List.length_map]
    refine this.congr fun i hi j hj => ?_
    have : (rowsOf l bs)[i]? = some (rowX (l[i]?.getD []) (bs[i]?.getD 0)).cells.toList := by
      unfold rowsOf; rw [List.getElem?_map, List.getElem?_range (by omega)]; rfl
    rw [this, Option.getD_some, Xv.cells_at _ hj]; rfl
  · have hjl : j < l.length := by have := (List.getElem?_eq_some_iff.1 hj).1; simpa using this
    rw [List.getElem?_map, List.getElem?_eq_getElem hjl] at hj
    simp only [Option.map_some, Option.some.injEq] at hj
    rw [← hj, Nat.zero_add, List.getElem?_eq_getElem hjl, List.getElem?_eq_getElem (show j < bs.length by omega)]
    exact refX (hl _ (List.getElem_mem hjl)) (h _ (List.getElem_mem _))

set_option maxRecDepth 100000 in
set_option maxHeartbeats 2000000 in
theorem refer_any (K : Nat) (v : Value) (l : List Str) (w : World) (h : Strs K w v l) (hK : K ≤ w.heap.size) (hl : l.length ≤ 2 ^ 30) :
    Calls Try.prog 29 #[v] w fun e w' => ∃ x, e = .returned x.agg ∧ ExX w'.heap.size w' (referE l) x ∧ Below w.heap.size w w' ∧ ∀ W : World, (∀ r, w.heap.size ≤ r → r < w'.heap.size → W.heap[r]? = w'.heap[r]?) → ExX W.heap.size W (referE l) x := by
  obtain ⟨va, vcap, rfl, hv1, hv2⟩ := id h.form
  unfold maxLen at hv2
  obtain ⟨B0, hB0⟩ : ∃ B0, w.heap.size = B0 := ⟨_, rfl⟩
  rw [hB0] at hK ⊢
  obtain ⟨W1, hW1⟩ : ∃ W1, (w.alloc (.cells (exC 0 [] none 0 0) 45)).alloc (.cells (exC 7 [] none 0 0) 45) = W1 := ⟨_, rfl⟩
  have hb1 : Below B0 w W1 := hW1 ▸ ((Below.refl B0 w).alloc (by omega) _).alloc (by simp; omega) _
  have hs1 : W1.heap.size = B0 + 2 := by rw [← hW1, ← hB0]; simp
  have q0 : Blk W1 B0 (exC 0 [] none 0 0) 45 := by rw [← hW1, ← hB0]; exact (Blk.new w _ _).alloc _
  have q1 : Blk W1 (B0 + 1) (exC 7 [] none 0 0) 45 := by
    rw [← hW1, ← hB0]
    have := Blk.new (w.alloc (.cells (exC 0 [] none 0 0) 45)) (exC 7 [] none 0 0) 45
    rw [World.size_alloc] at this
    exact this
  have HB := Lib.hid hB0
  simp only [exC, S] at hW1
  have HW1 := Lib.hid hW1
  have HLEN := Lib.hid h.2
  clear hB0 hW1
  go_enter Try.func29, Try.ntmps29
  go_wp2_with fail
  simp only [HB.out]
  rw [HW1.out]
  go_loopw [9] (fun i wr => ∃ (k : Nat) (bs : List Nat) (a : Option Addr) (m : Nat), k ≤ l.length ∧ i = .int .i64 k ∧ bs.length = k ∧ Blk wr B0 (exC 0 [] none 0 0) 45 ∧ Blk wr (B0 + 1) (exC 7 [] a k m) 45 ∧ OwnR 9 45 (B0 + 2) wr (.slice a k m) (rowsOf l bs) ∧ (∀ b ∈ bs, B0 + 2 ≤ b ∧ Blk wr b (exC 2 [] none 0 0) 45 ∧ (Value.slice a k m).ownBlock ≠ some b) ∧ Below B0 w wr ∧ B0 + 2 ≤ wr.heap.size) (fun i _ => l.length - (intOf i).toNat)
  case atStart => exact ⟨0, [], none, 0, Nat.zero_le _, rfl, rfl, q0, q1, OwnR.nil _ _ _ _, fun b hb => by simp at hb, hb1, by omega⟩
  case round =>
    obtain ⟨k, bs, sa, sm, hk, rfl, hbs, hq0, hq1, hown, hbl, hbr, hsr⟩ := hrel
    have HBL := Lib.hid hbl
    have HBS := Lib.hid hbs
    clear hbl hbs
    by_cases hlt : k < l.length
    · obtain ⟨b, o, cap, he, _, _, hbK, hc⟩ := h.pos (by omega)
      simp only [Value.slice.injEq, true_and] at he
      obtain ⟨rfl, rfl⟩ := he
      have c0 := (hbr.cell (p := ⟨b, o + k, none⟩) (Nat.lt_of_lt_of_le hbK hK)).trans (hc k hlt)
      have hnl : (l[k]?.getD []).length ≤ maxLen := h.len
      obtain ⟨n, hn⟩ : ∃ n, l[k]?.getD [] = n := ⟨_, rfl⟩
      rw [hn] at c0 hnl
      have HN := Lib.hid hn
      have f8 : wr.cell? ⟨B0 + 1, 8, none⟩ = some (.slice sa k sm) := hq1.at rfl
      obtain ⟨W2, hW2⟩ : ∃ W2, (wr.alloc (.cells (exC 2 [] none 0 0) 45)).alloc (.cells (exC 5 n (some ⟨wr.heap.size, 0, none⟩) 1 1) 45) = W2 := ⟨_, rfl⟩
      have hs2 : W2.heap.size = wr.heap.size + 2 := by rw [← hW2]; simp
      have hb2 : Below wr.heap.size wr W2 := hW2 ▸ ((Below.refl _ wr).alloc (Nat.le_refl _) _).alloc (by simp) _
      have p1 : Blk W2 wr.heap.size (exC 2 [] none 0 0) 45 := by rw [← hW2]; exact (Blk.new wr _ _).alloc _
      have p2 : Blk W2 (wr.heap.size + 1) (exC 5 n (some ⟨wr.heap.size, 0, none⟩) 1 1) 45 := by
        rw [← hW2]
        have := Blk.new (wr.alloc (.cells (exC 2 [] none 0 0) 45)) (exC 5 n (some ⟨wr.heap.size, 0, none⟩) 1 1) 45
        rw [World.size_alloc] at this
        exact this
      simp only [exC, S] at hW2
      have HW2 := Lib.hid hW2
      have hown2 := hown.old hb2 (Nat.le_refl _)
      have hrl : (rowsOf l bs).length = k := by rw [rowsOf_length]; exact HBS.out
      have hp2 : ∀ (i : Nat) (r : List Value) (j : Nat) (u : Value), [(rowX n wr.heap.size).cells.toList][i]? = some r → r[j]? = some u → W2.cell? ⟨wr.heap.size + 1, 0 + (i * 9 + j), none⟩ = some u := by
        intro i r j u hi hj
        have hi0 : i = 0 := by have := (List.getElem?_eq_some_iff.1 hi).1; simpa using this
        subst hi0
        simp only [List.getElem?_cons_zero, Option.some.injEq] at hi
        subst hi
        rw [Nat.zero_add, Nat.zero_mul, Nat.zero_add]
        exact p2.at (by rw [← hj, ← Array.getElem?_toList]; rfl)
      clear hc hn hW2
      go_wp2_with (at_builtin; rw [HW2.out]; refine wpList_append_rows rfl (.tmp 14) (.tmp 19) 43 rfl Try.underlying43 Try.infoExpr rfl (by decide) rfl hown2 (b := wr.heap.size + 1) (off := 0) (m := 1) (cap := 1) (ms := [(rowX n wr.heap.size).cells.toList]) rfl rfl (xv_row _) hp2 (by decide) (by rw [hrl]; simp only [maxLen]; omega) (by rw [hrl]; omega) (by omega) ?_)
      intro g2 cap2 w3 hown3 hg3 hat3
      have hlo : ∀ r, (Value.slice sa k sm).ownBlock = some r → B0 + 2 ≤ r := fun r hr => hown.low hr
      have hlt0 : ∀ r, (Value.slice sa k sm).ownBlock = some r → r < wr.heap.size := fun r hr => hown.lt hr
      have hsz3 : W2.heap.size ≤ w3.heap.size := hg3.size
      have p1' := p1.kept hg3 (fun e => by have := hlt0 _ e.symm; omega)
      have hq0' := (hq0.below hb2 hq0.lt).kept hg3 (fun e => by have := hlo _ e.symm; omega)
      have hq1' := (hq1.below hb2 hq1.lt).kept hg3 (fun e => by have := hlo _ e.symm; omega)
      have hbl' : ∀ b ∈ bs ++ [wr.heap.size], B0 + 2 ≤ b ∧ Blk w3 b (exC 2 [] none 0 0) 45 ∧ (Value.slice (some ⟨g2, 0, none⟩) ((rowsOf l bs).length + 1) cap2).ownBlock ≠ some b := by
        intro b hb
        simp only [Value.ownBlock]
        rcases List.mem_append.1 hb with hb | hb
        · obtain ⟨h1, h2, h3⟩ := HBL.out b hb
          refine ⟨h1, (h2.below hb2 h2.lt).kept hg3 (fun e => h3 e.symm), fun e => ?_⟩
          simp only [Option.some.injEq] at e
          rcases hat3 with h4 | h4
          · exact h3 (by rw [h4, e])
          · have := h2.lt; omega
        · rw [List.mem_singleton.1 hb]
          refine ⟨hsr, p1', fun e => ?_⟩
          simp only [Option.some.injEq] at e
          rcases hat3 with h4 | h4
          · have := hlt0 _ h4; omega
          · omega
      have g8 : w3.cell? ⟨B0 + 1, 8, none⟩ = some (.slice sa k sm) := hq1'.at rfl
      have g9 : w3.frozen? ⟨B0 + 1, 8, none⟩ = false := hq1'.free 8
      have hbe3 : Below B0 w w3 := (hbr.trans (hb2.mono (by omega))).trans (below_grown hg3 (fun r hr => by have := hlo r hr; omega) (by omega))
      have hge : B0 + 2 ≤ g2 := by rcases hat3 with h4 | h4
                                   · exact hlo _ h4
                                   · omega
      try rw [hrl] at hown3
      try rw [hrl] at hbl'
      try rw [hrl]
      have HROW : Hid (rowsOf l bs ++ [(rowX n wr.heap.size).cells.toList] = rowsOf l (bs ++ [wr.heap.size])) := Lib.hid (by rw [rowsOf_snoc, HBS.out, HN.out])
      have hown4 : OwnR 9 45 (B0 + 2) w3 (.slice (some ⟨g2, 0, none⟩) (k + 1) cap2) (rowsOf l (bs ++ [wr.heap.size])) := by rw [← HROW.out]; exact hown3
      clear hown3
      go_wp2_with fail
      have hst : ∀ x, Blk (w3.setCell ⟨B0 + 1, 8, none⟩ x) (B0 + 1) ((exC 7 [] sa k sm).setIfInBounds 8 x) 45 := fun x => hq1'.set x
      have hne : ∀ b, b ∈ bs ++ [wr.heap.size] → b ≠ B0 + 1 := fun b hb e => by have := (hbl' b hb).1; omega
      refine ⟨⟨k + 1, bs ++ [wr.heap.size], some ⟨g2, 0, none⟩, cap2, by omega, by go_num, by rw [List.length_append, HBS.out, List.length_singleton], hq0'.other (by omega) _, hst _, hown4.kept (grownBy_setCell _ _ _ _) (.inr (fun e => by simp [Value.ownBlock] at e; omega)), fun b hb => ⟨(hbl' b hb).1, (hbl' b hb).2.1.other (hne b hb) _, (hbl' b hb).2.2⟩, hbe3.setCell (by simp) _, by simp; omega⟩, by simp [intOf]; omega⟩
    · obtain rfl : k = l.length := by omega
      obtain ⟨W9, hW9⟩ : ∃ W9 : World, wr.setRow B0 (exC 7 [] sa l.length sm) = W9 := ⟨_, rfl⟩
      have hg9 : wr.grownBy W9 (some B0) := by
        rw [← hW9]
        refine ⟨rfl, rfl, rfl, by simp, fun r _ hr => ?_⟩
        have hr' : B0 ≠ r := fun e => hr (by rw [e])
        simp [World.setRow, Array.getElem?_modify, hr']
      have hq9 : Blk W9 B0 (exC 7 [] sa l.length sm) 45 := by rw [← hW9]; exact setRow_heap _ _ _ _ _ _ hq0
      have hX : ExX W9.heap.size W9 (referE l) (exA 7 [] ⟨sa, l.length, sm⟩) := referX HLEN.out HBS.out (hown.kept hg9 (.inr (fun e => by have := hown.low e; omega))) fun b hb => (HBL.out b hb).2.1.kept hg9 (fun e => by cases e; have := (HBL.out B0 hb).1; omega)
      have hb9 : Below B0 w W9 := hbr.trans (below_grown hg9 (fun r hr => by cases hr; exact Nat.le_refl _) (by omega))
      obtain ⟨f0, f1, f2, f3, f4, f5, f6, f7, f8⟩ := hq1.nine
      obtain ⟨e0, e1, e2, e3, e4, e5, e6, e7, e8⟩ := hq9.nine
      have HW9 := Lib.hid hW9
      clear hW9
      go_wp2_with (first
        | (refine wpList_store_row rfl 45 (.tmp 2) (.tmp 23) rfl B0 (exC 7 [] sa l.length sm) rfl rfl 45 _ hq0 (by exact infoEx) (by rfl) (all_oneCell_toArray (exC_one 7 [] sa l.length sm)) ?_; rw [HW9.out]))
      (try simp only [Exit.inBlock, Exit.then])
      refine bodyPost_ret (results_cell_row rfl _ _ B0 45 (exC 7 [] sa l.length sm) _ _ rfl hq9 Try.underlying45 rfl (by exact infoEx)) rfl ?_
      refine ⟨exA 7 [] ⟨sa, l.length, sm⟩, rfl, hX, hb9, fun W hW => referX HLEN.out HBS.out ⟨ownsRow_at (hown.kept hg9 (.inr (fun e => by have := hown.low e; omega))).1 (fun r hr => ?_), hown.2⟩ fun b hb => ?_⟩
      · have h1 := hown.low hr
        have h2 := hown.lt hr
        have h3 := hg9.size
        exact hW r (by omega) (by omega)
      · have h1 := (HBL.out b hb).1
        have h2 := (HBL.out b hb).2.1.kept hg9 (fun e => by cases e; omega)
        have h3 := h2.lt
        unfold Blk at h2 ⊢
        rw [hW b (by omega) h3]; exact h2
end Go.Proofs.Ythbnbjigmgoldaa
