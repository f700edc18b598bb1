/- The statements' functions size and Size of layer 15. No conditions beyond the readings of the arguments. -/
import Derived.Test.YthbnbjigmgoldaaOlIdx
namespace Go.Proofs.Ythbnbjigmgoldaa
open Go.RowKit
set_option linter.unusedVariables false

theorem snoc_ind {α : Type} {P : List α → Prop} (h0 : P []) (h1 : ∀ l a, P l → P (l ++ [a])) (l : List α) : P l := by
  rw [← List.reverse_reverse l]
  generalize l.reverse = m
  induction m with
  | nil => exact h0
  | cons a m ih => rw [List.reverse_cons]; exact h1 _ a ih
/-- How many parts an expression has, or a number above most. -/
def sizeE : Nat → Nat → Ex → Nat
  | 0, most, _ => most + 1
  | d + 1, most, e => e.args.foldl (fun n a => if n ≤ most then n + sizeE d (most - n) a else n) 1
def sizeL (d most : Nat) (l : List Ex) : Nat := l.foldl (fun n a => if n ≤ most then n + sizeE d (most - n) a else n) 1
theorem sizeE_mk (d most : Nat) (o : Int) (nm : Str) (es : List Ex) : sizeE (d + 1) most (.mk o nm es) = sizeL d most es := by rw [sizeE]; rfl
theorem sizeL_nil (d most : Nat) : sizeL d most [] = 1 := rfl
theorem sizeL_snoc (d most : Nat) (l : List Ex) (a : Ex) : sizeL d most (l ++ [a]) = if sizeL d most l ≤ most then sizeL d most l + sizeE d (most - sizeL d most l) a else sizeL d most l := by
  unfold sizeL; rw [List.foldl_append]; rfl
theorem sizeL_le {d : Nat} (h : ∀ most e, sizeE d most e ≤ most + 1) (most : Nat) (l : List Ex) : sizeL d most l ≤ most + 1 := by
  induction l using snoc_ind with
  | h0 => rw [sizeL_nil]; omega
  | h1 l a ih =>
    rw [sizeL_snoc]
    split
    · rename_i hc
      have := h (most - sizeL d most l) a
      omega
    · exact ih
theorem sizeE_le : ∀ (d most : Nat) (e : Ex), sizeE d most e ≤ most + 1 := by
  intro d
  induction d with
  | zero => intro most e; exact Nat.le_refl _
  | succ d ih =>
    intro most e
    cases e with | mk o nm es => rw [sizeE_mk]; exact sizeL_le ih most es
theorem sizeL_parts {d : Nat} (h : ∀ most e, sizeE d most e ≤ most → sizeE d most e = e.parts) (most : Nat) (l : List Ex) (hl : sizeL d most l ≤ most) : sizeL d most l = (preL l).length + 1 := by
  induction l using snoc_ind with
  | h0 => rfl
  | h1 l a ih =>
    rw [sizeL_snoc] at hl ⊢
    split at hl
    · rename_i hc
      rw [if_pos hc]
      have h1 := ih hc
      have h2 := h (most - sizeL d most l) a (by omega)
      rw [preL_append, List.length_append, h2, h1]
      simp only [preL, List.append_nil, Ex.parts]; omega
    · rename_i hc; omega
theorem sizeE_parts : ∀ (d most : Nat) (e : Ex), sizeE d most e ≤ most → sizeE d most e = e.parts := by
  intro d
  induction d with
  | zero => intro most e h; rw [sizeE] at h; omega
  | succ d ih =>
    intro most e h
    cases e with
    | mk o nm es =>
      rw [sizeE_mk] at h ⊢
      rw [sizeL_parts ih most es h, parts_mk]

set_option maxRecDepth 100000 in
set_option maxHeartbeats 2000000 in
theorem size_any (K : Nat) : ∀ (d most : Nat) (e : Ex) (x : Xv) (w : World), ExX K w e x → K ≤ w.heap.size → most ≤ 2 ^ 40 → d ≤ 1000 →
    Calls Try.prog 33 #[x.agg, .int .i64 most, .int .i64 d] w fun en w' => en = .returned (.int .i64 (sizeE d most e)) ∧ Below w.heap.size w w' := by
  intro d
  induction d with
  | zero =>
    intro most e x w h hK hm hd
    have hb : Below w.heap.size w (w.alloc (.cells x.cells 45)) := (Below.refl _ w).alloc (Nat.le_refl _) _
    go_enter Try.func33, Try.ntmps33
    go_wp2_with fail
    go_ret
    exact ⟨by simp [sizeE], hb⟩
  | succ d ih =>
    intro most e x w h hK hm hd
    cases e with
    | mk op nm es =>
    rw [ExX] at h
    obtain ⟨e0, e1, hnm, g, hg, hgs⟩ := h
    have hgs := exsX_iff.1 hgs
    obtain ⟨va, vcap, h8, hvl, hvm⟩ := hg.form
    obtain ⟨xop, xnm, kd, b3, ⟨a4, n4, m4⟩, b5, ⟨a6, n6, m6⟩, i7, ⟨a8, n8, m8⟩⟩ := x
    dsimp only at e0 e1 h8 hg
    subst e0 e1
    simp only [Sl.val, Value.slice.injEq] at h8
    obtain ⟨rfl, rfl, rfl⟩ := h8
    have hvm : es.length ≤ maxLen := by omega
    clear hvl
    unfold maxLen at hvm
    obtain ⟨B0, hB0⟩ : ∃ B0, w.heap.size = B0 := ⟨_, rfl⟩
    rw [hB0] at hK ⊢
    obtain ⟨x, hx⟩ : ∃ x : Xv, x = ⟨xop, xnm, kd, b3, ⟨a4, n4, m4⟩, b5, ⟨a6, n6, m6⟩, i7, ⟨a8, es.length, m8⟩⟩ := ⟨_, rfl⟩
    rw [← hx]
    obtain ⟨W1, hW1⟩ : ∃ W1, w.alloc (.cells x.cells 45) = W1 := ⟨_, rfl⟩
    have hb1 : Below B0 w W1 := hW1 ▸ (Below.refl B0 w).alloc (by omega) _
    have hs1 : W1.heap.size = B0 + 1 := by rw [← hW1, ← hB0]; simp
    have q1 : Blk W1 B0 x.cells 45 := by rw [← hW1, ← hB0]; exact Blk.new w _ _
    have HSZ : Hid (sizeE (d + 1) most (.mk xop xnm es) = sizeL d most es) := Lib.hid (sizeE_mk _ _ _ _ _)
    obtain ⟨sz, hsz⟩ : ∃ sz, sizeE (d + 1) most (.mk xop xnm es) = sz := ⟨_, rfl⟩
    rw [hsz] at HSZ ⊢
    rw [hx] at hW1 q1 ⊢
    obtain ⟨d0, d1, d2, d3, d4, d5, d6, d7, d8⟩ := q1.nine
    dsimp only [Xv.cells, Xv.agg] at hW1 ⊢
    have HW1 := Lib.hid hW1
    have HB := Lib.hid hB0
    clear hW1 hnm hx hB0 hsz d0 d1 d2 d3 d4 d5 d6 d7 q1
    go_enter Try.func33, Try.ntmps33
    go_wp2_with fail
    simp only [HB.out]
    rw [HW1.out]
    go_wp2_with fail
    go_loopw [7, 17] (fun nv i wr => ∃ (k n : Nat), k ≤ es.length ∧ i = .int .i64 k ∧ nv = .int .i64 n ∧ n ≤ most + 1 ∧ Hid (n = sizeL d most (es.take k)) ∧ Below B0 w wr ∧ B0 + 1 ≤ wr.heap.size) (fun _ i _ => es.length - (intOf i).toNat)
    case atStart => exact ⟨0, 1, Nat.zero_le _, rfl, rfl, by omega, Lib.hid (by rw [List.take_zero]; rfl), hb1, by omega⟩
    case round =>
      obtain ⟨k, n, hk, rfl, rfl, hn, HN, hbr, hsr⟩ := hrel
      by_cases hlt : k < es.length
      · obtain ⟨b, o, cap, he, _, hcm, hbK, hc⟩ := hg.pos (by omega)
        simp only [Sl.val, Value.slice.injEq, true_and] at he
        obtain ⟨rfl, rfl⟩ := he
        obtain ⟨k0, k1, k2, k3, k4, k5, k6, k7, k8⟩ := ex_cells (cells_below hbr (Nat.lt_of_lt_of_le hbK hK) hc) hlt
        obtain ⟨ek, hek⟩ : ∃ ek, es[k]? = some ek := ⟨_, List.getElem?_eq_getElem hlt⟩
        have hq := hgs k ek hek
        rw [Nat.zero_add] at hq
        obtain ⟨y, hy⟩ : ∃ y, g k = y := ⟨_, rfl⟩
        rw [hy] at hq k0 k1 k2 k3 k4 k5 k6 k7 k8
        have hbl : Below B0 w (wr.alloc (.cells y.cells 45)) := hbr.alloc (by omega) _
        have HT : Hid (sizeL d most (es.take (k + 1)) = if n ≤ most then n + sizeE d (most - n) ek else n) := Lib.hid (by
          rw [List.take_succ_eq_append_getElem hlt, sizeL_snoc, ← HN.out, show es[k] = ek by rw [List.getElem?_eq_getElem hlt] at hek; exact Option.some.inj hek])
        by_cases hle : n ≤ most
        · have hcall := ih (most - n) ek y (wr.alloc (.cells y.cells 45)) (hq.below hbl hK (Nat.le_refl _)) (by simp; omega) (by omega) (by omega)
          have hsle := sizeE_le d (most - n) ek
          obtain ⟨z, hz⟩ : ∃ z, sizeE d (most - n) ek = z := ⟨_, rfl⟩
          rw [hz] at hcall hsle HT
          have hcast : ((most - n : Nat) : Int) = (most : Int) - n := by omega
          rw [hcast] at hcall
          have HT2 : Hid (n + z = sizeL d most (es.take (k + 1))) := Lib.hid (by rw [HT.out, if_pos hle])
          clear hek hc hg hgs ih hy hz hcast HT HN
          go_wp2_with fail
          refine hcall.mono ?_
          rintro e w5 ⟨rfl, hb5⟩
          have hs5 := hb5.size
          simp only [World.size_alloc] at hs5
          go_wp2_with fail
          exact ⟨⟨k + 1, n + z, by omega, by go_num, by go_num, by omega, HT2, hbl.trans (hb5.mono (by simp; omega)), by omega⟩, by simp [intOf]; omega⟩
        · have HT2 : Hid (n = sizeL d most (es.take (k + 1))) := Lib.hid (by rw [HT.out, if_neg hle])
          clear hek hc hg hgs ih hy HT HN
          go_wp2_with fail
          exact ⟨⟨k + 1, n, by omega, by go_num, rfl, by omega, HT2, hbl, by simp; omega⟩, by simp [intOf]; omega⟩
      · obtain rfl : k = es.length := by omega
        have HE : Hid (n = sz) := Lib.hid (by rw [HN.out, HSZ.out, List.take_length])
        go_wp2_with fail
        go_ret
        exact ⟨by rw [← HE.out]; rfl, hbr⟩

set_option maxRecDepth 100000 in
set_option maxHeartbeats 1000000 in
theorem Size_any (K : Nat) (most : Nat) (e : Ex) (x : Xv) (w : World) (h : ExX K w e x) (hK : K ≤ w.heap.size) (hm : most ≤ 2 ^ 40) :
    Calls Try.prog 16 #[x.agg, .int .i64 most] w fun en w' => en = .returned (.int .i64 (sizeE 24 most e)) ∧ Below w.heap.size w w' := by
  obtain ⟨W1, hW1⟩ : ∃ W1, w.alloc (.cells x.cells 45) = W1 := ⟨_, rfl⟩
  have hb1 : Below w.heap.size w W1 := hW1 ▸ (Below.refl _ w).alloc (Nat.le_refl _) _
  have hs1 : W1.heap.size = w.heap.size + 1 := by rw [← hW1]; simp
  have q1 : Blk W1 w.heap.size x.cells 45 := by rw [← hW1]; exact Blk.new w _ _
  have hcall := size_any K 24 most e x W1 (h.below hb1 hK (Nat.le_refl _)) (by omega) hm (by omega)
  obtain ⟨d0, d1, d2, d3, d4, d5, d6, d7, d8⟩ := q1.nine
  have HW1 := Lib.hid hW1
  clear hW1 h q1
  go_enter Try.func16, Try.ntmps16
  go_wp2_with fail
  rw [HW1.out]
  go_wp2_with fail
  refine hcall.mono ?_
  rintro en w5 ⟨rfl, hb5⟩
  go_wp2_with fail
  go_ret
  exact ⟨rfl, hb1.trans (hb5.mono (by omega))⟩
end Go.Proofs.Ythbnbjigmgoldaa
