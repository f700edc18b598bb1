/- The reference of layer 15: Refs. No conditions beyond the readings of the arguments. -/
import Derived.Test.YthbnbjigmgoldaaOrAdd
namespace Go.Proofs.Ythbnbjigmgoldaa
open Go.RowKit
set_option linter.unusedVariables false

def refHead (o : Int) (n : Str) : List Str := refL [(o, n)]
theorem refs_mk (o : Int) (n : Str) (es : List Ex) : refs (.mk o n es) = dedup (refHead o n ++ refL (preL es)) := by
  unfold refs refHead
  rw [Ex.pre, show ((o, n) :: preL es) = [(o, n)] ++ preL es from rfl, refL_append]
theorem refs_step (a : List Str) (es : List Ex) (k : Nat) (e : Ex) (h : es[k]? = some e) : (refs e).foldl addS (dedup (a ++ refL (preL (es.take k)))) = dedup (a ++ refL (preL (es.take (k + 1)))) := by
  rw [preL_take es k e h, refL_append, ← List.append_assoc, dedup_append (a ++ refL (preL (es.take k)))]
  unfold refs
  rw [foldl_dedup]
theorem refs_out_len (o : Int) (n : Str) (es : List Ex) (k : Nat) : (dedup (refHead o n ++ refL (preL (es.take k)))).length ≤ (preL es).length + 1 := by
  refine Nat.le_trans (dedup_length_le _) ?_
  rw [List.length_append]
  have h1 := refL_length (preL (es.take k))
  have h2 := preL_take_le es k
  have h3 : (refHead o n).length ≤ 1 := refL_length _
  omega

set_option maxRecDepth 100000 in
set_option maxHeartbeats 2000000 in
theorem rrefs_any (K : Nat) : ∀ (m : Nat) (e : Ex), e.parts ≤ m → ∀ (x : Xv) (w : World), ExX K w e x → K ≤ w.heap.size → e.parts ≤ 2 ^ 38 →
    Calls Try.prog 20 #[x.agg] w fun en w' => ∃ v, en = .returned v ∧ Strs w'.heap.size w' v (refs e) ∧ Below w.heap.size w w' := by
  intro m
  induction m with
  | zero => intro e hm; cases e; rw [parts_mk] at hm; omega
  | succ m ih =>
    intro e hm x w h hK hbig
    have hxn := h.nm
    cases e with
    | mk op nm es =>
    rw [ExX] at h
    obtain ⟨e0, e1, hnm, g, hg, hgs⟩ := h
    have hgs := exsX_iff.1 hgs
    rw [parts_mk] at hm hbig
    have hp : ∀ {e : Ex}, e ∈ es → e.parts ≤ m ∧ e.parts ≤ 2 ^ 38 := fun {e} he => by have := parts_arg he; omega
    obtain ⟨va, vcap, h8, hvl, hvm⟩ := hg.form
    obtain ⟨xop, xnm, kd, b3, ⟨a4, n4, m4⟩, b5, ⟨a6, n6, m6⟩, i7, ⟨a8, n8, m8⟩⟩ := x
    dsimp only at e0 e1 h8 hg hxn
    subst e0 e1
    simp only [Sl.val, Value.slice.injEq] at h8
    obtain ⟨rfl, rfl, rfl⟩ := h8
    have hvm : es.length ≤ maxLen := by omega
    clear hvl
    unfold maxLen at hvm
    obtain ⟨B0, hB0⟩ : ∃ B0, w.heap.size = B0 := ⟨_, rfl⟩
    rw [hB0] at hK ⊢
    obtain ⟨x, hx⟩ : ∃ x : Xv, x = ⟨xop, xnm, kd, b3, ⟨a4, n4, m4⟩, b5, ⟨a6, n6, m6⟩, i7, ⟨a8, es.length, m8⟩⟩ := ⟨_, rfl⟩
    rw [← hx]
    obtain ⟨W1, hW1⟩ : ∃ W1, w.alloc (.cells x.cells 45) = W1 := ⟨_, rfl⟩
    have hb1 : Below B0 w W1 := hW1 ▸ (Below.refl B0 w).alloc (by omega) _
    have q1 : Blk W1 B0 x.cells 45 := by rw [← hW1, ← hB0]; exact Blk.new w _ _
    have HR : Hid (refs (.mk xop xnm es) = dedup (refHead xop xnm ++ refL (preL es))) := Lib.hid (refs_mk _ _ _)
    obtain ⟨rv, hrv⟩ : ∃ rv, refs (.mk xop xnm es) = rv := ⟨_, rfl⟩
    rw [hrv] at HR ⊢
    rw [hx] at hW1 q1 ⊢
    have HW1 := Lib.hid hW1
    have HB := Lib.hid hB0
    have HQ : ∀ {W : World}, Below B0 w W → True := fun _ => trivial
    obtain ⟨d0, d1, d2, d3, d4, d5, d6, d7, d8⟩ := q1.nine
    dsimp only [Xv.cells, Xv.agg] at HW1 ⊢
    have hb1s : B0 < W1.heap.size := q1.lt
    clear hW1 hx hB0 hrv d2 d3 d4 d5 d6 d7 HQ
    have hmain : ∀ (lv : Value) (W2 : World), Strs W2.heap.size W2 lv (dedup (refHead xop xnm)) → Below B0 w W2 → Blk W2 B0 (Xv.cells ⟨xop, xnm, kd, b3, ⟨a4, n4, m4⟩, b5, ⟨a6, n6, m6⟩, i7, ⟨a8, es.length, m8⟩⟩) 45 → True := fun _ _ _ _ _ => trivial
    clear hmain
    by_cases hop : xop = 5
    · have HH : Hid (dedup (refHead xop xnm) = addS [] xnm) := Lib.hid (by rw [hop]; rfl)
      have ha := radd_any W1.heap.size (.slice none 0 0) [] xnm W1 (OwnS.nil 0 W1).strs hxn (Nat.le_refl _) (by simp)
      rw [← HH.out] at ha
      subst hop
      go_enter Try.func20, Try.ntmps20
      go_wp2_with fail
      simp only [HB.out]
      rw [HW1.out]
      go_wp2_with fail
      refine ha.mono ?_
      rintro e w2 ⟨x2, rfl, hx2, b2⟩
      obtain ⟨xa, xc, rfl, _, _⟩ := hx2.form
      have q2 := q1.below b2 q1.lt
      have hb2 := hb1.trans (b2.mono (by omega))
      clear ha d0 d1 d8
      go_wp2_with fail
      go_loopw [3, 4] (fun lv i wr => ∃ (k : Nat), k ≤ es.length ∧ i = .int .i64 k ∧ Strs wr.heap.size wr lv (dedup (refHead 5 xnm ++ refL (preL (es.take k)))) ∧ Below B0 w wr ∧ Blk wr B0 (Xv.cells ⟨5, xnm, kd, b3, ⟨a4, n4, m4⟩, b5, ⟨a6, n6, m6⟩, i7, ⟨a8, es.length, m8⟩⟩) 45) (fun _ i _ => es.length - (intOf i).toNat)
      case atStart => exact ⟨0, Nat.zero_le _, rfl, by simpa [preL, refL] using hx2, hb2, q2⟩
      case round =>
        obtain ⟨k, hk, rfl, hst, hbw, q⟩ := hrel
        obtain ⟨wo, rfl⟩ : ∃ wo : World, wo = wr := ⟨_, rfl⟩
        have d8 : wo.cell? ⟨B0, 8, none⟩ = some (.slice a8 es.length m8) := q.at rfl
        have hB := q.lt
        have hol := refs_out_len 5 xnm es k
        by_cases hlt : k < es.length
        · obtain ⟨b, o, cap, he, _, hcm, hbK, hc⟩ := hg.pos (by omega)
          simp only [Sl.val, Value.slice.injEq, true_and] at he
          obtain ⟨rfl, rfl⟩ := he
          obtain ⟨k0, k1, k2, k3, k4, k5, k6, k7, k8⟩ := ex_cells (cells_below hbw (Nat.lt_of_lt_of_le hbK hK) hc) hlt
          obtain ⟨ek, hek⟩ : ∃ ek, es[k]? = some ek := ⟨_, List.getElem?_eq_getElem hlt⟩
          have hq := hgs k ek hek
          rw [Nat.zero_add] at hq
          obtain ⟨y, hy⟩ : ∃ y, g k = y := ⟨_, rfl⟩
          rw [hy] at hq k0 k1 k2 k3 k4 k5 k6 k7 k8
          obtain ⟨hp1, hp2⟩ := hp (List.mem_of_getElem? hek)
          have hcall := ih ek hp1 y wo (hq.below hbw hK (Nat.le_refl _)) (by omega) hp2
          have HT : Hid ((refs ek).foldl addS (dedup (refHead 5 xnm ++ refL (preL (es.take k)))) = dedup (refHead 5 xnm ++ refL (preL (es.take (k + 1))))) := Lib.hid (refs_step _ es k ek hek)
          have hrl := refs_length ek
          obtain ⟨out, hout⟩ : ∃ out, dedup (refHead 5 xnm ++ refL (preL (es.take k))) = out := ⟨_, rfl⟩
          obtain ⟨rl, hrlE⟩ : ∃ rl, refs ek = rl := ⟨_, rfl⟩
          rw [hout] at hst HT hol
          rw [hrlE] at hcall HT hrl
          have hrl2 : rl.length ≤ 2 ^ 38 := by unfold Ex.parts at hp2; omega
          obtain ⟨la, lc, rfl, _, _⟩ := hst.form
          clear hek hc hy hout hrlE hq hrl d8
          have d8 : wo.cell? ⟨B0, 8, none⟩ = some (.slice (some ⟨b, o, none⟩) es.length m8) := q.at rfl
          go_wp2_with fail
          refine hcall.mono ?_
          rintro e w5 ⟨x5, rfl, hx5, bb5⟩
          obtain ⟨xa, xc, rfl, hr1, hr2⟩ := hx5.form
          unfold maxLen at hr2
          have hs5 := bb5.size
          have hst5 := hst.below bb5 (Nat.le_refl _) bb5.size
          have hb5 := hbw.trans (bb5.mono (by omega))
          have q5 := q.below bb5 hB
          clear hcall k0 k1 k2 k3 k4 k5 k6 k7 k8 hst d8 hbw q
          go_wp2_with fail
          obtain ⟨N0, hN0⟩ : ∃ N0, w5.heap.size = N0 := ⟨_, rfl⟩
          rw [hN0] at hx5 hs5
          have hN5 : N0 ≤ w5.heap.size := by omega
          clear hN0
          go_loopw [3, 6] (fun lv i wr => ∃ (j : Nat), j ≤ rl.length ∧ i = .int .i64 j ∧ Strs wr.heap.size wr lv ((rl.take j).foldl addS out) ∧ Below B0 w wr ∧ Blk wr B0 (Xv.cells ⟨5, xnm, kd, b3, ⟨a4, n4, m4⟩, b5, ⟨a6, n6, m6⟩, i7, ⟨some ⟨b, o, none⟩, es.length, m8⟩⟩) 45 ∧ Strs N0 wr (.slice xa rl.length xc) rl ∧ N0 ≤ wr.heap.size) (fun _ i _ => rl.length - (intOf i).toNat)
          case atStart => exact ⟨0, Nat.zero_le _, rfl, hst5, hb5, q5, hx5, hN5⟩
          case round =>
            obtain ⟨j, hj, rfl, hst, hbw, q, hrs, hN⟩ := hrel
            have hB := q.lt
            by_cases hjl : j < rl.length
            · obtain ⟨b2, o2, cap2, he, _, _, _, hc2⟩ := hrs.pos (by omega)
              simp only [Value.slice.injEq, true_and] at he
              obtain ⟨rfl, rfl⟩ := he
              have c2 := hc2 j hjl
              have hsl : (rl[j]?.getD []).length ≤ maxLen := hrs.len
              have hfl := foldl_addS_length (rl.take j) out
              rw [List.length_take] at hfl
              have HS : Hid ((rl.take (j + 1)).foldl addS out = addS ((rl.take j).foldl addS out) (rl[j]?.getD [])) := Lib.hid (by rw [List.take_succ_eq_append_getElem hjl, List.foldl_append, List.getElem?_eq_getElem hjl]; rfl)
              obtain ⟨s, hs⟩ : ∃ s, rl[j]?.getD [] = s := ⟨_, rfl⟩
              rw [hs] at c2 hsl HS
              obtain ⟨acc, hacc⟩ : ∃ acc, (rl.take j).foldl addS out = acc := ⟨_, rfl⟩
              rw [hacc] at hst HS hfl
              obtain ⟨la2, lc2, rfl, _, _⟩ := hst.form
              have ha := radd_any wr.heap.size (.slice la2 acc.length lc2) acc s wr hst hsl (Nat.le_refl _) (by omega)
              clear hc2 hs hacc
              go_wp2_with fail
              refine ha.mono ?_
              rintro e w6 ⟨x6, rfl, hx6, b6⟩
              obtain ⟨ya, yc, rfl, _, _⟩ := hx6.form
              have hs6 := b6.size
              clear ha c2
              go_wp2_with fail
              exact ⟨⟨j + 1, by omega, by go_num, by rw [HS.out]; exact hx6, hbw.trans (b6.mono (by omega)), q.below b6 hB, hrs.below b6 hN (Nat.le_refl _), by omega⟩, by simp [intOf]; omega⟩
            · obtain rfl : j = rl.length := by omega
              rw [List.take_length, HT.out] at hst
              obtain ⟨la2, lc2, rfl, _, _⟩ := hst.form
              go_wp2_with fail
              exact ⟨⟨k + 1, by omega, by go_num, hst, hbw, q⟩, by simp [intOf]; omega⟩
        · obtain rfl : k = es.length := by omega
          rw [List.take_length, ← HR.out] at hst
          obtain ⟨la, lc, rfl, _, _⟩ := hst.form
          go_wp2_with fail
          go_ret
          exact ⟨_, rfl, hst, hbw⟩
    · have hopb : (xop == 5) = false := beq_eq_false_iff_ne.2 hop
      have HH : Hid (dedup (refHead xop xnm) = []) := Lib.hid (by unfold refHead; rw [show refL [(xop, xnm)] = [] by simp [refL, isRef, hop]]; rfl)
      have hst0 := (OwnS.nil 0 W1).strs
      go_enter Try.func20, Try.ntmps20
      go_wp2_with fail
      simp only [HB.out]
      rw [HW1.out]
      go_wp2_with fail
      go_loopw [3, 4] (fun lv i wr => ∃ (k : Nat), k ≤ es.length ∧ i = .int .i64 k ∧ Strs wr.heap.size wr lv (dedup (refHead xop xnm ++ refL (preL (es.take k)))) ∧ Below B0 w wr ∧ Blk wr B0 (Xv.cells ⟨xop, xnm, kd, b3, ⟨a4, n4, m4⟩, b5, ⟨a6, n6, m6⟩, i7, ⟨a8, es.length, m8⟩⟩) 45) (fun _ i _ => es.length - (intOf i).toNat)
      case atStart => exact ⟨0, Nat.zero_le _, rfl, by have e : dedup (refHead xop xnm ++ refL (preL (es.take 0))) = [] := (by simpa [preL, refL] using HH.out); rw [e]; exact hst0, hb1, q1⟩
      case round =>
        obtain ⟨k, hk, rfl, hst, hbw, q⟩ := hrel
        obtain ⟨wo, rfl⟩ : ∃ wo : World, wo = wr := ⟨_, rfl⟩
        have d8 : wo.cell? ⟨B0, 8, none⟩ = some (.slice a8 es.length m8) := q.at rfl
        have hB := q.lt
        have hol := refs_out_len xop xnm es k
        by_cases hlt : k < es.length
        · obtain ⟨b, o, cap, he, _, hcm, hbK, hc⟩ := hg.pos (by omega)
          simp only [Sl.val, Value.slice.injEq, true_and] at he
          obtain ⟨rfl, rfl⟩ := he
          obtain ⟨k0, k1, k2, k3, k4, k5, k6, k7, k8⟩ := ex_cells (cells_below hbw (Nat.lt_of_lt_of_le hbK hK) hc) hlt
          obtain ⟨ek, hek⟩ : ∃ ek, es[k]? = some ek := ⟨_, List.getElem?_eq_getElem hlt⟩
          have hq := hgs k ek hek
          rw [Nat.zero_add] at hq
          obtain ⟨y, hy⟩ : ∃ y, g k = y := ⟨_, rfl⟩
          rw [hy] at hq k0 k1 k2 k3 k4 k5 k6 k7 k8
          obtain ⟨hp1, hp2⟩ := hp (List.mem_of_getElem? hek)
          have hcall := ih ek hp1 y wo (hq.below hbw hK (Nat.le_refl _)) (by omega) hp2
          have HT : Hid ((refs ek).foldl addS (dedup (refHead xop xnm ++ refL (preL (es.take k)))) = dedup (refHead xop xnm ++ refL (preL (es.take (k + 1))))) := Lib.hid (refs_step _ es k ek hek)
          have hrl := refs_length ek
          obtain ⟨out, hout⟩ : ∃ out, dedup (refHead xop xnm ++ refL (preL (es.take k))) = out := ⟨_, rfl⟩
          obtain ⟨rl, hrlE⟩ : ∃ rl, refs ek = rl := ⟨_, rfl⟩
          rw [hout] at hst HT hol
          rw [hrlE] at hcall HT hrl
          have hrl2 : rl.length ≤ 2 ^ 38 := by unfold Ex.parts at hp2; omega
          obtain ⟨la, lc, rfl, _, _⟩ := hst.form
          clear hek hc hy hout hrlE hq hrl d8
          have d8 : wo.cell? ⟨B0, 8, none⟩ = some (.slice (some ⟨b, o, none⟩) es.length m8) := q.at rfl
          go_wp2_with fail
          refine hcall.mono ?_
          rintro e w5 ⟨x5, rfl, hx5, bb5⟩
          obtain ⟨xa, xc, rfl, hr1, hr2⟩ := hx5.form
          unfold maxLen at hr2
          have hs5 := bb5.size
          have hst5 := hst.below bb5 (Nat.le_refl _) bb5.size
          have hb5 := hbw.trans (bb5.mono (by omega))
          have q5 := q.below bb5 hB
          clear hcall k0 k1 k2 k3 k4 k5 k6 k7 k8 hst d8 hbw q
          go_wp2_with fail
          obtain ⟨N0, hN0⟩ : ∃ N0, w5.heap.size = N0 := ⟨_, rfl⟩
          rw [hN0] at hx5 hs5
          have hN5 : N0 ≤ w5.heap.size := by omega
          clear hN0
          go_loopw [3, 6] (fun lv i wr => ∃ (j : Nat), j ≤ rl.length ∧ i = .int .i64 j ∧ Strs wr.heap.size wr lv ((rl.take j).foldl addS out) ∧ Below B0 w wr ∧ Blk wr B0 (Xv.cells ⟨xop, xnm, kd, b3, ⟨a4, n4, m4⟩, b5, ⟨a6, n6, m6⟩, i7, ⟨some ⟨b, o, none⟩, es.length, m8⟩⟩) 45 ∧ Strs N0 wr (.slice xa rl.length xc) rl ∧ N0 ≤ wr.heap.size) (fun _ i _ => rl.length - (intOf i).toNat)
          case atStart => exact ⟨0, Nat.zero_le _, rfl, hst5, hb5, q5, hx5, hN5⟩
          case round =>
            obtain ⟨j, hj, rfl, hst, hbw, q, hrs, hN⟩ := hrel
            have hB := q.lt
            by_cases hjl : j < rl.length
            · obtain ⟨b2, o2, cap2, he, _, _, _, hc2⟩ := hrs.pos (by omega)
              simp only [Value.slice.injEq, true_and] at he
              obtain ⟨rfl, rfl⟩ := he
              have c2 := hc2 j hjl
              have hsl : (rl[j]?.getD []).length ≤ maxLen := hrs.len
              have hfl := foldl_addS_length (rl.take j) out
              rw [List.length_take] at hfl
              have HS : Hid ((rl.take (j + 1)).foldl addS out = addS ((rl.take j).foldl addS out) (rl[j]?.getD [])) := Lib.hid (by rw [List.take_succ_eq_append_getElem hjl, List.foldl_append, List.getElem?_eq_getElem hjl]; rfl)
              obtain ⟨s, hs⟩ : ∃ s, rl[j]?.getD [] = s := ⟨_, rfl⟩
              rw [hs] at c2 hsl HS
              obtain ⟨acc, hacc⟩ : ∃ acc, (rl.take j).foldl addS out = acc := ⟨_, rfl⟩
              rw [hacc] at hst HS hfl
              obtain ⟨la2, lc2, rfl, _, _⟩ := hst.form
              have ha := radd_any wr.heap.size (.slice la2 acc.length lc2) acc s wr hst hsl (Nat.le_refl _) (by omega)
              clear hc2 hs hacc
              go_wp2_with fail
              refine ha.mono ?_
              rintro e w6 ⟨x6, rfl, hx6, b6⟩
              obtain ⟨ya, yc, rfl, _, _⟩ := hx6.form
              have hs6 := b6.size
              clear ha c2
              go_wp2_with fail
              exact ⟨⟨j + 1, by omega, by go_num, by rw [HS.out]; exact hx6, hbw.trans (b6.mono (by omega)), q.below b6 hB, hrs.below b6 hN (Nat.le_refl _), by omega⟩, by simp [intOf]; omega⟩
            · obtain rfl : j = rl.length := by omega
              rw [List.take_length, HT.out] at hst
              obtain ⟨la2, lc2, rfl, _, _⟩ := hst.form
              go_wp2_with fail
              exact ⟨⟨k + 1, by omega, by go_num, hst, hbw, q⟩, by simp [intOf]; omega⟩
        · obtain rfl : k = es.length := by omega
          rw [List.take_length, ← HR.out] at hst
          obtain ⟨la, lc, rfl, _, _⟩ := hst.form
          go_wp2_with fail
          go_ret
          exact ⟨_, rfl, hst, hbw⟩
end Go.Proofs.Ythbnbjigmgoldaa
