/- The reference of layer 15: Taken. No conditions beyond the readings of the arguments. -/
import Derived.Test.YthbnbjigmgoldaaOrReachS
namespace Go.Proofs.Ythbnbjigmgoldaa
open Go.RowKit
set_option linter.unusedVariables false

/-- What has been taken so far. -/
structure TK (p : Pl) (T : List Nat) : Prop where
  nodup : T.Nodup
  lt : ∀ x ∈ T, x < (names p).length
  all : takeT (names p).length (gD p) ((names p).length - T.length) T = takenP p
theorem TK.start (p : Pl) : TK p [] := ⟨List.nodup_nil, by simp, rfl⟩
theorem TK.len {p : Pl} {T : List Nat} (h : TK p T) : T.length ≤ (names p).length := nodup_le _ T h.nodup h.lt
theorem TK.step {p : Pl} {T : List Nat} {i : Nat} (h : TK p T) (hn : nextT (names p).length (gD p) T = some i) : TK p (T ++ [i]) := by
  have hn' := hn
  unfold nextT at hn'
  obtain ⟨hr, hi, _⟩ := List.find?_range_eq_some.1 hn'
  have hi := List.mem_range.1 hi
  have hiT : i ∉ T := fun hm => by
    unfold rdy at hr
    rw [List.contains_iff_mem.2 hm] at hr
    simp at hr
  have hnd : (T ++ [i]).Nodup := by
    rw [List.nodup_append]
    exact ⟨h.nodup, by simp, fun a ha b hb e => by simp at hb; subst hb; subst e; exact hiT ha⟩
  have hlt : ∀ x ∈ T ++ [i], x < (names p).length := fun x hx => by
    rcases List.mem_append.1 hx with hx | hx
    · exact h.lt x hx
    · rw [List.mem_singleton.1 hx]; exact hi
  have hle := nodup_le _ _ hnd hlt
  rw [List.length_append, List.length_singleton] at hle
  refine ⟨hnd, hlt, ?_⟩
  have ha := h.all
  obtain ⟨m, hm⟩ : ∃ m, (names p).length - T.length = m + 1 := ⟨(names p).length - T.length - 1, by omega⟩
  rw [hm, takeT, hn] at ha
  rw [List.length_append, List.length_singleton, show (names p).length - (T.length + 1) = m by omega]
  exact ha
theorem TK.done {p : Pl} {T : List Nat} (h : TK p T) (hn : nextT (names p).length (gD p) T = none) : T = takenP p := by
  have ha := h.all
  cases hm : (names p).length - T.length with
  | zero => rw [hm, takeT] at ha; exact ha
  | succ m => rw [hm, takeT, hn] at ha; exact ha
theorem nextT_some {p : Pl} {T : List Nat} (hT : TK p T) {k : Nat} (hk : k < (names p).length) (h : ∀ j, j < k → readyS p (named (names p) T) ((names p)[j]?.getD []) = false) (hr : readyS p (named (names p) T) ((names p)[k]?.getD []) = true) :
    nextT (names p).length (gD p) T = some k := by
  unfold nextT
  refine List.find?_range_eq_some.2 ⟨by rw [← ready_rdy hT.lt hk]; exact hr, List.mem_range.2 hk, fun j hj => ?_⟩
  rw [← ready_rdy hT.lt (by omega), h j hj]; rfl
theorem nextT_none {p : Pl} {T : List Nat} (hT : TK p T) (h : ∀ j, j < (names p).length → readyS p (named (names p) T) ((names p)[j]?.getD []) = false) : nextT (names p).length (gD p) T = none := by
  unfold nextT
  refine List.find?_range_eq_none.2 fun j hj => ?_
  rw [← ready_rdy hT.lt hj, h j hj]; rfl
theorem inI_dec (l : List Str) (s : Str) : ∃ z, inI l s = z ∧ decide (z < 0) = !l.contains s ∧ decide (0 ≤ z) = l.contains s := by
  refine ⟨_, rfl, ?_⟩
  by_cases h : s ∈ l
  · have := inI_ge h
    rw [List.contains_iff_mem.2 h]; simp; omega
  · rw [inI_lt h]
    have : l.contains s = false := by rw [Bool.eq_false_iff]; exact fun hc => h (List.contains_iff_mem.1 hc)
    rw [this]; simp
theorem all_take_snoc (l : List Str) (f : Str → Bool) (k : Nat) (h : k < l.length) : (l.take (k + 1)).all f = ((l.take k).all f && f (l[k]?.getD [])) := by
  rw [List.take_succ_eq_append_getElem h, List.all_append, List.getElem?_eq_getElem h]; simp

theorem wp_append_SA {w : World} {o : Oper} {a : Act} {K' : Act → World → Prop} {Q : Exit → Act → World → Prop} (s x : Operand)
    (ho : o.op = .call { callee := .builtin .append, args := #[s, x], argTypes := #[29, 29] })
    {base K : Nat} {v u : Value} {l m : List Str} (hs : a.eval s = v) (hx : a.eval x = u) (hown : OwnS base w v l) (hu : Strs K w u m)
    (h63 : l.length + m.length ≤ 2 ^ 40) (hbase : base ≤ w.heap.size)
    (h : ∀ v' w', OwnS base w' v' (l ++ m) → w.grownBy w' v.ownBlock → K' (a.put o.dst v') w') : o.wp Try.prog a w K' Q := by
  by_cases hm : 0 < m.length
  · obtain ⟨i0, hi, hz0, hz1, hz2⟩ := info_parts Try.infoStr
    obtain ⟨b, p, c, rfl, _, _, _, hc⟩ := hu.pos hm
    refine wp_append_lies w s x 29 ho base 9 i0 _ 1 16 Try.underlying29 hi hz0 hz1 hz2 rfl (by decide) v l.length (l.map S) hs hown.1 ⟨b, p, none⟩ m.length c (m.map S) hx (by simp)
      (fun j u hj => by
        rw [List.getElem?_map] at hj
        obtain ⟨z, hz, rfl⟩ := Option.map_eq_some_iff.1 hj
        have hjl := (List.getElem?_eq_some_iff.1 hz).1
        have h1 : w.cell? ⟨b, p + j, none⟩ = some (S z) := by rw [hc j hjl, hz]; rfl
        clear hc
        by_cases e : j = 0
        · subst e; simpa [Addr.add] using h1
        · simpa [Addr.add, e] using h1)
      (fun u hu => by obtain ⟨z, _, rfl⟩ := List.mem_map.1 hu; rfl) hm (by simp [maxLen]; omega) (by omega) hbase _ rfl fun g cap w' h1 h2 h3 h4 => h _ w' ⟨?_, ?_⟩ h2
    · rw [List.length_append, List.map_append]
      exact h1
    · intro s hs'
      rcases List.mem_append.1 hs' with h' | h'
      · exact hown.2 s h'
      · exact hu.2 s h'
  · have hm0 : m = [] := List.eq_nil_of_length_eq_zero (by omega)
    subst hm0
    obtain ⟨so, n, rfl, hn, _⟩ := hown.form
    obtain ⟨ao, q, rfl, _, _⟩ := hu.form
    exact wp_append_none (c := 1) (T := 9) s x 29 ho Try.underlying29 (by kernel_rfl) hs hn hx (h _ w (by rw [List.append_nil]; exact hown) (grownBy_refl _ _))
theorem strs_one {W : World} (s : Str) (hs : s.length ≤ maxLen) : Strs (W.heap.size + 1) (W.alloc (.cells #[S s] 9)) (.slice (some ⟨W.heap.size, 0, none⟩) 1 1) [s] := by
  refine ⟨RowsV.mk_cells (Nat.le_refl _) (by simp [maxLen]) (by omega) fun i hi j hj => ?_, by simpa using hs⟩
  have hi : i = 0 := by simp at hi; exact hi
  have hj : j = 0 := by omega
  subst hi; subst hj
  exact (Blk.new W #[S s] 9).at (i := 0) rfl
theorem strs_grown {K : Nat} {W W' : World} {v : Value} {l : List Str} {row : Option Nat} (h : Strs K W v l) (hg : W.grownBy W' row) (hK : K ≤ W.heap.size) (hr : ∀ a n c r, v = .slice (some a) n c → row = some r → a.block ≠ r) : Strs W'.heap.size W' v l := by
  obtain ⟨⟨a, cap, rfl, hl, hm, hz, hc⟩, h2⟩ := h
  refine ⟨⟨a, cap, rfl, hl, hm, hz, fun i hi => ?_⟩, h2⟩
  obtain ⟨b, o, rfl, hb, hcell⟩ := hc i hi
  have hs := hg.size
  refine ⟨b, o, rfl, by omega, fun j hj => ?_⟩
  rw [← hcell j hj]
  exact hg.cell_far _ (by show b < _; omega) (fun e => hr _ _ _ b rfl e.symm rfl)
theorem own_none {B : Nat} {W : World} (hB : B ≤ W.heap.size) : OwnS B (W.alloc (.cells #[] 9)) (.slice (some ⟨W.heap.size, 0, none⟩) 0 0) [] :=
  ⟨⟨rfl, .inr ⟨_, 0, #[], rfl, hB, Blk.new W _ _, Nat.le_refl _, by simp [maxLen], rfl, rfl⟩⟩, by simp⟩

set_option maxRecDepth 100000 in
set_option maxHeartbeats 8000000 in
theorem rtaken_any (K : Nat) (p : Pl) (nm : ByteArray) (vd vt vc : Value) (w : World) (h : PlanIs K w vd vc p) (hK : K ≤ w.heap.size) (hbig : p.size ≤ 2 ^ 38) :
    Calls Try.prog 17 #[.agg #[.string nm, vd, vt, vc]] w fun e w' => ∃ x y, e = .returned (.tuple #[x, y]) ∧ Strs w'.heap.size w' x (named (names p) (takenP p)) ∧ Strs w'.heap.size w' y (restP p) ∧ Below w.heap.size w w' := by
  obtain ⟨da, dn, dm, rfl⟩ : ∃ a n m, vd = .slice a n m := by obtain ⟨g, hg, _⟩ := h.1; obtain ⟨a, m, hv, _⟩ := hg.form; exact ⟨a, _, m, hv⟩
  obtain ⟨ca, cn, cm, rfl⟩ : ∃ a n m, vc = .slice a n m := by obtain ⟨g, hg, _⟩ := h.2; obtain ⟨a, m, hv, _⟩ := hg.form; exact ⟨a, _, m, hv⟩
  obtain ⟨B0, hB0⟩ : ∃ B0, w.heap.size = B0 := ⟨_, rfl⟩
  rw [hB0] at hK ⊢
  obtain ⟨W1, hW1⟩ : ∃ W1, w.alloc (.cells #[.string nm, .slice da dn dm, vt, .slice ca cn cm] 26) = W1 := ⟨_, rfl⟩
  have hb1 : Below B0 w W1 := by rw [← hW1]; exact (Below.refl B0 w).alloc (by omega) _
  have q1 : Blk W1 B0 #[.string nm, .slice da dn dm, vt, .slice ca cn cm] 26 := by rw [← hW1, ← hB0]; exact Blk.new w _ _
  have hB1 := q1.lt
  have hnl : (names p).length ≤ 2 ^ 38 := Nat.le_trans (names_length p) (by unfold Pl.size at hbig; omega)
  have hn := rnames_any K p nm (.slice da dn dm) vt (.slice ca cn cm) W1 (h.1.below hb1 hK (Nat.le_refl _)) (by omega) (by unfold Pl.size at hbig; omega)
  have HB := Lib.hid hB0
  have HW1 := Lib.hid hW1
  obtain ⟨d0, d1, d2, d3⟩ := q1.four
  obtain ⟨rv, hrv⟩ : ∃ rv, restP p = rv := ⟨_, rfl⟩
  rw [hrv]
  have HRV := Lib.hid hrv
  clear hB0 hW1 hrv
  go_enter Try.func17, Try.ntmps17
  go_wp2_with fail
  simp only [HB.out]
  rw [HW1.out]
  go_wp2_with fail
  refine hn.mono ?_
  rintro e w2 ⟨x2, rfl, hns, b2⟩
  obtain ⟨na, nc, rfl, hn1, hn2⟩ := hns.form
  have hb2 := hb1.trans (b2.mono (by omega))
  have q2 := q1.below b2 hB1
  unfold maxLen at hn2
  have HG : Hid (∀ T, TK p T → ∀ k, k < (names p).length → (∀ j, j < k → readyS p (named (names p) T) ((names p)[j]?.getD []) = false) → readyS p (named (names p) T) ((names p)[k]?.getD []) = true → k < (names p).length ∧ TK p (T ++ [k])) := Lib.hid fun T hT k hk h1 h2 => ⟨hk, hT.step (nextT_some hT hk h1 h2)⟩
  have HE : Hid (∀ T, TK p T → (∀ j, j < (names p).length → readyS p (named (names p) T) ((names p)[j]?.getD []) = false) → T = takenP p) := Lib.hid fun T hT h1 => hT.done (nextT_none hT h1)
  have HL : Hid (∀ T, TK p T → T.length ≤ (names p).length) := Lib.hid fun T hT => hT.len
  have HR : Hid (restP p = (names p).filter fun s => !(named (names p) (takenP p)).contains s) := Lib.hid rfl
  rw [HRV.out] at HR
  obtain ⟨ns, hnsE⟩ : ∃ ns, names p = ns := ⟨_, rfl⟩
  rw [hnsE] at hns hn1 hnl HR ⊢
  have HNS := Lib.hid hnsE
  obtain ⟨N0, hN0⟩ : ∃ N0, w2.heap.size = N0 := ⟨_, rfl⟩
  rw [hN0] at hns
  have hN2 : N0 ≤ w2.heap.size := by omega
  have hBN : B0 < N0 := by rw [← hN0]; exact q2.lt
  clear hn d0 d1 d2 d3 hnsE hN0 b2
  simp only [HNS.out] at HG HE HL
  go_wp2_with fail
  go_loopw [5] (fun ov wr => ∃ (T : List Nat), Hid (TK p T) ∧ Strs wr.heap.size wr ov (named ns T) ∧ sliceN ov = T.length ∧ Below B0 w wr ∧ Blk wr B0 #[.string nm, .slice da dn dm, vt, .slice ca cn cm] 26 ∧ Strs N0 wr (.slice na ns.length nc) ns ∧ N0 ≤ wr.heap.size) (fun ov _ => ns.length - sliceN ov)
  case atStart => exact ⟨[], Lib.hid (TK.start p), (OwnS.nil 0 _).strs, rfl, hb2, q2, hns, hN2⟩
  case round =>
    clear hb2 q2 hns hN2
    obtain ⟨T, HT, hout, hov, hbw, q, hns, hN⟩ := hrel
    have hTl := HL.out T HT.out
    have hol0 : (named ns T).length = T.length := named_length T
    obtain ⟨wo, rfl⟩ : ∃ wo : World, wo = wr := ⟨_, rfl⟩
    obtain ⟨M0, hM0⟩ : ∃ M0, wo.heap.size = M0 := ⟨_, rfl⟩
    rw [hM0] at hout
    have hM2 : M0 ≤ wo.heap.size := by omega
    have hNM : N0 ≤ M0 := by omega
    obtain ⟨out, houtE⟩ : ∃ out, named ns T = out := ⟨_, rfl⟩
    have HOE := Lib.hid houtE
    rw [houtE] at hout hol0
    have hol := Lib.hid hol0
    have hola := Nat.le_of_eq hol0
    clear hol0
    obtain ⟨oa, oc, rfl, ho1, ho2⟩ := hout.form
    unfold maxLen at ho2
    clear hov hM0 houtE hN
    go_wp2_with fail
    go_loopw [6, 7] (fun nv iv wr => ∃ (k : Nat), k ≤ ns.length ∧ iv = .int .i64 k ∧ (nv = .int .i64 (-1) ∧ Hid (∀ j, j < k → readyS p out (ns[j]?.getD []) = false) ∨ ∃ j : Nat, nv = .int .i64 j ∧ j < ns.length ∧ Hid (TK p (T ++ [j]))) ∧ Below B0 w wr ∧ Blk wr B0 #[.string nm, .slice da dn dm, vt, .slice ca cn cm] 26 ∧ Strs N0 wr (.slice na ns.length nc) ns ∧ Strs M0 wr (.slice oa out.length oc) out ∧ M0 ≤ wr.heap.size) (fun _ i _ => ns.length - (intOf i).toNat)
    case atStart => exact ⟨0, Nat.zero_le _, rfl, .inl ⟨rfl, Lib.hid fun j hj => absurd hj (by omega)⟩, hbw, q, hns, hout, hM2⟩
    case round =>
      clear hbw q hns hout hM2
      obtain ⟨k, hk, rfl, hnv, hbw, q, hns, hout, hM⟩ := hrel
      rcases hnv with ⟨rfl, HU⟩ | ⟨j, rfl, hjn, HTJ⟩
      · by_cases hlt : k < ns.length
        · obtain ⟨b, oo, cap, he, _, _, hbN, hc⟩ := hns.pos (by omega)
          simp only [Value.slice.injEq, true_and] at he
          obtain ⟨rfl, rfl⟩ := he
          have c0 := hc k hlt
          have hsl : (ns[k]?.getD []).length ≤ maxLen := hns.len
          have HGK : Hid ((∀ j, j < k → readyS p out (ns[j]?.getD []) = false) → readyS p out (ns[k]?.getD []) = true → k < ns.length ∧ TK p (T ++ [k])) := Lib.hid (by
            have := HG.out T HT.out k hlt
            rw [HOE.out] at this
            exact this)
          have HUK : Hid (readyS p out (ns[k]?.getD []) = false → ∀ j, j < k + 1 → readyS p out (ns[j]?.getD []) = false) := Lib.hid fun h0 j hj => by
            by_cases e : j = k
            · rw [e]; exact h0
            · exact HU.out j (by omega)
          have HRD : Hid (readyS p out (ns[k]?.getD []) = (!out.contains (ns[k]?.getD []) && (depends p (ns[k]?.getD [])).all fun d => out.contains d)) := Lib.hid rfl
          obtain ⟨s, hs⟩ : ∃ s, ns[k]?.getD [] = s := ⟨_, rfl⟩
          rw [hs] at c0 hsl HGK HUK HRD
          obtain ⟨wo, rfl⟩ : ∃ wo : World, wo = wr := ⟨_, rfl⟩
          have hi := in_any M0 _ out s wo hout hsl
          obtain ⟨z, hzE, hz1, hz2⟩ := inI_dec out s
          obtain ⟨c8, hc8⟩ : ∃ c8, (!out.contains s) = c8 := ⟨_, rfl⟩
          rw [hzE] at hi
          rw [hc8] at hz1 HRD
          clear hzE hz2 hc8 hc hs
          go_wp2_with fail
          refine hi.mono ?_
          rintro e w5 ⟨rfl, rfl⟩
          go_upto_region 8 with fail
          clear hi hz1
          have hbd : Below B0 w wo.drew := hbw.trans (Below.refl _ wo).drew
          have hd := rdepends_any K p nm (.slice da dn dm) vt (.slice ca cn cm) s wo.drew (h.below hbd hK (Nat.le_refl _)) (by show K ≤ wo.heap.size; omega) hbig hsl
          have hdl := depends_length p s
          obtain ⟨dl, hdlE⟩ : ∃ dl, depends p s = dl := ⟨_, rfl⟩
          rw [hdlE] at hd hdl HRD
          clear hdlE
          refine wp_onlyN ?_
          refine region_plain (fun W => Blk W B0 #[.string nm, .slice da dn dm, vt, .slice ca cn cm] 26 ∧ W.cell? ⟨b, oo + k, none⟩ = some (S s)) [] (by kernel_rfl) ?_
          have qS : (fun W => Blk W B0 #[.string nm, .slice da dn dm, vt, .slice ca cn cm] 26 ∧ W.cell? ⟨b, oo + k, none⟩ = some (S s)) wo.drew := ⟨q, c0⟩
          refine wpAnyD_take (i := 0) (v := .agg #[.string nm, .slice da dn dm, vt, .slice ca cn cm]) rfl (by kernel_rfl) (by kernel_rfl) (by kernel_rfl) (by kernel_rfl) (by kernel_rfl) (fun _ _ _ h => h) (.inl ⟨by kernel_rfl, fun W' hS => by obtain ⟨c0, c1, c2, c3⟩ := Blk.four hS.1; go_simp⟩) qS ?_
          refine wpAnyD_take (i := 1) (v := .slice (some ⟨b, oo, none⟩) ns.length nc) rfl (by kernel_rfl) (by kernel_rfl) (by kernel_rfl) (by kernel_rfl) (by kernel_rfl) (fun _ _ _ h => h) (.inl ⟨by kernel_rfl, fun W' hS => by go_simp⟩) qS ?_
          refine wpAnyD_take (i := 2) (v := .int .i64 k) rfl (by kernel_rfl) (by kernel_rfl) (by kernel_rfl) (by kernel_rfl) (by kernel_rfl) (fun _ _ _ h => h) (.inl ⟨by kernel_rfl, fun W' hS => by go_simp⟩) qS ?_
          refine wpAnyD_take (i := 3) (v := .pointer (some ⟨b, oo + k, none⟩)) rfl (by kernel_rfl) (by kernel_rfl) (by kernel_rfl) (by kernel_rfl) (by kernel_rfl) (fun _ _ _ h => h) (.inl ⟨by kernel_rfl, fun W' hS => by go_simp⟩) qS ?_
          refine wpAnyD_take (i := 4) (v := S s) rfl (by kernel_rfl) (by kernel_rfl) (by kernel_rfl) (by kernel_rfl) (by kernel_rfl) (fun _ _ _ h => h) (.inl ⟨by kernel_rfl, fun W' hS => by have c2 := hS.2; go_simp⟩) qS ?_
          refine wpAnyD_one (i := 5) (by kernel_rfl) rfl (by kernel_rfl) ?_
          go_simp
          refine hd.mono ?_
          rintro e w5 ⟨x5, rfl, hx5, b5⟩
          obtain ⟨xa, xc, rfl, hx51, hx52⟩ := hx5.form
          unfold maxLen at hx52
          have hrs : Strs w5.heap.size w5 (.slice xa dl.length xc) dl := hx5.strs
          have b5 : Below wo.heap.size wo w5 := (Below.refl _ wo).drew.trans b5
          have s5 := b5.size
          have bw5 := hbw.trans (b5.mono (by omega))
          have q5 := q.below b5 q.lt
          have ns5 := hns.below b5 (by omega) (Nat.le_refl _)
          have out5 := hout.below b5 hM (Nat.le_refl _)
          have c5 := (b5.cell (p := ⟨b, oo + k, none⟩) (by show b < wo.heap.size; omega)).trans c0
          have qS5 : (fun W => Blk W B0 #[.string nm, .slice da dn dm, vt, .slice ca cn cm] 26 ∧ W.cell? ⟨b, oo + k, none⟩ = some (S s)) w5 := ⟨q5, c5⟩
          clear hx5
          go_simp
          try refine ⟨qS5, ?_⟩
          refine wpAnyD_one (i := 6) (by kernel_rfl) rfl (by kernel_rfl) ?_
          go_simp
          try refine ⟨qS5, ?_⟩
          refine wpAnyD_done (by kernel_rfl) ?_ _
          refine onlyN_mk ?_
          clear qS qS5 hd hns hout q c0 c5 hbd hbw
          go_simp
          go_wp2_with fail
          obtain ⟨D0, hD0⟩ : ∃ D0, w5.heap.size = D0 := ⟨_, rfl⟩
          rw [hD0] at hrs
          have hD5 : D0 ≤ w5.heap.size := by omega
          have hMD : M0 ≤ D0 := by omega
          clear hD0 b5 s5 hM
          go_loopw [8, 10] (fun rv8 i wr => ∃ (j : Nat) (r8 : Bool), j ≤ dl.length ∧ i = .int .i64 j ∧ rv8 = .bool r8 ∧ Hid (r8 = (c8 && (dl.take j).all fun d => out.contains d)) ∧ Below B0 w wr ∧ Blk wr B0 #[.string nm, .slice da dn dm, vt, .slice ca cn cm] 26 ∧ Strs N0 wr (.slice (some ⟨b, oo, none⟩) ns.length nc) ns ∧ Strs M0 wr (.slice oa out.length oc) out ∧ Strs D0 wr (.slice xa dl.length xc) dl ∧ D0 ≤ wr.heap.size) (fun _ i _ => dl.length - (intOf i).toNat)
          case atStart => exact ⟨0, c8, Nat.zero_le _, rfl, rfl, Lib.hid (by simp), bw5, q5, ns5, out5, hrs, hD5⟩
          case round =>
            clear bw5 q5 ns5 out5 hrs hD5
            obtain ⟨j, r8, hj, rfl, rfl, HR8, hbw, q, hns, hout, hrs, hD⟩ := hrel
            by_cases hjl : j < dl.length
            · obtain ⟨b2, o2, cap2, he, _, _, _, hc2⟩ := hrs.pos (by omega)
              simp only [Value.slice.injEq, true_and] at he
              obtain ⟨rfl, rfl⟩ := he
              have c2 := hc2 j hjl
              have hsl2 : (dl[j]?.getD []).length ≤ maxLen := hrs.len
              have HS2 := Lib.hid (all_take_snoc dl (fun d => out.contains d) j hjl)
              obtain ⟨t, ht⟩ : ∃ t, dl[j]?.getD [] = t := ⟨_, rfl⟩
              rw [ht] at c2 hsl2 HS2
              have hi := in_any M0 _ out t wr hout hsl2
              obtain ⟨z, hzE, hz1, hz2⟩ := inI_dec out t
              rw [hzE] at hi
              obtain ⟨ct, hct⟩ : ∃ ct, out.contains t = ct := ⟨_, rfl⟩
              rw [hct] at hz1 HS2
              clear hzE hz2 hc2 ht hct
              cases ct with
              | true =>
                have HN : Hid (r8 = (c8 && (dl.take (j + 1)).all fun d => out.contains d)) := Lib.hid (by rw [HS2.out, HR8.out]; simp)
                clear HR8 HS2
                go_wp2_with fail
                refine hi.mono ?_
                rintro e w6 ⟨rfl, rfl⟩
                go_wp2_with fail
                exact ⟨⟨j + 1, r8, by omega, by go_num, rfl, HN, hbw, q, hns, hout, hrs, hD⟩, by simp [intOf]; omega⟩
              | false =>
                have HN : Hid (false = (c8 && (dl.take (j + 1)).all fun d => out.contains d)) := Lib.hid (by rw [HS2.out]; simp)
                clear HR8 HS2
                go_wp2_with fail
                refine hi.mono ?_
                rintro e w6 ⟨rfl, rfl⟩
                go_wp2_with fail
                exact ⟨⟨j + 1, false, by omega, by go_num, rfl, HN, hbw, q, hns, hout, hrs, hD⟩, by simp [intOf]; omega⟩
            · obtain rfl : j = dl.length := by omega
              have HR9 := HR8.out
              rw [List.take_length, ← HRD.out] at HR9
              have HR10 := Lib.hid HR9
              clear HR9 HR8 HRD hrs
              cases r8 with
              | true =>
                have HTJ : Hid (TK p (T ++ [k])) := Lib.hid (HGK.out HU.out HR10.out.symm).2
                go_wp2_with fail
                exact ⟨⟨k + 1, by omega, by go_num, .inr ⟨k, rfl, hlt, HTJ⟩, hbw, q, hns, hout, by omega⟩, by simp [intOf]; omega⟩
              | false =>
                have HU2 := Lib.hid (HUK.out HR10.out.symm)
                go_wp2_with fail
                exact ⟨⟨k + 1, by omega, by go_num, .inl ⟨rfl, HU2⟩, hbw, q, hns, hout, by omega⟩, by simp [intOf]; omega⟩
        · obtain rfl : k = ns.length := by omega
          have hTe : T = takenP p := HE.out T HT.out (fun j hj => by rw [HOE.out]; exact HU.out j hj)
          have HOE2 : Hid (named ns (takenP p) = out) := Lib.hid (by rw [← hTe]; exact HOE.out)
          rw [HOE2.out] at HR
          clear HU HE HG HL HT hTe HOE hTl hol
          go_wp2_with fail
          have hD : M0 ≤ wr.heap.size := hM
          obtain ⟨D0, hD0⟩ : ∃ D0, wr.heap.size = D0 := ⟨_, rfl⟩
          have hMD : M0 ≤ D0 := by omega
          have hD5 : D0 ≤ wr.heap.size := by omega
          have hBD : B0 < D0 := by omega
          clear hD0 hM hD
          obtain ⟨wo, rfl⟩ : ∃ wo : World, wo = wr := ⟨_, rfl⟩
          go_loopw [11, 12] (fun lv i wr => ∃ (k : Nat), k ≤ ns.length ∧ i = .int .i64 k ∧ OwnS D0 wr lv ((ns.take k).filter fun s => !out.contains s) ∧ Below B0 w wr ∧ Strs N0 wr (.slice na ns.length nc) ns ∧ Strs M0 wr (.slice oa out.length oc) out ∧ D0 ≤ wr.heap.size) (fun _ i _ => ns.length - (intOf i).toNat)
          case atStart => exact ⟨0, Nat.zero_le _, rfl, OwnS.nil _ _, hbw, hns, hout, hD5⟩
          case round =>
            clear hbw hns hout hD5 q
            obtain ⟨k, hk, rfl, hown, hbw, hns, hout, hD⟩ := hrel
            obtain ⟨la, lc, rfl, hl1, hl2⟩ := hown.form
            by_cases hlt : k < ns.length
            · obtain ⟨b, o, cap, he, _, _, hbN, hc⟩ := hns.pos (by omega)
              simp only [Value.slice.injEq, true_and] at he
              obtain ⟨rfl, rfl⟩ := he
              have c0 := hc k hlt
              have hsl : (ns[k]?.getD []).length ≤ maxLen := hns.len
              have HS := Lib.hid (filter_snoc ns (fun s => !out.contains s) k hlt)
              obtain ⟨s, hs⟩ : ∃ s, ns[k]?.getD [] = s := ⟨_, rfl⟩
              rw [hs] at c0 hsl HS
              have hfl : ((ns.take k).filter fun s => !out.contains s).length ≤ 2 ^ 38 := Nat.le_trans (List.length_filter_le _ _) (by rw [List.length_take]; omega)
              obtain ⟨re, hre⟩ : ∃ re, ((ns.take k).filter fun s => !out.contains s) = re := ⟨_, rfl⟩
              rw [hre] at hown HS hfl hl1 ⊢
              have hi := in_any M0 _ out s wr hout hsl
              obtain ⟨z, hzE, hz1, hz2⟩ := inI_dec out s
              rw [hzE] at hi
              obtain ⟨ct, hct⟩ : ∃ ct, (!out.contains s) = ct := ⟨_, rfl⟩
              rw [hct] at hz1 HS
              clear hc hs hre hzE hz2 hct
              cases ct with
              | false =>
                go_wp2_with fail
                refine hi.mono ?_
                rintro e w5 ⟨rfl, rfl⟩
                go_wp2_with fail
                exact ⟨⟨k + 1, by omega, by go_num, by rw [HS.out]; exact hown, hbw, hns, hout, hD⟩, by simp [intOf]; omega⟩
              | true =>
                have own5' := hown.old (w' := wr.alloc (.cells #[S s] 9)) ((Below.refl _ _).alloc (Nat.le_refl _) _) (Nat.le_refl _)
                have q3 := (Blk.new wr #[S s] 9).at (i := 0) rfl
                go_wp2_with fail
                refine hi.mono ?_
                rintro e w5 ⟨rfl, rfl⟩
                clear hi
                go_wp2_with (at_builtin; refine wpList_append_S rfl (.tmp 77) (.tmp 82) rfl rfl rfl own5' q3 hsl (by omega) (by simp; omega) ?_; intro g4 cap4 w4 own4 hg4 hat4)
                have hlo : ∀ r, (Value.slice la re.length lc).ownBlock = some r → D0 ≤ r := fun r hr => (ownsRow_cells hown.1 hr).1
                have s4 := hg4.size
                simp only [World.size_alloc] at s4
                have b4 : Below D0 wr w4 := ((Below.refl D0 wr).alloc (by omega) (.cells #[S s] 9)).trans (below_grown hg4 (fun r hr => hlo r hr) (by simp; omega))
                exact ⟨⟨k + 1, by omega, by go_num, by rw [HS.out]; exact own4, hbw.trans (b4.mono (by omega)), hns.below b4 (by omega) (Nat.le_refl _), hout.below b4 (by omega) (Nat.le_refl _), by omega⟩, by simp [intOf]; omega⟩
            · obtain rfl : k = ns.length := by omega
              rw [List.take_length, ← HR.out] at hown ⊢
              have hx := hown.strs
              have hy := hout.below (Below.refl M0 wr) (Nat.le_refl _) (show M0 ≤ wr.heap.size by omega)
              go_wp2_with fail
              go_ret2
              exact ⟨_, _, rfl, by rw [HNS.out, HOE2.out]; exact hy, hx, hbw⟩
      · by_cases hlt : k < ns.length
        · have hTj := HL.out _ HTJ.out
          rw [List.length_append, List.length_singleton] at hTj
          have c0 := hns.pos (by omega)
          obtain ⟨b, oo, cap, he, _, _, hbN, hc⟩ := c0
          simp only [Value.slice.injEq, true_and] at he
          obtain ⟨rfl, rfl⟩ := he
          have c0 := hc j hjn
          have hsl : (ns[j]?.getD []).length ≤ maxLen := hns.len
          have HNJ := Lib.hid (named_snoc ns T j)
          rw [HOE.out] at HNJ
          obtain ⟨s, hs⟩ : ∃ s, ns[j]?.getD [] = s := ⟨_, rfl⟩
          rw [hs] at c0 hsl HNJ
          have KEEP : Hid (∀ W', Below wr.heap.size wr W' → (fun W => W.cell? ⟨b, oo + j, none⟩ = some (S s)) W') := Lib.hid fun W' hb => (hb.cell (p := ⟨b, oo + j, none⟩) (by show b < wr.heap.size; omega)).trans c0
          clear hc hs
          go_upto_region 17 with fail
          refine wp_onlyN ?_
          refine region_plain (fun W => W.cell? ⟨b, oo + j, none⟩ = some (S s)) [] (by kernel_rfl) ?_
          have bWd : Below wr.heap.size wr wr.drew := (Below.refl _ wr).drew
          have szWd : wr.heap.size ≤ wr.drew.heap.size := Nat.le_refl _
          obtain ⟨Wd, hWd⟩ : ∃ Wd, wr.drew = Wd := ⟨_, rfl⟩
          rw [hWd] at bWd szWd ⊢
          have outWd := hout.below bWd hM (Nat.le_refl _)
          have qS := KEEP.out _ bWd
          clear hWd
          refine wpAnyD_take (i := 1) (v := .slice oa out.length oc) rfl (by kernel_rfl) (by kernel_rfl) (by kernel_rfl) (by kernel_rfl) (by kernel_rfl) (fun _ _ _ h => h) (.inl ⟨by kernel_rfl, fun W' hS => by go_simp⟩) qS ?_
          refine wpAnyD_take (i := 3) (v := .slice (some ⟨b, oo, none⟩) ns.length nc) rfl (by kernel_rfl) (by kernel_rfl) (by kernel_rfl) (by kernel_rfl) (by kernel_rfl) (fun _ _ _ h => h) (.inl ⟨by kernel_rfl, fun W' hS => by go_simp⟩) qS ?_
          refine wpAnyD_take (i := 4) (v := .int .i64 j) rfl (by kernel_rfl) (by kernel_rfl) (by kernel_rfl) (by kernel_rfl) (by kernel_rfl) (fun _ _ _ h => h) (.inl ⟨by kernel_rfl, fun W' hS => by go_simp⟩) qS ?_
          refine wpAnyD_take (i := 5) (v := .pointer (some ⟨b, oo + j, none⟩)) rfl (by kernel_rfl) (by kernel_rfl) (by kernel_rfl) (by kernel_rfl) (by kernel_rfl) (fun _ _ _ h => h) (.inl ⟨by kernel_rfl, fun W' hS => by go_simp⟩) qS ?_
          refine wpAnyD_take (i := 6) (v := S s) rfl (by kernel_rfl) (by kernel_rfl) (by kernel_rfl) (by kernel_rfl) (by kernel_rfl) (fun _ _ _ h => h) (.inl ⟨by kernel_rfl, fun W' hS => by have c2 := hS; go_simp⟩) qS ?_
          refine wpAnyD_two (i := 0) (j := 7) (by kernel_rfl) rfl rfl (by kernel_rfl) (by kernel_rfl) ?_ ?_
          · go_simp
            have ownE := own_none (B := wr.heap.size) (W := Wd) (by omega)
            have bV0 : Below wr.heap.size wr (Wd.alloc (.cells #[] 9)) := bWd.alloc (by omega) _
            have hV0b : Below Wd.heap.size Wd (Wd.alloc (.cells #[] 9)) := (Below.refl _ _).alloc (Nat.le_refl _) _
            have sV0 : (Wd.alloc (.cells #[] 9)).heap.size = Wd.heap.size + 1 := by simp
            obtain ⟨V0, hV0⟩ : ∃ W, Wd.alloc (.cells #[] 9) = W := ⟨_, rfl⟩
            obtain ⟨gV0, hgV0⟩ : ∃ g, Wd.heap.size = g := ⟨_, rfl⟩
            rw [hV0] at bV0 hV0b sV0 ownE ⊢
            rw [hgV0] at sV0 hV0b ownE ⊢
            have saV0 := Nat.le_of_eq sV0
            have sbV0 := Nat.le_of_eq sV0.symm
            have gaV0 := Nat.le_of_eq hgV0
            have gbV0 := Nat.le_of_eq hgV0.symm
            clear sV0 hgV0
            have outV0 := hout.below bV0 hM (Nat.le_refl _)
            clear hV0 hV0b
            have szV0 := bV0.size
            try refine ⟨KEEP.out _ bV0, ?_⟩
            refine wpAnyD_two (i := 2) (j := 7) (by kernel_rfl) rfl rfl (by kernel_rfl) (by kernel_rfl) ?_ ?_
            · refine wp_append_SA (.tmp 55) (.tmp 56) rfl (by kernel_rfl) (by kernel_rfl) ownE outV0 (by simp; omega) (by omega) ?_
              intro vP V1 ownP gP
              rw [List.nil_append] at ownP
              have bV1 : Below wr.heap.size wr V1 := bV0.trans (below_grown gP (fun r hr => (ownsRow_cells ownE.1 hr).1) (by omega))
              have szV1 := bV1.size
              obtain ⟨pa, pc, rfl, _, _⟩ := ownP.form
              refine ⟨fun _ => KEEP.out _ bV1, ?_⟩
              refine wpAnyD_one (i := 7) (by kernel_rfl) rfl (by kernel_rfl) ?_
              go_simp
              have strL := strs_one (W := V1) s hsl
              have bV2 : Below wr.heap.size wr (V1.alloc (.cells #[S s] 9)) := bV1.alloc (by omega) _
              have hV2b : Below V1.heap.size V1 (V1.alloc (.cells #[S s] 9)) := (Below.refl _ _).alloc (Nat.le_refl _) _
              have sV2 : (V1.alloc (.cells #[S s] 9)).heap.size = V1.heap.size + 1 := by simp
              obtain ⟨V2, hV2⟩ : ∃ W, V1.alloc (.cells #[S s] 9) = W := ⟨_, rfl⟩
              obtain ⟨gV2, hgV2⟩ : ∃ g, V1.heap.size = g := ⟨_, rfl⟩
              rw [hV2] at bV2 hV2b sV2 strL ⊢
              rw [hgV2] at sV2 hV2b strL ⊢
              replace ownP := ownP.old hV2b (by omega)
              have saV2 := Nat.le_of_eq sV2
              have sbV2 := Nat.le_of_eq sV2.symm
              have gaV2 := Nat.le_of_eq hgV2
              have gbV2 := Nat.le_of_eq hgV2.symm
              clear sV2 hgV2
              have outV2 := hout.below bV2 hM (Nat.le_refl _)
              clear hV2 hV2b
              have szV2 := bV2.size
              try refine ⟨KEEP.out _ bV2, ?_⟩
              refine wpAnyD_one (i := 8) (by kernel_rfl) rfl (by kernel_rfl) ?_
              refine wp_append_SA (.tmp 57) (.tmp 62) rfl (by kernel_rfl) (by kernel_rfl) ownP strL (by simp; omega) (by omega) ?_
              intro vF V3 ownF gF
              have bF : Below wr.heap.size wr V3 := bV2.trans (below_grown gF (fun r hr => (ownsRow_cells ownP.1 hr).1) (by omega))
              refine ⟨fun _ => KEEP.out _ bF, ?_⟩
              refine wpAnyD_one (i := 9) (by kernel_rfl) rfl (by kernel_rfl) ?_
              go_simp
              try refine ⟨KEEP.out _ bF, ?_⟩
              refine wpAnyD_done (by kernel_rfl) ?_ _
              refine onlyN_mk ?_
              go_simp
              obtain ⟨fa, fc, rfl, _, _⟩ := ownF.form
              have sF := bF.size
              go_wp2_with fail
              exact ⟨⟨T ++ [j], HTJ, by rw [HNJ.out]; exact ownF.strs, by simp only [sliceN, List.length_append, List.length_singleton]; have := hol.out; omega, hbw.trans (bF.mono (by omega)), q.below bF q.lt, hns.below bF (by omega) (Nat.le_refl _), by omega⟩, by simp only [sliceN, List.length_append, List.length_singleton]; have := hol.out; omega⟩
            · go_simp
              have strL := strs_one (W := V0) s hsl
              have bV1 : Below wr.heap.size wr (V0.alloc (.cells #[S s] 9)) := bV0.alloc (by omega) _
              have hV1b : Below V0.heap.size V0 (V0.alloc (.cells #[S s] 9)) := (Below.refl _ _).alloc (Nat.le_refl _) _
              have sV1 : (V0.alloc (.cells #[S s] 9)).heap.size = V0.heap.size + 1 := by simp
              obtain ⟨V1, hV1⟩ : ∃ W, V0.alloc (.cells #[S s] 9) = W := ⟨_, rfl⟩
              obtain ⟨gV1, hgV1⟩ : ∃ g, V0.heap.size = g := ⟨_, rfl⟩
              rw [hV1] at bV1 hV1b sV1 strL ⊢
              rw [hgV1] at sV1 hV1b strL ⊢
              replace ownE := ownE.old hV1b (by omega)
              have saV1 := Nat.le_of_eq sV1
              have sbV1 := Nat.le_of_eq sV1.symm
              have gaV1 := Nat.le_of_eq hgV1
              have gbV1 := Nat.le_of_eq hgV1.symm
              clear sV1 hgV1
              have outV1 := hout.below bV1 hM (Nat.le_refl _)
              clear hV1 hV1b
              have szV1 := bV1.size
              try refine ⟨KEEP.out _ bV1, ?_⟩
              refine wpAnyD_one (i := 2) (by kernel_rfl) rfl (by kernel_rfl) ?_
              refine wp_append_SA (.tmp 55) (.tmp 56) rfl (by kernel_rfl) (by kernel_rfl) ownE outV1 (by simp; omega) (by omega) ?_
              intro vP V2 ownP gP
              rw [List.nil_append] at ownP
              have bV2 : Below wr.heap.size wr V2 := bV1.trans (below_grown gP (fun r hr => (ownsRow_cells ownE.1 hr).1) (by omega))
              have HNE : Hid (∀ a n c r, (Value.slice (some ⟨gV1, 0, none⟩) 1 1) = .slice (some a) n c → (Value.slice (some ⟨gV0, 0, none⟩) 0 0).ownBlock = some r → a.block ≠ r) := Lib.hid fun a n c r h1 h2 => by
                simp only [Value.slice.injEq, Option.some.injEq] at h1
                simp only [Value.ownBlock, Option.some.injEq] at h2
                rw [← h1.1, ← h2]
                show (gV1 : Nat) ≠ gV0
                omega
              replace strL : Strs V2.heap.size V2 _ [s] := strs_grown strL gP (by omega) HNE.out
              have szV2 := bV2.size
              obtain ⟨pa, pc, rfl, _, _⟩ := ownP.form
              refine ⟨fun _ => KEEP.out _ bV2, ?_⟩
              refine wpAnyD_one (i := 8) (by kernel_rfl) rfl (by kernel_rfl) ?_
              refine wp_append_SA (.tmp 57) (.tmp 62) rfl (by kernel_rfl) (by kernel_rfl) ownP strL (by simp; omega) (by omega) ?_
              intro vF V3 ownF gF
              have bF : Below wr.heap.size wr V3 := bV2.trans (below_grown gF (fun r hr => (ownsRow_cells ownP.1 hr).1) (by omega))
              refine ⟨fun _ => KEEP.out _ bF, ?_⟩
              refine wpAnyD_one (i := 9) (by kernel_rfl) rfl (by kernel_rfl) ?_
              go_simp
              try refine ⟨KEEP.out _ bF, ?_⟩
              refine wpAnyD_done (by kernel_rfl) ?_ _
              refine onlyN_mk ?_
              go_simp
              obtain ⟨fa, fc, rfl, _, _⟩ := ownF.form
              have sF := bF.size
              go_wp2_with fail
              exact ⟨⟨T ++ [j], HTJ, by rw [HNJ.out]; exact ownF.strs, by simp only [sliceN, List.length_append, List.length_singleton]; have := hol.out; omega, hbw.trans (bF.mono (by omega)), q.below bF q.lt, hns.below bF (by omega) (Nat.le_refl _), by omega⟩, by simp only [sliceN, List.length_append, List.length_singleton]; have := hol.out; omega⟩
          · go_simp
            have strL := strs_one (W := Wd) s hsl
            have bV0 : Below wr.heap.size wr (Wd.alloc (.cells #[S s] 9)) := bWd.alloc (by omega) _
            have hV0b : Below Wd.heap.size Wd (Wd.alloc (.cells #[S s] 9)) := (Below.refl _ _).alloc (Nat.le_refl _) _
            have sV0 : (Wd.alloc (.cells #[S s] 9)).heap.size = Wd.heap.size + 1 := by simp
            obtain ⟨V0, hV0⟩ : ∃ W, Wd.alloc (.cells #[S s] 9) = W := ⟨_, rfl⟩
            obtain ⟨gV0, hgV0⟩ : ∃ g, Wd.heap.size = g := ⟨_, rfl⟩
            rw [hV0] at bV0 hV0b sV0 strL ⊢
            rw [hgV0] at sV0 hV0b strL ⊢
            have saV0 := Nat.le_of_eq sV0
            have sbV0 := Nat.le_of_eq sV0.symm
            have gaV0 := Nat.le_of_eq hgV0
            have gbV0 := Nat.le_of_eq hgV0.symm
            clear sV0 hgV0
            have outV0 := hout.below bV0 hM (Nat.le_refl _)
            clear hV0 hV0b
            have szV0 := bV0.size
            try refine ⟨KEEP.out _ bV0, ?_⟩
            refine wpAnyD_one (i := 0) (by kernel_rfl) rfl (by kernel_rfl) ?_
            go_simp
            have ownE := own_none (B := wr.heap.size) (W := V0) (by omega)
            have bV1 : Below wr.heap.size wr (V0.alloc (.cells #[] 9)) := bV0.alloc (by omega) _
            have hV1b : Below V0.heap.size V0 (V0.alloc (.cells #[] 9)) := (Below.refl _ _).alloc (Nat.le_refl _) _
            have sV1 : (V0.alloc (.cells #[] 9)).heap.size = V0.heap.size + 1 := by simp
            obtain ⟨V1, hV1⟩ : ∃ W, V0.alloc (.cells #[] 9) = W := ⟨_, rfl⟩
            obtain ⟨gV1, hgV1⟩ : ∃ g, V0.heap.size = g := ⟨_, rfl⟩
            rw [hV1] at bV1 hV1b sV1 ownE ⊢
            rw [hgV1] at sV1 hV1b ownE ⊢
            replace strL := strL.below hV1b (by omega) (Nat.le_refl _)
            have saV1 := Nat.le_of_eq sV1
            have sbV1 := Nat.le_of_eq sV1.symm
            have gaV1 := Nat.le_of_eq hgV1
            have gbV1 := Nat.le_of_eq hgV1.symm
            clear sV1 hgV1
            have outV1 := hout.below bV1 hM (Nat.le_refl _)
            clear hV1 hV1b
            have szV1 := bV1.size
            try refine ⟨KEEP.out _ bV1, ?_⟩
            refine wpAnyD_one (i := 2) (by kernel_rfl) rfl (by kernel_rfl) ?_
            refine wp_append_SA (.tmp 55) (.tmp 56) rfl (by kernel_rfl) (by kernel_rfl) ownE outV1 (by simp; omega) (by omega) ?_
            intro vP V2 ownP gP
            rw [List.nil_append] at ownP
            have bV2 : Below wr.heap.size wr V2 := bV1.trans (below_grown gP (fun r hr => (ownsRow_cells ownE.1 hr).1) (by omega))
            have HNE : Hid (∀ a n c r, (Value.slice (some ⟨gV0, 0, none⟩) 1 1) = .slice (some a) n c → (Value.slice (some ⟨gV1, 0, none⟩) 0 0).ownBlock = some r → a.block ≠ r) := Lib.hid fun a n c r h1 h2 => by
              simp only [Value.slice.injEq, Option.some.injEq] at h1
              simp only [Value.ownBlock, Option.some.injEq] at h2
              rw [← h1.1, ← h2]
              show (gV0 : Nat) ≠ gV1
              omega
            replace strL : Strs V2.heap.size V2 _ [s] := strs_grown strL gP (by omega) HNE.out
            have szV2 := bV2.size
            obtain ⟨pa, pc, rfl, _, _⟩ := ownP.form
            refine ⟨fun _ => KEEP.out _ bV2, ?_⟩
            refine wpAnyD_one (i := 8) (by kernel_rfl) rfl (by kernel_rfl) ?_
            refine wp_append_SA (.tmp 57) (.tmp 62) rfl (by kernel_rfl) (by kernel_rfl) ownP strL (by simp; omega) (by omega) ?_
            intro vF V3 ownF gF
            have bF : Below wr.heap.size wr V3 := bV2.trans (below_grown gF (fun r hr => (ownsRow_cells ownP.1 hr).1) (by omega))
            refine ⟨fun _ => KEEP.out _ bF, ?_⟩
            refine wpAnyD_one (i := 9) (by kernel_rfl) rfl (by kernel_rfl) ?_
            go_simp
            try refine ⟨KEEP.out _ bF, ?_⟩
            refine wpAnyD_done (by kernel_rfl) ?_ _
            refine onlyN_mk ?_
            go_simp
            obtain ⟨fa, fc, rfl, _, _⟩ := ownF.form
            have sF := bF.size
            go_wp2_with fail
            exact ⟨⟨T ++ [j], HTJ, by rw [HNJ.out]; exact ownF.strs, by simp only [sliceN, List.length_append, List.length_singleton]; have := hol.out; omega, hbw.trans (bF.mono (by omega)), q.below bF q.lt, hns.below bF (by omega) (Nat.le_refl _), by omega⟩, by simp only [sliceN, List.length_append, List.length_singleton]; have := hol.out; omega⟩
        · have hTj := HL.out _ HTJ.out
          rw [List.length_append, List.length_singleton] at hTj
          have c0 := hns.pos (by omega)
          obtain ⟨b, oo, cap, he, _, _, hbN, hc⟩ := c0
          simp only [Value.slice.injEq, true_and] at he
          obtain ⟨rfl, rfl⟩ := he
          have c0 := hc j hjn
          have hsl : (ns[j]?.getD []).length ≤ maxLen := hns.len
          have HNJ := Lib.hid (named_snoc ns T j)
          rw [HOE.out] at HNJ
          obtain ⟨s, hs⟩ : ∃ s, ns[j]?.getD [] = s := ⟨_, rfl⟩
          rw [hs] at c0 hsl HNJ
          have KEEP : Hid (∀ W', Below wr.heap.size wr W' → (fun W => W.cell? ⟨b, oo + j, none⟩ = some (S s)) W') := Lib.hid fun W' hb => (hb.cell (p := ⟨b, oo + j, none⟩) (by show b < wr.heap.size; omega)).trans c0
          clear hc hs
          go_upto_region 17 with fail
          refine wp_onlyN ?_
          refine region_plain (fun W => W.cell? ⟨b, oo + j, none⟩ = some (S s)) [] (by kernel_rfl) ?_
          have bWd : Below wr.heap.size wr wr.drew := (Below.refl _ wr).drew
          have szWd : wr.heap.size ≤ wr.drew.heap.size := Nat.le_refl _
          obtain ⟨Wd, hWd⟩ : ∃ Wd, wr.drew = Wd := ⟨_, rfl⟩
          rw [hWd] at bWd szWd ⊢
          have outWd := hout.below bWd hM (Nat.le_refl _)
          have qS := KEEP.out _ bWd
          clear hWd
          refine wpAnyD_take (i := 1) (v := .slice oa out.length oc) rfl (by kernel_rfl) (by kernel_rfl) (by kernel_rfl) (by kernel_rfl) (by kernel_rfl) (fun _ _ _ h => h) (.inl ⟨by kernel_rfl, fun W' hS => by go_simp⟩) qS ?_
          refine wpAnyD_take (i := 3) (v := .slice (some ⟨b, oo, none⟩) ns.length nc) rfl (by kernel_rfl) (by kernel_rfl) (by kernel_rfl) (by kernel_rfl) (by kernel_rfl) (fun _ _ _ h => h) (.inl ⟨by kernel_rfl, fun W' hS => by go_simp⟩) qS ?_
          refine wpAnyD_take (i := 4) (v := .int .i64 j) rfl (by kernel_rfl) (by kernel_rfl) (by kernel_rfl) (by kernel_rfl) (by kernel_rfl) (fun _ _ _ h => h) (.inl ⟨by kernel_rfl, fun W' hS => by go_simp⟩) qS ?_
          refine wpAnyD_take (i := 5) (v := .pointer (some ⟨b, oo + j, none⟩)) rfl (by kernel_rfl) (by kernel_rfl) (by kernel_rfl) (by kernel_rfl) (by kernel_rfl) (fun _ _ _ h => h) (.inl ⟨by kernel_rfl, fun W' hS => by go_simp⟩) qS ?_
          refine wpAnyD_take (i := 6) (v := S s) rfl (by kernel_rfl) (by kernel_rfl) (by kernel_rfl) (by kernel_rfl) (by kernel_rfl) (fun _ _ _ h => h) (.inl ⟨by kernel_rfl, fun W' hS => by have c2 := hS; go_simp⟩) qS ?_
          refine wpAnyD_two (i := 0) (j := 7) (by kernel_rfl) rfl rfl (by kernel_rfl) (by kernel_rfl) ?_ ?_
          · go_simp
            have ownE := own_none (B := wr.heap.size) (W := Wd) (by omega)
            have bV0 : Below wr.heap.size wr (Wd.alloc (.cells #[] 9)) := bWd.alloc (by omega) _
            have hV0b : Below Wd.heap.size Wd (Wd.alloc (.cells #[] 9)) := (Below.refl _ _).alloc (Nat.le_refl _) _
            have sV0 : (Wd.alloc (.cells #[] 9)).heap.size = Wd.heap.size + 1 := by simp
            obtain ⟨V0, hV0⟩ : ∃ W, Wd.alloc (.cells #[] 9) = W := ⟨_, rfl⟩
            obtain ⟨gV0, hgV0⟩ : ∃ g, Wd.heap.size = g := ⟨_, rfl⟩
            rw [hV0] at bV0 hV0b sV0 ownE ⊢
            rw [hgV0] at sV0 hV0b ownE ⊢
            have saV0 := Nat.le_of_eq sV0
            have sbV0 := Nat.le_of_eq sV0.symm
            have gaV0 := Nat.le_of_eq hgV0
            have gbV0 := Nat.le_of_eq hgV0.symm
            clear sV0 hgV0
            have outV0 := hout.below bV0 hM (Nat.le_refl _)
            clear hV0 hV0b
            have szV0 := bV0.size
            try refine ⟨KEEP.out _ bV0, ?_⟩
            refine wpAnyD_two (i := 2) (j := 7) (by kernel_rfl) rfl rfl (by kernel_rfl) (by kernel_rfl) ?_ ?_
            · refine wp_append_SA (.tmp 55) (.tmp 56) rfl (by kernel_rfl) (by kernel_rfl) ownE outV0 (by simp; omega) (by omega) ?_
              intro vP V1 ownP gP
              rw [List.nil_append] at ownP
              have bV1 : Below wr.heap.size wr V1 := bV0.trans (below_grown gP (fun r hr => (ownsRow_cells ownE.1 hr).1) (by omega))
              have szV1 := bV1.size
              obtain ⟨pa, pc, rfl, _, _⟩ := ownP.form
              refine ⟨fun _ => KEEP.out _ bV1, ?_⟩
              refine wpAnyD_one (i := 7) (by kernel_rfl) rfl (by kernel_rfl) ?_
              go_simp
              have strL := strs_one (W := V1) s hsl
              have bV2 : Below wr.heap.size wr (V1.alloc (.cells #[S s] 9)) := bV1.alloc (by omega) _
              have hV2b : Below V1.heap.size V1 (V1.alloc (.cells #[S s] 9)) := (Below.refl _ _).alloc (Nat.le_refl _) _
              have sV2 : (V1.alloc (.cells #[S s] 9)).heap.size = V1.heap.size + 1 := by simp
              obtain ⟨V2, hV2⟩ : ∃ W, V1.alloc (.cells #[S s] 9) = W := ⟨_, rfl⟩
              obtain ⟨gV2, hgV2⟩ : ∃ g, V1.heap.size = g := ⟨_, rfl⟩
              rw [hV2] at bV2 hV2b sV2 strL ⊢
              rw [hgV2] at sV2 hV2b strL ⊢
              replace ownP := ownP.old hV2b (by omega)
              have saV2 := Nat.le_of_eq sV2
              have sbV2 := Nat.le_of_eq sV2.symm
              have gaV2 := Nat.le_of_eq hgV2
              have gbV2 := Nat.le_of_eq hgV2.symm
              clear sV2 hgV2
              have outV2 := hout.below bV2 hM (Nat.le_refl _)
              clear hV2 hV2b
              have szV2 := bV2.size
              try refine ⟨KEEP.out _ bV2, ?_⟩
              refine wpAnyD_one (i := 8) (by kernel_rfl) rfl (by kernel_rfl) ?_
              refine wp_append_SA (.tmp 57) (.tmp 62) rfl (by kernel_rfl) (by kernel_rfl) ownP strL (by simp; omega) (by omega) ?_
              intro vF V3 ownF gF
              have bF : Below wr.heap.size wr V3 := bV2.trans (below_grown gF (fun r hr => (ownsRow_cells ownP.1 hr).1) (by omega))
              refine ⟨fun _ => KEEP.out _ bF, ?_⟩
              refine wpAnyD_one (i := 9) (by kernel_rfl) rfl (by kernel_rfl) ?_
              go_simp
              try refine ⟨KEEP.out _ bF, ?_⟩
              refine wpAnyD_done (by kernel_rfl) ?_ _
              refine onlyN_mk ?_
              go_simp
              obtain ⟨fa, fc, rfl, _, _⟩ := ownF.form
              have sF := bF.size
              go_wp2_with fail
              exact ⟨⟨T ++ [j], HTJ, by rw [HNJ.out]; exact ownF.strs, by simp only [sliceN, List.length_append, List.length_singleton]; have := hol.out; omega, hbw.trans (bF.mono (by omega)), q.below bF q.lt, hns.below bF (by omega) (Nat.le_refl _), by omega⟩, by simp only [sliceN, List.length_append, List.length_singleton]; have := hol.out; omega⟩
            · go_simp
              have strL := strs_one (W := V0) s hsl
              have bV1 : Below wr.heap.size wr (V0.alloc (.cells #[S s] 9)) := bV0.alloc (by omega) _
              have hV1b : Below V0.heap.size V0 (V0.alloc (.cells #[S s] 9)) := (Below.refl _ _).alloc (Nat.le_refl _) _
              have sV1 : (V0.alloc (.cells #[S s] 9)).heap.size = V0.heap.size + 1 := by simp
              obtain ⟨V1, hV1⟩ : ∃ W, V0.alloc (.cells #[S s] 9) = W := ⟨_, rfl⟩
              obtain ⟨gV1, hgV1⟩ : ∃ g, V0.heap.size = g := ⟨_, rfl⟩
              rw [hV1] at bV1 hV1b sV1 strL ⊢
              rw [hgV1] at sV1 hV1b strL ⊢
              replace ownE := ownE.old hV1b (by omega)
              have saV1 := Nat.le_of_eq sV1
              have sbV1 := Nat.le_of_eq sV1.symm
              have gaV1 := Nat.le_of_eq hgV1
              have gbV1 := Nat.le_of_eq hgV1.symm
              clear sV1 hgV1
              have outV1 := hout.below bV1 hM (Nat.le_refl _)
              clear hV1 hV1b
              have szV1 := bV1.size
              try refine ⟨KEEP.out _ bV1, ?_⟩
              refine wpAnyD_one (i := 2) (by kernel_rfl) rfl (by kernel_rfl) ?_
              refine wp_append_SA (.tmp 55) (.tmp 56) rfl (by kernel_rfl) (by kernel_rfl) ownE outV1 (by simp; omega) (by omega) ?_
              intro vP V2 ownP gP
              rw [List.nil_append] at ownP
              have bV2 : Below wr.heap.size wr V2 := bV1.trans (below_grown gP (fun r hr => (ownsRow_cells ownE.1 hr).1) (by omega))
              have HNE : Hid (∀ a n c r, (Value.slice (some ⟨gV1, 0, none⟩) 1 1) = .slice (some a) n c → (Value.slice (some ⟨gV0, 0, none⟩) 0 0).ownBlock = some r → a.block ≠ r) := Lib.hid fun a n c r h1 h2 => by
                simp only [Value.slice.injEq, Option.some.injEq] at h1
                simp only [Value.ownBlock, Option.some.injEq] at h2
                rw [← h1.1, ← h2]
                show (gV1 : Nat) ≠ gV0
                omega
              replace strL : Strs V2.heap.size V2 _ [s] := strs_grown strL gP (by omega) HNE.out
              have szV2 := bV2.size
              obtain ⟨pa, pc, rfl, _, _⟩ := ownP.form
              refine ⟨fun _ => KEEP.out _ bV2, ?_⟩
              refine wpAnyD_one (i := 8) (by kernel_rfl) rfl (by kernel_rfl) ?_
              refine wp_append_SA (.tmp 57) (.tmp 62) rfl (by kernel_rfl) (by kernel_rfl) ownP strL (by simp; omega) (by omega) ?_
              intro vF V3 ownF gF
              have bF : Below wr.heap.size wr V3 := bV2.trans (below_grown gF (fun r hr => (ownsRow_cells ownP.1 hr).1) (by omega))
              refine ⟨fun _ => KEEP.out _ bF, ?_⟩
              refine wpAnyD_one (i := 9) (by kernel_rfl) rfl (by kernel_rfl) ?_
              go_simp
              try refine ⟨KEEP.out _ bF, ?_⟩
              refine wpAnyD_done (by kernel_rfl) ?_ _
              refine onlyN_mk ?_
              go_simp
              obtain ⟨fa, fc, rfl, _, _⟩ := ownF.form
              have sF := bF.size
              go_wp2_with fail
              exact ⟨⟨T ++ [j], HTJ, by rw [HNJ.out]; exact ownF.strs, by simp only [sliceN, List.length_append, List.length_singleton]; have := hol.out; omega, hbw.trans (bF.mono (by omega)), q.below bF q.lt, hns.below bF (by omega) (Nat.le_refl _), by omega⟩, by simp only [sliceN, List.length_append, List.length_singleton]; have := hol.out; omega⟩
          · go_simp
            have strL := strs_one (W := Wd) s hsl
            have bV0 : Below wr.heap.size wr (Wd.alloc (.cells #[S s] 9)) := bWd.alloc (by omega) _
            have hV0b : Below Wd.heap.size Wd (Wd.alloc (.cells #[S s] 9)) := (Below.refl _ _).alloc (Nat.le_refl _) _
            have sV0 : (Wd.alloc (.cells #[S s] 9)).heap.size = Wd.heap.size + 1 := by simp
            obtain ⟨V0, hV0⟩ : ∃ W, Wd.alloc (.cells #[S s] 9) = W := ⟨_, rfl⟩
            obtain ⟨gV0, hgV0⟩ : ∃ g, Wd.heap.size = g := ⟨_, rfl⟩
            rw [hV0] at bV0 hV0b sV0 strL ⊢
            rw [hgV0] at sV0 hV0b strL ⊢
            have saV0 := Nat.le_of_eq sV0
            have sbV0 := Nat.le_of_eq sV0.symm
            have gaV0 := Nat.le_of_eq hgV0
            have gbV0 := Nat.le_of_eq hgV0.symm
            clear sV0 hgV0
            have outV0 := hout.below bV0 hM (Nat.le_refl _)
            clear hV0 hV0b
            have szV0 := bV0.size
            try refine ⟨KEEP.out _ bV0, ?_⟩
            refine wpAnyD_one (i := 0) (by kernel_rfl) rfl (by kernel_rfl) ?_
            go_simp
            have ownE := own_none (B := wr.heap.size) (W := V0) (by omega)
            have bV1 : Below wr.heap.size wr (V0.alloc (.cells #[] 9)) := bV0.alloc (by omega) _
            have hV1b : Below V0.heap.size V0 (V0.alloc (.cells #[] 9)) := (Below.refl _ _).alloc (Nat.le_refl _) _
            have sV1 : (V0.alloc (.cells #[] 9)).heap.size = V0.heap.size + 1 := by simp
            obtain ⟨V1, hV1⟩ : ∃ W, V0.alloc (.cells #[] 9) = W := ⟨_, rfl⟩
            obtain ⟨gV1, hgV1⟩ : ∃ g, V0.heap.size = g := ⟨_, rfl⟩
            rw [hV1] at bV1 hV1b sV1 ownE ⊢
            rw [hgV1] at sV1 hV1b ownE ⊢
            replace strL := strL.below hV1b (by omega) (Nat.le_refl _)
            have saV1 := Nat.le_of_eq sV1
            have sbV1 := Nat.le_of_eq sV1.symm
            have gaV1 := Nat.le_of_eq hgV1
            have gbV1 := Nat.le_of_eq hgV1.symm
            clear sV1 hgV1
            have outV1 := hout.below bV1 hM (Nat.le_refl _)
            clear hV1 hV1b
            have szV1 := bV1.size
            try refine ⟨KEEP.out _ bV1, ?_⟩
            refine wpAnyD_one (i := 2) (by kernel_rfl) rfl (by kernel_rfl) ?_
            refine wp_append_SA (.tmp 55) (.tmp 56) rfl (by kernel_rfl) (by kernel_rfl) ownE outV1 (by simp; omega) (by omega) ?_
            intro vP V2 ownP gP
            rw [List.nil_append] at ownP
            have bV2 : Below wr.heap.size wr V2 := bV1.trans (below_grown gP (fun r hr => (ownsRow_cells ownE.1 hr).1) (by omega))
            have HNE : Hid (∀ a n c r, (Value.slice (some ⟨gV0, 0, none⟩) 1 1) = .slice (some a) n c → (Value.slice (some ⟨gV1, 0, none⟩) 0 0).ownBlock = some r → a.block ≠ r) := Lib.hid fun a n c r h1 h2 => by
              simp only [Value.slice.injEq, Option.some.injEq] at h1
              simp only [Value.ownBlock, Option.some.injEq] at h2
              rw [← h1.1, ← h2]
              show (gV0 : Nat) ≠ gV1
              omega
            replace strL : Strs V2.heap.size V2 _ [s] := strs_grown strL gP (by omega) HNE.out
            have szV2 := bV2.size
            obtain ⟨pa, pc, rfl, _, _⟩ := ownP.form
            refine ⟨fun _ => KEEP.out _ bV2, ?_⟩
            refine wpAnyD_one (i := 8) (by kernel_rfl) rfl (by kernel_rfl) ?_
            refine wp_append_SA (.tmp 57) (.tmp 62) rfl (by kernel_rfl) (by kernel_rfl) ownP strL (by simp; omega) (by omega) ?_
            intro vF V3 ownF gF
            have bF : Below wr.heap.size wr V3 := bV2.trans (below_grown gF (fun r hr => (ownsRow_cells ownP.1 hr).1) (by omega))
            refine ⟨fun _ => KEEP.out _ bF, ?_⟩
            refine wpAnyD_one (i := 9) (by kernel_rfl) rfl (by kernel_rfl) ?_
            go_simp
            try refine ⟨KEEP.out _ bF, ?_⟩
            refine wpAnyD_done (by kernel_rfl) ?_ _
            refine onlyN_mk ?_
            go_simp
            obtain ⟨fa, fc, rfl, _, _⟩ := ownF.form
            have sF := bF.size
            go_wp2_with fail
            exact ⟨⟨T ++ [j], HTJ, by rw [HNJ.out]; exact ownF.strs, by simp only [sliceN, List.length_append, List.length_singleton]; have := hol.out; omega, hbw.trans (bF.mono (by omega)), q.below bF q.lt, hns.below bF (by omega) (Nat.le_refl _), by omega⟩, by simp only [sliceN, List.length_append, List.length_singleton]; have := hol.out; omega⟩
end Go.Proofs.Ythbnbjigmgoldaa
