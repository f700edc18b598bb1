/- Package order: Cycle. No conditions beyond the readings of the arguments. -/
import Derived.Test.YthbnbjigmgoldaaOCycS
namespace Go.Proofs.Ythbnbjigmgoldaa
open Go.RowKit
set_option linter.unusedVariables false

theorem OwnN.drop {base g n c : Nat} {w : World} {l : List Nat} (h : OwnN base w (.slice (some ⟨g, 0, none⟩) n c) l) (hn : l.length = n) {q : Nat} (hq : q ≤ n) (hl : 0 < n) : Nats w.heap.size w (.slice (some ⟨g, q, none⟩) (n - q) (c - q)) (l.drop q) := by
  obtain ⟨b, o, cap, he, h1, h2, h3, hc⟩ := Nats.pos h.nats (by omega)
  simp only [Value.slice.injEq, Option.some.injEq, Addr.mk.injEq, and_true] at he
  obtain ⟨⟨rfl, rfl⟩, _, rfl⟩ := he
  have hd : (l.drop q).length = n - q := by rw [List.length_drop, hn]
  unfold Nats
  rw [hd]
  refine RowsV.mk_cells (by omega) (by omega) h3 fun i hi j hj => ?_
  obtain rfl : j = 0 := by omega
  have := hc (q + i) (by omega)
  rw [Nat.zero_add] at this
  rw [show q + (i * 1 + 0) = q + i by omega, this, List.getElem?_drop]

set_option maxRecDepth 100000 in
set_option maxHeartbeats 4000000 in
theorem cycle_any (K : Nat) (p : Pl) (nm : ByteArray) (vd vt vc : Value) (w : World) (h : PlanIs K w vd vc p) (hK : K ≤ w.heap.size) (hbig : p.size ≤ 2 ^ 38) :
    Calls Try.prog 25 #[.agg #[.string nm, vd, vt, vc]] w fun e w' => ∃ x, e = .returned x ∧ OwnS w.heap.size w' x (cycle p) ∧ Below w.heap.size w w' := by
  have hmm := @run_makeMap Try.prog
  obtain ⟨B0, hB0⟩ : ∃ B0, w.heap.size = B0 := ⟨_, rfl⟩
  rw [hB0] at hK ⊢
  obtain ⟨W, hW⟩ : ∃ W, w.alloc (.cells #[.string nm, vd, vt, vc] 26) = W := ⟨_, rfl⟩
  have hb : Below B0 w W := by rw [← hW, ← hB0]; exact (Below.refl _ w).alloc (Nat.le_refl _) _
  have hsz : W.heap.size = B0 + 1 := by rw [← hW, ← hB0]; simp
  obtain ⟨dg, hdg, _⟩ := id h.1
  obtain ⟨da, dcap, rfl, _⟩ := id hdg
  obtain ⟨cg, hcg, _⟩ := id h.2
  obtain ⟨ca, ccap, rfl, _⟩ := id hcg
  have hg := graph_any K p nm _ vt _ W (h.below hb hK (Nat.le_refl _)) (by omega) hbig
  have HB := Lib.hid hB0
  have HW := Lib.hid hW
  have hnb : (names p).length ≤ 2 ^ 38 := by have := names_length p; unfold Pl.size at hbig; omega
  clear hB0 hW hdg hcg
  go_enter Try.func25, Try.ntmps25
  go_wp2_with fail
  simp only [HB.out]
  rw [HW.out]
  refine hg.mono ?_
  rintro e w2 ⟨nv, b, rfl, hgr, hb2⟩
  have hb02 : Below B0 w w2 := hb.trans (hb2.mono (by omega))
  have hs2 := hb2.size
  obtain ⟨G, hG⟩ : ∃ G, w2.heap.size = G := ⟨_, rfl⟩
  obtain ⟨na, ncap, rfl, hn1, hn2⟩ := hgr.1.form
  obtain ⟨W5, hW5⟩ : ∃ W5, ((w2.alloc (.cells #[.slice na (names p).length ncap, .map (some b)] 66)).alloc (.map #[] 0)).alloc (.cells #[.map (some (G + 1))] 77) = W5 := ⟨_, rfl⟩
  have hb5 : Below G w2 W5 := by rw [← hW5, ← hG]; exact (((Below.refl _ w2).alloc (Nat.le_refl _) _).alloc (by simp) _).alloc (by simp; omega) _
  have hs5 : W5.heap.size = G + 3 := by rw [← hW5, ← hG]; simp
  have hgr5 := hgr.below (hG ▸ hb5) (Nat.le_refl _) (Nat.le_refl _)
  rw [hG] at hgr5
  have hGB : B0 + 1 ≤ G := by omega
  have q5 : Blk W5 G #[.slice na (names p).length ncap, .map (some b)] 66 := by rw [← hW5, ← hG]; exact ((Blk.new w2 _ _).alloc _).alloc _
  have m5 : MapIs W5 3 (G + 1) 0 (fN (inSet [])) := by
    have := MapIs.made (w2.alloc (.cells #[.slice na (names p).length ncap, .map (some b)] 66)) 3
    rw [World.size_alloc, hG, fN_none, inSet_nil] at this
    rw [← hW5]
    exact this.alloc _
  have r5 : Blk W5 (G + 2) #[.map (some (G + 1))] 77 := by
    have := Blk.new ((w2.alloc (.cells #[.slice na (names p).length ncap, .map (some b)] 66)).alloc (.map #[] 0)) #[.map (some (G + 1))] 77
    rw [World.size_alloc, World.size_alloc, hG] at this
    rw [← hW5]; exact this
  have hdl : ∀ s, ∀ i ∈ deps p s, i < (names p).length := fun s => deps_lt
  have htk := take_any G _ b (names p) (deps p) (gD p) W5 hgr5 (by omega) rfl hdl (deps_nodup p) hnb
  have HG := Lib.hid hG
  have HW5 := Lib.hid hW5
  have hb05 : Below B0 w W5 := hb02.trans (hb5.mono (by omega))
  clear hW5 hg hgr hG hb5 hb02 hb2 hs2 hb hsz
  go_wp2_with fail
  simp only [HG.out, Nat.add_assoc, Nat.reduceAdd]
  rw [HW5.out]
  refine htk.mono ?_
  clear htk
  rintro e w6 ⟨tv, rfl, hown6, hb6⟩
  have hown6 : OwnN W5.heap.size w6 tv (takenP p) := hown6
  rw [hs5] at hown6 hb6
  obtain ⟨ta, tc, rfl, ht1, ht2⟩ := hown6.form
  have hTlt := takenP_lt p
  have hTn : (takenP p).Nodup := (greedy_taken _ _).nodup
  have hTl := takenP_length p
  have HCN : Hid (∀ h : (names p).length ≤ (takenP p).length, cycle p = []) := Lib.hid fun h => by unfold cycle; rw [cycle_none h]; rfl
  obtain ⟨T, hT⟩ : ∃ T, takenP p = T := ⟨_, rfl⟩
  rw [hT] at hown6 hTlt hTn hTl ht1 HCN ⊢
  have HT := Lib.hid hT
  have m6 := m5.below hb6 (by omega)
  have r6 := r5.below hb6 (by omega)
  have hs6 := hb6.size
  have hb6' : Below (G + 1) W5 w6 := hb6.mono (by omega)
  unfold maxLen at ht2 hn2
  clear hT hmm m5 r5
  go_wp2_with fail
  go_loopw [19] (fun i wr => ∃ k, k ≤ T.length ∧ i = .int .i64 k ∧ MapIs wr 3 (G + 1) k (fN (inSet (T.take k))) ∧ Blk wr (G + 2) #[.map (some (G + 1))] 77 ∧ OwnN (G + 3) wr (.slice ta T.length tc) T ∧ Below (G + 1) W5 wr ∧ G + 3 ≤ wr.heap.size) (fun i _ => T.length - (intOf i).toNat)
  case atStart => exact ⟨0, Nat.zero_le _, rfl, m6, r6, hown6, hb6', by omega⟩
  case round =>
    clear m6 r6 hown6 hb6' hb6 hs6
    obtain ⟨k, hk, rfl, hm, hr, ho, hbl, hsz⟩ := hrel
    obtain ⟨b0, b1⟩ := hr.one
    by_cases hlt : k < T.length
    · obtain ⟨g, c, hve, hc2, hc3⟩ := ho.pos (by omega)
      simp only [Value.slice.injEq, true_and] at hve
      obtain ⟨rfl, rfl⟩ := hve
      have z0 := ho.cell (q := k) hlt
      have hzl : fn T k < (names p).length := hTlt _ (fn_mem hlt)
      have hzn : fn T k ∉ T.take k := fn_not_mem_take hTn hlt
      have hts := take_fn T k hlt
      obtain ⟨z, hz⟩ : ∃ z, fn T k = z := ⟨_, rfl⟩
      rw [hz] at z0 hzl hzn hts
      have z0 : wr.cell? ⟨g, k, none⟩ = some (.int .i64 (z : Int)) := z0
      have hz62 : z ≤ 2 ^ 62 := by omega
      have hzc : (T.take k).contains z = false := by
        cases hh : (T.take k).contains z with
        | false => rfl
        | true => exact absurd (List.contains_iff_mem.1 hh) hzn
      have HTS := Lib.hid hts
      have HZC := Lib.hid hzc
      have HM := Lib.hid hm
      have hml : k < maxLen := by unfold maxLen; omega
      clear hz hts hzn hzc hm
      go_wp2_with (at_mapUpdate; refine wpList_put_M _ rfl _ _ _ 77 rfl _ keyN Try.underlying77 rfl HM.out hml _ (.int .i64 z) rfl (keyOf_Z z hz62) (.bool true) rfl ?_; intro w2 hm2 hg2)
      rw [upd_N _ _ hz62, updF_inSet, show (fN (inSet (T.take k)) (.int .i64 (z : Int))).isSome = false from by (rw [fN_at _ _ hz62, inSet_some]; exact HZC.out), ← HTS.out] at hm2
      have hs2 := hg2.size
      exact ⟨⟨k + 1, by omega, by go_num, hm2, hr.kept hg2 (by simp), ho.kept hg2 (ho.ne (by omega)), hbl.trans (below_grown hg2 (fun r e => by cases e; omega) (by omega)), by omega⟩, by simp [intOf]; omega⟩
    · obtain rfl : k = T.length := by omega
      rw [List.take_length] at hm
      have hln := hm.len (t := 77) Try.underlying77 3
      obtain ⟨wt, rfl⟩ : ∃ wt : World, wt = wr := ⟨_, rfl⟩
      have hst : SetIs wt (G + 2) (G + 1) T := ⟨hr, _, hm⟩
      obtain ⟨St, hSt⟩ : ∃ St, wt.heap.size = St := ⟨_, rfl⟩
      rw [hSt] at hsz
      have qt := q5.below hbl (by omega)
      obtain ⟨g0, g1⟩ := qt.two
      have hb0t : Below B0 w wt := hb05.trans (hbl.mono (by omega))
      by_cases hc : T.length = (names p).length
      · go_wp2_with fail
        go_ret
        exact ⟨_, rfl, by rw [HCN.out (by omega)]; exact OwnS.nil _ _, hb0t⟩
      · have hcn : ((T.length : Int) == ((names p).length : Int)) = false := by rw [beq_eq_false_iff_ne]; omega
        have hmm := @run_makeMap Try.prog
        obtain ⟨W8, hW8⟩ : ∃ W8, wt.alloc (.map #[] 0) = W8 := ⟨_, rfl⟩
        have hb8 : Below St wt W8 := by rw [← hW8, ← hSt]; exact (Below.refl _ wt).alloc (Nat.le_refl _) _
        have hs8 : W8.heap.size = St + 1 := by rw [← hW8, ← hSt]; simp
        have m8 : MapIs W8 3 St 0 (fN (posOf [])) := by
          have := MapIs.made wt 3
          rw [hSt, fN_none, posOf_nil] at this
          rw [← hW8]; exact this
        have hset8 := hst.below hb8 (by omega) (by omega)
        obtain ⟨t0, t1⟩ := hset8.box.one
        have HSt := Lib.hid hSt
        have HW8 := Lib.hid hW8
        have HTL : Hid (T.length < (names p).length) := Lib.hid (by omega)
        have HC := Lib.hid hc
        clear hW8 hSt hc hm hr
        go_wp2_with fail
        simp only [HSt.out]
        rw [HW8.out]
        go_loopw [10] (fun i wr => W8 = wr ∧ ∃ j : Nat, i = .int .i64 j ∧ Hid (∀ k, k < j → T.contains k = true)) (fun i _ => (names p).length - (intOf i).toNat)
        case atStart => exact ⟨rfl, 0, rfl, Lib.hid fun k hk => absurd hk (by omega)⟩
        case round =>
          obtain ⟨rfl, j, rfl, HALL⟩ := hrel
          have hjn : j < (names p).length := untaken_lt (D := gD p) (by have := HTL.out; rw [← HT.out] at this; exact this) (by have := HALL.out; rw [← HT.out] at this; exact this)
          have hlk := hset8.look j (by omega)
          obtain ⟨ct, hct⟩ : ∃ ct, T.contains j = ct := ⟨_, rfl⟩
          rw [hct] at hlk
          have HCT := Lib.hid hct
          clear hct
          cases ct with
          | true =>
            have hall2 : ∀ k, k < j + 1 → T.contains k = true := fun k hk => by
              by_cases e : k = j
              · subst e; exact HCT.out
              · exact HALL.out k (by omega)
            have HALL2 := Lib.hid hall2
            clear hall2
            go_wp2_with fail
            exact ⟨⟨by first | trivial | rfl, j + 1, by go_num, HALL2⟩, by simp [intOf]; omega⟩
          | false =>
            have hw0 : Way (names p).length (gD p) [] j := by
              have h1 := HCT.out
              have h2 := HALL.out
              rw [← HT.out] at h1 h2
              exact ⟨List.nodup_nil, fun x hx => by simp at hx, hjn, h1, cycle_some hjn h1 h2⟩
            have HW0 := Lib.hid hw0
            clear hw0
            go_wp2_with fail
            clear hlk hset8 t0 t1 hln g0 g1 qt
            go_loopw [9, 10] (fun vv i wr => ∃ (way : List Nat) (j : Nat), i = .int .i64 j ∧ MapIs wr 3 St way.length (fN (posOf way)) ∧ OwnN (St + 1) wr vv way ∧ Below St wt wr ∧ St + 1 ≤ wr.heap.size ∧ Hid (Way (names p).length (gD p) way j)) (fun vv _ _ => match vv with | .slice _ m _ => (names p).length + 1 - m | _ => 0)
            case atStart => exact ⟨[], j, rfl, m8, OwnN.nil _ _, hb8, by omega, HW0⟩
            case round =>
              clear m8 hb8 hs8
              obtain ⟨way, j, rfl, hmp, hown, hbr, hszr, HWY⟩ := hrel
              obtain ⟨wv, rfl⟩ : ∃ wv : World, wv = wr := ⟨_, rfl⟩
              have hjn := HWY.out.ilt
              have hj62 : j ≤ 2 ^ 62 := by omega
              have hwl := HWY.out.length
              have hlo := hmp.lookOk (t := 82) keyN Try.underlying82 (Try.zeroValue3 _) (keyOf_Z j hj62)
              rw [fN_at _ _ hj62] at hlo
              have qr := (q5.below hbl (by omega)).below hbr (by omega)
              obtain ⟨wa, wc, rfl, _, _⟩ := hown.form
              have hgr := (hgr5.below hbl (by omega) (Nat.le_refl _)).below hbr (by omega) (Nat.le_refl _)
              obtain ⟨ct, hct⟩ : ∃ ct, way.contains j = ct := ⟨_, rfl⟩
              have HCT := Lib.hid hct
              cases ct with
              | true =>
                rw [posOf_in hct] at hlo
                have hqi := idxOf_fn hct
                have HD := Lib.hid (HWY.out.done hct)
                obtain ⟨q, hq⟩ : ∃ q, way.idxOf j = q := ⟨_, rfl⟩
                rw [hq] at hlo hqi HD
                have hlo : (Instr.lookup 82 (.map (some St)) (.int .i64 j) true).run Try.prog wv = .ok (.tuple #[.int .i64 q, .bool true]) wv := hlo
                obtain ⟨g, c, hve, hc2, hc3⟩ := hown.pos (by omega)
                simp only [Value.slice.injEq, true_and] at hve
                obtain ⟨rfl, rfl⟩ := hve
                unfold maxLen at hc3
                have hdr := hown.drop rfl (q := q) (by omega) (by omega)
                have hql : q ≤ way.length := by omega
                have hqc : ¬ wc = q := by omega
                clear hq hct
                go_wp2_with fail
                refine wp_onlyN ?_
                refine region_plain (fun W' => Below wv.heap.size wv W') [] (by kernel_rfl) ?_
                have qQ : (fun W' => Below wv.heap.size wv W') wv.drew := ⟨rfl, rfl, rfl, Nat.le_refl _, fun _ _ => rfl⟩
                refine wpAnyD_takeC [] (i := 0) (v := .agg #[.slice na (names p).length ncap, .map (some b)]) rfl (by kernel_rfl) (by kernel_rfl) (by kernel_rfl) (by kernel_rfl) (by kernel_rfl) (by kernel_rfl) (fun _ _ _ h => h) (.inl ⟨by kernel_rfl, fun W' hS => by have d := (qr.below hS qr.lt).two; have d0 := d.1; have d1 := d.2; go_simp⟩) qQ ?_
                refine wpAnyD_takeC [] (i := 1) (v := .slice (some ⟨g, 0, none⟩) way.length wc) rfl (by kernel_rfl) (by kernel_rfl) (by kernel_rfl) (by kernel_rfl) (by kernel_rfl) (by kernel_rfl) (fun _ _ _ h => h) (.inl ⟨by kernel_rfl, fun W' hS => by go_simp⟩) qQ ?_
                refine wpAnyD_takeC [] (i := 2) (v := .int .i64 q) rfl (by kernel_rfl) (by kernel_rfl) (by kernel_rfl) (by kernel_rfl) (by kernel_rfl) (by kernel_rfl) (fun _ _ _ h => h) (.inl ⟨by kernel_rfl, fun W' hS => by go_simp⟩) qQ ?_
                refine wpAnyD_takeC [] (i := 3) (v := .slice (some ⟨g, q, none⟩) (way.length - q) (wc - q)) rfl (by kernel_rfl) (by kernel_rfl) (by kernel_rfl) (by kernel_rfl) (by kernel_rfl) (by kernel_rfl) (fun _ _ _ h => h) (.inl ⟨by kernel_rfl, fun W' hS => by go_simp⟩) qQ ?_
                have hg18 := hgr.below qQ (by omega) (show G ≤ wv.heap.size by omega)
                have hlist := list_any wv.heap.size (.slice na (names p).length ncap) (.map (some b)) (names p) (.slice (some ⟨g, q, none⟩) (way.length - q) (wc - q)) (way.drop q) wv.drew ((hg18.below (Below.refl _ _) (Nat.le_refl _) (by omega)).1) (hdr.below qQ (Nat.le_refl _) (Nat.le_refl _)) (Nat.le_refl _) (fun i hi => HWY.out.lt i (List.mem_of_mem_drop hi)) (by rw [List.length_drop]; omega)
                refine wpAnyD_one (i := 4) (by kernel_rfl) rfl (by kernel_rfl) ?_
                go_simp
                refine hlist.mono ?_
                clear hlist
                rintro e w9 ⟨x, rfl, hownx, hb9⟩
                have hS9 : Below wv.heap.size wv w9 := qQ.trans hb9
                go_simp
                refine wpAnyD_one (i := 5) (by kernel_rfl) rfl (by kernel_rfl) ?_
                go_simp
                refine wpAnyD_done (by kernel_rfl) ?_ _
                refine onlyN_mk ?_
                go_simp
                go_wp2_with fail
                go_ret
                refine ⟨x, rfl, ?_, (hb0t.trans (hbr.mono (by omega))).trans (hS9.mono (by omega))⟩
                rw [show cycle p = named (names p) (way.drop q) by unfold cycle; rw [HD.out]]
                exact hownx.mono (by show B0 ≤ wv.heap.size; omega)
              | false =>
                rw [posOf_out hct] at hlo
                have hlo : (Instr.lookup 82 (.map (some St)) (.int .i64 j) true).run Try.prog wv = .ok (.tuple #[.int .i64 0, .bool false]) wv := hlo
                have HST := Lib.hid (HWY.out.step hct (fun j => deps_lt))
                have HMP := Lib.hid hmp
                have hwl2 := HST.out.length
                rw [List.length_append, List.length_singleton] at hwl2
                have hml : way.length < maxLen := by unfold maxLen; omega
                have hl1 : way.length + 1 ≤ 2 ^ 40 := by omega
                have HB3 : Hid (∀ r, (Value.slice wa way.length wc).ownBlock = some r → St + 1 ≤ r) := Lib.hid fun r hr' => (ownsRow_cells hown hr').1
                clear hmp hct
                go_wp2_with (first
                  | (at_mapUpdate; refine wpList_put_M _ rfl _ _ _ 82 rfl _ keyN Try.underlying82 rfl HMP.out hml _ (.int .i64 j) rfl (keyOf_Z j hj62) (Z way.length) rfl ?_; intro w2 hm2 hg2; rw [upd_N _ _ hj62, updF_posOf _ _ HCT.out, show (fN (posOf way) (.int .i64 (j : Int))).isSome = false from by (rw [fN_at _ _ hj62, posOf_out HCT.out]; rfl)] at hm2; have hown2 := hown.kept hg2 (hown.ne (by omega)); have hs2 := hg2.size)
                  | (at_builtin; refine wpList_append_N rfl (.tmp 55) (.tmp 57) rfl rfl rfl (hown2.old ((Below.refl _ _).alloc (Nat.le_refl _) _) (Nat.le_refl _)) ((Blk.new w2 #[Z j] _).at rfl) hl1 (by simp; omega) ?_; intro g1 cap1 w3 hown3 hg3 hat3))
                have hs3 := hg3.size
                simp only [World.size_alloc] at hs3
                have hm3 : MapIs w3 3 St (way.length + 1) (fN (posOf (way ++ [j]))) := (hm2.alloc (.cells #[Z j] 3)).kept hg3 (fun e => by have := HB3.out _ e.symm; omega)
                have hb3 : Below St wt w3 := ((hbr.trans (below_grown hg2 (fun r e => by cases e; omega) (by omega))).alloc (by omega) _).trans (below_grown hg3 (fun r e => by have := HB3.out _ e; omega) (by simp; omega))
                have hs30 : St + 1 ≤ w3.heap.size := by omega
                have hset3 := hst.below hb3 (by omega) (by omega)
                have hg30 := (hgr5.below hbl (by omega) (Nat.le_refl _)).below hb3 (by omega) (Nat.le_refl _)
                obtain ⟨nb, no, ncp, hne, _, _, hnbK, hnc⟩ := hg30.1.pos (by omega)
                simp only [Value.slice.injEq, true_and] at hne
                obtain ⟨rfl, rfl⟩ := hne
                have s0 := hnc j hjn
                have hsl : ((names p)[j]?.getD []).length ≤ maxLen := hg30.1.len
                have HGD : Hid (deps p ((names p)[j]?.getD []) = gD p j) := Lib.hid rfl
                obtain ⟨sz, hsz⟩ : ∃ sz, (names p)[j]?.getD [] = sz := ⟨_, rfl⟩
                rw [hsz] at s0 hsl HGD
                have qr := (q5.below hbl (by omega)).below hb3 (by omega)
                have hnl : nb < w3.heap.size := by omega
                have HX : Hid (∃ i ∈ gD p j, T.contains i = false) := Lib.hid (by rw [← HT.out]; exact untaken_dep HWY.out.ilt HWY.out.inot)
                have HNX : Hid (((gD p j).find? fun d => !T.contains d).getD 0 = firstU (gD p) (taken (names p).length (gD p)) j) := Lib.hid (by rw [← HT.out]; rfl)
                clear hsz hnc hbr hown hown2 hm2 hlo
                refine wp_onlyN ?_
                refine region_plain (fun W' => Below w3.heap.size w3 W') [] (by kernel_rfl) ?_
                have qQ : (fun W' => Below w3.heap.size w3 W') w3.drew := ⟨rfl, rfl, rfl, Nat.le_refl _, fun _ _ => rfl⟩
                refine wpAnyD_takeC [] (i := 0) (v := .func (.func 40) #[] #[.pointer (some ⟨G + 2, 0, none⟩)]) rfl (by kernel_rfl) (by kernel_rfl) (by kernel_rfl) (by kernel_rfl) (by kernel_rfl) (by kernel_rfl) (fun _ _ _ h => h) (.inl ⟨by kernel_rfl, fun W' hS => by go_simp⟩) qQ ?_
                refine wpAnyD_takeC [] (i := 1) (v := .pointer (some ⟨G, 1, none⟩)) rfl (by kernel_rfl) (by kernel_rfl) (by kernel_rfl) (by kernel_rfl) (by kernel_rfl) (by kernel_rfl) (fun _ _ _ h => h) (.inl ⟨by kernel_rfl, fun W' hS => by go_simp⟩) qQ ?_
                refine wpAnyD_takeC [] (i := 2) (v := .map (some b)) rfl (by kernel_rfl) (by kernel_rfl) (by kernel_rfl) (by kernel_rfl) (by kernel_rfl) (by kernel_rfl) (fun _ _ _ h => h) (.inl ⟨by kernel_rfl, fun W' hS => by have d := (qr.below hS qr.lt).two.2; go_simp⟩) qQ ?_
                refine wpAnyD_takeC [] (i := 3) (v := .pointer (some ⟨G, 0, none⟩)) rfl (by kernel_rfl) (by kernel_rfl) (by kernel_rfl) (by kernel_rfl) (by kernel_rfl) (by kernel_rfl) (fun _ _ _ h => h) (.inl ⟨by kernel_rfl, fun W' hS => by go_simp⟩) qQ ?_
                refine wpAnyD_takeC [] (i := 4) (v := .slice (some ⟨nb, no, none⟩) (names p).length ncap) rfl (by kernel_rfl) (by kernel_rfl) (by kernel_rfl) (by kernel_rfl) (by kernel_rfl) (by kernel_rfl) (fun _ _ _ h => h) (.inl ⟨by kernel_rfl, fun W' hS => by have d := (qr.below hS qr.lt).two.1; go_simp⟩) qQ ?_
                refine wpAnyD_takeC [] (i := 5) (v := .int .i64 j) rfl (by kernel_rfl) (by kernel_rfl) (by kernel_rfl) (by kernel_rfl) (by kernel_rfl) (by kernel_rfl) (fun _ _ _ h => h) (.inl ⟨by kernel_rfl, fun W' hS => by go_simp⟩) qQ ?_
                refine wpAnyD_takeC [] (i := 6) (v := .pointer (some ⟨nb, no + j, none⟩)) rfl (by kernel_rfl) (by kernel_rfl) (by kernel_rfl) (by kernel_rfl) (by kernel_rfl) (by kernel_rfl) (fun _ _ _ h => h) (.inl ⟨by kernel_rfl, fun W' hS => by go_simp⟩) qQ ?_
                refine wpAnyD_takeC [] (i := 7) (v := S sz) rfl (by kernel_rfl) (by kernel_rfl) (by kernel_rfl) (by kernel_rfl) (by kernel_rfl) (by kernel_rfl) (fun _ _ _ h => h) (.inl ⟨by kernel_rfl, fun W' hS => by have d := (hS.cell (p := ⟨nb, no + j, none⟩) hnl).trans s0; go_simp⟩) qQ ?_
                obtain ⟨va, hla, hnv⟩ := (hg30.below qQ (by omega) (Nat.le_refl _)).look sz hsl
                rw [HGD.out] at hnv
                obtain ⟨a2, c2, rfl, _, _⟩ := hnv.form
                have hfst := first_any _ _ (gD p j) T (G + 2) (G + 1) w3.drew hnv (hset3.below qQ (by omega) (by omega)) (fun i hi => by have : i < (names p).length := deps_lt i hi; omega) HX.out
                rw [HNX.out] at hfst
                refine wpAnyD_one (i := 8) (by kernel_rfl) rfl (by kernel_rfl) ?_
                go_simp
                refine wpAnyD_one (i := 9) (by kernel_rfl) rfl (by kernel_rfl) ?_
                go_simp
                refine hfst.mono ?_
                clear hfst hla
                rintro e w9 ⟨rfl, rfl⟩
                go_simp
                refine wpAnyD_one (i := 10) (by kernel_rfl) rfl (by kernel_rfl) ?_
                go_simp
                refine wpAnyD_done (by kernel_rfl) ?_ _
                refine onlyN_mk ?_
                go_simp
                have hm4 : MapIs w3.drew 3 St (way ++ [j]).length (fN (posOf (way ++ [j]))) := by
                  rw [List.length_append, List.length_singleton]
                  exact hm3.below qQ (by omega)
                go_wp2_with fail
                exact ⟨⟨way ++ [j], _, by go_num, hm4, hown3.old qQ (Nat.le_refl _), hb3.trans (qQ.mono (by omega)), hs30, HST⟩, by dsimp only; omega⟩
end Go.Proofs.Ythbnbjigmgoldaa
