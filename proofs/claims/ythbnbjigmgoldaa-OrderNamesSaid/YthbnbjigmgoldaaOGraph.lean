/- Package order: newGraph. No conditions beyond the readings of the arguments. -/
import Derived.Test.YthbnbjigmgoldaaOGraph0
namespace Go.Proofs.Ythbnbjigmgoldaa
open Go.RowKit
set_option linter.unusedVariables false

set_option maxRecDepth 100000 in
set_option maxHeartbeats 2000000 in
theorem graph_any (K : Nat) (p : Pl) (nm : ByteArray) (vd vt vc : Value) (w : World) (h : PlanIs K w vd vc p) (hK : K ≤ w.heap.size) (hbig : p.size ≤ 2 ^ 38) :
    Calls Try.prog 30 #[.agg #[.string nm, vd, vt, vc]] w fun e w' => ∃ nv b, e = .returned (.agg #[nv, .map (some b)]) ∧ GraphIs w'.heap.size w' nv b (names p) (deps p) ∧ Below w.heap.size w w' := by
  obtain ⟨hdf, hcl⟩ := h
  obtain ⟨p0, hp0⟩ : ∃ p0, p = p0 := ⟨_, rfl⟩
  obtain ⟨ds, cs⟩ := p
  dsimp only at hdf hcl
  have hdl : ds.length ≤ 2 ^ 38 ∧ cs.length ≤ 2 ^ 38 ∧ clSize cs ≤ 2 ^ 38 := by unfold Pl.size at hbig; dsimp only at hbig; omega
  obtain ⟨dg, hdg, hdgi⟩ := id hdf
  obtain ⟨da, dcap, rfl, _⟩ := id hdg
  obtain ⟨cg, hcg, hcgi⟩ := id hcl
  obtain ⟨ca, ccap, rfl, _, hcm, _⟩ := id hcg
  obtain ⟨B0, hB0⟩ : ∃ B0, w.heap.size = B0 := ⟨_, rfl⟩
  obtain ⟨W1, hW1⟩ : ∃ W1, (w.alloc (.cells #[.string nm, .slice da ds.length dcap, vt, .slice ca cs.length ccap] 26)).alloc (.cells #[.slice none 0 0, .map none] 66) = W1 := ⟨_, rfl⟩
  have HDL := Lib.hid hdl
  have HP0 := Lib.hid hp0
  have hb1 : Below B0 w W1 := by rw [← hW1, ← hB0]; exact ((Below.refl _ w).alloc (Nat.le_refl _) _).alloc (by simp) _
  have hs1 : W1.heap.size = B0 + 2 := by rw [← hW1, ← hB0]; simp
  have q0 : Blk W1 B0 #[.string nm, .slice da ds.length dcap, vt, .slice ca cs.length ccap] 26 := by
    rw [← hW1, ← hB0]; exact (Blk.new w _ _).alloc _
  have q1 : Blk W1 (B0 + 1) #[.slice none 0 0, .map none] 66 := by
    rw [← hW1, ← hB0]
    have := Blk.new (w.alloc (.cells #[.string nm, .slice da ds.length dcap, vt, .slice ca cs.length ccap] 26)) #[.slice none 0 0, .map none] 66
    rwa [World.size_alloc] at this
  rw [hB0] at hK
  have hnc := names_any K ⟨ds, cs⟩ nm (.slice da ds.length dcap) vt (.slice ca cs.length ccap) W1 (hdf.below hb1 hK (Nat.le_refl _)) (by omega) (by dsimp only; omega)
  obtain ⟨ns, hns⟩ : ∃ ns, names ⟨ds, cs⟩ = ns := ⟨_, rfl⟩
  rw [hns] at hnc
  have hmm := @run_makeMap Try.prog
  have HB := Lib.hid hB0
  have HW := Lib.hid hW1
  have HNS := Lib.hid hns
  have hnl : Hid (ns.length ≤ 2 ^ 38) := Lib.hid (by rw [← hns]; have := names_length ⟨ds, cs⟩; dsimp only at this; omega)
  clear hB0 hW1 hns hdg hdgi hdf hdl hp0 hbig
  go_enter Try.func30, Try.ntmps30
  go_wp2_with fail
  simp only [HB.out]
  rw [HW.out]
  refine hnc.mono ?_
  rintro e w2 ⟨nv, rfl, hown, hb2⟩
  have P0 := q0.below hb2 (by omega)
  have P1 := q1.below hb2 (by omega)
  have hs2 := hb2.size
  obtain ⟨na, ncap, rfl, hnl1, hnl2⟩ := hown.form
  obtain ⟨f0, f1, f2, f3⟩ := P0.four
  clear hnc q0 q1
  go_wp2_with fail
  obtain ⟨W3, hW3⟩ : ∃ W3, ((w2.alloc (.map #[] 0)).alloc (.cells #[.slice na ns.length ncap, .map (some w2.heap.size)] 66)).alloc (.map #[] 0) = W3 := ⟨_, rfl⟩
  rw [hW3]
  have hb3 : Below w2.heap.size w2 W3 := by rw [← hW3]; exact (((Below.refl _ w2).alloc (Nat.le_refl _) _).alloc (by simp) _).alloc (by simp; omega) _
  have hs3 : W3.heap.size = w2.heap.size + 3 := by rw [← hW3]; simp
  have m1 : MapIs W3 9 w2.heap.size 0 (fS fun _ => none) := by
    rw [← hW3, ← fS_none]; exact ((MapIs.made w2 9).alloc _).alloc _
  have qg : Blk W3 (w2.heap.size + 1) #[.slice na ns.length ncap, .map (some w2.heap.size)] 66 := by
    rw [← hW3]
    have := Blk.new (w2.alloc (.map #[] 0)) #[.slice na ns.length ncap, .map (some w2.heap.size)] 66
    rw [World.size_alloc] at this
    exact this.alloc _
  have m2 : MapIs W3 9 (w2.heap.size + 2) 0 (fS (numI ns 0)) := by
    rw [← hW3, numI_zero, ← fS_none]
    have := MapIs.made ((w2.alloc (.map #[] 0)).alloc (.cells #[.slice na ns.length ncap, .map (some w2.heap.size)] 66)) 9
    rwa [World.size_alloc, World.size_alloc] at this
  have hst := hown.strs
  obtain ⟨B2, hB2⟩ : ∃ B2, w2.heap.size = B2 := ⟨_, rfl⟩
  simp only [hB2, Nat.add_assoc, Nat.reduceAdd] at hb3 hs3 m1 qg m2 hst hs2 ⊢
  have HB2 := Lib.hid hB2
  clear hW3 f0 f1 f2 f3 hB2
  have hnd : Hid ns.Nodup := Lib.hid (HNS.out ▸ names_nodup _)
  go_loopw [27] (fun i wr => ∃ k : Nat, k ≤ ns.length ∧ i = .int .i64 k ∧ MapIs wr 9 (B2 + 2) k (fS (numI ns k)) ∧ MapIs wr 9 B2 0 (fS fun _ => none) ∧ Blk wr (B2 + 1) #[.slice na ns.length ncap, .map (some B2)] 66 ∧ Below B2 w2 wr ∧ B2 + 3 ≤ wr.heap.size) (fun i _ => ns.length - (intOf i).toNat)
  case atStart => exact ⟨0, Nat.zero_le _, rfl, m2, m1, qg, hb3, by omega⟩
  case round =>
    obtain ⟨k, hk, rfl, hm2, hm1, hqg, hbr, hsr⟩ := hrel
    unfold maxLen at hnl2
    by_cases hlt : k < ns.length
    · obtain ⟨b, o, cap, he, _, _, hbK, hc⟩ := hst.pos (by omega)
      simp only [Value.slice.injEq, true_and] at he
      obtain ⟨rfl, rfl⟩ := he
      have c0 := (hbr.cell (p := ⟨b, o + k, none⟩) hbK).trans (hc k hlt)
      have hsl : (ns[k]?.getD []).length ≤ maxLen := hst.len
      have hout := numI_out ns hnd.out k hlt
      have hsucc := numI_succ ns hnd.out k hlt
      obtain ⟨s, hs⟩ : ∃ s, ns[k]?.getD [] = s := ⟨_, rfl⟩
      rw [hs] at c0 hsl hout hsucc
      have HO := Lib.hid hout
      have HS := Lib.hid hsucc
      have HM := Lib.hid hm2
      have hml : k < maxLen := by have := hnl.out; unfold maxLen; omega
      clear hs hc hout hsucc hm2
      go_wp2_with (at_mapUpdate; refine wpList_put_M _ rfl _ _ _ 53 rfl _ keyS Try.underlying53 rfl HM.out hml _ (.string s) rfl (keyOf_S s hsl) (Z k) rfl ?_; intro w4 hm4 hg4)
      refine ⟨⟨k + 1, by omega, by go_num, ?_, hm1.kept hg4 (by simp), hqg.kept hg4 (by simp), hbr.trans (below_grown hg4 (fun r e => by cases e; omega) (by omega)), Nat.le_trans hsr hg4.size⟩, by simp [intOf]; omega⟩
      rw [upd_S, HS.out, show (fS (numI ns k) (.string s)).isSome = false by show (numI ns k s).isSome = false; rw [HO.out]; rfl] at hm4
      exact hm4
    · obtain rfl : k = ns.length := by omega
      have p0' := P0.below hbr (by omega)
      have p1' := P1.below hbr (by omega)
      obtain ⟨f0, f1, f2, f3⟩ := p0'.four
      rw [numI_all] at hm2
      go_wp2_with fail
      have hgr : Gr (B2 + 3) B2 (B2 + 2) (B2 + 1) 0 ns (.slice na ns.length ncap) (Fk ns cs 0) (fun _ => .slice none 0 0) B2 w2 wr := by
        refine ⟨?_, fun s' l h => (by rw [Fk_zero] at h; cases h), (by intro s s' h; rw [Fk_zero] at h; cases h), hqg, hm2, ?_, hsr, by omega, by omega, by omega, by omega, by omega, by omega⟩
        · have : rowV (Fk ns cs 0) (fun _ => .slice none 0 0) = fun _ => none := by funext s; rw [Fk_zero]; rfl
          rw [this]; exact hm1
        · exact hbr
      have HP1 := Lib.hid P1
      have hW2 : ∀ W, Below B2 w2 W → Below B0 w W := fun W h => (hb1.trans (hb2.mono (by omega))).trans (h.mono (by omega))
      clear hm1 hm2 hqg f0 f1 f2 f3 P0 P1 p0' p1' hcl
      have hcm : cs.length ≤ maxLen := by have := HDL.out; unfold maxLen; omega
      obtain ⟨wo, rfl⟩ : ∃ wo : World, wo = wr := ⟨_, rfl⟩
      unfold maxLen at hcm
      go_loopw [39] (fun i wr => ∃ (k m : Nat) (V : Str → Value), k ≤ cs.length ∧ m ≤ k ∧ i = .int .i64 k ∧ Gr (B2 + 3) B2 (B2 + 2) (B2 + 1) m ns (.slice na ns.length ncap) (Fk ns cs k) V B2 w2 wr) (fun i _ => cs.length - (intOf i).toNat)
      case atStart => exact ⟨0, 0, _, Nat.zero_le _, Nat.le_refl _, rfl, hgr⟩
      case round =>
        obtain ⟨k, m, V, hk, hmk, rfl, hgk⟩ := hrel
        by_cases hlt : k < cs.length
        · obtain ⟨b, o, cap, he, _, _, hbK, hc⟩ := hcg.pos (by omega)
          simp only [Value.slice.injEq, true_and] at he
          obtain ⟨rfl, rfl⟩ := he
          have hcc := cl_range (cells_below (hW2 _ hgk.bel) (Nat.lt_of_lt_of_le hbK hK) hc) hlt
          obtain ⟨x, hx⟩ : ∃ x, cs[k]? = some x := ⟨_, List.getElem?_eq_getElem hlt⟩
          have hxx := hcgi k x hx
          obtain ⟨c, hcd⟩ : ∃ c, cg k = c := ⟨_, rfl⟩
          rw [hcd] at hcc hxx
          obtain ⟨hxn, hxl, hxw, hxt⟩ := hxx
          have hsl : c.nm.length ≤ maxLen := by rw [hxn]; exact hxl
          have hblc : Below wr.heap.size wr (wr.alloc (.cells c.cl.toArray 56)) := (Below.refl _ wr).alloc (Nat.le_refl _) _
          have hgl := hgk.old hblc
          have hqc := Blk.new wr c.cl.toArray 56
          obtain ⟨g0, g1⟩ := hgl.box.two
          obtain ⟨la, lcap, hlv, hll, hlm⟩ := (hgl.row c.nm).form
          have HLV := Lib.hid hlv
          have HX := Lib.hid hx
          have HXN := Lib.hid hxn
          clear hc hcd hx hxn hlv
          have n0 : (wr.alloc (.cells c.cl.toArray 56)).cell? ⟨wr.heap.size, 0, none⟩ = some (S c.nm) := hqc.at (by rw [List.getElem?_toArray]; exact c.cl_at (by omega))
          obtain ⟨xr1, xr2⟩ := ex_range _ _ c hqc
          go_wp2_with (first
            | (refine wpList_load_mid rfl 56 (.tmp 41) rfl b (o + k * 24) rfl c.cl _ hcc Try.underlying56 rfl (infoCl' c) ?_)
            | (refine wpList_store_cl rfl (.tmp 8) (.tmp 42) rfl c _ (by rfl) rfl rfl ?_)
            | (at_lookup; refine wpList_look_M _ rfl _ _ 64 rfl _ keyS Try.underlying64 (Try.zeroValue68 _) rfl hgl.map _ (.string c.nm) rfl (keyOf_S c.nm hsl) (.slice la (atL (Fk ns cs k) c.nm).length lcap) HLV.out ?_)
            | (refine wpList_load_mid rfl 45 (.tmp 48) rfl wr.heap.size 6 rfl c.wh.cells.toList _ xr1 Try.underlying45 rfl infoEx ?_)
            | (refine wpList_load_mid rfl 45 (.tmp 50) rfl wr.heap.size 15 rfl c.th.cells.toList _ xr2 Try.underlying45 rfl infoEx ?_))
          obtain ⟨L0, hL0⟩ : ∃ L0, atL (Fk ns cs k) c.nm = L0 := ⟨_, rfl⟩
          have hmid := hgl.mid c.nm
          have hlv' : atV (Fk ns cs k) V c.nm = .slice la L0.length lcap := by rw [← hL0]; exact HLV.out
          rw [hlv', hL0] at hmid
          rw [hL0] at hll ⊢
          obtain ⟨W4, hW4⟩ : ∃ W4, wr.alloc (.cells c.cl.toArray 56) = W4 := ⟨_, rfl⟩
          rw [hW4] at hmid hqc ⊢
          obtain ⟨cb, hcb⟩ : ∃ cb, wr.heap.size = cb := ⟨_, rfl⟩
          rw [hcb] at hqc ⊢
          have hL0' : L0 = rawL ns (cs.take k) c.nm := by rw [← hL0, Fk_at]
          have hL0l : L0.length ≤ 2 ^ 38 := by rw [hL0']; have := rawL_length ns (cs.take k) c.nm; have := clSize_take_le cs k; have := HDL.out; omega
          have hpl : x.wh.parts + x.th.parts ≤ 2 ^ 38 := by have := parts_le_clSize (List.mem_of_getElem? HX.out); have := HDL.out; omega
          have HPL := Lib.hid hpl
          have HL0 := Lib.hid hL0'
          have HL0L := Lib.hid hL0l
          have hdist := hgk.dist
          have hsr2 := hgk.big
          clear hL0 hlv' hW4 hcb n0 xr1 xr2 hcc hblc hgl g0 g1 hL0' hL0l hpl HLV hlm hll
          go_loopw [9, 53] (fun lv j wi => ∃ cur, ((j = .int .i64 0 ∧ cur = L0) ∨ (j = .int .i64 1 ∧ cur = L0 ++ nums ns x.wh) ∨ (j = .int .i64 2 ∧ cur = L0 ++ rawC ns x)) ∧ Mid (B2 + 3) B2 (B2 + 2) (B2 + 1) m ns (.slice na ns.length ncap) (Fk ns cs k) V c.nm B2 w2 lv cur wi ∧ Blk wi cb c.cl.toArray 56) (fun _ j _ => (2 - intOf j).toNat)
          case atStart => exact ⟨L0, .inl ⟨rfl, rfl⟩, hmid, hqc⟩
          case round =>
            obtain ⟨cur, hcase, hmi, hbi⟩ := hrel
            obtain ⟨wi, rfl⟩ : ∃ wi : World, wi = wr := ⟨_, rfl⟩
            rcases hcase with ⟨rfl, hcur⟩ | ⟨rfl, hcur⟩ | ⟨rfl, hcur⟩
            -- rounds
            · have ix : ∀ w, (Instr.index 84 (.agg #[.int .u8 c.wh.op, S c.wh.nm, .int .u8 c.wh.kd, .bool c.wh.b3, .slice c.wh.s4.a c.wh.s4.n c.wh.s4.m, .bool c.wh.b5, .slice c.wh.s6.a c.wh.s6.n c.wh.s6.m, .int .i64 c.wh.i7, .slice c.wh.s8.a c.wh.s8.n c.wh.s8.m,
                  .int .u8 c.th.op, S c.th.nm, .int .u8 c.th.kd, .bool c.th.b3, .slice c.th.s4.a c.th.s4.n c.th.s4.m, .bool c.th.b5, .slice c.th.s6.a c.th.s6.n c.th.s6.m, .int .i64 c.th.i7, .slice c.th.s8.a c.th.s8.n c.th.s8.m]) (.int .i64 0)).run Try.prog w = .ok c.wh.agg w := fun _ => by kernel_rfl
              obtain ⟨la1, lc1, rfl, _, _⟩ := hmi.row.form
              have hcurl : cur.length ≤ 2 ^ 39 := by rw [hcur]; have := HL0L.out; have := HPL.out; have := nums_length ns x.wh; (try simp only [List.length_append]); omega
              have HCUR := Lib.hid hcur
              have HCURL := Lib.hid hcurl
              clear hcur hcurl
              have hbe : Below wi.heap.size wi (wi.alloc (.cells c.wh.cells 45)) := (Below.refl _ wi).alloc (Nat.le_refl _) _
              have hmi2 := hmi.old hbe
              have hrefs := refs_any K x.wh c.wh (wi.alloc (.cells c.wh.cells 45)) (hxw.below (hW2 _ hmi2.bel) hK (Nat.le_refl _)) (by have := hmi2.big; omega) (by have := HPL.out; omega)
              go_wp2_with fail
              refine hrefs.mono ?_
              rintro e w5 ⟨rv, rfl, hrown, hb5⟩
              have hmi5 := hmi2.old hb5
              have hrown := hrown.mono (Nat.zero_le _)
              have hrl : (refs x.wh).length ≤ 2 ^ 38 := by have := refs_length x.wh; have := HPL.out; unfold Ex.parts at this; omega
              have hbi5 : Blk w5 cb c.cl.toArray 56 := (hbi.alloc _).below hb5 (hbi.alloc _).lt
              obtain ⟨ra, rc, rfl, hr1, hr2⟩ := hrown.form
              have HR : Hid (nums ns x.wh = (refs x.wh).filterMap (numOf ns)) := rfl
              obtain ⟨rl, hrle⟩ : ∃ rl, refs x.wh = rl := ⟨_, rfl⟩
              rw [hrle] at HR hrown hrl hr1 ⊢
              have HRL := Lib.hid hrl
              clear ix hrefs hmi hmi2 hbe hrle hrl hbi hb5
              unfold maxLen at hr2
              go_wp2_with fail
              go_loopw [9, 59] (fun lv q wq => ∃ qn : Nat, qn ≤ rl.length ∧ q = .int .i64 qn ∧ Mid (B2 + 3) B2 (B2 + 2) (B2 + 1) m ns (.slice na ns.length ncap) (Fk ns cs k) V c.nm B2 w2 lv (cur ++ (rl.take qn).filterMap (numOf ns)) wq ∧ Blk wq cb c.cl.toArray 56 ∧ OwnS 0 wq (.slice ra rl.length rc) rl) (fun _ q _ => rl.length - (intOf q).toNat)
              case atStart => exact ⟨0, Nat.zero_le _, rfl, by simpa using hmi5, hbi5, hrown⟩
              case round =>
                obtain ⟨qn, hqn, rfl, hmq, hb4q, hsq⟩ := hrel
                obtain ⟨wq, rfl⟩ : ∃ wq : World, wq = wr := ⟨_, rfl⟩
                by_cases hql : qn < rl.length
                · obtain ⟨rb, ro, rcp, hre, _, _, hrbK, hrc⟩ := hsq.strs.pos (by omega)
                  simp only [Value.slice.injEq, true_and] at hre
                  obtain ⟨rfl, rfl⟩ := hre
                  have r0 := hrc qn hql
                  have hts := take_str rl qn hql
                  have hrn : (rl[qn]?.getD []).length ≤ maxLen := hsq.strs.len
                  obtain ⟨r, hr⟩ : ∃ r, rl[qn]?.getD [] = r := ⟨_, rfl⟩
                  rw [hr] at r0 hts hrn
                  have HTS := Lib.hid hts
                  have hnum := hmq.num
                  have HNUM := Lib.hid hnum
                  have hcl2 : (cur ++ (rl.take qn).filterMap (numOf ns)).length + 1 ≤ 2 ^ 40 := by
                    rw [List.length_append]
                    have h1 := List.length_filterMap_le (numOf ns) (rl.take qn)
                    rw [List.length_take] at h1
                    have := HCURL.out; have := HRL.out; omega
                  obtain ⟨cq, hcq⟩ : ∃ cq, cur ++ (rl.take qn).filterMap (numOf ns) = cq := ⟨_, rfl⟩
                  rw [hcq] at hmq hcl2
                  have HCQ := Lib.hid hcq
                  obtain ⟨lq, lqc, rfl, _, _⟩ := hmq.row.form
                  have HCL2 := Lib.hid hcl2
                  clear hr hts hrc hnum hcq hcl2
                  cases hno : numOf ns r with
                  | none =>
                    have hst : Hid (cur ++ (rl.take (qn + 1)).filterMap (numOf ns) = cq) := Lib.hid (by rw [HTS.out, List.filterMap_append, ← HCQ.out]; simp [hno])
                    have hv1 : Hid ((fS (numV ns) (.string r)).getD (.int .i64 0) = .int .i64 0) := Lib.hid (by rw [numV_get, hno]; rfl)
                    have hv2 : Hid ((fS (numV ns) (.string r)).isSome = false) := Lib.hid (by rw [numV_get, hno]; rfl)
                    clear hno
                    go_wp2_with (at_lookup; refine wpList_lookOk_M _ rfl _ _ 53 rfl _ keyS Try.underlying53 (Try.zeroValue3 _) rfl HNUM.out _ (.string r) rfl (keyOf_S r hrn) (.int .i64 0) false hv1.out hv2.out ?_)
                    refine ⟨⟨qn + 1, by omega, by go_num, by rw [hst.out]; exact hmq, hb4q, hsq⟩, by simp [intOf]; omega⟩
                  | some z =>
                    have hst : Hid (cur ++ (rl.take (qn + 1)).filterMap (numOf ns) = cq ++ [z]) := Lib.hid (by rw [HTS.out, List.filterMap_append, ← HCQ.out]; simp [hno])
                    have hv1 : Hid ((fS (numV ns) (.string r)).getD (.int .i64 0) = Z z) := Lib.hid (by rw [numV_get, hno]; rfl)
                    have hv2 : Hid ((fS (numV ns) (.string r)).isSome = true) := Lib.hid (by rw [numV_get, hno]; rfl)
                    clear hno
                    have hrowq := hmq.row
                    have hqbig := hmq.big
                    go_wp2_with (first
                      | (at_lookup; refine wpList_lookOk_M _ rfl _ _ 53 rfl _ keyS Try.underlying53 (Try.zeroValue3 _) rfl HNUM.out _ (.string r) rfl (keyOf_S r hrn) (Z z) true hv1.out hv2.out ?_)
                      | (at_builtin; refine wpList_append_N rfl (.tmp 70) (.tmp 72) rfl rfl rfl (hrowq.old ((Below.refl _ _).alloc (Nat.le_refl _) _) (Nat.le_refl _)) ((Blk.new wq #[Z z] _).at rfl) HCL2.out (by simp; omega) ?_; intro g1 cap1 w6 hown6 hg6 hat6))
                    have hba : Below wq.heap.size wq (wq.alloc (.cells #[Z z] 3)) := (Below.refl _ wq).alloc (Nat.le_refl _) _
                    have hmq2 := (hmq.old hba).push hg6 hown6 hat6
                    refine ⟨⟨qn + 1, by omega, by go_num, by rw [hst.out]; exact hmq2, ?_, ?_⟩, by simp [intOf]; omega⟩
                    · exact (hb4q.alloc _).kept hg6 (blk_ne_row hb4q hrowq (by decide))
                    · exact (hsq.old hba (Nat.le_refl _)).kept hg6 (rows_ne hsq.1 hrowq (by decide))
                · obtain rfl : qn = rl.length := by omega
                  rw [List.take_length] at hmq
                  go_wp2_with fail
                  refine ⟨⟨cur ++ nums ns x.wh, .inr (.inl ⟨rfl, by rw [HCUR.out]⟩), ?_, hb4q⟩, by simp [intOf]⟩
                  rw [HR.out]; exact hmq
            · have ix : ∀ w, (Instr.index 84 (.agg #[.int .u8 c.wh.op, S c.wh.nm, .int .u8 c.wh.kd, .bool c.wh.b3, .slice c.wh.s4.a c.wh.s4.n c.wh.s4.m, .bool c.wh.b5, .slice c.wh.s6.a c.wh.s6.n c.wh.s6.m, .int .i64 c.wh.i7, .slice c.wh.s8.a c.wh.s8.n c.wh.s8.m,
                  .int .u8 c.th.op, S c.th.nm, .int .u8 c.th.kd, .bool c.th.b3, .slice c.th.s4.a c.th.s4.n c.th.s4.m, .bool c.th.b5, .slice c.th.s6.a c.th.s6.n c.th.s6.m, .int .i64 c.th.i7, .slice c.th.s8.a c.th.s8.n c.th.s8.m]) (.int .i64 1)).run Try.prog w = .ok c.th.agg w := fun _ => by kernel_rfl
              obtain ⟨la1, lc1, rfl, _, _⟩ := hmi.row.form
              have hcurl : cur.length ≤ 2 ^ 39 := by rw [hcur]; have := HL0L.out; have := HPL.out; have := nums_length ns x.wh; (try simp only [List.length_append]); omega
              have HCUR := Lib.hid hcur
              have HCURL := Lib.hid hcurl
              clear hcur hcurl
              have hbe : Below wi.heap.size wi (wi.alloc (.cells c.th.cells 45)) := (Below.refl _ wi).alloc (Nat.le_refl _) _
              have hmi2 := hmi.old hbe
              have hrefs := refs_any K x.th c.th (wi.alloc (.cells c.th.cells 45)) (hxt.below (hW2 _ hmi2.bel) hK (Nat.le_refl _)) (by have := hmi2.big; omega) (by have := HPL.out; omega)
              go_wp2_with fail
              refine hrefs.mono ?_
              rintro e w5 ⟨rv, rfl, hrown, hb5⟩
              have hmi5 := hmi2.old hb5
              have hrown := hrown.mono (Nat.zero_le _)
              have hrl : (refs x.th).length ≤ 2 ^ 38 := by have := refs_length x.th; have := HPL.out; unfold Ex.parts at this; omega
              have hbi5 : Blk w5 cb c.cl.toArray 56 := (hbi.alloc _).below hb5 (hbi.alloc _).lt
              obtain ⟨ra, rc, rfl, hr1, hr2⟩ := hrown.form
              have HR : Hid (nums ns x.th = (refs x.th).filterMap (numOf ns)) := rfl
              obtain ⟨rl, hrle⟩ : ∃ rl, refs x.th = rl := ⟨_, rfl⟩
              rw [hrle] at HR hrown hrl hr1 ⊢
              have HRL := Lib.hid hrl
              clear ix hrefs hmi hmi2 hbe hrle hrl hbi hb5
              unfold maxLen at hr2
              go_wp2_with fail
              go_loopw [9, 59] (fun lv q wq => ∃ qn : Nat, qn ≤ rl.length ∧ q = .int .i64 qn ∧ Mid (B2 + 3) B2 (B2 + 2) (B2 + 1) m ns (.slice na ns.length ncap) (Fk ns cs k) V c.nm B2 w2 lv (cur ++ (rl.take qn).filterMap (numOf ns)) wq ∧ Blk wq cb c.cl.toArray 56 ∧ OwnS 0 wq (.slice ra rl.length rc) rl) (fun _ q _ => rl.length - (intOf q).toNat)
              case atStart => exact ⟨0, Nat.zero_le _, rfl, by simpa using hmi5, hbi5, hrown⟩
              case round =>
                obtain ⟨qn, hqn, rfl, hmq, hb4q, hsq⟩ := hrel
                obtain ⟨wq, rfl⟩ : ∃ wq : World, wq = wr := ⟨_, rfl⟩
                by_cases hql : qn < rl.length
                · obtain ⟨rb, ro, rcp, hre, _, _, hrbK, hrc⟩ := hsq.strs.pos (by omega)
                  simp only [Value.slice.injEq, true_and] at hre
                  obtain ⟨rfl, rfl⟩ := hre
                  have r0 := hrc qn hql
                  have hts := take_str rl qn hql
                  have hrn : (rl[qn]?.getD []).length ≤ maxLen := hsq.strs.len
                  obtain ⟨r, hr⟩ : ∃ r, rl[qn]?.getD [] = r := ⟨_, rfl⟩
                  rw [hr] at r0 hts hrn
                  have HTS := Lib.hid hts
                  have hnum := hmq.num
                  have HNUM := Lib.hid hnum
                  have hcl2 : (cur ++ (rl.take qn).filterMap (numOf ns)).length + 1 ≤ 2 ^ 40 := by
                    rw [List.length_append]
                    have h1 := List.length_filterMap_le (numOf ns) (rl.take qn)
                    rw [List.length_take] at h1
                    have := HCURL.out; have := HRL.out; omega
                  obtain ⟨cq, hcq⟩ : ∃ cq, cur ++ (rl.take qn).filterMap (numOf ns) = cq := ⟨_, rfl⟩
                  rw [hcq] at hmq hcl2
                  have HCQ := Lib.hid hcq
                  obtain ⟨lq, lqc, rfl, _, _⟩ := hmq.row.form
                  have HCL2 := Lib.hid hcl2
                  clear hr hts hrc hnum hcq hcl2
                  cases hno : numOf ns r with
                  | none =>
                    have hst : Hid (cur ++ (rl.take (qn + 1)).filterMap (numOf ns) = cq) := Lib.hid (by rw [HTS.out, List.filterMap_append, ← HCQ.out]; simp [hno])
                    have hv1 : Hid ((fS (numV ns) (.string r)).getD (.int .i64 0) = .int .i64 0) := Lib.hid (by rw [numV_get, hno]; rfl)
                    have hv2 : Hid ((fS (numV ns) (.string r)).isSome = false) := Lib.hid (by rw [numV_get, hno]; rfl)
                    clear hno
                    go_wp2_with (at_lookup; refine wpList_lookOk_M _ rfl _ _ 53 rfl _ keyS Try.underlying53 (Try.zeroValue3 _) rfl HNUM.out _ (.string r) rfl (keyOf_S r hrn) (.int .i64 0) false hv1.out hv2.out ?_)
                    refine ⟨⟨qn + 1, by omega, by go_num, by rw [hst.out]; exact hmq, hb4q, hsq⟩, by simp [intOf]; omega⟩
                  | some z =>
                    have hst : Hid (cur ++ (rl.take (qn + 1)).filterMap (numOf ns) = cq ++ [z]) := Lib.hid (by rw [HTS.out, List.filterMap_append, ← HCQ.out]; simp [hno])
                    have hv1 : Hid ((fS (numV ns) (.string r)).getD (.int .i64 0) = Z z) := Lib.hid (by rw [numV_get, hno]; rfl)
                    have hv2 : Hid ((fS (numV ns) (.string r)).isSome = true) := Lib.hid (by rw [numV_get, hno]; rfl)
                    clear hno
                    have hrowq := hmq.row
                    have hqbig := hmq.big
                    go_wp2_with (first
                      | (at_lookup; refine wpList_lookOk_M _ rfl _ _ 53 rfl _ keyS Try.underlying53 (Try.zeroValue3 _) rfl HNUM.out _ (.string r) rfl (keyOf_S r hrn) (Z z) true hv1.out hv2.out ?_)
                      | (at_builtin; refine wpList_append_N rfl (.tmp 70) (.tmp 72) rfl rfl rfl (hrowq.old ((Below.refl _ _).alloc (Nat.le_refl _) _) (Nat.le_refl _)) ((Blk.new wq #[Z z] _).at rfl) HCL2.out (by simp; omega) ?_; intro g1 cap1 w6 hown6 hg6 hat6))
                    have hba : Below wq.heap.size wq (wq.alloc (.cells #[Z z] 3)) := (Below.refl _ wq).alloc (Nat.le_refl _) _
                    have hmq2 := (hmq.old hba).push hg6 hown6 hat6
                    refine ⟨⟨qn + 1, by omega, by go_num, by rw [hst.out]; exact hmq2, ?_, ?_⟩, by simp [intOf]; omega⟩
                    · exact (hb4q.alloc _).kept hg6 (blk_ne_row hb4q hrowq (by decide))
                    · exact (hsq.old hba (Nat.le_refl _)).kept hg6 (rows_ne hsq.1 hrowq (by decide))
                · obtain rfl : qn = rl.length := by omega
                  rw [List.take_length] at hmq
                  go_wp2_with fail
                  refine ⟨⟨cur ++ nums ns x.th, .inr (.inr ⟨rfl, by rw [HCUR.out, List.append_assoc]; rfl⟩), ?_, hb4q⟩, by simp [intOf]⟩
                  rw [HR.out]; exact hmq
            -- end of rounds
            · obtain ⟨g0, g1⟩ := hmi.box.two
              have n0 : wi.cell? ⟨cb, 0, none⟩ = some (S c.nm) := hbi.at (by rw [List.getElem?_toArray]; exact c.cl_at (by omega))
              obtain ⟨la1, lc1, rfl, _, _⟩ := hmi.row.form
              have HM := Lib.hid hmi.map
              have HCUR := Lib.hid hcur
              have hml : m < maxLen := by have := HDL.out; unfold maxLen; omega
              clear hcur
              go_wp2_with (at_mapUpdate; refine wpList_put_M _ rfl _ _ _ 64 rfl _ keyS Try.underlying64 rfl HM.out hml _ (.string c.nm) rfl (keyOf_S c.nm hsl) (.slice la1 cur.length lc1) rfl ?_; intro w7 hm7 hg7)
              rw [upd_S, row_some] at hm7
              have hbk := hmi.back hdist hg7 hm7
              have hF : (fun x => if x == c.nm then some cur else Fk ns cs k x) = Fk ns cs (k + 1) := by
                rw [← Fk_succ ns cs k x HX.out, HCUR.out, HL0.out, HXN.out]
              rw [hF] at hbk
              refine ⟨⟨k + 1, _, _, by omega, ?_, by go_num, hbk⟩, by simp [intOf]; omega⟩
              split <;> omega
        · obtain rfl : k = cs.length := by omega
          have hsz := hgk.big
          obtain ⟨wo, rfl⟩ : ∃ wo : World, wo = wr := ⟨_, rfl⟩
          obtain ⟨W8, hW8⟩ : ∃ W8, wo.alloc (.map #[] 0) = W8 := ⟨_, rfl⟩
          have h8 := hgk.old (hW8 ▸ (Below.refl _ wo).alloc (Nat.le_refl _) (.map #[] 0))
          have m8 : MapIs W8 9 wo.heap.size 0 (fS fun _ => none) := by rw [← fS_none]; exact hW8 ▸ MapIs.made wo 9
          have hs8 : W8.heap.size = wo.heap.size + 1 := by rw [← hW8]; simp
          obtain ⟨D, hD1, hD2, hD3, hD4⟩ := h8.map
          obtain ⟨g0, g1⟩ := h8.box.two
          rw [← hW8] at g1
          have HW8 := Lib.hid hW8
          have HD1 := Lib.hid hD1
          have HD2 := Lib.hid hD2
          have HD3 := Lib.hid hD3
          have HD4 := Lib.hid hD4
          clear hW8 hD1 hD2 hD3 hD4 g0
          go_wp2_with (at_range; rw [HW8.out]; refine wpList_range_own _ rfl _ 64 rfl 9 _ keyS Try.underlying64 _ B2 m D rfl HD1.out ?_; intro w9 hrg9 hg9 hs9)
          go_frame
          have hk9 : ∀ {v : Value} {l : List Nat}, OwnN (B2 + 3) W8 v l → OwnN (B2 + 3) w9 v l := fun {v l} ho => ho.kept hg9 (by
            cases v.ownBlock with
            | none => exact .inl rfl
            | some g => exact .inr (by simp))
          have hrg : Rg (B2 + 3) B2 (B2 + 1) wo.heap.size W8.heap.size m (.slice na ns.length ncap) (Fk ns cs cs.length) V D B2 w2 (Maps.has D) (Maps.size D) w9 := by
            refine ⟨hrg9, fun s l _ hF => hk9 (h8.rows s l hF), fun s hs => ?_, ⟨0, fun _ => .slice none 0 0, by rw [HD2.out]; omega, ?_, ?_⟩, h8.dist, h8.box.kept hg9 (by simp), h8.bel.trans (below_grown hg9 (fun r e => by cases e) (by omega)), by omega, by omega, by omega, by omega, by omega, by omega, by omega⟩
            · rw [HD3.out, row_some] at hs; exact hs
            · refine (m8.kept hg9 (by simp)).congr fun kl => ?_
              cases kl <;> try rfl
              rename_i s
              simp only [fS, HD3.out]
              show none = _
              unfold rowV
              cases Fk ns cs cs.length s <;> simp
            · intro s l hF hs
              rw [HD3.out, row_some, hF] at hs
              cases hs
          have HWO := Lib.hid hs9
          have HB3 : Hid (wo.heap.size = wo.heap.size) := Lib.hid rfl
          obtain ⟨M3, hM3⟩ : ∃ M3, wo.heap.size = M3 := ⟨_, rfl⟩
          obtain ⟨R, hR⟩ : ∃ R, W8.heap.size = R := ⟨_, rfl⟩
          rw [hM3, hR] at hrg
          simp only [hM3, hR]
          clear hM3 hR HB3 hs9 hg9 hrg9 hk9 hs8 m8 h8 HW8 g1 hsz HWO
          have hmm2 : m < maxLen := by have := HDL.out; unfold maxLen; omega
          go_loopw [] (fun wr => ∃ left cnt, Rg (B2 + 3) B2 (B2 + 1) M3 R m (.slice na ns.length ncap) (Fk ns cs cs.length) V D B2 w2 left cnt wr) (fun wr => wr.rangeLeft B2 R)
          case atStart => exact ⟨_, _, hrg⟩
          case round =>
            obtain ⟨left, cnt, hq⟩ := hrel
            obtain ⟨wq, rfl⟩ : ∃ wq : World, wq = wr := ⟨_, rfl⟩
            obtain ⟨f0, f1⟩ := hq.box.two
            have p1 := HP1.out.below hq.bel (by omega)
            obtain ⟨e0, e1⟩ := p1.two
            have e2 := p1.free 0
            have e3 := p1.free 1
            have f2 := hq.box.free 1
            have hqs := hq.big
            have HQ := Lib.hid hq
            clear hq
            go_wp2_with (at_next; refine wpList_next_ranges _ rfl _ rfl 9 keyS tok S (id : Value → Value) invK (fun v y _ => ⟨v, rfl⟩) B2 R m D left cnt rfl HQ.out.rng (fun hc0 hl0 => ?_) (fun x v kl y w10 cnt' hkey hlk hv hat hrg10 hlt10 hg10 hs10 hen => ?_))
            · obtain ⟨W', hW'⟩ : ∃ W', ((wq.setCell ⟨B2 + 1, 1, none⟩ (.map (some M3))).setCell ⟨B0 + 1, 0, none⟩ (.slice na ns.length ncap)).setCell ⟨B0 + 1, 1, none⟩ (.map (some M3)) = W' := ⟨_, rfl⟩
              have z1 : Blk W' (B0 + 1) #[.slice na ns.length ncap, .map (some M3)] 66 := by
                rw [← hW']
                exact ((p1.other (by omega) _).set _).set _
              obtain ⟨y0, y1⟩ := z1.two
              rw [hW']
              refine bodyPost_ret (v := .agg #[.slice na ns.length ncap, .map (some M3)]) (by simp [results, Try.results30, go_sem, y0, y1]) rfl ?_
              refine ⟨_, _, rfl, ?_, ?_⟩
              · refine HQ.out.graph HNS.out.symm rfl hl0 hown (Nat.le_of_eq HB2.out) (by omega) fun b h1 h2 h3 => ?_
                rw [← hW']
                have hb01 : b ≠ B0 + 1 := by omega
                have hb21 : b ≠ B2 + 1 := h2
                rw [Below.heap_setCell _ _ _ _ hb01, Below.heap_setCell _ _ _ _ hb01, Below.heap_setCell _ _ _ _ hb21]
              · rw [HB.out, ← hW']
                exact (((hW2 _ HQ.out.bel).setCell (p := ⟨B2 + 1, 1, none⟩) (show B0 ≤ B2 + 1 by omega) _).setCell (p := ⟨B0 + 1, 0, none⟩) (show B0 ≤ B0 + 1 by omega) _).setCell (p := ⟨B0 + 1, 1, none⟩) (show B0 ≤ B0 + 1 by omega) _
            · obtain ⟨rfl, hxl⟩ := keyOf_S_inv hkey
              have hFx := HQ.out.sub x hlk
              obtain ⟨l, hl⟩ := Option.isSome_iff_exists.1 hFx
              have hvx : v = V x := by
                have h1 := hat (.held (.slice none 0 0))
                rw [HD4.out] at h1
                simp only [id, tok, Option.some.injEq] at hv
                rw [← hv] at h1
                simp only [DataW.held.injEq] at h1
                rw [← h1]
                show ((Fk ns cs cs.length x).map fun _ => V x).getD _ = _
                rw [hl]; rfl
              subst hvx
              have hx := HQ.out.todo x l hlk hl
              have hll : l.length ≤ 2 ^ 40 := by
                have e := Fk_at ns cs cs.length x
                unfold atL at e
                rw [hl, List.take_length] at e
                simp only [Option.getD_some] at e
                rw [e]
                have := rawL_length ns cs x
                have := HDL.out
                omega
              have hx1 := hx.kept hg10 (row_ne_rng HQ.out.rng hx)
              refine (sortInts_own (B2 + 3) (V x) l w10 hx1 hll).mono ?_
              rintro e w11 ⟨rfl, hs11, hg11⟩
              clear HD1 HD2 HD3 HD4 hat hen
              go_wp2_with fail
              refine (compact_own (B2 + 3) (V x) (srt l) w11 hs11).mono ?_
              rintro e w12 ⟨v', rfl, hs12, hv12, hg12⟩
              obtain ⟨m2, V2, hmc, hmd, hdn⟩ := HQ.out.done
              have hxm := row_ne_map hmd hx
              have hmd12 := ((hmd.kept hg10 (by have := HQ.out.b5; simpa using this)).kept hg11 (ne_symm_row hxm)).kept hg12 (ne_symm_row hxm)
              have HMD0 := Lib.hid hmd
              have HDN := Lib.hid hdn
              have HMD := Lib.hid hmd12
              have hml2 : m2 < maxLen := by omega
              clear hmd hmd12 hdn
              go_wp2_with (at_mapUpdate; refine wpList_put_M _ rfl _ _ _ 64 rfl _ keyS Try.underlying64 rfl HMD.out hml2 _ (.string x) rfl (keyOf_S x hxl) v' rfl ?_; intro w13 hm13 hg13)
              have hnew := HQ.out.round hlk hl hrg10 hlt10 hg10 hs11 hg11 hs12 hv12 hg12 hmc HMD0.out HDN.out hm13 hg13
              go_frame
              go_roundw
              case rel => exact ⟨_, cnt', hnew⟩
              case measure => rw [hnew.rng.left_eq, HQ.out.rng.left_eq]; omega
end Go.Proofs.Ythbnbjigmgoldaa
