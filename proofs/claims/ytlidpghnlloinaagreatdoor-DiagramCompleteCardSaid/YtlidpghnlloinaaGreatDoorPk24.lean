/- Contracts and plain laws, several texts in one (DVal, DFit, DFind). No conditions beyond those stated. -/
import Derived.Test.YtlidpghnlloinaaGreatDoorPk23
set_option maxRecDepth 100000
set_option maxHeartbeats 40000000
namespace Go.Proofs.YtlidpghnlloinaaGreatDoor
open Go.RowKit
set_option linter.unusedVariables false
theorem infoDiagN : (Tryz.prog.info? 29).map (fun i => i.size) = some 4:=by kernel_rfl
theorem DgX.lens {K : Nat} {w : World} {x : Dv} {scs : List Sc} {st : DSt} {root : Int} (h : DgX K w x scs st root) : x.s.n = scs.length /\ x.n.n = st.nds.length /\ x.l.n = st.lvs.length:=by
 obtain ⟨_,_,h1,_,_⟩:=h.s.form
 obtain ⟨_,_,h2,_,_⟩:=h.n.form
 obtain ⟨_,_,h3,_,_⟩:=h.l.form
 simp only [Sl.val,Value.slice.injEq] at h1 h2 h3
 exact ⟨h1.2.1,h2.2.1,h3.2.1⟩
theorem tok_int {st : DSt} {sc : Nat} {t : Int} (h : TOk st sc t) (h1 : st.nds.length <= 2 ^ 40) (h2 : st.lvs.length <= 2 ^ 40) : -(2 ^ 62) < t /\ t < 2 ^ 62:=by
 rcases h with ⟨n,rfl,hn⟩ | ⟨n,x,rfl,hn,_⟩
 ·omega
 ·have := (List.getElem?_eq_some_iff.1 hn).1; omega
theorem dvalid_ok (K : Nat) (x : Dv) (scs : List Sc) (st : DSt) (root : Int) (w : World) (h : DgX K w x scs st root) (hv : DgV scs st root) (hg : ScGood scs) (hK : K <= w.heap.size) :
  Calls Tryz.prog 31 #[x.agg] w fun e w' => e = .returned (.bool true) /\ Below w.heap.size w w':=by
 obtain ⟨l1,l2,l3⟩:=h.lens
 obtain ⟨n,hn⟩ : ∃ n,scs.length = n:=⟨_,rfl⟩
 obtain ⟨m,hm⟩ : ∃ m,st.nds.length = m:=⟨_,rfl⟩
 obtain ⟨q,hq⟩ : ∃ q,st.lvs.length = q:=⟨_,rfl⟩
 have hn16:=hv.len
 have hm40:=hv.nsz
 have hq40:=hv.lsz
 obtain ⟨⟨sa,sn,sm⟩,⟨na,nn,nm⟩,⟨la,ln,lm⟩,rt⟩:=x
 simp only at l1 l2 l3
 have hrt : rt = root:=h.r
 obtain ⟨hs,hnd,hlv,_⟩:=h
 dsimp only at hs hnd hlv
 subst l1 l2 l3 hrt
 obtain ⟨_,_,hs1,hs2,hs3⟩:=hs.form
 obtain ⟨_,_,hd1,hd2,hd3⟩:=hnd.form
 obtain ⟨_,_,hl1,hl2,hl3⟩:=hlv.form
 simp only [Value.slice.injEq,Sl.val,true_and] at hs1 hd1 hl1
 obtain ⟨rfl,rfl⟩:=hs1
 obtain ⟨rfl,rfl⟩:=hd1
 obtain ⟨rfl,rfl⟩:=hl1
 have HS:=Lib.hid hs
 have HND:=Lib.hid hnd
 have HLV:=Lib.hid hlv
 rw [hn] at hn16 hs2
 rw [hm] at hm40 hd2
 rw [hq] at hq40 hl2
 obtain ⟨W1,hW1⟩ : ∃ W1,w.alloc (.cells #[.slice sa n sm,.slice na m nm,.slice la q lm,.int .i64 rt] 29) = W1:=⟨_,rfl⟩
 have b1 : Below w.heap.size w W1:=by rw [<- hW1]; exact (Below.refl _ _).alloc (Nat.le_refl _) _
 have q1 : Blk W1 w.heap.size #[.slice sa n sm,.slice na m nm,.slice la q lm,.int .i64 rt] 29:=by rw [<- hW1]; exact Blk.new w _ _
 have s1 : W1.heap.size = w.heap.size + 1:=by rw [<- hW1]; simp
 obtain ⟨T,hT⟩ : ∃ T,w.heap.size = T:=⟨_,rfl⟩
 have HT:=Lib.hid hT
 have HW:=Lib.hid hW1
 rw [hT] at b1 q1 s1 hK ⊢
 rw [hn] at HS ⊢
 rw [hm] at HND ⊢
 rw [hq] at HLV ⊢
 have HV:=Lib.hid hv
 have HN:=Lib.hid hn
 have HM:=Lib.hid hm
 have HQ:=Lib.hid hq
 have HG:=Lib.hid hg
 have HB1:=Lib.hid b1
 have HQ1:=Lib.hid q1
 have S1:=Lib.hid s1
 unfold maxLen at hs3 hd3 hl3
 obtain ⟨c0,c1,c2,c3⟩:=q1.four
 have h16 : decide ((16 : Int) < (n : Int)) = false:=decide_eq_false (by omega)
 have hT1 : T < W1.heap.size:=by omega
 clear hs hnd hlv hv hn hm hq hg hT hW1 b1 q1 s1
 go_enter Tryz.func31,Tryz.ntmps31
 go_upto_region 1 with fail
 simp only [HT.out]
 rw [HW.out]
 go_wp2_with fail
 go_loopw [21] (fun iv wr => ∃ i : Nat,i <= n /\ iv = .int .i64 i /\ Below W1.heap.size W1 wr) (fun iv _ => n - (intOf iv).toNat)
 case atStart => exact ⟨0,Nat.zero_le _,rfl,Below.refl _ _⟩
 case round =>
  obtain ⟨i,hi,rfl,hbr⟩:=hrel
  obtain ⟨wo,rfl⟩ : ∃ wo : World,wo = wr:=⟨_,rfl⟩
  have HBR:=Lib.hid hbr
  have hso:=hbr.size
  have bTo : Below T w wo:=HB1.out.trans (hbr.mono (by omega))
  by_cases hlt : i < n
  ·obtain ⟨gy,hrow,hsc⟩:=HS.out
   rw [HN.out] at hrow hsc
   obtain ⟨b,o,cap,he,_,_,hbK,hc⟩:=hrow.pos (by omega)
   simp only [Value.slice.injEq,true_and] at he
   obtain ⟨rfl,rfl⟩:=he
   have hil : i < scs.length:=by rw [HN.out]; exact hlt
   obtain ⟨s,hs⟩ : ∃ s,scs[i]?.getD default = s:=⟨_,rfl⟩
   have hsm : s ∈ scs:=by rw [<- hs,List.getElem?_eq_getElem hil,Option.getD_some]; exact List.getElem_mem hil
   have hx:=hsc i hlt
   rw [hs] at hx
   have hrg:=sv_range (g:=gy) (cells_below bTo (by omega) hc) hlt
   obtain ⟨y,hy⟩ : ∃ y,gy i = y:=⟨_,rfl⟩
   rw [hy] at hx hrg
   have H1C : Hid (∀ u ∈ y.cells,u.oneCell' = true):=Lib.hid (by simp [Value.oneCell'])
   have HX:=Lib.hid (hx.below bTo hK (show K <= wo.heap.size by omega))
   have hgs:=HG.out s hsm
   have hok:=HV.out.ok s hsm
   have HGS:=Lib.hid hgs
   have HOK:=Lib.hid hok
   clear hc hs hsm hx hy hrow hsc hgs hok bTo hbr
   go_upto_region 6 with (first
    | (refine wpList_load_mid rfl 79 (.tmp 23) rfl b (o + i * 11) rfl y.cells.toList _ hrg Tryz.underlying79 rfl infoScaleN ?_)
    | (refine wpList_store_new rfl 79 (.tmp 4) (.tmp 24) rfl y.cells _ infoScaleN rfl H1C.out wo.heap.size rfl rfl rfl ?_))
   obtain ⟨T2,hT2⟩ : ∃ T,wo.heap.size = T:=⟨_,rfl⟩
   obtain ⟨W2,hW2⟩ : ∃ W,wo.alloc (.cells y.cells 79) = W:=⟨_,rfl⟩
   have b2 : Below T2 wo W2:=by rw [<- hW2,<- hT2]; exact (Below.refl _ _).alloc (Nat.le_refl _) _
   have q2 : Blk W2 T2 y.cells 79:=by rw [<- hW2,<- hT2]; exact Blk.new wo _ _
   have hr2 : W2.rangeAt T2 0 y.cells.toList:=q2.range
   have hs2:=b2.size
   rw [hT2]
   rw [hW2]
   rw [hT2] at HX hso
   have hce:=gvalid_any T2 s y W2 (HX.out.below b2 (Nat.le_refl _) (Nat.le_refl _)) (by have := q2.lt; omega) HGS.out.1 HGS.out.2
   rw [HOK.out] at hce
   have HCE:=Lib.hid hce
   have HB2:=Lib.hid b2
   have HT2:=Lib.hid hT2
   clear hT2 hW2 q2 b2 hce hrg H1C
   go_wp2_with (first
    | (refine wpList_load_mid rfl 79 (.tmp 4) rfl T2 0 rfl y.cells.toList _ hr2 Tryz.underlying79 rfl infoScaleN ?_))
   refine HCE.out.mono ?_
   clear HCE hr2
   rintro en w3 ⟨rfl,hb3⟩
   have hb : Below W1.heap.size W1 w3:=HBR.out.trans ((HB2.out.trans (hb3.mono (by have := HB2.out.size; have := HT2.out; omega))).mono (by have := HT2.out; omega))
   have HB:=Lib.hid hb
   clear hb hb3
   go_wp2_with fail
   exact ⟨⟨i + 1,by omega,by go_num,HB.out⟩,by simp [intOf]; omega⟩
  ·obtain rfl : i = n:=by omega
   clear hi hlt
   have d0:=(hbr.cell (p:=⟨T,0,none⟩) hT1).trans c0
   have d1:=(hbr.cell (p:=⟨T,1,none⟩) hT1).trans c1
   have hps:=dposs_any K (.slice sa i sm) scs wo (HS.out.below bTo hK (Nat.le_refl _)) HG.out (by rw [HN.out]; omega) (by omega)
   have HPS:=Lib.hid hps
   clear hps hbr bTo
   go_wp2_with fail
   refine HPS.out.mono ?_
   clear HPS d0 d1
   rintro en w4 ⟨pv,pvs,pF,rfl,hno,hb4⟩
   have hnn:=hno.read
   obtain ⟨pa,pc,hpf,hpl,hpm⟩:=hnn.form
   have hpn : (scs.map cellsS).length = i:=by rw [List.length_map]; exact HN.out
   rw [hpn] at hpf hpl
   subst hpf
   unfold maxLen at hpm
   have b14 : Below W1.heap.size W1 w4:=HBR.out.trans (hb4.mono hso)
   have d1:=(b14.cell (p:=⟨T,1,none⟩) hT1).trans c1
   have HNN:=Lib.hid hnn
   have HB14:=Lib.hid b14
   have HPN:=Lib.hid hpn
   have hs4:=b14.size
   clear hno hnn hb4 b14 hpn HBR hso wo
   go_wp2_with fail
   go_loopw [35] (fun iv wr => ∃ j : Nat,j <= m /\ iv = .int .i64 j /\ Below w4.heap.size w4 wr) (fun iv _ => m - (intOf iv).toNat)
   case atStart => exact ⟨0,Nat.zero_le _,rfl,Below.refl _ _⟩
   case round =>
    obtain ⟨j,hj,rfl,hbr⟩:=hrel
    obtain ⟨wo,rfl⟩ : ∃ wo : World,wo = wr:=⟨_,rfl⟩
    have hso:=hbr.size
    have b1o : Below W1.heap.size W1 wo:=HB14.out.trans (hbr.mono hs4)
    have bTo : Below T w wo:=HB1.out.trans (b1o.mono (by omega))
    by_cases hlt : j < m
    ·obtain ⟨ng,hnr,hng⟩:=HND.out
     rw [HM.out] at hnr hng
     obtain ⟨b,o,cap,he,_,_,hbK,hc⟩:=hnr.pos (by omega)
     simp only [Value.slice.injEq,true_and] at he
     obtain ⟨rfl,rfl⟩:=he
     obtain ⟨nd,hnd⟩ : ∃ nd,st.nds[j]? = some nd:=⟨_,List.getElem?_eq_getElem (by rw [HM.out]; exact hlt)⟩
     obtain ⟨sc,nx⟩:=nd
     have e0 : w.cell? ⟨b,o + j * 2,none⟩ = some (.int .i64 sc):=by have := hc j hlt 0 (by omega); rw [hnd] at this; simpa using this
     have e1 : w.cell? ⟨b,o + j * 2 + 1,none⟩ = some (ng j):=by have := hc j hlt 1 (by omega); rw [Nat.add_assoc]; simpa using this
     obtain ⟨s,hs,hnl,htk⟩:=HV.out.node j sc nx hnd
     have hgj:=hng j hlt
     rw [hnd] at hgj
     dsimp only [Option.getD_some] at hgj
     obtain ⟨xa,xc,hxf,hxl,hxm⟩:=RowsV.form hgj
     obtain ⟨p,hp⟩ : ∃ p,nx.length = p:=⟨_,rfl⟩
     rw [hp] at hxf hnl hxl
     rw [hxf] at e1 hgj
     unfold maxLen at hxm
     have f0:=(bTo.cell (p:=⟨b,o + j * 2,none⟩) (Nat.lt_of_lt_of_le hbK hK)).trans e0
     have f1:=(bTo.cell (p:=⟨b,o + j * 2 + 1,none⟩) (Nat.lt_of_lt_of_le hbK hK)).trans e1
     have hscn : sc < i:=by rw [<- HN.out]; exact (List.getElem?_eq_some_iff.1 hs).1
     obtain ⟨pg,hpr,hpg⟩:=HNN.out
     rw [HPN.out] at hpr hpg
     obtain ⟨pb,po,pcap,hpe,_,_,hpbK,hpc⟩:=hpr.pos (by omega)
     simp only [Value.slice.injEq,true_and] at hpe
     obtain ⟨rfl,rfl⟩:=hpe
     have hps:=hpg sc hscn
     rw [List.getElem?_map,hs] at hps
     obtain ⟨ga,gc,hgf,_,_⟩:=hps.form
     rw [show (Option.map cellsS (some s)).getD [] = cellsS s from rfl,<- hnl] at hgf
     have g0 : wo.cell? ⟨pb,po + sc,none⟩ = some (.slice ga p gc):=(hbr.cell (p:=⟨pb,po + sc,none⟩) hpbK).trans (by have := hpc sc hscn 0 (by omega); rw [hgf] at this; simpa using this)
     have d0:=(b1o.cell (p:=⟨T,0,none⟩) hT1).trans c0
     have d1:=(b1o.cell (p:=⟨T,1,none⟩) hT1).trans c1
     have d2:=(b1o.cell (p:=⟨T,2,none⟩) hT1).trans c2
     have d3:=(b1o.cell (p:=⟨T,3,none⟩) hT1).trans c3
     have HTK:=Lib.hid htk
     have HGJ:=Lib.hid hgj
     have HBR:=Lib.hid hbr
     have HP:=Lib.hid hp
     have HND2:=Lib.hid hnd
     have hd1 : decide ((sc : Int) < 0) = false:=decide_eq_false (by omega)
     have hd2 : decide ((i : Int) <= (sc : Int)) = false:=decide_eq_false (by omega)
     have hd3 : ((p : Int) != (p : Int)) = false:=by simp
     have hd2n : decide (i <= sc) = false:=decide_eq_false (by omega)
     obtain ⟨A0,hA0⟩ : ∃ A0,wo.heap.size = A0:=⟨_,rfl⟩
     obtain ⟨W5,hW5⟩ : ∃ W,wo.alloc (.cells #[.int .i64 sc,.slice xa p xc] 65) = W:=⟨_,rfl⟩
     have b5 : Below A0 wo W5:=by rw [<- hW5,<- hA0]; exact (Below.refl _ _).alloc (Nat.le_refl _) _
     have q5 : Blk W5 A0 #[.int .i64 sc,.slice xa p xc] 65:=by rw [<- hW5,<- hA0]; exact Blk.new wo _ _
     have s5 : A0 < W5.heap.size:=q5.lt
     have hTA : T < A0:=by omega
     have k0:=(b5.cell (p:=⟨T,0,none⟩) hTA).trans d0
     have k1:=(b5.cell (p:=⟨T,1,none⟩) hTA).trans d1
     have k2:=(b5.cell (p:=⟨T,2,none⟩) hTA).trans d2
     have k3:=(b5.cell (p:=⟨T,3,none⟩) hTA).trans d3
     have g5:=(b5.cell (p:=⟨pb,po + sc,none⟩) (by rw [<- hA0]; exact Nat.lt_of_lt_of_le hpbK hso)).trans g0
     obtain ⟨m0,m1⟩:=q5.two
     have HW5:=Lib.hid hW5
     have HA0:=Lib.hid hA0
     have HB5:=Lib.hid b5
     have HQ5:=Lib.hid q5
     clear hc hnr hng hnd e0 e1 hs hnl htk hgj hxf hp hpr hpg hpc hps hgf hbr b1o bTo d0 d1 d2 d3 g0 hA0 hW5 b5 q5
     go_upto_region 13 with fail
     rw [HW5.out]
     rw [HA0.out]
     go_quiet (fail)
     generalize hW6 : World.drewN W5 _ = W6
     have b6 : Below W5.heap.size W5 W6:=by rw [<- hW6]; exact below_drewN2 (Below.refl _ _) _
     have m0:=(b6.cell (p:=⟨A0,0,none⟩) s5).trans m0
     have m1:=(b6.cell (p:=⟨A0,1,none⟩) s5).trans m1
     have b46 : Below w4.heap.size w4 W6:=HBR.out.trans ((HB5.out.mono (by rw [HA0.out] at hso; exact hso)).trans (b6.mono (by have := HB5.out.size; rw [HA0.out] at hso; omega)))
     have s6:=b6.size
     have HB46:=Lib.hid b46
     clear hW6 b6 b46 k0 k1 k2 k3 g5 HW5 f0 f1
     go_wp2_with fail
     go_loopw [65] (fun iv wr => ∃ k : Nat,k <= p /\ iv = .int .i64 k /\ Below W6.heap.size W6 wr) (fun iv _ => p - (intOf iv).toNat)
     case atStart => exact ⟨0,Nat.zero_le _,rfl,Below.refl _ _⟩
     case round =>
      obtain ⟨k,hk,rfl,hbk⟩:=hrel
      obtain ⟨wi,rfl⟩ : ∃ wi : World,wi = wr:=⟨_,rfl⟩
      have hsk:=hbk.size
      have b4k : Below w4.heap.size w4 wi:=HB46.out.trans (hbk.mono HB46.out.size)
      have b1k : Below W1.heap.size W1 wi:=HB14.out.trans (b4k.mono hs4)
      have bTk : Below T w wi:=HB1.out.trans (b1k.mono (by omega))
      have HB4K:=Lib.hid b4k
      by_cases hltk : k < p
      ·obtain ⟨xb,xo,xcap,hxe,_,_,hxK,hxc⟩:=RowsV.pos HGJ.out (by rw [HP.out]; omega)
       rw [HP.out] at hxe
       simp only [Value.slice.injEq,true_and] at hxe
       obtain ⟨rfl,rfl⟩:=hxe
       obtain ⟨t,ht⟩ : ∃ t,nx[k]? = some t:=⟨_,List.getElem?_eq_getElem (by rw [HP.out]; exact hltk)⟩
       have h0 : wi.cell? ⟨xb,xo + k,none⟩ = some (.int .i64 t):=(bTk.cell (p:=⟨xb,xo + k,none⟩) (Nat.lt_of_lt_of_le hxK hK)).trans (by have := hxc k (by rw [HP.out]; exact hltk) 0 (by omega); rw [ht] at this; simpa using this)
       have htok:=HTK.out t (List.mem_of_getElem? ht)
       have htb:=tok_int htok (by rw [HM.out]; exact hm40) (by rw [HQ.out]; exact hq40)
       have hexb:=exB_ok htok
       rw [HQ.out,HM.out] at hexb
       have hqT : Blk wi T #[.slice sa i sm,.slice (some ⟨b,o,none⟩) m nm,.slice la q lm,.int .i64 rt] 29:=HQ1.out.below b1k hT1
       have hexi : ∀ z,Calls Tryz.prog 70 #[.pointer (some ⟨T,0,none⟩),.int .i64 t] (wi.drewN z) fun e w' => e = .returned (.bool true) /\ w' = wi.drewN z:=fun z => by
        have := dexists_any T ⟨⟨sa,i,sm⟩,⟨some ⟨b,o,none⟩,m,nm⟩,⟨la,q,lm⟩,rt⟩ t (wi.drewN z) hqT htb
        dsimp only at this
        rwa [hexb] at this
       have HEX:=Lib.hid hexi
       have k1 : wi.cell? ⟨T,1,none⟩ = some (.slice (some ⟨b,o,none⟩) m nm):=hqT.at rfl
       have m0:=(hbk.cell (p:=⟨A0,0,none⟩) (Nat.lt_of_lt_of_le s5 s6)).trans m0
       have HBK:=Lib.hid hbk
       have hfin : ∀ W',Below wi.heap.size wi W' -> Below W6.heap.size W6 W':=fun W' h => HBK.out.trans (h.mono hsk)
       have HFIN:=Lib.hid hfin
       rcases htok with ⟨n',e',hn'⟩ | ⟨n',y,e',hn',hy⟩
       ·have t0 : decide ((0 : Int) <= t) = false:=decide_eq_false (by omega)
        clear e' hn' hxc ht hexb hqT hbk b4k b1k bTk htb hexi hfin
        go_upto_region 18 with fail
        have hexi:=HEX.out
        go_quiet (first | (go_at_call 70; refine Calls.quiet_of_same (hexi _)))
        clear hexi
        go_wp2_with fail
        exact ⟨⟨k + 1,by omega,by go_num,HFIN.out _ (below_drewN2 (Below.refl _ _) _)⟩,by simp [intOf]; omega⟩
       ·subst e'
        have hnm' : n' < m:=by rw [<- HM.out]; exact (List.getElem?_eq_some_iff.1 hn').1
        obtain ⟨ng,hnr,_⟩:=HND.out
        rw [HM.out] at hnr
        obtain ⟨b2,o2,cap2,he2,_,_,hb2K,hc2⟩:=hnr.pos (by omega)
        simp only [Value.slice.injEq,Option.some.injEq,Addr.mk.injEq,and_true,true_and] at he2
        obtain ⟨⟨rfl,rfl⟩,rfl⟩:=he2
        have z0 : wi.cell? ⟨b,o + n' * 2,none⟩ = some (.int .i64 y.1):=(bTk.cell (p:=⟨b,o + n' * 2,none⟩) (Nat.lt_of_lt_of_le hb2K hK)).trans (by have := hc2 n' hnm' 0 (by omega); rw [hn'] at this; simpa using this)
        have hysc : decide ((y.1 : Int) <= (sc : Int)) = false:=decide_eq_false (by omega)
        have hysn : decide (y.1 <= sc) = false:=decide_eq_false (by omega)
        have hnb : n' <= 2 ^ 40:=by omega
        obtain ⟨y1,y2⟩:=y
        dsimp only at z0 hysc hysn
        clear hn' hxc ht hexb hqT hbk b4k b1k bTk htb hexi hfin hnr hc2 hy
        go_upto_region 18 with fail
        have hexi:=HEX.out
        go_quiet (first | (go_at_call 70; refine Calls.quiet_of_same (hexi _)))
        clear hexi
        go_wp2_with fail
        exact ⟨⟨k + 1,by omega,by go_num,HFIN.out _ (below_drewN2 (Below.refl _ _) _)⟩,by simp [intOf]; omega⟩
      ·obtain rfl : k = p:=by omega
       clear hk hltk hbk b4k b1k bTk
       go_wp2_with fail
       exact ⟨⟨j + 1,by omega,by go_num,HB4K.out⟩,by simp [intOf]; omega⟩
    ·obtain rfl : j = m:=by omega
     clear hj hlt
     have d2:=(b1o.cell (p:=⟨T,2,none⟩) hT1).trans c2
     have d1:=(b1o.cell (p:=⟨T,1,none⟩) hT1).trans c1
     have HB1O:=Lib.hid b1o
     have hsz1:=b1o.size
     clear hbr b1o bTo
     go_wp2_with fail
     go_loopw [92] (fun iv wr => wo = wr /\ ∃ k : Nat,k <= q /\ iv = .int .i64 k) (fun iv _ => q - (intOf iv).toNat)
     case atStart => exact ⟨rfl,0,Nat.zero_le _,rfl⟩
     case round =>
      obtain ⟨rfl,k,hk,rfl⟩:=hrel
      have bTo : Below T w wo:=HB1.out.trans (HB1O.out.mono (by omega))
      by_cases hltk : k < q
      ·obtain ⟨lg,hlr,hlg⟩:=HLV.out
       rw [HQ.out] at hlr hlg
       obtain ⟨lb,lo,lcap,hle,_,_,hlbK,hlc⟩:=hlr.pos (by omega)
       simp only [Value.slice.injEq,true_and] at hle
       obtain ⟨rfl,rfl⟩:=hle
       obtain ⟨lf,hlf⟩ : ∃ lf,st.lvs[k]? = some lf:=⟨_,List.getElem?_eq_getElem (by rw [HQ.out]; exact hltk)⟩
       have hinc:=HV.out.leaf k lf hlf
       have hgk:=hlg k hltk
       rw [hlf,Option.getD_some] at hgk
       obtain ⟨ea,ec,hef,hel,hem⟩:=hgk.form
       obtain ⟨r,hr⟩ : ∃ r,lf.length = r:=⟨_,rfl⟩
       rw [hr] at hef hel
       rw [hef] at hgk
       unfold maxLen at hem
       have e0 : wo.cell? ⟨lb,lo + k,none⟩ = some (.slice ea r ec):=(bTo.cell (p:=⟨lb,lo + k,none⟩) (Nat.lt_of_lt_of_le hlbK hK)).trans (by have := hlc k hltk 0 (by omega); rw [hef] at this; simpa using this)
       have HGK:=Lib.hid hgk
       have HINC:=Lib.hid hinc
       have HR:=Lib.hid hr
       have HBTO:=Lib.hid bTo
       clear hlr hlg hlc hlf hinc hgk hef hr bTo
       go_wp2_with fail
       go_loopw [98] (fun iv wr => wo = wr /\ ∃ u : Nat,u <= r /\ iv = .int .i64 u) (fun iv _ => r - (intOf iv).toNat)
       case atStart => exact ⟨rfl,0,Nat.zero_le _,rfl⟩
       case round =>
        obtain ⟨rfl,u,hu,rfl⟩:=hrel
        by_cases hltu : u < r
        ·obtain ⟨eb,eo,ecap,hee,_,_,heK,hecl⟩:=Nats.pos HGK.out (by rw [HR.out]; omega)
         rw [HR.out] at hee
         simp only [Value.slice.injEq,true_and] at hee
         obtain ⟨rfl,rfl⟩:=hee
         have cl : ∀ i,i < r -> wo.cell? ⟨eb,eo + i,none⟩ = some (Z (lf[i]?.getD 0)):=fun i hi => (HBTO.out.cell (p:=⟨eb,eo + i,none⟩) (Nat.lt_of_lt_of_le heK hK)).trans (hecl i (by rw [HR.out]; exact hi))
         have CL:=Lib.hid cl
         obtain ⟨z,hz⟩ : ∃ z,lf[u]?.getD 0 = z:=⟨_,rfl⟩
         have f0 : wo.cell? ⟨eb,eo + u,none⟩ = some (.int .i64 (z : Int)):=by have := cl u hltu; rw [hz] at this; exact this
         have z0 : decide ((z : Int) < 0) = false:=decide_eq_false (by omega)
         by_cases hu0 : u = 0
         ·have u0 : decide ((0 : Int) < (u : Int)) = false:=decide_eq_false (by omega)
          have u0n : decide (0 < u) = false:=decide_eq_false (by omega)
          clear hecl cl hz hu0
          go_wp2_with fail
          exact ⟨⟨trivial,u + 1,by omega,by go_num⟩,by simp [intOf]; omega⟩
         ·have u0 : decide ((0 : Int) < (u : Int)) = true:=decide_eq_true (by omega)
          have u0n : decide (0 < u) = true:=decide_eq_true (by omega)
          have huw : IntKind.i64.wrap ((u : Int) - 1) = ((u - 1 : Nat) : Int):=by rw [show ((u - 1 : Nat) : Int) = (u : Int) - 1 by omega]; exact IntWalk.i64_in _ (by omega)
          obtain ⟨z',hz'⟩ : ∃ z,lf[u - 1]?.getD 0 = z:=⟨_,rfl⟩
          have f1 : wo.cell? ⟨eb,eo + (u - 1),none⟩ = some (.int .i64 (z' : Int)):=by have := cl (u - 1) (by omega); rw [hz'] at this; exact this
          have hlt2 : z' < z:=by
           have hul : u < lf.length:=by rw [HR.out]; exact hltu
           have := List.pairwise_iff_getElem.1 HINC.out (u - 1) u (by omega) hul (by omega)
           rw [List.getElem?_eq_getElem hul,Option.getD_some] at hz
           rw [List.getElem?_eq_getElem (by omega),Option.getD_some] at hz'
           omega
          have z1 : decide ((z : Int) <= (z' : Int)) = false:=decide_eq_false (by omega)
          have z1n : decide (z <= z') = false:=decide_eq_false (by omega)
          have hu1 : u - 1 < r:=by omega
          clear hecl cl hz hz' hu0 hlt2
          go_wp2_with fail
          exact ⟨⟨trivial,u + 1,by omega,by go_num⟩,by simp [intOf]; omega⟩
        ·obtain rfl : u = r:=by omega
         clear hu hltu
         go_wp2_with fail
         exact ⟨⟨trivial,k + 1,by omega,by go_num⟩,by simp [intOf]; omega⟩
      ·obtain rfl : k = q:=by omega
       clear hk hltk
       have hqT : Blk wo T #[.slice sa i sm,.slice na j nm,.slice la k lm,.int .i64 rt] 29:=HQ1.out.below HB1O.out hT1
       have d3 : wo.cell? ⟨T,3,none⟩ = some (.int .i64 rt):=hqT.at rfl
       have hrt:=HV.out.root
       have hexb:=exB_ok hrt
       rw [HQ.out,HM.out] at hexb
       have hex:=dexists_any T ⟨⟨sa,i,sm⟩,⟨na,j,nm⟩,⟨la,k,lm⟩,rt⟩ rt wo hqT (tok_int hrt (by rw [HM.out]; exact hm40) (by rw [HQ.out]; exact hq40))
       dsimp only at hex
       rw [hexb] at hex
       have HEX:=Lib.hid hex
       have HBTO:=Lib.hid bTo
       clear hqT hrt hexb hex bTo
       go_wp2_with fail
       refine HEX.out.mono ?_
       clear HEX
       rintro en w9 ⟨rfl,rfl⟩
       go_wp2_with fail
       go_ret
       exact ⟨rfl,HBTO.out⟩
theorem dfit_ok (K : Nat) (x : Dv) (scs : List Sc) (st : DSt) (root : Int) (cv : Value) (cs : List Nat) (w : World) (h : DgX K w x scs st root) (hv : DgV scs st root) (hg : ScGood scs) (hc : Nats K w cv cs) (hcs : CellsIn (pcs scs) cs) (hK : K <= w.heap.size) :
  Calls Tryz.prog 62 #[x.agg,cv] w fun e w' => e = .returned (.bool true) /\ Below w.heap.size w w':=by
 obtain ⟨l1,l2,l3⟩:=h.lens
 obtain ⟨n,hn⟩ : ∃ n,scs.length = n:=⟨_,rfl⟩
 have hn16:=hv.len
 have hcl : cs.length = n:=by rw [hcs.1]; unfold pcs; rw [List.length_map]; exact hn
 obtain ⟨ca,cm,rfl,hcm1,hcm2⟩:=hc.form
 have hvl : ∀ W,Below w.heap.size w W -> Calls Tryz.prog 31 #[x.agg] W fun e w' => e = .returned (.bool true) /\ Below W.heap.size W w':=fun W hb => dvalid_ok W.heap.size x scs st root W (h.below hb hK (by have := hb.size; omega)) hv hg (Nat.le_refl _)
 obtain ⟨⟨sa,sn,sm⟩,⟨na,nn,nm⟩,⟨la,ln,lm⟩,rt⟩:=x
 simp only at l1
 have hs:=h.s
 dsimp only at hs
 subst l1
 clear l2 l3
 obtain ⟨_,_,hs1,hs2,hs3⟩:=hs.form
 simp only [Value.slice.injEq,Sl.val,true_and] at hs1
 obtain ⟨rfl,rfl⟩:=hs1
 obtain ⟨W1,hW1⟩ : ∃ W1,w.alloc (.cells #[.slice sa scs.length sm,.slice na nn nm,.slice la ln lm,.int .i64 rt] 29) = W1:=⟨_,rfl⟩
 have b1 : Below w.heap.size w W1:=by rw [<- hW1]; exact (Below.refl _ _).alloc (Nat.le_refl _) _
 have q1 : Blk W1 w.heap.size #[.slice sa scs.length sm,.slice na nn nm,.slice la ln lm,.int .i64 rt] 29:=by rw [<- hW1]; exact Blk.new w _ _
 have s1 : W1.heap.size = w.heap.size + 1:=by rw [<- hW1]; simp
 have hvl1:=hvl W1 b1
 obtain ⟨T,hT⟩ : ∃ T,w.heap.size = T:=⟨_,rfl⟩
 have HT:=Lib.hid hT
 have HW:=Lib.hid hW1
 rw [hT] at b1 q1 s1 hK ⊢
 rw [hn] at q1 hvl1 hs hs2 HW hn16 ⊢
 rw [hcl] at hcm1 ⊢
 rw [hcl] at hc
 have HS:=Lib.hid hs
 have HC:=Lib.hid hc
 have HCS:=Lib.hid hcs
 have HN:=Lib.hid hn
 have HCL:=Lib.hid hcl
 have HG:=Lib.hid hg
 have HV:=Lib.hid hv
 have HB1:=Lib.hid b1
 have HQ1:=Lib.hid q1
 have S1:=Lib.hid s1
 have HVL:=Lib.hid hvl1
 unfold maxLen at hcm2 hs3
 have hT1 : T < W1.heap.size:=by omega
 obtain ⟨c0,c1,c2,c3⟩:=q1.four
 have hne : ((n : Int) != (n : Int)) = false:=by simp
 dsimp only [Dv.agg,Dv.cells,Sl.val] at HVL ⊢
 clear h hs hc hcs hn hcl hg hv b1 q1 s1 hvl hvl1 hT hW1
 go_enter Tryz.func62,Tryz.ntmps62
 go_upto_region 1 with fail
 simp only [HT.out]
 rw [HW.out]
 go_wp2_with fail
 refine HVL.out.mono ?_
 clear HVL c0 c1 c2 c3
 rintro en w2 ⟨rfl,hb2⟩
 have d0 : w2.cell? ⟨T,0,none⟩ = some (.slice sa n sm):=(HQ1.out.below hb2 hT1).at rfl
 have HB2:=Lib.hid hb2
 have hs2':=hb2.size
 clear hb2
 go_wp2_with fail
 go_loopw [21] (fun iv wr => ∃ i : Nat,i <= n /\ iv = .int .i64 i /\ Below w2.heap.size w2 wr) (fun iv _ => n - (intOf iv).toNat)
 case atStart => exact ⟨0,Nat.zero_le _,rfl,Below.refl _ _⟩
 case round =>
  obtain ⟨i,hi,rfl,hbr⟩:=hrel
  obtain ⟨wo,rfl⟩ : ∃ wo : World,wo = wr:=⟨_,rfl⟩
  have HBR:=Lib.hid hbr
  have hso:=hbr.size
  have bTo : Below T w wo:=(HB1.out.trans (HB2.out.mono (by omega))).trans (hbr.mono (by omega))
  by_cases hlt : i < n
  ·obtain ⟨gy,hrow,hsc⟩:=HS.out
   rw [HN.out] at hrow hsc
   obtain ⟨b,o,cap,he,_,_,hbK,hcc⟩:=hrow.pos (by omega)
   simp only [Value.slice.injEq,true_and] at he
   obtain ⟨rfl,rfl⟩:=he
   have hil : i < scs.length:=by rw [HN.out]; exact hlt
   obtain ⟨s,hs⟩ : ∃ s,scs[i]?.getD default = s:=⟨_,rfl⟩
   have hgs : scs[i]? = some s:=by rw [<- hs,List.getElem?_eq_getElem hil]; rfl
   have hsm : s ∈ scs:=List.mem_of_getElem? hgs
   have hx:=hsc i hlt
   rw [hs] at hx
   have hrg:=sv_range (g:=gy) (cells_below bTo (by omega) hcc) hlt
   obtain ⟨y,hy⟩ : ∃ y,gy i = y:=⟨_,rfl⟩
   rw [hy] at hx hrg
   have H1C : Hid (∀ u ∈ y.cells,u.oneCell' = true):=Lib.hid (by simp [Value.oneCell'])
   have HX:=Lib.hid (hx.below bTo hK (show K <= wo.heap.size by omega))
   have HGS:=Lib.hid (HG.out s hsm)
   have hicl : i < cs.length:=by rw [HCL.out]; exact hlt
   obtain ⟨cb,co,ccap,hce,_,_,hcK,hccl⟩:=Nats.pos HC.out (by rw [HCL.out]; omega)
   rw [HCL.out] at hce
   simp only [Value.slice.injEq,true_and] at hce
   obtain ⟨rfl,rfl⟩:=hce
   obtain ⟨c,hcv⟩ : ∃ c,cs[i]? = some c:=⟨_,List.getElem?_eq_getElem hicl⟩
   have e0 : wo.cell? ⟨cb,co + i,none⟩ = some (.int .i64 (c : Int)):=(bTo.cell (p:=⟨cb,co + i,none⟩) (Nat.lt_of_lt_of_le hcK hK)).trans (by have := hccl i hicl; rw [hcv] at this; exact this)
   have hcm : c ∈ cellsS s:=by
    obtain ⟨p,hp,hm⟩:=HCS.out.2 i c hcv
    unfold pcs at hp
    rw [List.getElem?_map,hgs] at hp
    cases hp; exact hm
   have HCM:=Lib.hid hcm
   clear hcc hs hgs hsm hx hy hrow hsc bTo hbr hccl hcv hcm
   go_upto_region 6 with (first
    | (refine wpList_load_mid rfl 79 (.tmp 24) rfl b (o + i * 11) rfl y.cells.toList _ hrg Tryz.underlying79 rfl infoScaleN ?_)
    | (refine wpList_store_new rfl 79 (.tmp 6) (.tmp 25) rfl y.cells _ infoScaleN rfl H1C.out wo.heap.size rfl rfl rfl ?_))
   obtain ⟨T2,hT2⟩ : ∃ T,wo.heap.size = T:=⟨_,rfl⟩
   obtain ⟨W2,hW2⟩ : ∃ W,wo.alloc (.cells y.cells 79) = W:=⟨_,rfl⟩
   have b2 : Below T2 wo W2:=by rw [<- hW2,<- hT2]; exact (Below.refl _ _).alloc (Nat.le_refl _) _
   have q2 : Blk W2 T2 y.cells 79:=by rw [<- hW2,<- hT2]; exact Blk.new wo _ _
   rw [hT2]
   rw [hW2]
   rw [hT2] at HX hso
   have e1:=(b2.cell (p:=⟨cb,co + i,none⟩) (show cb < T2 by omega)).trans e0
   have qS : (fun W' => Below W2.heap.size W2 W') W2.drew:=below_quiet (Below.refl _ _)
   have hcbl : cb < W2.heap.size:=by have := b2.size; omega
   have hce:=gcells_any T2 s y W2.drew (HX.out.below (b2.trans (qS.mono (by have := q2.lt; omega))) (Nat.le_refl _) (Nat.le_refl _)) (by show T2 <= W2.heap.size; have := q2.lt; omega) HGS.out.1 HGS.out.2
   have HCE:=Lib.hid hce
   have HB2':=Lib.hid b2
   have HT2:=Lib.hid hT2
   have HQ2:=Lib.hid q2
   have HE1:=Lib.hid e1
   clear hT2 hW2 q2 b2 hce hrg H1C e0 e1
   refine region_plain (fun W' => Below W2.heap.size W2 W') [] (by kernel_rfl) ?_
   refine wpAnyD_tk (i:=0) (v:=y.agg) rfl (yieldsIf_load_mid (by kernel_rfl) 79 (.tmp 6) rfl T2 0 rfl y.cells.toList _ (fun W' hS => (HQ2.out.below hS HQ2.out.lt).range) Tryz.underlying79 rfl infoScaleN) qS ?_
   refine wpAnyD_tp (i:=2) (v:=.slice (some ⟨cb,co,none⟩) n cm) rfl qS ?_
   refine wpAnyD_tp (i:=3) (v:=.int .i64 (i : Int)) rfl qS ?_
   refine wpAnyD_tp (i:=4) (v:=.pointer (some ⟨cb,co + i,none⟩)) rfl qS ?_
   refine wpAnyD_tk (i:=5) (v:=.int .i64 (c : Int)) rfl (.inl ⟨by kernel_rfl,fun W' hS => by have d0:=(hS.cell (p:=⟨cb,co + i,none⟩) hcbl).trans HE1.out; go_simp⟩) qS ?_
   refine wpAnyD_one (i:=1) (by kernel_rfl) rfl (by kernel_rfl) ?_
   go_simp
   refine HCE.out.mono ?_
   rintro en w3 ⟨pv,rfl,hpv,hb3⟩
   have hb3 : Below W2.heap.size W2.drew w3:=hb3
   have qS3 : Below W2.heap.size W2 w3:=qS.trans hb3
   refine ⟨qS3,?_⟩
   have hct:=scontains_any w3.heap.size pv (cellsS s) c w3 hpv.nats HCM.out
   obtain ⟨pa,pc,hpf,_,_⟩:=hpv.nats.form
   have HCT:=Lib.hid hct
   rw [hpf] at HCT ⊢
   clear hpv hct hb3 hpf
   refine wpAnyD_one (i:=6) (by kernel_rfl) rfl (by kernel_rfl) ?_
   go_simp
   refine HCT.out.mono ?_
   rintro en w4 ⟨rfl,rfl⟩
   refine ⟨qS3,?_⟩
   refine wpAnyD_tp (i:=7) (v:=.bool false) rfl qS3 ?_
   refine wpAnyD_done (by kernel_rfl) ?_ _
   go_simp
   have hb : Below w2.heap.size w2 w4:=HBR.out.trans ((HB2'.out.trans (qS3.mono (by have := HQ2.out.lt; omega))).mono (by omega))
   have HB:=Lib.hid hb
   clear hb qS3 qS
   apply (show ∀ (a : Act) (w : World),_ -> _ from by assumption)
   go_wp2_with fail
   exact ⟨⟨i + 1,by omega,by go_num,HB.out⟩,by simp [intOf]; omega⟩
  ·obtain rfl : i = n:=by omega
   have HBTO:=Lib.hid bTo
   clear hi hlt hbr bTo
   go_wp2_with fail
   go_ret
   exact ⟨rfl,HBTO.out⟩
theorem Evals.leaf_inv {P : List (List Nat)} {st : DSt} {cs : List Nat} {t : Int} {l : List Nat} (h : Evals P st cs t l) (ht : t < 0) : ∃ n : Nat,t = -1 - (n : Int) /\ st.lvs[n]? = some l:=by
 cases h with
 | leaf n _ h => exact ⟨n,rfl,h⟩
 | node n => omega
theorem Evals.node_inv {P : List (List Nat)} {st : DSt} {cs : List Nat} {t : Int} {l : List Nat} (h : Evals P st cs t l) (ht : 0 <= t) : ∃ (n sc : Nat) (nx : List Int) (t' : Int),t = (n : Int) /\ st.nds[n]? = some (sc,nx) /\ nx[(P[sc]?.getD []).idxOf (cs[sc]?.getD 0)]? = some t' /\ Evals P st cs t' l:=by
 cases h with
 | leaf n => omega
 | node n sc nx t' _ h1 h2 h3 => exact ⟨n,sc,nx,t',rfl,h1,h2,h3⟩
def dmz (st : DSt) (n : Nat) (t : Int) : Nat:=if t < 0 then 0 else n - ((st.nds[t.toNat]?).map (·.1)).getD 0
theorem dmz_step {st : DSt} {n k sc : Nat} {nx : List Int} {t : Int} (hk : st.nds[k]? = some (sc,nx)) (hs : sc < n) (ht : TOk st (sc + 1) t) : dmz st n t < dmz st n (k : Int):=by
 have e : dmz st n (k : Int) = n - sc:=by
  unfold dmz
  rw [if_neg (by omega),show ((k : Int)).toNat = k from rfl,hk]; rfl
 rw [e]
 rcases ht with ⟨m,rfl,_⟩ | ⟨m,y,rfl,hy,hle⟩
 ·unfold dmz; rw [if_pos (by omega)]; omega
 ·unfold dmz
  rw [if_neg (by omega),show ((m : Int)).toNat = m from rfl,hy]
  show n - y.1 < n - sc
  omega
theorem dfind_ok (K : Nat) (x : Dv) (scs : List Sc) (st : DSt) (root : Int) (cv : Value) (cs l : List Nat) (w : World) (h : DgX K w x scs st root) (hv : DgV scs st root) (hg : ScGood scs) (hc : Nats K w cv cs) (hcs : CellsIn (pcs scs) cs) (hev : Evals (pcs scs) st cs root l) (hl : l.length <= 2 ^ 40) (hK : K <= w.heap.size) :
  Calls Tryz.prog 27 #[x.agg,cv] w fun e w' => ∃ v,e = .returned (.tuple #[v,.int .i64 0]) /\ OwnN w.heap.size w' v l /\ Below w.heap.size w w':=by
 obtain ⟨l1,l2,l3⟩:=h.lens
 obtain ⟨n,hn⟩ : ∃ n,scs.length = n:=⟨_,rfl⟩
 have hn16:=hv.len
 have hcl : cs.length = n:=by rw [hcs.1]; unfold pcs; rw [List.length_map]; exact hn
 obtain ⟨ca,cm,rfl,hcm1,hcm2⟩:=hc.form
 have hfit : ∀ W,Below w.heap.size w W -> Calls Tryz.prog 62 #[x.agg,.slice ca cs.length cm] W fun e w' => e = .returned (.bool true) /\ Below W.heap.size W w':=fun W hb => dfit_ok W.heap.size x scs st root _ cs W (h.below hb hK (by have := hb.size; omega)) hv hg (hc.below hb hK (by have := hb.size; omega)) hcs (Nat.le_refl _)
 obtain ⟨⟨sa,sn,sm⟩,⟨na,nn,nm⟩,⟨la,ln,lm⟩,rt⟩:=x
 simp only at l1 l2 l3
 have hs:=h.s
 have hnd:=h.n
 have hlv:=h.l
 have hrt : rt = root:=h.r
 dsimp only at hs hnd hlv
 obtain ⟨_,_,hs1,hs2,hs3⟩:=hs.form
 obtain ⟨_,_,hd1,hd2,hd3⟩:=hnd.form
 obtain ⟨_,_,hl1,hl2,hl3⟩:=hlv.form
 simp only [Value.slice.injEq,Sl.val] at hs1 hd1 hl1
 obtain ⟨rfl,rfl,rfl⟩:=hs1
 obtain ⟨rfl,rfl,rfl⟩:=hd1
 obtain ⟨rfl,rfl,rfl⟩:=hl1
 subst hrt
 clear l1 l2 l3
 obtain ⟨m,hm⟩ : ∃ m,st.nds.length = m:=⟨_,rfl⟩
 obtain ⟨q,hq⟩ : ∃ q,st.lvs.length = q:=⟨_,rfl⟩
 have hm40:=hv.nsz
 have hq40:=hv.lsz
 rw [hn] at hs hs2 hn16 hfit ⊢
 rw [hm] at hnd hd2 hm40 hfit ⊢
 rw [hq] at hlv hl2 hq40 hfit ⊢
 rw [hcl] at hc hcm1 hfit ⊢
 obtain ⟨W1,hW1⟩ : ∃ W1,w.alloc (.cells #[.slice sa n sm,.slice na m nm,.slice la q lm,.int .i64 rt] 29) = W1:=⟨_,rfl⟩
 have b1 : Below w.heap.size w W1:=by rw [<- hW1]; exact (Below.refl _ _).alloc (Nat.le_refl _) _
 have q1 : Blk W1 w.heap.size #[.slice sa n sm,.slice na m nm,.slice la q lm,.int .i64 rt] 29:=by rw [<- hW1]; exact Blk.new w _ _
 have s1 : W1.heap.size = w.heap.size + 1:=by rw [<- hW1]; simp
 have hfit1:=hfit W1 b1
 obtain ⟨T,hT⟩ : ∃ T,w.heap.size = T:=⟨_,rfl⟩
 have HT:=Lib.hid hT
 have HW:=Lib.hid hW1
 rw [hT] at b1 q1 s1 hK ⊢
 have HS:=Lib.hid hs
 have HND:=Lib.hid hnd
 have HLV:=Lib.hid hlv
 have HC:=Lib.hid hc
 have HCS:=Lib.hid hcs
 have HN:=Lib.hid hn
 have HM:=Lib.hid hm
 have HQ:=Lib.hid hq
 have HCL:=Lib.hid hcl
 have HG:=Lib.hid hg
 have HV:=Lib.hid hv
 have HB1:=Lib.hid b1
 have HQ1:=Lib.hid q1
 have S1:=Lib.hid s1
 have HFIT:=Lib.hid hfit1
 have HEV:=Lib.hid hev
 unfold maxLen at hcm2 hs3 hd3 hl3
 have hT1 : T < W1.heap.size:=by omega
 obtain ⟨c0,c1,c2,c3⟩:=q1.four
 dsimp only [Dv.agg,Dv.cells,Sl.val] at HFIT ⊢
 clear h hs hnd hlv hc hcs hn hm hq hcl hg hv b1 q1 s1 hfit hfit1 hT hW1 hev
 go_enter Tryz.func27,Tryz.ntmps27
 go_upto_region 1 with fail
 simp only [HT.out]
 rw [HW.out]
 go_wp2_with fail
 refine HFIT.out.mono ?_
 clear HFIT c0 c1 c2 c3
 rintro en w2 ⟨rfl,hb2⟩
 have bT2 : Below T w w2:=HB1.out.trans (hb2.mono (by omega))
 have hs2':=hb2.size
 have d0 : w2.cell? ⟨T,0,none⟩ = some (.slice sa n sm):=(HQ1.out.below hb2 hT1).at rfl
 have hps:=dposs_any K (.slice sa n sm) scs w2 (HS.out.below bT2 hK (Nat.le_refl _)) HG.out (by rw [HN.out]; omega) (by omega)
 have HPS:=Lib.hid hps
 have HB2:=Lib.hid hb2
 clear hps hb2 bT2
 go_wp2_with fail
 refine HPS.out.mono ?_
 clear HPS d0
 rintro en w3 ⟨pv,pvs,pF,rfl,hno,hb3⟩
 have hnn:=hno.read
 obtain ⟨pa,pc,hpf,hpl,hpm⟩:=hnn.form
 have hpn : (scs.map cellsS).length = n:=by rw [List.length_map]; exact HN.out
 rw [hpn] at hpf hpl
 subst hpf
 unfold maxLen at hpm
 have b13 : Below W1.heap.size W1 w3:=HB2.out.trans (hb3.mono hs2')
 have d3 : w3.cell? ⟨T,3,none⟩ = some (.int .i64 rt):=(HQ1.out.below b13 hT1).at rfl
 have HNN:=Lib.hid hnn
 have HB13:=Lib.hid b13
 have HPN:=Lib.hid hpn
 have hs3':=b13.size
 clear hno hnn hb3 b13 hpn HB2 hs2'
 go_wp2_with fail
 go_loopw [7] (fun tv wr => ∃ t : Int,tv = .int .i64 t /\ Hid (TOk st 0 t) /\ Hid (Evals (pcs scs) st cs t l) /\ Hid (Below w3.heap.size w3 wr)) (fun tv _ => dmz st n (intOf tv))
 case atStart => exact ⟨rt,rfl,Lib.hid HV.out.root,HEV,Lib.hid (Below.refl _ _)⟩
 case round =>
  obtain ⟨t,rfl,HTO,HEV',HBR⟩:=hrel
  obtain ⟨wo,rfl⟩ : ∃ wo : World,wo = wr:=⟨_,rfl⟩
  have hso:=HBR.out.size
  have b1o : Below W1.heap.size W1 wo:=HB13.out.trans (HBR.out.mono hs3')
  have bTo : Below T w wo:=HB1.out.trans (b1o.mono (by omega))
  have q1o:=HQ1.out.below b1o hT1
  have HB1O:=Lib.hid b1o
  by_cases ht : 0 <= t
  ·obtain ⟨k,sc,nx,t',rfl,hk,hix,hev'⟩:=HEV'.out.node_inv ht
   have hkm : k < m:=by rw [<- HM.out]; exact (List.getElem?_eq_some_iff.1 hk).1
   obtain ⟨s,hs,hnl,htk⟩:=HV.out.node k sc nx hk
   have hscn : sc < n:=by rw [<- HN.out]; exact (List.getElem?_eq_some_iff.1 hs).1
   have hpsc : (pcs scs)[sc]? = some (cellsS s):=by unfold pcs; rw [List.getElem?_map,hs]; rfl
   rw [hpsc,Option.getD_some] at hix
   obtain ⟨c,hcc⟩ : ∃ c,cs[sc]? = some c:=⟨_,List.getElem?_eq_getElem (by rw [HCL.out]; exact hscn)⟩
   rw [hcc,Option.getD_some] at hix
   have hcm : c ∈ cellsS s:=by
    obtain ⟨p,hp,hm⟩:=HCS.out.2 sc c hcc
    rw [hpsc] at hp
    cases hp; exact hm
   have htok:=htk t' (List.mem_of_getElem? hix)
   have hdm:=dmz_step hk hscn htok
   have htok0:=htok.mono (Ext.refl _) (Nat.zero_le (sc + 1))
   obtain ⟨ng,hnr,hng⟩:=HND.out
   rw [HM.out] at hnr hng
   obtain ⟨b,o,cap,he,_,_,hbK,hcl⟩:=hnr.pos (by omega)
   simp only [Value.slice.injEq,true_and] at he
   obtain ⟨rfl,rfl⟩:=he
   have e0 : w.cell? ⟨b,o + k * 2,none⟩ = some (.int .i64 sc):=by have := hcl k hkm 0 (by omega); rw [hk] at this; simpa using this
   have e1 : w.cell? ⟨b,o + k * 2 + 1,none⟩ = some (ng k):=by have := hcl k hkm 1 (by omega); rw [Nat.add_assoc]; simpa using this
   have hgk:=hng k hkm
   rw [hk] at hgk
   dsimp only [Option.getD_some] at hgk
   obtain ⟨xb,xo,xc,hxf,hxl,hxm,hxK,hxc⟩:=RowsV.pos hgk (Nat.lt_of_le_of_lt (Nat.zero_le _) (List.getElem?_eq_some_iff.1 hix).1)
   rw [hxf] at e1
   obtain ⟨ix,hixx⟩ : ∃ ix,(cellsS s).idxOf c = ix:=⟨_,rfl⟩
   rw [hixx] at hix
   obtain ⟨p,hp⟩ : ∃ p,nx.length = p:=⟨_,rfl⟩
   have hixp : ix < p:=by rw [<- hp]; exact (List.getElem?_eq_some_iff.1 hix).1
   rw [hp] at e1 hnl hxl
   have f0:=(bTo.cell (p:=⟨b,o + k * 2,none⟩) (Nat.lt_of_lt_of_le hbK hK)).trans e0
   have f1:=(bTo.cell (p:=⟨b,o + k * 2 + 1,none⟩) (Nat.lt_of_lt_of_le hbK hK)).trans e1
   have f2 : wo.cell? ⟨xb,xo + ix,none⟩ = some (.int .i64 t'):=(bTo.cell (p:=⟨xb,xo + ix,none⟩) (Nat.lt_of_lt_of_le hxK hK)).trans (by have := hxc ix (by rw [hp]; exact hixp) 0 (by omega); rw [hix] at this; simpa using this)
   obtain ⟨cb,co,ccap,hce,_,_,hcK,hccl⟩:=Nats.pos HC.out (by rw [HCL.out]; omega)
   rw [HCL.out] at hce
   simp only [Value.slice.injEq,true_and] at hce
   obtain ⟨rfl,rfl⟩:=hce
   have f3 : wo.cell? ⟨cb,co + sc,none⟩ = some (.int .i64 (c : Int)):=(bTo.cell (p:=⟨cb,co + sc,none⟩) (Nat.lt_of_lt_of_le hcK hK)).trans (by have := hccl sc (by rw [HCL.out]; exact hscn); rw [hcc] at this; exact this)
   obtain ⟨pg,hpr,hpg⟩:=HNN.out
   rw [HPN.out] at hpr hpg
   obtain ⟨pb,po,pcap,hpe,_,_,hpbK,hpc⟩:=hpr.pos (by omega)
   simp only [Value.slice.injEq,true_and] at hpe
   obtain ⟨rfl,rfl⟩:=hpe
   have hpss:=hpg sc hscn
   rw [show (scs.map cellsS)[sc]? = some (cellsS s) from hpsc,Option.getD_some] at hpss
   obtain ⟨ga,gc,hgf,_,_⟩:=hpss.form
   rw [<- hnl] at hgf
   rw [hgf] at hpss
   have f4 : wo.cell? ⟨pb,po + sc,none⟩ = some (.slice ga p gc):=(HBR.out.cell (p:=⟨pb,po + sc,none⟩) hpbK).trans (by have := hpc sc hscn 0 (by omega); rw [hgf] at this; simpa using this)
   have g1 : wo.cell? ⟨T,1,none⟩ = some (.slice (some ⟨b,o,none⟩) m nm):=q1o.at rfl
   obtain ⟨A0,hA0⟩ : ∃ A0,wo.heap.size = A0:=⟨_,rfl⟩
   obtain ⟨W5,hW5⟩ : ∃ W,wo.alloc (.cells #[.int .i64 sc,.slice (some ⟨xb,xo,none⟩) p xc] 65) = W:=⟨_,rfl⟩
   have b5 : Below A0 wo W5:=by rw [<- hW5,<- hA0]; exact (Below.refl _ _).alloc (Nat.le_refl _) _
   have q5 : Blk W5 A0 #[.int .i64 sc,.slice (some ⟨xb,xo,none⟩) p xc] 65:=by rw [<- hW5,<- hA0]; exact Blk.new wo _ _
   have s5 : A0 < W5.heap.size:=q5.lt
   have hTA : T < A0:=by have := b1o.size; omega
   have hKA : K <= A0:=by omega
   have h3A : w3.heap.size <= A0:=by omega
   have k2:=(b5.cell (p:=⟨xb,xo + ix,none⟩) (Nat.lt_of_lt_of_le hxK hKA)).trans f2
   have k3:=(b5.cell (p:=⟨cb,co + sc,none⟩) (Nat.lt_of_lt_of_le hcK hKA)).trans f3
   have k4:=(b5.cell (p:=⟨pb,po + sc,none⟩) (Nat.lt_of_lt_of_le hpbK h3A)).trans f4
   obtain ⟨m0,m1⟩:=q5.two
   have hix5 : ∀ z,Calls Tryz.prog 63 #[.slice ga p gc,.int .i64 c] (W5.drewN z) fun e w' => e = .returned (.int .i64 ix) /\ w' = W5.drewN z:=fun z => by
    have := sindex_any W5.heap.size (.slice ga p gc) (cellsS s) c (W5.drewN z) (hpss.below (HBR.out.trans ((b5.mono h3A).trans (below_drewN2 (Below.refl _ _) z))) (Nat.le_refl _) (by have := b5.size; omega)) hcm
    rwa [hixx] at this
   have HIX:=Lib.hid hix5
   have HW5:=Lib.hid hW5
   have HA0:=Lib.hid hA0
   have HB5:=Lib.hid b5
   have HTOK:=Lib.hid htok0
   have HEV2:=Lib.hid hev'
   have HDM:=Lib.hid hdm
   have t0 : decide ((0 : Int) <= (k : Int)) = true:=decide_eq_true (by omega)
   have hp63 : p <= 9223372036854775807:=by unfold maxLen at hxm; omega
   clear ht hk hix hev' hs hnl htk hpsc hcc hcm htok hdm htok0 hnr hng hcl e0 e1 hgk hxf hxc hixx hp hccl hpr hpg hpc hpss hgf hA0 hW5 b5 q5 hix5 b1o bTo q1o f2 f3 f4 hxm
   go_upto_region 7 with fail
   rw [HW5.out]
   rw [HA0.out]
   have hix5:=HIX.out
   go_quiet (first | (go_at_call 63; refine Calls.quiet_of_same (hix5 _)))
   clear hix5
   go_wp2_with fail
   exact ⟨⟨t',rfl,HTOK,HEV2,Lib.hid (HBR.out.trans ((HB5.out.trans (below_drewN2 (Below.refl _ _) _)).mono h3A))⟩,HDM.out⟩
  ·obtain ⟨k,rfl,hlk⟩:=HEV'.out.leaf_inv (by omega)
   have hkq : k < q:=by rw [<- HQ.out]; exact (List.getElem?_eq_some_iff.1 hlk).1
   obtain ⟨lg,hlr,hlg⟩:=HLV.out
   rw [HQ.out] at hlr hlg
   obtain ⟨lb,lo,lcap,hle,_,_,hlbK,hlc⟩:=hlr.pos (by omega)
   simp only [Value.slice.injEq,true_and] at hle
   obtain ⟨rfl,rfl⟩:=hle
   have hgk:=hlg k hkq
   rw [hlk,Option.getD_some] at hgk
   obtain ⟨ea,ec,hef,hel,hem⟩:=hgk.form
   rw [hef] at hgk
   have e0 : wo.cell? ⟨lb,lo + k,none⟩ = some (.slice ea l.length ec):=(bTo.cell (p:=⟨lb,lo + k,none⟩) (Nat.lt_of_lt_of_le hlbK hK)).trans (by have := hlc k hkq 0 (by omega); rw [hef] at this; simpa using this)
   have g2 : wo.cell? ⟨T,2,none⟩ = some (.slice (some ⟨lb,lo,none⟩) q lm):=q1o.at rfl
   have hcn:=sclone_any wo.heap.size (.slice ea l.length ec) l wo (hgk.below bTo hK (by have := HB1O.out.size; omega)) hl
   have HCN:=Lib.hid hcn
   have HBTO:=Lib.hid bTo
   have t0 : decide ((0 : Int) <= -1 - (k : Int)) = false:=decide_eq_false (by omega)
   obtain ⟨t,hte⟩ : ∃ t : Int,-1 - (k : Int) = t:=⟨_,rfl⟩
   have hw : IntKind.i64.wrap (-1 - t) = (k : Int):=by rw [<- hte,show (-1 - (-1 - (k : Int))) = (k : Int) by omega]; exact IntWalk.i64_in _ (by omega)
   rw [hte] at t0 ⊢
   have hTo : T <= wo.heap.size:=by have := HB1O.out.size; omega
   clear ht hlk hlr hlg hlc hgk hef hcn b1o bTo q1o hte
   go_wp2_with fail
   refine HCN.out.mono ?_
   clear HCN
   rintro en w9 ⟨v9,rfl,ho9,hb9⟩
   go_wp2_with fail
   refine bodyPost_ret (v:=.tuple #[v9,.int .i64 0]) (by simp [results,Tryz.results27,go_sem]) rfl ?_
   exact ⟨v9,rfl,ownsRow_mono ho9 hTo,HBTO.out.trans (hb9.mono hTo)⟩
end Go.Proofs.YtlidpghnlloinaaGreatDoor
