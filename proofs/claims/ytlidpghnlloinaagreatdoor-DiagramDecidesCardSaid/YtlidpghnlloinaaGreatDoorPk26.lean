/- Contracts and plain laws, several texts in one (DFit, DFind, DRch, DRch2, DLead). No conditions beyond those stated. -/
import Derived.Test.YtlidpghnlloinaaGreatDoorPk25
set_option maxRecDepth 100000
set_option maxHeartbeats 40000000
namespace Go.Proofs.YtlidpghnlloinaaGreatDoor
open Go.RowKit
set_option linter.unusedVariables false
theorem dfit_ok (K : Nat) (x : Dv) (scs : List Sc) (st : DSt) (root : Int) (cv : Value) (cs : List Nat) (w : World) (h : DgX K w x scs st root) (hv : DgV scs st root) (hg : ScGood scs) (hc : Nats K w cv cs) (hcs : CellsIn (pcs scs) cs) (hK : K <= w.heap.size) :
  Calls Tryz.prog 62 #[x.agg,cv] w fun e w' => e = .returned (.bool true) /\ Below w.heap.size w w':=by
 obtain ⟨l1,l2,l3⟩:=h.lens
 obtain ⟨n,hn⟩ : ∃ n,scs.length = n:=⟨_,rfl⟩
 have hn16:=hv.len
 have hcl : cs.length = n:=by rw [hcs.1]; unfold pcs; rw [List.length_map]; exact hn
 obtain ⟨ca,cm,rfl,hcm1,hcm2⟩:=hc.form
 have hvl : ∀ W,Below w.heap.size w W -> Calls Tryz.prog 31 #[x.agg] W fun e w' => e = .returned (.bool true) /\ Below W.heap.size W w':=fun W hb => dvalid_ok W.heap.size x scs st root W (h.below hb hK (by have := hb.size; omega)) hv hg (Nat.le_refl _)
 obtain ⟨⟨sa,sn,sm⟩,⟨na,nn,nm⟩,⟨la,ln,lm⟩,rt⟩:=x
 simp only at l1
 have hs:=h.s
 dsimp only at hs
 subst l1
 clear l2 l3
 obtain ⟨_,_,hs1,hs2,hs3⟩:=hs.form
 simp only [Value.slice.injEq,Sl.val,true_and] at hs1
 obtain ⟨rfl,rfl⟩:=hs1
 obtain ⟨W1,hW1⟩ : ∃ W1,w.alloc (.cells #[.slice sa scs.length sm,.slice na nn nm,.slice la ln lm,.int .i64 rt] 29) = W1:=⟨_,rfl⟩
 have b1 : Below w.heap.size w W1:=by rw [<- hW1]; exact (Below.refl _ _).alloc (Nat.le_refl _) _
 have q1 : Blk W1 w.heap.size #[.slice sa scs.length sm,.slice na nn nm,.slice la ln lm,.int .i64 rt] 29:=by rw [<- hW1]; exact Blk.new w _ _
 have s1 : W1.heap.size = w.heap.size + 1:=by rw [<- hW1]; simp
 have hvl1:=hvl W1 b1
 obtain ⟨T,hT⟩ : ∃ T,w.heap.size = T:=⟨_,rfl⟩
 have HT:=Lib.hid hT
 have HW:=Lib.hid hW1
 rw [hT] at b1 q1 s1 hK ⊢
 rw [hn] at q1 hvl1 hs hs2 HW hn16 ⊢
 rw [hcl] at hcm1 ⊢
 rw [hcl] at hc
 have HS:=Lib.hid hs
 have HC:=Lib.hid hc
 have HCS:=Lib.hid hcs
 have HN:=Lib.hid hn
 have HCL:=Lib.hid hcl
 have HG:=Lib.hid hg
 have HV:=Lib.hid hv
 have HB1:=Lib.hid b1
 have HQ1:=Lib.hid q1
 have S1:=Lib.hid s1
 have HVL:=Lib.hid hvl1
 unfold maxLen at hcm2 hs3
 have hT1 : T < W1.heap.size:=by omega
 obtain ⟨c0,c1,c2,c3⟩:=q1.four
 have hne : ((n : Int) != (n : Int)) = false:=by simp
 dsimp only [Dv.agg,Dv.cells,Sl.val] at HVL ⊢
 clear h hs hc hcs hn hcl hg hv b1 q1 s1 hvl hvl1 hT hW1
 go_enter Tryz.func62,Tryz.ntmps62
 go_upto_region 1 with fail
 simp only [HT.out]
 rw [HW.out]
 go_wp2_with fail
 refine HVL.out.mono ?_
 clear HVL c0 c1 c2 c3
 rintro en w2 ⟨rfl,hb2⟩
 have d0 : w2.cell? ⟨T,0,none⟩ = some (.slice sa n sm):=(HQ1.out.below hb2 hT1).at rfl
 have HB2:=Lib.hid hb2
 have hs2':=hb2.size
 clear hb2
 go_wp2_with fail
 go_loopw [21] (fun iv wr => ∃ i : Nat,i <= n /\ iv = .int .i64 i /\ Below w2.heap.size w2 wr) (fun iv _ => n - (intOf iv).toNat)
 case atStart => exact ⟨0,Nat.zero_le _,rfl,Below.refl _ _⟩
 case round =>
  obtain ⟨i,hi,rfl,hbr⟩:=hrel
  obtain ⟨wo,rfl⟩ : ∃ wo : World,wo = wr:=⟨_,rfl⟩
  have HBR:=Lib.hid hbr
  have hso:=hbr.size
  have bTo : Below T w wo:=(HB1.out.trans (HB2.out.mono (by omega))).trans (hbr.mono (by omega))
  by_cases hlt : i < n
  ·obtain ⟨gy,hrow,hsc⟩:=HS.out
   rw [HN.out] at hrow hsc
   obtain ⟨b,o,cap,he,_,_,hbK,hcc⟩:=hrow.pos (by omega)
   simp only [Value.slice.injEq,true_and] at he
   obtain ⟨rfl,rfl⟩:=he
   have hil : i < scs.length:=by rw [HN.out]; exact hlt
   obtain ⟨s,hs⟩ : ∃ s,scs[i]?.getD default = s:=⟨_,rfl⟩
   have hgs : scs[i]? = some s:=by rw [<- hs,List.getElem?_eq_getElem hil]; rfl
   have hsm : s ∈ scs:=List.mem_of_getElem? hgs
   have hx:=hsc i hlt
   rw [hs] at hx
   have hrg:=sv_range (g:=gy) (cells_below bTo (by omega) hcc) hlt
   obtain ⟨y,hy⟩ : ∃ y,gy i = y:=⟨_,rfl⟩
   rw [hy] at hx hrg
   have H1C : Hid (∀ u ∈ y.cells,u.oneCell' = true):=Lib.hid (by simp [Value.oneCell'])
   have HX:=Lib.hid (hx.below bTo hK (show K <= wo.heap.size by omega))
   have HGS:=Lib.hid (HG.out s hsm)
   have hicl : i < cs.length:=by rw [HCL.out]; exact hlt
   obtain ⟨cb,co,ccap,hce,_,_,hcK,hccl⟩:=Nats.pos HC.out (by rw [HCL.out]; omega)
   rw [HCL.out] at hce
   simp only [Value.slice.injEq,true_and] at hce
   obtain ⟨rfl,rfl⟩:=hce
   obtain ⟨c,hcv⟩ : ∃ c,cs[i]? = some c:=⟨_,List.getElem?_eq_getElem hicl⟩
   have e0 : wo.cell? ⟨cb,co + i,none⟩ = some (.int .i64 (c : Int)):=(bTo.cell (p:=⟨cb,co + i,none⟩) (Nat.lt_of_lt_of_le hcK hK)).trans (by have := hccl i hicl; rw [hcv] at this; exact this)
   have hcm : c ∈ cellsS s:=by
    obtain ⟨p,hp,hm⟩:=HCS.out.2 i c hcv
    unfold pcs at hp
    rw [List.getElem?_map,hgs] at hp
    cases hp; exact hm
   have HCM:=Lib.hid hcm
   clear hcc hs hgs hsm hx hy hrow hsc bTo hbr hccl hcv hcm
   go_upto_region 6 with (first
    | (refine wpList_load_mid rfl 79 (.tmp 24) rfl b (o + i * 11) rfl y.cells.toList _ hrg Tryz.underlying79 rfl infoScaleN ?_)
    | (refine wpList_store_new rfl 79 (.tmp 6) (.tmp 25) rfl y.cells _ infoScaleN rfl H1C.out wo.heap.size rfl rfl rfl ?_))
   obtain ⟨T2,hT2⟩ : ∃ T,wo.heap.size = T:=⟨_,rfl⟩
   obtain ⟨W2,hW2⟩ : ∃ W,wo.alloc (.cells y.cells 79) = W:=⟨_,rfl⟩
   have b2 : Below T2 wo W2:=by rw [<- hW2,<- hT2]; exact (Below.refl _ _).alloc (Nat.le_refl _) _
   have q2 : Blk W2 T2 y.cells 79:=by rw [<- hW2,<- hT2]; exact Blk.new wo _ _
   rw [hT2]
   rw [hW2]
   rw [hT2] at HX hso
   have e1:=(b2.cell (p:=⟨cb,co + i,none⟩) (show cb < T2 by omega)).trans e0
   have qS : (fun W' => Below W2.heap.size W2 W') W2.drew:=below_quiet (Below.refl _ _)
   have hcbl : cb < W2.heap.size:=by have := b2.size; omega
   have hce:=gcells_any T2 s y W2.drew (HX.out.below (b2.trans (qS.mono (by have := q2.lt; omega))) (Nat.le_refl _) (Nat.le_refl _)) (by show T2 <= W2.heap.size; have := q2.lt; omega) HGS.out.1 HGS.out.2
   have HCE:=Lib.hid hce
   have HB2':=Lib.hid b2
   have HT2:=Lib.hid hT2
   have HQ2:=Lib.hid q2
   have HE1:=Lib.hid e1
   clear hT2 hW2 q2 b2 hce hrg H1C e0 e1
   refine region_plain (fun W' => Below W2.heap.size W2 W') [] (by kernel_rfl) ?_
   refine wpAnyD_tk (i:=0) (v:=y.agg) rfl (yieldsIf_load_mid (by kernel_rfl) 79 (.tmp 6) rfl T2 0 rfl y.cells.toList _ (fun W' hS => (HQ2.out.below hS HQ2.out.lt).range) Tryz.underlying79 rfl infoScaleN) qS ?_
   refine wpAnyD_tp (i:=2) (v:=.slice (some ⟨cb,co,none⟩) n cm) rfl qS ?_
   refine wpAnyD_tp (i:=3) (v:=.int .i64 (i : Int)) rfl qS ?_
   refine wpAnyD_tp (i:=4) (v:=.pointer (some ⟨cb,co + i,none⟩)) rfl qS ?_
   refine wpAnyD_tk (i:=5) (v:=.int .i64 (c : Int)) rfl (.inl ⟨by kernel_rfl,fun W' hS => by have d0:=(hS.cell (p:=⟨cb,co + i,none⟩) hcbl).trans HE1.out; go_simp⟩) qS ?_
   refine wpAnyD_one (i:=1) (by kernel_rfl) rfl (by kernel_rfl) ?_
   go_simp
   refine HCE.out.mono ?_
   rintro en w3 ⟨pv,rfl,hpv,hb3⟩
   have hb3 : Below W2.heap.size W2.drew w3:=hb3
   have qS3 : Below W2.heap.size W2 w3:=qS.trans hb3
   refine ⟨qS3,?_⟩
   have hct:=scontains_any w3.heap.size pv (cellsS s) c w3 hpv.nats HCM.out
   obtain ⟨pa,pc,hpf,_,_⟩:=hpv.nats.form
   have HCT:=Lib.hid hct
   rw [hpf] at HCT ⊢
   clear hpv hct hb3 hpf
   refine wpAnyD_one (i:=6) (by kernel_rfl) rfl (by kernel_rfl) ?_
   go_simp
   refine HCT.out.mono ?_
   rintro en w4 ⟨rfl,rfl⟩
   refine ⟨qS3,?_⟩
   refine wpAnyD_tp (i:=7) (v:=.bool false) rfl qS3 ?_
   refine wpAnyD_done (by kernel_rfl) ?_ _
   go_simp
   have hb : Below w2.heap.size w2 w4:=HBR.out.trans ((HB2'.out.trans (qS3.mono (by have := HQ2.out.lt; omega))).mono (by omega))
   have HB:=Lib.hid hb
   clear hb qS3 qS
   apply (show ∀ (a : Act) (w : World),_ -> _ from by assumption)
   go_wp2_with fail
   exact ⟨⟨i + 1,by omega,by go_num,HB.out⟩,by simp [intOf]; omega⟩
  ·obtain rfl : i = n:=by omega
   have HBTO:=Lib.hid bTo
   clear hi hlt hbr bTo
   go_wp2_with fail
   go_ret
   exact ⟨rfl,HBTO.out⟩
theorem Evals.leaf_inv {P : List (List Nat)} {st : DSt} {cs : List Nat} {t : Int} {l : List Nat} (h : Evals P st cs t l) (ht : t < 0) : ∃ n : Nat,t = -1 - (n : Int) /\ st.lvs[n]? = some l:=by
 cases h with
 | leaf n _ h => exact ⟨n,rfl,h⟩
 | node n => omega
theorem Evals.node_inv {P : List (List Nat)} {st : DSt} {cs : List Nat} {t : Int} {l : List Nat} (h : Evals P st cs t l) (ht : 0 <= t) : ∃ (n sc : Nat) (nx : List Int) (t' : Int),t = (n : Int) /\ st.nds[n]? = some (sc,nx) /\ nx[(P[sc]?.getD []).idxOf (cs[sc]?.getD 0)]? = some t' /\ Evals P st cs t' l:=by
 cases h with
 | leaf n => omega
 | node n sc nx t' _ h1 h2 h3 => exact ⟨n,sc,nx,t',rfl,h1,h2,h3⟩
def dmz (st : DSt) (n : Nat) (t : Int) : Nat:=if t < 0 then 0 else n - ((st.nds[t.toNat]?).map (·.1)).getD 0
theorem dmz_step {st : DSt} {n k sc : Nat} {nx : List Int} {t : Int} (hk : st.nds[k]? = some (sc,nx)) (hs : sc < n) (ht : TOk st (sc + 1) t) : dmz st n t < dmz st n (k : Int):=by
 have e : dmz st n (k : Int) = n - sc:=by
  unfold dmz
  rw [if_neg (by omega),show ((k : Int)).toNat = k from rfl,hk]; rfl
 rw [e]
 rcases ht with ⟨m,rfl,_⟩ | ⟨m,y,rfl,hy,hle⟩
 ·unfold dmz; rw [if_pos (by omega)]; omega
 ·unfold dmz
  rw [if_neg (by omega),show ((m : Int)).toNat = m from rfl,hy]
  show n - y.1 < n - sc
  omega
theorem dfind_ok (K : Nat) (x : Dv) (scs : List Sc) (st : DSt) (root : Int) (cv : Value) (cs l : List Nat) (w : World) (h : DgX K w x scs st root) (hv : DgV scs st root) (hg : ScGood scs) (hc : Nats K w cv cs) (hcs : CellsIn (pcs scs) cs) (hev : Evals (pcs scs) st cs root l) (hl : l.length <= 2 ^ 40) (hK : K <= w.heap.size) :
  Calls Tryz.prog 27 #[x.agg,cv] w fun e w' => ∃ v,e = .returned (.tuple #[v,.int .i64 0]) /\ OwnN w.heap.size w' v l /\ Below w.heap.size w w':=by
 obtain ⟨l1,l2,l3⟩:=h.lens
 obtain ⟨n,hn⟩ : ∃ n,scs.length = n:=⟨_,rfl⟩
 have hn16:=hv.len
 have hcl : cs.length = n:=by rw [hcs.1]; unfold pcs; rw [List.length_map]; exact hn
 obtain ⟨ca,cm,rfl,hcm1,hcm2⟩:=hc.form
 have hfit : ∀ W,Below w.heap.size w W -> Calls Tryz.prog 62 #[x.agg,.slice ca cs.length cm] W fun e w' => e = .returned (.bool true) /\ Below W.heap.size W w':=fun W hb => dfit_ok W.heap.size x scs st root _ cs W (h.below hb hK (by have := hb.size; omega)) hv hg (hc.below hb hK (by have := hb.size; omega)) hcs (Nat.le_refl _)
 obtain ⟨⟨sa,sn,sm⟩,⟨na,nn,nm⟩,⟨la,ln,lm⟩,rt⟩:=x
 simp only at l1 l2 l3
 have hs:=h.s
 have hnd:=h.n
 have hlv:=h.l
 have hrt : rt = root:=h.r
 dsimp only at hs hnd hlv
 obtain ⟨_,_,hs1,hs2,hs3⟩:=hs.form
 obtain ⟨_,_,hd1,hd2,hd3⟩:=hnd.form
 obtain ⟨_,_,hl1,hl2,hl3⟩:=hlv.form
 simp only [Value.slice.injEq,Sl.val] at hs1 hd1 hl1
 obtain ⟨rfl,rfl,rfl⟩:=hs1
 obtain ⟨rfl,rfl,rfl⟩:=hd1
 obtain ⟨rfl,rfl,rfl⟩:=hl1
 subst hrt
 clear l1 l2 l3
 obtain ⟨m,hm⟩ : ∃ m,st.nds.length = m:=⟨_,rfl⟩
 obtain ⟨q,hq⟩ : ∃ q,st.lvs.length = q:=⟨_,rfl⟩
 have hm40:=hv.nsz
 have hq40:=hv.lsz
 rw [hn] at hs hs2 hn16 hfit ⊢
 rw [hm] at hnd hd2 hm40 hfit ⊢
 rw [hq] at hlv hl2 hq40 hfit ⊢
 rw [hcl] at hc hcm1 hfit ⊢
 obtain ⟨W1,hW1⟩ : ∃ W1,w.alloc (.cells #[.slice sa n sm,.slice na m nm,.slice la q lm,.int .i64 rt] 29) = W1:=⟨_,rfl⟩
 have b1 : Below w.heap.size w W1:=by rw [<- hW1]; exact (Below.refl _ _).alloc (Nat.le_refl _) _
 have q1 : Blk W1 w.heap.size #[.slice sa n sm,.slice na m nm,.slice la q lm,.int .i64 rt] 29:=by rw [<- hW1]; exact Blk.new w _ _
 have s1 : W1.heap.size = w.heap.size + 1:=by rw [<- hW1]; simp
 have hfit1:=hfit W1 b1
 obtain ⟨T,hT⟩ : ∃ T,w.heap.size = T:=⟨_,rfl⟩
 have HT:=Lib.hid hT
 have HW:=Lib.hid hW1
 rw [hT] at b1 q1 s1 hK ⊢
 have HS:=Lib.hid hs
 have HND:=Lib.hid hnd
 have HLV:=Lib.hid hlv
 have HC:=Lib.hid hc
 have HCS:=Lib.hid hcs
 have HN:=Lib.hid hn
 have HM:=Lib.hid hm
 have HQ:=Lib.hid hq
 have HCL:=Lib.hid hcl
 have HG:=Lib.hid hg
 have HV:=Lib.hid hv
 have HB1:=Lib.hid b1
 have HQ1:=Lib.hid q1
 have S1:=Lib.hid s1
 have HFIT:=Lib.hid hfit1
 have HEV:=Lib.hid hev
 unfold maxLen at hcm2 hs3 hd3 hl3
 have hT1 : T < W1.heap.size:=by omega
 obtain ⟨c0,c1,c2,c3⟩:=q1.four
 dsimp only [Dv.agg,Dv.cells,Sl.val] at HFIT ⊢
 clear h hs hnd hlv hc hcs hn hm hq hcl hg hv b1 q1 s1 hfit hfit1 hT hW1 hev
 go_enter Tryz.func27,Tryz.ntmps27
 go_upto_region 1 with fail
 simp only [HT.out]
 rw [HW.out]
 go_wp2_with fail
 refine HFIT.out.mono ?_
 clear HFIT c0 c1 c2 c3
 rintro en w2 ⟨rfl,hb2⟩
 have bT2 : Below T w w2:=HB1.out.trans (hb2.mono (by omega))
 have hs2':=hb2.size
 have d0 : w2.cell? ⟨T,0,none⟩ = some (.slice sa n sm):=(HQ1.out.below hb2 hT1).at rfl
 have hps:=dposs_any K (.slice sa n sm) scs w2 (HS.out.below bT2 hK (Nat.le_refl _)) HG.out (by rw [HN.out]; omega) (by omega)
 have HPS:=Lib.hid hps
 have HB2:=Lib.hid hb2
 clear hps hb2 bT2
 go_wp2_with fail
 refine HPS.out.mono ?_
 clear HPS d0
 rintro en w3 ⟨pv,pvs,pF,rfl,hno,hb3⟩
 have hnn:=hno.read
 obtain ⟨pa,pc,hpf,hpl,hpm⟩:=hnn.form
 have hpn : (scs.map cellsS).length = n:=by rw [List.length_map]; exact HN.out
 rw [hpn] at hpf hpl
 subst hpf
 unfold maxLen at hpm
 have b13 : Below W1.heap.size W1 w3:=HB2.out.trans (hb3.mono hs2')
 have d3 : w3.cell? ⟨T,3,none⟩ = some (.int .i64 rt):=(HQ1.out.below b13 hT1).at rfl
 have HNN:=Lib.hid hnn
 have HB13:=Lib.hid b13
 have HPN:=Lib.hid hpn
 have hs3':=b13.size
 clear hno hnn hb3 b13 hpn HB2 hs2'
 go_wp2_with fail
 go_loopw [7] (fun tv wr => ∃ t : Int,tv = .int .i64 t /\ Hid (TOk st 0 t) /\ Hid (Evals (pcs scs) st cs t l) /\ Hid (Below w3.heap.size w3 wr)) (fun tv _ => dmz st n (intOf tv))
 case atStart => exact ⟨rt,rfl,Lib.hid HV.out.root,HEV,Lib.hid (Below.refl _ _)⟩
 case round =>
  obtain ⟨t,rfl,HTO,HEV',HBR⟩:=hrel
  obtain ⟨wo,rfl⟩ : ∃ wo : World,wo = wr:=⟨_,rfl⟩
  have hso:=HBR.out.size
  have b1o : Below W1.heap.size W1 wo:=HB13.out.trans (HBR.out.mono hs3')
  have bTo : Below T w wo:=HB1.out.trans (b1o.mono (by omega))
  have q1o:=HQ1.out.below b1o hT1
  have HB1O:=Lib.hid b1o
  by_cases ht : 0 <= t
  ·obtain ⟨k,sc,nx,t',rfl,hk,hix,hev'⟩:=HEV'.out.node_inv ht
   have hkm : k < m:=by rw [<- HM.out]; exact (List.getElem?_eq_some_iff.1 hk).1
   obtain ⟨s,hs,hnl,htk⟩:=HV.out.node k sc nx hk
   have hscn : sc < n:=by rw [<- HN.out]; exact (List.getElem?_eq_some_iff.1 hs).1
   have hpsc : (pcs scs)[sc]? = some (cellsS s):=by unfold pcs; rw [List.getElem?_map,hs]; rfl
   rw [hpsc,Option.getD_some] at hix
   obtain ⟨c,hcc⟩ : ∃ c,cs[sc]? = some c:=⟨_,List.getElem?_eq_getElem (by rw [HCL.out]; exact hscn)⟩
   rw [hcc,Option.getD_some] at hix
   have hcm : c ∈ cellsS s:=by
    obtain ⟨p,hp,hm⟩:=HCS.out.2 sc c hcc
    rw [hpsc] at hp
    cases hp; exact hm
   have htok:=htk t' (List.mem_of_getElem? hix)
   have hdm:=dmz_step hk hscn htok
   have htok0:=htok.mono (Ext.refl _) (Nat.zero_le (sc + 1))
   obtain ⟨ng,hnr,hng⟩:=HND.out
   rw [HM.out] at hnr hng
   obtain ⟨b,o,cap,he,_,_,hbK,hcl⟩:=hnr.pos (by omega)
   simp only [Value.slice.injEq,true_and] at he
   obtain ⟨rfl,rfl⟩:=he
   have e0 : w.cell? ⟨b,o + k * 2,none⟩ = some (.int .i64 sc):=by have := hcl k hkm 0 (by omega); rw [hk] at this; simpa using this
   have e1 : w.cell? ⟨b,o + k * 2 + 1,none⟩ = some (ng k):=by have := hcl k hkm 1 (by omega); rw [Nat.add_assoc]; simpa using this
   have hgk:=hng k hkm
   rw [hk] at hgk
   dsimp only [Option.getD_some] at hgk
   obtain ⟨xb,xo,xc,hxf,hxl,hxm,hxK,hxc⟩:=RowsV.pos hgk (Nat.lt_of_le_of_lt (Nat.zero_le _) (List.getElem?_eq_some_iff.1 hix).1)
   rw [hxf] at e1
   obtain ⟨ix,hixx⟩ : ∃ ix,(cellsS s).idxOf c = ix:=⟨_,rfl⟩
   rw [hixx] at hix
   obtain ⟨p,hp⟩ : ∃ p,nx.length = p:=⟨_,rfl⟩
   have hixp : ix < p:=by rw [<- hp]; exact (List.getElem?_eq_some_iff.1 hix).1
   rw [hp] at e1 hnl hxl
   have f0:=(bTo.cell (p:=⟨b,o + k * 2,none⟩) (Nat.lt_of_lt_of_le hbK hK)).trans e0
   have f1:=(bTo.cell (p:=⟨b,o + k * 2 + 1,none⟩) (Nat.lt_of_lt_of_le hbK hK)).trans e1
   have f2 : wo.cell? ⟨xb,xo + ix,none⟩ = some (.int .i64 t'):=(bTo.cell (p:=⟨xb,xo + ix,none⟩) (Nat.lt_of_lt_of_le hxK hK)).trans (by have := hxc ix (by rw [hp]; exact hixp) 0 (by omega); rw [hix] at this; simpa using this)
   obtain ⟨cb,co,ccap,hce,_,_,hcK,hccl⟩:=Nats.pos HC.out (by rw [HCL.out]; omega)
   rw [HCL.out] at hce
   simp only [Value.slice.injEq,true_and] at hce
   obtain ⟨rfl,rfl⟩:=hce
   have f3 : wo.cell? ⟨cb,co + sc,none⟩ = some (.int .i64 (c : Int)):=(bTo.cell (p:=⟨cb,co + sc,none⟩) (Nat.lt_of_lt_of_le hcK hK)).trans (by have := hccl sc (by rw [HCL.out]; exact hscn); rw [hcc] at this; exact this)
   obtain ⟨pg,hpr,hpg⟩:=HNN.out
   rw [HPN.out] at hpr hpg
   obtain ⟨pb,po,pcap,hpe,_,_,hpbK,hpc⟩:=hpr.pos (by omega)
   simp only [Value.slice.injEq,true_and] at hpe
   obtain ⟨rfl,rfl⟩:=hpe
   have hpss:=hpg sc hscn
   rw [show (scs.map cellsS)[sc]? = some (cellsS s) from hpsc,Option.getD_some] at hpss
   obtain ⟨ga,gc,hgf,_,_⟩:=hpss.form
   rw [<- hnl] at hgf
   rw [hgf] at hpss
   have f4 : wo.cell? ⟨pb,po + sc,none⟩ = some (.slice ga p gc):=(HBR.out.cell (p:=⟨pb,po + sc,none⟩) hpbK).trans (by have := hpc sc hscn 0 (by omega); rw [hgf] at this; simpa using this)
   have g1 : wo.cell? ⟨T,1,none⟩ = some (.slice (some ⟨b,o,none⟩) m nm):=q1o.at rfl
   obtain ⟨A0,hA0⟩ : ∃ A0,wo.heap.size = A0:=⟨_,rfl⟩
   obtain ⟨W5,hW5⟩ : ∃ W,wo.alloc (.cells #[.int .i64 sc,.slice (some ⟨xb,xo,none⟩) p xc] 65) = W:=⟨_,rfl⟩
   have b5 : Below A0 wo W5:=by rw [<- hW5,<- hA0]; exact (Below.refl _ _).alloc (Nat.le_refl _) _
   have q5 : Blk W5 A0 #[.int .i64 sc,.slice (some ⟨xb,xo,none⟩) p xc] 65:=by rw [<- hW5,<- hA0]; exact Blk.new wo _ _
   have s5 : A0 < W5.heap.size:=q5.lt
   have hTA : T < A0:=by have := b1o.size; omega
   have hKA : K <= A0:=by omega
   have h3A : w3.heap.size <= A0:=by omega
   have k2:=(b5.cell (p:=⟨xb,xo + ix,none⟩) (Nat.lt_of_lt_of_le hxK hKA)).trans f2
   have k3:=(b5.cell (p:=⟨cb,co + sc,none⟩) (Nat.lt_of_lt_of_le hcK hKA)).trans f3
   have k4:=(b5.cell (p:=⟨pb,po + sc,none⟩) (Nat.lt_of_lt_of_le hpbK h3A)).trans f4
   obtain ⟨m0,m1⟩:=q5.two
   have hix5 : ∀ z,Calls Tryz.prog 63 #[.slice ga p gc,.int .i64 c] (W5.drewN z) fun e w' => e = .returned (.int .i64 ix) /\ w' = W5.drewN z:=fun z => by
    have := sindex_any W5.heap.size (.slice ga p gc) (cellsS s) c (W5.drewN z) (hpss.below (HBR.out.trans ((b5.mono h3A).trans (below_drewN2 (Below.refl _ _) z))) (Nat.le_refl _) (by have := b5.size; omega)) hcm
    rwa [hixx] at this
   have HIX:=Lib.hid hix5
   have HW5:=Lib.hid hW5
   have HA0:=Lib.hid hA0
   have HB5:=Lib.hid b5
   have HTOK:=Lib.hid htok0
   have HEV2:=Lib.hid hev'
   have HDM:=Lib.hid hdm
   have t0 : decide ((0 : Int) <= (k : Int)) = true:=decide_eq_true (by omega)
   have hp63 : p <= 9223372036854775807:=by unfold maxLen at hxm; omega
   clear ht hk hix hev' hs hnl htk hpsc hcc hcm htok hdm htok0 hnr hng hcl e0 e1 hgk hxf hxc hixx hp hccl hpr hpg hpc hpss hgf hA0 hW5 b5 q5 hix5 b1o bTo q1o f2 f3 f4 hxm
   go_upto_region 7 with fail
   rw [HW5.out]
   rw [HA0.out]
   have hix5:=HIX.out
   go_quiet (first | (go_at_call 63; refine Calls.quiet_of_same (hix5 _)))
   clear hix5
   go_wp2_with fail
   exact ⟨⟨t',rfl,HTOK,HEV2,Lib.hid (HBR.out.trans ((HB5.out.trans (below_drewN2 (Below.refl _ _) _)).mono h3A))⟩,HDM.out⟩
  ·obtain ⟨k,rfl,hlk⟩:=HEV'.out.leaf_inv (by omega)
   have hkq : k < q:=by rw [<- HQ.out]; exact (List.getElem?_eq_some_iff.1 hlk).1
   obtain ⟨lg,hlr,hlg⟩:=HLV.out
   rw [HQ.out] at hlr hlg
   obtain ⟨lb,lo,lcap,hle,_,_,hlbK,hlc⟩:=hlr.pos (by omega)
   simp only [Value.slice.injEq,true_and] at hle
   obtain ⟨rfl,rfl⟩:=hle
   have hgk:=hlg k hkq
   rw [hlk,Option.getD_some] at hgk
   obtain ⟨ea,ec,hef,hel,hem⟩:=hgk.form
   rw [hef] at hgk
   have e0 : wo.cell? ⟨lb,lo + k,none⟩ = some (.slice ea l.length ec):=(bTo.cell (p:=⟨lb,lo + k,none⟩) (Nat.lt_of_lt_of_le hlbK hK)).trans (by have := hlc k hkq 0 (by omega); rw [hef] at this; simpa using this)
   have g2 : wo.cell? ⟨T,2,none⟩ = some (.slice (some ⟨lb,lo,none⟩) q lm):=q1o.at rfl
   have hcn:=sclone_any wo.heap.size (.slice ea l.length ec) l wo (hgk.below bTo hK (by have := HB1O.out.size; omega)) hl
   have HCN:=Lib.hid hcn
   have HBTO:=Lib.hid bTo
   have t0 : decide ((0 : Int) <= -1 - (k : Int)) = false:=decide_eq_false (by omega)
   obtain ⟨t,hte⟩ : ∃ t : Int,-1 - (k : Int) = t:=⟨_,rfl⟩
   have hw : IntKind.i64.wrap (-1 - t) = (k : Int):=by rw [<- hte,show (-1 - (-1 - (k : Int))) = (k : Int) by omega]; exact IntWalk.i64_in _ (by omega)
   rw [hte] at t0 ⊢
   have hTo : T <= wo.heap.size:=by have := HB1O.out.size; omega
   clear ht hlk hlr hlg hlc hgk hef hcn b1o bTo q1o hte
   go_wp2_with fail
   refine HCN.out.mono ?_
   clear HCN
   rintro en w9 ⟨v9,rfl,ho9,hb9⟩
   go_wp2_with fail
   refine bodyPost_ret (v:=.tuple #[v9,.int .i64 0]) (by simp [results,Tryz.results27,go_sem]) rfl ?_
   exact ⟨v9,rfl,ownsRow_mono ho9 hTo,HBTO.out.trans (hb9.mono hTo)⟩
theorem fN_atD (g : Nat -> Option Value) (n : Nat) (h : n <= 2 ^ 62) : fN g (.int .i64 n) = g n:=by
 show (if 0 <= (n : Int) /\ (n : Int) <= 2 ^ 62 then g (n : Int).toNat else none) = g n
 rw [if_pos ⟨by omega,by omega⟩]
 rfl
def knF (p : Int -> Bool) (D : List Nat) : Nat -> Option Value:=fun k => if D.contains k then some (.bool (p (k : Int))) else none
theorem knF_add (p : Int -> Bool) (D : List Nat) (k : Nat) : updF (knF p D) k (.bool (p (k : Int))) = knF p (D ++ [k]):=by
 funext j
 unfold updF knF
 by_cases h : j = k
 ·subst h; simp
 ·simp [h]
structure RInv (w0 : World) (kb N : Nat) (p : Int -> Bool) (W : World) : Prop where
 grown : w0.grownBy W (some kb)
 map : ∃ D : List Nat,D.Nodup /\ (∀ k ∈ D,k < N) /\ MapIs W 3 kb D.length (fN (knF p D))
theorem nodup_len {D : List Nat} {N : Nat} (h : D.Nodup) (hl : ∀ k ∈ D,k < N) : D.length <= N:=by
 have := List.Nodup.length_le_of_subset h (l₂:=List.range N) fun k hk => List.mem_range.2 (hl k hk)
 simpa using this
theorem RInv.drewN {w0 W : World} {kb N : Nat} {p : Int -> Bool} (h : RInv w0 kb N p W) (n : Nat) : RInv w0 kb N p (W.drewN n):=⟨⟨h.grown.os,h.grown.tape,h.grown.output,h.grown.size,h.grown.block⟩,h.map⟩
theorem grown_cell {w0 W : World} {kb b i : Nat} {v : Value} (h : w0.grownBy W (some kb)) (hb : b ≠ kb) (hc : w0.cell? ⟨b,i,none⟩ = some v) : W.cell? ⟨b,i,none⟩ = some v:=h.cell hc (by simpa using hb)
structure RBox (w0 : World) (K wb db mb rb kb gw : Nat) (x : Dv) (scs : List Sc) (st : DSt) (root : Int) (Wp : List Nat -> Bool) : Prop where
 w : Blk w0 wb #[.func (.func gw) #[] #[]] 112
 d : Blk w0 db x.cells 29
 m : Blk w0 mb #[.map (some kb)] 172
 r : Blk w0 rb #[.func (.func 123) #[] #[.pointer (some ⟨wb,0,none⟩),.pointer (some ⟨db,0,none⟩),.pointer (some ⟨mb,0,none⟩),.pointer (some ⟨rb,0,none⟩)]] 132
 dg : DgX K w0 x scs st root
 dv : DgV scs st root
 kk : K <= kb
 kl : kb < w0.heap.size
 n1 : wb ≠ kb
 n2 : db ≠ kb
 n3 : mb ≠ kb
 n4 : rb ≠ kb
 eg : ∀ args w,(callFunc gw args).run Tryz.prog w = .ok (.enter gw args) w
 wc : ∀ (W : World) (v : Value) (l : List Nat),Nats W.heap.size W v l -> Calls Tryz.prog gw #[v] W fun e W' => e = .returned (.bool (Wp l)) /\ W' = W
abbrev rchV (wb db mb rb : Nat) : Array Value:=#[.pointer (some ⟨wb,0,none⟩),.pointer (some ⟨db,0,none⟩),.pointer (some ⟨mb,0,none⟩),.pointer (some ⟨rb,0,none⟩)]
theorem rch_leaf (w0 : World) (K wb db mb rb kb gw : Nat) (x : Dv) (scs : List Sc) (st : DSt) (root : Int) (Wp : List Nat -> Bool) (h : RBox w0 K wb db mb rb kb gw x scs st root Wp) (p : Int -> Bool) (hp : ∀ t,p t = true ↔ Gets st Wp t) (n : Nat) (hn : n < st.lvs.length) (W : World) (hI : RInv w0 kb st.nds.length p W) :
  Calls Tryz.prog 123 (#[.int .i64 (-1 - (n : Int))] ++ rchV wb db mb rb) W fun e W' => e = .returned (.bool (p (-1 - (n : Int)))) /\ RInv w0 kb st.nds.length p W':=by
 obtain ⟨_,_,l3⟩:=h.dg.lens
 obtain ⟨l,hl⟩ : ∃ l,st.lvs[n]? = some l:=⟨_,List.getElem?_eq_getElem hn⟩
 have hpl : p (-1 - (n : Int)) = Wp l:=by
  have := (hp (-1 - (n : Int))).trans gets_leaf
  cases hw : Wp l with
  | true => exact this.2 ⟨l,hl,hw⟩
  | false =>
   cases hq : p (-1 - (n : Int)) with
   | false => rfl
   | true =>
    obtain ⟨l',h1,h2⟩:=this.1 hq
    rw [hl] at h1; cases h1; rw [hw] at h2; cases h2
 rw [hpl]
 obtain ⟨lg,hlr,hlg⟩:=h.dg.l
 obtain ⟨lb,lo,lcap,hle,_,_,hlbK,hlc⟩:=hlr.pos (by omega)
 have hgk:=hlg n hn
 rw [hl,Option.getD_some] at hgk
 obtain ⟨ea,ec,hef,_,_⟩:=hgk.form
 have hkl:=h.kk
 have e0 : W.cell? ⟨lb,lo + n,none⟩ = some (.slice ea l.length ec):=grown_cell hI.grown (by omega) (by have := hlc n hn 0 (by omega); rw [hef] at this; simpa using this)
 have e1 : W.cell? ⟨db,2,none⟩ = some (.slice (some ⟨lb,lo,none⟩) st.lvs.length lcap):=grown_cell hI.grown h.n2 (by have := h.d.at (i:=2) (x:=x.l.val) rfl; rw [this]; exact congrArg some hle)
 have e2 : W.cell? ⟨wb,0,none⟩ = some (.func (.func gw) #[] #[]):=grown_cell hI.grown h.n1 (h.w.at rfl)
 have hnat : Nats W.heap.size W (.slice ea l.length ec) l:=by
  rw [hef] at hgk
  have hb : Below K w0 W:=⟨hI.grown.os,hI.grown.tape,hI.grown.output,hI.grown.size,fun b hb => hI.grown.block b (by have := h.kl; omega) (by simp; omega)⟩
  exact hgk.below hb (Nat.le_refl _) (by have := hI.grown.size; have := h.kl; omega)
 have hwc : ∀ z,Calls Tryz.prog gw #[.slice ea l.length ec] (W.drewN z) fun e W' => e = .returned (.bool (Wp l)) /\ W' = W.drewN z:=fun z => h.wc (W.drewN z) _ l hnat
 have eg:=h.eg
 have HWC:=Lib.hid hwc
 have HI:=Lib.hid hI
 obtain ⟨q,hq⟩ : ∃ q,st.lvs.length = q:=⟨_,rfl⟩
 rw [hq] at e1 hn
 have hq40:=h.dv.lsz
 obtain ⟨t,ht⟩ : ∃ t : Int,-1 - (n : Int) = t:=⟨_,rfl⟩
 have ht0 : decide (t < 0) = true:=decide_eq_true (by omega)
 have hw : IntKind.i64.wrap (-1 - t) = (n : Int):=by rw [<- ht,show (-1 - (-1 - (n : Int))) = (n : Int) by omega]; exact IntWalk.i64_in _ (by omega)
 obtain ⟨r,hr⟩ : ∃ r,Wp l = r:=⟨_,rfl⟩
 rw [hr] at HWC ⊢
 obtain ⟨u,hu⟩ : ∃ u,l.length = u:=⟨_,rfl⟩
 rw [hu] at HWC e0
 rw [ht]
 show Calls Tryz.prog 123 #[.int .i64 t,.pointer (some ⟨wb,0,none⟩),.pointer (some ⟨db,0,none⟩),.pointer (some ⟨mb,0,none⟩),.pointer (some ⟨rb,0,none⟩)] W _
 clear l3 hl hpl hlr hlg hle hlc hgk hef hnat hwc hI hq hq40 hr hu ht h hp
 go_enter Tryz.func123,Tryz.ntmps123
 go_upto_region 2 with fail
 have hwc:=HWC.out
 go_quiet (first | (refine Calls.quiet_of_same (hwc _)))
 clear hwc
 go_wp2_with fail
 go_ret
 exact ⟨rfl,HI.out.drewN _⟩
theorem rch_node (w0 : World) (K wb db mb rb kb gw : Nat) (x : Dv) (scs : List Sc) (st : DSt) (root : Int) (Wp : List Nat -> Bool) (h : RBox w0 K wb db mb rb kb gw x scs st root Wp) (p : Int -> Bool) (hp : ∀ t,p t = true ↔ Gets st Wp t) (k sc : Nat) (nx : List Int) (hk : st.nds[k]? = some (sc,nx)) (W : World) (hI : RInv w0 kb st.nds.length p W)
  (hrec : ∀ t ∈ nx,∀ W,RInv w0 kb st.nds.length p W -> Calls Tryz.prog 123 (#[.int .i64 t] ++ rchV wb db mb rb) W fun e W' => e = .returned (.bool (p t)) /\ RInv w0 kb st.nds.length p W') :
  Calls Tryz.prog 123 (#[.int .i64 (k : Int)] ++ rchV wb db mb rb) W fun e W' => e = .returned (.bool (p (k : Int))) /\ RInv w0 kb st.nds.length p W':=by
 obtain ⟨_,l2,_⟩:=h.dg.lens
 have hkl:=(List.getElem?_eq_some_iff.1 hk).1
 have hpk : p (k : Int) = nx.any p:=by
  have h1:=(hp (k : Int)).trans (gets_node hk)
  cases hq : nx.any p with
  | true =>
   obtain ⟨t,ht,hpt⟩:=List.any_eq_true.1 hq
   exact h1.2 ⟨t,ht,(hp t).1 hpt⟩
  | false =>
   cases hr : p (k : Int) with
   | false => rfl
   | true =>
    obtain ⟨t,ht,hg⟩:=h1.1 hr
    rw [List.any_eq_true.2 ⟨t,ht,(hp t).2 hg⟩] at hq; cases hq
 obtain ⟨ng,hnr,hng⟩:=h.dg.n
 obtain ⟨b,o,cap,he,_,_,hbK,hcl⟩:=hnr.pos (by omega)
 have hgk:=hng k hkl
 rw [hk] at hgk
 dsimp only [Option.getD_some] at hgk
 obtain ⟨xa,xc,hxf,hxl,hxm⟩:=RowsV.form hgk
 have hkk:=h.kk
 have e5 : ∀ V,w0.grownBy V (some kb) -> V.cell? ⟨b,o + k * 2 + 1,none⟩ = some (.slice xa nx.length xc):=fun V hV => grown_cell hV (by omega) (by have := hcl k hkl 1 (by omega); rw [Nat.add_assoc,<- hxf]; simpa using this)
 have e1 : ∀ V,w0.grownBy V (some kb) -> V.cell? ⟨db,1,none⟩ = some (.slice (some ⟨b,o,none⟩) st.nds.length cap):=fun V hV => grown_cell hV h.n2 (by have := h.d.at (i:=1) (x:=x.n.val) rfl; rw [this]; exact congrArg some he)
 have e6 : ∀ V,w0.grownBy V (some kb) -> V.cell? ⟨rb,0,none⟩ = some (.func (.func 123) #[] (rchV wb db mb rb)):=fun V hV => grown_cell hV h.n4 (h.r.at rfl)
 have e0 : W.cell? ⟨mb,0,none⟩ = some (.map (some kb)):=grown_cell hI.grown h.n3 (h.m.at rfl)
 have hIL : InvL (RInv w0 kb st.nds.length p) (.slice xa nx.length xc) nx:=by
  refine ⟨⟨xa,xc,rfl,hxl,hxm⟩,fun h0 => ?_⟩
  obtain ⟨xb,xo,xc',hxe,_,_,hxK,hxc⟩:=RowsV.pos hgk h0
  rw [hxf] at hxe
  simp only [Value.slice.injEq,true_and] at hxe
  obtain ⟨rfl,rfl⟩:=hxe
  exact ⟨xb,xo,xc,rfl,fun V hV i hi => grown_cell hV.grown (by omega) (by have := hxc i hi 0 (by omega); simpa using this)⟩
 have hm40:=h.dv.nsz
 obtain ⟨D,hD1,hD2,hmap⟩:=hI.map
 have hDl:=nodup_len hD1 hD2
 have hk62 : k <= 2 ^ 62:=by omega
 have hml : D.length < maxLen:=by unfold maxLen; omega
 have H1:=Lib.hid e1
 have H5:=Lib.hid e5
 have H6:=Lib.hid e6
 have HIL:=Lib.hid hIL
 have HI:=Lib.hid hI
 have HM:=Lib.hid hmap
 have HD:=Lib.hid (And.intro hD1 hD2)
 have HREC:=Lib.hid hrec
 have HPK:=Lib.hid hpk
 have HNE3:=Lib.hid h.n3
 have HMB : Hid (w0.cell? ⟨mb,0,none⟩ = some (.map (some kb))):=Lib.hid (h.m.at rfl)
 obtain ⟨m,hm⟩ : ∃ m,st.nds.length = m:=⟨_,rfl⟩
 have HMM:=Lib.hid hm
 rw [hm] at H1 hkl
 have t0 : decide ((k : Int) < 0) = false:=decide_eq_false (by omega)
 have hat : fN (knF p D) (.int .i64 (k : Int)) = knF p D k:=fN_atD _ k hk62
 obtain ⟨r,hr⟩ : ∃ r,p (k : Int) = r:=⟨_,rfl⟩
 have HR:=Lib.hid hr
 rw [hr]
 obtain ⟨u,hu⟩ : ∃ u,nx.length = u:=⟨_,rfl⟩
 rw [hu] at H5 HIL
 show Calls Tryz.prog 123 #[.int .i64 (k : Int),.pointer (some ⟨wb,0,none⟩),.pointer (some ⟨db,0,none⟩),.pointer (some ⟨mb,0,none⟩),.pointer (some ⟨rb,0,none⟩)] W _
 by_cases hkD : D.contains k = true
 ·have hv1 : Hid ((fN (knF p D) (.int .i64 (k : Int))).getD (.bool false) = .bool r):=Lib.hid (by rw [hat]; unfold knF; rw [if_pos hkD,hr]; rfl)
  have hv2 : Hid ((fN (knF p D) (.int .i64 (k : Int))).isSome = true):=Lib.hid (by rw [hat]; unfold knF; rw [if_pos hkD]; rfl)
  clear l2 hpk hnr hng he hcl hgk hxf hxl hxm e1 e5 e6 hIL hD1 hD2 hmap hI h hp hk hrec hat hr hu hm hkD
  go_enter Tryz.func123,Tryz.ntmps123
  go_wp2_with (at_lookup; refine wpList_lookOk_M _ rfl _ _ 172 rfl _ keyN Tryz.underlying172 (Tryz.zeroValue4 _) rfl HM.out _ (.int .i64 (k : Int)) rfl (keyOf_Z k hk62) (.bool r) true hv1.out hv2.out ?_)
  go_ret
  exact ⟨rfl,HI.out⟩
 ·have hv1 : Hid ((fN (knF p D) (.int .i64 (k : Int))).getD (.bool false) = .bool false):=Lib.hid (by rw [hat]; unfold knF; rw [if_neg hkD]; rfl)
  have hv2 : Hid ((fN (knF p D) (.int .i64 (k : Int))).isSome = false):=Lib.hid (by rw [hat]; unfold knF; rw [if_neg hkD]; rfl)
  have hcont:=contf_any 123 (rchV wb db mb rb) (enters_of Tryz.func123 (by kernel_rfl) rfl) nx p (.slice xa u xc) (RInv w0 kb st.nds.length p) HIL.out hrec W.drew (hI.drewN 1)
  rw [<- hpk,hr] at hcont
  have HC:=Lib.hid hcont
  have EG:=h.eg
  clear EG l2 hpk hnr hng he hcl hgk hxf hxl hxm e1 e5 e6 hIL hD1 hD2 hmap hI h hp hk hrec hat hr hu hm hcont
  go_enter Tryz.func123,Tryz.ntmps123
  go_upto_region 5 with (at_lookup; refine wpList_lookOk_M _ rfl _ _ 172 rfl _ keyN Tryz.underlying172 (Tryz.zeroValue4 _) rfl HM.out _ (.int .i64 (k : Int)) rfl (keyOf_Z k hk62) (.bool false) false hv1.out hv2.out ?_)
  have qS : (fun W' => w0.grownBy W' (some kb)) W.drew:=(HI.out.drewN 1).grown
  refine region_plain (fun W' => w0.grownBy W' (some kb)) [] (by kernel_rfl) ?_
  refine wpAnyD_tp (i:=0) (v:=.pointer (some ⟨db,1,none⟩)) rfl qS ?_
  refine wpAnyD_tk (i:=1) (v:=.slice (some ⟨b,o,none⟩) m cap) rfl (.inl ⟨by kernel_rfl,fun W' hS => by have d0:=H1.out W' hS; go_simp⟩) qS ?_
  refine wpAnyD_tp (i:=2) (v:=.int .i64 (k : Int)) rfl qS ?_
  refine wpAnyD_tp (i:=3) (v:=.pointer (some ⟨b,o + k * 2,none⟩)) rfl qS ?_
  refine wpAnyD_tp (i:=4) (v:=.pointer (some ⟨b,o + k * 2 + 1,none⟩)) rfl qS ?_
  refine wpAnyD_tk (i:=5) (v:=.slice xa u xc) rfl (.inl ⟨by kernel_rfl,fun W' hS => by have d0:=H5.out W' hS; go_simp⟩) qS ?_
  refine wpAnyD_tk (i:=6) (v:=.func (.func 123) #[] (rchV wb db mb rb)) rfl (.inl ⟨by kernel_rfl,fun W' hS => by have d0:=H6.out W' hS; go_simp⟩) qS ?_
  refine wpAnyD_one (i:=7) (by kernel_rfl) rfl (by kernel_rfl) ?_
  go_simp
  refine HC.out.mono ?_
  clear HC
  rintro en w2 ⟨rfl,hi2⟩
  have qS2 : w0.grownBy w2 (some kb):=hi2.grown
  refine ⟨qS2,?_⟩
  refine wpAnyD_one (i:=8) (by kernel_rfl) rfl (by kernel_rfl) ?_
  go_simp
  refine wpAnyD_done (by kernel_rfl) ?_ _
  go_simp
  obtain ⟨D2,hE1,hE2,hmap2⟩:=hi2.map
  have hE3:=nodup_len hE1 hE2
  have hml2 : D2.length < maxLen:=by unfold maxLen; have := HMM.out; omega
  have HM2:=Lib.hid hmap2
  have HE:=Lib.hid (And.intro hE1 hE2)
  have HG2:=Lib.hid qS2
  have c0 : w2.cell? ⟨mb,0,none⟩ = some (.map (some kb)):=grown_cell qS2 HNE3.out HMB.out
  clear hi2 qS2 hE1 hE2 hE3 hmap2 qS e0
  apply (show ∀ (a : Act) (w : World),_ -> _ from by assumption)
  go_wp2_with (at_mapUpdate; refine wpList_put_M _ rfl _ _ _ 172 rfl _ keyN Tryz.underlying172 rfl HM2.out hml2 _ (.int .i64 (k : Int)) rfl (keyOf_Z k hk62) (.bool r) rfl ?_; intro w3 hm3 hg3)
  go_ret
  refine ⟨rfl,grownBy_then HG2.out hg3,?_⟩
  rw [upd_N _ _ hk62,show (.bool r : Value) = .bool (p (k : Int)) by rw [HR.out],knF_add] at hm3
  by_cases hkE : D2.contains k = true
  ·rw [show (fN (knF p D2) (.int .i64 (k : Int))).isSome = true by rw [fN_atD _ k hk62]; unfold knF; rw [if_pos hkE]; rfl] at hm3
   have e : knF p (D2 ++ [k]) = knF p D2:=by
    funext j
    unfold knF
    by_cases hj : j = k
    ·subst hj; simp; simpa using hkE
    ·simp [hj]
   rw [e] at hm3
   exact ⟨D2,HE.out.1,HE.out.2,hm3⟩
  ·rw [show (fN (knF p D2) (.int .i64 (k : Int))).isSome = false by rw [fN_atD _ k hk62]; unfold knF; rw [if_neg hkE]; rfl] at hm3
   refine ⟨D2 ++ [k],?_,fun j hj => ?_,by rw [List.length_append]; exact hm3⟩
   ·rw [List.nodup_append]
    exact ⟨HE.out.1,by simp,fun a ha b hb => by rw [List.mem_singleton.1 hb]; rintro rfl; exact hkE (List.contains_iff_mem.2 ha)⟩
   ·rcases List.mem_append.1 hj with hj | hj
    ·exact HE.out.2 j hj
    ·rw [List.mem_singleton.1 hj,HMM.out]; exact hkl
theorem rch_any (w0 : World) (K wb db mb rb kb gw : Nat) (x : Dv) (scs : List Sc) (st : DSt) (root : Int) (Wp : List Nat -> Bool) (h : RBox w0 K wb db mb rb kb gw x scs st root Wp) (p : Int -> Bool) (hp : ∀ t,p t = true ↔ Gets st Wp t) (N : Nat) : ∀ (t : Int),dmz st scs.length t <= N -> TOk st 0 t -> ∀ (W : World),RInv w0 kb st.nds.length p W →
  Calls Tryz.prog 123 (#[.int .i64 t] ++ rchV wb db mb rb) W fun e W' => e = .returned (.bool (p t)) /\ RInv w0 kb st.nds.length p W':=by
 induction N with
 | zero =>
  intro t ht hto W hI
  rcases hto with ⟨n,rfl,hn⟩ | ⟨k,y,rfl,hk,_⟩
  ·exact rch_leaf w0 K wb db mb rb kb gw x scs st root Wp h p hp n hn W hI
  ·exfalso
   obtain ⟨s,hs,_,_⟩:=h.dv.node k y.1 y.2 hk
   have hlt:=(List.getElem?_eq_some_iff.1 hs).1
   unfold dmz at ht
   rw [if_neg (by omega),show ((k : Int)).toNat = k from rfl,hk] at ht
   have : scs.length - y.1 <= 0:=ht
   omega
 | succ N ih =>
  intro t ht hto W hI
  rcases hto with ⟨n,rfl,hn⟩ | ⟨k,y,rfl,hk,_⟩
  ·exact rch_leaf w0 K wb db mb rb kb gw x scs st root Wp h p hp n hn W hI
  ·obtain ⟨sc,nx⟩:=y
   obtain ⟨s,hs,_,htk⟩:=h.dv.node k sc nx hk
   have hlt:=(List.getElem?_eq_some_iff.1 hs).1
   refine rch_node w0 K wb db mb rb kb gw x scs st root Wp h p hp k sc nx hk W hI fun t' ht' W' hI' => ?_
   have := dmz_step hk hlt (htk t' ht')
   exact ih t' (by omega) ((htk t' ht').mono (Ext.refl _) (Nat.zero_le _)) W' hI'
def LexLe (a b : List Nat) : Prop:=(∃ i : Nat,a[i]?.getD 0 < b[i]?.getD 0 /\ ∀ j : Nat,j < i -> a[j]?.getD 0 = b[j]?.getD 0) \/ ∀ j : Nat,a[j]?.getD 0 = b[j]?.getD 0
theorem cellsS_sorted (s : Sc) : (cellsS s).Pairwise (· < ·):=by
 unfold cellsS
 split
 ·exact List.Pairwise.filter _ List.pairwise_lt_range
 ·exact .nil
theorem sorted_head {l : List Nat} (h : l.Pairwise (· < ·)) {c : Nat} (hc : c ∈ l) : l.headD 0 <= c:=by
 cases l with
 | nil => cases hc
 | cons a r =>
  rcases List.mem_cons.1 hc with rfl | hc
  ·exact Nat.le_refl _
  ·exact Nat.le_of_lt (List.rel_of_pairwise_cons h hc)
section
variable {P : List (List Nat)} {st : DSt} {root : Int} {W : List Nat -> Bool}
theorem CellsIn.at {cs : List Nat} (h : CellsIn P cs) {j : Nat} (hj : j < P.length) : cs[j]?.getD 0 ∈ (P[j]?.getD []):=by
 have hl : j < cs.length:=by rw [h.1]; exact hj
 obtain ⟨p,hp,hc⟩:=h.2 j _ (List.getElem?_eq_getElem hl)
 rw [List.getElem?_eq_getElem hl,hp]; exact hc
theorem skip_cells (hP : ∀ p ∈ P,p.Pairwise (· < ·)) {a cs : List Nat} (hcs : CellsIn P cs) (s : Nat) (h0 : ∀ j,j < s -> a[j]?.getD 0 = cs[j]?.getD 0) : ∀ e,e <= P.length -> (∀ j,s <= j -> j < e -> a[j]?.getD 0 = (P[j]?.getD []).headD 0) →
  (∃ i,a[i]?.getD 0 < cs[i]?.getD 0 /\ i < e /\ ∀ j,j < i -> a[j]?.getD 0 = cs[j]?.getD 0) \/ ∀ j,j < e -> a[j]?.getD 0 = cs[j]?.getD 0
 | 0,_,_ => .inr fun j hj => absurd hj (Nat.not_lt_zero _)
 | e + 1,he,ha => by
  rcases skip_cells hP hcs s h0 e (by omega) (fun j h1 h2 => ha j h1 (by omega)) with ⟨i,h1,h2,h3⟩ | h
  ·exact .inl ⟨i,h1,by omega,h3⟩
  ·by_cases hes : e < s
   ·exact .inr fun j hj => h0 j (by omega)
   ·have h1:=ha e (by omega) (by omega)
    have hm:=hcs.at (j:=e) (by omega)
    have hp : (P[e]?.getD []).Pairwise (· < ·):=by
     rw [List.getElem?_eq_getElem (show e < P.length by omega)]
     exact hP _ (List.getElem_mem _)
    have h2:=sorted_head hp hm
    rw [<- h1] at h2
    by_cases heq : a[e]?.getD 0 = cs[e]?.getD 0
    ·refine .inr fun j hj => ?_
     by_cases hje : j = e
     ·rw [hje]; exact heq
     ·exact h j (by omega)
    ·exact .inl ⟨e,by omega,by omega,h⟩
def Least (P : List (List Nat)) (st : DSt) (root : Int) (W : List Nat -> Bool) (cells : List Nat) : Prop:=∀ cs l,CellsIn P cs -> Evals P st cs root l -> W l = true -> LexLe cells cs
structure Lead2 (P : List (List Nat)) (st : DSt) (W : List Nat -> Bool) (root t : Int) (cells : List Nat) : Prop where
 leads : Leads P st root t cells
 rest : ∀ i,tsc P st t <= i -> i < P.length -> cells[i]?.getD 0 = (P[i]?.getD []).headD 0
 tle : tsc P st t <= P.length
 min : ∀ cs l,CellsIn P cs -> Evals P st cs root l -> W l = true -> (∃ i,cells[i]?.getD 0 < cs[i]?.getD 0 /\ i < tsc P st t /\ ∀ j,j < i -> cells[j]?.getD 0 = cs[j]?.getD 0) \/ ((∀ j,j < tsc P st t -> cells[j]?.getD 0 = cs[j]?.getD 0) /\ Evals P st cs t l)
theorem Lead2.start (hP : ∀ p ∈ P,p.Pairwise (· < ·)) {cells : List Nat} (hc : cells = P.map fun p => p.headD 0) (ht : tsc P st root <= P.length) : Lead2 P st W root root cells:=by
 have hr : ∀ i,i < P.length -> cells[i]?.getD 0 = (P[i]?.getD []).headD 0:=fun i hi => by
  rw [hc,List.getElem?_map,List.getElem?_eq_getElem hi]; rfl
 refine ⟨Leads.start _,fun i _ => hr i,ht,fun cs l hcs hev hw => ?_⟩
 rcases skip_cells hP hcs 0 (fun j hj => absurd hj (Nat.not_lt_zero _)) (tsc P st root) ht (fun j _ hj => hr j (by omega)) with h | h
 ·exact .inl h
 ·exact .inr ⟨h,hev⟩
theorem Evals.gets {cs : List Nat} {t : Int} {l : List Nat} (h : Evals P st cs t l) (hw : W l = true) : Gets st W t:=by
 obtain ⟨n,hn,hl⟩:=h.reach
 exact ⟨n,l,hn,hl,hw⟩
theorem Lead2.step (hP : ∀ p ∈ P,p.Pairwise (· < ·)) {t : Int} {n sc i c : Nat} {nx : List Int} {cells : List Nat} (h : Lead2 P st W root (n : Int) cells) (hn : st.nds[n]? = some (sc,nx)) (ht : nx[i]? = some t) (hs : sc < tsc P st t) (hte : tsc P st t <= P.length) (hc : (P[sc]?.getD [])[i]? = some c) (hl : cells.length = P.length)
  (hmin : ∀ j t',j < i -> nx[j]? = some t' -> ¬ Gets st W t') : Lead2 P st W root t (cells.set sc c):=by
 have hscl : sc < P.length:=by omega
 have hp : (P[sc]?.getD []).Pairwise (· < ·):=by
  rw [List.getElem?_eq_getElem hscl]; exact hP _ (List.getElem_mem _)
 have hnd : (P[sc]?.getD []).Nodup:=hp.imp fun h => Nat.ne_of_lt h
 have e0 : ∀ j,j ≠ sc -> (cells.set sc c)[j]?.getD 0 = cells[j]?.getD 0:=fun j hj => by rw [List.getElem?_set_ne (Ne.symm hj)]
 have e1 : (cells.set sc c)[sc]?.getD 0 = c:=by rw [List.getElem?_set_self (by omega)]; rfl
 have htn : tsc P st (n : Int) = sc:=tsc_node hn
 refine ⟨h.leads.step hn ht hs hc hnd (by omega),fun j hj hjl => ?_,hte,fun cs l hcs hev hw => ?_⟩
 ·rw [e0 j (by omega)]; exact h.rest j (by rw [htn]; omega) hjl
 ·rcases h.min cs l hcs hev hw with ⟨k,h1,h2,h3⟩ | ⟨h1,h2⟩
  ·rw [htn] at h2
   exact .inl ⟨k,by rw [e0 k (by omega)]; exact h1,by omega,fun j hj => by rw [e0 j (by omega)]; exact h3 j hj⟩
  ·rw [htn] at h1
   generalize en : (n : Int) = u at h2
   cases h2 with
   | leaf m => omega
   | node m sc' nx' t' _ g1 g2 g3 =>
    obtain rfl : m = n:=by omega
    rw [hn] at g1
    cases g1
    have hm:=hcs.at hscl
    obtain ⟨k,hk⟩ : ∃ k,(P[sc]?.getD []).idxOf (cs[sc]?.getD 0) = k:=⟨_,rfl⟩
    rw [hk] at g2
    have hkl : k < (P[sc]?.getD []).length:=by rw [<- hk]; exact List.idxOf_lt_length_of_mem hm
    have hke : (P[sc]?.getD [])[k]? = some (cs[sc]?.getD 0):=by
     rw [List.getElem?_eq_getElem hkl]
     congr 1
     have := List.getElem_idxOf (x:=cs[sc]?.getD 0) (xs:=P[sc]?.getD []) (by rw [hk]; exact hkl)
     simpa only [hk] using this
    have hki : i <= k:=Nat.le_of_not_lt fun hlt => hmin k t' hlt g2 (g3.gets hw)
    by_cases hik : k = i
    ·subst hik
     rw [hc] at hke
     have hce:=Option.some.inj hke
     rw [ht] at g2
     cases g2
     have hb : ∀ j,j < sc + 1 -> (cells.set sc c)[j]?.getD 0 = cs[j]?.getD 0:=fun j hj => by
      by_cases hjs : j = sc
      ·rw [hjs,e1,hce]
      ·rw [e0 j hjs]; exact h1 j (by omega)
     rcases skip_cells hP hcs (sc + 1) hb (tsc P st t) hte (fun j hj1 hj2 => by rw [e0 j (by omega)]; exact h.rest j (by rw [htn]; omega) (by omega)) with hh | hh
     ·exact .inl hh
     ·exact .inr ⟨hh,g3⟩
    ·refine .inl ⟨sc,?_,by omega,fun j hj => by rw [e0 j (by omega)]; exact h1 j hj⟩
     rw [e1]
     obtain ⟨il,ie⟩:=List.getElem?_eq_some_iff.1 hc
     obtain ⟨kl,ke⟩:=List.getElem?_eq_some_iff.1 hke
     rw [<- ie,<- ke]
     exact List.pairwise_iff_getElem.1 hp i k il kl (by omega)
theorem Lead2.least {k : Nat} {cells : List Nat} (h : Lead2 P st W root (-1 - (k : Int)) cells) (hl : cells.length = P.length) : Least P st root W cells:=by
 intro cs l hcs hev hw
 rcases h.min cs l hcs hev hw with ⟨i,h1,h2,h3⟩ | ⟨h1,_⟩
 ·exact .inl ⟨i,h1,h3⟩
 ·refine .inr fun j => ?_
  rw [tsc_leaf] at h1
  by_cases hj : j < P.length
  ·exact h1 j hj
  ·rw [List.getElem?_eq_none (by omega),List.getElem?_eq_none (by rw [hcs.1]; omega)]
end
end Go.Proofs.YtlidpghnlloinaaGreatDoor
