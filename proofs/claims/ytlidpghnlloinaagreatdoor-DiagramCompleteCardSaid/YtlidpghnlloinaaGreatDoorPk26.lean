/- Contracts and plain laws, several texts in one (DSrch, DCpl). No conditions beyond those stated. -/
import Derived.Test.YtlidpghnlloinaaGreatDoorPk25
set_option maxRecDepth 100000
set_option maxHeartbeats 40000000
namespace Go.Proofs.YtlidpghnlloinaaGreatDoor
open Go.RowKit
set_option linter.unusedVariables false
theorem dsearch_ok (K : Nat) (x : Dv) (scs : List Sc) (st : DSt) (root : Int) (gw : Nat) (Wp : List Nat -> Bool) (w : World) (h : DgX K w x scs st root) (hv : DgV scs st root) (hg : ScGood scs) (hne : ∀ p ∈ pcs scs,p.Nodup /\ p ≠ []) (hK : K <= w.heap.size)
  (heg : ∀ args w,(callFunc gw args).run Tryz.prog w = .ok (.enter gw args) w)
  (hwc : ∀ (W : World) (v : Value) (l : List Nat),Nats W.heap.size W v l -> Calls Tryz.prog gw #[v] W fun e W' => e = .returned (.bool (Wp l)) /\ W' = W) :
  Calls Tryz.prog 66 #[x.agg,.func (.func gw) #[] #[]] w fun e w' => SrchQ scs st root Wp w.heap.size e w' /\ Below w.heap.size w w':=by
 obtain ⟨p,hp⟩ : ∃ p : Int -> Bool,∀ t,p t = true ↔ Gets st Wp t:=by
  classical
  exact ⟨fun t => decide (Gets st Wp t),fun t => by simp⟩
 have hmm:=@run_makeMap Tryz.prog
 have hstf : ∀ (a : Addr) (f : Fn) (b c : Array Value) (m : Mode) (W : World),(store a (.func f b c) m).run Tryz.prog W = stored Tryz.prog W a (.func f b c) m:=fun a f b c m W => run_store Tryz.prog W a _ m rfl
 obtain ⟨T,hT⟩ : ∃ T,w.heap.size = T:=⟨_,rfl⟩
 obtain ⟨kn,hL⟩:=srch_laid w x.cells gw T hT
 obtain ⟨W1,hW1⟩ : ∃ W1,srchW w x.cells gw T = W1:=⟨_,rfl⟩
 obtain ⟨W2,hW2⟩ : ∃ W2,(srchW w x.cells gw T).setCell ⟨T + 4,0,none⟩ (rchC T) = W2:=⟨_,rfl⟩
 rw [hW2] at hL
 rw [hW1] at kn hW2
 obtain ⟨n0,n1⟩:=kn.one
 have hbox : RBox W2 K (T + 1) T (T + 3) (T + 4) (T + 2) gw x scs st root Wp:=⟨hL.g,hL.d,hL.m,hL.r,h.below hL.bel (by omega) (Nat.le_refl _),hv,by omega,by rw [hL.size]; omega,by omega,by omega,by omega,by omega,heg,hwc⟩
 have hrch:=rch_any W2 K (T + 1) T (T + 3) (T + 4) (T + 2) gw x scs st root Wp hbox p hp
 have hI0 : RInv W2 (T + 2) st.nds.length p W2:=RInv.fresh ⟨[],List.nodup_nil,fun k hk => (by cases hk),hL.k p⟩
 have hroot:=hrch _ root (Nat.le_refl _) hv.root W2 hI0
 obtain ⟨⟨sa,sn,sm⟩,⟨na,nn,nm⟩,⟨la,ln,lm⟩,rt⟩:=x
 have hrt : rt = root:=h.r
 subst hrt
 obtain ⟨n,hn⟩ : ∃ n,scs.length = n:=⟨_,rfl⟩
 have hn16:=hv.len
 rw [hn] at hn16
 obtain ⟨M,hM⟩ : ∃ M,st.nds.length = M:=⟨_,rfl⟩
 rw [hM] at hroot
 have HN:=Lib.hid hn
 have HM:=Lib.hid hM
 have HT:=Lib.hid hT
 have HW1:=Lib.hid hW1
 have HW2:=Lib.hid hW2
 have HR0:=Lib.hid hroot
 have HS:=Lib.hid h.s
 have HL:=Lib.hid hL
 have HV:=Lib.hid hv
 have HG:=Lib.hid hg
 have HNE:=Lib.hid hne
 have HP:=Lib.hid hp
 have HBOX:=Lib.hid hbox
 have c3 : W2.cell? ⟨T,3,none⟩ = some (.int .i64 rt):=hL.d.at rfl
 have c4 : W2.cell? ⟨T + 4,0,none⟩ = some (rchC T):=hL.r.at rfl
 dsimp only [Dv.agg,Dv.cells,Sl.val] at HW1 HL ⊢
 rw [hT] at hK ⊢
 obtain ⟨pr,hpr⟩ : ∃ pr,p rt = pr:=⟨_,rfl⟩
 rw [hpr] at HR0
 have HPR:=Lib.hid hpr
 clear h hv hg hne hp hwc heg hT hL kn hW1 hW2 hbox hrch hI0 hroot hn hM hpr
 go_enter Tryz.func66,Tryz.ntmps66
 go_upto_region 3 with fail
 simp only [HT.out,Nat.add_assoc,Nat.reduceAdd]
 rw [show ((((w.alloc (.cells #[.slice sa sn sm,.slice na nn nm,.slice la ln lm,.int .i64 rt] 29)).alloc (.cells #[.func (.func gw) #[] #[]] 112)).alloc (.map #[] 0)).alloc (.cells #[.map (some (T + 2))] 172)).alloc (.cells #[.nilFunc] 132) = W1 from HW1.out]
 go_upto_region 4 with fail
 rw [show W1.setCell ⟨T + 4,0,none⟩ (.func (.func 123) #[] #[.pointer (some ⟨T + 1,0,none⟩),.pointer (some ⟨T,0,none⟩),.pointer (some ⟨T + 3,0,none⟩),.pointer (some ⟨T + 4,0,none⟩)]) = W2 from HW2.out]
 clear n0 n1 hmm hstf
 go_wp2_with fail
 refine HR0.out.mono ?_
 clear HR0 c3 c4
 rintro en w3 ⟨rfl,hi3⟩
 have HI3:=Lib.hid hi3
 have b23 : Below (T + 2) W2 w3:=grown_bel hi3.grown (by rw [HL.out.size]; omega)
 have bT3 : Below T w w3:=HL.out.bel.trans (b23.mono (by omega))
 have HBT3:=Lib.hid bT3
 have hs3 : T + 5 <= w3.heap.size:=by have := hi3.grown.size; rw [HL.out.size] at this; exact this
 cases pr with
 | false =>
  clear hi3 b23 bT3
  go_wp2_with fail
  refine bodyPost_ret (v:=.tuple #[.slice none 0 0,.bool false]) (by simp [results,Tryz.results66,go_sem]) rfl ?_
  exact ⟨.inl ⟨rfl,fun hgets => by rw [(HP.out rt).2 hgets] at HPR; cases HPR.out⟩,HBT3.out⟩
 | true =>
  have d0 : w3.cell? ⟨T,0,none⟩ = some (.slice sa sn sm):=(grown_blk hi3.grown HL.out.d (by omega)).at rfl
  have hps:=dposs_any K (.slice sa sn sm) scs w3 (HS.out.below bT3 hK (by omega)) HG.out (by rw [HN.out]; omega) (by omega)
  have HPS:=Lib.hid hps
  clear hps hi3 b23 bT3
  go_wp2_with fail
  refine HPS.out.mono ?_
  clear HPS d0
  rintro en w4 ⟨pv,pvs,F,rfl,hno,hb4⟩
  have hpcs : scs.map cellsS = pcs scs:=rfl
  rw [hpcs] at hno
  obtain ⟨P,hP⟩ : ∃ P,pcs scs = P:=⟨_,rfl⟩
  have hPl : P.length = n:=by rw [<- hP]; unfold pcs; rw [List.length_map]; exact HN.out
  rw [hP] at hno
  have hnn:=hno.read
  obtain ⟨pa,pc,hpf,hpl,hpm⟩:=hnn.form
  rw [hPl] at hpf hpl
  subst hpf
  have hi4:=HI3.out.step (r:=none) (grown_of_below hb4) (by rw [HL.out.size]; omega) (fun g hg => by cases hg)
  have HI4:=Lib.hid hi4
  have hs4:=hb4.size
  obtain ⟨B4,hB4⟩ : ∃ B4,w4.heap.size = B4:=⟨_,rfl⟩
  have HB4:=Lib.hid hB4
  rw [hB4] at hs4 hnn
  have HPP:=Lib.hid hP
  have HPL:=Lib.hid hPl
  have HNO:=Lib.hid hno
  have HNN:=Lib.hid hnn
  have HBT4:=Lib.hid (HBT3.out.trans (hb4.mono (by omega)))
  have HNE2 : Hid (∀ l ∈ P,l.Nodup /\ l ≠ []):=Lib.hid (by rw [<- hP]; exact HNE.out)
  unfold maxLen at hpm
  clear hpcs hno hnn hi4 hb4 hP hPl hB4
  go_upto_region 8 with fail
  go_wp2_with fail
  go_loopw [9,27] (fun ov iv wr => ∃ i : Nat,i <= n /\ iv = .int .i64 i /\ OwnN B4 wr ov ((P.take i).map fun l => l.headD 0) /\ Below B4 w4 wr) (fun _ iv _ => n - (intOf iv).toNat)
  case atStart => exact ⟨0,Nat.zero_le _,rfl,OwnN.nil _ _,Below.refl _ _⟩
  case round =>
   obtain ⟨i,hi,rfl,hown,hbw⟩:=hrel
   obtain ⟨wo,rfl⟩ : ∃ wo : World,wo = wr:=⟨_,rfl⟩
   obtain ⟨oa,oc,hov,hoc,hocm⟩:=hown.form
   have hll : ((P.take i).map fun l => l.headD 0).length = i:=by rw [List.length_map,List.length_take,HPL.out]; omega
   obtain ⟨cl,hcl⟩ : ∃ cl,((P.take i).map fun l => l.headD 0) = cl:=⟨_,rfl⟩
   rw [hcl] at hll hown hov hoc
   rw [hll] at hov hoc
   subst hov
   have HCL:=Lib.hid hcl
   have HLL:=Lib.hid hll
   have HOWN:=Lib.hid hown
   have HBW:=Lib.hid hbw
   have hso : B4 <= wo.heap.size:=by have := hbw.size; have := HB4.out; omega
   clear hcl hll hown hbw
   by_cases hlt : i < n
   ·obtain ⟨l,hl⟩ : ∃ l,P[i]? = some l:=⟨_,List.getElem?_eq_getElem (by rw [HPL.out]; exact hlt)⟩
    have hlne:=(HNE2.out l (List.mem_of_getElem? hl)).2
    obtain ⟨c,l',rfl⟩ : ∃ c l',l = c :: l':=by cases l with
     | nil => exact absurd rfl hlne
     | cons a b => exact ⟨a,b,rfl⟩
    obtain ⟨pg,hpr,hpg⟩:=HNN.out
    rw [HPL.out] at hpr hpg
    obtain ⟨pb,po,pcap,hpe,_,_,hpbK,hpc⟩:=hpr.pos (by omega)
    simp only [Value.slice.injEq,true_and] at hpe
    obtain ⟨rfl,rfl⟩:=hpe
    have hpi:=hpg i hlt
    rw [hl,Option.getD_some] at hpi
    obtain ⟨gb,go,gc,hgf,_,hgm,hgK,hgc⟩:=Nats.pos hpi (by simp)
    have e0 : wo.cell? ⟨pb,po + i,none⟩ = some (.slice (some ⟨gb,go,none⟩) (c :: l').length gc):=(HBW.out.cell (p:=⟨pb,po + i,none⟩) hpbK).trans (by have := hpc i hlt 0 (by omega); rw [hgf] at this; simpa using this)
    have e1 : wo.cell? ⟨gb,go,none⟩ = some (.int .i64 (c : Int)):=(HBW.out.cell (p:=⟨gb,go,none⟩) hgK).trans (by have := hgc 0 (by simp); simpa using this)
    obtain ⟨u,hu⟩ : ∃ u,(c :: l').length = u:=⟨_,rfl⟩
    have hu0 : 0 < u:=by rw [<- hu]; simp
    rw [hu] at e0
    have hts : (P.take (i + 1)).map (fun l => l.headD 0) = cl ++ [c]:=by rw [List.take_add_one,hl,<- HCL.out]; simp
    have HTS:=Lib.hid hts
    have hl1 : cl.length + 1 <= 2 ^ 40:=by rw [HLL.out]; omega
    have HL1:=Lib.hid hl1
    clear hl hlne hpr hpg hpc hpi hgf hgc hu hts hl1
    go_wp2_with (at_builtin; refine wpList_append_N rfl (.tmp 31) (.tmp 35) rfl rfl rfl (HOWN.out.old ((Below.refl _ _).alloc (Nat.le_refl _) _) (Nat.le_refl _)) ((Blk.new wo #[Z c] _).at rfl) HL1.out (by simp; omega) ?_; intro g1 cap1 w5 hown5 hg5 hat5)
    have hb5 : Below B4 w4 w5:=(HBW.out.alloc hso _).grown hg5 (by simp; omega) (fun r hr => (ownsRow_cells HOWN.out hr).1)
    exact ⟨⟨i + 1,by omega,by go_num,by rw [HTS.out]; exact hown5,hb5⟩,by simp [intOf]; omega⟩
   ·obtain rfl : i = n:=by omega
    have hcin : CellsIn P cl:=by
     have := first_cells (P:=P) fun l hl => (HNE2.out l hl).2
     rw [<- HCL.out,List.take_of_length_le (by rw [HPL.out]; exact Nat.le_refl _)]
     exact this
    have HCIN:=Lib.hid hcin
    have HPS : Hid (∀ p ∈ P,p.Pairwise (· < ·)):=Lib.hid (by rw [<- HPP.out]; intro q hq; unfold pcs at hq; obtain ⟨s,_,rfl⟩:=List.mem_map.1 hq; exact cellsS_sorted s)
    have HTS : Hid (∀ t,TOk st 0 t -> tsc P st t <= P.length):=Lib.hid fun t ht => by
     rcases ht with ⟨m,rfl,_⟩ | ⟨m,y,rfl,hy,_⟩
     ·rw [tsc_leaf]; exact Nat.le_refl _
     ·rw [tsc_node (nx:=y.2) hy]
      obtain ⟨s,hs,_⟩:=HV.out.node m y.1 y.2 hy
      rw [HPL.out,<- HN.out]; exact Nat.le_of_lt (List.getElem?_eq_some_iff.1 hs).1
    have HLD0 : Hid (Lead2 P st Wp rt rt cl):=Lib.hid (Lead2.start HPS.out (by rw [<- HCL.out,List.take_of_length_le (by rw [HPL.out]; exact Nat.le_refl _)]) (HTS.out rt HV.out.root))
    have hi5:=HI4.out.step (r:=none) (grown_of_below (by rw [HB4.out]; exact HBW.out)) (by rw [HL.out.size]; omega) (fun g hg => by cases hg)
    have HI5:=Lib.hid hi5
    have hno5 : NO w3.heap.size wo (.slice pa i pc) P pvs F:=HNO.out.old HBW.out (by rw [HB4.out]; exact Nat.le_refl _)
    have HNO5:=Lib.hid hno5
    have HF : Hid (∀ g,(Value.slice oa i oc).ownBlock = some g -> B4 <= g /\ ¬ F g /\ (Value.slice pa i pc).ownBlock ≠ some g):=Lib.hid fun g hg => by
     have h1:=(ownsRow_cells HOWN.out hg).1
     refine ⟨h1,fun hF => ?_,fun e => ?_⟩
     ·have := (HNO.out.rng g hF).2; have := HB4.out; omega
     ·have := HNO.out.own.lt e; have := HB4.out; omega
    have hso2 : T + 5 <= wo.heap.size:=by omega
    have d3 : wo.cell? ⟨T,3,none⟩ = some (.int .i64 rt):=(grown_blk hi5.grown HL.out.d (by omega)).at rfl
    have hbTo : Below T w wo:=HBT4.out.trans (HBW.out.mono (by omega))
    have HBTO:=Lib.hid hbTo
    obtain ⟨wl,hwl⟩ : ∃ wl : World,wl = wo:=⟨_,rfl⟩
    have HWL:=Lib.hid hwl
    clear hcin hi5 hno5 hbTo hwl
    go_wp2_with fail
    go_loopw [12] (fun tv wr => ∃ (t : Int) (cs : List Nat),tv = .int .i64 t /\ Hid (TOk st 0 t) /\ Hid (p t = true) /\ Hid (CellsIn P cs) /\ Hid (Lead2 P st Wp rt t cs) /\ Hid (RInv W2 (T + 2) M p wr) /\ Hid (OwnN B4 wr (.slice oa i oc) cs) /\ Hid (NO w3.heap.size wr (.slice pa i pc) P pvs F)) (fun tv _ => dmz st i (intOf tv))
    case atStart => exact ⟨rt,cl,rfl,Lib.hid HV.out.root,HPR,HCIN,HLD0,HI5,HOWN,HNO5⟩
    case round =>
     clear HI3 HI4 HI5 HNO5 HOWN HBW HCIN HCL HLL HNO HNN HBTO HBT4 HBT3 d3 hso hso2 hocm hoc
     obtain ⟨t,cs,rfl,HTO,HPT,HCI,HLD,HRI,HOW,HNR⟩:=hrel
     obtain ⟨wq,rfl⟩ : ∃ wq : World,wq = wr:=⟨_,rfl⟩
     have hboxo:=HBOX.out.go HRI.out.grown
     have hLq : T + 5 <= wq.heap.size:=by have := HRI.out.grown.size; rw [HL.out.size] at this; exact this
     have hcl : cs.length = i:=by rw [HCI.out.1]; exact HPL.out
     have HCSL:=Lib.hid hcl
     clear hcl
     by_cases ht : 0 <= t
     ·obtain ⟨k,y,rfl,hk,_⟩ : ∃ (k : Nat) (y : Nat × List Int),t = (k : Int) /\ st.nds[k]? = some y /\ 0 <= y.1:=by
       rcases HTO.out with ⟨m,rfl,_⟩ | ⟨k,y,rfl,hk,hy⟩
       ·omega
       ·exact ⟨k,y,rfl,hk,hy⟩
      obtain ⟨sc,nx⟩:=y
      have hkm : k < M:=by rw [<- HM.out]; exact (List.getElem?_eq_some_iff.1 hk).1
      obtain ⟨s,hs,hnl,htk⟩:=HV.out.node k sc nx hk
      have hscn : sc < i:=by rw [<- HN.out]; exact (List.getElem?_eq_some_iff.1 hs).1
      have hpsc : P[sc]? = some (cellsS s):=by rw [<- HPP.out]; unfold pcs; rw [List.getElem?_map,hs]; rfl
      obtain ⟨t1,ht1,hg1⟩:=(gets_node hk).1 ((HP.out _).1 HPT.out)
      have hany : nx.any p = true:=List.any_eq_true.2 ⟨t1,ht1,(HP.out t1).2 hg1⟩
      obtain ⟨ix,hixx⟩ : ∃ ix,nx.findIdx p = ix:=⟨_,rfl⟩
      have hixl : ix < nx.length:=by rw [<- hixx]; exact List.findIdx_lt_length_of_exists (by simpa using hany)
      obtain ⟨t',ht'⟩ : ∃ t',nx[ix]? = some t':=⟨_,List.getElem?_eq_getElem hixl⟩
      have hpt' : p t' = true:=by
       obtain ⟨hl,he⟩:=List.getElem?_eq_some_iff.1 ht'
       rw [<- he]
       have := List.findIdx_getElem (p:=p) (xs:=nx) (w:=by rw [hixx]; exact hl)
       simpa only [hixx] using this
      have hidx : idxP p nx = (ix : Int):=by unfold idxP; rw [if_pos hany,hixx]
      obtain ⟨c,hc⟩ : ∃ c,(cellsS s)[ix]? = some c:=⟨_,List.getElem?_eq_getElem (by rw [<- hnl]; exact hixl)⟩
      have hcm : c ∈ cellsS s:=List.mem_of_getElem? hc
      have hto':=htk t' (List.mem_of_getElem? ht')
      have hdm:=dmz_step (n:=i) hk hscn hto'
      have htsc : sc < tsc P st t':=by
       rcases hto' with ⟨m,rfl,_⟩ | ⟨m,y,rfl,hy,hle⟩
       ·rw [tsc_leaf,HPL.out]; exact hscn
       ·rw [tsc_node (nx:=y.2) hy]; omega
      have hnd:=(HNE2.out _ (List.mem_of_getElem? hpsc)).1
      have htok0 : TOk st 0 t':=hto'.mono (Ext.refl _) (Nat.zero_le (sc + 1))
      have hld' : Lead2 P st Wp rt t' (cs.set sc c):=HLD.out.step HPS.out hk ht' htsc (HTS.out t' htok0) (by rw [hpsc]; exact hc) (by rw [HCSL.out,HPL.out]) (fun j u hj hu hg => by
       obtain ⟨hul,hue⟩:=List.getElem?_eq_some_iff.1 hu
       have hnot:=List.not_of_lt_findIdx (p:=p) (xs:=nx) (i:=j) (by rw [hixx]; exact hj)
       have hpu:=(HP.out u).2 hg
       rw [<- hue] at hpu
       exact absurd hpu (by simpa using hnot))
      clear htok0
      have hci' : CellsIn P (cs.set sc c):=CellsIn.set HCI.out hpsc hcm
      have htok':=hto'.mono (Ext.refl _) (Nat.zero_le (sc + 1))
      obtain ⟨ng,hnr,hng⟩:=hboxo.dg.n
      obtain ⟨b,o,cap,he,_,_,hbK,hcl⟩:=hnr.pos (by rw [HM.out]; omega)
      dsimp only [Sl.val] at he
      simp only [Value.slice.injEq] at he
      obtain ⟨rfl,hnnE,_⟩:=he
      have hkn : k < nn:=by rw [hnnE,HM.out]; exact hkm
      have hkl : k < st.nds.length:=by rw [HM.out]; exact hkm
      have e0 : wq.cell? ⟨b,o + k * 2,none⟩ = some (.int .i64 sc):=by have := hcl k hkl 0 (by omega); rw [hk] at this; simpa using this
      have e1 : wq.cell? ⟨b,o + k * 2 + 1,none⟩ = some (ng k):=by have := hcl k hkl 1 (by omega); rw [Nat.add_assoc]; simpa using this
      have hgk:=hng k hkl
      rw [hk] at hgk
      dsimp only [Option.getD_some] at hgk
      obtain ⟨xb,xo,xc,hxf,hxl,hxm,hxK,hxc⟩:=RowsV.pos hgk (Nat.lt_of_le_of_lt (Nat.zero_le _) hixl)
      rw [hxf] at e1
      obtain ⟨u,hu⟩ : ∃ u,nx.length = u:=⟨_,rfl⟩
      rw [hu] at e1
      have g1 : wq.cell? ⟨T,1,none⟩ = some (.slice (some ⟨b,o,none⟩) nn nm):=hboxo.d.at rfl
      obtain ⟨A0,hA0⟩ : ∃ A0,wq.heap.size = A0:=⟨_,rfl⟩
      obtain ⟨W5,hW5⟩ : ∃ W,wq.alloc (.cells #[.int .i64 sc,.slice (some ⟨xb,xo,none⟩) u xc] 65) = W:=⟨_,rfl⟩
      have b5 : Below A0 wq W5:=by rw [<- hW5,<- hA0]; exact (Below.refl _ _).alloc (Nat.le_refl _) _
      have q5 : Blk W5 A0 #[.int .i64 sc,.slice (some ⟨xb,xo,none⟩) u xc] 65:=by rw [<- hW5,<- hA0]; exact Blk.new wq _ _
      have hg5 : wq.grownBy W5 none:=by rw [<- hW5]; exact World.grownBy_alloc wq _ none
      have hbox5:=hboxo.go (grownBy_to hg5)
      have hri5:=HRI.out.step hg5 (by rw [HL.out.size]; omega) (fun g hg => by cases hg)
      have hI5 : RInv W5 (T + 2) st.nds.length p W5:=RInv.fresh (by rw [HM.out]; exact hri5.map)
      have k0 : W5.cell? ⟨T + 4,0,none⟩ = some (rchC T):=hbox5.r.at rfl
      have hKA : K <= A0:=by omega
      have hxc5 : ∀ j,j < nx.length -> W5.cell? ⟨xb,xo + j,none⟩ = some (.int .i64 (nx[j]?.getD 0)):=fun j hj => (b5.cell (p:=⟨xb,xo + j,none⟩) (Nat.lt_of_lt_of_le hxK hKA)).trans (by have := hxc j hj 0 (by omega); simpa using this)
      have hIL : InvL (RInv W5 (T + 2) st.nds.length p) (.slice (some ⟨xb,xo,none⟩) nx.length xc) nx :=
       ⟨⟨_,xc,rfl,hxl,hxm⟩,fun _ => ⟨xb,xo,xc,rfl,fun V hV j hj => grown_cell hV.grown (by omega) (hxc5 j hj)⟩⟩
      have hrch:=rch_any W5 K (T + 1) T (T + 3) (T + 4) (T + 2) gw _ scs st rt Wp hbox5 p HP.out
      have hcall:=idxf_any 123 (rchV (T + 1) T (T + 3) (T + 4)) (enters_of Tryz.func123 (by kernel_rfl) rfl) nx p _ (RInv W5 (T + 2) st.nds.length p) hIL (fun t ht W hW => hrch _ t (Nat.le_refl _) ((htk t ht).mono (Ext.refl _) (Nat.zero_le _)) W hW) W5 hI5
      rw [hidx,HM.out,hu] at hcall
      have k5 : W5.cell? ⟨xb,xo + ix,none⟩ = some (.int .i64 t'):=by have := hxc5 ix hixl; rw [ht'] at this; exact this
      have hixu : ix < u:=by rw [<- hu]; exact hixl
      rw [hu] at hxl
      unfold maxLen at hxm
      obtain ⟨m0,m1⟩:=q5.two
      have HCALL:=Lib.hid hcall
      have HW5:=Lib.hid hW5
      have HA0:=Lib.hid hA0
      have HB5:=Lib.hid b5
      have HQ5:=Lib.hid q5
      have HTOK':=Lib.hid htok'
      have HPT':=Lib.hid hpt'
      have HLD':=Lib.hid hld'
      have HCI':=Lib.hid hci'
      have HDM:=Lib.hid hdm
      have HRI5:=Lib.hid hri5
      have HNX : Hid (xb < K):=Lib.hid hxK
      have HPSC:=Lib.hid hpsc
      have HCC:=Lib.hid hc
      have t0 : decide ((0 : Int) <= (k : Int)) = true:=decide_eq_true (by omega)
      have hTA : T + 5 <= A0:=by omega
      clear ht hk hkm hs hnl htk hpsc ht1 hg1 hany hixx hixl ht' hpt' hidx hc hcm hto' hdm htsc hnd hld' hci' htok' hnr hng hcl hnnE hkl hgk hxf hxc hu hA0 hW5 b5 q5 hg5 hbox5 hri5 hI5 hxc5 hIL hrch hcall hboxo hxK hbK
      go_upto_region 16 with fail
      rw [HW5.out]
      rw [HA0.out]
      go_wp2_with fail
      refine HCALL.out.mono ?_
      clear HCALL e0 e1 g1 t0
      rintro en w6 ⟨rfl,hi6⟩
      have hri6 : RInv W2 (T + 2) M p w6:=⟨grownBy_then HRI5.out.grown hi6.grown,hi6.map⟩
      have q6 : Blk w6 A0 #[.int .i64 sc,.slice (some ⟨xb,xo,none⟩) u xc] 65:=grown_blk hi6.grown HQ5.out (by omega)
      have k6 : w6.cell? ⟨xb,xo + ix,none⟩ = some (.int .i64 t'):=grown_cell hi6.grown (by have := HNX.out; omega) k5
      have no6 : NO w3.heap.size w6 (.slice pa i pc) P pvs F:=(HNR.out.old HB5.out (by rw [HA0.out]; exact Nat.le_refl _)).kept hi6.grown (fun b e hF => by cases e; have := (HNR.out.rng _ hF).1; omega) (fun b e hv => by cases e; have := HNR.out.own.low hv; omega)
      have ow6 : OwnN B4 w6 (.slice oa i oc) cs:=(HOW.out.old HB5.out (by rw [HA0.out]; exact Nat.le_refl _)).kept hi6.grown (.inr fun e => by have := (HF.out _ e).1; omega)
      obtain ⟨g,hg0⟩ : ∃ g,oa = some ⟨g,0,none⟩:=by
       rcases ow6.2 with ⟨hv,h0⟩ | ⟨g',cap',cur',hv,_⟩
       ·have := HCSL.out; omega
       ·simp only [Value.slice.injEq] at hv; exact ⟨g',hv.1⟩
      subst hg0
      obtain ⟨hgB,hgF,hgP⟩:=HF.out g rfl
      obtain ⟨cur,hblk⟩ : ∃ cur,Blk w6 g cur 3:=by
       rcases ow6.2 with ⟨hv,h0⟩ | ⟨g',cap',cur',hv,_,hgg,_⟩
       ·have := HCSL.out; omega
       ·simp only [Value.slice.injEq,Option.some.injEq,Addr.mk.injEq,and_true] at hv
        obtain ⟨rfl,_⟩:=hv
        exact ⟨cur',hgg⟩
      have s1 : w6.frozen? ⟨g,sc,none⟩ = false:=hblk.free sc
      obtain ⟨oldc,s0⟩ : ∃ v : Int,w6.cell? ⟨g,sc,none⟩ = some (.int .i64 v):=by
       obtain ⟨gb,go,gc,he,_,_,_,hcc⟩:=Nats.pos ow6.nats (by rw [HCSL.out]; omega)
       simp only [Value.slice.injEq,Option.some.injEq,Addr.mk.injEq,and_true] at he
       obtain ⟨⟨rfl,rfl⟩,_⟩:=he
       have := hcc sc (by rw [HCSL.out]; exact hscn)
       exact ⟨_,by simpa using this⟩
      obtain ⟨pb,po,pm,gb,go,gc,hpv,hpvs,f0,f1⟩:=no_at no6 HPSC.out HCC.out
      simp only [Value.slice.injEq] at hpv
      obtain ⟨rfl,hzz,rfl⟩:=hpv
      clear hzz
      obtain ⟨ln2,hln2⟩ : ∃ q,(cellsS s).length = q:=⟨_,rfl⟩
      have hixq : ix < ln2:=by rw [<- hln2]; exact (List.getElem?_eq_some_iff.1 HCC.out).1
      rw [hln2] at f0 hpvs
      have hgA : g ≠ A0:=fun e => by have := ownsRow_lt HOW.out (r:=g) rfl; have := HA0.out; omega
      have hb7 : w6.grownBy (w6.setCell ⟨g,sc,none⟩ (Z c)) (some g):=grownBy_setCell _ _ _ _
      have no7 : NO w3.heap.size (w6.setCell ⟨g,sc,none⟩ (Z c)) (.slice (some ⟨pb,po,none⟩) i pc) P pvs F:=no6.kept hb7 (fun b e hF => by cases e; exact hgF hF) (fun b e hv => by cases e; exact hgP hv)
      have ow7 : OwnN B4 (w6.setCell ⟨g,sc,none⟩ (Z c)) (.slice (some ⟨g,0,none⟩) i oc) (cs.set sc c):=OwnN.set ow6 (by rw [HCSL.out]; exact hscn)
      have n1 : w6.cell? ⟨A0,0,none⟩ = some (.int .i64 sc):=q6.at rfl
      have HS6 : Hid (w6.cell? ⟨A0,0,none⟩ = some (.int .i64 sc) /\ w6.cell? ⟨pb,po + sc,none⟩ = some (.slice (some ⟨gb,go,none⟩) ln2 gc) /\ w6.cell? ⟨gb,go + ix,none⟩ = some (Z c)):=Lib.hid ⟨n1,f0,f1⟩
      have HS7 : Hid ((w6.setCell ⟨g,sc,none⟩ (Z c)).cell? ⟨A0,0,none⟩ = some (.int .i64 sc) /\ (w6.setCell ⟨g,sc,none⟩ (Z c)).cell? ⟨pb,po + sc,none⟩ = some (.slice (some ⟨gb,go,none⟩) ln2 gc) /\ (w6.setCell ⟨g,sc,none⟩ (Z c)).cell? ⟨gb,go + ix,none⟩ = some (Z c)):=by
       obtain ⟨pb',po',pm',gb',go',gc',hpv',hpvs',f0',f1'⟩:=no_at no7 HPSC.out HCC.out
       simp only [Value.slice.injEq,Option.some.injEq,Addr.mk.injEq,and_true] at hpv'
       obtain ⟨⟨rfl,rfl⟩,_,rfl⟩:=hpv'
       rw [hln2] at f0' hpvs'
       rw [hpvs] at hpvs'
       simp only [Option.some.injEq,Value.slice.injEq,Addr.mk.injEq,and_true,true_and] at hpvs'
       obtain ⟨⟨rfl,rfl⟩,rfl⟩:=hpvs'
       exact Lib.hid ⟨grown_cell hb7 (Ne.symm hgA) n1,f0',f1'⟩
      have n7 : (w6.setCell ⟨g,sc,none⟩ (Z c)).cell? ⟨A0,1,none⟩ = some (.slice (some ⟨xb,xo,none⟩) u xc):=grown_cell hb7 (Ne.symm hgA) (q6.at rfl)
      have k7 : (w6.setCell ⟨g,sc,none⟩ (Z c)).cell? ⟨xb,xo + ix,none⟩ = some (.int .i64 t'):=grown_cell hb7 (by have := HNX.out; omega) k6
      have ri7:=hri6.step hb7 (by rw [HL.out.size]; omega) (fun b e => by cases e; rw [HL.out.size]; omega)
      have HRI7:=Lib.hid ri7
      have HOW7:=Lib.hid ow7
      have HNO7:=Lib.hid no7
      have HN7:=Lib.hid n7
      have HK7:=Lib.hid k7
      clear hri6 q6 k6 no6 ow6 hblk hpvs f0 f1 hln2 hb7 no7 ow7 n1 n7 k7 ri7 hi6 m0 m1 k0 k5 hgF hgP
      go_upto_region 17 with fail
      refine region_plain (fun W' => W'.cell? ⟨A0,0,none⟩ = some (.int .i64 sc) /\ W'.cell? ⟨pb,po + sc,none⟩ = some (.slice (some ⟨gb,go,none⟩) ln2 gc) /\ W'.cell? ⟨gb,go + ix,none⟩ = some (Z c)) [] (by kernel_rfl) ?_
      have qS : (fun W' : World => W'.cell? ⟨A0,0,none⟩ = some (.int .i64 sc) /\ W'.cell? ⟨pb,po + sc,none⟩ = some (.slice (some ⟨gb,go,none⟩) ln2 gc) /\ W'.cell? ⟨gb,go + ix,none⟩ = some (Z c)) w6.drew:=HS6.out
      refine wpAnyD_tp (i:=0) (v:=.slice (some ⟨g,0,none⟩) i oc) rfl qS ?_
      refine wpAnyD_tp (i:=1) (v:=.pointer (some ⟨A0,0,none⟩)) rfl qS ?_
      refine wpAnyD_tk (i:=2) (v:=.int .i64 sc) rfl (.inl ⟨by kernel_rfl,fun W' hS => by obtain ⟨x0,x1,x2⟩:=hS; go_simp⟩) qS ?_
      refine wpAnyD_tp (i:=3) (v:=.slice (some ⟨pb,po,none⟩) i pc) rfl qS ?_
      refine wpAnyD_tp (i:=4) (v:=.pointer (some ⟨A0,0,none⟩)) rfl qS ?_
      refine wpAnyD_tk (i:=5) (v:=.int .i64 sc) rfl (.inl ⟨by kernel_rfl,fun W' hS => by obtain ⟨x0,x1,x2⟩:=hS; go_simp⟩) qS ?_
      refine wpAnyD_tp (i:=6) (v:=.pointer (some ⟨pb,po + sc,none⟩)) rfl qS ?_
      refine wpAnyD_tk (i:=7) (v:=.slice (some ⟨gb,go,none⟩) ln2 gc) rfl (.inl ⟨by kernel_rfl,fun W' hS => by obtain ⟨x0,x1,x2⟩:=hS; go_simp⟩) qS ?_
      refine wpAnyD_tp (i:=8) (v:=.int .i64 ix) rfl qS ?_
      refine wpAnyD_tp (i:=9) (v:=.pointer (some ⟨gb,go + ix,none⟩)) rfl qS ?_
      refine wpAnyD_tk (i:=10) (v:=.int .i64 c) rfl (.inl ⟨by kernel_rfl,fun W' hS => by obtain ⟨x0,x1,x2⟩:=hS; go_simp⟩) qS ?_
      refine wpAnyD_tp (i:=11) (v:=.pointer (some ⟨g,sc,none⟩)) rfl qS ?_
      refine wpAnyD_one (i:=12) (by kernel_rfl) rfl (by kernel_rfl) ?_
      go_simp
      refine ⟨⟨HS6.out.1,HS7.out.2⟩,?_⟩
      refine wpAnyD_done (by kernel_rfl) ?_ _
      obtain ⟨W7,hW7⟩ : ∃ W7,w6.setCell ⟨g,sc,none⟩ (.int .i64 (c : Int)) = W7:=⟨_,rfl⟩
      have HW7:=Lib.hid hW7
      have j1 : W7.cell? ⟨A0,1,none⟩ = some (.slice (some ⟨xb,xo,none⟩) u xc):=by rw [<- hW7]; exact HN7.out
      have j2 : W7.cell? ⟨xb,xo + ix,none⟩ = some (.int .i64 t'):=by rw [<- hW7]; exact HK7.out
      have r7:=HRI7.out
      have o7:=HOW7.out
      have n7:=HNO7.out
      rw [show w6.setCell ⟨g,sc,none⟩ (Z c) = W7 from hW7] at r7 o7 n7
      have R7:=Lib.hid r7
      have O7:=Lib.hid o7
      have N7:=Lib.hid n7
      rw [hW7]
      clear hW7 r7 o7 n7 s0 s1 HS7
      go_simp
      go_wp2_with fail
      have hbd : Below W7.heap.size W7 W7.drew:=below_drewN2 (Below.refl _ _) 1
      have R8 : RInv W2 (T + 2) M p W7.drew:=R7.out.drewN 1
      have O8 : OwnN B4 W7.drew (.slice (some ⟨g,0,none⟩) i oc) (cs.set sc c):=O7.out.old hbd (Nat.le_refl _)
      have N8 : NO w3.heap.size W7.drew (.slice (some ⟨pb,po,none⟩) i pc) P pvs F:=N7.out.old hbd (Nat.le_refl _)
      exact ⟨⟨cs.set sc c,HCI',HLD',Lib.hid R8,Lib.hid O8,Lib.hid N8⟩,HDM.out⟩
     ·obtain ⟨k,rfl⟩ : ∃ k : Nat,t = -1 - (k : Int):=⟨(-1 - t).toNat,by omega⟩
      obtain ⟨l,hl,hw⟩:=gets_leaf.1 ((HP.out _).1 HPT.out)
      have hev:=HLD.out.leads cs l (fun _ _ => rfl) (.leaf k l hl)
      have hlea:=Lib.hid (HLD.out.least (by rw [HCSL.out,HPL.out]))
      have HEV:=Lib.hid hev
      have HWL:=Lib.hid hw
      have t0 : decide ((0 : Int) <= -1 - (k : Int)) = false:=decide_eq_false (by omega)
      clear hl hw hev hboxo ht
      go_wp2_with fail
      refine bodyPost_ret (v:=.tuple #[.slice oa i oc,.bool true]) (by simp [results,Tryz.results66,go_sem]) rfl ?_
      exact ⟨.inr ⟨_,cs,l,rfl,OwnN.mono HOW.out (by have := HL.out.size; omega),by rw [HPP.out]; exact HCI.out,by rw [HPP.out]; exact HEV.out,HWL.out,by rw [HPP.out]; exact hlea.out⟩,HL.out.bel.trans ((grown_bel HRI.out.grown (by rw [HL.out.size]; omega)).mono (by omega))⟩
theorem gapW (W : World) (v : Value) (l : List Nat) (h : Nats W.heap.size W v l) : Calls Tryz.prog 67 #[v] W fun e W' => e = .returned (.bool (l.length == 0)) /\ W' = W:=by
 obtain ⟨a,c,rfl,hl,hc⟩:=h.form
 obtain ⟨n,hn⟩ : ∃ n,l.length = n:=⟨_,rfl⟩
 rw [hn] at hl ⊢
 clear hn h
 unfold maxLen at hc
 go_enter Tryz.func67,Tryz.ntmps67
 go_wp2_with fail
 go_ret
 refine ⟨congrArg (fun b => Ending.returned (.bool b)) (show ((n : Int) == 0) = (n == 0) from ?_),rfl⟩
 rw [Bool.eq_iff_iff]
 simp
theorem gapE (args : Array Value) (w : World) : (callFunc 67 args).run Tryz.prog w = .ok (.enter 67 args) w:=enters_of Tryz.func67 (by kernel_rfl) rfl args w
theorem dgap_ok (K : Nat) (x : Dv) (scs : List Sc) (st : DSt) (root : Int) (w : World) (h : DgX K w x scs st root) (hv : DgV scs st root) (hg : ScGood scs) (hne : ∀ p ∈ pcs scs,p.Nodup /\ p ≠ []) (hK : K <= w.heap.size) :
  Calls Tryz.prog 29 #[x.agg] w fun e w' => SrchQ scs st root (fun l => l.length == 0) w.heap.size e w' /\ Below w.heap.size w w':=by
 obtain ⟨W1,hW1⟩ : ∃ W1,w.alloc (.cells x.cells 29) = W1:=⟨_,rfl⟩
 have b1 : Below w.heap.size w W1:=by rw [<- hW1]; exact (Below.refl _ _).alloc (Nat.le_refl _) _
 have q1 : Blk W1 w.heap.size x.cells 29:=by rw [<- hW1]; exact Blk.new w _ _
 have s1 : W1.heap.size = w.heap.size + 1:=by rw [<- hW1]; simp
 have hval:=dvalid_ok K x scs st root W1 (h.below b1 hK (Nat.le_refl _)) hv hg (by omega)
 have hsr : ∀ W2,Below W1.heap.size W1 W2 -> Calls Tryz.prog 66 #[x.agg,.func (.func 67) #[] #[]] W2 fun e w' => SrchQ scs st root (fun l => l.length == 0) W2.heap.size e w' /\ Below W2.heap.size W2 w':=fun W2 hb =>
  dsearch_ok K x scs st root 67 _ W2 (h.below (b1.trans (hb.mono (by omega))) hK (Nat.le_refl _)) hv hg hne (by have := hb.size; omega) gapE gapW
 obtain ⟨⟨sa,sn,sm⟩,⟨na,nn,nm⟩,⟨la,ln,lm⟩,rt⟩:=x
 obtain ⟨T,hT⟩ : ∃ T,w.heap.size = T:=⟨_,rfl⟩
 dsimp only [Dv.agg,Dv.cells,Sl.val] at hval hsr hW1 q1 ⊢
 rw [hT] at b1 q1 s1 ⊢
 have HT:=Lib.hid hT
 have HW:=Lib.hid hW1
 have HB1:=Lib.hid b1
 have HQ1:=Lib.hid q1
 have S1:=Lib.hid s1
 have HVAL:=Lib.hid hval
 have HSR:=Lib.hid hsr
 obtain ⟨c0,c1,c2,c3⟩:=q1.four
 clear h hv hg hne hval hsr hT hW1 b1 q1 s1
 go_enter Tryz.func29,Tryz.ntmps29
 go_upto_region 1 with fail
 simp only [HT.out]
 rw [HW.out]
 go_wp2_with fail
 refine HVAL.out.mono ?_
 clear HVAL c0 c1 c2 c3
 rintro en w2 ⟨rfl,hb2⟩
 have hs:=HSR.out w2 hb2
 have HS:=Lib.hid hs
 have hq2:=HQ1.out.below hb2 (by rw [S1.out]; omega)
 obtain ⟨c0,c1,c2,c3⟩:=hq2.four
 have hbT : Below T w w2:=HB1.out.trans (hb2.mono (by rw [S1.out]; omega))
 have HBT:=Lib.hid hbT
 have hs2 : T <= w2.heap.size:=by have := hb2.size; have := S1.out; omega
 clear hs hq2 hb2 hbT
 go_wp2_with fail
 refine HS.out.mono ?_
 clear HS
 rintro en w3 ⟨hsq,hb3⟩
 have HB3:=Lib.hid (HBT.out.trans (hb3.mono hs2))
 rcases hsq with ⟨rfl,hno⟩ | ⟨v,cs,l,rfl,ho,hci,hev,hw⟩
 ·have HNO:=Lib.hid hno
  clear hno hb3
  go_wp2_with fail
  refine bodyPost_ret (v:=.tuple #[.slice none 0 0,.bool false]) (by simp [results,Tryz.results29,go_sem]) rfl ?_
  exact ⟨.inl ⟨rfl,HNO.out⟩,HB3.out⟩
 ·have HQ : Hid (OwnN T w3 v cs /\ CellsIn (pcs scs) cs /\ Evals (pcs scs) st cs root l /\ (l.length == 0) = true /\ Least (pcs scs) st root (fun l => l.length == 0) cs):=Lib.hid ⟨OwnN.mono ho hs2,hci,hev,hw⟩
  obtain ⟨va,vc,rfl,_,_⟩:=ho.form
  obtain ⟨vn,hvn⟩ : ∃ vn,cs.length = vn:=⟨_,rfl⟩
  rw [hvn] at HQ
  rw [hvn]
  clear ho hci hev hw hb3 hvn
  go_wp2_with fail
  refine bodyPost_ret (v:=.tuple #[.slice va vn vc,.bool true]) (by simp [results,Tryz.results29,go_sem]) rfl ?_
  exact ⟨.inr ⟨_,cs,l,rfl,HQ.out⟩,HB3.out⟩
theorem overlapW (W : World) (v : Value) (l : List Nat) (h : Nats W.heap.size W v l) : Calls Tryz.prog 68 #[v] W fun e W' => e = .returned (.bool (decide (1 < l.length))) /\ W' = W:=by
 obtain ⟨a,c,rfl,hl,hc⟩:=h.form
 obtain ⟨n,hn⟩ : ∃ n,l.length = n:=⟨_,rfl⟩
 rw [hn] at hl ⊢
 clear hn h
 unfold maxLen at hc
 go_enter Tryz.func68,Tryz.ntmps68
 go_wp2_with fail
 go_ret
 refine ⟨congrArg (fun b => Ending.returned (.bool b)) (show decide ((1 : Int) < (n : Int)) = decide (1 < n) from ?_),rfl⟩
 rw [Bool.eq_iff_iff]
 simp
 omega
theorem overlapE (args : Array Value) (w : World) : (callFunc 68 args).run Tryz.prog w = .ok (.enter 68 args) w:=enters_of Tryz.func68 (by kernel_rfl) rfl args w
theorem doverlap_ok (K : Nat) (x : Dv) (scs : List Sc) (st : DSt) (root : Int) (w : World) (h : DgX K w x scs st root) (hv : DgV scs st root) (hg : ScGood scs) (hne : ∀ p ∈ pcs scs,p.Nodup /\ p ≠ []) (hK : K <= w.heap.size) :
  Calls Tryz.prog 30 #[x.agg] w fun e w' => SrchQ scs st root (fun l => decide (1 < l.length)) w.heap.size e w' /\ Below w.heap.size w w':=by
 obtain ⟨W1,hW1⟩ : ∃ W1,w.alloc (.cells x.cells 29) = W1:=⟨_,rfl⟩
 have b1 : Below w.heap.size w W1:=by rw [<- hW1]; exact (Below.refl _ _).alloc (Nat.le_refl _) _
 have q1 : Blk W1 w.heap.size x.cells 29:=by rw [<- hW1]; exact Blk.new w _ _
 have s1 : W1.heap.size = w.heap.size + 1:=by rw [<- hW1]; simp
 have hval:=dvalid_ok K x scs st root W1 (h.below b1 hK (Nat.le_refl _)) hv hg (by omega)
 have hsr : ∀ W2,Below W1.heap.size W1 W2 -> Calls Tryz.prog 66 #[x.agg,.func (.func 68) #[] #[]] W2 fun e w' => SrchQ scs st root (fun l => decide (1 < l.length)) W2.heap.size e w' /\ Below W2.heap.size W2 w':=fun W2 hb =>
  dsearch_ok K x scs st root 68 _ W2 (h.below (b1.trans (hb.mono (by omega))) hK (Nat.le_refl _)) hv hg hne (by have := hb.size; omega) overlapE overlapW
 obtain ⟨⟨sa,sn,sm⟩,⟨na,nn,nm⟩,⟨la,ln,lm⟩,rt⟩:=x
 obtain ⟨T,hT⟩ : ∃ T,w.heap.size = T:=⟨_,rfl⟩
 dsimp only [Dv.agg,Dv.cells,Sl.val] at hval hsr hW1 q1 ⊢
 rw [hT] at b1 q1 s1 ⊢
 have HT:=Lib.hid hT
 have HW:=Lib.hid hW1
 have HB1:=Lib.hid b1
 have HQ1:=Lib.hid q1
 have S1:=Lib.hid s1
 have HVAL:=Lib.hid hval
 have HSR:=Lib.hid hsr
 obtain ⟨c0,c1,c2,c3⟩:=q1.four
 clear h hv hg hne hval hsr hT hW1 b1 q1 s1
 go_enter Tryz.func30,Tryz.ntmps30
 go_upto_region 1 with fail
 simp only [HT.out]
 rw [HW.out]
 go_wp2_with fail
 refine HVAL.out.mono ?_
 clear HVAL c0 c1 c2 c3
 rintro en w2 ⟨rfl,hb2⟩
 have hs:=HSR.out w2 hb2
 have HS:=Lib.hid hs
 have hq2:=HQ1.out.below hb2 (by rw [S1.out]; omega)
 obtain ⟨c0,c1,c2,c3⟩:=hq2.four
 have hbT : Below T w w2:=HB1.out.trans (hb2.mono (by rw [S1.out]; omega))
 have HBT:=Lib.hid hbT
 have hs2 : T <= w2.heap.size:=by have := hb2.size; have := S1.out; omega
 clear hs hq2 hb2 hbT
 go_wp2_with fail
 refine HS.out.mono ?_
 clear HS
 rintro en w3 ⟨hsq,hb3⟩
 have HB3:=Lib.hid (HBT.out.trans (hb3.mono hs2))
 rcases hsq with ⟨rfl,hno⟩ | ⟨v,cs,l,rfl,ho,hci,hev,hw⟩
 ·have HNO:=Lib.hid hno
  clear hno hb3
  go_wp2_with fail
  refine bodyPost_ret (v:=.tuple #[.slice none 0 0,.bool false]) (by simp [results,Tryz.results30,go_sem]) rfl ?_
  exact ⟨.inl ⟨rfl,HNO.out⟩,HB3.out⟩
 ·have HQ : Hid (OwnN T w3 v cs /\ CellsIn (pcs scs) cs /\ Evals (pcs scs) st cs root l /\ (decide (1 < l.length)) = true /\ Least (pcs scs) st root (fun l => decide (1 < l.length)) cs):=Lib.hid ⟨OwnN.mono ho hs2,hci,hev,hw⟩
  obtain ⟨va,vc,rfl,_,_⟩:=ho.form
  obtain ⟨vn,hvn⟩ : ∃ vn,cs.length = vn:=⟨_,rfl⟩
  rw [hvn] at HQ
  rw [hvn]
  clear ho hci hev hw hb3 hvn
  go_wp2_with fail
  refine bodyPost_ret (v:=.tuple #[.slice va vn vc,.bool true]) (by simp [results,Tryz.results30,go_sem]) rfl ?_
  exact ⟨.inr ⟨_,cs,l,rfl,HQ.out⟩,HB3.out⟩
theorem completeW (W : World) (v : Value) (l : List Nat) (h : Nats W.heap.size W v l) : Calls Tryz.prog 76 #[v] W fun e W' => e = .returned (.bool (l.length != 1)) /\ W' = W:=by
 obtain ⟨a,c,rfl,hl,hc⟩:=h.form
 obtain ⟨n,hn⟩ : ∃ n,l.length = n:=⟨_,rfl⟩
 rw [hn] at hl ⊢
 clear hn h
 unfold maxLen at hc
 go_enter Tryz.func76,Tryz.ntmps76
 go_wp2_with fail
 go_ret
 refine ⟨congrArg (fun b => Ending.returned (.bool b)) (show ((n : Int) != 1) = (n != 1) from ?_),rfl⟩
 rw [Bool.eq_iff_iff]
 simp
 omega
theorem completeE (args : Array Value) (w : World) : (callFunc 76 args).run Tryz.prog w = .ok (.enter 76 args) w:=enters_of Tryz.func76 (by kernel_rfl) rfl args w
theorem dcomplete_ok (K : Nat) (x : Dv) (scs : List Sc) (st : DSt) (root : Int) (w : World) (h : DgX K w x scs st root) (hv : DgV scs st root) (hg : ScGood scs) (hne : ∀ p ∈ pcs scs,p.Nodup /\ p ≠ []) (hK : K <= w.heap.size) :
  Calls Tryz.prog 33 #[x.agg] w fun e w' => (∃ r : Bool,e = .returned (.bool r) /\ (r = true ↔ ¬ Gets st (fun l => l.length != 1) root)) /\ Below w.heap.size w w':=by
 obtain ⟨W1,hW1⟩ : ∃ W1,w.alloc (.cells x.cells 29) = W1:=⟨_,rfl⟩
 have b1 : Below w.heap.size w W1:=by rw [<- hW1]; exact (Below.refl _ _).alloc (Nat.le_refl _) _
 have q1 : Blk W1 w.heap.size x.cells 29:=by rw [<- hW1]; exact Blk.new w _ _
 have s1 : W1.heap.size = w.heap.size + 1:=by rw [<- hW1]; simp
 have hval:=dvalid_ok K x scs st root W1 (h.below b1 hK (Nat.le_refl _)) hv hg (by omega)
 have hsr : ∀ W2,Below W1.heap.size W1 W2 -> Calls Tryz.prog 66 #[x.agg,.func (.func 76) #[] #[]] W2 fun e w' => SrchQ scs st root (fun l => l.length != 1) W2.heap.size e w' /\ Below W2.heap.size W2 w':=fun W2 hb =>
  dsearch_ok K x scs st root 76 _ W2 (h.below (b1.trans (hb.mono (by omega))) hK (Nat.le_refl _)) hv hg hne (by have := hb.size; omega) completeE completeW
 obtain ⟨⟨sa,sn,sm⟩,⟨na,nn,nm⟩,⟨la,ln,lm⟩,rt⟩:=x
 obtain ⟨T,hT⟩ : ∃ T,w.heap.size = T:=⟨_,rfl⟩
 dsimp only [Dv.agg,Dv.cells,Sl.val] at hval hsr hW1 q1 ⊢
 rw [hT] at b1 q1 s1 ⊢
 have HT:=Lib.hid hT
 have HW:=Lib.hid hW1
 have HB1:=Lib.hid b1
 have HQ1:=Lib.hid q1
 have S1:=Lib.hid s1
 have HVAL:=Lib.hid hval
 have HSR:=Lib.hid hsr
 obtain ⟨c0,c1,c2,c3⟩:=q1.four
 clear h hv hg hne hval hsr hT hW1 b1 q1 s1
 go_enter Tryz.func33,Tryz.ntmps33
 go_upto_region 1 with fail
 simp only [HT.out]
 rw [HW.out]
 go_wp2_with fail
 refine HVAL.out.mono ?_
 clear HVAL c0 c1 c2 c3
 rintro en w2 ⟨rfl,hb2⟩
 have hs:=HSR.out w2 hb2
 have HS:=Lib.hid hs
 have hq2:=HQ1.out.below hb2 (by rw [S1.out]; omega)
 obtain ⟨c0,c1,c2,c3⟩:=hq2.four
 have hbT : Below T w w2:=HB1.out.trans (hb2.mono (by rw [S1.out]; omega))
 have HBT:=Lib.hid hbT
 have hs2 : T <= w2.heap.size:=by have := hb2.size; have := S1.out; omega
 clear hs hq2 hb2 hbT
 go_wp2_with fail
 refine HS.out.mono ?_
 clear HS
 rintro en w3 ⟨hsq,hb3⟩
 have HB3:=Lib.hid (HBT.out.trans (hb3.mono hs2))
 rcases hsq with ⟨rfl,hno⟩ | ⟨v,cs,l,rfl,ho,hci,hev,hw,_⟩
 ·have HNO:=Lib.hid hno
  clear hno hb3
  go_wp2_with fail
  go_ret
  exact ⟨⟨true,rfl,by simpa using HNO.out⟩,HB3.out⟩
 ·have hgets : Gets st (fun l => l.length != 1) root:=by
   obtain ⟨n,hr,hl⟩:=hev.reach
   exact ⟨n,l,hr,hl,hw⟩
  have HGE:=Lib.hid hgets
  clear ho hci hev hw hgets hb3
  go_wp2_with fail
  go_ret
  exact ⟨⟨false,rfl,⟨fun e => (by cases e),fun e => absurd HGE.out e⟩⟩,HB3.out⟩
end Go.Proofs.YtlidpghnlloinaaGreatDoor
