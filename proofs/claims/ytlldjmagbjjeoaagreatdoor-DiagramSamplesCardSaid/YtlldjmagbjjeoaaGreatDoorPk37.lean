/- Contracts and plain laws, several texts in one (DLeaf, DTgt0). No conditions beyond those stated. -/
import Derived.Test.YtlldjmagbjjeoaaGreatDoorPk30
set_option maxRecDepth 100000
set_option maxHeartbeats 40000000
namespace Go.Proofs.YtlldjmagbjjeoaaGreatDoor
open Go.RowKit
set_option linter.unusedVariables false
theorem znp {K:Nat} {w:World} {v:Value} {l:List Nat} (h:Ee K w v l):Re K w v (l.map fun n:Nat=>(n:Int)):=by
 have e:(l.map fun n:Nat=>(n:Int)).length=l.length:=List.length_map ..;unfold Re;rw[e]
 exact Au.congr h fun i hi j _=>by rw[List.getElem?_map,Ac hi];rfl
theorem zqe (K:Nat) (w:World):Re K w (.slice none 0 0) []:=Au.nil none 0 (Nat.zero_le _) (fun _=>rfl)
theorem zvf {w:World} {b:Nat} {l:List Nat} {K:Nat} (h:Blk w b (l.map Z).toArray 3) (hl:l.length<=maxLen) (hb:b<K):Ee K w (.slice (some ⟨b,0,none⟩) l.length l.length) l :=
 Au.mk_cells (Ab _) hl hb fun i hi j hj=>by
  obtain rfl:j=0:=by omega
  have := h.at (i:=i) (x:=Z (l[i]?.getD 0)) (by simp[Ac hi])
  simpa using this
theorem zcd (p:Nat->Bool) (k:Nat):(List.range (k+1)).filter p=(List.range k).filter p++if p k=true then [k]else []:=by
 rw[List.range_succ,List.filter_append];cases h:p k<;>simp[h]
theorem ztx (p:Nat->Bool) (k:Nat):((List.range k).filter p).length<=k:=by
 have := List.length_filter_le p (List.range k);rwa[List.length_range]at this
theorem zeh (x:Bdr) (ok:Ue x) {scs:List Sc} {es:List Gx} {d:Dy} {st:DSt} {cur:List Nat} (w:World) (h:BI x scs es d st st cur w)
  (De:Cu (pcs scs) cur) (In:Pe x.B w) (gW:es.length<=2^20) (Dn:st.lvs.length+1<=2^38) (L6:x.sv.n<=2^20) :
  Calls Tryz.prog 73 #[.pointer (some ⟨x.bb,0,none⟩)] w fun e w'=>e=.returned (.int .i64 (Zv st (lfS scs es cur)).1) ∧
   ∃ d',BI x scs es d' (Zv st (lfS scs es cur)).2 (Zv st (lfS scs es cur)).2 cur w'/\Fr x d d' w w':=by
 obtain⟨hC,hF,_,_⟩:=h.get;obtain⟨n,hn⟩:=Ae es.length;rw[hn]at hC hF gW;obtain⟨ca,cm,Ev,Ba,Fl⟩:=hC.form;rw[Ev]at hC;unfold maxLen at Fl;obtain⟨la,lc,Hg,Sj,Jw⟩:=h.lvs.own.form
 have dL:(List.zipWith (fun(_:List Nat) (u:Value)=>[u]) st.lvs d.ls).length=st.lvs.length:=by rw[List.length_zipWith,h.lvs.len,Nat.min_self]
 rw[dL]at Hg Sj;have aB:=Aa dL;obtain⟨T,hT⟩:=Ae w.heap.size;have HT:=Aa hT
 have zk9:x.T<=T:=by rw[<- hT];exact h.big
 have zN:x.B<=T:=by have := ok.l1;have := ok.u1;omega
 have lU:x.bb<T:=by have := ok.u1;omega
 have zqm:x.cb<T:=by have := ok.u2;omega
 have zx3:x.lm<T:=by have := ok.u4;omega
 have c2:w.cell? ⟨x.bb,2,none⟩=some (.slice la st.lvs.length lc):=by rw[<- Hg];exact h.blk.at rfl
 have c4:w.cell? ⟨x.bb,4,none⟩=some (.slice ca n cm):=by rw[<- Ev];exact h.blk.at rfl
 have c6:w.cell? ⟨x.bb,6,none⟩=some (.slice (some ⟨x.cb,0,none⟩) x.sv.n x.sv.n):=h.blk.at rfl;have c8:w.cell? ⟨x.bb,8,none⟩=some (.map (some x.lm)):=h.blk.at rfl;have HC:=Aa hC;have HF:=Aa hF;have HB:=Aa h;have Rl:=Aa In;have HN:=Aa hn;have Nl:=Aa Hg;have dG:=Aa De;obtain⟨lf,K4⟩:=Ae (lfS scs es cur);have Qp:Hid (((List.range n).filter fun i=>evG scs cur (es[i]?.getD default))=lf):=Aa (by rw[<- hn,<- K4];rfl);rw[K4];clear K4
 have zqg:Hid (∀ W,Below T w W->Ee W.heap.size W (.slice (some ⟨x.cb,0,none⟩) x.sv.n x.sv.n) cur):=Aa fun W hb=>by
  have := zvf (K:=W.heap.size) (h.cells.below hb zqm) (by rw[h.len];unfold maxLen;omega) (by have := hb.size;omega);rwa[h.len]at this
 clear hC hF In hn Hg De Ev hT dL;have h:=HB.out;clear h;go_enter Tryz.func73,Tryz.ntmps73
 go_wp2_with fail
 go_loopw [3,14] (fun ov iv wr=>∃ (k:Nat),k<=n/\iv=.int .i64 k/\Dt T wr ov ((List.range k).filter fun i=>evG scs cur (es[i]?.getD default))/\Below T w wr) (fun _ iv _=>n-(intOf iv).toNat)
 case atStart=>exact⟨0,Nat.zero_le _,rfl,World.ownsRow_nil _ _ _ _,Below.refl _ _⟩
 case round =>
  obtain⟨k,hk,rfl,Av,Cs⟩:=hrel;obtain⟨wo,rfl⟩:∃ wo:World,wo=wr:=⟨_,rfl⟩;obtain⟨oa,oc,Is,_,_⟩:=pK Av
  have lE:T<=wo.heap.size:=by have := Cs.size;have := HT.out;omega
  have Hi:=Aa Av;have Cm:=Aa Cs;have zgd:=Aa (zqg.out wo Cs);have d2:=(Cs.cell (p:=⟨x.bb,2,none⟩) lU).trans c2;have d4:=(Cs.cell (p:=⟨x.bb,4,none⟩) lU).trans c4;have d6:=(Cs.cell (p:=⟨x.bb,6,none⟩) lU).trans c6;have d8:=(Cs.cell (p:=⟨x.bb,8,none⟩) lU).trans c8;obtain⟨pl,En⟩:=Ae (((List.range k).filter fun i=>evG scs cur (es[i]?.getD default)))
  have zqi:pl.length<=n:=by rw[<- En];exact Nat.le_trans (ztx _ _) hk
  rw[En]at Av Is Hi;have Ja:=Aa En;obtain⟨q,hq⟩:=Ae pl.length;rw[hq]at Is zqi;subst Is;have HQ:=Aa hq;clear Av Cs En hq
  by_cases Aj:k<n
  ·obtain⟨b,o,cap,he,_,_,Cj,hc⟩:=HC.out.pos (by omega)
   simp only[Value.slice.injEq,true_and]at he;obtain⟨rfl,rfl⟩:=he;have e0:wo.cell? ⟨b,o+k,none⟩=some (x.fv k):=(Cm.out.cell (p:=⟨b,o+k,none⟩) (by rw[<- HT.out];exact Cj)).trans (by have := hc k Aj 0 (by omega);simpa using this);obtain⟨g,caps,B9,hg,Ao⟩:=HF.out k Aj;rw[B9]at e0;obtain⟨t,ht⟩:=Ae (evG scs cur (es[k]?.getD default));have Dj:=Ao wo _ cur (by rw[HT.out];exact Cm.out) (by rw[HT.out];exact lE) zgd.out dG.out;simp only[ht]at Dj;have Gm:=Aa Dj;have Pa:=Aa ht;clear hc Ao Dj ht B9;go_wp2_with fail
   refine Gm.out.mono ?_;clear Gm;rintro e w3 ⟨rfl,Ak⟩;have qtk:Below T wo w3:=Ak.mono lE;have Do:=Aa (Cm.out.trans qtk)
   have E0:T<=w3.heap.size:=by have := Ak.size;omega
   have qem:Hid (Dt T w3 (.slice oa q oc) pl):=Aa (Hi.out.old Ak (Ab _));clear Ak qtk
   cases t with
   | true =>
    have Rh:Hid (((List.range (k+1)).filter fun i=>evG scs cur (es[i]?.getD default))=pl++[k]):=Aa (by rw[zcd,Ja.out,if_pos Pa.out])
    have Jy:pl.length+1<=2^40:=by rw[HQ.out];omega
    go_wp2_with (at_builtin;refine xJ rfl (.tmp 25) (.tmp 27) rfl rfl rfl (qem.out.old (Af _ _) (Ab _)) ((Blk.new w3 #[Z k] _).at rfl) Jy (by simp;omega) ?_;intro g1 cap1 w5 Hh Bo Ie)
    have Aq:Below T w w5:=(Do.out.alloc E0 _).grown Bo (by simp;omega) (fun r hr=>(Or qem.out hr).1);exact⟨⟨k+1,by omega,by go_num,by rw[Rh.out];exact Hh,Aq⟩,by simp[intOf];omega⟩
   | false =>
    have Rh:Hid (((List.range (k+1)).filter fun i=>evG scs cur (es[i]?.getD default))=pl):=Aa (by rw[zcd,Ja.out,if_neg (by rw[Pa.out];simp),List.append_nil]);go_wp2_with fail
    exact⟨⟨k+1,by omega,by go_num,by rw[Rh.out];exact qem.out,Do.out⟩,by simp[intOf];omega⟩
  ·obtain rfl:k=n:=by omega
   obtain rfl:lf=pl:=by rw[<- Qp.out,Ja.out]
   have qc7:∀ z∈([]:List Int)++lf.map (fun n:Nat=>(n:Int)),-(2^62)<z/\z<2^62:=fun z hz=>by
    rw[List.nil_append]at hz;obtain⟨y,hy,rfl⟩:=List.mem_map.1 hz;rw[<- Ja.out]at hy;have := List.mem_range.1 (List.mem_filter.1 hy).1;omega
   have kM:=qyq wo.heap.size (.slice oa q oc) (.slice none 0 0) (lf.map fun n:Nat=>(n:Int)) [] wo (znp (Dt.nats Hi.out)) (zqe _ _) qc7 (by rw[List.length_map,HQ.out];simp;omega) (Ab _) ((Rl.out.on (Cm.out.mono zN)).up (by omega));rw[List.nil_append]at kM
   have Hc:(Y0 lf).length<=maxLen:=by
    have := pS (lf.map fun n:Nat=>(n:Int)) fun z hz=>qc7 z (by rw[List.nil_append];exact hz)
    rw[List.length_map,HQ.out]at this;unfold Y0 maxLen;omega
   have Zd:=Aa kM;obtain⟨key,Kb⟩:=Ae (Y0 lf);have qyo:Jf (lf.map fun n:Nat=>(n:Int))=key:=Kb;rw[qyo]at Zd;rw[Kb]at Hc;have tH:=Aa Kb;clear kM qc7 Kb qyo;go_wp2_with fail
   refine Zd.out.mono ?_;clear Zd;rintro e w3 ⟨rfl,Ak⟩;have qcg:Below T wo w3:=Ak.mono lE;have xC:Below T w w3:=Cm.out.trans qcg
   have E0:T<=w3.heap.size:=by have := Ak.size;omega
   have d2:=(qcg.cell (p:=⟨x.bb,2,none⟩) lU).trans d2;have d8:=(qcg.cell (p:=⟨x.bb,8,none⟩) lU).trans d8;have Ip:=HB.out.old (by rw[HT.out];exact xC) ok;have M4:=Aa Ip;have HM:=Aa Ip.lmap;have fP:=Aa (HB.out.fr_old ok (by rw[HT.out];exact xC));have Z8:Hid (Dt T w3 (.slice oa q oc) lf):=Aa (Hi.out.old Ak (Ab _));have Bq:=zei (l:=st.lvs) (a:=lf);rw[tH.out]at Bq;have Do:=Aa xC;clear Ip Ak qcg xC
   by_cases hi:st.lvs.idxOf lf<st.lvs.length
   ·rw[if_pos hi]at Bq
    have Bu:Hid ((fS (lmF st.lvs) (.string key)).getD (.int .i64 0)=Z (st.lvs.idxOf lf)):=Aa (by rw[bY,Bq];rfl);have Bs:Hid ((fS (lmF st.lvs) (.string key)).isSome=true):=Aa (by rw[bY,Bq];rfl)
    have Gf:Zv st lf=(-1-(st.lvs.idxOf lf:Int),st):=by unfold Zv;rw[if_pos hi]
    obtain⟨ix,Ke⟩:=Ae (st.lvs.idxOf lf);rw[Ke]at Bu hi Gf;have hw:IntKind.i64.wrap (-1-(ix:Int)) = -1-(ix:Int):=IntWalk.i64_in _ (by omega);have Pu:=Aa Gf;clear Bq Gf Ke;go_wp2_with (at_lookup;refine nO _ rfl _ _ 86 rfl _ lR Tryz.underlying86 (Tryz.zeroValue3 _) rfl HM.out _ (.string key) rfl (lY key Hc) (Z ix) true Bu.out Bs.out ?_)
    go_ret
    rw[Pu.out];exact⟨rfl,d,M4.out,fP.out⟩
   ·rw[if_neg hi]at Bq
    have Bu:Hid ((fS (lmF st.lvs) (.string key)).getD (.int .i64 0)=.int .i64 0):=Aa (by rw[bY,Bq];rfl);have Bs:Hid ((fS (lmF st.lvs) (.string key)).isSome=false):=Aa (by rw[bY,Bq];rfl)
    have Gf:Zv st lf=(-1-(st.lvs.length:Int),⟨st.nds,st.lvs++[lf]⟩):=by unfold Zv;rw[if_neg hi]
    have gQ:=Aa (zjz (l:=st.lvs) (a:=lf) hi);obtain⟨m,hm⟩:=Ae st.lvs.length;rw[hm]at d2 Gf Dn Nl aB gQ HM Sj
    have To:m<maxLen:=by unfold maxLen;omega
    have hw:IntKind.i64.wrap (-1-(m:Int)) = -1-(m:Int):=IntWalk.i64_in _ (by omega);have Pu:=Aa Gf;have wR:=Aa hm;clear Bq Gf hm hi
    go_upto_region 12 with(at_lookup;refine nO _ rfl _ _ 86 rfl _ lR Tryz.underlying86 (Tryz.zeroValue3 _) rfl HM.out _ (.string key) rfl (lY key Hc) (.int .i64 0) false Bu.out Bs.out ?_)
    have d8':w3.cell? ⟨x.bb,8,none⟩=some (.map (some x.lm)):=d8
    go_upto_region 13 with(at_mapUpdate;refine qji _ rfl _ _ _ 86 rfl _ lR Tryz.underlying86 rfl HM.out To _ (.string key) rfl (lY key Hc) (Z m) rfl ?_;intro w4 cG Vn;rw[Bs.out,qv6,<- tH.out,gQ.out]at cG)
    have mX:=M4.out.putL ok (l':=st.lvs++[lf]) Vn (by rw[List.length_append,wR.out];exact cG);have zg5:=Aa (fP.out.trans (M4.out.fr_put ok (.inr rfl) Vn));have Fi:=Vn.size
    have rI:∀ b,(Value.slice oa q oc).ownBlock=some b->T<=b/\b<w3.heap.size:=fun b hb=>⟨(Or Z8.out hb).1,cU Z8.out hb⟩
    have gU:Hid (Dt T w4 (.slice oa q oc) lf):=Aa (World.ownsRow.kept Z8.out Vn (.inr fun e=>by have := (Or Z8.out (r:=x.lm) e).1;omega));have Iv:Below w4.heap.size w4 (w4.alloc (.cells #[.slice oa q oc] 34)):=Af _ _;have rF:=mX.old Iv ok;have qcc:=Aa (zg5.out.trans (mX.fr_old ok Iv));have pY:=Aa rF;have V5:Hid (Dt T (w4.alloc (.cells #[.slice oa q oc] 34)) (.slice oa q oc) lf):=Aa (gU.out.old Iv (Ab _));have HU:=Aa rI
    have e2:w4.cell? ⟨x.bb,2,none⟩=some (.slice la m lc):=by rw[<- Nl.out];exact mX.blk.at rfl
    have qbi:Hid (Be 1 34 x.T (w4.alloc (.cells #[.slice oa q oc] 34)) (.slice la m lc) (List.zipWith (fun(_:List Nat) (u:Value)=>[u]) st.lvs d.ls)):=Aa (by rw[<- Nl.out];exact rF.lvs.own);have D6:Hid (Dg 1 [[.slice oa q oc]]):=Aa (Dg.one rfl fun u hu=>by rw[List.mem_singleton.1 hu];rfl)
    have Pz:Hid (∀ (i:Nat) (r:List Value) (j:Nat) (u:Value),([[.slice oa q oc]]:List (List Value))[i]?=some r->r[j]?=some u->(w4.alloc (.cells #[.slice oa q oc] 34)).cell? ⟨w4.heap.size,0+(i*1+j),none⟩=some u):=Aa fun i r j u h1 h2=>by
     have Jo:i=0:=by have := (List.getElem?_eq_some_iff.1 h1).1;simp at this;omega
     subst Jo;cases h1
     have Jb:j=0:=by have := (List.getElem?_eq_some_iff.1 h2).1;simp at this;omega
     subst Jb;cases h2
     exact(Blk.new w4 #[.slice oa q oc] 34).at rfl
    have zx1:x.T<=w4.heap.size:=by omega
    obtain⟨RS,Gz⟩:=Ae (List.zipWith (fun(_:List Nat) (u:Value)=>[u]) st.lvs d.ls);rw[Gz]at qbi aB;have Lw:=Aa Gz;clear Gz;clear mX Iv rF rI Vn cG d2 d4 d6 d8 d8';go_wp2_with (at_builtin;refine Q6 rfl (.tmp 60) (.tmp 62) 29 rfl Tryz.underlying29 Tryz.infoIntsG (by kernel_rfl) (by decide) rfl qbi.out (b:=w4.heap.size) (off:=0) (m:=1) (cap:=1) (ms:=[[.slice oa q oc]]) rfl rfl D6.out Pz.out (by decide) (by rw[aB.out];unfold maxLen;omega) (by rw[aB.out];omega) (by simp;omega) ?_;intro g1 cap1 w5 Hh Bo Ie;have q5:=pY.out.blk.kept Bo (fun e=>by rw[<- Nl.out]at e;have := (pY.out.llow e.symm).1;have := ok.u1;omega);have e22:=q5.at (i:=2) rfl;have f22:=q5.free 2)
    go_ret
    have hp:=pY.out.pushL ok qcc.out (l:=lf) (u:=.slice oa q oc) (G:=fun b=>(Value.slice oa q oc).ownBlock=some b) (qz4 V5.out fun b h=>h) (fun b hb=>by rw[HT.out];exact(HU.out b hb).1)
     (fun b hb=>⟨by have := (HU.out b hb).1;omega,by have := (HU.out b hb).2;simp;omega,fun e=>by have := (HB.out.llow e).2;have := (HU.out b hb).1;have := HT.out;omega,fun e=>by have := (HB.out.nlow e).2;have := (HU.out b hb).1;have := HT.out;omega⟩)
     (by rw[Nl.out];exact Bo) (by rw[Lw.out];exact Hh) (by rw[Nl.out];rcases Ie with e | e;exact .inl e;exact .inr e)
    rw[Pu.out];exact⟨rfl,_,hp.1,hp.2⟩
theorem yL (zs:List Int) {j:Nat} (h:j<zs.length):zs.toArray[j]! = zs[j]:=by
 rw[getElem!_pos zs.toArray j (by simpa using h)];simp
theorem zfz {zs:List Int} (h:zs≠[]):(Lib.compact zs).length=1 ↔ J9 zs=true:=by
 obtain⟨n,hn⟩:∃ n,zs.length=n+1:=⟨zs.length-1,by have := List.length_pos_iff.2 h;omega⟩;unfold Lib.compact Lib.compactUpTo;rw[List.length_map,hn]
 have h0:zs.headD 0=zs[0]:=by cases zs with | nil=>cases hn | cons a b=>rfl
 have zcc:0∈(List.range (n+1)).filter (Lib.keeps zs.toArray):=List.mem_filter.2 ⟨List.mem_range.2 (by omega),Lib.keeps_lt_one _ 0 (by omega)⟩;constructor
 ·intro h1
  obtain⟨a,ha⟩:=List.length_eq_one_iff.1 h1;rw[ha,List.mem_singleton]at zcc;subst zcc
  have J3:∀ j,j<n+1->zs.toArray[j]! = zs.toArray[0]! := by
   intro j
   induction j with
   | zero=>intro _;rfl
   | succ j ih =>
    intro hj
    rw[<- ih (by omega)]
    by_cases e:zs.toArray[j+1]! = zs.toArray[j]!
    ·exact e
    ·have:j+1∈(List.range (n+1)).filter (Lib.keeps zs.toArray):=List.mem_filter.2 ⟨List.mem_range.2 hj,Lib.keeps_pos e⟩
     rw[ha,List.mem_singleton]at this;omega
  unfold J9;rw[List.all_eq_true];intro t ht
  obtain⟨j,hj,rfl⟩:=List.getElem_of_mem ht;have := J3 j (by omega);rw[yL zs hj,yL zs (by omega)]at this;rw[this,h0];simp
 ·intro ha
  have e:(List.range (n+1)).filter (Lib.keeps zs.toArray)=(List.range (n+1)).filter fun j=>decide (j=0):=by
   refine List.filter_congr fun j hj=>?_
   have hj:=List.mem_range.1 hj
   by_cases Jb:j=0
   ·subst Jb;rw[Lib.keeps_lt_one _ 0 (by omega)];rfl
   ·rw[Lib.keeps_neg (by omega) ?_]
    ·simp[Jb]
    ·rw[yL zs (by omega),yL zs (by omega),qb9 ha (List.getElem_mem _),qb9 ha (List.getElem_mem _)]
  rw[e,List.range_succ_eq_map,List.filter_cons_of_pos (by simp),List.filter_map];simp
theorem Gk.nonempty {base:Nat} {w:World} {v:Value} {l:List Int} (h:Gk base w v l) (h0:l≠[]):∃ g c,v=.slice (some ⟨g,0,none⟩) l.length c/\base<=g/\g<w.heap.size/\l.length<=c/\c<=maxLen/\∀ j,w.frozen? ⟨g,j,none⟩=false:=by
 rcases id h.2 with⟨rfl,h1⟩ | ⟨g,cap,cur,rfl,hb,hg,hn,hm,_⟩
 ·exact absurd (List.eq_nil_of_length_eq_zero h1) h0
 ·exact⟨g,cap,rfl,hb,(Array.getElem?_eq_some_iff.1 hg).1,hn,hm,fun j=>Blk.free hg j⟩
theorem zkh (base:Nat) (v:Value) (l:List Int) (w:World) (h:Gk base w v l) (h0:l≠[]) (hl:l.length<=2^40) :
  Calls Tryz.prog 75 #[v] w fun e w'=>∃ v',e=.returned v'/\Gk w.heap.size w' v' l/\Below w.heap.size w w':=by
 obtain⟨g,c,rfl,_,_,hn,_,_⟩:=h.nonempty h0;refine(Tryz.slices_Clone_int g 0 l.length c l w (Ab _) (by omega) fun j hj=>?_).mono ?_
 ·have := h.at j hj
  rw[Nat.zero_add,List.getD_eq_getElem?_getD];exact this
 ·rintro e w' ⟨v',rfl,ho,_,hb⟩
  rw[List.take_length]at ho;exact⟨v',rfl,ho,hb⟩
theorem zlu (base:Nat) (v:Value) (l:List Int) (w:World) (h:Gk base w v l) (h0:l≠[]) (hl:l.length<=2^40) :
  Calls Tryz.prog 74 #[v] w fun e w'=>∃ a c,e=.returned (.slice a (Lib.compact l).length c)/\Below base w w':=by
 obtain⟨g,c,rfl,N0,_,hn,_,hf⟩:=h.nonempty h0;refine(Tryz.slices_Compact_int_cells g 0 l.length c l w (Ab _) (by omega) hn (fun j hj=>?_) fun j _=>?_).mono ?_
 ·have := h.at j hj
  rw[Nat.zero_add,List.getD_eq_getElem?_getD];exact this
 ·rw[Nat.zero_add];exact hf j
 ·rintro e w' ⟨rfl,q,rfl⟩
  rw[List.take_length];exact⟨_,_,rfl,below_setCells N0 _ _ _ ((Below.refl base w).trans ⟨rfl,rfl,rfl,Ab _,fun _ _=>rfl⟩)⟩
theorem Fr.grown {x:Bdr} {d d':Dy} {w w' w'':World} {row:Option Nat} (h:Fr x d d' w w') (hg:w'.grownBy w'' row) (hr:∀ g,row=some g->w.heap.size<=g) (hB:x.B<=w.heap.size):Fr x d d' w w'' :=
 ⟨h.bel.trans (Sq hg (fun k e=>Nat.le_trans hB (hr k e)) (Nat.le_trans hB h.bel.size)),fun b hl h1 h2 h3 h4 h5 h6=>(hg.block b (Nat.lt_of_lt_of_le hl h.bel.size) fun e=>by have := hr b e.symm;omega).trans (h.keep b hl h1 h2 h3 h4 h5 h6),h.nat,h.lat,h.f1,h.f2⟩
def zW (x:Bdr) (scs:List Sc) (es:List Gx) (Q:List (List Nat)):Prop :=
 ∀ (sc:Nat) (pre:List Nat) (st:DSt) (d:Dy) (cur:List Nat) (w:World),(pcs scs).drop sc=Q->sc<=scs.length->WF (pcs scs) (lfS scs es) st->Cu ((pcs scs).take sc) pre->BI x scs es d st st cur w->cur.take sc=pre->Pe x.B w →
  st.nds.length+Gd Q<=2^30->st.lvs.length+Gd Q<=2^30 →
  Calls Tryz.prog 38 #[.pointer (some ⟨x.bb,0,none⟩),.int .i64 sc] w fun e w'=>e=.returned (.int .i64 (tgt (lfS scs es) Q sc pre st).1) ∧
   ∃ d' cur',BI x scs es d' (tgt (lfS scs es) Q sc pre st).2 (tgt (lfS scs es) Q sc pre st).2 cur' w'/\Fr x d d' w w'/\cur'.take sc=pre
theorem zgi (x:Bdr) (ok:Ue x) (scs:List Sc) (es:List Gx) (gW:es.length<=2^20) (L6:x.sv.n<=2^20):zW x scs es []:=by
 intro sc pre st d cur w hd hs qau De h Ea In hn hl
 have Cd:sc=x.sv.n:=by
  have := congrArg List.length hd;have h2:=h.scl;simp[pcs]at this;omega
 subst Cd
 have e:cur=pre:=by rw[<- Ea,List.take_of_length_le (by rw[h.len];exact Ab _)]
 have Ba:Cu (pcs scs) cur:=by
  rw[e];rwa[List.take_of_length_le (by unfold pcs;rw[List.length_map,h.scl];exact Ab _)]at De
 have K4:=zeh x ok w h Ba In gW (by have:1<=Gd []:=Ab _;omega) L6;have Qp:=Aa K4;have c0:w.cell? ⟨x.bb,0,none⟩=some (.slice x.sv.a x.sv.n x.sv.m):=h.blk.at rfl;have Jj:=h.blk.lt;rw[<- e];have HE:=Aa Ea;have HL:=Aa h.len
 show Calls _ _ _ _ (fun e w'=>e=.returned (.int .i64 (Zv st (lfS scs es cur)).1)/\_)
 clear hd hs qau De h Ea In hn hl K4 Ba e;go_enter Tryz.func38,Tryz.ntmps38
 go_wp2_with fail
 refine Qp.out.mono ?_;clear Qp;rintro e w3 ⟨rfl,d',Ip,Id⟩;go_wp2_with fail
 go_ret
 exact⟨rfl,d',cur,Ip,Id,List.take_of_length_le (by rw[HL.out];exact Ab _)⟩
end Go.Proofs.YtlldjmagbjjeoaaGreatDoor
