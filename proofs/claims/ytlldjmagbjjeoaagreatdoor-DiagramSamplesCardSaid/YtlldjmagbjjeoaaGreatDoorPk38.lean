/- Contracts and plain laws, several texts in one (DTgt, DFree, DBuild). No conditions beyond those stated. -/
import Derived.Test.YtlldjmagbjjeoaaGreatDoorPk36
import Derived.Test.YtlldjmagbjjeoaaGreatDoorPk37
set_option maxRecDepth 100000
set_option maxHeartbeats 40000000
namespace Go.Proofs.YtlldjmagbjjeoaaGreatDoor
open Go.RowKit
set_option linter.unusedVariables false
theorem zqw:(Tryz.prog.info? 97).map (fun i=>(i.zero,i.size,i.bytes))=some (some (.agg #[.int .i64 0,.slice none 0 0]),2,32):=by kernel_rfl
theorem zhd {cur:List Nat} {sc c:Nat} {pre:List Nat} (h:cur.take sc=pre) (hl:sc<cur.length):(cur.set sc c).take (sc+1)=pre++[c]:=by
 rw[Q0 (x:=c) (by rw[List.getElem?_set_self hl])]
 congr 1
 rw[<- h]
 apply List.ext_getElem?
 intro i
 rw[List.getElem?_take,List.getElem?_take]
 split
 ·rw[List.getElem?_set_ne (by omega)]
 ·rfl
theorem zql {l pre:List Nat} {sc c:Nat} (h:l.take (sc+1)=pre++[c]) (hp:pre.length=sc):l.take sc=pre:=by
 have := congrArg (List.take sc) h
 have h2:(pre++[c]).take sc=pre:=by rw[List.take_append_of_le_length (by omega)];exact List.take_of_length_le (by omega)
 rw[List.take_take,Nat.min_eq_left (by omega),h2]at this;exact this
theorem zu0 (x:Bdr) (ok:Ue x) (scs:List Sc) (es:List Gx) (hP:∀ p∈pcs scs,p.Nodup/\p≠[]) (p:List Nat) (Q:List (List Nat)) (ih:zW x scs es Q) (L6:x.sv.n<=2^20) (En:p.length<=2^20):zW x scs es (p::Q):=by
 intro sc pre st d cur w hd hs qau De h Ea In hn hl
 have Cc:(pcs scs).length=x.sv.n:=by unfold pcs;rw[List.length_map,h.scl]
 have Cd:sc<x.sv.n:=by
  rcases Nat.lt_or_ge sc (pcs scs).length with h1 | h1
  ·omega
  ·rw[List.drop_of_length_le h1]at hd;cases hd
 have hp:(pcs scs)[sc]?=some p:=by
  have := congrArg (·[0]?) hd
  simpa using this
 have Yh:(pcs scs).drop (sc+1)=Q:=by
  have := congrArg List.tail hd
  simpa using this
 have nG:pre.length=sc:=by rw[De.1,List.length_take];omega
 obtain⟨n1,n2⟩:=hP p (List.mem_of_getElem? hp)
 have qi8:∀ q∈Q,q≠[]:=fun q hq=>(hP q (List.mem_of_mem_drop (by rw[Yh];exact hq))).2
 have qu5:(pcs scs).take (sc+1)=(pcs scs).take sc++[p]:=Q0 hp;obtain⟨k,hk⟩:=Ae (Gd Q)
 have Pv:Gd (p::Q)=p.length*k:=by rw[<- hk];rfl
 have Sg:1<=k:=by rw[<- hk];exact qct qi8
 obtain⟨m,hm⟩:=Ae p.length
 have eF:0<m:=by rw[<- hm];exact List.length_pos_iff.2 n2
 rw[Pv,hm]at hn hl;rw[hm]at En;obtain⟨f,hf⟩:∃ f:Nat->DSt->Int × DSt,(fun c s=>tgt (lfS scs es) Q (sc+1) (pre++[c]) s)=f:=⟨_,rfl⟩
 have nZ:∀ c s,tgt (lfS scs es) Q (sc+1) (pre++[c]) s=f c s:=fun c s=>by rw[<- hf]
 have Gf:tgt (lfS scs es) (p::Q) sc pre st=shut sc (Hp f p st).1 (Hp f p st).2:=by rw[<- hf];rfl
 have qu1:∀ c s,(f c s).2.nds.length+1<=s.nds.length+k/\(f c s).2.lvs.length<=s.lvs.length+k:=fun c s=>by
  rw[<- nZ,<- hk];exact qgb (lfS scs es) Q (sc+1) (pre++[c]) s qi8
 have qfy:∀ c∈p,Cu ((pcs scs).take (sc+1)) (pre++[c]):=fun c hc=>by rw[qu5];exact De.append (Cu.cons hc Cu.nil)
 have Ay:∀ j,qik (pcs scs) (lfS scs es) (sc+1) pre Q (p.take j) st (Hp f (p.take j) st):=fun j=>qk3 (p.take j) st qau fun c hc s Qz=>by
  rw[<- nZ];exact qi6 hP Q (sc+1) (pre++[c]) s Yh (qfy c (List.mem_of_mem_take hc)) (by omega) Qz
 have Dn:∀ j,j<=m->(Hp f (p.take j) st).2.nds.length+j<=st.nds.length+j*k/\(Hp f (p.take j) st).2.lvs.length<=st.lvs.length+j*k:=fun j hj=>by
  have := qfe qu1 (p.take j) st;rw[List.length_take,hm,Nat.min_eq_left hj]at this;exact this
 have Sb:∀ j,j<m->j*k+k<=m*k:=fun j hj=>by
  have := Nat.mul_le_mul_right k (show j+1<=m from hj);rwa[Nat.succ_mul]at this
 have qtc:∀ j,j<=m->∀ t∈(Hp f (p.take j) st).1,-(2^62)<t/\t<2^62:=fun j hj t ht=>by
  obtain⟨i,hi,rfl⟩:=List.getElem_of_mem ht
  have Cr:i<(p.take j).length:=by rw[oS]at hi;exact hi
  have h1:=((Ay j).each i _ _ (Ac Cr) (Ac hi)).1;have h2:=Dn j hj;have h3:j*k<=m*k:=Nat.mul_le_mul_right k hj
  rcases h1 with⟨n,e,G5⟩ | ⟨n,y,e,G5,_⟩
  ·rw[e];omega
  ·have := (List.getElem?_eq_some_iff.1 G5).1
   rw[e];omega
 obtain⟨_,_,hG,qzl⟩:=h.get;obtain⟨pa,pm,Mw,zrh,jau⟩:=hG.form;rw[Cc]at hG Mw;rw[Mw]at hG;obtain⟨ga,gm,K6,_,qci⟩:=(by have := qzl sc (by omega);rw[hp]at this;exact Ee.form this:∃ a cap,x.gv sc=.slice a p.length cap/\p.length<=cap/\cap<=maxLen);rw[hm]at K6;obtain⟨T,hT⟩:=Ae w.heap.size;have HT:=Aa hT
 have zk9:x.T<=T:=by rw[<- hT];exact h.big
 have zN:x.B<=T:=by have := ok.l1;have := ok.u1;omega
 have c0:w.cell? ⟨x.bb,0,none⟩=some (.slice x.sv.a x.sv.n x.sv.m):=h.blk.at rfl
 have c5:w.cell? ⟨x.bb,5,none⟩=some (.slice pa x.sv.n pm):=by rw[<- Mw];exact h.blk.at rfl
 obtain⟨b,o,cap,he,_,_,Cj,hc⟩:=hG.pos (by omega);simp only[Value.slice.injEq,true_and]at he;obtain⟨rfl,rfl⟩:=he
 have e0:w.cell? ⟨b,o+sc,none⟩=some (.slice ga m gm):=by rw[<- K6];have := hc sc Cd 0 (by omega);simpa using this
 have oP:IntKind.i64.wrap ((sc:Int)+1)=(sc:Int)+1:=IntWalk.i64_in _ (by omega)
 have Nh:((sc:Int)==(x.sv.n:Int))=false:=by simp;omega
 have HH:=Aa h;have Rl:=Aa In;have J5:=Aa Ay;have qk1:=Aa Dn;have qop:=Aa Sb;have zti:=Aa qtc;have dM:=Aa qfy;have zq3:=Aa nZ;have zto:=Aa hp;have HM:=Aa hm;have zoj:=Aa K6;have HD:=Aa Yh;have Vo:=Aa Ea;have zok:=Aa nG;have HK:=Aa hk;have M0:=Aa ih;have aU:=Aa Cc;rw[Gf];clear hd hs qau De Ea In h Ay Dn Sb qtc qfy nZ hp hm K6 Yh hf Gf qu1 hP qi8 qu5 hG qzl hc Mw zrh hT nG hk ih Cc n1 n2 Pv;go_enter Tryz.func38,Tryz.ntmps38
 go_wp2_with fail
 go_loopw [5,29] (fun ov iv wr=>∃ (j:Nat) (d':Dy) (cur':List Nat),j<=m/\iv=.int .i64 j/\BI x scs es d' (Hp f (p.take j) st).2 (Hp f (p.take j) st).2 cur' wr/\Fr x d d' w wr/\cur'.take sc=pre/\Gk T wr ov (Hp f (p.take j) st).1/\(∀ g,ov.ownBlock=some g->¬ d'.F1 g/\¬ d'.F2 g)) (fun _ iv _=>m-(intOf iv).toNat)
 case atStart=>exact⟨0,d,cur,Nat.zero_le _,rfl,HH.out,Fr.old (Below.refl _ _) (by rw[HT.out];exact zN),Vo.out,World.ownsRow_nil _ _ _ _,fun g hg=>by cases hg⟩
 case round =>
  obtain⟨j,d1,cur1,hj,rfl,Ip,Id,htk1,Av,qdj⟩:=hrel;obtain⟨wo,rfl⟩:∃ wo:World,wo=wr:=⟨_,rfl⟩;obtain⟨oa,oc,Is,_,_⟩:=Av.form;obtain⟨L,hL⟩:=Ae ((Hp f (p.take j) st).1);obtain⟨s1,Cp⟩:∃ s,(Hp f (p.take j) st).2=s:=⟨_,rfl⟩
  have dJ:L.length=j:=by rw[<- hL,oS,List.length_take,HM.out];omega
  rw[hL]at Is Av;rw[Cp]at Ip;rw[dJ]at Is;subst Is
  have lE:T<=wo.heap.size:=by have := Id.bel.size;have := HT.out;omega
  have Hi:=Aa Av;have M4:=Aa Ip;have fP:=Aa Id;have qzu:=Aa qdj;have qu8:=Aa dJ;have HL:=Aa hL;have Oq:=Aa Cp;have qew:=Aa htk1
  by_cases Aj:j<m
  ·obtain⟨b',o',cap',he,_,_,qis,hc⟩:=(by have := (Ip.get).2.2.2 sc (by rw[aU.out];exact Cd);rw[zto.out,Option.getD_some]at this;exact Ee.pos this (by rw[HM.out];omega):∃ b o cap,x.gv sc=.slice (some ⟨b,o,none⟩) p.length cap/\p.length<=cap/\cap<=maxLen/\b<wo.heap.size/\∀ i,i<p.length->wo.cell? ⟨b,o+i,none⟩=some (Z (p[i]?.getD 0)))
   rw[zoj.out,HM.out]at he;simp only[Value.slice.injEq,true_and]at he;obtain⟨rfl,rfl⟩:=he
   have qbu:j<p.length:=by rw[HM.out];exact Aj
   obtain⟨c,Em⟩:∃ c,p[j]?=some c:=⟨_,Ac qbu⟩
   have e1:wo.cell? ⟨b',o'+j,none⟩=some (.int .i64 (c:Int)):=by have := hc j qbu;rw[Em]at this;exact this
   have Fl:c∈p:=List.mem_of_getElem? Em;have d6:wo.cell? ⟨x.bb,6,none⟩=some (.slice (some ⟨x.cb,0,none⟩) x.sv.n x.sv.n):=Ip.blk.at rfl
   have D1:sc<cur1.length:=by rw[Ip.len];exact Cd
   have d7:wo.cell? ⟨x.cb,sc,none⟩=some (Z (cur1[sc]?.getD 0)):=Ip.cells.at (by simp[Ac D1]);have f7:wo.frozen? ⟨x.cb,sc,none⟩=false:=Ip.cells.free sc
   have iQ:Hp f (p.take (j+1)) st=(L++[(f c s1).1],(f c s1).2):=by rw[Q0 Em,zcz,HL.out,Oq.out]
   have qg3:=Aa iQ;have qim:=Ip.setCur ok sc c;have qgm:=Id.trans (Ip.fr_cur ok sc c)
   have Dj:=M0.out (sc+1) (pre++[c]) s1 d1 (cur1.set sc c) (wo.setCell ⟨x.cb,sc,none⟩ (Z c)) HD.out (by have := Ip.scl;omega) (by rw[<- Cp];exact(J5.out j).wf) (dM.out c Fl) qim (zhd htk1 D1) (Rl.out.on qgm.bel)
    (by have := (qk1.out j hj).1;have := qop.out j Aj;rw[HK.out,<- Cp];omega) (by have := (qk1.out j hj).2;have := qop.out j Aj;rw[HK.out,<- Cp];omega)
   rw[zq3.out,show(((sc+1:Nat)):Int)=(sc:Int)+1 by omega]at Dj;have Gm:=Aa Dj;have zgo:=Aa qgm;have qp2:Gk T (wo.setCell ⟨x.cb,sc,none⟩ (Z c)) (.slice oa j oc) L:=Av.kept (Fm wo x.cb sc (Z c)) (.inr fun e=>by have := (Or Av (r:=x.cb) e).1;have := ok.u2;omega);have T5:=Aa qp2;have qmk:=Aa qim;have HB:=ok.u2;obtain⟨tv,qp3⟩:=Ae ((f c s1).1);obtain⟨s2,Az⟩:∃ s,(f c s1).2=s:=⟨_,rfl⟩;rw[qp3,Az]at Gm qg3
   have Gb:(wo.setCell ⟨x.cb,sc,none⟩ (Z c)).heap.size=wo.heap.size:=by simp[World.setCell]
   have zod:=Aa Gb;clear Ip Id qdj dJ hL Cp htk1 Av hc Em Fl iQ Dj qp2 qim qgm qp3 Az qbu Gb;go_wp2_with fail
   refine Gm.out.mono ?_;clear Gm;rintro e w3 ⟨rfl,d3,cur3,quf,oI,qzm⟩;have Ep:=oI.bel.size;rw[zod.out]at Ep
   have qet:Gk T w3 (.slice oa j oc) L:=zuj T5.out fun g hg=>oI.keep g (cU T5.out hg) (by have := (Or T5.out hg).1;have := ok.u1;omega) (by have := (Or T5.out hg).1;have := ok.u2;omega) (by have := (Or T5.out hg).1;have := ok.u3;omega) (by have := (Or T5.out hg).1;have := ok.u4;omega)
    (fun e=>by rcases kW T5.out qmk.out.nds.own.1 (by decide)with h1 | h1<;>rw[hg]at h1;cases h1;exact h1 e.symm)
    (fun e=>by rcases kW T5.out qmk.out.lvs.own.1 (by decide)with h1 | h1<;>rw[hg]at h1;cases h1;exact h1 e.symm)
   have Z8:=Aa qet;have gU:Hid (Gk T (w3.alloc (.cells #[.int .i64 tv] 3)) (.slice oa j oc) L):=Aa (qet.alloc _);have kG:=Aa quf;have zkb:=Aa (zgo.out.trans oI)
   have zaa:∀ g,(Value.slice oa j oc).ownBlock=some g->¬ d3.F1 g/\¬ d3.F2 g:=fun g hg=>by
    have Aj:=cU T5.out hg;refine⟨fun e=>?_,fun e=>?_⟩
    ·rcases oI.f1 g e with h1 | h1
     ·exact(qzu.out g hg).1 h1
     ·omega
    ·rcases oI.f2 g e with h1 | h1
     ·exact(qzu.out g hg).2 h1
     ·omega
   have qda:=Aa zaa
   have E0:T<=w3.heap.size:=by omega
   have Jy:L.length+1<=2^40:=by rw[qu8.out];omega
   have Bt:L.length=j:=qu8.out;have zns:=Aa (zql qzm zok.out);clear quf oI qet zaa qzm Bt;go_wp2_with (at_builtin;refine zqh rfl (.tmp 40) (.tmp 45) rfl rfl rfl gU.out ((Blk.new w3 #[.int .i64 tv] _).at rfl) Jy (by simp;omega) ?_;intro g1 cap1 w5 Hh Bo Ie)
   have Iv:Below w3.heap.size w3 (w3.alloc (.cells #[.int .i64 tv] 3)):=Af _ _;have mX:=kG.out.old Iv ok
   have Cx:∀ g,(Value.slice oa j oc).ownBlock=some g->x.T<=g/\d3.nv.val.ownBlock≠some g/\d3.lv.val.ownBlock≠some g/\¬ d3.F1 g/\¬ d3.F2 g:=fun g hg=>by
    refine⟨by have := (Or Z8.out hg).1;omega,fun e=>?_,fun e=>?_,(qda.out g hg).1,(qda.out g hg).2⟩
    ·rcases kW Z8.out kG.out.nds.own.1 (by decide)with h1 | h1<;>rw[hg]at h1
     ·cases h1
     ·exact h1 e.symm
    ·rcases kW Z8.out kG.out.lvs.own.1 (by decide)with h1 | h1<;>rw[hg]at h1
     ·cases h1
     ·exact h1 e.symm
   have rF:=mX.other ok Bo Cx;have zic:=(zkb.out.trans (kG.out.fr_old ok Iv)).grown Bo (fun g hg=>by rw[HT.out];exact(Or Z8.out hg).1) (by rw[HT.out];exact zN)
   have zer:∀ g,(Value.slice (some ⟨g1,0,none⟩) (L.length+1) cap1).ownBlock=some g->¬ d3.F1 g/\¬ d3.F2 g:=fun g hg=>by
    simp only[Value.ownBlock,Option.some.injEq]at hg;subst hg
    rcases Ie with e | e
    ·exact qda.out _ e
    ·refine⟨fun h1=>?_,fun h1=>?_⟩
     ·have := (kG.out.nds.rng _ h1).2;simp at e;omega
     ·have := (kG.out.lvs.rng _ h1).2;simp at e;omega
   exact⟨⟨j+1,d3,cur3,by omega,by go_num,by rw[qg3.out];exact rF,zic,zns.out,by rw[qg3.out];exact Hh,zer⟩,by simp[intOf];omega⟩
  ·obtain rfl:j=m:=by omega
   have za6:p.take j=p:=List.take_of_length_le (by rw[HM.out];exact Ab _);have Fs:=J5.out j;have D7:=zti.out j (Ab _);have cH:=qk1.out j (Ab _);rw[za6]at hL Cp D7 cH;have HL:=Aa hL;have Oq:=Aa Cp;rw[hL]at D7;rw[Cp]at cH
   have pU:L≠[]:=fun e=>by rw[e]at dJ;simp at dJ;omega
   have qoh:∀ t∈(sc:Int)::L,-(2^62)<t/\t<2^62:=fun t ht=>by
    rcases List.mem_cons.1 ht with rfl | ht
    ·omega
    ·exact D7 t ht
   have tC:=Aa qoh;obtain⟨g,oc',Is,wS,xH,_,_,_⟩:=Av.nonempty pU;rw[dJ]at Is;simp only[Value.slice.injEq,true_and]at Is;obtain⟨rfl,rfl⟩:=Is
   have Cz:wo.cell? ⟨g,0,none⟩=some (.int .i64 (L.headD 0)):=by
    have := Av.at 0 (by omega);rw[this]
    cases L with
    | nil=>exact absurd rfl pU
    | cons a b=>rfl
   have Ba:=zkh T _ L wo Av pU (by omega);have Hl:=Aa Ba
   have zjp:s1.nds.length+1<=2^38:=by omega
   have qgh:=Aa pU
   have qdn:L.length<=2^20:=by omega
   clear Ba Fs D7 cH pU Ip Id qdj hL Cp htk1 qoh za6 Av dJ;go_wp2_with fail
   refine Hl.out.mono ?_;clear Hl;rintro e w4 ⟨v4,rfl,Tg,Al⟩;have Fl:=zlu wo.heap.size v4 L w4 Tg qgh.out (by omega);obtain⟨g4,c4,qbv,_,_,_,_,_⟩:=Tg.nonempty qgh.out;rw[qbv]at Fl ⊢;have qao:=Aa Fl;clear Tg Fl qbv;go_wp2_with fail
   refine qao.out.mono ?_;clear qao;rintro e w5 ⟨a5,c5',rfl,Aq⟩;obtain⟨q,hq⟩:=Ae ((Lib.compact L).length);have Lv:=zfz qgh.out;rw[hq]at Lv ⊢;have kT:Below wo.heap.size wo w5:=Al.trans Aq;have Pt:=(kT.cell (p:=⟨g,0,none⟩) xH).trans Cz;have pY:=Aa (M4.out.old kT ok);have qcc:=Aa (fP.out.trans (M4.out.fr_old ok kT));have qjm:=Aa kT;have qw4:=kT.size;clear Al Aq kT hq
   by_cases ha:J9 L=true
   ·have qbp:((q:Int)==1)=true:=by rw[Lv.2 ha];rfl
    have D5:shut sc L s1=(L.headD 0,s1):=by unfold shut;rw[if_pos ha]
    have Z6:=Aa D5;obtain⟨hv,qnf⟩:=Ae (L.headD 0);rw[qnf]at Pt Z6;clear D5 Lv ha Cz qnf;go_wp2_with fail
    go_ret
    rw[HL.out,Oq.out,Z6.out];exact⟨rfl,d1,cur1,pY.out,qcc.out,qew.out⟩
   ·have qbp:((q:Int)==1)=false:=by
     have:q≠1:=fun e=>ha (Lv.1 e)
     simp;omega
    have D5:shut sc L s1=aP s1 sc L:=by unfold shut;rw[if_neg ha]
    have Z6:=Aa D5
    have kM:Calls Tryz.prog 76 #[.slice (some ⟨g,0,none⟩) j oc,.slice (some ⟨w5.heap.size,0,none⟩) 1 1] (w5.alloc (.cells #[.int .i64 (sc:Int)] 3)) fun e w'=>e=.returned (S (P7 (sc,L)))/\Below w5.heap.size (w5.alloc (.cells #[.int .i64 (sc:Int)] 3)) w':=by
     have q6:=Blk.new w5 #[.int .i64 (sc:Int)] 3;have b6:Below w5.heap.size w5 (w5.alloc (.cells #[.int .i64 (sc:Int)] 3)):=Af _ _;have s6:(w5.alloc (.cells #[.int .i64 (sc:Int)] 3)).heap.size=w5.heap.size+1:=World.size_alloc ..;obtain⟨W6,Fk⟩:∃ W,w5.alloc (.cells #[.int .i64 (sc:Int)] 3)=W:=⟨_,rfl⟩;rw[Fk]at q6 b6 s6 ⊢;have kP:Gk T W6 (.slice (some ⟨g,0,none⟩) j oc) L:=(Hi.out.below qjm.out (Ab _)).below b6 (Ab _)
     have kB:Re W6.heap.size W6 (.slice (some ⟨w5.heap.size,0,none⟩) 1 1) [(sc:Int)]:=Au.mk_cells (n:=1) (Ab _) (by simp[maxLen]) (by omega) fun i hi jj hj=>by
      have Jo:i=0:=by omega
      have Jb:jj=0:=by omega
      subst Jo;subst Jb;exact q6.at rfl
     have ht:=qyq W6.heap.size _ _ L [(sc:Int)] W6 kP.ints kB tC.out (by simp;omega) (Ab _) ((Rl.out.on (qcc.out.bel.trans (b6.mono (by omega)))).up (by omega));refine ht.mono ?_;rintro e w' ⟨rfl,hb⟩;exact⟨rfl,hb.mono (by omega)⟩
    have Zd:=Aa kM
    have Hc:(P7 (sc,L)).length<=maxLen:=by
     have := pS ((sc:Int)::L) tC.out;rw[List.length_cons]at this;unfold P7 maxLen;simp only;omega
    obtain⟨key,Kb⟩:=Ae (P7 (sc,L));rw[Kb]at Zd Hc;have tH:=Aa Kb;clear kM D5 Lv ha Cz Kb Pt;go_wp2_with fail
    refine Zd.out.mono ?_;clear Zd;rintro e w7 ⟨rfl,Ct⟩;have zcg:Below w5.heap.size w5 w7:=(Af _ _).trans Ct;have rM:Below wo.heap.size wo w7:=qjm.out.trans (zcg.mono qw4);have Ta:=M4.out.old rM ok;have qh3:=Aa Ta;have HM:=Aa Ta.nmap;have qn9:=Aa (fP.out.trans (M4.out.fr_old ok rM));have yM:Hid (Gk T w7 (.slice (some ⟨g,0,none⟩) j oc) L):=Aa (Hi.out.below rM (Ab _));have d7:w7.cell? ⟨x.bb,7,none⟩=some (.map (some x.nm)):=Ta.blk.at rfl;obtain⟨na,nc,Y7,Et,Vz⟩:=Ta.nds.own.form
    have dL:(List.zipWith fT s1.nds d1.ns).length=s1.nds.length:=by rw[List.length_zipWith,Ta.nds.len,Nat.min_self]
    rw[dL]at Y7 Et;have aB:=Aa dL;have Xt:=Aa Y7
    have d1':w7.cell? ⟨x.bb,1,none⟩=some (.slice na s1.nds.length nc):=by rw[<- Y7];exact Ta.blk.at rfl
    have Bq:=zjg (l:=s1.nds) (a:=(sc,L));rw[tH.out]at Bq;have gE:=rM.size;clear Ct zcg rM Ta Y7 dL
    by_cases hi:s1.nds.idxOf (sc,L)<s1.nds.length
    ·rw[if_pos hi]at Bq
     have Bu:Hid ((fS (nmF s1.nds) (.string key)).getD (.int .i64 0)=Z (s1.nds.idxOf (sc,L))):=Aa (by rw[bY,Bq];rfl);have Bs:Hid ((fS (nmF s1.nds) (.string key)).isSome=true):=Aa (by rw[bY,Bq];rfl)
     have Gf:aP s1 sc L=((s1.nds.idxOf (sc,L):Int),s1):=by unfold aP;rw[if_pos hi]
     obtain⟨ix,Ke⟩:=Ae (s1.nds.idxOf (sc,L));rw[Ke]at Bu hi Gf;have Pu:=Aa Gf;clear Bq Gf Ke d1';go_wp2_with (at_lookup;refine nO _ rfl _ _ 86 rfl _ lR Tryz.underlying86 (Tryz.zeroValue3 _) rfl HM.out _ (.string key) rfl (lY key Hc) (Z ix) true Bu.out Bs.out ?_)
     go_ret
     rw[HL.out,Oq.out,Z6.out,Pu.out];exact⟨rfl,d1,cur1,qh3.out,qn9.out,qew.out⟩
    ·rw[if_neg hi]at Bq
     have Bu:Hid ((fS (nmF s1.nds) (.string key)).getD (.int .i64 0)=.int .i64 0):=Aa (by rw[bY,Bq];rfl);have Bs:Hid ((fS (nmF s1.nds) (.string key)).isSome=false):=Aa (by rw[bY,Bq];rfl)
     have Gf:aP s1 sc L=((s1.nds.length:Int),⟨s1.nds++[(sc,L)],s1.lvs⟩):=by unfold aP;rw[if_neg hi]
     have gQ:=Aa (zpe (l:=s1.nds) (a:=(sc,L)) hi);obtain⟨r,hr⟩:=Ae s1.nds.length;rw[hr]at d1' Gf zjp Xt aB gQ HM Et
     have To:r<maxLen:=by unfold maxLen;omega
     have Pu:=Aa Gf;have Ml:=Aa hr;clear Bq Gf hr hi
     go_upto_region 16 with(at_lookup;refine nO _ rfl _ _ 86 rfl _ lR Tryz.underlying86 (Tryz.zeroValue3 _) rfl HM.out _ (.string key) rfl (lY key Hc) (.int .i64 0) false Bu.out Bs.out ?_)
     go_upto_region 17 with(at_mapUpdate;refine qji _ rfl _ _ _ 86 rfl _ lR Tryz.underlying86 rfl HM.out To _ (.string key) rfl (lY key Hc) (Z r) rfl ?_;intro w8 eV bU;rw[Bs.out,qv6,<- tH.out,gQ.out]at eV)
     have wH:=qh3.out.putN ok (n':=s1.nds++[(sc,L)]) bU (by rw[List.length_append,Ml.out];exact eV);have zcs:=Aa (qn9.out.trans (qh3.out.fr_put ok (.inl rfl) bU));have nJ:=bU.size;have zwn:Hid (Gk T w8 (.slice (some ⟨g,0,none⟩) j oc) L):=Aa (Gk.kept yM.out bU (.inr fun e=>by have := (Or yM.out (r:=x.nm) e).1;have := ok.u3;omega));have Iv:Below w8.heap.size w8 (w8.alloc (.cells #[.int .i64 (sc:Int),.slice (some ⟨g,0,none⟩) j oc] 97)):=Af _ _;have Qs:=wH.old Iv ok;have zp3:=Aa (zcs.out.trans (wH.fr_old ok Iv));have rT:=Aa Qs;have zn5:Hid (Gk T (w8.alloc (.cells #[.int .i64 (sc:Int),.slice (some ⟨g,0,none⟩) j oc] 97)) (.slice (some ⟨g,0,none⟩) j oc) L):=Aa (zwn.out.below Iv (Ab _))
     have e1:w8.cell? ⟨x.bb,1,none⟩=some (.slice na r nc):=by rw[<- Xt.out];exact wH.blk.at rfl
     have qpm:Hid (Be 2 97 x.T (w8.alloc (.cells #[.int .i64 (sc:Int),.slice (some ⟨g,0,none⟩) j oc] 97)) (.slice na r nc) (List.zipWith fT s1.nds d1.ns)):=Aa (by rw[<- Xt.out];exact Qs.nds.own)
     have D6:Hid (Dg 2 [[.int .i64 (sc:Int),.slice (some ⟨g,0,none⟩) j oc]]):=Aa (Dg.one rfl fun u hu=>by
      rcases List.mem_cons.1 hu with rfl | hu
      ·rfl
      ·rw[List.mem_singleton.1 hu];rfl)
     have Pz:Hid (∀ (i:Nat) (r:List Value) (jj:Nat) (u:Value),([[.int .i64 (sc:Int),.slice (some ⟨g,0,none⟩) j oc]]:List (List Value))[i]?=some r->r[jj]?=some u->(w8.alloc (.cells #[.int .i64 (sc:Int),.slice (some ⟨g,0,none⟩) j oc] 97)).cell? ⟨w8.heap.size,0+(i*2+jj),none⟩=some u):=Aa fun i r jj u h1 h2=>by
      have Jo:i=0:=by have := (List.getElem?_eq_some_iff.1 h1).1;simp at this;omega
      subst Jo;cases h1
      have Jb:jj<2:=by have := (List.getElem?_eq_some_iff.1 h2).1;simp at this;omega
      have hq:=Blk.new w8 #[.int .i64 (sc:Int),.slice (some ⟨g,0,none⟩) j oc] 97
      match jj,Jb with
      | 0,_=>cases h2;exact hq.at rfl
      | 1,_=>cases h2;exact hq.at rfl
     have ja6:x.T<=w8.heap.size:=by omega
     obtain⟨RS,Gz⟩:=Ae (List.zipWith fT s1.nds d1.ns);rw[Gz]at qpm aB;have Lw:=Aa Gz;clear Gz;clear wH Iv Qs bU eV d1' d7;go_wp2_with (at_builtin;refine Q6 rfl (.tmp 88) (.tmp 92) 28 rfl Tryz.underlying28 zqw (by kernel_rfl) (by decide) rfl qpm.out (b:=w8.heap.size) (off:=0) (m:=1) (cap:=1) (ms:=[[.int .i64 (sc:Int),.slice (some ⟨g,0,none⟩) j oc]]) rfl rfl D6.out Pz.out (by decide) (by rw[aB.out];unfold maxLen;omega) (by rw[aB.out];omega) (by simp;omega) ?_;intro g1 cap1 w9 zn0 zP zs4;have q9:=rT.out.blk.kept zP (fun e=>by rw[<- Xt.out]at e;have := (rT.out.nlow e.symm).1;have := ok.u1;omega);have e22:=q9.at (i:=1) rfl;have f22:=q9.free 1)
     go_ret
     have hp:=rT.out.pushN ok zp3.out (z:=(sc,L)) (u:=.slice (some ⟨g,0,none⟩) j oc) (G:=fun b=>(Value.slice (some ⟨g,0,none⟩) j oc).ownBlock=some b) (zkl zn5.out fun b h=>h)
      (fun b hb=>by simp only[Value.ownBlock,Option.some.injEq]at hb;subst hb;rw[HT.out];exact wS)
      (fun b hb=>by
       simp only[Value.ownBlock,Option.some.injEq]at hb;subst hb;refine⟨by omega,by simp;omega,fun e=>?_,fun e=>?_⟩
       ·rcases kW Hi.out M4.out.nds.own.1 (by decide)with h1 | h1
        ·cases h1
        ·exact h1 e.symm
       ·rcases kW Hi.out M4.out.lvs.own.1 (by decide)with h1 | h1
        ·cases h1
        ·exact h1 e.symm)
      (by rw[Xt.out];exact zP) (by rw[Lw.out];exact zn0) (by rw[Xt.out];rcases zs4 with e | e;exact .inl e;exact .inr e)
     rw[HL.out,Oq.out,Z6.out,Pu.out];exact⟨rfl,_,cur1,hp.1,hp.2,qew.out⟩
def Ef (d:Nat->Bool) (j:Nat):Nat->Bool:=fun k=>if k=j then true else d k
def Du (x:Nat->Value) (j:Nat) (v:Value):Nat->Value:=fun k=>if k=j then v else x k
theorem zo5 (d:Nat->Bool) (j:Nat):Ef d j j=true:=by simp[Ef]
theorem Le (d:Nat->Bool) {j k:Nat} (h:k≠j):Ef d j k=d k:=by simp[Ef,h]
theorem yN (x:Nat->Value) (j:Nat) (v:Value):Du x j v j=v:=by simp[Du]
theorem Oh (x:Nat->Value) {j k:Nat} (v:Value) (h:k≠j):Du x j v k=x k:=by simp[Du,h]
theorem qz1 (d:Nat->Bool) {j:Nat} (hd:d j=false):∀ (J:List Nat),J.Nodup->(J.filter fun k => !(Ef d j k)).length+(if j∈J then 1 else 0)=(J.filter fun k => !(d k)).length
 | [],_=>by simp
 | k::J,h=>by
  obtain⟨h1,h2⟩:=List.nodup_cons.1 h;have ih:=qz1 d hd J h2
  by_cases e:k=j
  ·subst e
   rw[if_neg h1]at ih;rw[if_pos (List.mem_cons_self ..),List.filter_cons_of_neg (by simp[zo5]),List.filter_cons_of_pos (by simp[hd]),List.length_cons,<- ih]
  ·have hm:(j∈k::J) ↔ j∈J:=by simp[List.mem_cons,Ne.symm e]
   simp only[hm]
   by_cases hk:d k=true
   ·rw[List.filter_cons_of_neg (by simp[Le d e,hk]),List.filter_cons_of_neg (by simp[hk])];exact ih
   ·rw[List.filter_cons_of_pos (by simp[Le d e];simpa using hk),List.filter_cons_of_pos (by simpa using hk),List.length_cons,List.length_cons,<- ih];omega
section
variable {P:Program} {ops:Array Oper} {Q:Exit->Act->World->Prop} {md:Region.Mode} {S:World->Prop} {D:List Nat}
theorem qs0 {J:List Nat} (hJ:J.Nodup) (lst:(Nat->Bool)->Array Bool) (A:(Nat->Value)->Act) (Inv:(Nat->Bool)->(Nat->Value)->World->Prop) {fuel0:Nat}
  (Nx:∀ d,∀ j∈J,(lst d).setIfInBounds j true=lst (Ef d j))
  (qba:∀ d,(∃ j∈J,d j=false)->Region.ready md ops (lst d)≠[]/\∀ i∈Region.ready md ops (lst d),i∈J/\d i=false)
  (yZ:∀ d x w,Inv d x w->∀ j∈J,d j=false->j∈Region.ready md ops (lst d)->∃ o,ops[j]?=some o/\Region.wanted o (yielded ops (A x).tmps)=true/\o.wp P (A x) w (fun a' w'=>(j ∉ D->S w')/\∃ v,a'=A (Du x j v)/\Inv (Ef d j) (Du x j v) w') Q)
  (Gj:∀ d x w,Inv d x w->(∀ j∈J,d j=true)->By P md ops Q S D fuel0 (lst d) (A x) w) :
  ∀ (n:Nat) (d:Nat->Bool) (x:Nat->Value) (w:World),Inv d x w->(J.filter fun k => !(d k)).length=n->By P md ops Q S D (fuel0+n) (lst d) (A x) w
 | 0,d,x,w,hI,hn=>Gj d x w hI fun j hj=>by
  have h0:=List.eq_nil_of_length_eq_zero hn
  cases hd:d j with
  | true=>rfl
  | false=>exact absurd (show j∈J.filter fun k => !(d k)from List.mem_filter.2 ⟨hj,by simp[hd]⟩) (by rw[h0];exact List.not_mem_nil)
 | n+1,d,x,w,hI,hn=>by
  have Za:∃ j∈J,d j=false:=by
   obtain⟨j,hj⟩:=List.exists_mem_of_length_pos (l:=J.filter fun k => !(d k)) (by omega);obtain⟨h1,h2⟩:=List.mem_filter.1 hj;exact⟨j,h1,by simpa using h2⟩
  obtain⟨Jd,Dw⟩:=qba d Za;refine⟨fun h=>absurd h Jd,fun i hi=>?_⟩;obtain⟨qk9,hid⟩:=Dw i hi;obtain⟨o,ho,hw,zmc⟩:=yZ d x w hI i qk9 hid hi;refine wpOp_mono (fun a' w' h=>?_) (qbc ho hw zmc);obtain⟨hS,v,rfl,Vf⟩:=h;refine⟨hS,?_⟩;rw[Nx d i qk9];refine qs0 hJ lst A Inv Nx qba yZ Gj n (Ef d i) _ w' Vf ?_;have := qz1 d hid J hJ;rw[if_pos qk9]at this;omega
theorem zkr {J:List Nat} (hJ:J.Nodup) (lst:(Nat->Bool)->Array Bool) (A:(Nat->Value)->Act) (Inv:(Nat->Bool)->(Nat->Value)->World->Prop) {fuel0 F:Nat} {L:Array Bool} {a:Act} {w:World}
  (hL:L=lst fun _=>false) (ha:a=A fun _=>undef) (hF:F=fuel0+J.length) (h0:Inv (fun _=>false) (fun _=>undef) w)
  (Nx:∀ d,∀ j∈J,(lst d).setIfInBounds j true=lst (Ef d j))
  (qba:∀ d,(∃ j∈J,d j=false)->Region.ready md ops (lst d)≠[]/\∀ i∈Region.ready md ops (lst d),i∈J/\d i=false)
  (yZ:∀ d x w,Inv d x w->∀ j∈J,d j=false->j∈Region.ready md ops (lst d)->∃ o,ops[j]?=some o/\Region.wanted o (yielded ops (A x).tmps)=true/\o.wp P (A x) w (fun a' w'=>(j ∉ D->S w')/\∃ v,a'=A (Du x j v)/\Inv (Ef d j) (Du x j v) w') Q)
  (Gj:∀ d x w,Inv d x w->(∀ j∈J,d j=true)->By P md ops Q S D fuel0 (lst d) (A x) w):By P md ops Q S D F L a w:=by
 subst hL ha hF
 exact qs0 hJ lst A Inv Nx qba yZ Gj _ _ _ w h0 (by
  congr 1
  exact List.filter_eq_self.2 fun _ _=>rfl)
end
theorem qpk (x:Bdr) (ok:Ue x) (scs:List Sc) (es:List Gx) (hP:∀ p∈pcs scs,p.Nodup/\p≠[]) (L6:x.sv.n<=2^20) (gW:es.length<=2^20):∀ (Q:List (List Nat)),(∀ p∈Q,p.length<=2^20)->zW x scs es Q
 | [],_=>zgi x ok scs es gW L6
 | p::Q,h=>zu0 x ok scs es hP p Q (qpk x ok scs es hP L6 gW Q fun q hq=>h q (List.mem_cons_of_mem _ hq)) L6 (h p (List.mem_cons_self ..))
theorem NO.zed {base:Nat} {w:World} {v:Value} {L:List (List Nat)} {vs:List Value} {F:Nat->Prop} (h:NO base w v L vs F) :
  Zed (Btw base w.heap.size) w fun K W=>Au 1 (fun i _=>vs[i]?.getD undef) K W v L.length/\∀ i,i<L.length->Ee K W (vs[i]?.getD undef) (L[i]?.getD []):=by
 intro W K ha hK
 constructor
 ·have := Be.zed h.own (F:=Btw base w.heap.size) (fun b hb=>⟨h.own.low hb,h.own.lt hb⟩) W K ha hK
  rw[List.length_zipWith,h.len,Nat.min_self]at this
  refine this.congr fun i hi j hj=>?_
  obtain rfl:j=0:=by omega
  have hv:vs[i]?=some (vs[i]'(by rw[h.len];exact hi)):=Ac _;rw[vI (row:=fun _ u=>[u]) (Ac hi) hv,hv]
  rfl
 ·intro i hi
  have hv:vs[i]?=some (vs[i]'(by rw[h.len];exact hi)):=Ac _;have := ((h.dat i _ _ (Ac hi) hv).mono fun b hb=>(⟨(h.rng b hb).1,(h.rng b hb).2⟩:Btw base w.heap.size b)) W K ha hK;rw[hv,Ac hi];exact this
structure Ti (scs:List Sc) (n K0:Nat) (W0:World) (d:Nat->Bool) (x:Nat->Value) (bk:Nat->Nat) (lo hi:Nat) (gv:Nat->Value) (w:World):Prop where
 bel:Below K0 W0 w
 rng:∀ j,(j=6\/j=7\/j=8\/j=10)->d j=true->K0<=bk j/\bk j<w.heap.size
 dis:∀ i j,(i=6\/i=7\/i=8\/i=10)->(j=6\/j=7\/j=8\/j=10)->i≠j->d i=true->d j=true->bk i≠bk j
 out:d 3=true->K0<=lo/\lo<=hi/\hi<=w.heap.size/\∀ j,(j=6\/j=7\/j=8\/j=10)->d j=true->bk j<lo\/hi<=bk j
 c3:d 3=true->(∃ a c,x 3=.slice a n c)/\Zed (Btw lo hi) w fun K W=>Au 1 (fun i _=>gv i) K W (x 3) n/\∀ i,i<n->Ee K W (gv i) ((pcs scs)[i]?.getD [])
 c6:d 6=true->x 6=.slice (some ⟨bk 6,0,none⟩) n n/\Blk w (bk 6) (Kf n fun _=>.int .i64 0) 3
 c7:d 7=true->x 7=.map (some (bk 7))/\Ek w 9 (bk 7) 0 (fun _=>none)
 c8:d 8=true->x 8=.map (some (bk 8))/\Ek w 9 (bk 8) 0 (fun _=>none)
 c10:d 10=true->x 10=.pointer (some ⟨bk 10,0,none⟩)/\Blk w (bk 10) #[.slice none 0 0,.slice none 0 0,.slice none 0 0,.int .i64 0,.slice none 0 0,.slice none 0 0,.slice none 0 0,.map none,.map none] 89
def uI (d:Nat->Nat) (j b:Nat):Nat->Nat:=fun k=>if k=j then b else d k
section
variable {scs:List Sc} {n K0:Nat} {W0:World} {d:Nat->Bool} {x:Nat->Value} {bk:Nat->Nat} {lo hi:Nat} {gv:Nat->Value} {w w':World}
theorem Ti.add (h:Ti scs n K0 W0 d x bk lo hi gv w) (hK:K0<=w.heap.size) {j:Nat} (hj:j=6\/j=7\/j=8\/j=10) (v:Value) (o:Obj)
  (h6:j=6->v=.slice (some ⟨w.heap.size,0,none⟩) n n/\o=.cells (Kf n fun _=>.int .i64 0) 3)
  (h7:j=7->v=.map (some w.heap.size)/\o=.map #[] 0) (h8:j=8->v=.map (some w.heap.size)/\o=.map #[] 0)
  (sJ:j=10->v=.pointer (some ⟨w.heap.size,0,none⟩)/\o=.cells #[.slice none 0 0,.slice none 0 0,.slice none 0 0,.int .i64 0,.slice none 0 0,.slice none 0 0,.slice none 0 0,.map none,.map none] 89) :
  Ti scs n K0 W0 (Ef d j) (Du x j v) (uI bk j w.heap.size) lo hi gv (w.alloc o):=by
 have hb:Below w.heap.size w (w.alloc o):=Af _ _;have hs:(w.alloc o).heap.size=w.heap.size+1:=World.size_alloc ..
 have hd:∀ k,k≠j->Ef d j k=d k:=fun k hk=>Le d hk
 have hx:∀ k,k≠j->Du x j v k=x k:=fun k hk=>Oh x v hk
 have hn:∀ k,k≠j->uI bk j w.heap.size k=bk k:=fun k hk=>by simp[uI,hk]
 have aV:uI bk j w.heap.size j=w.heap.size:=by simp[uI]
 have zF:Du x j v j=v:=yN ..
 have qe4:(3:Nat)≠j:=by omega
 refine⟨h.bel.trans (hb.mono hK),fun k hk Dq=>?_,fun i k hi hk At Wz Dq=>?_,fun K1=>?_,fun K1=>?_,fun Dq=>?_,fun Dq=>?_,fun Dq=>?_,fun Dq=>?_⟩
 ·by_cases e:k=j
  ·subst e;rw[aV];omega
  ·rw[hn k e];rw[hd k e]at Dq
   have := h.rng k hk Dq;omega
 ·by_cases ei:i=j
  ·have ek:k≠j:=fun e=>At (by omega)
   rw[ei,aV,hn k ek];rw[hd k ek]at Dq;have := (h.rng k hk Dq).2;omega
  ·by_cases ek:k=j
   ·rw[ek,aV,hn i ei]
    rw[hd i ei]at Wz;have := (h.rng i hi Wz).2;omega
   ·rw[hn i ei,hn k ek]
    rw[hd i ei]at Wz;rw[hd k ek]at Dq;exact h.dis i k hi hk At Wz Dq
 ·rw[hd 3 qe4]at K1
  obtain⟨g1,g2,g3,g4⟩:=h.out K1;refine⟨g1,g2,by omega,fun k hk Dq=>?_⟩
  by_cases e:k=j
  ·rw[e,aV];exact .inr g3
  ·rw[hn k e];rw[hd k e]at Dq;exact g4 k hk Dq
 ·rw[hd 3 qe4]at K1
  rw[hx 3 qe4];obtain⟨g1,g2⟩:=h.c3 K1;exact⟨g1,g2.move (bH hb fun b hb=>by have := hb.2;have := (h.out K1).2.2.1;omega)⟩
 ·by_cases e:6=j
  ·subst e
   obtain⟨e1,e2⟩:=h6 rfl;rw[zF,aV,e1,e2];exact⟨rfl,Blk.new w _ _⟩
  ·rw[hx 6 e,hn 6 e];rw[hd 6 e]at Dq
   exact⟨(h.c6 Dq).1,(h.c6 Dq).2.alloc _⟩
 ·by_cases e:7=j
  ·subst e
   obtain⟨e1,e2⟩:=h7 rfl;rw[zF,aV,e1,e2];exact⟨rfl,Ek.made w _⟩
  ·rw[hx 7 e,hn 7 e];rw[hd 7 e]at Dq
   exact⟨(h.c7 Dq).1,(h.c7 Dq).2.alloc _⟩
 ·by_cases e:8=j
  ·subst e
   obtain⟨e1,e2⟩:=h8 rfl;rw[zF,aV,e1,e2];exact⟨rfl,Ek.made w _⟩
  ·rw[hx 8 e,hn 8 e];rw[hd 8 e]at Dq
   exact⟨(h.c8 Dq).1,(h.c8 Dq).2.alloc _⟩
 ·by_cases e:10=j
  ·subst e
   obtain⟨e1,e2⟩:=sJ rfl;rw[zF,aV,e1,e2];exact⟨rfl,Blk.new w _ _⟩
  ·rw[hx 10 e,hn 10 e];rw[hd 10 e]at Dq
   exact⟨(h.c10 Dq).1,(h.c10 Dq).2.alloc _⟩
theorem Ti.poss (h:Ti scs n K0 W0 d x bk lo hi gv w) (hK:K0<=w.heap.size) {v:Value} {gv':Nat->Value} (hv:∃ a c,v=.slice a n c) (hb:Below w.heap.size w w')
  (hz:Zed (Btw w.heap.size w'.heap.size) w' fun K W=>Au 1 (fun i _=>gv' i) K W v n/\∀ i,i<n->Ee K W (gv' i) ((pcs scs)[i]?.getD [])):Ti scs n K0 W0 (Ef d 3) (Du x 3 v) bk w.heap.size w'.heap.size gv' w':=by
 have hs:=hb.size
 have hd:∀ k,k≠3->Ef d 3 k=d k:=fun k hk=>Le d hk
 have hx:∀ k,k≠3->Du x 3 v k=x k:=fun k hk=>Oh x v hk
 have Aj:∀ k,(k=6\/k=7\/k=8\/k=10)->Ef d 3 k=true->K0<=bk k/\bk k<w.heap.size:=fun k hk Dq=>by
  rw[hd k (by omega)]at Dq;exact h.rng k hk Dq
 refine⟨h.bel.trans (hb.mono hK),fun k hk Dq=>by have := Aj k hk Dq;omega,fun i k hi hk At Wz Dq=>?_,fun _=>⟨hK,hs,Ab _,fun k hk Dq=>.inl (Aj k hk Dq).2⟩,fun _=>by rw[yN];exact⟨hv,hz⟩,fun Dq=>?_,fun Dq=>?_,fun Dq=>?_,fun Dq=>?_⟩
 ·rw[hd i (by omega)]at Wz
  rw[hd k (by omega)]at Dq;exact h.dis i k hi hk At Wz Dq
 ·have := (Aj 6 (by omega) Dq).2
  rw[hd 6 (by omega)]at Dq;rw[hx 6 (by omega)];exact⟨(h.c6 Dq).1,(h.c6 Dq).2.below hb this⟩
 ·have := (Aj 7 (by omega) Dq).2
  rw[hd 7 (by omega)]at Dq;rw[hx 7 (by omega)];exact⟨(h.c7 Dq).1,(h.c7 Dq).2.below hb this⟩
 ·have := (Aj 8 (by omega) Dq).2
  rw[hd 8 (by omega)]at Dq;rw[hx 8 (by omega)];exact⟨(h.c8 Dq).1,(h.c8 Dq).2.below hb this⟩
 ·have := (Aj 10 (by omega) Dq).2
  rw[hd 10 (by omega)]at Dq;rw[hx 10 (by omega)];exact⟨(h.c10 Dq).1,(h.c10 Dq).2.below hb this⟩
end
theorem Ti.nine {scs:List Sc} {n K0:Nat} {W0:World} {d:Nat->Bool} {x:Nat->Value} {bk:Nat->Nat} {lo hi:Nat} {gv:Nat->Value} {w:World} (h:Ti scs n K0 W0 d x bk lo hi gv w) (v:Value):Ti scs n K0 W0 (Ef d 9) (Du x 9 v) bk lo hi gv w where
 bel:=h.bel
 rng:=fun j hj hd=>h.rng j hj (by rwa[Le d (by omega)]at hd)
 dis:=fun i j hi hj At h1 h2=>h.dis i j hi hj At (by rwa[Le d (by omega)]at h1) (by rwa[Le d (by omega)]at h2)
 out:=fun h3=>by
  rw[Le d (by omega)]at h3;obtain⟨g1,g2,g3,g4⟩:=h.out h3;exact⟨g1,g2,g3,fun j hj hd=>g4 j hj (by rwa[Le d (by omega)]at hd)⟩
 c3:=fun h3=>by rw[Le d (by omega)]at h3;rw[Oh x v (by omega)];exact h.c3 h3
 c6:=fun h3=>by rw[Le d (by omega)]at h3;rw[Oh x v (by omega)];exact h.c6 h3
 c7:=fun h3=>by rw[Le d (by omega)]at h3;rw[Oh x v (by omega)];exact h.c7 h3
 c8:=fun h3=>by rw[Le d (by omega)]at h3;rw[Oh x v (by omega)];exact h.c8 h3
 c10:=fun h3=>by rw[Le d (by omega)]at h3;rw[Oh x v (by omega)];exact h.c10 h3
structure qy8 (scs:List Sc) (es:List Gx) (T k:Nat) (ca:Option Addr) (cm:Nat) (vs:List Value) (w:World):Prop where
 own:Be 1 91 T w (.slice ca k cm) (vs.map fun u=>[u])
 len:vs.length=k
 dat:∀ i,i<k->Zed (Frz T w.heap.size (.slice ca k cm)) w (Ty (Cu (pcs scs)) (fun cs=>evG scs cs (es[i]?.getD default)) (vs[i]?.getD undef))
abbrev j0 (sa:Option Addr) (n sm:Nat) (cv:Value) (pa:Option Addr) (pc cb nm lm:Nat):Array Value:=#[.slice sa n sm,.slice none 0 0,.slice none 0 0,.int .i64 0,cv,.slice pa n pc,.slice (some ⟨cb,0,none⟩) n n,.map (some nm),.map (some lm)]
theorem zse:(Tryz.prog.info? 89).map (fun i=>i.size)=some 9:=by kernel_rfl
theorem qeb:∀ (P Q:List (List Nat)),Gd (P++Q)=Gd P*Gd Q
 | [],Q=>by show _=1*_;rw[Nat.one_mul];rfl
 | p::P,Q=>by show p.length*Gd (P++Q)=p.length*Gd P*Gd Q;rw[qeb P Q,Nat.mul_assoc]
theorem qxc {P:List (List Nat)} (h:∀ p∈P,p≠[]) (i:Nat):Gd (P.take i)<=Gd P:=by
 have h1:=qeb (P.take i) (P.drop i);rw[List.take_append_drop]at h1
 have h2:=qct (P:=P.drop i) fun p hp=>h p (List.mem_of_mem_drop hp)
 rw[h1];exact Nat.le_mul_of_pos_right _ h2
theorem qmg (P:List (List Nat)) (p:List Nat):Gd (P++[p])=Gd P*p.length:=by rw[qeb];show _*(p.length*1)=_;rw[Nat.mul_one]
theorem Ek.same {w w':World} {k:TypeId} {b m:Nat} {f:Lit->Option Value} (h:Ek w k b m f) (e:w'.heap[b]?=w.heap[b]?):Ek w' k b m f:=by
 obtain⟨D,⟨es,clock,hh,rest⟩,h2⟩:=h;exact⟨D,⟨es,clock,e.trans hh,rest⟩,h2⟩
theorem zsk:(fun _=>none:Lit->Option Value)=fS (nmF []):=by
 funext x;cases x<;>simp[fS,nmF,atKey]
theorem zq8:(fun _=>none:Lit->Option Value)=fS (lmF []):=by
 funext x;cases x<;>simp[fS,lmF,atKey]
theorem zne (n:Nat):Kf n (fun _=>.int .i64 0)=((List.replicate n 0).map Z).toArray:=by
 unfold Kf
 congr 1
 rw[List.map_replicate]
 apply List.ext_getElem?
 intro i
 rw[List.getElem?_map]
 by_cases h:i<n
 ·rw[List.getElem?_range h,List.getElem?_replicate,if_pos h];rfl
 ·rw[List.getElem?_eq_none (by simpa using h),List.getElem?_eq_none (by simpa using h)];rfl
theorem zn9 {P:List (List Nat)} (h:∀ p∈P,p≠[]) {p:List Nat} (hp:p∈P):p.length<=Gd P:=by
 obtain⟨i,hi,rfl⟩:=List.getElem_of_mem hp;have h1:=qxc h (i+1);rw[Q0 (Ac hi),qmg]at h1
 have h2:=qct (P:=P.take i) fun p hp=>h p (List.mem_of_mem_take hp)
 exact Nat.le_trans (Nat.le_mul_of_pos_left _ h2) h1
theorem zob (n:Nat) (hn:n<=2^38) (w:World):(Instr.makeSlice 34 (.int .i64 n) (.int .i64 n)).run Tryz.prog w=.ok (.slice (some ⟨w.heap.size,0,none⟩) n n) (w.alloc (.cells (Kf n fun _=>.int .i64 0) 3)):=by
 obtain⟨i0,hi,Cz,Gb,Ft⟩:=info_parts zbg;have h:=run_make (P:=Tryz.prog) w 34 3 i0 _ Tryz.underlying34 hi Cz .i64 .i64 n n (by omega) (Int.le_refl _) (by rw[Ft];omega) (by omega);rw[Gb,Int.toNat_natCast]at h;rw[h];have := qws (.int .i64 0) n;simp only[Value.cells]at this ⊢;rw[this]
end Go.Proofs.YtlldjmagbjjeoaaGreatDoor
