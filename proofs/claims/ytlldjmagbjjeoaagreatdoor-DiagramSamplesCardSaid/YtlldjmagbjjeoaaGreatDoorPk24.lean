/- Contracts and plain laws, several texts in one (GHold2, GSmp2, GSmp01, GlKit, GlK2, GlK3). No conditions beyond those stated. -/
import Derived.Test.YtlldjmagbjjeoaaGreatDoorPk19
import Derived.Test.YtlldjmagbjjeoaaGreatDoorPk23
set_option maxRecDepth 100000
set_option maxHeartbeats 40000000
namespace Go.Proofs.YtlldjmagbjjeoaaGreatDoor
open Go.RowKit
set_option linter.unusedVariables false
structure qxp (bb:Nat) (b:Bool) (r:Bool × Bool) (W:World) (en:Ending) (W':World):Prop where
 en:en=.returned (.bool r.1)
 gr:W.grownBy W' (some bb)
 ct:Blk W' bb #[.bool (b && r.2)] 4
abbrev hdF (lb bb cb bf:Nat):Value:=.func (.func 97) #[] #[.pointer (some ⟨lb,0,none⟩),.pointer (some ⟨bb,0,none⟩),.pointer (some ⟨cb,0,none⟩),.pointer (some ⟨bf,0,none⟩)]
abbrev Re (K:Nat) (w:World) (v:Value) (cs:List Int):Prop:=Au 1 (fun i _=>.int .i64 (cs[i]?.getD 0)) K w v cs.length
structure HdW (K lb bb cb bf:Nat) (l:List Sc) (cs:List Int) (lv cv:Value) (b:Bool) (W:World):Prop where
 l:Mo K W lv l
 c:Re K W cv cs
 qb:Blk W bb #[.bool b] 4
 ql:Blk W lb #[lv] 27
 qc:Blk W cb #[cv] 34
 qf:Blk W bf #[hdF lb bb cb bf] 74
theorem HdW.turn {K lb bb cb bf:Nat} {l:List Sc} {cs:List Int} {lv cv:Value} {b b':Bool} {W W':World} (h:HdW K lb bb cb bf l cs lv cv b W) (hK:K<=bb) (hg:W.grownBy W' (some bb)) (hq:Blk W' bb #[.bool b'] 4):HdW K lb bb cb bf l cs lv cv b' W':=by
 have hb:=kR hg (by have := h.qb.lt;omega) hK;refine⟨h.l.below hb (Ab _) (Ab _),h.c.below hb (Ab _) (Ab _),hq,h.ql.kept hg fun e=>?_,h.qc.kept hg fun e=>?_,h.qf.kept hg fun e=>?_⟩
 ·cases e;exact absurd (h.ql.ty_ne h.qb) (by decide)
 ·cases e;exact absurd (h.qc.ty_ne h.qb) (by decide)
 ·cases e;exact absurd (h.qf.ty_ne h.qb) (by decide)
theorem HdW.grown {K lb bb cb bf:Nat} {l:List Sc} {cs:List Int} {lv cv:Value} {b:Bool} {W W':World} (h:HdW K lb bb cb bf l cs lv cv b W) (hK:K<=bb) (hg:Below W.heap.size W W'):HdW K lb bb cb bf l cs lv cv b W' :=
 h.turn hK (oG (Rj hg)) (h.qb.below hg h.qb.lt)
theorem HdW.put {K lb bb cb bf u:Nat} {l:List Sc} {cs:List Int} {lv cv:Value} {b:Bool} {W W':World} {ar:Array Value} (h:HdW K lb bb cb bf l cs lv cv b W) (hu:Blk W u ar 145) (hK:K<=u) (hg:W.grownBy W' (some u)):HdW K lb bb cb bf l cs lv cv b W':=by
 have hb:=kR hg (by have := hu.lt;omega) hK;refine⟨h.l.below hb (Ab _) (Ab _),h.c.below hb (Ab _) (Ab _),h.qb.kept hg fun e=>?_,h.ql.kept hg fun e=>?_,h.qc.kept hg fun e=>?_,h.qf.kept hg fun e=>?_⟩
 ·cases e;exact absurd (h.qb.ty_ne hu) (by decide)
 ·cases e;exact absurd (h.ql.ty_ne hu) (by decide)
 ·cases e;exact absurd (h.qc.ty_ne hu) (by decide)
 ·cases e;exact absurd (h.qf.ty_ne hu) (by decide)
theorem zkq {w w' w'':World} {r:Option Nat} {u:Nat} (h:w.grownBy w' r) (h':w'.grownBy w'' (some u)) (hu:w.heap.size<=u):w.grownBy w'' r :=
 ⟨h'.os.trans h.os,h'.tape.trans h.tape,h'.output.trans h.output,Nat.le_trans h.size h'.size,fun k hk hr=>(h'.block k (Nat.lt_of_lt_of_le hk h.size) (fun e=>by cases e;omega)).trans (h.block k hk hr)⟩
theorem zqt {o:Int} {f:Nat->Bool} {x y z:Bool} (h0:f 0=x) (h1:f 1=y) (h2:f 2=z):A7 o f=if o=15 then x && y else if o=16 then x || y else if o=17 then !x else if x=true then y else z:=by
 subst h0;subst h1;subst h2;rfl
theorem aK {g:Nat->Sv} {w:World} {b o k n:Nat} (hc:∀ i,i<n->∀ j,j<11->w.cell? ⟨b,o+(i*11+j),none⟩=some ((g i).cell j)) (hk:k<n):w.rangeAt b (o+k*11) (g k).cells.toList:=by
 intro j v hj
 have O5:j<11:=(List.getElem?_eq_some_iff.1 hj).1;have := qih (g k) O5;rw[hj,Option.getD_some]at this;rw[this,Nat.add_assoc];exact hc k hk j O5
theorem Mc:(Tryz.prog.info? 46).map (fun i=>i.size)=some 11:=by kernel_rfl
theorem zcw (K bb lb cb bf:Nat) (l:List Sc) (cs:List Int) (lv cv:Value) (Cc:cs.length=l.length) (Ay:∀ s∈l,Nq s.kd s.cuts/\s.cuts.length<=2^38) (hKb:K<=bb) (m:Nat):∀ (e:Gx),e.parts<=m->e.parts<=200->e.good=true->∀ (b:Bool) (x:Xv) (W:World),ExG K W e x->HdW K lb bb cb bf l cs lv cv b W →
   Calls Tryz.prog 97 #[x.agg,.pointer (some ⟨lb,0,none⟩),.pointer (some ⟨bb,0,none⟩),.pointer (some ⟨cb,0,none⟩),.pointer (some ⟨bf,0,none⟩)] W (qxp bb b (Ll l cs e) W):=by
 induction m with
 | zero=>intro e hm;cases e;rw[S7]at hm;omega
 | succ m ih =>
  intro e hm mQ Pn b x W h hW
  have qqp:=hW.qb.lt
  have Qr:K<=W.heap.size:=by omega
  obtain⟨Dc,zmj,_,hv,g,hg,Eh⟩:=h.open;obtain⟨va,vcap,h8,Mr,Mn⟩:=hg.form;have HX:=Aa h;have jF:x.i7=e.v.i:=hv.i;clear zmj;obtain⟨xop,xnm,kd,b3,⟨a4,n4,m4⟩,b5,⟨a6,n6,m6⟩,i7,⟨a8,n8,m8⟩⟩:=x;simp only[Sl.val,Value.slice.injEq]at h8;obtain⟨rfl,rfl,rfl⟩:=h8;dsimp only at jF Dc
  have Mz:Hid (∀ (k:Nat) (a:Gx),e.args[k]?=some a->ExG K W a (g k)/\a.parts<=m/\a.parts<=200/\a.good=true):=Aa fun k a ha=>by
   have h1:=Z9 (List.mem_of_getElem? ha);rw[Xk]at hm mQ;exact⟨Eh k a ha,by omega,by omega,jW Pn a (List.mem_of_getElem? ha)⟩
  have qib:=Aa jF;have aJ:=Aa Dc;have Y1:=Aa hg;have M0:=Aa ih;have Z0:=Aa hW
  have HP:Hid (∀ r W',Ll l cs e=r->W.grownBy W' (some bb)->Blk W' bb #[.bool (b && r.2)] 4->qxp bb b (Ll l cs e) W (.returned (.bool r.1)) W'):=Aa fun r W' h1 h2 h3=>⟨by rw[h1],h2,by rw[h1];exact h3⟩
  obtain⟨W1,Ah⟩:=Ae (W.alloc (.cells (⟨xop,xnm,kd,b3,⟨a4,n4,m4⟩,b5,⟨a6,n6,m6⟩,i7,⟨a8,e.args.length,m8⟩⟩:Xv).cells 43))
  have b1:Below W.heap.size W W1:=by rw[<- Ah];exact Af _ _
  have q1:Blk W1 W.heap.size (⟨xop,xnm,kd,b3,⟨a4,n4,m4⟩,b5,⟨a6,n6,m6⟩,i7,⟨a8,e.args.length,m8⟩⟩:Xv).cells 43:=by rw[<- Ah];exact Blk.new W _ _
  have s1:W1.heap.size=W.heap.size+1:=by rw[<- Ah];simp
  have Nx:=qwh K e _ W1 (h.below b1 Qr (Ab _)) Pn (by omega)
  have dA:∀ W2,Below W1.heap.size W1 W2->Calls Tryz.prog 90 #[(⟨xop,xnm,kd,b3,⟨a4,n4,m4⟩,b5,⟨a6,n6,m6⟩,i7,⟨a8,e.args.length,m8⟩⟩:Xv).agg] W2 fun en w'=>en=.returned (.bool e.composed)/\Below W2.heap.size W2 w':=fun W2 hb=>qr4 K e _ W2 ((h.below b1 Qr (Ab _)).below hb (by omega) (Ab _))
  have ztk:=Aa dA;have qz5:=zin l cs e;have Ui:=Aa qz5;have Bc:=Aa q1;unfold maxLen at Mn;have Dk:=Aa Ah;obtain⟨d0,d1,d2,d3,d4,d5,d6,d7,d8⟩:=q1.nine;clear h Eh hg ih hm Ah hv dA qz5 q1 hW jF Dc;go_enter Tryz.func97,Tryz.ntmps97
  go_upto_region 1 with fail
  rw[Dk.out];go_wp2_with fail
  refine Nx.mono ?_;rintro en w2 ⟨rfl,Ai⟩;clear Nx d0 d1 d2 d3 d4 d5 d6 d7 d8;obtain⟨rs,Ih⟩:∃ r,e.settled=r:=⟨_,rfl⟩;rw[Ih];have b2:Below W.heap.size W w2:=b1.trans (Ai.mono (by omega));have Dz:=Bc.out.below Ai (by omega);obtain⟨d0,d1,d2,d3,d4,d5,d6,d7,d8⟩:=Dz.nine
  cases rs with
  | true =>
   have hx:=HP.out (e.v.i==1,true) w2 (by rw[Ui.out,if_pos Ih]) (oG (Rj b2)) (by simpa using Z0.out.qb.below b2 qqp);rw[<- qib.out]at hx;go_wp2_with fail
   go_ret
   exact hx
  | false =>
   go_wp2_with fail
   refine(ztk.out w2 Ai).mono ?_;rintro en w3 ⟨rfl,Ak⟩;clear d0 d1 d2 d3 d4 d5 d6 d7 d8;have b3':Below W.heap.size W w3:=b2.trans (Ak.mono b2.size);have vT:=Dz.below Ak Dz.lt;obtain⟨rc,Rx⟩:∃ r,e.composed=r:=⟨_,rfl⟩;rw[Rx];have Cn:=Z0.out.grown hKb b3'
   cases rc with
   | false =>
    have ht:=qoi K e _ w3 (HX.out.below b3' Qr (Ab _)) Pn (by have := b3'.size;omega);obtain⟨d0,d1,d2,d3,d4,d5,d6,d7,d8⟩:=vT.nine;go_wp2_with fail
    refine ht.mono ?_;rintro en w4 ⟨y,rfl,nD,Al⟩;clear ht d0 d1 d2 d3 d4 d5 d6 d7 d8;have b4:Below W.heap.size W w4:=b3'.trans (Al.mono b3'.size);have Fc:=Z0.out.grown hKb b4;obtain⟨⟨yop,ynm,yk,yb3,⟨y4,y4n,y4m⟩,yb5,⟨y6,y6n,y6m⟩,yi7,⟨y8,y8n,y8m⟩⟩,tk,⟨kx,f1,x1,f2,x2,xi⟩,top_,tsn⟩:=y;obtain⟨a1,m1,Bu,_⟩:=nD.cut.n.form;obtain⟨a2,m2,Bs,_⟩:=nD.cut.d.form;obtain⟨l1n,dF⟩:∃ n,(Ec e).cut.l1.length=n:=⟨_,rfl⟩;obtain⟨l2n,bF⟩:∃ n,(Ec e).cut.l2.length=n:=⟨_,rfl⟩;rw[dF]at Bu;rw[bF]at Bs;dsimp only at Bu Bs;subst Bu Bs;clear dF bF
    have Bd:∀ u∈(⟨⟨yop,ynm,yk,yb3,⟨y4,y4n,y4m⟩,yb5,⟨y6,y6n,y6m⟩,yi7,⟨y8,y8n,y8m⟩⟩,tk,⟨kx,f1,.slice a1 l1n m1,f2,.slice a2 l2n m2,xi⟩,top_,tsn⟩:Tv).cells,u.oneCell'=true:=by simp[Value.oneCell']
    go_upto_region 5 with(refine Iu rfl 79 (.tmp 7) (.tmp 24) rfl (⟨⟨yop,ynm,yk,yb3,⟨y4,y4n,y4m⟩,yb5,⟨y6,y6n,y6m⟩,yi7,⟨y8,y8n,y8m⟩⟩,tk,⟨kx,f1,.slice a1 l1n m1,f2,.slice a2 l2n m2,xi⟩,top_,tsn⟩:Tv).cells _ Zk rfl Bd w4.heap.size rfl rfl rfl ?_)
    generalize Ez:w4.alloc _=W5
    have s4:=b4.size
    have b5':Below w4.heap.size w4 W5:=by rw[<- Ez];exact Af _ _
    have b5:Below W.heap.size W W5:=b4.trans (b5'.mono s4)
    have q5:Blk W5 w4.heap.size (⟨⟨yop,ynm,yk,yb3,⟨y4,y4n,y4m⟩,yb5,⟨y6,y6n,y6m⟩,yi7,⟨y8,y8n,y8m⟩⟩,tk,⟨kx,f1,.slice a1 l1n m1,f2,.slice a2 l2n m2,xi⟩,top_,tsn⟩:Tv).cells 79:=by rw[<- Ez];exact Blk.new w4 _ _
    have bQ:=Z0.out.grown hKb b5;have qha:=nD.below b5' (by omega) (Ab _);have s5:=b5'.size;obtain⟨la,lc,Hg,_,Jw⟩:=bQ.l.form;unfold maxLen at Jw;have Ke:=qsi K (Ec e) _ lv l W5 qha bQ.l (by omega);rw[Hg]at Ke;have c5:=bQ.ql.one.1;rw[Hg]at c5;have qth:Hid (Ll l cs e=qU l cs e):=Aa (by rw[Ui.out,if_neg (by rw[Ih];simp),if_neg (by rw[Rx];simp)]);have Jq:=Aa q5;have zxd:=Aa qha;have Hf:=Aa b5;have q5lt:=q5.lt;obtain⟨u,hu⟩:=Ae w4.heap.size;rw[hu]at Jq q5lt ⊢;have Nl:=Aa Hg;have qbl:=bQ.qb.lt;obtain⟨g2,qxz,za9⟩:=bQ.l;have Kr:=Aa qxz;have Gh:=Aa bQ.c;have Si:=Aa za9;have yO:=Aa bQ;clear qxz za9 Ez b5' nD qha q5 hu Fc Cn vT Dz Al Ak Ai bQ b5 Hg s4;have Qh:Hid (W5.rangeAt u 0 (⟨⟨yop,ynm,yk,yb3,⟨y4,y4n,y4m⟩,yb5,⟨y6,y6n,y6m⟩,yi7,⟨y8,y8n,y8m⟩⟩,tk,⟨kx,f1,.slice a1 l1n m1,f2,.slice a2 l2n m2,xi⟩,top_,tsn⟩:Tv).cells.toList):=Aa Jq.out.range
    by_cases hi:l.findIdx (Ec e).belongs<l.length
    ·obtain⟨i,e8⟩:=Ae (l.findIdx (Ec e).belongs)
     have rY:Yo l (Ec e)=(i:Int):=by unfold Yo;rw[if_pos hi,e8]
     rw[rY]at Ke;have Va:=qcn hi;rw[e8]at Va hi;obtain⟨sb,so,scap,Nh,_,_,Hw,D1⟩:=Kr.out.pos (by omega);obtain⟨kb,ko,kcap,X7,_,pM,zsx,uR⟩:=Gh.out.pos (by omega);rw[Nl.out]at Nh;simp only[Value.slice.injEq,true_and]at Nh;obtain⟨rfl,rfl⟩:=Nh
     have Tn:l[i]?.getD default∈l:=by rw[Ac hi];exact List.getElem_mem hi
     obtain⟨Em,Dr⟩:=Ay _ Tn;have Yu:=qo2 Pn mQ;obtain⟨sc,Cd⟩:∃ s,l[i]?.getD default=s:=⟨_,rfl⟩;obtain⟨y2,cI⟩:∃ y,g2 i=y:=⟨_,rfl⟩;obtain⟨ci,Ik⟩:∃ c,cs[i]?.getD 0=c:=⟨_,rfl⟩;have Gi:=Si.out i hi;rw[Cd,cI]at Gi;rw[Cd]at Em Dr Va
     have Ea:(Ec e).kd≠0->(Ec e).cut.good=true/\(Ec e).cut.ok=true/\(Ec e).cut.kd=sc.kd:=fun h=>by
      obtain⟨h1,h2,h3⟩:=Yu.cut h;exact⟨h1,h2,by rw[h3,qfs Va]⟩
     have qgc:∀ W',Below W5.heap.size W5 W'->Calls Tryz.prog 98 #[(⟨⟨yop,ynm,yk,yb3,⟨y4,y4n,y4m⟩,yb5,⟨y6,y6n,y6m⟩,yi7,⟨y8,y8n,y8m⟩⟩,tk,⟨kx,f1,.slice a1 l1n m1,f2,.slice a2 l2n m2,xi⟩,top_,tsn⟩:Tv).agg,y2.agg,.int .i64 ci] W' fun e' w'=>e'=.returned (.tuple #[.bool (bV (Ec e) sc ci).1,.bool (bV (Ec e) sc ci).2])/\Below W'.heap.size W' w':=fun W' hb =>
      zqn K (Ec e) sc ci _ y2 W' (zxd.out.below hb (by omega) (Ab _)) (Gi.below hb (by omega) (Ab _)) (by have := hb.size;omega) Em Ea Dr
     obtain⟨r,Ok⟩:=Ae (bV (Ec e) sc ci);rw[Ok]at qgc;have HR:Hid (Ll l cs e=r):=Aa (by rw[qth.out];unfold qU;rw[e8,if_pos hi,Cd,Ik];exact Ok);have HT:=Aa qgc
     have F4:Hid (∀ W',Below W5.heap.size W5 W'->W'.rangeAt sb (so+i*11) y2.cells.toList):=Aa fun W' hb=>by
      rw[<- cI];exact aK (Km hb (by omega) D1) hi
     have zem:Hid (∀ W',Below W5.heap.size W5 W'->W'.cell? ⟨kb,ko+i,none⟩=some (.int .i64 ci)):=Aa fun W' hb=>by
      have := Km hb (by omega) uR i (by omega) 0 (by omega)
      simpa [Ik] using this
     have Hc:i<cs.length:=by omega
     have zw7:=Aa X7
     have X8:sb<W5.heap.size:=by omega
     have g9:kb<W5.heap.size:=by omega
     clear rY e8 Va D1 uR Em Dr Yu Gi Ea qgc Ok Tn cI Ik Cd X7;go_wp2_with (refine wpList_load_mid rfl 79 (.tmp 7) rfl u 0 rfl (⟨⟨yop,ynm,yk,yb3,⟨y4,y4n,y4m⟩,yb5,⟨y6,y6n,y6m⟩,yi7,⟨y8,y8n,y8m⟩⟩,tk,⟨kx,f1,.slice a1 l1n m1,f2,.slice a2 l2n m2,xi⟩,top_,tsn⟩:Tv).cells.toList _ Qh.out Tryz.underlying79 rfl Zk ?_)
     refine Ke.mono ?_;rintro en w6 ⟨rfl,Bk⟩;clear Ke c5;have b6:Below W.heap.size W w6:=Hf.out.trans (Bk.mono Hf.out.size);have Nt:=Bk.size;have zuw:i<l.length:=hi
     go_upto_region 9 with fail
     refine Fz (fun W'=>Below w6.heap.size w6 W') [] (by kernel_rfl) ?_;have qS:(fun W'=>Below w6.heap.size w6 W') w6.drew:=Er (Below.refl _ _)
     have iZ:∀ W',Below w6.heap.size w6 W'->Below W5.heap.size W5 W':=fun W' h=>Bk.trans (h.mono Nt)
     refine Ar (i:=0) (v:=(⟨⟨yop,ynm,yk,yb3,⟨y4,y4n,y4m⟩,yb5,⟨y6,y6n,y6m⟩,yi7,⟨y8,y8n,y8m⟩⟩,tk,⟨kx,f1,.slice a1 l1n m1,f2,.slice a2 l2n m2,xi⟩,top_,tsn⟩:Tv).agg) rfl (yieldsIf_load_mid (by kernel_rfl) 79 (.tmp 7) rfl u 0 rfl (⟨⟨yop,ynm,yk,yb3,⟨y4,y4n,y4m⟩,yb5,⟨y6,y6n,y6m⟩,yi7,⟨y8,y8n,y8m⟩⟩,tk,⟨kx,f1,.slice a1 l1n m1,f2,.slice a2 l2n m2,xi⟩,top_,tsn⟩:Tv).cells.toList _ (fun W' hS=>(Jq.out.below (iZ W' hS) q5lt).range) Tryz.underlying79 rfl Zk) qS ?_;refine Ar (i:=1) (v:=.slice (some ⟨sb,so,none⟩) l.length lc) rfl (.inl ⟨by kernel_rfl,fun W' hS=>by have d0:=(yO.out.ql.below (iZ W' hS) yO.out.ql.lt).one.1;rw[Nl.out]at d0;go_simp⟩) qS ?_;refine Am (i:=2) (v:=.int .i64 (i:Int)) rfl qS ?_;refine Am (i:=3) (v:=.pointer (some ⟨sb,so+i*11,none⟩)) rfl qS ?_;refine Ar (i:=4) (v:=y2.agg) rfl (yieldsIf_load_mid (by kernel_rfl) 46 (.tmp 35) rfl sb (so+i*11) rfl y2.cells.toList _ (fun W' hS=>F4.out W' (iZ W' hS)) Tryz.underlying46 rfl Mc) qS ?_;refine Ar (i:=5) (v:=.slice (some ⟨kb,ko,none⟩) cs.length kcap) rfl (.inl ⟨by kernel_rfl,fun W' hS=>by have d0:=(yO.out.qc.below (iZ W' hS) yO.out.qc.lt).one.1;rw[zw7.out]at d0;go_simp⟩) qS ?_;refine Am (i:=6) (v:=.int .i64 (i:Int)) rfl qS ?_;refine Am (i:=7) (v:=.pointer (some ⟨kb,ko+i,none⟩)) rfl qS ?_;refine Ar (i:=8) (v:=.int .i64 ci) rfl (.inl ⟨by kernel_rfl,fun W' hS=>by have d0:=zem.out W' (iZ W' hS);go_simp⟩) qS ?_;refine Ap (i:=9) rfl ?_;go_simp
     refine(HT.out _ (iZ _ qS)).mono ?_;rintro en w7 ⟨rfl,Ct⟩;have qS6:Below w6.heap.size w6 w7:=qS.trans (Ct.mono qS.size);refine⟨qS6,?_⟩;obtain⟨r1,r2⟩:=r;dsimp only;refine Am (i:=10) (v:=.tuple #[.bool r1,.bool r2]) rfl qS6 ?_;refine Am (i:=11) (v:=.bool r1) rfl qS6 ?_;refine Am (i:=12) (v:=.bool r2) rfl qS6 ?_;refine Am (i:=13) (v:=.bool r1) rfl qS6 ?_;refine Ap (i:=14) rfl ?_;go_simp
     refine Eo (by kernel_rfl) ?_ _;have b7:Below W.heap.size W w7:=b6.trans (qS6.mono b6.size);obtain⟨c7,f7⟩:=(Z0.out.grown hKb b7).qb.one;have hx:=HP.out (r1,r2) (w7.setCell ⟨bb,0,none⟩ (.bool (b && r2))) HR.out (Xm (oG (Rj b7)) (Fm _ _ _ _)) (by simpa using (Z0.out.grown hKb b7).qb.set (i:=0) (.bool (b && r2)));clear Ct qS6 Bk qS iZ b6
     cases b with
     | false =>
      go_wp2_with fail
      go_ret
      exact hx
     | true =>
      go_wp2_with fail
      go_ret
      exact hx
    ·have rY:Yo l (Ec e) = -1:=by unfold Yo;rw[if_neg hi]
     rw[rY]at Ke
     have hr:Ll l cs e=(false,false):=by rw[qth.out];unfold qU;rw[if_neg hi]
     have HR:=Aa hr;clear rY hr hi;go_wp2_with (refine wpList_load_mid rfl 79 (.tmp 7) rfl u 0 rfl (⟨⟨yop,ynm,yk,yb3,⟨y4,y4n,y4m⟩,yb5,⟨y6,y6n,y6m⟩,yi7,⟨y8,y8n,y8m⟩⟩,tk,⟨kx,f1,.slice a1 l1n m1,f2,.slice a2 l2n m2,xi⟩,top_,tsn⟩:Tv).cells.toList _ Qh.out Tryz.underlying79 rfl Zk ?_)
     refine Ke.mono ?_;rintro en w6 ⟨rfl,Bk⟩;clear Ke c5;have b6:Below W.heap.size W w6:=Hf.out.trans (Bk.mono Hf.out.size);obtain⟨c6,f6⟩:=(Z0.out.grown hKb b6).qb.one;have hx:=HP.out (false,false) (w6.setCell ⟨bb,0,none⟩ (.bool false)) HR.out (Xm (oG (Rj b6)) (Fm _ _ _ _)) (by simpa using (Z0.out.grown hKb b6).qb.set (i:=0) (.bool false));go_wp2_with fail
     go_ret
     exact hx
   | true =>
    have zwv:=zki Rx;have xK:Hid (Ll l cs e=(A7 e.op fun k=>(Rf l cs e k).1,Wm l cs e e.args.length)):=Aa (by rw[Ui.out,if_neg (by rw[Ih];simp),if_pos Rx,zmf]);obtain⟨d0,d1,d2,d3,d4,d5,d6,d7,d8⟩:=vT.nine;have Hz:=Aa vT;have Do:=Aa b3';clear Dz vT b3' Ai Ak Rx Ih Cn
    go_upto_region 13 with fail
    generalize hV:w3.alloc _=W4
    have Ep:=Do.out.size
    have q4:Blk W4 w3.heap.size (Tc (fun k=>(Rf l cs e k).1) 0) 145:=by rw[<- hV];exact Blk.new w3 _ _
    have b4':Below w3.heap.size w3 W4:=by rw[<- hV];exact Af _ _
    have b4:Below W.heap.size W W4:=Do.out.trans (b4'.mono Ep)
    have s4:W4.heap.size=w3.heap.size+1:=by rw[<- hV];simp
    have Fc:HdW K lb bb cb bf l cs lv cv (b && Wm l cs e 0) W4:=by rw[zlh,Bool.and_true];exact Z0.out.grown hKb b4
    have pH:=Hz.out.below b4' Hz.out.lt;have zv5:=Hz.out.lt;obtain⟨u,hu⟩:=Ae w3.heap.size;rw[hu]at q4 s4 Ep zv5 ⊢;obtain⟨n,hn⟩:=Ae e.args.length;have HN:=Aa hn;have zt1:=Aa (oG (r:=some bb) (Rj b4));clear hV b4' b4 hu;have d8:=pH.at (i:=8) (x:=.slice a8 e.args.length m8) rfl;rw[hn]at d8 zwv;have Io:=Aa pH;clear d0 d1 d2 d3 d4 d5 d6 d7 pH;simp only[HN.out];have zz2:m8<=9223372036854775807:=Mn;go_wp2_with fail
    clear d8;go_loopw [52] (fun i wr=>∃ (k:Nat),k<=n/\i=.int .i64 k/\Blk wr u (Tc (fun k=>(Rf l cs e k).1) k) 145/\HdW K lb bb cb bf l cs lv cv (b && Wm l cs e k) wr/\W.grownBy wr (some bb)/\Blk wr W.heap.size (⟨xop,xnm,kd,b3,⟨a4,n4,m4⟩,b5,⟨a6,n6,m6⟩,i7,⟨a8,e.args.length,m8⟩⟩:Xv).cells 43) (fun i _=>n-(intOf i).toNat)
    case atStart=>exact⟨0,Nat.zero_le _,rfl,q4,Fc,zt1.out,Io.out⟩
    case round =>
     obtain⟨k,hk,rfl,rv,rW,Jz,rx⟩:=hrel;have sY:=Aa rx;have zh2:=Aa rW;have zhv:=Aa Jz;have Qm:=rv.lt;have Fh:=Jz.size
     by_cases Aj:k<n
     ·have tI:k<e.args.length:=by rw[HN.out];exact Aj
      obtain⟨ab,ao,acap,he,_,Fl,Cj,hc⟩:=Y1.out.pos (by omega);simp only[Sl.val,Value.slice.injEq,true_and]at he;obtain⟨rfl,rfl⟩:=he;have Bb:Below K W wr:=kR Jz Qr hKb;obtain⟨k0,k1,k2,k3,k4,k5,k6,k7,k8⟩:=N3 (Km Bb Cj hc) tI;obtain⟨ek,Ly⟩:∃ ek,e.args[k]?=some ek:=⟨_,Ac tI⟩;obtain⟨Ya,Vj,Qg,Gy⟩:=Mz.out k ek Ly;obtain⟨y,hy⟩:=Ae (g k);rw[hy]at Ya k0 k1 k2 k3 k4 k5 k6 k7 k8;have qw7:Below wr.heap.size wr (wr.alloc (.cells y.cells 43)):=Af _ _;have Ao:=M0.out ek Vj Qg Gy (b && Wm l cs e k) y (wr.alloc (.cells y.cells 43)) (Ya.below (Bb.alloc (by omega) _) (Ab _) (Ab _)) (rW.grown hKb qw7);have f0:wr.cell? ⟨bf,0,none⟩=some (hdF lb bb cb bf):=rW.qf.one.1;have zmt:=rW.qf.lt;have eT:=Aa Ly
      have Iy:k<3:=by omega
      have HV:Hid ((Tc (fun k=>(Rf l cs e k).1) k)[k]?=some (.bool false)):=Aa (by
       match k,Iy with
       | 0,_=>simp[Tc]
       | 1,_=>simp[Tc]
       | 2,_=>simp[Tc])
      have aH:=Aa rv
      have ublt:u≠bb:=fun h=>by subst h;exact absurd (rv.ty_ne rW.qb) (by decide)
      clear Ly hc hy Ya Vj Qg Gy rv rW Jz rx Bb qw7 tI;go_wp2_with fail
      refine Ao.mono ?_;rintro en W6 ⟨rfl,Hn,iD⟩;clear Ao k0 k1 k2 k3 k4 k5 k6 k7 k8 f0;have yF:wr.grownBy W6 (some bb):=Xm (World.grownBy_alloc wr _ _) Hn;obtain⟨t,ht⟩:=Ae ((Ll l cs ek).1);rw[ht];have rv6:=aH.out.kept yF (fun h=>ublt (Option.some.inj h));have ck:=rv6.at (i:=k) HV.out;have fv:=rv6.free k
      have Fk:HdW K lb bb cb bf l cs lv cv (b && Wm l cs e (k+1)) W6:=by
       have := zh2.out.turn hKb yF iD;rwa[Bool.and_assoc,<- zfi eT.out]at this
      have Eh:W6.grownBy (W6.setCell ⟨u,k,none⟩ (.bool t)) (some u):=Fm _ _ _ _
      have rv7:Blk (W6.setCell ⟨u,k,none⟩ (.bool t)) u (Tc (fun k=>(Rf l cs e k).1) (k+1)) 145:=by
       have h1:=rv6.set (i:=k) (.bool t)
       have h2:(Tc (fun k=>(Rf l cs e k).1) k).setIfInBounds k (.bool t)=Tc (fun k=>(Rf l cs e k).1) (k+1):=by
        rw[<- zrp Iy,zka eT.out,ht]
       rw[h2]at h1;exact h1
      have M8:HdW K lb bb cb bf l cs lv cv (b && Wm l cs e (k+1)) (W6.setCell ⟨u,k,none⟩ (.bool t)):=Fk.put rv6 (by omega) Eh;have zlv:W.grownBy (W6.setCell ⟨u,k,none⟩ (.bool t)) (some bb):=zkq (Xm zhv.out yF) Eh (by omega);have Zy:Blk (W6.setCell ⟨u,k,none⟩ (.bool t)) W.heap.size (⟨xop,xnm,kd,b3,⟨a4,n4,m4⟩,b5,⟨a6,n6,m6⟩,i7,⟨some ⟨ab,ao,none⟩,e.args.length,m8⟩⟩:Xv).cells 43:=(sY.out.kept yF (by simp;omega)).kept Eh (by simp;omega);clear iD Hn rv6 Fk Eh ht;go_wp2_with fail
      exact⟨⟨k+1,by omega,by go_num,rv7,M8,zlv,Zy⟩,by simp[intOf];omega⟩
     ·obtain rfl:k=n:=by omega
      have hF:∀ j,k<=j->(Rf l cs e j).1=false:=fun j hj=>by rw[zh1 (by rw[HN.out];exact hj)]
      rw[zsj hF]at rv;obtain⟨v0,v1,v2⟩:_/\_/\_:=⟨rv.at (i:=0) rfl,rv.at (i:=1) rfl,rv.at (i:=2) rfl⟩;have yY:=xK.out;rw[HN.out,<- aJ.out]at yY;obtain⟨F0,qgg⟩:∃ f,(Rf l cs e 0).1=f:=⟨_,rfl⟩;obtain⟨F1,N6⟩:∃ f,(Rf l cs e 1).1=f:=⟨_,rfl⟩;obtain⟨F2,qek⟩:∃ f,(Rf l cs e 2).1=f:=⟨_,rfl⟩;rw[qgg]at v0;rw[N6]at v1;rw[qek]at v2;obtain⟨R,hR⟩:=Ae (A7 xop (fun k=>(Rf l cs e k).1));rw[hR]at yY;have hx:=HP.out (R,Wm l cs e k) wr yY Jz rW.qb;rw[zqt (f:=fun k=>(Rf l cs e k).1) qgg N6 qek]at hR;have x0:=rx.at (i:=0) (x:=.int .u8 xop) rfl;have rK:=Aa hx;clear rv rW rx Jz hF qgg N6 qek yY hx
      by_cases h15:xop=15
      ·subst h15
       rw[if_pos rfl]at hR;subst hR
       cases F0 <;>
       ·go_wp2_with fail
        go_ret
        exact rK.out
      ·rw[if_neg h15]at hR
       have e15:(xop==15)=false:=by simpa using h15
       by_cases R2:xop=16
       ·subst R2
        rw[if_pos rfl]at hR;subst hR
        cases F0 <;>
        ·go_wp2_with fail
         go_ret
         exact rK.out
       ·rw[if_neg R2]at hR
        have e16:(xop==16)=false:=by simpa using R2
        by_cases h17:xop=17
        ·subst h17
         rw[if_pos rfl]at hR;subst hR;go_wp2_with fail
         go_ret
         exact rK.out
        ·rw[if_neg h17]at hR
         have e17:(xop==17)=false:=by simpa using h17
         cases F0 with
         | true =>
          rw[if_pos rfl]at hR;subst hR;go_wp2_with fail
          go_ret
          exact rK.out
         | false =>
          rw[if_neg (by simp)]at hR;subst hR;go_wp2_with fail
          go_ret
          exact rK.out
def Ra (s:Sc) (c:Nat):Int:=if c/2=0 then(s.cuts[0]?.getD v0).i+(-1)else if c/2=s.cuts.length then(s.cuts[s.cuts.length-1]?.getD v0).i+1 else((s.cuts[c/2-1]?.getD v0).i+(s.cuts[c/2]?.getD v0).i)/2
def tU (s:Sc) (c:Nat):Vq:=if c%2=1 then s.cuts[c/2]?.getD v0 else Pd s.kd (Ra s c)
theorem qiz {g:Nat->Vv} {w:World} {b o k n:Nat} (hc:∀ i,i<n->∀ j,j<6->w.cell? ⟨b,o+(i*6+j),none⟩=some ((g i).cell j)) (hk:k<n):w.rangeAt b (o+k*6) (g k).cells.toList:=by
 intro j v hj
 have O5:j<6:=(List.getElem?_eq_some_iff.1 hj).1;have := qgo (g k) O5;rw[hj,Option.getD_some]at this;rw[this,Nat.add_assoc];exact hc k hk j O5
theorem Kn:(Tryz.prog.info? 41).map (fun i=>i.size)=some 6:=by kernel_rfl
theorem zlp {s:Sc} (h:s.okB=true) (hd:Ky s.kd=true):1<=s.cuts.length:=by
 have := (y9 hd).2.2;unfold Sc.okB at h;rw[if_neg (by simpa using this)]at h;simp only[Bool.and_eq_true,decide_eq_true_eq]at h;omega
theorem Wd.lm {K n:Nat} {w:World} {v:Value} (h:Wd .u16 K w v n) (h0:0<n) (hn:n<65536):Lm K w v [n]:=by
 rcases h with⟨h1,_⟩ | ⟨_,b,o,c,rfl,h1,h2,h3,h4⟩
 ·omega
 ·refine⟨Au.mk_cells (by simpa using h1) h2 h3 fun i hi j hj=>?_,fun d hd=>by rw[List.mem_singleton.1 hd];exact hn⟩
  obtain rfl:i=0:=by simpa using hi
  obtain rfl:j=0:=by omega
  simpa using h4
def dI (l:List Nat):List (List Value):=l.map fun x:Nat=>[.int .u16 (x:Int)]
theorem zv0 (l:List Nat):Dg 1 (dI l):=fun r hr=>by
 obtain⟨x,_,rfl⟩:=List.mem_map.1 hr;exact⟨rfl,fun u hu=>by rw[List.mem_singleton.1 hu];rfl⟩
theorem qzh {K n g o cap:Nat} {w:World} (h1:1<=cap) (h2:cap<=maxLen) (h3:g<K) (h4:w.cell? ⟨g,o,none⟩=some (.int .u16 n)) (hn:n<65536):Lm K w (.slice (some ⟨g,o,none⟩) 1 cap) [n]:=by
 refine⟨Au.mk_cells (by simpa using h1) h2 h3 fun i hi j hj=>?_,fun d hd=>by rw[List.mem_singleton.1 hd];exact hn⟩
 obtain rfl:i=0:=by have:i<1:=hi;omega
 obtain rfl:j=0:=by omega
 simpa using h4
theorem Tryz.infoU16G:(Tryz.prog.info? 132).map (fun i=>(i.zero,i.size,i.bytes))=some (some (.int .u16 0),1,2):=by kernel_rfl
theorem qdw (n:Nat) (w:World) (h0:0<n) (hn:n<65536) :
  Calls Tryz.prog 64 #[.int .i64 n] w fun e w'=>∃ v,e=.returned (Wv v)/\Lm w'.heap.size w' v [n]/\Below w.heap.size w w'/\Bj w.heap.size v:=by
 have Kw:IntKind.u64.wrap (n:Int)=(n:Int):=by rw[IntKind.wrap_u64];omega
 have Gs:IntKind.u16.wrap (n:Int)=(n:Int):=by rw[IntKind.wrap_u16];omega
 have Hk:(n:Int)/65536=0:=by omega
 have Aj:decide ((n:Int)<0)=false:=by simp
 have qc9:decide ((0:Int)<(n:Int))=true:=by simp;omega
 obtain⟨W1,Ah⟩:=Ae (((w.alloc (.cells #[.bool false,.slice none 0 0] 37)).alloc (.cells #[.bool false,.slice none 0 0] 37)).alloc (.cells #[.int .u16 n] 132));obtain⟨b1,q0,q1,q2,s1⟩:=N4 w _ _ _ _ _ _ Ah;obtain⟨B,hB⟩:=Ae w.heap.size;have HB:=Aa hB;have HW:=Aa Ah;rw[hB]at b1 q0 q1 q2 s1 ⊢
 have Gw:∀ (i:Nat) (r:List Value) (j:Nat) (u:Value),(dI [n])[i]?=some r->r[j]?=some u->W1.cell? ⟨B+2,0+(i*1+j),none⟩=some u:=fun i r j u hi hj=>by
  match i,hi with
  | 0,hi =>
   simp only[dI,List.map_cons,List.map_nil,List.getElem?_cons_zero,Option.some.injEq]at hi;subst hi
   match j,hj with
   | 0,hj=>cases hj;exact q2.at rfl
   | j+1,hj=>simp at hj
  | i+1,hi=>simp[dI]at hi
 have HC:=Aa Gw;clear hB Ah Gw;go_enter Tryz.func64,Tryz.ntmps64
 go_wp2_with fail
 refine wp_loop_rounds 2 ?_;rw[rounds_succ];go_wp2_with (at_builtin;simp only[HB.out,Nat.add_assoc,Nat.reduceAdd];rw[HW.out];refine Q6 rfl (.tmp 19) (.tmp 22) 35 rfl Tryz.underlying35 Tryz.infoU16G (by kernel_rfl) (by decide) (by simp[Act.eval]) (Be.nil 1 132 B W1) (b:=B+2) (off:=0) (m:=1) (cap:=1) (ms:=dI [n]) (by simp[Act.eval]) rfl (zv0 _) HC.out (by decide) (by simp[maxLen]) (by simp) (by omega) ?_)
 intro g cap w5 Av Bo Ie
 have zP:g=B+3:=by
  rcases Ie with h | h
  ·cases h
  ·omega
 subst zP;have b5':Below W1.heap.size W1 w5:=Sq Bo (fun r e=>by cases e) (Ab _);have Kg:=b5'.size;have b5:Below B w w5:=b1.trans (b5'.mono (by omega));have p0:=q0.below b5' q0.lt;have p1:=q1.below b5' q1.lt;obtain⟨gb,go,gc,he,Jv,Ii,dU,aW⟩:=Av.rows.pos (by simp[dI]);simp only[Value.slice.injEq,Option.some.injEq,Addr.mk.injEq,and_true]at he;obtain⟨⟨qge,rfl⟩,zir,rfl⟩:=he;subst qge;clear zir;have Vs:w5.cell? ⟨B+3,0,none⟩=some (.int .u16 n):=aW 0 (by simp[dI]) 0 (by omega)
 have Jv:1<=cap:=by simpa [dI] using Jv
 obtain⟨d0,d1⟩:=p1.two;have f1:=p1.free 1;have r1:=p1.set (i:=1) (.slice (some ⟨B+3,0,none⟩) 1 cap);have r0:=p0.other (b':=B+1) (i:=1) (by omega) (.slice (some ⟨B+3,0,none⟩) 1 cap);obtain⟨W6,Fk⟩:=Ae (w5.setCell ⟨B+1,1,none⟩ (.slice (some ⟨B+3,0,none⟩) 1 cap))
 have b6:Below B w W6:=by rw[<- Fk];exact b5.setCell (p:=⟨B+1,1,none⟩) (by simp) _
 have Hn:w5.grownBy W6 (some (B+1)):=by rw[<- Fk];exact Fm _ _ _ _
 rw[Fk]at r0 r1;have aF:=Aa Fk;have nX:W6.cell? ⟨B+3,0,none⟩=some (.int .u16 n):=Hn.cell Vs (by simp);have zu1:=Aa nX;have Nt:=Hn.size;clear Fk nX Vs aW Hn Av Bo Ie p0 p1 b5' q0 q1 q2
 go_upto_region 6 with fail
 rw[aF.out];clear d0 d1 f1;go_wp2_with fail
 rw[rounds_succ];obtain⟨d0,d1⟩:=r1.two;obtain⟨d2,d3⟩:=r0.two;have f2:=r0.free 0;have f3:=r0.free 1;go_wp2_with fail
 have r2:=(r0.set (i:=0) (.bool false)).set (i:=1) (.slice (some ⟨B+3,0,none⟩) 1 cap);obtain⟨e0,e1⟩:=r2.two;refine bodyPost_ret (v:=Wv (.slice (some ⟨B+3,0,none⟩) 1 cap)) (by simp[results,Tryz.results64,go_sem,e0,e1]) rfl ?_;have bU:W6.grownBy ((W6.setCell ⟨B,0,none⟩ (.bool false)).setCell ⟨B,1,none⟩ (.slice (some ⟨B+3,0,none⟩) 1 cap)) (some B):=Xm (Fm _ _ _ _) (Fm _ _ _ _);have nJ:=bU.size;exact⟨_,rfl,qzh Jv Ii (by omega) (bU.cell zu1.out (by simp)) hn,zty b6 (Ab _) _ _,Bj.at (by omega)⟩
theorem oA {K L r n:Nat} {w w':World} {v:Value} (h:Lm K w v [n]) (hv:Bj L v) (hr:r<L) (hg:w.grownBy w' (some r)) (hK:K<=w'.heap.size):Lm w'.heap.size w' v [n]:=by
 obtain⟨b,o,c,rfl,h1,h2,h3,h4⟩:=h.pos (by simp);have hb:=hv b o _ c rfl
 have qe5:w.cell? ⟨b,o,none⟩=some (.int .u16 n):=by have := h4 0 (by simp);simpa using this
 exact qzh (by simpa using h1) h2 (by omega) (hg.cell qe5 (by simp;omega)) (h.2 n (by simp))
theorem qei (w:World) (r:Nat) (x0 x1 x2 x3:Value):w.grownBy ((((w.setCell ⟨r,0,none⟩ x0).setCell ⟨r,1,none⟩ x1).setCell ⟨r,2,none⟩ x2).setCell ⟨r,3,none⟩ x3) (some r) :=
 Xm (Xm (Xm (Fm _ _ _ _) (Fm _ _ _ _)) (Fm _ _ _ _)) (Fm _ _ _ _)
theorem ql5 (w:World) (r:Nat) (x0 x1 x2 x3:Value):((((w.setCell ⟨r,0,none⟩ x0).setCell ⟨r,1,none⟩ x1).setCell ⟨r,2,none⟩ x2).setCell ⟨r,3,none⟩ x3).heap.size=w.heap.size:=by simp[World.setCell]
theorem zfv (w:World) :
  Calls Tryz.prog 35 #[.int .i64 0,.int .i64 1] w fun e w'=>∃ v,e=.returned (Fv (.slice none 0 0) v)/\(∃ a c,v=.slice a 1 c)/\Lm w'.heap.size w' v [1]/\Below w.heap.size w w'/\Bj w.heap.size v:=by
 obtain⟨W1,Ah⟩:=Ae (w.alloc (.cells #[.bool false,.slice none 0 0,.bool false,.slice none 0 0] 39))
 have b1:Below w.heap.size w W1:=by rw[<- Ah];exact Af _ _
 have q1:Blk W1 w.heap.size #[.bool false,.slice none 0 0,.bool false,.slice none 0 0] 39:=by rw[<- Ah];exact Blk.new w _ _
 have s1:W1.heap.size=w.heap.size+1:=by rw[<- Ah];simp
 obtain⟨B,hB⟩:=Ae w.heap.size;have HB:=Aa hB;have HW:=Aa Ah;rw[hB]at b1 q1 s1 ⊢
 have hc:Calls Tryz.prog 64 #[.int .i64 1] W1 fun e w'=>∃ v,e=.returned (Wv v)/\Lm w'.heap.size w' v [1]/\Below W1.heap.size W1 w'/\Bj W1.heap.size v:=qdw 1 W1 (by omega) (by omega)
 clear hB Ah;go_enter Tryz.func35,Tryz.ntmps35
 go_wp2_with fail
 simp only[HB.out];rw[HW.out];refine hc.mono ?_;rintro e w2 ⟨v,rfl,hl,Ai,hn⟩;obtain⟨a,c,rfl,_⟩:=hl.form;have Az:=Ai.size;have q2:=q1.below Ai (by omega);obtain⟨d0,d1,d2,d3⟩:=q2.four;have f0:=q2.free 0;have f1:=q2.free 1;have f2:=q2.free 2;have f3:=q2.free 3;have HL:=Aa hl;clear hc hl;simp only[List.length_cons,List.length_nil,Nat.zero_add]at *;go_wp2_with fail
 have q4:=(((q2.set (i:=0) (.bool false)).set (i:=1) (.slice none 0 0)).set (i:=2) (.bool false)).set (i:=3) (.slice a 1 c);obtain⟨e0,e1,e2,e3⟩:=q4.four;refine bodyPost_ret (v:=Fv (.slice none 0 0) (.slice a 1 c)) (by simp[results,Tryz.results35,go_sem,e0,e1,e2,e3]) rfl ?_;exact⟨_,rfl,⟨_,_,rfl⟩,oA HL.out hn (show B<W1.heap.size by omega) (qei _ _ _ _ _ _) (by rw[ql5];exact Ab _),(((((b1.trans (Ai.mono (by omega))).setCell (p:=⟨B,0,none⟩) (by simp) _).setCell (p:=⟨B,1,none⟩) (by simp) _).setCell (p:=⟨B,2,none⟩) (by simp) _).setCell (p:=⟨B,3,none⟩) (by simp) _),hn.mono (by omega)⟩
theorem qnw (n:Nat) (w:World) (h0:0<n) (hn:n<65536) :
  Calls Tryz.prog 35 #[.int .i64 n,.int .i64 1] w fun e w'=>∃ u v,e=.returned (Fv u v)/\(∃ a c,u=.slice a 1 c)/\(∃ a c,v=.slice a 1 c)/\Lm w'.heap.size w' u [n]/\Lm w'.heap.size w' v [1]/\Below w.heap.size w w'/\Bj w.heap.size u/\Bj w.heap.size v:=by
 obtain⟨W1,Ah⟩:=Ae (w.alloc (.cells #[.bool false,.slice none 0 0,.bool false,.slice none 0 0] 39))
 have b1:Below w.heap.size w W1:=by rw[<- Ah];exact Af _ _
 have q1:Blk W1 w.heap.size #[.bool false,.slice none 0 0,.bool false,.slice none 0 0] 39:=by rw[<- Ah];exact Blk.new w _ _
 have s1:W1.heap.size=w.heap.size+1:=by rw[<- Ah];simp
 obtain⟨B,hB⟩:=Ae w.heap.size;have HB:=Aa hB;have HW:=Aa Ah;rw[hB]at b1 q1 s1 ⊢
 have hc:∀ W,Calls Tryz.prog 64 #[.int .i64 n] W fun e w'=>∃ v,e=.returned (Wv v)/\Lm w'.heap.size w' v [n]/\Below W.heap.size W w'/\Bj W.heap.size v:=fun W=>qdw n W (by omega) (by omega)
 have Ii:∀ W,Calls Tryz.prog 64 #[.int .i64 1] W fun e w'=>∃ v,e=.returned (Wv v)/\Lm w'.heap.size w' v [1]/\Below W.heap.size W w'/\Bj W.heap.size v:=fun W=>qdw 1 W (by omega) (by omega)
 have HC:=Aa hc;have Gh:=Aa Ii
 have e0:((n:Int)==0)=false:=by simp;omega
 have e1:decide ((n:Int)<0)=false:=by simp
 have Kw:IntKind.u64.wrap (n:Int)=(n:Int):=by rw[IntKind.wrap_u64];omega
 clear hB Ah hc Ii;go_enter Tryz.func35,Tryz.ntmps35
 go_upto_region 1 with fail
 simp only[HB.out];rw[HW.out];go_wp2_with fail
 refine wp_loop_rounds 2 ?_;rw[rounds_succ]
 go_upto_region 7 with fail
 go_quiet (fail)
 go_wp2_with fail
 rw[rounds_succ]
 go_upto_region 8 with fail
 generalize hX:W1.drewN _=W2
 have b2':Below W1.heap.size W1 W2:=by rw[<- hX];exact Gn (Below.refl _ _) _
 have Az:=b2'.size;have b2:Below B w W2:=b1.trans (b2'.mono (by omega));have q2:=q1.below b2' (by omega);clear hX;refine Fz (fun W'=>Below W2.heap.size W2 W') [11] (by kernel_rfl) ?_;have qS:(fun W'=>Below W2.heap.size W2 W') W2.drew:=Er (Below.refl _ _);refine Am (i:=0) (v:=.int .i64 (n:Int)) rfl qS ?_;refine Am (i:=1) (v:=.int .u64 1) rfl qS ?_;refine Ar (i:=2) (v:=.int .i64 1) rfl (.inl ⟨by kernel_rfl,fun W' hS=>by have w1:IntKind.i64.wrap 1=1:=IntWalk.i64_in _ (by omega);go_simp⟩) qS ?_;refine Ar (i:=3) (v:=.int .i64 (n:Int)) rfl (.inl ⟨by kernel_rfl,fun W' hS=>by have wn:IntKind.i64.wrap (n:Int)=(n:Int):=IntWalk.i64_in _ (by omega);go_simp⟩) qS ?_;refine Am (i:=5) (v:=.int .i64 1) rfl qS ?_;refine Am (i:=6) (v:=.int .u64 1) rfl qS ?_;refine Ar (i:=7) (v:=.int .i64 1) rfl (.inl ⟨by kernel_rfl,fun W' hS=>by have w1:IntKind.i64.wrap 1=1:=IntWalk.i64_in _ (by omega);go_simp⟩) qS ?_;refine Ar (i:=8) (v:=.int .i64 1) rfl (.inl ⟨by kernel_rfl,fun W' hS=>by have wn:IntKind.i64.wrap 1=1:=IntWalk.i64_in _ (by omega);go_simp⟩) qS ?_;refine Ap (i:=4) rfl ?_;go_simp
 refine(HC.out _).mono ?_;rintro e w3 ⟨v3,rfl,wC,Ak,Zc⟩;have qS3:Below W2.heap.size W2 w3:=qS.trans (Ak.mono qS.size);obtain⟨a3,c3,rfl,_⟩:=wC.form;have qej:=Aa wC;clear wC;go_simp
 refine Ap (i:=9) rfl ?_;go_simp
 refine(Gh.out _).mono ?_;rintro e w4 ⟨v4,rfl,qkk,Al,gH⟩;have qS4:Below W2.heap.size W2 w4:=qS3.trans (Al.mono qS3.size);obtain⟨a4,c4,rfl,_⟩:=qkk.form;have qk8:=Aa qkk;have qyd:Bj W2.heap.size (.slice a3 1 c3):=Zc;have qnr:Bj W2.heap.size (.slice a4 1 c4):=gH.mono qS3.size;have zfx:=Aa (qej.out.below Al (Ab _) Al.size);clear qkk;go_simp
 refine Am (i:=10) (v:=Fv (.slice a3 1 c3) (.slice a4 1 c4)) rfl qS4 ?_;have q4:=q2.below qS4 (by omega);obtain⟨c0,c1,c2,c3'⟩:=q4.four;have f0:=q4.free 0;have f1:=q4.free 1;have f2:=q4.free 2;have f3:=q4.free 3;refine Ap (i:=11) rfl ?_;go_simp
 refine Eo (by kernel_rfl) ?_ _;clear c0 c1 c2 c3' f0 f1 f2 f3;have b4:Below B w w4:=b2.trans (qS4.mono (by omega));have Fi:=qS4.size;have x5:=(((q4.set (i:=0) (.bool false)).set (i:=1) (.slice a3 1 c3)).set (i:=2) (.bool false)).set (i:=3) (.slice a4 1 c4);obtain⟨e0,e1,e2,e3⟩:=x5.four;go_wp2_with fail
 refine bodyPost_ret (v:=Fv (.slice a3 1 c3) (.slice a4 1 c4)) (by simp[results,Tryz.results35,go_sem,e0,e1,e2,e3]) rfl ?_;exact⟨_,_,rfl,⟨_,_,rfl⟩,⟨_,_,rfl⟩,oA zfx.out qyd (show B<W2.heap.size by omega) (qei _ _ _ _ _ _) (by rw[ql5];exact Ab _),oA qk8.out qnr (show B<W2.heap.size by omega) (qei _ _ _ _ _ _) (by rw[ql5];exact Ab _),(((b4.setCell (p:=⟨B,0,none⟩) (by simp) _).setCell (p:=⟨B,1,none⟩) (by simp) _).setCell (p:=⟨B,2,none⟩) (by simp) _).setCell (p:=⟨B,3,none⟩) (by simp) _,qyd.mono (by omega),qnr.mono (by omega)⟩
end Go.Proofs.YtlldjmagbjjeoaaGreatDoor
