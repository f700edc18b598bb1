/- Contracts and plain laws, several texts in one (GSame, GCopy3, GFrom, GSearch, GSearch2). No conditions beyond those stated. -/
import Derived.Test.YtlldjmagbjjeoaaGreatDoorPk15
set_option maxRecDepth 100000
set_option maxHeartbeats 40000000
namespace Go.Proofs.YtlldjmagbjjeoaaGreatDoor
open Go.RowKit
set_option linter.unusedVariables false
theorem Xk (a:Gx):a.parts=Fu a.args+1:=by cases a;exact S7 _ _ _ _
theorem qxg {l m:List Gx} (h:l≠m):Ry l m=false:=by
 cases hs:Ry l m with
 | false=>rfl
 | true=>exact absurd ((zJ l m).1 hs) h
theorem zut {l m:List Gx} (h:l.length≠m.length):Ry l m=false:=qxg fun e=>h (by rw[e])
theorem znj {l m:List Gx} {k:Nat} (h:Qy (l[k]?.getD default) (m[k]?.getD default)=false):Ry l m=false:=qxg fun e=>by
 rw[e,(qas _ _).2 rfl]at h;cases h
theorem zmr {l m:List Gx} (hl:l.length=m.length) (h:∀ i,i<l.length->Qy (l[i]?.getD default) (m[i]?.getD default)=true):Ry l m=true:=by
 rw[zJ]
 refine List.ext_getElem hl fun i h1 h2=>?_
 have := (qas _ _).1 (h i h1);rwa[Ac h1,Ac h2]at this
theorem zho (K:Nat) (u v:Value) (l m:List Gx) (g h:Nat->Xv) (w:World) (hu:Au 9 (fun i j=>(g i).cell j) K w u l.length) (hv:Au 9 (fun i j=>(h i).cell j) K w v m.length) (hK:K<=w.heap.size)
  (hc:∀ i,i<l.length->i<m.length->∀ W,Below w.heap.size w W->Calls Tryz.prog 57 #[(g i).agg,(h i).agg] W fun e w'=>e=.returned (.bool (Qy (l[i]?.getD default) (m[i]?.getD default)))/\Below W.heap.size W w') :
  Calls Tryz.prog 93 #[u,v,.func (.func 57) #[] #[]] w fun e w'=>e=.returned (.bool (Ry l m))/\Below w.heap.size w w':=by
 obtain⟨ua,ucap,rfl,Ew,Ha⟩:=id hu.form;obtain⟨va,vcap,rfl,Bu,Bs⟩:=id hv.form;unfold maxLen at Bs Ha
 by_cases At:l.length=m.length
 case neg =>
  have HE:=Aa (zut At)
  have qgf:¬ ((l.length:Int)=(m.length:Int)):=by omega
  clear hc;go_enter Tryz.func93,Tryz.ntmps93
  go_wp2_with fail
  go_ret
  exact⟨by rw[HE.out];rfl,Below.refl _ _⟩
 case pos =>
 obtain⟨q,hq⟩:=Ae l.length
 have Wi:m.length=q:=by rw[<- At,hq]
 rw[hq]at hu Ew ⊢;rw[Wi]at hv Bu ⊢
 have HC:Hid (∀ i,i<q->∀ W,Below w.heap.size w W->Calls Tryz.prog 57 #[(g i).agg,(h i).agg] W fun e w'=>e=.returned (.bool (Qy (l[i]?.getD default) (m[i]?.getD default)))/\Below W.heap.size W w'):=Aa fun i hi=>hc i (by omega) (by omega)
 have HU:=Aa hu;have HV:=Aa hv;have HM:=Aa hq;have HL:=Aa Wi;clear hq Wi At hc hu hv
 have qbp:((q:Int) != (q:Int))=false:=by simp
 go_enter Tryz.func93,Tryz.ntmps93
 go_wp2_with fail
 go_loopw [17] (fun i wr=>∃ k:Nat,k<=q/\i=.int .i64 k/\Below w.heap.size w wr/\Hid (∀ i,i<k->Qy (l[i]?.getD default) (m[i]?.getD default)=true)) (fun i _=>q-(intOf i).toNat)
 case atStart=>exact⟨0,Nat.zero_le _,rfl,Below.refl _ _,Aa fun i hi=>absurd hi (Nat.not_lt_zero i)⟩
 case round =>
  obtain⟨k,hk,rfl,Bb,Ld⟩:=hrel
  by_cases Aj:k<q
  ·obtain⟨b,o,cap,he,_,_,Cj,hc⟩:=HU.out.pos (by omega)
   simp only[Value.slice.injEq,true_and]at he;obtain⟨rfl,rfl⟩:=he;obtain⟨b',o',cap',he,_,_,qis,Iz⟩:=HV.out.pos (by omega);simp only[Value.slice.injEq,true_and]at he;obtain⟨rfl,rfl⟩:=he;obtain⟨c0,c1,c2,c3,c4,c5,c6,c7,c8⟩:=N3 (Km Bb (by omega) hc) Aj;obtain⟨f0,f1,f2,f3,f4,f5,f6,f7,f8⟩:=N3 (Km Bb (by omega) Iz) Aj;have Ao:=HC.out k Aj;obtain⟨r,hr⟩:=Ae (Qy (l[k]?.getD default) (m[k]?.getD default));rw[hr]at Ao;obtain⟨y,hy⟩:=Ae (g k);obtain⟨z,hz⟩:=Ae (h k);rw[hy]at c0 c1 c2 c3 c4 c5 c6 c7 c8 Ao;rw[hz]at f0 f1 f2 f3 f4 f5 f6 f7 f8 Ao;have Fh:=Bb.size
   have Gq:b<wr.heap.size:=by omega
   have zyk:b'<wr.heap.size:=by omega
   have Ma:Below w.heap.size w ((wr.alloc (.cells y.cells 43)).alloc (.cells z.cells 43)):=(Bb.alloc (by omega) _).alloc (by simp;omega) _;have qn5:=Ao _ Ma;have HR:=Aa hr;have Cm:=Aa Ma;clear hy hz hc Iz Ao hr Ma;go_wp2_with fail
   refine qn5.mono ?_;rintro e w2 ⟨rfl,Ai⟩;clear qn5 c0 c1 c2 c3 c4 c5 c6 c7 c8 f0 f1 f2 f3 f4 f5 f6 f7 f8;have Ak:Below w.heap.size w w2:=Cm.out.trans (Ai.mono (by simp;omega))
   cases r with
   | false =>
    have HE:=Aa (znj HR.out);go_wp2_with fail
    go_ret
    exact⟨by rw[HE.out];rfl,Ak⟩
   | true =>
    go_wp2_with fail
    refine⟨⟨k+1,by omega,by go_num,Ak,Aa fun i hi=>?_⟩,by simp[intOf];omega⟩
    by_cases P3:i=k
    ·rw[P3];exact HR.out
    ·exact Ld.out i (by omega)
  ·obtain rfl:k=q:=by omega
   have HE:=Aa (zmr (by rw[HM.out,HL.out]) (fun i hi=>Ld.out i (by have := HM.out;omega)));go_wp2_with fail
   go_ret
   exact⟨by rw[HE.out];rfl,Bb⟩
theorem zhc (a b:Gx):Qy a b=(a.op==b.op && a.nm==b.nm && a.v==b.v && Ry a.args b.args):=by
 cases a;cases b;rw[Qy];rfl
theorem zst (m:Nat):∀ (K:Nat) (a b:Gx) (x y:Xv) (w:World),a.parts<=m->ExG K w a x->ExG K w b y->K<=w.heap.size →
  Calls Tryz.prog 57 #[x.agg,y.agg] w fun e w'=>e=.returned (.bool (Qy a b))/\Below w.heap.size w w':=by
 induction m with
 | zero=>intro K a b x y w hm;cases a;rw[S7]at hm;omega
 | succ m ih =>
  intro K a b x y w hm ha hb hK
  obtain⟨a1,a2,a3,av,g,ag,ags⟩:=ha.open;obtain⟨b1,b2,b3,bv,h,bg,bgs⟩:=hb.open;have Ma:Below w.heap.size w ((w.alloc (.cells x.cells 43)).alloc (.cells y.cells 43)):=(Af _ _).alloc (by simp) _;have Jv:=zv8 w.heap.size a.v b.v x.vv y.vv _ (av.below Ma hK hK) (bv.below Ma hK hK) (by simp;omega)
  have Gh:Hid (∀ W,Below w.heap.size w W->Calls Tryz.prog 93 #[x.s8.val,y.s8.val,.func (.func 57) #[] #[]] W fun e w'=>e=.returned (.bool (Ry a.args b.args))/\Below W.heap.size W w'):=Aa fun W hW=>by
   have hs:=hW.size
   refine zho W.heap.size _ _ _ _ g h W (ag.below hW hK (by omega)) (bg.below hW hK (by omega)) (Ab _) fun i hi Fj W' yR=>?_
   have Qz:=yR.size;have qzw:Below w.heap.size w W':=hW.trans (yR.mono hs)
   have e1:a.args[i]?=some (a.args[i]?.getD default):=by rw[Ac hi];rfl
   have e2:b.args[i]?=some (b.args[i]?.getD default):=by rw[Ac Fj];rfl
   have hp:(a.args[i]?.getD default).parts<=m:=by
    have := Z9 (List.mem_of_getElem? e1);rw[Xk]at hm;omega
   exact ih W'.heap.size _ _ _ _ W' hp ((ags i _ e1).below qzw hK (by omega)) ((bgs i _ e2).below qzw hK (by omega)) (Ab _)
  have hs:Qy a b=(x.op==y.op && x.nm==y.nm && a.v==b.v && Ry a.args b.args):=by rw[zhc,a1,a2,b1,b2]
  obtain⟨r,hr⟩:=Ae (Qy a b);obtain⟨r3,Ug⟩:∃ r,(a.v==b.v)=r:=⟨_,rfl⟩;obtain⟨r4,Yq⟩:∃ r,Ry a.args b.args=r:=⟨_,rfl⟩;rw[hr,Ug,Yq]at hs;rw[Ug]at Jv;rw[Yq]at Gh;rw[hr];have HS:=Aa hs;have Cm:=Aa Ma
  have Pq:x.nm.length<=maxLen:=by rw[a2];exact a3
  have Uf:y.nm.length<=maxLen:=by rw[b2];exact b3
  obtain⟨c1,qs5⟩:∃ c,(x.op==y.op)=c:=⟨_,rfl⟩;obtain⟨c2,qpf⟩:∃ c,(x.nm==y.nm)=c:=⟨_,rfl⟩;rw[qs5,qpf]at HS;clear hs hr Ug Yq ha hb ih a1 a2 a3 av ag ags b1 b2 b3 bv bg bgs hm Ma;obtain⟨xop,xnm,xkd,xb3,⟨x4,x4n,x4m⟩,xb5,⟨x6,x6n,x6m⟩,xi7,⟨x8,x8n,x8m⟩⟩:=x;obtain⟨yop,ynm,ykd,yb3,⟨y4,y4n,y4m⟩,yb5,⟨y6,y6n,y6m⟩,yi7,⟨y8,y8n,y8m⟩⟩:=y;dsimp only at qs5 qpf Pq Uf
  cases c1 with
  | false =>
   go_enter Tryz.func57,Tryz.ntmps57
   go_wp2_with fail
   go_ret
   exact⟨by rw[HS.out];rfl,Cm.out⟩
  | true =>
   cases c2 with
   | false =>
    go_enter Tryz.func57,Tryz.ntmps57
    go_wp2_with fail
    go_ret
    exact⟨by rw[HS.out];rfl,Cm.out⟩
   | true =>
    have q1:Blk ((w.alloc (.cells (⟨xop,xnm,xkd,xb3,⟨x4,x4n,x4m⟩,xb5,⟨x6,x6n,x6m⟩,xi7,⟨x8,x8n,x8m⟩⟩:Xv).cells 43)).alloc (.cells (⟨yop,ynm,ykd,yb3,⟨y4,y4n,y4m⟩,yb5,⟨y6,y6n,y6m⟩,yi7,⟨y8,y8n,y8m⟩⟩:Xv).cells 43)) w.heap.size _ 43:=(Blk.new w _ _).alloc _;have q2:=Blk.new (w.alloc (.cells (⟨xop,xnm,xkd,xb3,⟨x4,x4n,x4m⟩,xb5,⟨x6,x6n,x6m⟩,xi7,⟨x8,x8n,x8m⟩⟩:Xv).cells 43)) (⟨yop,ynm,ykd,yb3,⟨y4,y4n,y4m⟩,yb5,⟨y6,y6n,y6m⟩,yi7,⟨y8,y8n,y8m⟩⟩:Xv).cells 43;rw[World.size_alloc]at q2;have Bc:=Aa q1;have Bw:=Aa q2;clear q1 q2;go_enter Tryz.func57,Tryz.ntmps57
    go_wp2_with fail
    refine Jv.mono ?_;rintro e w2 ⟨rfl,Ai⟩;have Ak:Below w.heap.size w w2:=Cm.out.trans (Ai.mono (by simp;omega))
    cases r3 with
    | false =>
     go_wp2_with fail
     go_ret
     exact⟨by rw[HS.out];rfl,Ak⟩
    | true =>
     have d8:=((Bc.out.below Ai (by simp;omega)).nine).2.2.2.2.2.2.2.2;have f8:=((Bw.out.below Ai (by simp)).nine).2.2.2.2.2.2.2.2;have Ao:=Gh.out w2 Ak;go_wp2_with fail
     refine Ao.mono ?_;rintro e w3 ⟨rfl,Al⟩;go_wp2_with fail
     go_ret
     exact⟨by rw[HS.out];rfl,Ak.trans (Al.mono Ak.size)⟩
theorem zd7 (K:Nat) (a b:Gx) (x y:Xv) (w:World) (ha:ExG K w a x) (hb:ExG K w b y) (hK:K<=w.heap.size) :
  Calls Tryz.prog 57 #[x.agg,y.agg] w fun e w'=>e=.returned (.bool (Qy a b))/\Below w.heap.size w w':=zst a.parts K a b x y w (Ab _) ha hb hK
theorem qtq (x:Xv):∀ u∈x.cells.toList,u.oneCell'=true:=by
 intro u hu
 simp at hu
 rcases hu with rfl | rfl | rfl | rfl | rfl | rfl | rfl | rfl | rfl<;>rfl
theorem zhx (x:Xv):Dg 9 [x.cells.toList]:=Dg.one rfl (qtq x)
theorem Tryz.infoExprG:(Tryz.prog.info? 43).map (fun i=>(i.zero,i.size,i.bytes))=some (some xz.agg,9,128):=by kernel_rfl
theorem qon (x:Xv) {j:Nat} (hj:j<9):(x.cells.toList[j]?).getD undef=x.cell j:=by
 match j,hj with
 | 0,_=>rfl
 | 1,_=>rfl
 | 2,_=>rfl
 | 3,_=>rfl
 | 4,_=>rfl
 | 5,_=>rfl
 | 6,_=>rfl
 | 7,_=>rfl
 | 8,_=>rfl
def Frz (lo hi:Nat) (v:Value) (b:Nat):Prop:=lo<=b/\b<hi/\v.ownBlock≠some b
theorem zpc {base hi:Nat} {w:World} {v:Value} {es:List Gx} {xs:List Xv} (h:Be 9 43 base w v (xs.map fun x=>x.cells.toList)) (hl:xs.length=es.length)
  (he:∀ (j:Nat) (a:Gx),es[j]?=some a->Zed (Frz base hi v) w fun K W=>ExG K W a (xs[j]?.getD xz)) (Ny:w.heap.size<=hi) :
  Zed (Btw base hi) w fun K W=>Au 9 (fun i j=>(xs[i]?.getD xz).cell j) K W v es.length/\∀ (j:Nat) (a:Gx),es[j]?=some a->ExG K W a (xs[j]?.getD xz):=by
 intro W K ha hK
 constructor
 ·have hr:=Be.zed h (F:=Btw base hi) (fun b hb=>⟨h.low hb,by have := h.lt hb;omega⟩) W K ha hK
  rw[List.length_map,hl]at hr
  refine hr.congr fun i hi j hj=>?_
  rw[List.getElem?_map,Ac (l:=xs) (i:=i) (by omega)];exact qon _ hj
 ·intro j a hj
  exact(he j a hj).mono (fun b hb=>(⟨hb.1,hb.2.1⟩:Btw base hi b)) W K ha hK
theorem xY {lo g:Nat} {wr W w5:World} {u v:Value} (hg:W.grownBy w5 u.ownBlock) (Bq:u.ownBlock=some g\/g=W.heap.size) (hv:v.ownBlock=some g) (hb:Below wr.heap.size wr W) {R:Nat->World->Prop} (h:Zed (Frz lo wr.heap.size u) wr R):Zed (Frz lo w5.heap.size v) w5 R:=by
 have hs:=hb.size;have Kg:=hg.size;have h2:=(h.move (bH hb fun b hb=>hb.2.1)).move (G7 hg (fun b hb=>by have := hb.2.1;omega) fun b hr hf=>hf.2.2 hr)
 refine h2.mono fun b hb=>⟨hb.1,by have := hb.2.1;omega,fun e=>?_⟩
 rw[hv]at e;obtain rfl:=Option.some.inj e
 rcases Bq with Bq | Bq
 ·exact hb.2.2 Bq
 ·have := hb.2.1;omega
theorem qj1 {lo lo' hi g:Nat} {W w5:World} {u v:Value} (hg:W.grownBy w5 u.ownBlock) (Bq:u.ownBlock=some g\/g=W.heap.size) (hv:v.ownBlock=some g) (Kx:lo<=lo') (hu:∀ r,u.ownBlock=some r->r<lo') (Ny:hi<=W.heap.size) {R:Nat->World->Prop} (h:Zed (Btw lo' hi) W R):Zed (Frz lo w5.heap.size v) w5 R:=by
 have Kg:=hg.size;have h2:=h.move (G7 hg (fun b hb=>by have := hb.2;omega) fun b hr hf=>by have := hu b hr;have := hf.1;omega)
 refine h2.mono fun b hb=>⟨by have := hb.1;omega,by have := hb.2;omega,fun e=>?_⟩
 rw[hv]at e;obtain rfl:=Option.some.inj e
 rcases Bq with Bq | Bq
 ·have := hu g Bq;have := hb.1;omega
 ·have := hb.2;omega
theorem zd5 (w:World) (z:Xv) {i j:Nat} {r:List Value} {u:Value} (hi:[z.cells.toList][i]?=some r) (hj:r[j]?=some u):(w.alloc (.cells z.cells 43)).cell? ⟨w.heap.size,0+(i*9+j),none⟩=some u:=by
 match i,hi with
 | 0,hi =>
  simp only[List.getElem?_cons_zero,Option.some.injEq]at hi;subst hi;have := (Blk.new w z.cells 43).at (i:=j) (x:=u) (by simpa using hj);rwa[show 0+(0*9+j)=j by omega]
 | i+1,hi=>simp at hi
theorem zif (m:Nat):∀ (K:Nat) (e:Gx) (x:Xv) (w:World),e.parts<=m->e.parts<=2^20->ExG K w e x->e.good=true->K<=w.heap.size →
  Calls Tryz.prog 32 #[x.agg] w fun en w'=>∃ y:Xv,en=.returned y.agg/\Zed (Btw w.heap.size w'.heap.size) w' (fun K W=>ExG K W e y)/\Below w.heap.size w w':=by
 induction m with
 | zero=>intro K e x w hm;cases e;rw[S7]at hm;omega
 | succ m ih =>
  intro K e x w hm Dr h hg hK
  have HX:=Aa h;obtain⟨h1,h2,h3,hv,g,hr,Jz⟩:=h.open;obtain⟨a8,m8,h8,uS,eV⟩:=hr.form
  have iA:e.args.length<=2^20:=by
   have h0:=Xk e
   have:∀ l:List Gx,l.length<=Fu l:=by
    intro l
    induction l with
    | nil=>simp[Fu]
    | cons a r ih=>have h1:=Xk a;rw[Fu,List.length_cons];omega
   have := this e.args;omega
  have HA:Hid (∀ k,k<e.args.length->(Dm e k).parts<=m/\(Dm e k).parts<=2^20/\ExG K w (Dm e k) (g k)/\(Dm e k).good=true/\e.args[k]?=some (Dm e k)):=Aa fun k hk=>by
   have e1:=sZ hk;have hp:=Z9 (List.mem_of_getElem? e1);have := Xk e;exact⟨by omega,by omega,Jz k _ e1,jW hg _ (List.mem_of_getElem? e1),e1⟩
  have M0:=Aa ih;have HR:=Aa hr;have HG:=Aa hg;have HV:=Aa hv;obtain⟨op,nm,kd,b3,⟨a4,n4,m4⟩,b5,⟨a6,n6,m6⟩,i7,⟨x8,nx8,mx8⟩⟩:=x;simp only[Sl.val,Value.slice.injEq]at h8;obtain⟨rfl,rfl,rfl⟩:=h8;obtain⟨q,hq⟩:=Ae e.args.length;have HQ:=Aa hq;obtain⟨x,hx⟩:∃ x:Xv,x=⟨op,nm,kd,b3,⟨a4,n4,m4⟩,b5,⟨a6,n6,m6⟩,i7,⟨x8,q,mx8⟩⟩:=⟨_,rfl⟩;rw[hq]at HX HR HV iA HA ⊢;rw[<- hx]at HX ⊢;obtain⟨W1,Ah⟩:=Ae ((w.alloc (.cells x.cells 43)).alloc (.cells xz.cells 43))
  have b1:Below w.heap.size w W1:=by rw[<- Ah];exact(Af _ _).alloc (by simp) _
  have q1:Blk W1 w.heap.size x.cells 43:=by rw[<- Ah];exact(Blk.new w _ _).alloc _
  have q2:Blk W1 (w.heap.size+1) xz.cells 43:=by
   rw[<- Ah];have := Blk.new (w.alloc (.cells x.cells 43)) xz.cells 43;rwa[World.size_alloc]at this
  have sz1:W1.heap.size=w.heap.size+2:=by rw[<- Ah];simp
  obtain⟨B,hB⟩:=Ae w.heap.size;have HB:=Aa hB;have HW:=Aa Ah;rw[hB]at hK b1 q1 q2 sz1 ⊢;have Jv:=qc8 B e.v _ W1 (hv.below b1 hK hK) (qb8 hg) (by omega);rw[hx]at q1 HW ⊢;dsimp only[Xv.cells,Xv.agg,xz]at HW ⊢;dsimp only[Vv.agg,Sl.val]at Jv;clear hB Ah h h1 h2 h3 hv hg hr Jz ih hm Dr hq uS eV;obtain⟨d0,d1,d2,d3,d4,d5,d6,d7,d8⟩:=q1.nine;go_enter Tryz.func32,Tryz.ntmps32
  go_upto_region 1 with fail
  simp only[HB.out];rw[HW.out];go_wp2_with fail
  refine Jv.mono ?_;rintro en w2 ⟨y,rfl,Gb,Ai⟩;clear Jv d0 d1 d2 d3 d4 d5 d6 d7 d8;have p1:=q1.below Ai (by omega);have p2:=q2.below Ai (by omega);have Az:=Ai.size
  have hy:=Gb.get fun b hb=>hb.2
  obtain⟨ya,yc,Ph,_⟩:=hy.n.form;obtain⟨za,zc,cI,_⟩:=hy.d.form;obtain⟨ykd,yf1,ys1,yf2,ys2,yi⟩:=y;dsimp only at Ph cI;subst Ph cI;clear hy;obtain⟨d0,d1,d2,d3,d4,d5,d6,d7,d8⟩:=p1.nine
  have fr:∀ j,w2.frozen? ⟨B,j,none⟩=false:=fun j=>p1.free j
  go_upto_region 2 with fail
  obtain⟨W2,Ax⟩:=Ae (((((((w2.setCell ⟨B,2,none⟩ (.int .u8 ykd)).setCell ⟨B,3,none⟩ (.bool yf1)).setCell ⟨B,4,none⟩ (.slice ya e.v.l1.length yc)).setCell ⟨B,5,none⟩ (.bool yf2)).setCell ⟨B,6,none⟩ (.slice za e.v.l2.length zc)).setCell ⟨B,7,none⟩ (.int .i64 yi)))
  have Kk:∀ b,b≠B->W2.heap[b]?=w2.heap[b]? := fun b hb=>by
   rw[<- Ax];exact(Below.heap_setCell _ _ _ _ hb).trans ((Below.heap_setCell _ _ _ _ hb).trans ((Below.heap_setCell _ _ _ _ hb).trans ((Below.heap_setCell _ _ _ _ hb).trans ((Below.heap_setCell _ _ _ _ hb).trans (Below.heap_setCell _ _ _ _ hb)))))
  have sz2:W2.heap.size=w2.heap.size:=by rw[<- Ax];simp[World.setCell]
  have b2:Below B w W2:=by rw[<- Ax];exact((((((b1.trans (Ai.mono (by omega))).setCell (Ab _) _).setCell (Ab _) _).setCell (Ab _) _).setCell (Ab _) _).setCell (Ab _) _).setCell (Ab _) _
  have p3:Blk W2 B (⟨op,nm,ykd,yf1,⟨ya,e.v.l1.length,yc⟩,yf2,⟨za,e.v.l2.length,zc⟩,yi,⟨x8,q,mx8⟩⟩:Xv).cells 43:=by rw[<- Ax];exact(((((p1.set (.int .u8 ykd)).set (.bool yf1)).set (.slice ya e.v.l1.length yc)).set (.bool yf2)).set (.slice za e.v.l2.length zc)).set (.int .i64 yi)
  have p4:Blk W2 (B+1) xz.cells 43:=(Kk _ (by omega)).trans p2;have mO:Zed (Btw (B+2) W2.heap.size) W2 (fun K W=>VlX K W e.v ⟨ykd,yf1,.slice ya e.v.l1.length yc,yf2,.slice za e.v.l2.length zc,yi⟩):=(Gb.move <| Agr.of fun b hb=>Kk b (by have := hb.1;omega)).mono (rA (by omega) (by omega));obtain⟨l1,Jy⟩:∃ n,e.v.l1.length=n:=⟨_,rfl⟩;obtain⟨l2,Qj⟩:∃ n,e.v.l2.length=n:=⟨_,rfl⟩;rw[Ax];rw[Jy,Qj]at p3 mO ⊢;have HZ:=Aa mO;clear Ax Kk Gb mO p1 p2 q1 q2 fr d0 d1 d2 d3 d4 d5 d6 d7 d8 Jy Qj;obtain⟨x2,Gi⟩:∃ x2:Xv,x2=⟨op,nm,ykd,yf1,⟨ya,l1,yc⟩,yf2,⟨za,l2,zc⟩,yi,⟨x8,q,mx8⟩⟩:=⟨_,rfl⟩;obtain⟨d0,d1,d2,d3,d4,d5,d6,d7,d8⟩:=p3.nine;rw[<- Gi]at p3;go_wp2_with fail
  clear d0 d1 d2 d3 d4 d5 d6 d7 d8
  go_loopw [3,13] (fun v i wr=>∃ (k:Nat) (xs:List Xv),k<=q/\i=.int .i64 k/\xs.length=k/\Blk wr B x2.cells 43/\Blk wr (B+1) xz.cells 43/\Be 9 43 (B+2) wr v (xs.map fun x=>x.cells.toList)/\Below B w wr/\B+2<=wr.heap.size ∧
   Hid (Zed (Frz (B+2) wr.heap.size v) wr (fun K W=>VlX K W e.v ⟨ykd,yf1,.slice ya l1 yc,yf2,.slice za l2 zc,yi⟩))/\Hid (∀ j,j<k->Zed (Frz (B+2) wr.heap.size v) wr fun K W=>ExG K W (Dm e j) (xs[j]?.getD xz))) (fun _ i _=>q-(intOf i).toNat)
  case atStart=>exact⟨0,[],Nat.zero_le _,rfl,rfl,p3,p4,Be.nil _ _ _ _,b2,by omega,Aa (HZ.out.mono fun b hb=>⟨hb.1,hb.2,by simp[Value.ownBlock]⟩),Aa fun j hj=>absurd hj (Nat.not_lt_zero j)⟩
  case round =>
   obtain⟨k,xs,hk,rfl,Sx,r1,r2,Av,Bb,Fh,tZ,qu0⟩:=hrel
   by_cases Aj:k<q
   ·obtain⟨b,o,cap,he,_,_,Cj,hc⟩:=HR.out.pos (by omega)
    simp only[Sl.val,Value.slice.injEq,true_and]at he;obtain⟨rfl,rfl⟩:=he;obtain⟨c0,c1,c2,c3,c4,c5,c6,c7,c8⟩:=N3 (Km Bb (by omega) hc) Aj;obtain⟨ak1,ak2,ak3,ak4,ak5⟩:=HA.out k Aj;obtain⟨y,hy⟩:=Ae (g k);rw[hy]at c0 c1 c2 c3 c4 c5 c6 c7 c8 ak3
    have Gq:b<wr.heap.size:=by omega
    have Ma:Below B w (wr.alloc (.cells y.cells 43)):=Bb.alloc (by omega) _;have Ao:=M0.out B (Dm e k) y (wr.alloc (.cells y.cells 43)) ak1 ak2 (ak3.below Ma hK hK) ak4 (by simp;omega);have Cm:=Aa Ma;have Pf:=Aa Sx;clear hy hc ak1 ak2 ak3 ak4 ak5 Ma Sx;go_wp2_with fail
    refine Ao.mono ?_;rintro en w3 ⟨z,rfl,Od,Ak⟩;clear Ao c0 c1 c2 c3 c4 c5 c6 c7 c8;obtain⟨va,vn,fQ,Ss,Mn⟩:=Av.form;rw[List.length_map,Pf.out]at fQ Ss;subst fQ;have Al:Below wr.heap.size wr (w3.alloc (.cells z.cells 43)):=((((Below.refl _ wr).alloc (Ab _) (.cells y.cells 43)).trans (Ak.mono (by simp))).alloc (by have := Ak.size;simp at this;omega) _)
    have Ep:wr.heap.size+1<=w3.heap.size:=by have := Ak.size;simpa using this
    have Tz:=Av.old Al (Ab _);have Ei:=Aa Al;have Do:=Aa Ak;have Hi:=Aa Av;have G4:=Aa Od
    have Pz:Hid (∀ (i:Nat) (r:List Value) (j:Nat) (u:Value),[z.cells.toList][i]?=some r->r[j]?=some u->(w3.alloc (.cells z.cells 43)).cell? ⟨w3.heap.size,0+(i*9+j),none⟩=some u):=Aa fun i r j u hi hj=>zd5 w3 z hi hj
    have Np:(xs.map fun x=>x.cells.toList).length=k:=by rw[List.length_map];exact Pf.out
    obtain⟨RS,Gz⟩:=Ae (xs.map (fun x=>x.cells.toList));rw[Gz]at Tz Np;have Lw:=Aa Gz;have Hx:=Aa Np;clear Al Ak Av Od Gz Np;go_wp2_with (at_builtin;refine Q6 rfl (.tmp 17) (.tmp 20) 26 rfl Tryz.underlying26 Tryz.infoExprG (by kernel_rfl) (by decide) rfl Tz (b:=w3.heap.size) (off:=0) (m:=1) (cap:=1) (ms:=[z.cells.toList]) rfl rfl (zhx z) Pz.out (by decide) (by rw[Hx.out];simp[maxLen];omega) (by rw[Hx.out];omega) (by simp;omega) ?_;intro g1 cap1 w5 Hh Bo Ie)
    have Hn:g1=(w3.alloc (.cells z.cells 43)).heap.size\/(Value.slice va k vn).ownBlock=some g1:=Ie.symm;have Kg:=Bo.size;rw[World.size_alloc]at Kg
    have Hv:=fun r hr=>Hi.out.low (r:=r) hr
    have Xd:=fun r hr=>Hi.out.lt (r:=r) hr
    have r3:=(r1.below Ei.out r1.lt).kept Bo (fun e=>by have := Hv B e.symm;omega);have r4:=(r2.below Ei.out r2.lt).kept Bo (fun e=>by have := Hv (B+1) e.symm;omega);have Aq:Below B w w5:=(Bb.trans (Ei.out.mono (by omega))).grown Bo (by simp;omega) (fun r hr=>by have := Hv r hr;omega);have Fi:=Ei.out.size;rw[World.size_alloc]at Fi;refine⟨⟨k+1,xs++[z],by omega,by go_num,by rw[List.length_append,Pf.out];rfl,r3,r4,?_,Aq,by omega,?_,?_⟩,by simp[intOf];omega⟩
    ·rw[List.map_append,Lw.out]
     exact Hh
    ·exact Aa (xY Bo Ie rfl Ei.out tZ.out)
    ·refine Aa fun j hj=>?_
     by_cases Sb:j=k
     ·subst Sb
      rw[List.getElem?_append_right (by rw[Pf.out];exact Ab _),Pf.out,Nat.sub_self];refine qj1 Bo Ie rfl (lo':=wr.heap.size+1) (hi:=w3.heap.size) (by omega) (fun r hr=>by have := Xd r hr;omega) (by simp) ?_;have h1:=G4.out;rw[World.size_alloc]at h1;exact h1.move (bH ((Below.refl w3.heap.size w3).alloc (Ab _) _) fun b hb=>hb.2)
     ·rw[List.getElem?_append_left (by rw[Pf.out];omega)]
      exact xY Bo Ie rfl Ei.out (qu0.out j (by omega))
   ·obtain rfl:k=q:=by omega
    obtain⟨va,vn,fQ,Ss,Mn⟩:=Av.form;rw[List.length_map,Sx]at fQ Ss;subst fQ;have Hi:=Aa Av;have Pf:=Aa Sx;have r1':=r1;rw[Gi]at r1';obtain⟨d0,d1,d2,d3,d4,d5,d6,d7,d8⟩:=r1'.nine;have fr8:=r1.free 8;clear r1' Av Sx
    go_upto_region 9 with fail
    obtain⟨W3,Cn⟩:=Ae (wr.setCell ⟨B,8,none⟩ (.slice va k vn))
    have Kk:∀ b,b≠B->W3.heap[b]?=wr.heap[b]? := fun b hb=>by rw[<- Cn];exact Below.heap_setCell _ _ _ _ hb
    have sz3:W3.heap.size=wr.heap.size:=by rw[<- Cn];simp[World.setCell]
    have p5:Blk W3 B (⟨op,nm,ykd,yf1,⟨ya,l1,yc⟩,yf2,⟨za,l2,zc⟩,yi,⟨va,k,vn⟩⟩:Xv).cells 43:=by rw[<- Cn];rw[Gi]at r1;exact r1.set (.slice va k vn)
    have p6:Blk W3 (B+1) xz.cells 43:=(Kk _ (by omega)).trans r2
    have b5':Below B w W3:=by rw[<- Cn];exact Bb.setCell (Ab _) _
    rw[Cn];clear Cn d0 d1 d2 d3 d4 d5 d6 d7 d8 fr8 r1 r2 Gi;obtain⟨d0,d1,d2,d3,d4,d5,d6,d7,d8⟩:=p5.nine
    iterate 4 go_step
    refine Gu rfl 43 43 (.tmp 2) (.tmp 25) rfl (⟨op,nm,ykd,yf1,⟨ya,l1,yc⟩,yf2,⟨za,l2,zc⟩,yi,⟨va,k,vn⟩⟩:Xv).cells _ (B+1) p6 qud rfl (fun u hu=>qtq (⟨op,nm,ykd,yf1,⟨ya,l1,yc⟩,yf2,⟨za,l2,zc⟩,yi,⟨va,k,vn⟩⟩:Xv) u (Array.mem_toList_iff.2 hu)) rfl rfl ?_;intro W5 t1 t2 t3 t4
    clear d0 d1 d2 d3 d4 d5 d6 d7 d8;have Aq:Below B w W5:=b5'.trans (t2 B (by omega))
    have hA:Agr (Btw (B+2) wr.heap.size) wr W5:=Agr.of fun b hb=>(t3.block b (by have := hb.2;omega) (fun e=>by simp at e;have := hb.1;omega)).trans (Kk b (by have := hb.1;omega))
    go_wp2_with fail
    refine bodyPost_ret (Pk rfl _ _ (B+1) _ _ t1 rfl Tryz.underlying43 rfl qud) rfl ?_;refine⟨⟨op,nm,ykd,yf1,⟨ya,l1,yc⟩,yf2,⟨za,l2,zc⟩,yi,⟨va,k,vn⟩⟩,rfl,?_,Aq⟩
    have lD:wr.heap.size<=W5.heap.size:=by omega
    have z1:=((tZ.out.mono (G:=Btw (B+2) wr.heap.size) fun b hb=>⟨hb.1,hb.2.1⟩).move hA).mono (rA (lo':=B) (Fj:=W5.heap.size) (by omega) lD)
    have mA:xs.length=e.args.length:=by rw[Pf.out,HQ.out]
    have z2:=((zpc Hi.out mA (fun j a hj=>by
     have Ot:j<k:=by have := (List.getElem?_eq_some_iff.1 hj).1;have := HQ.out;omega
     have h1:=(HA.out j Ot).2.2.2.2;rw[hj]at h1;obtain rfl:=Option.some.inj h1
     exact qu0.out j Ot) (Ab _)).move hA).mono (rA (lo':=B) (Fj:=W5.heap.size) (by omega) lD)
    intro W K' ha Ji
    obtain⟨y1,y2⟩:=z2 W K' ha Ji;obtain⟨o1,o2,o3,_⟩:=HX.out.open;rw[hx]at o1 o2;exact ExG.make o1 o2 o3 (z1 W K' ha Ji) (fun i=>xs[i]?.getD xz) (by rw[HQ.out]at y1 ⊢;exact y1) y2
theorem zox (K:Nat) (e:Gx) (x:Xv) (w:World) (Dr:e.parts<=2^20) (h:ExG K w e x) (hg:e.good=true) (hK:K<=w.heap.size) :
  Calls Tryz.prog 32 #[x.agg] w fun en w'=>∃ y:Xv,en=.returned y.agg/\Zed (Btw w.heap.size w'.heap.size) w' (fun K W=>ExG K W e y)/\Below w.heap.size w w':=zif e.parts K e x w (Ab _) Dr h hg hK
theorem Blk.limbs1 {W:World} {b n t:Nat} (h:Blk W b #[.int .u16 n,.int .u16 0,.int .u16 0,.int .u16 0] t) (hn:n<65536):Lm W.heap.size W (.slice (some ⟨b,0,none⟩) 1 4) [n]:=by
 refine⟨Au.mk_cells (by simp) (by simp[maxLen]) h.lt fun i hi j hj=>?_,fun d hd=>by rw[List.mem_singleton.1 hd];exact hn⟩
 obtain rfl:i=0:=by simpa using hi
 obtain rfl:j=0:=by omega
 simpa using h.at (i:=0) (x:=.int .u16 n) rfl
theorem zfb (n:Nat) (p:Nat->Bool) (p1 p2:Value) (w:World) (hn:n<=2^38) (qxl:∀ i j,i<=j->p i=true->p j=true)
  (hc:∀ i:Nat,i<n->∀ W,Below w.heap.size w W->Calls Tryz.prog 53 #[.int .i64 i,p1,p2] W fun e w'=>e=.returned (.bool (p i))/\Below W.heap.size W w') :
  Calls Tryz.prog 52 #[.int .i64 n,.func (.func 53) #[] #[p1,p2]] w fun e w'=>∃ r:Nat,e=.returned (.int .i64 r)/\r<=n/\(∀ i,i<r->p i=false)/\(∀ i,r<=i->i<n->p i=true)/\Below w.heap.size w w':=by
 have HC:=Aa hc;have HM:=Aa qxl;clear hc qxl;go_enter Tryz.func52,Tryz.ntmps52
 go_wp2_with fail
 go_loopw [5,6] (fun x y wr=>∃ i j:Nat,x=.int .i64 i/\y=.int .i64 j/\i<=j/\j<=n/\Hid (∀ k,k<i->p k=false)/\Hid (∀ k,j<=k->k<n->p k=true)/\Below w.heap.size w wr) (fun x y _=>(intOf y).toNat-(intOf x).toNat)
 case atStart=>exact⟨0,n,rfl,rfl,Nat.zero_le _,Ab _,Aa fun k hk=>absurd hk (Nat.not_lt_zero k),Aa fun k h1 h2=>by omega,Below.refl _ _⟩
 case round =>
  obtain⟨i,j,rfl,rfl,Zi,hj,HA,HB,hb⟩:=hrel
  by_cases Aj:i<j
  ·have Hk:((i:Int)+(j:Int))/2=(((i+j)/2:Nat):Int):=by omega
   obtain⟨h,hh⟩:=Ae ((i+j)/2)
   have h1:i<=h:=by omega
   have h2:h<j:=by omega
   rw[hh]at Hk;have Ao:=HC.out h (by omega) wr hb;obtain⟨c,Fb⟩:=Ae (p h);have HP:=Aa Fb;rw[Fb]at Ao;clear Fb hh;go_wp2_with fail
   refine Ao.mono ?_;rintro e w2 ⟨rfl,Ai⟩;have Gl:Below w.heap.size w w2:=hb.trans (Ai.mono hb.size);clear Ao
   cases c with
   | false =>
    go_wp2_with fail
    refine⟨⟨h+1,j,by simp,rfl,by omega,hj,Aa fun k hk=>?_,HB,Gl⟩,by simp[intOf];omega⟩
    cases Pv:p k with
    | false=>rfl
    | true=>have := HM.out k h (by omega) Pv;rw[HP.out]at this;cases this
   | true =>
    go_wp2_with fail
    exact⟨⟨i,h,rfl,rfl,h1,by omega,HA,Aa fun k hk dR=>HM.out h k hk HP.out,Gl⟩,by simp[intOf];omega⟩
  ·obtain rfl:i=j:=by omega
   go_wp2_with fail
   go_ret
   exact⟨i,rfl,hj,HA.out,HB.out,hb⟩
def Vv.cell (x:Vv):Nat->Value
 | 0=>.int .u8 x.kd
 | 1=>.bool x.b1
 | 2=>x.s1
 | 3=>.bool x.b2
 | 4=>x.s2
 | _=>.int .i64 x.i
def Yl (K:Nat) (w:World) (v:Value) (l:List Vq):Prop:=∃ g:Nat->Vv,Au 6 (fun i j=>(g i).cell j) K w v l.length/\∀ i,i<l.length->VlX K w (l[i]?.getD v0) (g i)
theorem Yl.below {K K' B:Nat} {w w':World} {v:Value} {l:List Vq} (h:Yl K w v l) (hb:Below B w w') (hB:K<=B) (hK:K<=K'):Yl K' w' v l:=by
 obtain⟨g,h1,h2⟩:=h;exact⟨g,h1.below hb hB hK,fun i hi=>(h2 i hi).below hb hB hK⟩
theorem Yl.form {K:Nat} {w:World} {v:Value} {l:List Vq} (h:Yl K w v l):∃ a cap,v=.slice a l.length cap/\l.length<=cap/\cap<=maxLen:=by
 obtain⟨g,h1,h2⟩:=h;exact h1.form
structure Nq (kd:Int) (l:List Vq):Prop where
 good:∀ c∈l,c.good=true
 ok:∀ c∈l,c.ok=true
 kd:∀ c∈l,c.kd=kd
 inc:l.Pairwise vlt
theorem Nq.at {kd:Int} {l:List Vq} (h:Nq kd l) {i:Nat} (hi:i<l.length):(l[i]?.getD v0).good=true/\(l[i]?.getD v0).ok=true/\(l[i]?.getD v0).kd=kd:=by
 rw[Ac hi];exact⟨h.good _ (List.getElem_mem hi),h.ok _ (List.getElem_mem hi),h.kd _ (List.getElem_mem hi)⟩
theorem ziu (a b:Int):decide (0<=Lz a b)=decide (b<=a):=by
 unfold Lz;split
 ·simp;omega
 ·split
  ·simp;omega
  ·simp;omega
theorem zr2 (a b:Int):(Lz a b==0)=decide (a=b):=by
 unfold Lz;split
 ·rw[Bool.eq_iff_iff];simp;omega
 ·split
  ·rw[Bool.eq_iff_iff];simp;omega
  ·rw[Bool.eq_iff_iff];simp;omega
theorem qw9 (a b:Vq):decide (0<=Te a b)=vle b a:=ziu _ _
theorem zow (a b:Vq):(Te a b==0)=veq a b:=zr2 _ _
theorem rV {g:Nat->Vv} {w:World} {b o k n:Nat} (hc:∀ i,i<n->∀ j,j<6->w.cell? ⟨b,o+(i*6+j),none⟩=some ((g i).cell j)) (hk:k<n) :
  w.cell? ⟨b,o+k*6,none⟩=some (.int .u8 (g k).kd)/\w.cell? ⟨b,o+k*6+1,none⟩=some (.bool (g k).b1)/\w.cell? ⟨b,o+k*6+2,none⟩=some (g k).s1/\w.cell? ⟨b,o+k*6+3,none⟩=some (.bool (g k).b2) ∧
  w.cell? ⟨b,o+k*6+4,none⟩=some (g k).s2/\w.cell? ⟨b,o+k*6+5,none⟩=some (.int .i64 (g k).i):=by
 have h:=hc k hk;exact⟨h 0 (by omega),h 1 (by omega),h 2 (by omega),h 3 (by omega),h 4 (by omega),h 5 (by omega)⟩
theorem zxj (K P1 P2 sb so:Nat) (cv:Value) (l:List Vq) (kd:Int) (v:Vq) (x:Vv) (i:Nat) (w:World) (hl:Yl K w cv l) (hv:VlX K w v x) (ho:Nq kd l) (Qq:v.good=true) (V6:v.ok=true) (Rv:v.kd=kd) (hK:K<=w.heap.size)
  (q1:Blk w P1 #[.pointer (some ⟨sb,so,none⟩)] 99) (q2:Blk w P2 x.cells 41) (hs:w.cell? ⟨sb,so+10,none⟩=some cv) (Hw:sb<w.heap.size) (hi:i<l.length) :
  Calls Tryz.prog 53 #[.int .i64 i,.pointer (some ⟨P1,0,none⟩),.pointer (some ⟨P2,0,none⟩)] w fun e w'=>e=.returned (.bool (vle v (l[i]?.getD v0)))/\Below w.heap.size w w':=by
 obtain⟨Ay,uC,Br⟩:=ho.at hi;obtain⟨g,hg,Qf⟩:=hl;obtain⟨cb,co,cap,rfl,hn,hm,Cj,hc⟩:=hg.pos (by omega);have Sk:=Qf i hi
 have Kl:∀ W,Below w.heap.size w W->Calls Tryz.prog 45 #[(g i).agg,x.agg] W fun e w'=>e=.returned (.int .i64 (Te (l[i]?.getD v0) v))/\Below W.heap.size W w':=fun W hb =>
  qgi W.heap.size _ v _ x W (Sk.below hb hK (Nat.le_trans hK hb.size)) (hv.below hb hK (Nat.le_trans hK hb.size)) (Ab _) Ay Qq uC V6 (by rw[Br,Rv])
 have Of:=qw9 (l[i]?.getD v0) v;obtain⟨r,hr⟩:=Ae (vle v (l[i]?.getD v0));rw[hr]at Of ⊢;obtain⟨ci,Ik⟩:=Ae (Te (l[i]?.getD v0) v);simp only[Ik]at Kl Of;obtain⟨n,Et⟩:=Ae l.length;rw[Et]at hi hc hn hs;have HH:=Aa Kl;have Oa:=rV hc hi
 have Em:∀ W,Below w.heap.size w W->W.cell? ⟨cb,co+i*6,none⟩=some (.int .u8 (g i).kd)/\W.cell? ⟨cb,co+i*6+1,none⟩=some (.bool (g i).b1)/\W.cell? ⟨cb,co+i*6+2,none⟩=some (g i).s1/\W.cell? ⟨cb,co+i*6+3,none⟩=some (.bool (g i).b2) ∧
   W.cell? ⟨cb,co+i*6+4,none⟩=some (g i).s2/\W.cell? ⟨cb,co+i*6+5,none⟩=some (.int .i64 (g i).i):=fun W hb=>by
  have Gq:cb<w.heap.size:=by omega
  exact⟨(hb.cell (p:=⟨cb,_,none⟩) Gq).trans Oa.1,(hb.cell (p:=⟨cb,_,none⟩) Gq).trans Oa.2.1,(hb.cell (p:=⟨cb,_,none⟩) Gq).trans Oa.2.2.1,(hb.cell (p:=⟨cb,_,none⟩) Gq).trans Oa.2.2.2.1,(hb.cell (p:=⟨cb,_,none⟩) Gq).trans Oa.2.2.2.2.1,(hb.cell (p:=⟨cb,_,none⟩) Gq).trans Oa.2.2.2.2.2⟩
 have Kj:=Aa Em;clear hr Ik Et Kl Sk Qf hg hc Oa Em Ay uC Br ho hv Qq V6 Rv;obtain⟨y,hy⟩:=Ae (g i);simp only[hy]at HH Kj;clear hy;obtain⟨kx,m1,x1,m2,x2,xi⟩:=x;obtain⟨ky,n1,y1,n2,y2,yi⟩:=y;go_enter Tryz.func53,Tryz.ntmps53
 go_upto_region 1 with fail
 refine Fz (fun W'=>Below w.heap.size w W') [] (by kernel_rfl) ?_;have qS:(fun W'=>Below w.heap.size w W') w.drew:=Er (Below.refl _ _);refine Ar (i:=0) (v:=.pointer (some ⟨sb,so,none⟩)) rfl (.inl ⟨by kernel_rfl,fun W' hS=>by have d0:=(q1.below hS q1.lt).at (i:=0) rfl;go_simp⟩) qS ?_;refine Am (i:=1) (v:=.pointer (some ⟨sb,so,none⟩)) rfl qS ?_;refine Am (i:=2) (v:=.pointer (some ⟨sb,so+10,none⟩)) rfl qS ?_;refine Ar (i:=3) (v:=.slice (some ⟨cb,co,none⟩) n cap) rfl (.inl ⟨by kernel_rfl,fun W' hS=>by have d:=(hS.cell (p:=⟨sb,so+10,none⟩) Hw).trans hs;go_simp⟩) qS ?_;refine Am (i:=4) (v:=.int .i64 i) rfl qS ?_;refine Am (i:=5) (v:=.pointer (some ⟨cb,co+i*6,none⟩)) rfl qS ?_;refine Ar (i:=6) (v:=.agg #[.int .u8 ky,.bool n1,y1,.bool n2,y2,.int .i64 yi]) rfl (.inl ⟨by kernel_rfl,fun W' hS=>by obtain⟨d0,d1,d2,d3,d4,d5⟩:=Kj.out W' hS;go_simp⟩) qS ?_;refine Ar (i:=7) (v:=.agg #[.int .u8 kx,.bool m1,x1,.bool m2,x2,.int .i64 xi]) rfl (.inl ⟨by kernel_rfl,fun W' hS=>by have d0:=(q2.below hS q2.lt).at (i:=0) rfl;have d1:=(q2.below hS q2.lt).at (i:=1) rfl;have d2:=(q2.below hS q2.lt).at (i:=2) rfl;have d3:=(q2.below hS q2.lt).at (i:=3) rfl;have d4:=(q2.below hS q2.lt).at (i:=4) rfl;have d5:=(q2.below hS q2.lt).at (i:=5) rfl;go_simp⟩) qS ?_;refine Ap (i:=8) rfl ?_;go_simp
 refine(HH.out _ qS).mono ?_;rintro e w3 ⟨rfl,Ak⟩;have qS3:Below w.heap.size w w3:=qS.trans (Ak.mono qS.size);go_simp
 refine Am (i:=9) (v:=.bool r) rfl qS3 ?_;refine Ap (i:=10) rfl ?_;go_simp
 refine Eo (by kernel_rfl) ?_ _;go_wp2_with fail
 go_ret
 exact⟨rfl,qS3⟩
end Go.Proofs.YtlldjmagbjjeoaaGreatDoor
