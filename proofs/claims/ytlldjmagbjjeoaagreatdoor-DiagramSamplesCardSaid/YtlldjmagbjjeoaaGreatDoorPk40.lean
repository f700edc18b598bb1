/- Contracts and plain laws, several texts in one (DStO, DlAwS, DBlk, DlSv, DChain, GSmpO). No conditions beyond those stated. -/
import Derived.Test.YtlldjmagbjjeoaaGreatDoorPk39
set_option maxRecDepth 100000
set_option maxHeartbeats 40000000
namespace Go.Proofs.YtlldjmagbjjeoaaGreatDoor
open Go.RowKit
set_option linter.unusedVariables false
def stO (scs:List Sc) (es:List Gx):DSt:=(tgt (lfS scs es) (pcs scs) 0 [] DSt.no).2
def rtO (scs:List Sc) (es:List Gx):Int:=(tgt (lfS scs es) (pcs scs) 0 [] DSt.no).1
theorem dgO (scs:List Sc) (es:List Gx) (h:∀ p∈pcs scs,p.Nodup/\p≠[]):eN (pcs scs) (lfS scs es) (stO scs es) (rtO scs es):=qgk h
def DgN (L:Nat) (V:World) (y:Dv) (scs:List Sc) (es:List Gx):Prop:=∀ W,An L V W->DgX W.heap.size W y scs (stO scs es) (rtO scs es)
theorem DgN.move {L:Nat} {V W:World} {y:Dv} {scs:List Sc} {es:List Gx} (h:DgN L V y scs es) (hb:Below V.heap.size V W):DgN L W y scs es:=fun X hx=>h X ((An.of hb).trans hx)
theorem DgN.now {L:Nat} {V:World} {y:Dv} {scs:List Sc} {es:List Gx} (h:DgN L V y scs es):DgX V.heap.size V y scs (stO scs es) (rtO scs es):=h V (An.refl _ _)
def Ul:Gx:=.mk 13 [] v0 [Kv (wV 2 60),dZ]
def Wl:Gx:=.mk 17 [] v0 [Cy 60]
def Il:Sc:=⟨dZ,2,[wV 2 60]⟩
def Ks:Sc:=⟨dZ,2,[wV 2 60,wV 2 65]⟩
theorem zcx:Oc [Cy 60,Wl]=([Il],0):=by kernel_rfl
theorem zkm:Oc [Cy 60,Ul]=([Il],0):=by kernel_rfl
theorem zm6:Oc [Cy 60,Cy 65]=([Ks],0):=by kernel_rfl
theorem zqu:Oc []=([],0):=by kernel_rfl
theorem mB:(Cy 60).good=true/\Wl.good=true/\Ul.good=true/\(Cy 65).good=true:=⟨by kernel_rfl,by kernel_rfl,by kernel_rfl,by kernel_rfl⟩
theorem fZ:Bf Il=[0,1,2]:=by kernel_rfl
theorem eB:Bf Ks=[0,1,2,3,4]:=by kernel_rfl
theorem qtl:Il.okB=true:=by kernel_rfl
theorem zhk:Ks.okB=true:=by kernel_rfl
theorem qix:(tgt (lfS [Il] [Cy 60,Wl]) (pcs [Il]) 0 [] DSt.no).2=⟨[(0,[-1,-2,-2])],[[0],[1]]⟩:=by kernel_rfl
theorem zlq:(tgt (lfS [] []) (pcs []) 0 [] DSt.no).2=⟨[],[[]]⟩:=by kernel_rfl
theorem zu5:lfS [Il] [Cy 60,Ul] [0]=[0]:=by kernel_rfl
theorem zsd:lfS [Il] [Cy 60,Ul] [1]=[]:=by kernel_rfl
theorem qnx:lfS [Ks] [Cy 60,Cy 65] [0]=[0,1]:=by kernel_rfl
theorem zf2:lfS [Ks] [Cy 60,Cy 65] [1]=[1]:=by kernel_rfl
theorem zjo:lfS [Ks] [Cy 60,Cy 65] [2]=[1]:=by kernel_rfl
theorem zc1:lfS [Ks] [Cy 60,Cy 65] [3]=[]:=by kernel_rfl
theorem qlu:∀ c∈Il.cuts,c.good=true:=by intro v hv;simp only[Il,List.mem_cons,List.not_mem_nil,or_false]at hv;rcases hv with rfl;kernel_rfl
theorem zb4:∀ c∈Ks.cuts,c.good=true:=by intro v hv;simp only[Ks,List.mem_cons,List.not_mem_nil,or_false]at hv;rcases hv with rfl | rfl<;>kernel_rfl
structure qbz (s:Sc):Prop where
 good:K8 [s]
 okD:kH [s]
 okB:∀ t∈[s],t.okB=true
 pc:∀ p∈pcs [s],p.Nodup/\p≠[]
 prod:Gd (pcs [s])<=8192
theorem Zx:qbz Il where
 good:=fun t ht=>by obtain rfl:=List.mem_singleton.1 ht;exact⟨qlu,by decide⟩
 okD:=fun t ht=>by obtain rfl:=List.mem_singleton.1 ht;exact⟨qlu,by decide,by rw[fZ];simp,fun c hc=>by rw[fZ]at hc;simp at hc;omega⟩
 okB:=fun t ht=>by obtain rfl:=List.mem_singleton.1 ht;exact qtl
 pc:=fun p hp=>by
  obtain rfl:p=Bf Il:=by simpa [pcs] using hp
  rw[fZ];decide
 prod:=by show Gd [Bf Il]<=8192;rw[fZ];decide
theorem X5:qbz Ks where
 good:=fun t ht=>by obtain rfl:=List.mem_singleton.1 ht;exact⟨zb4,by decide⟩
 okD:=fun t ht=>by obtain rfl:=List.mem_singleton.1 ht;exact⟨zb4,by decide,by rw[eB];simp,fun c hc=>by rw[eB]at hc;simp at hc;omega⟩
 okB:=fun t ht=>by obtain rfl:=List.mem_singleton.1 ht;exact zhk
 pc:=fun p hp=>by
  obtain rfl:p=Bf Ks:=by simpa [pcs] using hp
  rw[eB];decide
 prod:=by show Gd [Bf Ks]<=8192;rw[eB];decide
theorem qX {s:Sc} (es:List Gx) (h:qbz s):DgV [s] (stO [s] es) (rtO [s] es):=qls es (by simp) h.okB h.pc (by have := h.prod;omega)
theorem qn7:DgV [] (stO [] []) (rtO [] []):=qls [] (by simp) (fun s hs=>by cases hs) (fun p hp=>by cases hp) (by decide)
theorem qj7 {s:Sc} {es:List Gx} {Wp:List Nat->Bool} {B:Nat} {e:Ending} {w':World} (h:∀ p∈pcs [s],p.Nodup/\p≠[]) (hs:F9 [s] (stO [s] es) (rtO [s] es) Wp B e w') {c0:Nat} (Iq:c0∈Bf s) (bL:Wp (lfS [s] es [c0])=true) :
  ∃ v c,e=.returned (.tuple #[v,.bool true])/\Dt B w' v [c]/\c∈Bf s/\Wp (lfS [s] es [c])=true/\c<=c0:=by
 have hd:=dgO [s] es h
 have Rc:∀ c,c∈Bf s->Cu (pcs [s]) [c]:=fun c hc=>Cu.cons hc Cu.nil
 rcases hs with⟨_,hn⟩ | ⟨v,cs,l,rfl,Av,De,Kh,hw,Bt⟩
 ·exact absurd ((hd.gets Wp).2 ((hd.leaves Wp).2 ⟨[c0],Rc c0 Iq,bL⟩)) hn
 ·obtain⟨c,r,rfl,hc,hr⟩:=Cu.open (p:=Bf s) (P:=[]) De
  obtain rfl:r=[]:=List.eq_nil_of_length_eq_zero hr.1;have hl:l=lfS [s] es [c]:=Kh.fun (hd.ev [c] De);subst hl;refine⟨v,c,rfl,Av,hc,hw,?_⟩
  rcases Bt [c0] _ (Rc c0 Iq) (hd.ev [c0] (Rc c0 Iq)) bL with⟨i,h1,_⟩ | h1
  ·rcases i with _ | i
   ·simp at h1;omega
   ·simp at h1
  ·have := h1 0;simp at this;omega
theorem zop {B:Nat} {e:Ending} {w':World} (hs:F9 [Il] (stO [Il] [Cy 60,Ul]) (rtO [Il] [Cy 60,Ul]) (fun l=>l.length==0) B e w'):∃ v,e=.returned (.tuple #[v,.bool true])/\Dt B w' v [1]:=by
 obtain⟨v,c,rfl,Av,hc,hw,Bt⟩:=qj7 Zx.pc hs (c0:=1) (by rw[fZ];simp) (by rw[zsd];rfl);rw[fZ]at hc;simp only[List.mem_cons,List.not_mem_nil,or_false]at hc
 rcases hc with rfl | rfl | rfl
 ·rw[zu5]at hw;cases hw
 ·exact⟨v,rfl,Av⟩
 ·omega
theorem zh7 {B:Nat} {e:Ending} {w':World} (hs:F9 [Ks] (stO [Ks] [Cy 60,Cy 65]) (rtO [Ks] [Cy 60,Cy 65]) (fun l=>l.length==0) B e w'):∃ v,e=.returned (.tuple #[v,.bool true])/\Dt B w' v [3]:=by
 obtain⟨v,c,rfl,Av,hc,hw,Bt⟩:=qj7 X5.pc hs (c0:=3) (by rw[eB];simp) (by rw[zc1];rfl);rw[eB]at hc;simp only[List.mem_cons,List.not_mem_nil,or_false]at hc
 rcases hc with rfl | rfl | rfl | rfl | rfl
 ·rw[qnx]at hw;cases hw
 ·rw[zf2]at hw;cases hw
 ·rw[zjo]at hw;cases hw
 ·exact⟨v,rfl,Av⟩
 ·omega
theorem ztu {B:Nat} {e:Ending} {w':World} (hs:F9 [Ks] (stO [Ks] [Cy 60,Cy 65]) (rtO [Ks] [Cy 60,Cy 65]) (fun l=>decide (1<l.length)) B e w'):∃ v,e=.returned (.tuple #[v,.bool true])/\Dt B w' v [0]:=by
 obtain⟨v,c,rfl,Av,hc,hw,Bt⟩:=qj7 X5.pc hs (c0:=0) (by rw[eB];simp) (by rw[qnx];rfl)
 obtain rfl:c=0:=by omega
 exact⟨v,rfl,Av⟩
theorem ziq {B:Nat} {e:Ending} {w':World} (hs:F9 [] (stO [] []) (rtO [] []) (fun l=>l.length==0) B e w'):∃ v,e=.returned (.tuple #[v,.bool true])/\Dt B w' v []:=by
 have hd:=dgO [] [] (fun p hp=>by cases hp)
 rcases hs with⟨_,hn⟩ | ⟨v,cs,l,rfl,Av,De,Kh,hw,Bt⟩
 ·exact absurd ((hd.gets _).2 ((hd.leaves _).2 ⟨[],Cu.nil,by rfl⟩)) hn
 ·obtain rfl:cs=[]:=List.eq_nil_of_length_eq_zero De.1
  exact⟨v,rfl,Av⟩
theorem znl:¬ Tx (stO [Il] [Cy 60,Wl]) (fun l=>l.length != 1) (rtO [Il] [Cy 60,Wl]):=by
 rw[(dgO [Il] [Cy 60,Wl] Zx.pc).gets]
 have e:(stO [Il] [Cy 60,Wl]).lvs=[[0],[1]]:=by unfold stO;rw[qix]
 rw[e];simp
theorem zf5:Tx (stO [] []) (fun l=>l.length != 1) (rtO [] []):=by
 rw[(dgO [] [] (fun p hp=>by cases hp)).gets]
 have e:(stO [] []).lvs=[[]]:=by unfold stO;rw[zlq]
 rw[e];simp
theorem zfm {b t:Nat} {w:World} {x y:Xv} (hq:Blk w b (Cq x y) t):w.rangeAt b 0 x.cells.toList:=by
 intro j v hj
 rcases j with _ | _ | _ | _ | _ | _ | _ | _ | _ | j
 case succ.succ.succ.succ.succ.succ.succ.succ.succ=>simp at hj
 all_goals (simp at hj;subst hj;exact hq.at rfl)
theorem zl1 {b t:Nat} {w:World} {x y:Xv} (hq:Blk w b (Cq x y) t):w.rangeAt b 9 y.cells.toList:=by
 intro j v hj
 rcases j with _ | _ | _ | _ | _ | _ | _ | _ | _ | j
 case succ.succ.succ.succ.succ.succ.succ.succ.succ=>simp at hj
 all_goals (simp at hj;subst hj;exact hq.at rfl)
theorem zfh (K m n:Nat) (x y:Vv) (w:World) (hx:VlX K w ⟨2,false,[m],false,[n],0⟩ x) (hy:VlX K w ⟨2,false,[m],false,[n],0⟩ y) (hK:K<=w.heap.size):Calls Tryz.prog 18 #[x.agg,y.agg] w fun e w'=>e=.returned (.bool true)/\Below w.heap.size w w':=by
 obtain⟨xk,xb1,xs1,xb2,xs2,xi⟩:=x;obtain⟨yk,yb1,ys1,yb2,ys2,yi⟩:=y;obtain⟨rfl,rfl,rfl,rfl,hu,hv⟩:=hx;obtain⟨rfl,rfl,rfl,rfl,hx,hy⟩:=hy;obtain⟨W1,Ah⟩:=Ae ((w.alloc (.cells #[.int .u8 2,.bool false,xs1,.bool false,xs2,.int .i64 0] 41)).alloc (.cells #[.int .u8 2,.bool false,ys1,.bool false,ys2,.int .i64 0] 41))
 have b1:Below w.heap.size w W1:=by rw[<- Ah];exact(Af _ _).alloc (by simp) _
 have q0:Blk W1 w.heap.size #[.int .u8 2,.bool false,xs1,.bool false,xs2,.int .i64 0] 41:=by rw[<- Ah];exact(Blk.new w _ _).alloc _
 have q1:Blk W1 (w.heap.size+1) #[.int .u8 2,.bool false,ys1,.bool false,ys2,.int .i64 0] 41:=by
  rw[<- Ah];have := Blk.new (w.alloc (.cells #[.int .u8 2,.bool false,xs1,.bool false,xs2,.int .i64 0] 41)) #[.int .u8 2,.bool false,ys1,.bool false,ys2,.int .i64 0] 41;rwa[World.size_alloc]at this
 have hs:=b1.size;have hc:=zo6 w.heap.size m n xs1 xs2 ys1 ys2 W1 (hu.below b1 hK hK) (hv.below b1 hK hK) (hx.below b1 hK hK) (hy.below b1 hK hK) hs
 have s1:W1.heap.size=w.heap.size+2:=by rw[<- Ah];simp
 obtain⟨B,hB⟩:=Ae w.heap.size;have HB:=Aa hB;have HW:=Aa Ah;rw[hB]at b1 q0 q1 hs s1 ⊢;obtain⟨ua,uc,rfl⟩:=hu.one;obtain⟨va,vc,rfl⟩:=hv.one;obtain⟨xa,xc,rfl⟩:=hx.one;obtain⟨ya,yc,rfl⟩:=hy.one;obtain⟨d0,d1,d2,d3,d4,d5⟩:=q0.six;obtain⟨e0,e1,e2,e3,e4,e5⟩:=q1.six;clear hB Ah;go_enter Tryz.func18,Tryz.ntmps18
 go_upto_region 1 with fail
 simp only[HB.out];rw[HW.out];go_wp2_with fail
 refine hc.mono ?_;rintro e w2 ⟨rfl,Ai⟩;clear hc d0 d1 d2 d3 d4 d5 e0 e1 e2 e3 e4 e5;obtain⟨d0,d1,d2,d3,d4,d5⟩:=(q0.below Ai (by omega)).six;obtain⟨e0,e1,e2,e3,e4,e5⟩:=(q1.below Ai (by omega)).six;go_wp2_with fail
 go_ret
 exact⟨rfl,b1.trans (Ai.mono hs)⟩
theorem F6 (a:Act) {d d':Option Tmp} (At:d≠d') (v v':Value):(a.put d v).put d' v'=(a.put d' v').put d v:=by
 cases d with
 | none=>cases d'<;>rfl
 | some i=>cases d' with
  | none=>rfl
  | some j =>
   simp only[Act.put]
   congr 1
   exact Array.setIfInBounds_comm _ _ (fun e=>At (by rw[e]))
theorem V4 (a:Act) (d:Option Tmp):∃ v,a.put d v=a:=by
 cases d with
 | none=>exact⟨undef,rfl⟩
 | some i =>
  by_cases h:i<a.tmps.size
  ·refine⟨a.tmps[i],?_⟩
   simp only[Act.put];rw[Array.setIfInBounds_def,dif_pos h,Array.set_getElem_self]
  ·refine⟨undef,?_⟩
   simp only[Act.put];rw[Array.setIfInBounds_def,dif_neg h]
theorem Vc {a b:Act} {d d':Option Tmp} {v q:Value} (At:d≠d') (h:a.put d' q=b):(a.put d v).put d' q=b.put d v:=by rw[F6 _ At,h]
theorem qfg (a:Act) (d:Option Tmp) (p q:Value):(a.put d p).put d q=a.put d q:=by
 cases d with
 | none=>rfl
 | some i=>simp only[Act.put,Array.setIfInBounds_setIfInBounds]
def mN (v:Value) (i:Nat):Value:=match v with | .tuple vs=>vs.getD i undef | _=>undef
section
variable {P:Program} {ops:Array Oper} {Q:Exit->Act->World->Prop} {md:Region.Mode} {S:World->Prop}
theorem zo9 {c1 i:Nat} {oc1 oi:Oper} {fuel:Nat} (d1 di:Option Tmp) (m:Nat) {listed L0 L1:Array Bool} {A:Value->Value->Act} {a:Act} {w:World} (ty:TypeId) (z:Array Value)
  (F0:(Nat->Prop)->World->Prop)
  (F1:Value->(Nat->Prop)->World->Prop)
  (Ok:Region.ready md ops listed=[c1,i]) (Ol:Region.ready md ops (listed.setIfInBounds i true)=[c1])
  (hrn:Region.ready md ops L0=[i]) (hL:L0.setIfInBounds i true=L1)
  (Gr:oc1.dst=d1) (L5:ops[c1]?=some oc1) (cQ:∀ t,Region.wanted oc1 (yielded ops t)=true) (I8:d1≠di)
  (Hu:∀ W W',S W->Below W.heap.size W W'->S W') (He:S w)
  (Wz:oi.dst=di) (Nc:ops[i]?=some oi) (G2:∀ t,Region.wanted oi (yielded ops t)=true)
  (C6:∀ (a:Act) (W:World) (K:Act->World->Prop),K (a.put di (.pointer (some ⟨W.heap.size,0,none⟩))) (W.alloc (.cells z ty))->oi.wp P a W K Q)
  (st0:∀ Fp W W',F0 Fp W->Below W.heap.size W W'->F0 Fp W')
  (st1:∀ v1 Fp W W',F1 v1 Fp W->Below W.heap.size W W'->F1 v1 Fp W')
  (step1:∀ Fp W p,F0 Fp W->∀ KK:Act->World->Prop,(∀ v1 Fp' W',F1 v1 Fp' W'->(∀ b,Fp' b->Fp b\/Btw W.heap.size W'.heap.size b)->Below W.heap.size W W'->KK ((a.put di p).put d1 v1) W')->oc1.wp P (a.put di p) W KK Q)
  (htk0:∀ v1 p Fp W',F1 v1 Fp W'->S W'->By P md ops Q S [] (fuel+1) L0 (A p v1) W'->By P md ops Q S [] (fuel+m+1) (listed.setIfInBounds c1 true) ((a.put di p).put d1 v1) W')
  (htk1:∀ v1 p Fp W',F1 v1 Fp W'->S W'->By P md ops Q S [] fuel L1 (A p v1) W'->By P md ops Q S [] (fuel+m) ((listed.setIfInBounds c1 true).setIfInBounds i true) ((a.put di p).put d1 v1) W')
  (hA:∀ v1 p q,(A p v1).put di q=A q v1)
  (h0:F0 (fun _=>False) w)
  (h:∀ v1 Fp k W',F1 v1 Fp W'->¬ Fp k->S W'->Blk W' k z ty->w.heap.size<=k->Below w.heap.size w W'->By P md ops Q S [] fuel L1 (A (.pointer (some ⟨k,0,none⟩)) v1) W') :
  By P md ops Q S [] (fuel+m+1+1) listed a w:=by
 subst Gr Wz
 have pT:c1≠i:=fun e=>by subst e;rw[L5]at Nc;cases Nc;exact I8 rfl
 have al:∀ (W:World),Below W.heap.size W (W.alloc (.cells z ty)):=fun W=>Af _ _
 have e0:∀ p,(a).put oi.dst p=(a.put oi.dst p):=fun p=>by
  rfl
 have e1:∀ v1 p,((a.put oc1.dst v1)).put oi.dst p=((a.put oi.dst p).put oc1.dst v1):=fun v1 p=>by
  rw[F6 _ I8]
 have t1:∀ v1 Fp k W',F1 v1 Fp W'->¬ Fp k->Blk W' k z ty->w.heap.size<=k->Below w.heap.size w W'->By P md ops Q S [] (fuel+m+0) ((listed.setIfInBounds c1 true).setIfInBounds i true) ((a.put oi.dst (.pointer (some ⟨k,0,none⟩))).put oc1.dst v1) W':=fun v1 Fp k W' f nk q hk b=>by
  exact htk1 v1 _ Fp W' f (Hu _ _ He b) (h v1 Fp k W' f nk (Hu _ _ He b) q hk b)
 have t0:∀ Fp k W',F0 Fp W'->¬ Fp k->Blk W' k z ty->w.heap.size<=k->Below w.heap.size w W'->By P md ops Q S [] (fuel+m+1) (listed.setIfInBounds i true) (a.put oi.dst (.pointer (some ⟨k,0,none⟩))) W':=fun Fp k W' f nk q hk b=>by
  refine Q5 Ol L5 (cQ _) ?_
  refine step1 Fp W' _ f _ fun v1 Fp2 W2 f2 Cw b2=>⟨fun _=>Hu _ _ He (b.trans (b2.mono b.size)),?_⟩
  rw[Array.setIfInBounds_comm _ _ (Ne.symm pT)];exact t1 v1 Fp2 k W2 f2 (fun h2=>(Cw k h2).elim nk fun h3=>absurd h3.1 (Nat.not_le_of_lt q.lt)) ((b2.block k q.lt).trans q) hk (b.trans (b2.mono b.size))
 have g1:∀ v1 Fp W',F1 v1 Fp W'->(∀ b,Fp b->b<W'.heap.size)->Below w.heap.size w W'->By P md ops Q S [] (fuel+m+0+1) (listed.setIfInBounds c1 true) (a.put oc1.dst v1) W':=fun v1 Fp W' f lf b=>by
  obtain⟨p,hp⟩:=V4 (a.put oc1.dst v1) oi.dst;rw[e1]at hp;rw[<- hp];refine htk0 v1 p Fp W' f (Hu _ _ He b) ?_;refine Q5 hrn Nc (G2 _) (C6 _ _ _ ⟨fun _=>Hu _ _ He (b.trans ((al W').mono b.size)),?_⟩);rw[hA,hL];exact h v1 Fp _ _ (st1 v1 Fp _ _ f (al W')) (fun h2=>absurd (lf _ h2) (Nat.lt_irrefl _)) (Hu _ _ He (b.trans ((al W').mono b.size))) (Blk.new W' _ _) b.size (b.trans ((al W').mono b.size))
 have g0:∀ Fp W',F0 Fp W'->(∀ b,Fp b->b<W'.heap.size)->Below w.heap.size w W'->By P md ops Q S [] (fuel+m+1+1) listed a W':=fun Fp W' f lf b=>by
  refine mP Ok L5 Nc (cQ _) (G2 _) ?_ (C6 _ _ _ ⟨fun _=>Hu _ _ He (b.trans ((al W').mono b.size)),(e0 _).symm ▸ t0 Fp _ _ (st0 Fp _ _ f (al W')) (fun h2=>absurd (lf _ h2) (Nat.lt_irrefl _)) (Blk.new W' _ _) b.size (b.trans ((al W').mono b.size))⟩);obtain⟨p,hp⟩:=V4 a oi.dst;rw[e0]at hp;rw[<- hp]
  refine step1 Fp W' p f _ fun v1 Fp2 W2 f2 Cw b2=>⟨fun _=>Hu _ _ He (b.trans (b2.mono b.size)),?_⟩
  rw[hp];exact g1 v1 Fp2 W2 f2 (fun b3 h3=>(Cw b3 h3).elim (fun h4=>Nat.lt_of_lt_of_le (lf b3 h4) b2.size) fun h4=>h4.2) (b.trans (b2.mono b.size))
 exact g0 _ w h0 (fun _ h=>h.elim) (Below.refl _ _)
theorem ztr {c1 c2 i:Nat} {oc1 oc2 oi:Oper} {fuel:Nat} (d1 d2 di:Option Tmp) (m:Nat) {listed L0 L1:Array Bool} {A:Value->Value->Value->Act} {a:Act} {w:World} (ty:TypeId) (z:Array Value)
  (F0:(Nat->Prop)->World->Prop)
  (F1:Value->(Nat->Prop)->World->Prop)
  (F2:Value->Value->(Nat->Prop)->World->Prop)
  (Ok:Region.ready md ops listed=[c1,i]) (Ol:Region.ready md ops (listed.setIfInBounds i true)=[c1])
  (Jd:Region.ready md ops (listed.setIfInBounds c1 true)=[c2,i]) (Cp:Region.ready md ops ((listed.setIfInBounds c1 true).setIfInBounds i true)=[c2])
  (hrn:Region.ready md ops L0=[i]) (hL:L0.setIfInBounds i true=L1)
  (Gr:oc1.dst=d1) (L5:ops[c1]?=some oc1) (cQ:∀ t,Region.wanted oc1 (yielded ops t)=true) (I8:d1≠di)
  (Lj:oc2.dst=d2) (jD:ops[c2]?=some oc2) (pE:∀ t,Region.wanted oc2 (yielded ops t)=true) (jN:d2≠di)
  (Hu:∀ W W',S W->Below W.heap.size W W'->S W') (He:S w)
  (Wz:oi.dst=di) (Nc:ops[i]?=some oi) (G2:∀ t,Region.wanted oi (yielded ops t)=true)
  (C6:∀ (a:Act) (W:World) (K:Act->World->Prop),K (a.put di (.pointer (some ⟨W.heap.size,0,none⟩))) (W.alloc (.cells z ty))->oi.wp P a W K Q)
  (st0:∀ Fp W W',F0 Fp W->Below W.heap.size W W'->F0 Fp W')
  (st1:∀ v1 Fp W W',F1 v1 Fp W->Below W.heap.size W W'->F1 v1 Fp W')
  (st2:∀ v1 v2 Fp W W',F2 v1 v2 Fp W->Below W.heap.size W W'->F2 v1 v2 Fp W')
  (step1:∀ Fp W p,F0 Fp W->∀ KK:Act->World->Prop,(∀ v1 Fp' W',F1 v1 Fp' W'->(∀ b,Fp' b->Fp b\/Btw W.heap.size W'.heap.size b)->Below W.heap.size W W'->KK ((a.put di p).put d1 v1) W')->oc1.wp P (a.put di p) W KK Q)
  (step2:∀ v1 Fp W p,F1 v1 Fp W->∀ KK:Act->World->Prop,(∀ v2 Fp' W',F2 v1 v2 Fp' W'->(∀ b,Fp' b->Fp b\/Btw W.heap.size W'.heap.size b)->Below W.heap.size W W'->KK (((a.put di p).put d1 v1).put d2 v2) W')->oc2.wp P ((a.put di p).put d1 v1) W KK Q)
  (htk0:∀ v1 v2 p Fp W',F2 v1 v2 Fp W'->S W'->By P md ops Q S [] (fuel+1) L0 (A p v1 v2) W'->By P md ops Q S [] (fuel+m+1) ((listed.setIfInBounds c1 true).setIfInBounds c2 true) (((a.put di p).put d1 v1).put d2 v2) W')
  (htk1:∀ v1 v2 p Fp W',F2 v1 v2 Fp W'->S W'->By P md ops Q S [] fuel L1 (A p v1 v2) W'->By P md ops Q S [] (fuel+m) (((listed.setIfInBounds c1 true).setIfInBounds c2 true).setIfInBounds i true) (((a.put di p).put d1 v1).put d2 v2) W')
  (hA:∀ v1 v2 p q,(A p v1 v2).put di q=A q v1 v2)
  (h0:F0 (fun _=>False) w)
  (h:∀ v1 v2 Fp k W',F2 v1 v2 Fp W'->¬ Fp k->S W'->Blk W' k z ty->w.heap.size<=k->Below w.heap.size w W'->By P md ops Q S [] fuel L1 (A (.pointer (some ⟨k,0,none⟩)) v1 v2) W') :
  By P md ops Q S [] (fuel+m+2+1) listed a w:=by
 subst Gr Lj Wz
 have pT:c1≠i:=fun e=>by subst e;rw[L5]at Nc;cases Nc;exact I8 rfl
 have qh8:c2≠i:=fun e=>by subst e;rw[jD]at Nc;cases Nc;exact jN rfl
 have al:∀ (W:World),Below W.heap.size W (W.alloc (.cells z ty)):=fun W=>Af _ _
 have e0:∀ p,(a).put oi.dst p=(a.put oi.dst p):=fun p=>by
  rfl
 have e1:∀ v1 p,((a.put oc1.dst v1)).put oi.dst p=((a.put oi.dst p).put oc1.dst v1):=fun v1 p=>by
  rw[F6 _ I8]
 have e2:∀ v1 v2 p,(((a.put oc1.dst v1).put oc2.dst v2)).put oi.dst p=(((a.put oi.dst p).put oc1.dst v1).put oc2.dst v2):=fun v1 v2 p=>by
  rw[F6 _ jN,F6 _ I8]
 have t2:∀ v1 v2 Fp k W',F2 v1 v2 Fp W'->¬ Fp k->Blk W' k z ty->w.heap.size<=k->Below w.heap.size w W'->By P md ops Q S [] (fuel+m+0) (((listed.setIfInBounds c1 true).setIfInBounds c2 true).setIfInBounds i true) (((a.put oi.dst (.pointer (some ⟨k,0,none⟩))).put oc1.dst v1).put oc2.dst v2) W':=fun v1 v2 Fp k W' f nk q hk b=>by
  exact htk1 v1 v2 _ Fp W' f (Hu _ _ He b) (h v1 v2 Fp k W' f nk (Hu _ _ He b) q hk b)
 have t1:∀ v1 Fp k W',F1 v1 Fp W'->¬ Fp k->Blk W' k z ty->w.heap.size<=k->Below w.heap.size w W'->By P md ops Q S [] (fuel+m+1) ((listed.setIfInBounds c1 true).setIfInBounds i true) ((a.put oi.dst (.pointer (some ⟨k,0,none⟩))).put oc1.dst v1) W':=fun v1 Fp k W' f nk q hk b=>by
  refine Q5 Cp jD (pE _) ?_
  refine step2 v1 Fp W' _ f _ fun v2 Fp2 W2 f2 Cw b2=>⟨fun _=>Hu _ _ He (b.trans (b2.mono b.size)),?_⟩
  rw[Array.setIfInBounds_comm _ _ (Ne.symm qh8)];exact t2 v1 v2 Fp2 k W2 f2 (fun h2=>(Cw k h2).elim nk fun h3=>absurd h3.1 (Nat.not_le_of_lt q.lt)) ((b2.block k q.lt).trans q) hk (b.trans (b2.mono b.size))
 have t0:∀ Fp k W',F0 Fp W'->¬ Fp k->Blk W' k z ty->w.heap.size<=k->Below w.heap.size w W'->By P md ops Q S [] (fuel+m+2) (listed.setIfInBounds i true) (a.put oi.dst (.pointer (some ⟨k,0,none⟩))) W':=fun Fp k W' f nk q hk b=>by
  refine Q5 Ol L5 (cQ _) ?_
  refine step1 Fp W' _ f _ fun v1 Fp2 W2 f2 Cw b2=>⟨fun _=>Hu _ _ He (b.trans (b2.mono b.size)),?_⟩
  rw[Array.setIfInBounds_comm _ _ (Ne.symm pT)];exact t1 v1 Fp2 k W2 f2 (fun h2=>(Cw k h2).elim nk fun h3=>absurd h3.1 (Nat.not_le_of_lt q.lt)) ((b2.block k q.lt).trans q) hk (b.trans (b2.mono b.size))
 have g2:∀ v1 v2 Fp W',F2 v1 v2 Fp W'->(∀ b,Fp b->b<W'.heap.size)->Below w.heap.size w W'->By P md ops Q S [] (fuel+m+0+1) ((listed.setIfInBounds c1 true).setIfInBounds c2 true) ((a.put oc1.dst v1).put oc2.dst v2) W':=fun v1 v2 Fp W' f lf b=>by
  obtain⟨p,hp⟩:=V4 ((a.put oc1.dst v1).put oc2.dst v2) oi.dst;rw[e2]at hp;rw[<- hp];refine htk0 v1 v2 p Fp W' f (Hu _ _ He b) ?_;refine Q5 hrn Nc (G2 _) (C6 _ _ _ ⟨fun _=>Hu _ _ He (b.trans ((al W').mono b.size)),?_⟩);rw[hA,hL];exact h v1 v2 Fp _ _ (st2 v1 v2 Fp _ _ f (al W')) (fun h2=>absurd (lf _ h2) (Nat.lt_irrefl _)) (Hu _ _ He (b.trans ((al W').mono b.size))) (Blk.new W' _ _) b.size (b.trans ((al W').mono b.size))
 have g1:∀ v1 Fp W',F1 v1 Fp W'->(∀ b,Fp b->b<W'.heap.size)->Below w.heap.size w W'->By P md ops Q S [] (fuel+m+1+1) (listed.setIfInBounds c1 true) (a.put oc1.dst v1) W':=fun v1 Fp W' f lf b=>by
  refine mP Jd jD Nc (pE _) (G2 _) ?_ (C6 _ _ _ ⟨fun _=>Hu _ _ He (b.trans ((al W').mono b.size)),(e1 v1 _).symm ▸ t1 v1 Fp _ _ (st1 v1 Fp _ _ f (al W')) (fun h2=>absurd (lf _ h2) (Nat.lt_irrefl _)) (Blk.new W' _ _) b.size (b.trans ((al W').mono b.size))⟩);obtain⟨p,hp⟩:=V4 (a.put oc1.dst v1) oi.dst;rw[e1]at hp;rw[<- hp]
  refine step2 v1 Fp W' p f _ fun v2 Fp2 W2 f2 Cw b2=>⟨fun _=>Hu _ _ He (b.trans (b2.mono b.size)),?_⟩
  rw[hp];exact g2 v1 v2 Fp2 W2 f2 (fun b3 h3=>(Cw b3 h3).elim (fun h4=>Nat.lt_of_lt_of_le (lf b3 h4) b2.size) fun h4=>h4.2) (b.trans (b2.mono b.size))
 have g0:∀ Fp W',F0 Fp W'->(∀ b,Fp b->b<W'.heap.size)->Below w.heap.size w W'->By P md ops Q S [] (fuel+m+2+1) listed a W':=fun Fp W' f lf b=>by
  refine mP Ok L5 Nc (cQ _) (G2 _) ?_ (C6 _ _ _ ⟨fun _=>Hu _ _ He (b.trans ((al W').mono b.size)),(e0 _).symm ▸ t0 Fp _ _ (st0 Fp _ _ f (al W')) (fun h2=>absurd (lf _ h2) (Nat.lt_irrefl _)) (Blk.new W' _ _) b.size (b.trans ((al W').mono b.size))⟩);obtain⟨p,hp⟩:=V4 a oi.dst;rw[e0]at hp;rw[<- hp]
  refine step1 Fp W' p f _ fun v1 Fp2 W2 f2 Cw b2=>⟨fun _=>Hu _ _ He (b.trans (b2.mono b.size)),?_⟩
  rw[hp];exact g1 v1 Fp2 W2 f2 (fun b3 h3=>(Cw b3 h3).elim (fun h4=>Nat.lt_of_lt_of_le (lf b3 h4) b2.size) fun h4=>h4.2) (b.trans (b2.mono b.size))
 exact g0 _ w h0 (fun _ h=>h.elim) (Below.refl _ _)
theorem ztm {c1 c2 c3 i:Nat} {oc1 oc2 oc3 oi:Oper} {fuel:Nat} (d1 d2 d3 di:Option Tmp) (m:Nat) {listed L0 L1:Array Bool} {A:Value->Value->Value->Value->Act} {a:Act} {w:World} (ty:TypeId) (z:Array Value)
  (F0:(Nat->Prop)->World->Prop)
  (F1:Value->(Nat->Prop)->World->Prop)
  (F2:Value->Value->(Nat->Prop)->World->Prop)
  (F3:Value->Value->Value->(Nat->Prop)->World->Prop)
  (Ok:Region.ready md ops listed=[c1,i]) (Ol:Region.ready md ops (listed.setIfInBounds i true)=[c1])
  (Jd:Region.ready md ops (listed.setIfInBounds c1 true)=[c2,i]) (Cp:Region.ready md ops ((listed.setIfInBounds c1 true).setIfInBounds i true)=[c2])
  (Dw:Region.ready md ops ((listed.setIfInBounds c1 true).setIfInBounds c2 true)=[c3,i]) (Az:Region.ready md ops (((listed.setIfInBounds c1 true).setIfInBounds c2 true).setIfInBounds i true)=[c3])
  (hrn:Region.ready md ops L0=[i]) (hL:L0.setIfInBounds i true=L1)
  (Gr:oc1.dst=d1) (L5:ops[c1]?=some oc1) (cQ:∀ t,Region.wanted oc1 (yielded ops t)=true) (I8:d1≠di)
  (Lj:oc2.dst=d2) (jD:ops[c2]?=some oc2) (pE:∀ t,Region.wanted oc2 (yielded ops t)=true) (jN:d2≠di)
  (K1:oc3.dst=d3) (qin:ops[c3]?=some oc3) (zbp:∀ t,Region.wanted oc3 (yielded ops t)=true) (zau:d3≠di)
  (Hu:∀ W W',S W->Below W.heap.size W W'->S W') (He:S w)
  (Wz:oi.dst=di) (Nc:ops[i]?=some oi) (G2:∀ t,Region.wanted oi (yielded ops t)=true)
  (C6:∀ (a:Act) (W:World) (K:Act->World->Prop),K (a.put di (.pointer (some ⟨W.heap.size,0,none⟩))) (W.alloc (.cells z ty))->oi.wp P a W K Q)
  (st0:∀ Fp W W',F0 Fp W->Below W.heap.size W W'->F0 Fp W')
  (st1:∀ v1 Fp W W',F1 v1 Fp W->Below W.heap.size W W'->F1 v1 Fp W')
  (st2:∀ v1 v2 Fp W W',F2 v1 v2 Fp W->Below W.heap.size W W'->F2 v1 v2 Fp W')
  (st3:∀ v1 v2 v3 Fp W W',F3 v1 v2 v3 Fp W->Below W.heap.size W W'->F3 v1 v2 v3 Fp W')
  (step1:∀ Fp W p,F0 Fp W->∀ KK:Act->World->Prop,(∀ v1 Fp' W',F1 v1 Fp' W'->(∀ b,Fp' b->Fp b\/Btw W.heap.size W'.heap.size b)->Below W.heap.size W W'->KK ((a.put di p).put d1 v1) W')->oc1.wp P (a.put di p) W KK Q)
  (step2:∀ v1 Fp W p,F1 v1 Fp W->∀ KK:Act->World->Prop,(∀ v2 Fp' W',F2 v1 v2 Fp' W'->(∀ b,Fp' b->Fp b\/Btw W.heap.size W'.heap.size b)->Below W.heap.size W W'->KK (((a.put di p).put d1 v1).put d2 v2) W')->oc2.wp P ((a.put di p).put d1 v1) W KK Q)
  (step3:∀ v1 v2 Fp W p,F2 v1 v2 Fp W->∀ KK:Act->World->Prop,(∀ v3 Fp' W',F3 v1 v2 v3 Fp' W'->(∀ b,Fp' b->Fp b\/Btw W.heap.size W'.heap.size b)->Below W.heap.size W W'->KK ((((a.put di p).put d1 v1).put d2 v2).put d3 v3) W')->oc3.wp P (((a.put di p).put d1 v1).put d2 v2) W KK Q)
  (htk0:∀ v1 v2 v3 p Fp W',F3 v1 v2 v3 Fp W'->S W'->By P md ops Q S [] (fuel+1) L0 (A p v1 v2 v3) W'->By P md ops Q S [] (fuel+m+1) (((listed.setIfInBounds c1 true).setIfInBounds c2 true).setIfInBounds c3 true) ((((a.put di p).put d1 v1).put d2 v2).put d3 v3) W')
  (htk1:∀ v1 v2 v3 p Fp W',F3 v1 v2 v3 Fp W'->S W'->By P md ops Q S [] fuel L1 (A p v1 v2 v3) W'->By P md ops Q S [] (fuel+m) ((((listed.setIfInBounds c1 true).setIfInBounds c2 true).setIfInBounds c3 true).setIfInBounds i true) ((((a.put di p).put d1 v1).put d2 v2).put d3 v3) W')
  (hA:∀ v1 v2 v3 p q,(A p v1 v2 v3).put di q=A q v1 v2 v3)
  (h0:F0 (fun _=>False) w)
  (h:∀ v1 v2 v3 Fp k W',F3 v1 v2 v3 Fp W'->¬ Fp k->S W'->Blk W' k z ty->w.heap.size<=k->Below w.heap.size w W'->By P md ops Q S [] fuel L1 (A (.pointer (some ⟨k,0,none⟩)) v1 v2 v3) W') :
  By P md ops Q S [] (fuel+m+3+1) listed a w:=by
 subst Gr Lj K1 Wz
 have pT:c1≠i:=fun e=>by subst e;rw[L5]at Nc;cases Nc;exact I8 rfl
 have qh8:c2≠i:=fun e=>by subst e;rw[jD]at Nc;cases Nc;exact jN rfl
 have zlt:c3≠i:=fun e=>by subst e;rw[qin]at Nc;cases Nc;exact zau rfl
 have al:∀ (W:World),Below W.heap.size W (W.alloc (.cells z ty)):=fun W=>Af _ _
 have e0:∀ p,(a).put oi.dst p=(a.put oi.dst p):=fun p=>by
  rfl
 have e1:∀ v1 p,((a.put oc1.dst v1)).put oi.dst p=((a.put oi.dst p).put oc1.dst v1):=fun v1 p=>by
  rw[F6 _ I8]
 have e2:∀ v1 v2 p,(((a.put oc1.dst v1).put oc2.dst v2)).put oi.dst p=(((a.put oi.dst p).put oc1.dst v1).put oc2.dst v2):=fun v1 v2 p=>by
  rw[F6 _ jN,F6 _ I8]
 have e3:∀ v1 v2 v3 p,((((a.put oc1.dst v1).put oc2.dst v2).put oc3.dst v3)).put oi.dst p=((((a.put oi.dst p).put oc1.dst v1).put oc2.dst v2).put oc3.dst v3):=fun v1 v2 v3 p=>by
  rw[F6 _ zau,F6 _ jN,F6 _ I8]
 have t3:∀ v1 v2 v3 Fp k W',F3 v1 v2 v3 Fp W'->¬ Fp k->Blk W' k z ty->w.heap.size<=k->Below w.heap.size w W'->By P md ops Q S [] (fuel+m+0) ((((listed.setIfInBounds c1 true).setIfInBounds c2 true).setIfInBounds c3 true).setIfInBounds i true) ((((a.put oi.dst (.pointer (some ⟨k,0,none⟩))).put oc1.dst v1).put oc2.dst v2).put oc3.dst v3) W':=fun v1 v2 v3 Fp k W' f nk q hk b=>by
  exact htk1 v1 v2 v3 _ Fp W' f (Hu _ _ He b) (h v1 v2 v3 Fp k W' f nk (Hu _ _ He b) q hk b)
 have t2:∀ v1 v2 Fp k W',F2 v1 v2 Fp W'->¬ Fp k->Blk W' k z ty->w.heap.size<=k->Below w.heap.size w W'->By P md ops Q S [] (fuel+m+1) (((listed.setIfInBounds c1 true).setIfInBounds c2 true).setIfInBounds i true) (((a.put oi.dst (.pointer (some ⟨k,0,none⟩))).put oc1.dst v1).put oc2.dst v2) W':=fun v1 v2 Fp k W' f nk q hk b=>by
  refine Q5 Az qin (zbp _) ?_
  refine step3 v1 v2 Fp W' _ f _ fun v3 Fp2 W2 f2 Cw b2=>⟨fun _=>Hu _ _ He (b.trans (b2.mono b.size)),?_⟩
  rw[Array.setIfInBounds_comm _ _ (Ne.symm zlt)];exact t3 v1 v2 v3 Fp2 k W2 f2 (fun h2=>(Cw k h2).elim nk fun h3=>absurd h3.1 (Nat.not_le_of_lt q.lt)) ((b2.block k q.lt).trans q) hk (b.trans (b2.mono b.size))
 have t1:∀ v1 Fp k W',F1 v1 Fp W'->¬ Fp k->Blk W' k z ty->w.heap.size<=k->Below w.heap.size w W'->By P md ops Q S [] (fuel+m+2) ((listed.setIfInBounds c1 true).setIfInBounds i true) ((a.put oi.dst (.pointer (some ⟨k,0,none⟩))).put oc1.dst v1) W':=fun v1 Fp k W' f nk q hk b=>by
  refine Q5 Cp jD (pE _) ?_
  refine step2 v1 Fp W' _ f _ fun v2 Fp2 W2 f2 Cw b2=>⟨fun _=>Hu _ _ He (b.trans (b2.mono b.size)),?_⟩
  rw[Array.setIfInBounds_comm _ _ (Ne.symm qh8)];exact t2 v1 v2 Fp2 k W2 f2 (fun h2=>(Cw k h2).elim nk fun h3=>absurd h3.1 (Nat.not_le_of_lt q.lt)) ((b2.block k q.lt).trans q) hk (b.trans (b2.mono b.size))
 have t0:∀ Fp k W',F0 Fp W'->¬ Fp k->Blk W' k z ty->w.heap.size<=k->Below w.heap.size w W'->By P md ops Q S [] (fuel+m+3) (listed.setIfInBounds i true) (a.put oi.dst (.pointer (some ⟨k,0,none⟩))) W':=fun Fp k W' f nk q hk b=>by
  refine Q5 Ol L5 (cQ _) ?_
  refine step1 Fp W' _ f _ fun v1 Fp2 W2 f2 Cw b2=>⟨fun _=>Hu _ _ He (b.trans (b2.mono b.size)),?_⟩
  rw[Array.setIfInBounds_comm _ _ (Ne.symm pT)];exact t1 v1 Fp2 k W2 f2 (fun h2=>(Cw k h2).elim nk fun h3=>absurd h3.1 (Nat.not_le_of_lt q.lt)) ((b2.block k q.lt).trans q) hk (b.trans (b2.mono b.size))
 have g3:∀ v1 v2 v3 Fp W',F3 v1 v2 v3 Fp W'->(∀ b,Fp b->b<W'.heap.size)->Below w.heap.size w W'->By P md ops Q S [] (fuel+m+0+1) (((listed.setIfInBounds c1 true).setIfInBounds c2 true).setIfInBounds c3 true) (((a.put oc1.dst v1).put oc2.dst v2).put oc3.dst v3) W':=fun v1 v2 v3 Fp W' f lf b=>by
  obtain⟨p,hp⟩:=V4 (((a.put oc1.dst v1).put oc2.dst v2).put oc3.dst v3) oi.dst;rw[e3]at hp;rw[<- hp];refine htk0 v1 v2 v3 p Fp W' f (Hu _ _ He b) ?_;refine Q5 hrn Nc (G2 _) (C6 _ _ _ ⟨fun _=>Hu _ _ He (b.trans ((al W').mono b.size)),?_⟩);rw[hA,hL];exact h v1 v2 v3 Fp _ _ (st3 v1 v2 v3 Fp _ _ f (al W')) (fun h2=>absurd (lf _ h2) (Nat.lt_irrefl _)) (Hu _ _ He (b.trans ((al W').mono b.size))) (Blk.new W' _ _) b.size (b.trans ((al W').mono b.size))
 have g2:∀ v1 v2 Fp W',F2 v1 v2 Fp W'->(∀ b,Fp b->b<W'.heap.size)->Below w.heap.size w W'->By P md ops Q S [] (fuel+m+1+1) ((listed.setIfInBounds c1 true).setIfInBounds c2 true) ((a.put oc1.dst v1).put oc2.dst v2) W':=fun v1 v2 Fp W' f lf b=>by
  refine mP Dw qin Nc (zbp _) (G2 _) ?_ (C6 _ _ _ ⟨fun _=>Hu _ _ He (b.trans ((al W').mono b.size)),(e2 v1 v2 _).symm ▸ t2 v1 v2 Fp _ _ (st2 v1 v2 Fp _ _ f (al W')) (fun h2=>absurd (lf _ h2) (Nat.lt_irrefl _)) (Blk.new W' _ _) b.size (b.trans ((al W').mono b.size))⟩);obtain⟨p,hp⟩:=V4 ((a.put oc1.dst v1).put oc2.dst v2) oi.dst;rw[e2]at hp;rw[<- hp]
  refine step3 v1 v2 Fp W' p f _ fun v3 Fp2 W2 f2 Cw b2=>⟨fun _=>Hu _ _ He (b.trans (b2.mono b.size)),?_⟩
  rw[hp];exact g3 v1 v2 v3 Fp2 W2 f2 (fun b3 h3=>(Cw b3 h3).elim (fun h4=>Nat.lt_of_lt_of_le (lf b3 h4) b2.size) fun h4=>h4.2) (b.trans (b2.mono b.size))
 have g1:∀ v1 Fp W',F1 v1 Fp W'->(∀ b,Fp b->b<W'.heap.size)->Below w.heap.size w W'->By P md ops Q S [] (fuel+m+2+1) (listed.setIfInBounds c1 true) (a.put oc1.dst v1) W':=fun v1 Fp W' f lf b=>by
  refine mP Jd jD Nc (pE _) (G2 _) ?_ (C6 _ _ _ ⟨fun _=>Hu _ _ He (b.trans ((al W').mono b.size)),(e1 v1 _).symm ▸ t1 v1 Fp _ _ (st1 v1 Fp _ _ f (al W')) (fun h2=>absurd (lf _ h2) (Nat.lt_irrefl _)) (Blk.new W' _ _) b.size (b.trans ((al W').mono b.size))⟩);obtain⟨p,hp⟩:=V4 (a.put oc1.dst v1) oi.dst;rw[e1]at hp;rw[<- hp]
  refine step2 v1 Fp W' p f _ fun v2 Fp2 W2 f2 Cw b2=>⟨fun _=>Hu _ _ He (b.trans (b2.mono b.size)),?_⟩
  rw[hp];exact g2 v1 v2 Fp2 W2 f2 (fun b3 h3=>(Cw b3 h3).elim (fun h4=>Nat.lt_of_lt_of_le (lf b3 h4) b2.size) fun h4=>h4.2) (b.trans (b2.mono b.size))
 have g0:∀ Fp W',F0 Fp W'->(∀ b,Fp b->b<W'.heap.size)->Below w.heap.size w W'->By P md ops Q S [] (fuel+m+3+1) listed a W':=fun Fp W' f lf b=>by
  refine mP Ok L5 Nc (cQ _) (G2 _) ?_ (C6 _ _ _ ⟨fun _=>Hu _ _ He (b.trans ((al W').mono b.size)),(e0 _).symm ▸ t0 Fp _ _ (st0 Fp _ _ f (al W')) (fun h2=>absurd (lf _ h2) (Nat.lt_irrefl _)) (Blk.new W' _ _) b.size (b.trans ((al W').mono b.size))⟩);obtain⟨p,hp⟩:=V4 a oi.dst;rw[e0]at hp;rw[<- hp]
  refine step1 Fp W' p f _ fun v1 Fp2 W2 f2 Cw b2=>⟨fun _=>Hu _ _ He (b.trans (b2.mono b.size)),?_⟩
  rw[hp];exact g1 v1 Fp2 W2 f2 (fun b3 h3=>(Cw b3 h3).elim (fun h4=>Nat.lt_of_lt_of_le (lf b3 h4) b2.size) fun h4=>h4.2) (b.trans (b2.mono b.size))
 exact g0 _ w h0 (fun _ h=>h.elim) (Below.refl _ _)
end
theorem qwa (K:Nat) (s:Sc) (y:Sv) (c:Nat) (w:World) (hs:ScX K w s y) (hK:K<=w.heap.size) (Jt:∀ v∈s.cuts,v.good=true) (Ay:s.okB=true) (e0:(s.kd==0)=false) (hp:s.poss c=true) (Xa:c%2=1) :
  Calls Tryz.prog 25 #[y.agg,.int .i64 c] w fun e w'=>∃ z:Vv,e=.returned (.tuple #[z.agg,.bool true])/\Zed (Btw w.heap.size w'.heap.size) w' (fun K W=>VlX K W (s.cuts[c/2]?.getD v0) z)/\Below w.heap.size w w':=by
 have rD:=oB Ay
 have Ox:c<2*s.cuts.length+1:=by
  unfold Sc.poss Hd at hp;rw[if_neg (by simpa using e0)]at hp;simp only[Bool.and_eq_true,decide_eq_true_eq]at hp;omega
 have Es:1<=s.cuts.length:=by omega
 obtain⟨W1,Ah⟩:=Ae ((w.alloc (.cells y.cells 46)).alloc (.cells vv0.cells 41))
 have b1:Below w.heap.size w W1:=by rw[<- Ah];exact(Af _ _).alloc (by simp) _
 have q1:Blk W1 w.heap.size y.cells 46:=by rw[<- Ah];exact(Blk.new w _ _).alloc _
 have q2:Blk W1 (w.heap.size+1) vv0.cells 41:=by
  rw[<- Ah];have := Blk.new (w.alloc (.cells y.cells 46)) vv0.cells 41;rwa[World.size_alloc]at this
 have s1:W1.heap.size=w.heap.size+2:=by rw[<- Ah];simp
 obtain⟨B,hB⟩:=Ae w.heap.size;have HB:=Aa hB;have HW:=Aa Ah;rw[hB]at hK b1 q1 q2 s1 ⊢;dsimp only[Vv.cells,vv0]at HW;have hv:=gA B s y W1 (hs.below b1 hK hK) (by omega) Jt (by omega);rw[Ay]at hv
 have Ye:∀ W,Below W1.heap.size W1 W->Calls Tryz.prog 23 #[.pointer (some ⟨B,0,none⟩),.int .i64 (c:Int)] W fun e w'=>e=.returned (.bool true)/\Below W.heap.size W w':=fun W hb=>by
  have h3:=hb.size;have h2:=(q1.below hb q1.lt);have := yG B B 0 y.c.val s c W ((hs.cuts.below b1 hK hK).below hb (by omega) (Ab _)) (by omega) (by omega) (by rw[Nat.zero_add,<- hs.kd];exact h2.at rfl) (by rw[Nat.zero_add];exact h2.at rfl) (by omega) (iY Ay);rw[hp]at this;exact this.mono (by rintro e w' ⟨rfl,h⟩;exact⟨rfl,h⟩)
 have Yc:=Aa Ye;have C8:=hs.cuts.below b1 hK hK;have Br:=hs.kd;obtain⟨g,Cx,Eh⟩:=C8;obtain⟨cb,co,ccap,Nh,_,Fl,Fx,Rp⟩:=Cx.pos (by omega);obtain⟨⟨yop,ynm,yk,yb3,⟨y4,y4n,y4m⟩,yb5,⟨y6,y6n,y6m⟩,yi7,⟨y8,y8n,y8m⟩⟩,sk,⟨ca,cn,cm⟩⟩:=y;simp only[Sl.val,Value.slice.injEq]at Nh;obtain⟨rfl,rfl,rfl⟩:=Nh;dsimp only at Br;subst Br;obtain⟨m,hm⟩:=Ae (c/2)
 have Dz:Int.tdiv (c:Int) 2=(m:Int):=by rw[Int.tdiv_eq_ediv_of_nonneg (by omega)];omega
 have Ht:∀ j,j<s.cuts.length->(s.cuts[j]?.getD v0).good=true/\True:=fun j hj=>by
  have h1:s.cuts[j]?.getD v0∈s.cuts:=by rw[Ac hj];exact List.getElem_mem hj
  exact⟨Jt _ h1,trivial⟩
 have qK:∀ j,j<s.cuts.length->∃ a1 n1 m1 a2 n2 m2,g j=⟨(g j).kd,(g j).b1,.slice a1 n1 m1,(g j).b2,.slice a2 n2 m2,(g j).i⟩:=fun j hj=>by
  have h6:=Eh j hj;obtain⟨a1,m1,h7,_⟩:=h6.n.form;obtain⟨a2,m2,h8,_⟩:=h6.d.form;exact⟨a1,_,m1,a2,_,m2,by rw[<- h7,<- h8]⟩
 have qru:=Aa Ht;have fI:=Aa qK;have Mz:=Aa Eh;have Kj:=Aa Rp;have Bc:=Aa q1;have Bw:=Aa q2;obtain⟨n,hn⟩:=Ae s.cuts.length;have HN:=Aa hn;obtain⟨kd,Br⟩:=Ae s.kd;have Px:=Aa Br;rw[hm];rw[hn]at hv rD Es Ox HW Kj qru fI Mz Bc ⊢;rw[Br]at hv e0 HW Bc ⊢;have HM:=Aa hm;obtain⟨d0,d1,d2,d3,d4,d5,d6,d7,d8,d9,d10⟩:=Bc.out.eleven;clear hB Ah hs Jt Ay hp Ye Cx Eh Rp q1 q2 Ht qK hn Br;go_enter Tryz.func25,Tryz.ntmps25
 go_upto_region 1 with fail
 simp only[HB.out];rw[HW.out];go_wp2_with fail
 refine hv.mono ?_;rintro e w2 ⟨rfl,Ai⟩;clear hv d0 d1 d2 d3 d4 d5 d6 d7 d8 d9 d10;go_wp2_with fail
 refine(Yc.out w2 Ai).mono ?_;rintro e w3 ⟨rfl,Ak⟩;have b3':Below W1.heap.size W1 w3:=Ai.trans (Ak.mono Ai.size);have b3:Below B w w3:=b1.trans (b3'.mono (by omega));have Ep:=b3'.size;clear Ai Ak;have Lv:=Bc.out.below b3' (by omega);have nM:=Bw.out.below b3' (by omega);have d9:=Lv.at (i:=9) (x:=.int .u8 kd) rfl;have d10:=Lv.at (i:=10) (x:=.slice (some ⟨cb,co,none⟩) n cm) rfl
 have pX:Hid (∀ j,j<n->w3.rangeAt cb (co+j*6) (g j).cells.toList):=Aa fun j hj=>qiz (Km b3' (by omega) Kj.out) hj
 have cb3:cb<w3.heap.size:=by omega
 ·have Jd:Int.tmod (c:Int) 2=1:=by rw[Int.tmod_eq_emod_of_nonneg (by omega)];omega
  have Ij:m<n:=by omega
  obtain⟨Gy,_⟩:=qru.out m Ij;have Ev:=qc8 w3.heap.size (s.cuts[m]?.getD v0) (g m) w3 ((Mz.out m Ij).below b3' (by omega) (by omega)) Gy (Ab _);obtain⟨a1,n1,m1,a2,n2,m2,Nn⟩:=fI.out m Ij;have Ce:=pX.out m Ij;obtain⟨gk,gb1,gb2,gi,qci⟩:∃ gk gb1 gb2 gi,g m=⟨gk,gb1,.slice a1 n1 m1,gb2,.slice a2 n2 m2,gi⟩:=⟨_,_,_,_,Nn⟩;rw[qci]at Ev Ce;have Qh:=Aa Ce;clear Nn qci Ce Gy hm;go_wp2_with (refine wpList_load_mid rfl 41 (.tmp 30) rfl cb (co+m*6) rfl (⟨gk,gb1,.slice a1 n1 m1,gb2,.slice a2 n2 m2,gi⟩:Vv).cells.toList _ Qh.out Tryz.underlying41 rfl Kn ?_)
  refine Ev.mono ?_;rintro e w4 ⟨z,rfl,hz,Al⟩;clear Ev
  have Cz:=hz.get fun b hb=>hb.2
  obtain⟨b1a,b1m,Ge,_⟩:=Cz.n.form;obtain⟨b2a,b2m,Cw,_⟩:=Cz.d.form;obtain⟨x1,Ck⟩:∃ x,(s.cuts[m]?.getD v0).l1.length=x:=⟨_,rfl⟩;obtain⟨x2,Gi⟩:∃ x,(s.cuts[m]?.getD v0).l2.length=x:=⟨_,rfl⟩;rw[Ck]at Ge;rw[Gi]at Cw;obtain⟨zk,zb1,zs1,zb2,zs2,zi⟩:=z;dsimp only at Ge Cw;subst Ge Cw;have Fi:=Al.size;have q4:=nM.below Al (by omega)
  have Bd:∀ u∈(⟨zk,zb1,.slice b1a x1 b1m,zb2,.slice b2a x2 b2m,zi⟩:Vv).cells,u.oneCell'=true:=by simp[Value.oneCell']
  have HZ:=Aa hz;have Io:=Aa q4;clear hz Cz Ck Gi Lv nM q4 d9 d10;go_wp2_with (refine Gu rfl 41 41 (.tmp 4) (.tmp 32) rfl (⟨zk,zb1,.slice b1a x1 b1m,zb2,.slice b2a x2 b2m,zi⟩:Vv).cells _ (B+1) Io.out Kn rfl Bd rfl rfl ?_;intro W2 t1 t2 t3 t4)
  refine bodyPost_ret (v:=.tuple #[(⟨zk,zb1,.slice b1a x1 b1m,zb2,.slice b2a x2 b2m,zi⟩:Vv).agg,.bool true]) ?_ rfl ?_
  ·obtain⟨e0,e1,e2,e3,e4,e5⟩:=t1.six
   simp[results,Tryz.results25,go_sem,e0,e1,e2,e3,e4,e5]
  exact⟨_,rfl,(HZ.out.move (G7 t3 (fun b hb=>hb.2) fun b hb h=>by cases hb;have := h.1;omega)).mono fun b hb=>⟨by have := hb.1;omega,Nat.lt_of_lt_of_le hb.2 t3.size⟩,b3.trans ((Al.mono (by omega)).trans (t2 B (by omega)))⟩
end Go.Proofs.YtlldjmagbjjeoaaGreatDoor
