/- Contracts and plain laws, several texts in one (NW16S, NW17, NW18). No conditions beyond those stated. -/
import Derived.Test.YtlldjmagbjjeoaaGreatDoorPk9
set_option maxRecDepth 100000
set_option maxHeartbeats 40000000
namespace Go.Proofs.YtlldjmagbjjeoaaGreatDoor
set_option linter.unusedVariables false
theorem wL {p q a b P A':Nat} (hP:0<P) (h:p*(b*P)=q*(a*P)+A'):p*b=q*a+(p*b-q*a)/\A'=(p*b-q*a)*P:=by
 rw[<- Nat.mul_assoc,<- Nat.mul_assoc]at h;have h1:q*a<=p*b:=Nat.le_of_mul_le_mul_right (c:=P) (by omega) hP;exact⟨by omega,by rw[Nat.sub_mul];omega⟩
structure LhG (a b:Nat) (c:Lh) (a' b':Nat):Prop where
 le:b'<a'
 lt:b'<b
 top:a'<=a
 gcd:Nat.gcd a' b'=Nat.gcd a b
 u0:c.u0<Ag
 u1:c.u1<Ag
 v0:c.v0<Ag
 v1:c.v1<Ag
theorem zev {a b s k:Nat} {c:Lh} (h:LhI (a*2^s/k) (b*2^s/k) c) (hk:0<k) (hv:c.v0≠0) (hX:a*2^s/k<18446744073709551616) :
  ∃ a' b':Nat,LhG a b c a' b'/\(if c.ev then c.u0*a=c.v0*b+a'/\c.v1*b=c.u1*a+b' else c.v0*b=c.u0*a+a'/\c.u1*a=c.v1*b+b'):=by
 obtain⟨A',B',he,h1,h2,h3,h4,h5,h6,h7,h8⟩:=h.fin hv (k:=k) (A:=a*2^s) (B:=b*2^s) (Nat.mod_lt (a*2^s) hk) (Nat.mod_lt (b*2^s) hk) (Nat.div_add_mod' _ _).symm (Nat.div_add_mod' _ _).symm;have hP:0<2^s:=Nat.pow_pos (by decide);obtain⟨P,zcu⟩:=Ae (2^s);rw[zcu]at hP he h2 h3 h8
 have Bu:c.v1<Ag:=by
  rcases Nat.lt_or_ge c.v1 Ag with h | h
  ·exact h
  ·have h9:=Nat.mul_le_mul h h
   have:Ag*Ag=18446744073709551616:=by decide
   omega
 have Gj:∀ a' b':Nat,A'=a'*P->B'=b'*P->LhG a b c a' b':=fun a' b' e1 e2=>by
  rw[e1,e2]at h1;rw[e2]at h2;rw[e1,e2,Nat.gcd_mul_right,Nat.gcd_mul_right]at h3;rw[e1]at h8;exact⟨Nat.lt_of_mul_lt_mul_right h1,Nat.lt_of_mul_lt_mul_right h2,Nat.le_of_mul_le_mul_right h8 hP,Nat.eq_of_mul_eq_mul_right hP h3,by omega,by omega,by omega,Bu⟩
 cases Kh:c.ev with
 | true =>
  rw[Kh,if_pos rfl]at he;obtain⟨e1,e2⟩:=wL hP he.1;obtain⟨e3,e4⟩:=wL hP he.2;exact⟨_,_,Gj _ _ e2 e4,by rw[if_pos rfl];exact⟨e1,e3⟩⟩
 | false =>
  rw[Kh,if_neg (by decide)]at he;obtain⟨e1,e2⟩:=wL hP he.1;obtain⟨e3,e4⟩:=wL hP he.2;exact⟨_,_,Gj _ _ e2 e4,by rw[if_neg (by decide)];exact⟨e1,e3⟩⟩
theorem qj3 {l:List Nat} {k:Nat} (hl:∀ d∈l,d<Ag) (ht:Hr l):l.length<=k ↔ bv Ag l<Ag^k :=
 ⟨fun h=>Nat.lt_of_lt_of_le (Nd l hl) (Nat.pow_le_pow_right (by decide) h),fun h=>Yg ht h⟩
open Go.RowKit
attribute [local go_sem] Oper.semAt_some
def KpC (B0:Nat) (A B:World):Prop:=A.heap.size<=B.heap.size/\∀ (p:Addr) (x:Value),p.block≠B0->A.cell? p=some x->B.cell? p=some x
theorem KpC.refl (B0:Nat) (A:World):KpC B0 A A:=⟨Ab _,fun _ _ _ h=>h⟩
theorem KpC.trans {B0:Nat} {A B C:World} (h:KpC B0 A B) (h':KpC B0 B C):KpC B0 A C:=⟨Nat.le_trans h.1 h'.1,fun p x hp hx=>h'.2 p x hp (h.2 p x hp hx)⟩
theorem KpC.put {B0:Nat} {W:World} {l:Nat} {o o':Obj} (h:W.heap[l]?=some o) (ho:o.isCells=false):KpC B0 W (W.putObj l o'):=by
 have hg:=grownBy_putObj' W l o';refine⟨hg.size,fun p x hp hx=>hg.cell hx ?_⟩;intro e
 have En:p.block=l:=by simpa using e
 cases o with
 | cells cs t f=>simp[Obj.isCells]at ho
 | _=>simp[World.cell?,En,h]at hx
theorem KpC.setCell {B0:Nat} (W:World) (i:Nat) (x:Value):KpC B0 W (W.setCell ⟨B0,i,none⟩ x):=by
 have hg:=Fm W B0 i x;exact⟨hg.size,fun p y hp hy=>hg.cell hy (by simpa using hp)⟩
theorem zg9 (K L B0:Nat) (v:Value) (l:List Nat) (hl:l.length<=2) (hL:L≠B0) (zm2:K<=B0) :
  qe3 (α:=Nat) Tryz.prog 171 (fun i=>#[]++#[.func (.yield i) #[] #[]]++#[.pointer (some ⟨L,0,none⟩)]) (fun x=>#[.int .u32 x]) (fun pre x W=>∃ s,l.reverse=pre++x::s) (fun A B=>A.grownBy B none) (KpC B0)
   (fun xs W=>xs=l.reverse) (fun _ _=>True) (fun W=>Blk W L #[v] 160/\Ws K W v l):=by
 rintro m i J Jx W ⟨hb,hv⟩ hJ zv1 hY h0;have c0:W.cell? ⟨L,0,none⟩=some v:=hb.at rfl;refine callsIn_of_wp Tryz.func171 rfl trivial ?_;simp only[Tryz.ntmps171,List.size_toArray,List.length_cons,List.length_nil,Nat.reduceAdd,Nat.reduceSub,Array.replicate_succ,Array.replicate_zero,List.push_toArray,List.append_toArray,List.nil_append,List.cons_append]
 match l,hl with
 | [],_ =>
  obtain⟨a,c,rfl,hc,Fl⟩:=hv.form;have c0':W.cell? ⟨L,0,none⟩=some (.slice a 0 c):=c0;clear c0 hv hY;gi_wp2_with fail
  refine wpIn_loop_rounds 1 ?_;rw[roundsIn_succ];gi_wp2_with fail
  go_end0
  exact⟨⟨_,rfl⟩,.inl ⟨[],rfl,h0⟩⟩
 | [x],_ =>
  obtain⟨b,o,c,rfl,hc,Fl,Cj,Bq⟩:=hv.at (by simp);have e0:W.cell? ⟨b,o,none⟩=some (.int .u32 (x:Int)):=Bq 0 x rfl;have c0':W.cell? ⟨L,0,none⟩=some (.slice (some ⟨b,o,none⟩) 1 c):=c0;have Em:1<=c:=hc;obtain⟨fn,tmps,assign,body,hy,hR⟩:=hY [] x W h0 ⟨[],rfl⟩;clear hY Bq c0 hv hc;gi_wp2_with fail
  refine wpIn_loop_rounds 2 ?_;rw[roundsIn_succ];gi_wp2_with fail
  refine⟨Yv,hR.mono ?_⟩;clear hR hy;rintro e' W3 (⟨rfl,F8,Iy⟩ | ⟨rfl,F8,Iy⟩)
  ·gi_wp2_with fail
   rw[roundsIn_succ];gi_wp2_with fail
   go_end0
   exact⟨⟨_,rfl⟩,.inl ⟨[x],rfl,F8⟩⟩
  ·gi_wp2_with fail
   refine bodyPost_ret (results_none rfl _ _ _) rfl ?_;exact⟨⟨_,rfl⟩,.inr ⟨_,trivial,F8⟩⟩
 | [x,y],_ =>
  obtain⟨b,o,c,rfl,hc,Fl,Cj,Bq⟩:=hv.at (by simp);have e0:W.cell? ⟨b,o,none⟩=some (.int .u32 (x:Int)):=Bq 0 x rfl;have e1:W.cell? ⟨b,o+1,none⟩=some (.int .u32 (y:Int)):=Bq 1 y rfl;have c0':W.cell? ⟨L,0,none⟩=some (.slice (some ⟨b,o,none⟩) 2 c):=c0;have Em:2<=c:=hc;obtain⟨fn,tmps,assign,body,hy,hR⟩:=hY [] y W h0 ⟨[x],rfl⟩;have HY:=Aa hY;clear hY Bq c0 hc;gi_wp2_with fail
  refine wpIn_loop_rounds 3 ?_;rw[roundsIn_succ];gi_wp2_with fail
  refine⟨Yv,hR.mono ?_⟩;clear hR hy;rintro e' W3 (⟨rfl,F8,Iy⟩ | ⟨rfl,F8,Iy⟩)
  ·have e3:W3.cell? ⟨b,o,none⟩=some (.int .u32 (x:Int)):=Iy.2 ⟨b,o,none⟩ _ (show b≠B0 by omega) e0
   have c3:W3.cell? ⟨L,0,none⟩=some (.slice (some ⟨b,o,none⟩) 2 c):=Iy.2 ⟨L,0,none⟩ _ hL c0';obtain⟨fn2,tmps2,assign2,body2,cI,I5⟩:=HY.out [y] x W3 F8 ⟨[],rfl⟩;clear HY e0 e1 c0' hb hv h0;gi_wp2_with fail
   rw[roundsIn_succ];gi_wp2_with fail
   refine⟨Yv,I5.mono ?_⟩;clear I5 cI;rintro e' W4 (⟨rfl,wF,qrx⟩ | ⟨rfl,wF,qrx⟩)
   ·gi_wp2_with fail
    rw[roundsIn_succ];gi_wp2_with fail
    go_end0
    exact⟨⟨_,rfl⟩,.inl ⟨[y,x],rfl,wF⟩⟩
   ·gi_wp2_with fail
    refine bodyPost_ret (results_none rfl _ _ _) rfl ?_;exact⟨⟨_,rfl⟩,.inr ⟨_,trivial,wF⟩⟩
  ·gi_wp2_with fail
   refine bodyPost_ret (results_none rfl _ _ _) rfl ?_;exact⟨⟨_,rfl⟩,.inr ⟨_,trivial,F8⟩⟩
def sD (B0:Nat) (w:World) (pre:List Nat) (W:World):Prop :=
 Blk W B0 #[.int .u64 (bv Ag pre.reverse:Nat)] 117/\Below B0 w W/\B0+1<=W.heap.size
theorem sD.kept {B0:Nat} {w W W':World} {pre:List Nat} {row:Option Nat} (h:sD B0 w pre W) (hg:W.grownBy W' row) (hr:∀ k,row=some k->B0+1<=k):sD B0 w pre W':=by
 obtain⟨h1,h2,h3⟩:=h;exact⟨h1.kept hg (fun e=>by have := hr _ e.symm;omega),h2.trans (Sq hg (fun k e=>by have := hr k e;omega) (by omega)),Nat.le_trans h3 hg.size⟩
theorem qcv (K:Nat) (v:Value) (l:List Nat) (w:World) (h:Ws K w v l) (hK:K<=w.heap.size) (hl:l.length<=2) :
  Calls Tryz.prog 148 #[v] w fun e w'=>e=.returned (.int .u64 (bv Ag l:Nat))/\Below w.heap.size w w':=by
 have Aj:=h.lt;obtain⟨va,vc,rfl,_⟩:=h.form;obtain⟨vn,Ss⟩:∃ n,l.length=n:=⟨_,rfl⟩;obtain⟨B0,Pi⟩:=Ae w.heap.size;rw[Ss]at h ⊢;clear Ss;obtain⟨W2,Ax⟩:=Ae ((w.alloc (.cells #[.int .u64 0] 117)).alloc (.cells #[.slice va vn vc] 160))
 have Ai:Below B0 w W2:=by rw[<- Ax,<- Pi];exact((Below.refl _ w).alloc (Ab _) _).alloc (by simp) _
 have q0:Blk W2 B0 #[.int .u64 0] 117:=by rw[<- Ax,<- Pi];exact(Blk.new w _ _).alloc _
 have q1:Blk W2 (B0+1) #[.slice va vn vc] 160:=by
  rw[<- Ax,<- Pi];have := Blk.new (w.alloc (.cells #[.int .u64 0] 117)) #[.slice va vn vc] 160;rwa[World.size_alloc]at this
 have s2:W2.heap.size=B0+2:=by rw[<- Ax,<- Pi];simp
 have HB:=Aa Pi;have HW:=Aa Ax;rw[Pi]at hK ⊢;clear Pi Ax;have Tr:=Aa Aj;clear Aj;refine callsIn_wide.1 (callsIn_of_wp_marks (n:=5) Tryz.func148 rfl trivial ?_);simp only[Tryz.ntmps148,List.size_toArray,List.length_cons,List.length_nil,Nat.reduceAdd,Nat.reduceSub,Array.replicate_succ,Array.replicate_zero,List.push_toArray,List.append_toArray,List.nil_append,List.cons_append];gi_wp2_with fail
 refine⟨trivial,callsIn_wide.2 ((zi4 _ _ rfl).mono ?_)⟩;rintro en w' ⟨rfl,rfl⟩;gi_wp2_with fail
 simp only[HB.out];rw[HW.out]
 refine qp9 (gf:=171) (fi:=#[]) (lb:=#[.pointer (some ⟨B0+1,0,none⟩)]) rfl (enters_of Tryz.func171 (by kernel_rfl) rfl) (zg9 K (B0+1) B0 (.slice va vn vc) l hl (by omega) hK) (fun _=>rfl)
  (fun pre W=>sD B0 w pre W) (fun _ _ _=>False)
  (fun pre x a1 W=>sD B0 w pre W/\(∃ s,l.reverse=pre++x::s) ∧
   a1={ tmps:=#[.slice va vn vc,undef,.int .u64 0,.pointer (some ⟨B0,0,none⟩),.int .u32 x,.slice va vn vc,.func (.func 171) #[] #[.pointer (some ⟨B0+1,0,none⟩)],.int .u32 x,undef,undef,undef,undef,undef,undef],defers:=[] })
  ?hSt ?hI ?hIx ?hA ?hS ?hSp ?hISt ?hIxSt ?hKt ?hKb ?h0 ?hPre ?hassign ?hbody ?hdone ?hstop
 case hSt=>exact fun A B _ hg=>KeepsFrom.of_grownBy hg (fun j e=>by cases e)
 case hI=>exact fun s W l o o' hi Bt hl ho=>hi.kept (grownBy_putObj' W l o') (fun k e=>by cases e;omega)
 case hIx=>exact fun c s W l o o' hi _ _ _=>hi
 case hA =>
  rintro s y a1 W l o o' ⟨hi,hx,ha⟩ Bt hl ho;exact⟨hi.kept (grownBy_putObj' W l o') (fun k e=>by cases e;omega),hx,ha⟩
 case hS=>exact fun s W l o o' h _ _ _=>h
 case hSp=>exact fun s W l o o' h _ _ _=>h
 case hISt=>exact fun s A B hi hg=>hi.kept hg (fun k e=>by cases e)
 case hIxSt=>exact fun c s A B hi _=>hi
 case hKt=>exact fun A B C h h'=>h.trans h'
 case hKb=>exact fun W l o o' _ h ho=>.put h ho
 case h0 =>
  intro o o'
  exact⟨(q0.alloc _).alloc _,(Ai.alloc (by omega) o).alloc (by simp;omega) o',by simp;omega⟩
 case hPre =>
  intro o o'
  exact⟨(q1.alloc _).alloc _,h.below ((Ai.alloc (by omega) o).alloc (by simp;omega) o') hK (Ab _)⟩
 case hstop=>exact fun D c pre W _ _ hi _=>hi.elim
 case hassign =>
  rintro i pre y W hi hx Aj;gi_wp2
  exact⟨KeepsFrom.refl _ _,KpC.refl _ _,hi,by exact hx,by first | trivial | rfl⟩
 case hbody =>
  rintro i pre y a1 W ⟨hi,hx,rfl⟩;obtain⟨g1,g2,g3⟩:=hi;obtain⟨V,hV⟩:=Ae (bv Ag pre.reverse);rw[hV]at g1;obtain⟨c0,c1⟩:=g1.one;obtain⟨s,hs⟩:=hx
  have Cc:pre.length+(s.length+1)<=2:=by
   have := congrArg List.length hs;rw[List.length_reverse,List.length_append,List.length_cons]at this;omega
  have Tn:∀ d∈pre++y::s,d<Ag:=fun d hd=>Tr.out d (by rw[<- hs]at hd;exact List.mem_reverse.1 hd)
  have Ps:y<Ag:=Tn y (by simp)
  have jbd:V<Ag:=by
   rw[<- hV];refine Nat.lt_of_lt_of_le (Nd pre.reverse fun d hd=>Tn d (by simp at hd;simp[hd])) ?_;refine Nat.le_trans (Nat.pow_le_pow_right (by decide) (show pre.reverse.length<=1 by rw[List.length_reverse];omega)) (by decide)
  obtain⟨S,hS⟩:=Ae (V*Ag);obtain⟨R,hR⟩:=Ae (V*Ag+y)
  have zja:(V:Int)*4294967296=(S:Int):=by unfold Ag at hS;omega
  have Kw:IntKind.u64.wrap (S:Int)=S:=Cg (by unfold Ag at *;omega);have Gs:IntKind.u64.wrap (y:Int)=y:=Cg (by unfold Ag at *;omega)
  have lN:bits BinOp.or IntKind.u64 (S:Int) (y:Int)=(R:Int):=by
   rw[u64_or_nat S y (by unfold Ag at *;omega) (by unfold Ag at *;omega)];have := Nat.two_pow_add_eq_or_of_lt (i:=32) (show y<2^32 from Ps) V
   have e:S=2^32*V:=by unfold Ag at hS;omega
   rw[e,<- this];unfold Ag at *;omega
  have Gj:bv Ag (pre++[y]).reverse=R:=by
   rw[List.reverse_append,List.reverse_singleton,List.singleton_append,bv,hV,<- hR,Nat.mul_comm];omega
  have HF:=Aa Gj;clear hS hR hV hs Tn Gj;gi_wp2_with fail
  refine⟨KeepsFrom.of_grownBy (Fm W B0 0 _) (fun j e=>by simp at e;omega),KpC.setCell _ _ _,?_,g2.setCell (p:=⟨B0,0,none⟩) (Ab _) _,by have := (Fm W B0 0 (.int .u64 R)).size;omega⟩;rw[HF.out];exact g1.set (i:=0) (.int .u64 R)
 case hdone =>
  rintro D xs W hD rfl hi hdef;obtain⟨g1,g2,g3⟩:=hi;rw[List.reverse_reverse]at g1;have c0:=(g1.one).1;gi_wp2_with fail
  refine⟨by simp,.inl ⟨_,_,rfl,run_takeDeferred hdef,?_⟩⟩;exact⟨_,results_tmp rfl _ _ _,rfl,g2.trans (Sq (grownBy_putObj' W D (.deferred none)) (fun r e=>by cases e;omega) (by omega))⟩
theorem qsz (n:Nat) (w:World) (hn:n<18446744073709551616) :
  Calls Tryz.prog 149 #[.int .u64 n] w fun e w'=>∃ v',e=.returned v'/\Bn w'.heap.size w' v' n/\Below w.heap.size w w'/\Bj w.heap.size v':=by
 obtain⟨lo,Kx⟩:∃ z,n%Ag=z:=⟨_,rfl⟩;obtain⟨hi,Ny⟩:∃ z,n/Ag=z:=⟨_,rfl⟩
 have h1:IntKind.u32.wrap (n:Int)=(lo:Int):=by unfold Ag at Kx;simp[IntKind.wrap,IntKind.bits,IntKind.signed];omega
 have h2:(n:Int)/4294967296=(hi:Int):=by unfold Ag at Ny;omega
 have h3:IntKind.u32.wrap (hi:Int)=(hi:Int):=Ze (by unfold Ag at Ny;omega);obtain⟨B,hB⟩:=Ae w.heap.size;obtain⟨W1,Ah⟩:∃ W,w.alloc (.cells #[.int .u32 lo,.int .u32 hi] 172)=W:=⟨_,rfl⟩
 have b1:Below B w W1:=by rw[<- Ah,<- hB];exact Af _ _
 have q1:Blk W1 B (Fa [lo,hi]) 172:=by rw[<- Ah,<- hB];exact Blk.new w _ _
 have s1:W1.heap.size=B+1:=by rw[<- Ah,<- hB];simp
 have Ki:Ws W1.heap.size W1 (.slice (some ⟨B,0,none⟩) 2 2) [lo,hi]:=qea q1 (by omega) (by simp[maxLen]) (fun d hd=>by
  simp only[List.mem_cons,List.not_mem_nil,or_false]at hd;unfold Ag at *
  rcases hd with rfl | rfl<;>omega)
 have aD:bv Ag [lo,hi]=n:=by unfold Ag at *;simp[bv];omega
 have ht:=Yr _ _ _ _ Ki;rw[aD]at ht;have HT:=Aa ht;have HB:=Aa hB;have Dk:=Aa Ah;rw[hB];clear Kx Ny q1 Ki aD ht hB Ah;go_enter Tryz.func149,Tryz.ntmps149
 go_wp2_with fail
 simp only[HB.out];rw[Dk.out];refine HT.out.mono ?_;rintro e w' ⟨a,k,c,j,he,rfl,Fw,rfl⟩;simp only[Value.slice.injEq]at he;obtain⟨rfl,rfl,rfl⟩:=he;go_wp2_with fail
 go_ret
 exact⟨_,rfl,Fw,b1,Bj.at (Ab _)⟩
structure qI (x:Nat):Prop where
 out:x<Ag^268435456
structure qzb (x:Nat):Prop where
 out:x<Ag^536870912
theorem xT {x y G:Nat} (h:Nat.gcd x y=G):Nat.gcd y (x%y)=G:=by rw[<- h,Nat.gcd_comm x y,Nat.gcd_rec y x,Nat.gcd_comm]
theorem zmn (K:Nat) (u v:Value) (m n:Nat) (w:World) (hu:Bn K w u m) (hv:Bn K w v n) (hK:K<=w.heap.size) (hm:m<Ag^268435456) (hn:n<Ag^268435456) :
  Calls Tryz.prog 137 #[u,v] w fun e w'=>∃ v',e=.returned v'/\Bn w'.heap.size w' v' (Nat.gcd m n)/\Below w.heap.size w w':=by
 have Kl:=uG K u v m n w hu hv;obtain⟨T,hT⟩:=Ae w.heap.size;rw[hT]at hK ⊢;obtain⟨G,hG⟩:=Ae (Nat.gcd m n);rw[hG]
 have qll:∃ a p c,u=.slice a p c:=by
  obtain⟨l,h,_⟩:=hu;obtain⟨a,c,rfl,_⟩:=h.form;exact⟨a,_,c,rfl⟩
 have B9:∃ a p c,v=.slice a p c:=by
  obtain⟨l,h,_⟩:=hv;obtain⟨a,c,rfl,_⟩:=h.form;exact⟨a,_,c,rfl⟩
 obtain⟨ua0,up0,uc0,rfl⟩:=qll;obtain⟨va0,vp0,vc0,rfl⟩:=B9;obtain⟨cv,Ev⟩:∃ cv:Int,My m n=cv:=⟨_,rfl⟩
 have Tr:Hid (cv<0->m<=n):=Aa fun h=>by
  rw[<- Ev]at h;unfold My at h
  split at h
  ·omega
  ·split at h<;>omega
 have P8:Hid (0<=cv->n<=m):=Aa fun h=>by
  rw[<- Ev]at h;unfold My at h
  split at h
  ·exact absurd h (by decide)
  ·omega
 rw[Ev]at Kl;clear Ev;have Q1:=Aa hG;have qN:qI m:=⟨hm⟩;have qm9:qI n:=⟨hn⟩
 have yP:∀ kk,Hid (Bn (w.drewN kk).heap.size (w.drewN kk) (.slice ua0 up0 uc0) m):=fun kk=>Aa (hu.below (Gn (Below.refl w.heap.size _) kk) (by omega) (by show K<=w.heap.size;omega))
 have Ys:∀ kk,Hid (Bn (w.drewN kk).heap.size (w.drewN kk) (.slice va0 vp0 vc0) n):=fun kk=>Aa (hv.below (Gn (Below.refl w.heap.size _) kk) (by omega) (by show K<=w.heap.size;omega))
 have Pa:∀ kk,Hid (Below T w (w.drewN kk))/\T<=(w.drewN kk).heap.size:=fun kk=>⟨Aa (by rw[<- hT];exact Gn (Below.refl w.heap.size _) kk),by show T<=w.heap.size;omega⟩
 have qus:=Aa yP;have qt7:=Aa Ys;have qwm:=Aa Pa;have HT:=Aa hT;clear yP Ys Pa hu hv hm hn hG hT;go_enter Tryz.func137,Tryz.ntmps137
 go_upto_region 1 with fail
 go_upto_if 15 with fail
 refine Kl.mono ?_;rintro e w1 ⟨rfl,kk,rfl⟩;clear Kl;have qfi:=qus.out kk;have Bi:=qt7.out kk;obtain⟨Vi,Oq⟩:=qwm.out kk;clear qus qt7 qwm
 go_upto_if 15 with fail
 go_cut [0,1]from 16 to 17 (fun s0 s1 wx=>∃ x y:Nat,Hid (Bn wx.heap.size wx s0 x)/\Hid (Bn wx.heap.size wx s1 y)/\y<=x/\Hid (Nat.gcd x y=G)/\qI x/\Hid (Below T w wx)/\T<=wx.heap.size)
 case first =>
  by_cases Iq:cv<0
  ·have Bt:=Tr.out Iq
   go_wp2_with fail
   go_meet
   exact⟨n,m,Bi,qfi,Bt,Aa (by rw[Nat.gcd_comm];exact Q1.out),qm9,Vi,Oq⟩
  ·have Bt:=P8.out (by omega)
   go_wp2_with fail
   go_meet
   exact⟨m,n,qfi,Bi,Bt,Q1,qN,Vi,Oq⟩
 case rest =>
 clear qfi Bi Vi Oq qN qm9 Q1 Tr P8;obtain⟨x0,y0,J8,Zg,qtz,Q1,qN,qqk,xF⟩:=hcut;go_wp2_with fail
 go_loopg [0,1] y0 (fun gn av bv' wr=>∃ x,Hid (Bn wr.heap.size wr av x)/\Hid (Bn wr.heap.size wr bv' gn)/\gn<=x/\Hid (Nat.gcd x gn=G)/\qI x/\Hid (Below T w wr)/\T<=wr.heap.size)
 case atStart=>exact⟨x0,J8,Zg,qtz,Q1,qN,qqk,xF⟩
 case round =>
  clear J8 Zg qtz Q1 qN qqk xF;obtain⟨x,HA,HB,Bt,HG,HX,Cm,Dn⟩:=hrel;obtain⟨gn,rfl⟩:∃ gn,gn=gk:=⟨_,rfl⟩;obtain⟨wo,rfl⟩:∃ wo:World,wo=wr:=⟨_,rfl⟩;obtain⟨la,Bh,tla,Mg⟩:=HA.out;obtain⟨lb,Dh,tlb,Lo⟩:=HB.out;obtain⟨ua,uc,rfl,Ew,Ha⟩:=Bh.form;obtain⟨va,vc,rfl,Bu,Bs⟩:=Dh.form;unfold maxLen at Ha Bs;have Mx:lb.length<=la.length:=qdu Bh.lt tlb (by rw[Mg,Lo];exact Bt);have zun:la.length<=268435456:=Yg tla (by rw[Mg];exact HX.out)
  by_cases Dz:2<lb.length
  ·have h3:3<=la.length:=by omega
   have eU:0<gn:=by
    rcases Nat.eq_zero_or_pos gn with h | h
    ·have := (vM (b:=Ag) (by decide) tlb).1 (by rw[Lo];exact h)
     rw[this]at Dz;simp at Dz
    ·exact h
   have qbg:=zj2 wo.heap.size _ _ la lb wo Bh Dh tla (Ab _) h3 (by omega) Mx (by rw[Mg,Lo];exact Bt);obtain⟨p,hp⟩:=Ae la.length;obtain⟨q,hq⟩:=Ae lb.length
   have Ui:Hid (∀ (s:Nat) (c:Lh),s<32->Sr la la.length s<18446744073709551616->LhI (Sr la la.length s) (Sr lb la.length s) c->c.v0≠0->∃ a' b':Nat,LhG x gn c a' b'/\(if c.ev then c.u0*x=c.v0*gn+a'/\c.v1*gn=c.u1*x+b' else c.v0*gn=c.u0*x+a'/\c.u1*x=c.v1*gn+b')):=Aa fun s c hs hX hI h0=>by
    rw[wA Bh.lt (Ab _) h3 hs,wA Dh.lt Mx h3 hs,Mg,Lo]at hI;rw[wA Bh.lt (Ab _) h3 hs,Mg]at hX;exact zev hI (Nat.pow_pos (by decide)) h0 hX
   rw[hp]at qbg HA Ew zun h3;rw[hq]at qbg HB Bu Dz;rw[hp]at Ui;have qvu:=Aa qbg;clear qbg Bh Dh Mg Lo tla tlb Mx;rw[hp,hq];clear hp hq;go_wp2_with fail
   refine qvu.out.mono ?_;rintro e w2 ⟨s,c,Sz,hX,hI,rfl,Ai⟩;have Az:=Ai.size;have h0:=Ui.out s c Sz hX hI;clear hX hI qvu Ui;obtain⟨x1,x2,u0,u1,u2,v0,v1,v2,ev⟩:=c;dsimp only at h0;simp only[Lh.val];have H0:=Aa h0;clear h0;have Bz:=Aa Ai;clear Ai;have qef:Hid (Bn w2.heap.size w2 (.slice ua p uc) x):=Aa (HA.out.below Bz.out (Ab _) Az);have qee:Hid (Bn w2.heap.size w2 (.slice va q vc) gn):=Aa (HB.out.below Bz.out (Ab _) Az);clear HA HB;obtain⟨W3,Cn⟩:∃ W,w2.alloc (.cells #[.int .u64 u0,.int .u64 u1,.int .u64 v0,.int .u64 v1,.bool ev] 189)=W:=⟨_,rfl⟩;obtain⟨T2,Jh⟩:∃ z,w2.heap.size=z:=⟨_,rfl⟩
   have b3:Below T2 w2 W3:=by rw[<- Cn,<- Jh];exact Af _ _
   have q3:Blk W3 T2 #[.int .u64 u0,.int .u64 u1,.int .u64 v0,.int .u64 v1,.bool ev] 189:=by rw[<- Cn,<- Jh];exact Blk.new w2 _ _
   have s3:W3.heap.size=T2+1:=by rw[<- Cn,<- Jh];simp
   have e0:W3.cell? ⟨T2,0,none⟩=some (.int .u64 u0):=q3.at rfl;have e1:W3.cell? ⟨T2,1,none⟩=some (.int .u64 u1):=q3.at rfl;have e2:W3.cell? ⟨T2,2,none⟩=some (.int .u64 v0):=q3.at rfl;have e3:W3.cell? ⟨T2,3,none⟩=some (.int .u64 v1):=q3.at rfl;have e4:W3.cell? ⟨T2,4,none⟩=some (.bool ev):=q3.at rfl;rw[Jh]at Az qef qee;have uO:Hid (Bn W3.heap.size W3 (.slice ua p uc) x):=Aa (qef.out.below b3 (Ab _) (by omega));have Do:Hid (Bn W3.heap.size W3 (.slice va q vc) gn):=Aa (qee.out.below b3 (Ab _) (by omega));have qj0:Hid (Below T w W3):=Aa ((Cm.out.trans (Bz.out.mono Dn)).trans (b3.mono (by omega)))
   have jV:T<=W3.heap.size:=by omega
   have sC:=Aa Cn;have Rb:=Aa Jh;have Hz:=Aa q3;have S3:=Aa s3;clear Cn Jh q3 b3 qef qee Bz Cm s3
   go_upto_region 5 with fail
   rw[sC.out];simp only[Rb.out]
   by_cases K2:v0=0
   ·have hz:((v0:Int)==0)=true:=by simp;omega
    have U9:=qjb W3.heap.size _ _ x gn W3 uO.out Do.out (Ab _) eU HX.out;have tY:=Aa U9;clear U9 H0;go_wp2_with fail
    refine tY.out.mono ?_;rintro e w4 ⟨qv,rv,rfl,Hq,Qm,Al,_⟩;have Fi:=Al.size;obtain⟨lq,Y9,_⟩:=Hq;obtain⟨qa,qc,rfl,_⟩:=Y9.form;have HR:=Aa Qm;obtain⟨lr,Mk,_⟩:=Qm;obtain⟨ra,rc,rfl,_⟩:=Mk.form;have Ei:=Aa Al;have Js:Hid (Bn w4.heap.size w4 (.slice va q vc) gn):=Aa (Do.out.below Al (Ab _) Fi);have qcb:Hid (Below T w w4):=Aa (qj0.out.trans (Al.mono jV));clear Y9 Mk Al tY;go_wp2_with fail
    try go_frame
    go_roundg (x%gn)
    case measure=>exact Nat.mod_lt _ eU
    case rel=>exact⟨gn,Js,HR,Nat.le_of_lt (Nat.mod_lt _ eU),Aa (xT HG.out),⟨Nat.lt_of_le_of_lt Bt HX.out⟩,qcb,by omega⟩
   ·have hz:((v0:Int)==0)=false:=by simp;omega
    obtain⟨a',b',zdf,qan⟩:=H0.out K2;obtain⟨g1,g2,g3,g4,g5,g6,g7,g8⟩:=zdf;dsimp only at g5 g6 g7 g8;have qck:Hid (Nat.gcd a' b'=G):=Aa (g4.trans HG.out);have qdc:qI a':=⟨Nat.lt_of_le_of_lt g3 HX.out⟩;have qes:x<Ag^536870912:=Nat.lt_trans HX.out (Nat.pow_lt_pow_right (a:=Ag) (m:=268435456) (n:=536870912) (by decide) (by decide));have qpr:gn<Ag^536870912:=Nat.lt_of_le_of_lt Bt qes;have zO:qzb x:=⟨qes⟩;have xG:qzb gn:=⟨qpr⟩;have kV:=Hz;clear qes qpr g3 g4 H0
    cases ev with
    | true =>
     obtain⟨k1,k2⟩:u0*x=v0*gn+a'/\v1*gn=u1*x+b':=by simpa using qan
     have Gr:u0*x-v0*gn=a':=by omega
     have Lj:v1*gn-u1*x=b':=by omega
     have Sg:v0*gn<=u0*x:=by omega
     have Jk:u1*x<=v1*gn:=by omega
     have Og:Hid (∀ W',Below W3.heap.size W3 W'->Calls Tryz.prog 147 #[.int .u64 u0,.slice ua p uc,.int .u64 v0,.slice va q vc] W' fun e w'=>∃ v',e=.returned v'/\Bn w'.heap.size w' v' a'/\Below W'.heap.size W' w'/\Bj W'.heap.size v'):=Aa fun W' hb=>by
      have h:=wU W'.heap.size _ _ x gn u0 v0 W' (uO.out.below hb (Ab _) hb.size) (Do.out.below hb (Ab _) hb.size) (Ab _) g5 g7 Sg zO.out xG.out;rw[Gr]at h;exact h
     have Gh:Hid (∀ W',Below W3.heap.size W3 W'->Calls Tryz.prog 147 #[.int .u64 v1,.slice va q vc,.int .u64 u1,.slice ua p uc] W' fun e w'=>∃ v',e=.returned v'/\Bn w'.heap.size w' v' b'/\Below W'.heap.size W' w'/\Bj W'.heap.size v'):=Aa fun W' hb=>by
      have h:=wU W'.heap.size _ _ gn x v1 u1 W' (Do.out.below hb (Ab _) hb.size) (uO.out.below hb (Ab _) hb.size) (Ab _) g8 g6 Jk xG.out zO.out;rw[Lj]at h;exact h
     clear Gr Lj Sg Jk k1 k2 qan
     go_upto_region 9 with fail
     clear e0 e1 e2 e3 e4;have qS:(fun W'=>Below W3.heap.size W3 W') W3.drew:=Er (Below.refl _ _)
     have U4:T2<W3.heap.size:=by have := S3.out;omega
     refine Fz (fun W'=>Below W3.heap.size W3 W') [] (by kernel_rfl) ?_;refine Aw (i:=0) (v:=.pointer (some ⟨T2,0,none⟩)) (some 37) rfl rfl qS ?_;refine Dx (i:=1) (v:=.int .u64 u0) (some 38) rfl rfl (.inl ⟨by kernel_rfl,fun W' hS=>by have d0:=(Hz.out.below hS U4).at (i:=0) rfl;go_simp⟩) qS ?_;refine Aw (i:=2) (v:=.slice ua p uc) (some 39) rfl rfl qS ?_;refine Aw (i:=3) (v:=.pointer (some ⟨T2,2,none⟩)) (some 40) rfl rfl qS ?_;refine Dx (i:=4) (v:=.int .u64 v0) (some 41) rfl rfl (.inl ⟨by kernel_rfl,fun W' hS=>by have d0:=(Hz.out.below hS U4).at (i:=2) rfl;go_simp⟩) qS ?_;refine Aw (i:=5) (v:=.slice va q vc) (some 42) rfl rfl qS ?_;refine Aw (i:=7) (v:=.pointer (some ⟨T2,3,none⟩)) (some 44) rfl rfl qS ?_;refine Dx (i:=8) (v:=.int .u64 v1) (some 45) rfl rfl (.inl ⟨by kernel_rfl,fun W' hS=>by have d0:=(Hz.out.below hS U4).at (i:=3) rfl;go_simp⟩) qS ?_;refine Aw (i:=9) (v:=.slice va q vc) (some 46) rfl rfl qS ?_;refine Aw (i:=10) (v:=.pointer (some ⟨T2,1,none⟩)) (some 47) rfl rfl qS ?_;refine Dx (i:=11) (v:=.int .u64 u1) (some 48) rfl rfl (.inl ⟨by kernel_rfl,fun W' hS=>by have d0:=(Hz.out.below hS U4).at (i:=1) rfl;go_simp⟩) qS ?_;refine Aw (i:=12) (v:=.slice ua p uc) (some 49) rfl rfl qS ?_;refine Ap (i:=6) rfl ?_;go_simp
     refine(Og.out _ qS).mono ?_;rintro e w5 ⟨r1,rfl,Jd,Aq,_⟩;have qS5:Below W3.heap.size W3 w5:=qS.trans (Aq.mono qS.size);obtain⟨l1,Jy,iL⟩:=Jd;obtain⟨a1,n1,rfl,Es⟩:=Jy.form;have Nz:Hid (Bn w5.heap.size w5 (.slice a1 l1.length n1) a'):=Aa ⟨l1,Jy,iL⟩;obtain⟨m1,Wg⟩:∃ z,l1.length=z:=⟨_,rfl⟩;rw[Wg]at Nz ⊢;clear Jy iL Es Wg Og;go_simp
     refine Ap (i:=13) rfl ?_;go_simp
     refine(Gh.out _ qS5).mono ?_;rintro e w6 ⟨r2,rfl,Dw,Bk,_⟩;have qS6:Below W3.heap.size W3 w6:=qS5.trans (Bk.mono qS5.size);obtain⟨l2,Qj,iR⟩:=Dw;obtain⟨a2,n2,rfl,Dp⟩:=Qj.form;have Kr:Hid (Bn w6.heap.size w6 (.slice a2 l2.length n2) b'):=Aa ⟨l2,Qj,iR⟩;have sN:Hid (Bn w6.heap.size w6 (.slice a1 m1 n1) a'):=Aa (Nz.out.below Bk (Ab _) Bk.size);obtain⟨m2,Nw⟩:∃ z,l2.length=z:=⟨_,rfl⟩;rw[Nw]at Kr ⊢;clear Qj iR Dp Nw Gh Nz;go_simp
     refine Ap (i:=14) rfl ?_;go_simp
     refine Ap (i:=15) rfl ?_;go_simp
     refine Eo (by kernel_rfl) ?_ _;go_simp
     have pC:Hid (Below T w w6):=Aa (qj0.out.trans (qS6.mono jV));have Nt:=qS6.size
     try go_wp2_with fail
     try go_frame
     go_roundg b'
     case measure=>exact g2
     case rel=>exact⟨a',sN,Kr,Nat.le_of_lt g1,qck,qdc,pC,by omega⟩
    | false =>
     obtain⟨k1,k2⟩:v0*gn=u0*x+a'/\u1*x=v1*gn+b':=by simpa using qan
     have Gr:v0*gn-u0*x=a':=by omega
     have Lj:u1*x-v1*gn=b':=by omega
     have Sg:u0*x<=v0*gn:=by omega
     have Jk:v1*gn<=u1*x:=by omega
     have Og:Hid (∀ W',Below W3.heap.size W3 W'->Calls Tryz.prog 147 #[.int .u64 v0,.slice va q vc,.int .u64 u0,.slice ua p uc] W' fun e w'=>∃ v',e=.returned v'/\Bn w'.heap.size w' v' a'/\Below W'.heap.size W' w'/\Bj W'.heap.size v'):=Aa fun W' hb=>by
      have h:=wU W'.heap.size _ _ gn x v0 u0 W' (Do.out.below hb (Ab _) hb.size) (uO.out.below hb (Ab _) hb.size) (Ab _) g7 g5 Sg xG.out zO.out;rw[Gr]at h;exact h
     have Gh:Hid (∀ W',Below W3.heap.size W3 W'->Calls Tryz.prog 147 #[.int .u64 u1,.slice ua p uc,.int .u64 v1,.slice va q vc] W' fun e w'=>∃ v',e=.returned v'/\Bn w'.heap.size w' v' b'/\Below W'.heap.size W' w'/\Bj W'.heap.size v'):=Aa fun W' hb=>by
      have h:=wU W'.heap.size _ _ x gn u1 v1 W' (uO.out.below hb (Ab _) hb.size) (Do.out.below hb (Ab _) hb.size) (Ab _) g6 g8 Jk zO.out xG.out;rw[Lj]at h;exact h
     clear Gr Lj Sg Jk k1 k2 qan
     go_upto_region 10 with fail
     clear e0 e1 e2 e3 e4;have qS:(fun W'=>Below W3.heap.size W3 W') W3.drew:=Er (Below.refl _ _)
     have U4:T2<W3.heap.size:=by have := S3.out;omega
     refine Fz (fun W'=>Below W3.heap.size W3 W') [] (by kernel_rfl) ?_;refine Aw (i:=0) (v:=.pointer (some ⟨T2,2,none⟩)) (some 51) rfl rfl qS ?_;refine Dx (i:=1) (v:=.int .u64 v0) (some 52) rfl rfl (.inl ⟨by kernel_rfl,fun W' hS=>by have d0:=(Hz.out.below hS U4).at (i:=2) rfl;go_simp⟩) qS ?_;refine Aw (i:=2) (v:=.slice va q vc) (some 53) rfl rfl qS ?_;refine Aw (i:=3) (v:=.pointer (some ⟨T2,0,none⟩)) (some 54) rfl rfl qS ?_;refine Dx (i:=4) (v:=.int .u64 u0) (some 55) rfl rfl (.inl ⟨by kernel_rfl,fun W' hS=>by have d0:=(Hz.out.below hS U4).at (i:=0) rfl;go_simp⟩) qS ?_;refine Aw (i:=5) (v:=.slice ua p uc) (some 56) rfl rfl qS ?_;refine Aw (i:=7) (v:=.pointer (some ⟨T2,1,none⟩)) (some 58) rfl rfl qS ?_;refine Dx (i:=8) (v:=.int .u64 u1) (some 59) rfl rfl (.inl ⟨by kernel_rfl,fun W' hS=>by have d0:=(Hz.out.below hS U4).at (i:=1) rfl;go_simp⟩) qS ?_;refine Aw (i:=9) (v:=.slice ua p uc) (some 60) rfl rfl qS ?_;refine Aw (i:=10) (v:=.pointer (some ⟨T2,3,none⟩)) (some 61) rfl rfl qS ?_;refine Dx (i:=11) (v:=.int .u64 v1) (some 62) rfl rfl (.inl ⟨by kernel_rfl,fun W' hS=>by have d0:=(Hz.out.below hS U4).at (i:=3) rfl;go_simp⟩) qS ?_;refine Aw (i:=12) (v:=.slice va q vc) (some 63) rfl rfl qS ?_;refine Ap (i:=6) rfl ?_;go_simp
     refine(Og.out _ qS).mono ?_;rintro e w5 ⟨r1,rfl,Jd,Aq,_⟩;have qS5:Below W3.heap.size W3 w5:=qS.trans (Aq.mono qS.size);obtain⟨l1,Jy,iL⟩:=Jd;obtain⟨a1,n1,rfl,Es⟩:=Jy.form;have Nz:Hid (Bn w5.heap.size w5 (.slice a1 l1.length n1) a'):=Aa ⟨l1,Jy,iL⟩;obtain⟨m1,Wg⟩:∃ z,l1.length=z:=⟨_,rfl⟩;rw[Wg]at Nz ⊢;clear Jy iL Es Wg Og;go_simp
     refine Ap (i:=13) rfl ?_;go_simp
     refine(Gh.out _ qS5).mono ?_;rintro e w6 ⟨r2,rfl,Dw,Bk,_⟩;have qS6:Below W3.heap.size W3 w6:=qS5.trans (Bk.mono qS5.size);obtain⟨l2,Qj,iR⟩:=Dw;obtain⟨a2,n2,rfl,Dp⟩:=Qj.form;have Kr:Hid (Bn w6.heap.size w6 (.slice a2 l2.length n2) b'):=Aa ⟨l2,Qj,iR⟩;have sN:Hid (Bn w6.heap.size w6 (.slice a1 m1 n1) a'):=Aa (Nz.out.below Bk (Ab _) Bk.size);obtain⟨m2,Nw⟩:∃ z,l2.length=z:=⟨_,rfl⟩;rw[Nw]at Kr ⊢;clear Qj iR Dp Nw Gh Nz;go_simp
     refine Ap (i:=14) rfl ?_;go_simp
     refine Ap (i:=15) rfl ?_;go_simp
     refine Eo (by kernel_rfl) ?_ _;go_simp
     have pC:Hid (Below T w w6):=Aa (qj0.out.trans (qS6.mono jV));have Nt:=qS6.size
     try go_wp2_with fail
     try go_frame
     go_roundg b'
     case measure=>exact g2
     case rel=>exact⟨a',sN,Kr,Nat.le_of_lt g1,qck,qdc,pC,by omega⟩
  ·obtain⟨q,hq⟩:=Ae lb.length
   have oV:Ws wo.heap.size wo (.slice va q vc) lb:=by rw[<- hq];exact Dh
   have mW:gn<Ag^2:=by rw[<- Lo];exact(qj3 Dh.lt tlb).1 (by omega)
   have Nr:lb.length<=2:=by omega
   rw[hq]at Dz
   by_cases H8:q=0
   ·subst H8
    have Oj:gn=0:=by rw[<- Lo,List.eq_nil_of_length_eq_zero hq];rfl
    have qse:x=G:=by rw[<- HG.out,Oj,Nat.gcd_zero_right]
    have qvx:Hid (Bn wo.heap.size wo (.slice ua la.length uc) G):=Aa (by rw[<- qse];exact HA.out);obtain⟨p,hp⟩:=Ae la.length;rw[hp]at qvx ⊢;rw[hq];clear Oj qse oV Bh Dh tla tlb Mg Lo hp hq Mx HG HX HA HB mW Nr;go_wp2_with fail
    go_ret
    exact⟨_,rfl,qvx.out,Cm.out⟩
   ·have eU:0<gn:=by
     rcases Nat.eq_zero_or_pos gn with h | h
     ·have := (vM (b:=Ag) (by decide) tlb).1 (by rw[Lo];exact h)
      rw[this]at hq;simp at hq;omega
     ·exact h
    have jb9:((q:Int)==0)=false:=by simp;omega
    by_cases Qg:2<la.length
    ·have U9:=qjb wo.heap.size _ _ x gn wo HA.out HB.out (Ab _) eU HX.out
     rw[hq]at U9;obtain⟨p,hp⟩:=Ae la.length;rw[hp]at U9 Qg;have tY:=Aa U9;rw[hp,hq];clear U9 Bh hp Mg tla Mx HA HB;go_wp2_with fail
     refine tY.out.mono ?_;rintro e wx ⟨qv,rv,rfl,Hq,Qm,Al,_⟩
     have O3:T<=wx.heap.size:=by have := Al.size;omega
     obtain⟨lq,Y9,_⟩:=Hq;obtain⟨qa,qc,rfl,_⟩:=Y9.form;obtain⟨lr,Mk,tlr,qhl⟩:=Qm;obtain⟨ra,rc,rfl,_⟩:=Mk.form;have Dw:x%gn<Ag^2:=Nat.lt_trans (Nat.mod_lt _ eU) mW;have za5:lr.length<=2:=(qj3 Mk.lt tlr).2 (by rw[qhl];exact Dw)
     have dY:Hid (∀ W',Below wx.heap.size wx W'->Calls Tryz.prog 148 #[.slice va q vc] W' fun e w'=>e=.returned (.int .u64 (gn:Nat))/\Below W'.heap.size W' w'):=Aa fun W' hb=>by
      have h:=qcv W'.heap.size _ lb W' ((oV.below Al (Ab _) Al.size).below hb (Ab _) hb.size) (Ab _) Nr;rw[Lo]at h;exact h
     obtain⟨rn,hrn⟩:∃ z,lr.length=z:=⟨_,rfl⟩
     have M5:Hid (∀ W',Below wx.heap.size wx W'->Calls Tryz.prog 148 #[.slice ra rn rc] W' fun e w'=>e=.returned (.int .u64 ((x%gn:Nat):Int))/\Below W'.heap.size W' w'):=Aa fun W' hb=>by
      have h:=qcv W'.heap.size _ lr W' (Mk.below hb (Ab _) hb.size) (Ab _) za5;rw[qhl,hrn]at h;exact h
     have qav:Hid (Nat.gcd gn (x%gn)=G):=Aa (xT HG.out);have qd7:gn<18446744073709551616:=mW;have qb0:x%gn<18446744073709551616:=Dw;have gF:Hid (Below T w wx):=Aa (Cm.out.trans (Al.mono Dn));rw[hrn];obtain⟨R,hR⟩:=Ae (x%gn);rw[hR]at M5 qav qb0;clear Y9 Mk tlr qhl Al tY Dw za5 hrn hq Lo tlb Dh oV hR mW Nr;go_wp2_with fail
     refine(dY.out _ (Below.refl _ _)).mono ?_;rintro e w5 ⟨rfl,Aq⟩;have sO:Below wx.heap.size wx w5:=Aq;have Hf:=Aa sO;clear Aq sO;go_wp2_with fail
     refine(M5.out _ Hf.out).mono ?_;rintro e w6 ⟨rfl,Bk⟩;have B5:Hid (Below wx.heap.size wx w6):=Aa (Hf.out.trans (Bk.mono Hf.out.size));clear Bk dY M5;go_wp2_with fail
     go_loopw [10,11] (fun x y wr=>∃ (i j k:Nat),x=.int .u64 i/\y=.int .u64 j/\Hid (Nat.gcd i j=G)/\i<18446744073709551616/\j<18446744073709551616/\Hid (wr=w6.drewN k)) (fun _ y _=>(intOf y).toNat)
     case atStart=>exact⟨_,_,0,rfl,rfl,qav,qd7,qb0,Aa rfl⟩
     case round =>
      obtain⟨i,j,k,rfl,rfl,pB,hi,hj,Zo⟩:=hrel;obtain⟨wq,rfl⟩:∃ wq:World,wq=wr:=⟨_,rfl⟩
      by_cases Jb:j=0
      ·subst Jb
       have Gj:Hid (i=G):=Aa (by rw[<- pB.out,Nat.gcd_zero_right]);have D5:=qsz i wq hi;have Z6:=Aa D5;clear D5;go_wp2_with fail
       refine Z6.out.mono ?_;rintro e w7 ⟨v',rfl,Tu,Ct,_⟩;have HV:=Aa Tu;have E7:=Aa Ct;clear Tu Ct;go_wp2_with fail
       go_ret
       refine⟨_,rfl,by rw[<- Gj.out];exact HV.out,?_⟩;have hk:=Zo.out;have h7:=E7.out;rw[hk]at h7;exact gF.out.trans ((B5.out.trans ((Gn (Below.refl w6.heap.size _) k).trans h7 |>.mono B5.out.size)).mono O3)
      ·have hx:((j:Int) != 0)=true:=by simp;omega
       have hy:((j:Int)==0)=false:=by simp;omega
       have vS:Hid (Nat.gcd j (i%j)=G):=Aa (xT pB.out);have nW:i%j<j:=Nat.mod_lt _ (by omega)
       have yU:Int.tmod (i:Int) (j:Int)=((i%j:Nat):Int):=by rw[Int.tmod_eq_emod_of_nonneg (by omega)];simp
       have U1:(i:Int)%(j:Int)=((i%j:Nat):Int):=by simp
       obtain⟨r,hr⟩:=Ae (i%j);rw[hr]at vS nW yU U1;clear hr
       go_upto_region 18 with fail
       go_quiet (fail)
       go_wp2_with fail
       exact⟨⟨j,r,_,rfl,rfl,vS,by omega,by omega,Aa (by rw[Zo.out];exact Xc _ _ _)⟩,by simp[intOf];omega⟩
    ·have Gi:x<Ag^2:=by rw[<- Mg];exact(qj3 Bh.lt tla).1 (by omega)
     obtain⟨p,hp⟩:=Ae la.length
     have qzv:Ws wo.heap.size wo (.slice ua p uc) la:=by rw[<- hp];exact Bh
     have dY:Hid (∀ W',Below wo.heap.size wo W'->Calls Tryz.prog 148 #[.slice ua p uc] W' fun e w'=>e=.returned (.int .u64 (x:Nat))/\Below W'.heap.size W' w'):=Aa fun W' hb=>by
      have h:=qcv W'.heap.size _ la W' (qzv.below hb (Ab _) hb.size) (Ab _) (by omega);rw[Mg]at h;exact h
     have M5:Hid (∀ W',Below wo.heap.size wo W'->Calls Tryz.prog 148 #[.slice va q vc] W' fun e w'=>e=.returned (.int .u64 (gn:Nat))/\Below W'.heap.size W' w'):=Aa fun W' hb=>by
      have h:=qcv W'.heap.size _ lb W' (oV.below hb (Ab _) hb.size) (Ab _) Nr;rw[Lo]at h;exact h
     have qav:Hid (Nat.gcd x gn=G):=HG;have qd7:x<18446744073709551616:=Gi;have qb0:gn<18446744073709551616:=mW;have gF:Hid (Below T w wo):=Cm;have O3:T<=wo.heap.size:=Dn;rw[hp]at Qg;rw[hp,hq];obtain⟨wx,rfl⟩:∃ wx:World,wx=wo:=⟨_,rfl⟩;clear Bh hp Mg tla Mx HA HB hq Lo tlb Dh oV qzv Gi mW Nr;go_wp2_with fail
     refine(dY.out _ (Below.refl _ _)).mono ?_;rintro e w5 ⟨rfl,Aq⟩;have sO:Below wx.heap.size wx w5:=Aq;have Hf:=Aa sO;clear Aq sO;go_wp2_with fail
     refine(M5.out _ Hf.out).mono ?_;rintro e w6 ⟨rfl,Bk⟩;have B5:Hid (Below wx.heap.size wx w6):=Aa (Hf.out.trans (Bk.mono Hf.out.size));clear Bk dY M5;go_wp2_with fail
     go_loopw [10,11] (fun x y wr=>∃ (i j k:Nat),x=.int .u64 i/\y=.int .u64 j/\Hid (Nat.gcd i j=G)/\i<18446744073709551616/\j<18446744073709551616/\Hid (wr=w6.drewN k)) (fun _ y _=>(intOf y).toNat)
     case atStart=>exact⟨_,_,0,rfl,rfl,qav,qd7,qb0,Aa rfl⟩
     case round =>
      obtain⟨i,j,k,rfl,rfl,pB,hi,hj,Zo⟩:=hrel;obtain⟨wq,rfl⟩:∃ wq:World,wq=wr:=⟨_,rfl⟩
      by_cases Jb:j=0
      ·subst Jb
       have Gj:Hid (i=G):=Aa (by rw[<- pB.out,Nat.gcd_zero_right]);have D5:=qsz i wq hi;have Z6:=Aa D5;clear D5;go_wp2_with fail
       refine Z6.out.mono ?_;rintro e w7 ⟨v',rfl,Tu,Ct,_⟩;have HV:=Aa Tu;have E7:=Aa Ct;clear Tu Ct;go_wp2_with fail
       go_ret
       refine⟨_,rfl,by rw[<- Gj.out];exact HV.out,?_⟩;have hk:=Zo.out;have h7:=E7.out;rw[hk]at h7;exact gF.out.trans ((B5.out.trans ((Gn (Below.refl w6.heap.size _) k).trans h7 |>.mono B5.out.size)).mono O3)
      ·have hx:((j:Int) != 0)=true:=by simp;omega
       have hy:((j:Int)==0)=false:=by simp;omega
       have vS:Hid (Nat.gcd j (i%j)=G):=Aa (xT pB.out);have nW:i%j<j:=Nat.mod_lt _ (by omega)
       have yU:Int.tmod (i:Int) (j:Int)=((i%j:Nat):Int):=by rw[Int.tmod_eq_emod_of_nonneg (by omega)];simp
       have U1:(i:Int)%(j:Int)=((i%j:Nat):Int):=by simp
       obtain⟨r,hr⟩:=Ae (i%j);rw[hr]at vS nW yU U1;clear hr
       go_upto_region 18 with fail
       go_quiet (fail)
       go_wp2_with fail
       exact⟨⟨j,r,_,rfl,rfl,vS,by omega,by omega,Aa (by rw[Zo.out];exact Xc _ _ _)⟩,by simp[intOf];omega⟩
end Go.Proofs.YtlldjmagbjjeoaaGreatDoor
