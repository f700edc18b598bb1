/- Contracts and plain laws, several texts in one (GSearch3, GScale). No conditions beyond those stated. -/
import Derived.Test.YtlldjmagbjjeoaaGreatDoorPk16
set_option maxRecDepth 100000
set_option maxHeartbeats 40000000
namespace Go.Proofs.YtlldjmagbjjeoaaGreatDoor
open Go.RowKit
set_option linter.unusedVariables false
theorem qiw (v:Vq):0<=v.bot:=by unfold Vq.bot;split<;>omega
theorem gS {v:Vq} (h:v.ok=true):0<v.bot:=by
 unfold Vq.bot
 cases hf:v.fr with
 | false=>simp
 | true =>
  simp only[if_true];unfold Vq.ok frOk at h;rw[hf]at h;simp only[if_true,Bool.and_eq_true,decide_eq_true_eq,beq_iff_eq,bne_iff_ne,ne_eq,Bool.not_eq_true']at h;obtain⟨h0,⟨⟨⟨⟨⟨h1,h2⟩,h3⟩,h4⟩,h5⟩,h6⟩,h7⟩:=h
  have hl:As v.l2≠0:=by
   unfold wOk at h4;rw[if_neg h6]at h4;simp only[Bool.and_eq_true,bne_iff_ne,ne_eq]at h4
   have:∀ l:List Nat,l.length≠0->l[l.length-1]?.getD 0≠0->As l≠0:=by
    intro l
    induction l with
    | nil=>intro h;exact absurd rfl h
    | cons d r ih =>
     intro _ hl
     unfold As
     cases r with
     | nil=>simp at hl;omega
     | cons d' r' =>
      have hi:=ih (by simp) (by simpa using hl);omega
   exact this _ h6 h4.2
  omega
theorem zmm {v a b:Vq} (ha:a.ok=true) (h1:vle v a=true) (h2:vlt a b):vle v b=true:=by
 unfold vle vlt at *;rw[decide_eq_true_eq]at *;have pa:=gS ha;have nb:=qiw b;have nv:=qiw v;have e1:=Int.mul_le_mul_of_nonneg_right h1 nb;have e2:=Int.mul_le_mul_of_nonneg_right (Int.le_of_lt h2) nv;refine Int.le_of_mul_le_mul_right (a:=a.bot) ?_ pa
 calc v.top*b.bot*a.bot=v.top*a.bot*b.bot:=by rw[Int.mul_assoc,Int.mul_comm b.bot,<- Int.mul_assoc]
  _<=a.top*v.bot*b.bot:=e1
  _=a.top*b.bot*v.bot:=by rw[Int.mul_assoc,Int.mul_comm v.bot,<- Int.mul_assoc]
  _<=b.top*a.bot*v.bot:=e2
  _=b.top*v.bot*a.bot:=by rw[Int.mul_assoc,Int.mul_comm a.bot,<- Int.mul_assoc]
def Ud (l:List Vq) (v:Vq) (i:Nat):Bool:=if i<l.length then vle v (l[i]?.getD v0)else true
theorem zjv {kd:Int} {l:List Vq} (h:Nq kd l) (v:Vq) (i j:Nat) (Zi:i<=j) (hi:Ud l v i=true):Ud l v j=true:=by
 unfold Ud at *
 by_cases hj:j<l.length
 ·rw[if_pos hj]
  rw[if_pos (by omega)]at hi
  by_cases he:i=j
  ·subst he;exact hi
  ·have := List.pairwise_iff_getElem.1 h.inc i j (by omega) hj (by omega)
   have Ay:=(h.at (show i<l.length by omega)).2.1;rw[Ac (show i<l.length by omega),Option.getD_some]at hi Ay;rw[Ac hj,Option.getD_some];exact zmm Ay hi this
 ·rw[if_neg hj]
theorem qc0 {l:List Vq} {v:Vq} {r:Nat} (h1:r<=l.length) (h2:∀ i,i<r->Ud l v i=false) (h3:∀ i,r<=i->i<l.length->Ud l v i=true):Eu l v=r:=by
 unfold Eu
 by_cases hr:r<l.length
 ·rw[List.findIdx_eq hr]
  constructor
  ·have := h3 r (Ab _) hr
   unfold Ud at this;rw[if_pos hr,Ac hr,Option.getD_some]at this;exact this
  ·intro j hj
   have := h2 j hj;unfold Ud at this;rw[if_pos (by omega),Ac (by omega),Option.getD_some]at this;exact this
 ·obtain rfl:r=l.length:=by omega
  rw[List.findIdx_eq_length];intro x hx
  obtain⟨j,hj,rfl⟩:=List.mem_iff_getElem.1 hx;have := h2 j hj;unfold Ud at this;rw[if_pos hj,Ac hj,Option.getD_some]at this;exact this
theorem wB (l:List Vq) (v:Vq):Eu l v<=l.length:=List.findIdx_le_length
theorem qgj (K sb so:Nat) (cv:Value) (l:List Vq) (kd:Int) (v:Vq) (x:Vv) (w:World) (hl:Yl K w cv l) (hv:VlX K w v x) (ho:Nq kd l) (Qq:v.good=true) (V6:v.ok=true) (Rv:v.kd=kd) (hK:K<=w.heap.size)
  (hs:w.cell? ⟨sb,so+10,none⟩=some cv) (Hw:sb<w.heap.size) (Dr:l.length<=2^38) :
  Calls Tryz.prog 27 #[.pointer (some ⟨sb,so,none⟩),x.agg] w fun e w'=>e=.returned (.tuple #[.int .i64 (Eu l v),.bool (fnd l v)])/\Below w.heap.size w w':=by
 obtain⟨x1,Ck⟩:∃ y:Vv,y=x:=⟨_,rfl⟩;obtain⟨W1,Ah⟩:=Ae ((w.alloc (.cells #[.pointer (some ⟨sb,so,none⟩)] 99)).alloc (.cells x.cells 41))
 have b1:Below w.heap.size w W1:=by rw[<- Ah];exact(Af _ _).alloc (by simp) _
 have q1:Blk W1 w.heap.size #[.pointer (some ⟨sb,so,none⟩)] 99:=by rw[<- Ah];exact(Blk.new w _ _).alloc _
 have q2:Blk W1 (w.heap.size+1) x.cells 41:=by
  rw[<- Ah];have := Blk.new (w.alloc (.cells #[.pointer (some ⟨sb,so,none⟩)] 99)) x.cells 41;rwa[World.size_alloc]at this
 have s1:W1.heap.size=w.heap.size+2:=by rw[<- Ah];simp
 obtain⟨B,hB⟩:=Ae w.heap.size;rw[hB]at hK b1 q1 q2 s1 Hw ⊢;have Jy:=hl.below b1 hK hK;have Bu:=hv.below b1 hK hK;have Cp:W1.cell? ⟨sb,so+10,none⟩=some cv:=(b1.cell (p:=⟨sb,so+10,none⟩) Hw).trans hs
 have hF:∀ i:Nat,i<l.length->∀ W,Below W1.heap.size W1 W->Calls Tryz.prog 53 #[.int .i64 i,.pointer (some ⟨B,0,none⟩),.pointer (some ⟨B+1,0,none⟩)] W fun e w'=>e=.returned (.bool (Ud l v i))/\Below W.heap.size W w':=fun i hi W hb=>by
  have zxm:=hb.size;have := zxj B B (B+1) sb so cv l kd v x i W (Jy.below hb (by omega) (Ab _)) (Bu.below hb (by omega) (Ab _)) ho Qq V6 Rv (by omega) (q1.below hb q1.lt) (q2.below hb q2.lt) ((hb.cell (p:=⟨sb,so+10,none⟩) (by simp;omega)).trans Cp) (by omega) hi;unfold Ud;rw[if_pos hi];exact this
 have qdh:=zfb l.length (Ud l v) _ _ W1 Dr (zjv ho v) hF;obtain⟨a,cap,rfl,hn,hm⟩:=hl.form;have HB:=Aa hB;have HW:=Aa Ah;have qhv:=Aa Dr;obtain⟨n,Et⟩:=Ae l.length;have HN:=Aa Et;rw[Et]at qdh Cp hn;clear hB Ah hF Dr Et hs;obtain⟨c1⟩:=(show W1.cell? ⟨B,0,none⟩=some (.pointer (some ⟨sb,so,none⟩))/\True from⟨q1.one.1,trivial⟩);have HL:=Aa Jy;have HV:=Aa Bu;clear hl hv Jy Bu;unfold maxLen at hm;go_enter Tryz.func27,Tryz.ntmps27
 go_upto_region 1 with fail
 simp only[HB.out];rw[HW.out];go_wp2_with fail
 refine qdh.mono ?_;rintro e w2 ⟨r,rfl,Jd,Dw,Ug,Ai⟩;clear qdh c1;have Ol:=Cp;clear Cp;have hr:Hid (Eu l v=r):=Aa (qc0 (by rw[HN.out];exact Jd) Dw (fun i h1 h2=>Ug i h1 (by rw[HN.out]at h2;exact h2)));clear Dw Ug;have b2:Below B w w2:=b1.trans (Ai.mono (by omega));have Az:=Ai.size;have q1:=q1.below Ai q1.lt;have q2:=q2.below Ai q2.lt;have Cp:w2.cell? ⟨sb,so+10,none⟩=some (.slice a n cap):=(Ai.cell (p:=⟨sb,so+10,none⟩) (by simp;omega)).trans Ol;clear Ol
 by_cases hrn:r<n
 ·have hL:=HL.out
  have hV:=HV.out;obtain⟨Ay,uC,Br⟩:=ho.at (show r<l.length by rw[HN.out];exact hrn);obtain⟨g,hg,Qf⟩:=hL;obtain⟨cb,co,cap',he,_,_,Cj,hc⟩:=hg.pos (by rw[HN.out];omega);rw[HN.out]at he hc Qf;simp only[Value.slice.injEq,true_and]at he;obtain⟨rfl,rfl⟩:=he;have Sk:=Qf r hrn;have Oa:=rV hc hrn
  have Kl:∀ W,Below w2.heap.size w2 W->Calls Tryz.prog 45 #[(g r).agg,x.agg] W fun e w'=>e=.returned (.int .i64 (Te (l[r]?.getD v0) v))/\Below W.heap.size W w':=fun W hb=>by
   have Jj:Below W1.heap.size W1 W:=Ai.trans (hb.mono Az);have := Jj.size;exact qgi W.heap.size _ v _ x W (Sk.below Jj (by omega) (by omega)) (hV.below Jj (by omega) (by omega)) (Ab _) Ay Qq uC V6 (by rw[Br,Rv])
  have hz:=zow (l[r]?.getD v0) v;obtain⟨f,hf⟩:=Ae (fnd l v);have HF:=Aa hf;rw[show veq (l[r]?.getD v0) v=f by rw[<- hf];unfold fnd;rw[hr.out,HN.out];simp[hrn]]at hz;obtain⟨ci,Ik⟩:=Ae (Te (l[r]?.getD v0) v);simp only[Ik]at Kl hz
  have Em:∀ W,Below w2.heap.size w2 W->W.cell? ⟨cb,co+r*6,none⟩=some (.int .u8 (g r).kd)/\W.cell? ⟨cb,co+r*6+1,none⟩=some (.bool (g r).b1)/\W.cell? ⟨cb,co+r*6+2,none⟩=some (g r).s1/\W.cell? ⟨cb,co+r*6+3,none⟩=some (.bool (g r).b2) ∧
    W.cell? ⟨cb,co+r*6+4,none⟩=some (g r).s2/\W.cell? ⟨cb,co+r*6+5,none⟩=some (.int .i64 (g r).i):=fun W hb=>by
   have Jj:Below W1.heap.size W1 W:=Ai.trans (hb.mono Az)
   have Gq:cb<W1.heap.size:=by omega
   exact⟨(Jj.cell (p:=⟨cb,_,none⟩) Gq).trans Oa.1,(Jj.cell (p:=⟨cb,_,none⟩) Gq).trans Oa.2.1,(Jj.cell (p:=⟨cb,_,none⟩) Gq).trans Oa.2.2.1,(Jj.cell (p:=⟨cb,_,none⟩) Gq).trans Oa.2.2.2.1,(Jj.cell (p:=⟨cb,_,none⟩) Gq).trans Oa.2.2.2.2.1,(Jj.cell (p:=⟨cb,_,none⟩) Gq).trans Oa.2.2.2.2.2⟩
  have Kj:=Aa Em;have HH:=Aa Kl;have HO:=Aa ho;clear Ik hf Kl Sk Qf hg hc Oa Em Ay uC Br ho hV Qq V6 Rv;obtain⟨y,hy⟩:=Ae (g r);simp only[hy]at HH Kj;clear hy;obtain⟨kx,m1,x1,m2,x2,xi⟩:=x;obtain⟨ky,n1,y1,n2,y2,yi⟩:=y;have c1:=q1.one.1
  go_upto_region 2 with fail
  clear c1;refine Fz (fun W'=>Below w2.heap.size w2 W') [] (by kernel_rfl) ?_;have qS:(fun W'=>Below w2.heap.size w2 W') w2.drew:=Er (Below.refl _ _);refine Am (i:=0) (v:=.int .i64 r) rfl qS ?_;refine Am (i:=1) (v:=.int .i64 r) rfl qS ?_;refine Ar (i:=2) (v:=.pointer (some ⟨sb,so,none⟩)) rfl (.inl ⟨by kernel_rfl,fun W' hS=>by have d0:=(q1.below hS q1.lt).at (i:=0) rfl;go_simp⟩) qS ?_;refine Am (i:=3) (v:=.pointer (some ⟨sb,so,none⟩)) rfl qS ?_;refine Am (i:=4) (v:=.pointer (some ⟨sb,so+10,none⟩)) rfl qS ?_;refine Ar (i:=5) (v:=.slice (some ⟨cb,co,none⟩) n cap) rfl (.inl ⟨by kernel_rfl,fun W' hS=>by have d:=(hS.cell (p:=⟨sb,so+10,none⟩) (by simp;omega)).trans Cp;go_simp⟩) qS ?_;refine Am (i:=6) (v:=.int .i64 n) rfl qS ?_;refine Am (i:=7) (v:=.bool true) rfl qS ?_;refine Am (i:=8) (v:=.bool true) rfl qS ?_;refine Ar (i:=9) (v:=.pointer (some ⟨sb,so,none⟩)) rfl (.inl ⟨by kernel_rfl,fun W' hS=>by have d0:=(q1.below hS q1.lt).at (i:=0) rfl;go_simp⟩) qS ?_;refine Am (i:=10) (v:=.pointer (some ⟨sb,so,none⟩)) rfl qS ?_;refine Am (i:=11) (v:=.pointer (some ⟨sb,so+10,none⟩)) rfl qS ?_;refine Ar (i:=12) (v:=.slice (some ⟨cb,co,none⟩) n cap) rfl (.inl ⟨by kernel_rfl,fun W' hS=>by have d:=(hS.cell (p:=⟨sb,so+10,none⟩) (by simp;omega)).trans Cp;go_simp⟩) qS ?_;refine Am (i:=13) (v:=.int .i64 r) rfl qS ?_;refine Am (i:=14) (v:=.pointer (some ⟨cb,co+r*6,none⟩)) rfl qS ?_;refine Ar (i:=15) (v:=.agg #[.int .u8 ky,.bool n1,y1,.bool n2,y2,.int .i64 yi]) rfl (.inl ⟨by kernel_rfl,fun W' hS=>by obtain⟨d0,d1,d2,d3,d4,d5⟩:=Kj.out W' hS;go_simp⟩) qS ?_;refine Ar (i:=16) (v:=.agg #[.int .u8 kx,.bool m1,x1,.bool m2,x2,.int .i64 xi]) rfl (.inl ⟨by kernel_rfl,fun W' hS=>by have d0:=(q2.below hS q2.lt).at (i:=0) rfl;have d1:=(q2.below hS q2.lt).at (i:=1) rfl;have d2:=(q2.below hS q2.lt).at (i:=2) rfl;have d3:=(q2.below hS q2.lt).at (i:=3) rfl;have d4:=(q2.below hS q2.lt).at (i:=4) rfl;have d5:=(q2.below hS q2.lt).at (i:=5) rfl;go_simp⟩) qS ?_;refine Ap (i:=17) rfl ?_;go_simp
  refine(HH.out _ qS).mono ?_;rintro e w3 ⟨rfl,Ak⟩;have qS3:Below w2.heap.size w2 w3:=qS.trans (Ak.mono qS.size);go_simp
  refine Am (i:=18) (v:=.bool f) rfl qS3 ?_;refine Am (i:=19) (v:=.bool f) rfl qS3 ?_;refine Ap (i:=20) rfl ?_;go_simp
  refine Ap (i:=21) rfl ?_;go_simp
  refine Eo (by kernel_rfl) ?_ _;go_wp2_with fail
  go_ret2
  exact⟨by rw[hr.out,HF.out];rfl,b2.trans (qS3.mono (by omega))⟩
 ·have qgn:Hid (fnd l v=false):=Aa (by unfold fnd;rw[hr.out,HN.out];simp[hrn])
  obtain rfl:r=n:=by omega
  have c1:=q1.one.1
  have K4:decide ((r:Int)<(r:Int))=false:=by simp
  go_upto_region 2 with fail
  go_quiet (fail)
  go_wp2_with fail
  go_ret2
  exact⟨by rw[hr.out,qgn.out];rfl,Gn b2 _⟩
structure Sv where
 x:Xv
 kd:Int
 c:Sl
def Sv.cell (s:Sv):Nat->Value
 | 0=>s.x.cell 0
 | 1=>s.x.cell 1
 | 2=>s.x.cell 2
 | 3=>s.x.cell 3
 | 4=>s.x.cell 4
 | 5=>s.x.cell 5
 | 6=>s.x.cell 6
 | 7=>s.x.cell 7
 | 8=>s.x.cell 8
 | 9=>.int .u8 s.kd
 | _=>s.c.val
abbrev Sv.cells (s:Sv):Array Value:=#[.int .u8 s.x.op,S s.x.nm,.int .u8 s.x.kd,.bool s.x.b3,.slice s.x.s4.a s.x.s4.n s.x.s4.m,.bool s.x.b5,.slice s.x.s6.a s.x.s6.n s.x.s6.m,.int .i64 s.x.i7,.slice s.x.s8.a s.x.s8.n s.x.s8.m,.int .u8 s.kd,.slice s.c.a s.c.n s.c.m]
abbrev Sv.agg (s:Sv):Value:=.agg s.cells
structure ScX (K:Nat) (w:World) (s:Sc) (y:Sv):Prop where
 e:ExG K w s.e y.x
 kd:y.kd=s.kd
 cuts:Yl K w y.c.val s.cuts
theorem ScX.below {K K' B:Nat} {w w':World} {s:Sc} {y:Sv} (h:ScX K w s y) (hb:Below B w w') (hB:K<=B) (hK:K<=K'):ScX K' w' s y:=⟨h.e.below hb hB hK,h.kd,h.cuts.below hb hB hK⟩
def Mo (K:Nat) (w:World) (v:Value) (l:List Sc):Prop:=∃ g:Nat->Sv,Au 11 (fun i j=>(g i).cell j) K w v l.length/\∀ i,i<l.length->ScX K w (l[i]?.getD default) (g i)
theorem Mo.below {K K' B:Nat} {w w':World} {v:Value} {l:List Sc} (h:Mo K w v l) (hb:Below B w w') (hB:K<=B) (hK:K<=K'):Mo K' w' v l:=by
 obtain⟨g,h1,h2⟩:=h;exact⟨g,h1.below hb hB hK,fun i hi=>(h2 i hi).below hb hB hK⟩
theorem Mo.form {K:Nat} {w:World} {v:Value} {l:List Sc} (h:Mo K w v l):∃ a cap,v=.slice a l.length cap/\l.length<=cap/\cap<=maxLen:=by
 obtain⟨g,h1,h2⟩:=h;exact h1.form
theorem zv6 {g:Nat->Sv} {w:World} {b o k n:Nat} (hc:∀ i,i<n->∀ j,j<11->w.cell? ⟨b,o+(i*11+j),none⟩=some ((g i).cell j)) (hk:k<n) :
  w.cell? ⟨b,o+k*11,none⟩=some (.int .u8 (g k).x.op)/\w.cell? ⟨b,o+k*11+1,none⟩=some (S (g k).x.nm)/\w.cell? ⟨b,o+k*11+2,none⟩=some (.int .u8 (g k).x.kd) ∧
  w.cell? ⟨b,o+k*11+3,none⟩=some (.bool (g k).x.b3)/\w.cell? ⟨b,o+k*11+4,none⟩=some (g k).x.s4.val/\w.cell? ⟨b,o+k*11+5,none⟩=some (.bool (g k).x.b5) ∧
  w.cell? ⟨b,o+k*11+6,none⟩=some (g k).x.s6.val/\w.cell? ⟨b,o+k*11+7,none⟩=some (.int .i64 (g k).x.i7)/\w.cell? ⟨b,o+k*11+8,none⟩=some (g k).x.s8.val ∧
  w.cell? ⟨b,o+k*11+9,none⟩=some (.int .u8 (g k).kd)/\w.cell? ⟨b,o+k*11+10,none⟩=some (g k).c.val:=by
 have h:=hc k hk;exact⟨h 0 (by omega),h 1 (by omega),h 2 (by omega),h 3 (by omega),h 4 (by omega),h 5 (by omega),h 6 (by omega),h 7 (by omega),h 8 (by omega),h 9 (by omega),h 10 (by omega)⟩
theorem Blk.eleven {w:World} {b t:Nat} {x0 x1 x2 x3 x4 x5 x6 x7 x8 x9 x10:Value} (h:Blk w b #[x0,x1,x2,x3,x4,x5,x6,x7,x8,x9,x10] t):w.cell? ⟨b,0,none⟩=some x0/\w.cell? ⟨b,1,none⟩=some x1/\w.cell? ⟨b,2,none⟩=some x2 ∧
  w.cell? ⟨b,3,none⟩=some x3/\w.cell? ⟨b,4,none⟩=some x4/\w.cell? ⟨b,5,none⟩=some x5/\w.cell? ⟨b,6,none⟩=some x6/\w.cell? ⟨b,7,none⟩=some x7/\w.cell? ⟨b,8,none⟩=some x8/\w.cell? ⟨b,9,none⟩=some x9/\w.cell? ⟨b,10,none⟩=some x10 :=
 ⟨h.at rfl,h.at rfl,h.at rfl,h.at rfl,h.at rfl,h.at rfl,h.at rfl,h.at rfl,h.at rfl,h.at rfl,h.at rfl⟩
theorem zoz (K:Nat) (t:Tq) (s:Sc) (x:Tv) (y:Sv) (w:World) (ht:TqX K w t x) (hs:ScX K w s y) (hK:K<=w.heap.size) :
  Calls Tryz.prog 31 #[x.agg,y.agg] w fun e w'=>e=.returned (.bool (t.belongs s))/\Below w.heap.size w w':=by
 have Ma:Below w.heap.size w ((w.alloc (.cells x.cells 79)).alloc (.cells y.cells 46)):=(Af _ _).alloc (by simp) _;have hc:=zd7 w.heap.size t.sub s.e x.sub y.x _ (ht.sub.below Ma hK hK) (hs.e.below Ma hK hK) (by simp;omega)
 have hr:t.belongs s=(x.kd==y.kd && Qy t.sub s.e):=by unfold Tq.belongs;rw[ht.kd,hs.kd]
 obtain⟨r,Jd⟩:=Ae (t.belongs s);obtain⟨r2,Dw⟩:∃ r,Qy t.sub s.e=r:=⟨_,rfl⟩;obtain⟨c1,Jv⟩:∃ c,(x.kd==y.kd)=c:=⟨_,rfl⟩;rw[Jd,Dw,Jv]at hr;rw[Dw]at hc;rw[Jd];have HR:=Aa hr;obtain⟨vs1,vm1,Bu,_⟩:=ht.cut.n.form;obtain⟨vs2,vm2,Bs,_⟩:=ht.cut.d.form;clear hr Jd Dw ht hs;obtain⟨⟨xop,xnm,xkd,xb3,⟨x4,x4n,x4m⟩,xb5,⟨x6,x6n,x6m⟩,xi7,⟨x8,x8n,x8m⟩⟩,tk,⟨vk,vb1,vs1,vb2,vs2,vi⟩,top,tsn⟩:=x;obtain⟨⟨yop,ynm,ykd,yb3,⟨y4,y4n,y4m⟩,yb5,⟨y6,y6n,y6m⟩,yi7,⟨y8,y8n,y8m⟩⟩,sk,⟨ca,cn,cm⟩⟩:=y;dsimp only at Jv Bu Bs;subst Bu Bs
 cases c1 with
 | false =>
  clear hc;go_enter Tryz.func31,Tryz.ntmps31
  go_wp2_with fail
  go_ret
  exact⟨by rw[HR.out];rfl,Ma⟩
 | true =>
  go_enter Tryz.func31,Tryz.ntmps31
  go_wp2_with fail
  refine hc.mono ?_;rintro e w2 ⟨rfl,Ai⟩;go_wp2_with fail
  go_ret
  exact⟨by rw[HR.out];rfl,Ma.trans (Ai.mono (by simp;omega))⟩
def Yo (l:List Sc) (t:Tq):Int:=if l.findIdx t.belongs<l.length then(l.findIdx t.belongs:Int)else -1
theorem zk8 {l:List Sc} {t:Tq} {k:Nat} (hk:k<l.length) (h0:∀ i,i<k->t.belongs (l[i]?.getD default)=false) (h:t.belongs (l[k]?.getD default)=true):Yo l t=k:=by
 have:l.findIdx t.belongs=k:=by
  rw[List.findIdx_eq hk];refine⟨by rw[Ac hk]at h;exact h,fun j hj=>?_⟩;have := h0 j hj;rwa[Ac (by omega)]at this
 unfold Yo;rw[this,if_pos hk]
theorem zet {l:List Sc} {t:Tq} (h0:∀ i,i<l.length->t.belongs (l[i]?.getD default)=false):Yo l t = -1:=by
 have:l.findIdx t.belongs=l.length:=by
  rw[List.findIdx_eq_length];intro x hx
  obtain⟨j,hj,rfl⟩:=List.mem_iff_getElem.1 hx;have := h0 j hj;rwa[Ac hj]at this
 unfold Yo;rw[this,if_neg (Nat.lt_irrefl _)]
theorem qsi (K:Nat) (t:Tq) (x:Tv) (v:Value) (l:List Sc) (w:World) (ht:TqX K w t x) (hv:Mo K w v l) (hK:K<=w.heap.size) :
  Calls Tryz.prog 30 #[v,.func (.func 31) #[x.agg] #[]] w fun e w'=>e=.returned (.int .i64 (Yo l t))/\Below w.heap.size w w':=by
 obtain⟨g,hg,Eh⟩:=hv;obtain⟨va,vcap,rfl,Bu,Bs⟩:=id hg.form;unfold maxLen at Bs
 have HC:Hid (∀ i,i<l.length->∀ W,Below w.heap.size w W->Calls Tryz.prog 31 #[x.agg,(g i).agg] W fun e w'=>e=.returned (.bool (t.belongs (l[i]?.getD default)))/\Below W.heap.size W w'):=Aa fun i hi W hW=>by
  have := hW.size;exact zoz W.heap.size t _ x (g i) W (ht.below hW hK (by omega)) ((Eh i hi).below hW hK (by omega)) (Ab _)
 obtain⟨q,hq⟩:=Ae l.length;rw[hq]at hg Bu HC ⊢;have HG:=Aa hg;have HQ:=Aa hq;obtain⟨X,hX⟩:=Ae x.agg;rw[hX]at HC ⊢;clear hq hg Eh ht hX;go_enter Tryz.func30,Tryz.ntmps30
 go_wp2_with fail
 go_loopw [8] (fun i wr=>∃ k:Nat,k<=q/\i=.int .i64 k/\Below w.heap.size w wr/\Hid (∀ i,i<k->t.belongs (l[i]?.getD default)=false)) (fun i _=>q-(intOf i).toNat)
 case atStart=>exact⟨0,Nat.zero_le _,rfl,Below.refl _ _,Aa fun i hi=>absurd hi (Nat.not_lt_zero i)⟩
 case round =>
  obtain⟨k,hk,rfl,Bb,Ld⟩:=hrel
  by_cases Aj:k<q
  ·obtain⟨b,o,cap,he,_,_,Cj,hc⟩:=HG.out.pos (by omega)
   simp only[Value.slice.injEq,true_and]at he;obtain⟨rfl,rfl⟩:=he;obtain⟨c0,c1,c2,c3,c4,c5,c6,c7,c8,c9,c10⟩:=zv6 (Km Bb (by omega) hc) Aj;have Ao:=HC.out k Aj wr Bb;obtain⟨r,hr⟩:=Ae (t.belongs (l[k]?.getD default));rw[hr]at Ao;obtain⟨y,hy⟩:=Ae (g k);rw[hy]at c0 c1 c2 c3 c4 c5 c6 c7 c8 c9 c10 Ao;have Fh:=Bb.size
   have Gq:b<wr.heap.size:=by omega
   have HR:=Aa hr;clear hy hc hr;go_wp2_with fail
   refine Ao.mono ?_;rintro e w2 ⟨rfl,Ai⟩;clear Ao c0 c1 c2 c3 c4 c5 c6 c7 c8 c9 c10;have Ak:Below w.heap.size w w2:=Bb.trans (Ai.mono Fh)
   cases r with
   | true =>
    have HE:=Aa (zk8 (by rw[HQ.out];exact Aj) Ld.out HR.out);go_wp2_with fail
    go_ret
    exact⟨by rw[HE.out];rfl,Ak⟩
   | false =>
    go_wp2_with fail
    refine⟨⟨k+1,by omega,by go_num,Ak,Aa fun i hi=>?_⟩,by simp[intOf];omega⟩
    by_cases P3:i=k
    ·rw[P3];exact HR.out
    ·exact Ld.out i (by omega)
  ·obtain rfl:k=q:=by omega
   have HE:=Aa (zet (fun i hi=>Ld.out i (by have := HQ.out;omega)));go_wp2_with fail
   go_ret
   exact⟨by rw[HE.out];rfl,Bb⟩
end Go.Proofs.YtlldjmagbjjeoaaGreatDoor
