/- Contracts and plain laws, several texts in one (GCells, GCell, GSmp, GHold1, GHoldS). No conditions beyond those stated. -/
import Derived.Test.YtlldjmagbjjeoaaGreatDoorPk18
set_option maxRecDepth 100000
set_option maxHeartbeats 40000000
namespace Go.Proofs.YtlldjmagbjjeoaaGreatDoor
open Go.RowKit
set_option linter.unusedVariables false
def Vl (s:Sc) (k:Nat):List Nat:=(List.range k).filter fun c=>s.poss c
def Bf (s:Sc):List Nat:=if s.okB=true then Vl s (Hd s.kd s.cuts.length)else []
theorem zfw (s:Sc) (k:Nat):Vl s (k+1)=if s.poss k=true then Vl s k++[k]else Vl s k:=by
 unfold Vl;rw[List.range_succ,List.filter_append];simp only[List.filter_cons,List.filter_nil]
 split
 ·rfl
 ·simp
theorem qtu (s:Sc) (k:Nat):(Vl s k).length<=k:=by
 unfold Vl;have := List.length_filter_le (fun c:Nat=>s.poss c) (List.range k);rw[List.length_range]at this;exact this
theorem oB {s:Sc} (h:s.okB=true):s.cuts.length<=32:=by
 unfold Sc.okB at h
 split at h
 ·rw[beq_iff_eq]at h;omega
 ·simp only[Bool.and_eq_true,decide_eq_true_eq]at h;omega
theorem xM (K:Nat) (s:Sc) (y:Sv) (w:World) (hs:ScX K w s y) (hK:K<=w.heap.size) (Jt:∀ c∈s.cuts,c.good=true) (Dr:s.cuts.length<=2^38) :
  Calls Tryz.prog 7 #[y.agg] w fun e w'=>∃ v,e=.returned v/\Dt w.heap.size w' v (Bf s)/\Below w.heap.size w w':=by
 obtain⟨W1,Ah⟩:=Ae (w.alloc (.cells y.cells 46))
 have b1:Below w.heap.size w W1:=by rw[<- Ah];exact Af _ _
 have q1:Blk W1 w.heap.size y.cells 46:=by rw[<- Ah];exact Blk.new w _ _
 have s1:W1.heap.size=w.heap.size+1:=by rw[<- Ah];simp
 obtain⟨B,hB⟩:=Ae w.heap.size;have HB:=Aa hB;have HW:=Aa Ah;rw[hB]at hK b1 q1 s1 ⊢;have hv:=gA B s y W1 (hs.below b1 hK hK) (by omega) Jt Dr;have Ri:=hs.cuts.below b1 hK hK;have Br:=hs.kd;clear hB Ah hs Jt;obtain⟨va,vcap,Qb,_,_⟩:=id Ri.form;obtain⟨⟨yop,ynm,yk,yb3,⟨y4,y4n,y4m⟩,yb5,⟨y6,y6n,y6m⟩,yi7,⟨y8,y8n,y8m⟩⟩,sk,⟨ca,cn,cm⟩⟩:=y;dsimp only[Sl.val]at Qb Br Ri;simp only[Value.slice.injEq]at Qb;obtain⟨rfl,rfl,rfl⟩:=Qb;subst Br;obtain⟨n,Et⟩:=Ae s.cuts.length;rw[Et]at hv Ri q1 HW Dr ⊢;have HN:=Aa Et;obtain⟨kd,Br⟩:=Ae s.kd;rw[Br]at hv q1 HW ⊢;have Px:=Aa Br;have Bc:=Aa q1;have zav:=Aa Ri;clear Ri Et Br;obtain⟨r,hr⟩:=Ae s.okB;rw[hr]at hv;have HR:=Aa hr;clear hr;obtain⟨d0,d1,d2,d3,d4,d5,d6,d7,d8,d9,d10⟩:=q1.eleven;clear q1
 cases r with
 | false =>
  have De:Bf s=[]:=by unfold Bf;rw[HR.out];rfl
  rw[De];go_enter Tryz.func7,Tryz.ntmps7
  go_upto_region 1 with fail
  simp only[HB.out];rw[HW.out];go_wp2_with fail
  refine hv.mono ?_;rintro e w2 ⟨rfl,Ai⟩;go_wp2_with fail
  go_ret
  exact⟨_,rfl,Dt.nil _ _,b1.trans (Ai.mono (by omega))⟩
 | true =>
  have rD:n<=32:=by rw[<- HN.out];exact oB HR.out
  obtain⟨q,hq⟩:=Ae (Hd kd n)
  have zyc:q<=65:=by rw[<- hq];unfold Hd;split<;>omega
  have De:Bf s=Vl s q:=by unfold Bf;rw[HR.out,if_pos rfl,Px.out,HN.out,hq]
  rw[De];have HQ:=Aa hq;clear hq De;go_enter Tryz.func7,Tryz.ntmps7
  go_upto_region 1 with fail
  simp only[HB.out];rw[HW.out];go_wp2_with fail
  refine hv.mono ?_;rintro e w2 ⟨rfl,Ai⟩;clear d0 d1 d2 d3 d4 d5 d6 d7 d8 d9 d10 hv;have qB2:=Bc.out.below Ai (by omega);have jU:=mE B 0 n cm ca kd w2 (qB2.at rfl) (qB2.at rfl) Dr;rw[HQ.out]at jU;clear qB2;go_wp2_with fail
  refine jU.mono ?_;rintro e w3 ⟨rfl,Ak⟩;clear jU;have Ob:Below W1.heap.size W1 w3:=Ai.trans (Ak.mono Ai.size);clear Ai Ak;go_wp2_with fail
  go_loopw [9,3] (fun i lv wr=>∃ k:Nat,k<=q/\i=.int .i64 k/\Below W1.heap.size W1 wr/\Dt (B+1) wr lv (Vl s k)) (fun i lv _=>q-(intOf i).toNat)
  case atStart=>exact⟨0,Nat.zero_le _,rfl,Ob,Dt.nil _ _⟩
  case round =>
   obtain⟨k,hk,rfl,Bb,Av⟩:=hrel;have Fh:=Bb.size
   by_cases Aj:k<q
   ·have qB:=Bc.out.below Bb (by omega)
    have cD:=yG B B 0 (.slice ca n cm) s k wr (zav.out.below Bb (by omega) (Ab _)) (by omega) qB.lt (by rw[Px.out];exact qB.at rfl) (qB.at rfl) (by rw[HN.out];exact Dr) (iY HR.out);obtain⟨rp,qkx⟩:=Ae (s.poss k);rw[qkx]at cD;have zm0:=Aa qkx;clear qkx qB;have Hi:=Aa Av;obtain⟨la,lc,rfl,_,_⟩:=Av.form;clear Av;go_wp2_with fail
    refine cD.mono ?_;rintro e w4 ⟨rfl,Al⟩;clear cD;have Aq:Below W1.heap.size W1 w4:=Bb.trans (Al.mono Fh);have Tz:=Hi.out.old Al (Ab _);have qg6:=zfw s k;rw[zm0.out]at qg6;have zae:=Aa qg6;have Cc:=qtu s k;have Kg:=Aq.size;clear qg6
    cases rp with
    | false =>
     go_wp2_with fail
     exact⟨⟨k+1,by omega,by simp,Aq,by rw[zae.out];exact Tz⟩,by simp[intOf];omega⟩
    | true =>
     go_wp2_with (at_builtin;refine xJ rfl (.tmp 14) (.tmp 16) rfl rfl rfl (Tz.old (Af _ _) (Ab _)) ((Blk.new w4 #[Z k] _).at rfl) (by omega) (by simp;omega) ?_;intro g1 cap1 w6 kP Hn zzw)
     have Bk:Below W1.heap.size W1 w6:=(Aq.alloc Kg (.cells #[Z k] 3)).trans (Sq Hn (fun r e=>by have := (Or Tz e).1;omega) (by simp;omega));exact⟨⟨k+1,by omega,by simp,Bk,by rw[zae.out];exact kP⟩,by simp[intOf];omega⟩
   ·obtain rfl:k=q:=by omega
    go_wp2_with fail
    go_ret
    exact⟨_,rfl,Av.mono (by omega),b1.trans (Bb.mono (by omega))⟩
theorem zts {a b c:Vq} (ha:a.ok=true) (hb:b.ok=true) (hc:c.ok=true) (h1:vlt a b) (h2:vlt b c):vlt a c:=by
 unfold vlt at *;have pa:=gS ha;have pb:=gS hb;have pc:=gS hc;have e1:=Int.mul_lt_mul_of_pos_right h1 pc;have e2:=Int.mul_lt_mul_of_pos_right h2 pa;refine Int.lt_of_mul_lt_mul_right (a:=b.bot) ?_ (Int.le_of_lt pb)
 calc a.top*c.bot*b.bot=a.top*b.bot*c.bot:=by rw[Int.mul_assoc,Int.mul_comm c.bot,<- Int.mul_assoc]
  _<b.top*a.bot*c.bot:=e1
  _=b.top*c.bot*a.bot:=by rw[Int.mul_assoc,Int.mul_comm a.bot,<- Int.mul_assoc]
  _<c.top*b.bot*a.bot:=e2
  _=c.top*a.bot*b.bot:=by rw[Int.mul_assoc,Int.mul_comm b.bot,<- Int.mul_assoc]
theorem rN {s:Sc} (h:s.okB=true) (hg:∀ v∈s.cuts,v.good=true):Nq s.kd s.cuts:=by
 refine⟨hg,fun c hc=>(iY h c hc).1,fun c hc=>(iY h c hc).2,?_⟩
 have qrf:∀ i,i+1<s.cuts.length->vlt (s.cuts[i]?.getD v0) (s.cuts[i+1]?.getD v0):=by
  intro i hi
  unfold Sc.okB at h
  split at h
  ·rw[beq_iff_eq]at h;omega
  ·simp only[Bool.and_eq_true,List.all_eq_true,List.mem_range]at h
   have := h.2 (i+1) hi;unfold Vx at this;simp only[Bool.and_eq_true,Bool.or_eq_true,beq_iff_eq,Nat.add_one_ne_zero,false_or,Nat.add_sub_cancel,Bool.not_eq_true']at this;have h9:=this.2;unfold vle at h9;rw[decide_eq_false_iff_not]at h9;unfold vlt;omega
 have Ay:∀ i,i<s.cuts.length->(s.cuts[i]?.getD v0).ok=true:=fun i hi=>by
  rw[Ac hi];exact(iY h _ (List.getElem_mem hi)).1
 have key:∀ d i,i+d+1<s.cuts.length->vlt (s.cuts[i]?.getD v0) (s.cuts[i+d+1]?.getD v0):=by
  intro d
  induction d with
  | zero=>intro i hi;exact qrf i hi
  | succ d ih =>
   intro i hi
   exact zts (Ay _ (by omega)) (Ay (i+d+1) (by omega)) (Ay _ hi) (ih i (by omega)) (qrf (i+d+1) hi)
 rw[List.pairwise_iff_getElem];intro i j hi hj Zi
 have := key (j-i-1) i (by omega);rw[show i+(j-i-1)+1=j by omega,Ac hi,Ac hj]at this;exact this
def U6 (s:Sc) (v:Vq):Int × Bool :=
 if s.okB=false\/v.ok=false then(0,false)else if s.kd=0 then(if v.kd=1 then(v.i,true)else(0,false))else if v.kd≠s.kd then(0,false)
 else if fnd s.cuts v=true then(2*(Eu s.cuts v:Int)+1,true)else(2*(Eu s.cuts v:Int),true)
theorem zqo (K:Nat) (s:Sc) (y:Sv) (v:Vq) (x:Vv) (w:World) (hs:ScX K w s y) (hx:VlX K w v x) (hK:K<=w.heap.size) (Jt:∀ c∈s.cuts,c.good=true) (Y5:v.good=true) (Dr:s.cuts.length<=2^38) :
  Calls Tryz.prog 9 #[y.agg,x.agg] w fun e w'=>e=.returned (.tuple #[.int .i64 (U6 s v).1,.bool (U6 s v).2])/\Below w.heap.size w w':=by
 obtain⟨W1,Ah⟩:=Ae ((w.alloc (.cells y.cells 46)).alloc (.cells x.cells 41))
 have b1:Below w.heap.size w W1:=by rw[<- Ah];exact(Af _ _).alloc (by simp) _
 have q1:Blk W1 w.heap.size y.cells 46:=by rw[<- Ah];exact(Blk.new w _ _).alloc _
 have q2:Blk W1 (w.heap.size+1) x.cells 41:=by
  rw[<- Ah];have := Blk.new (w.alloc (.cells y.cells 46)) x.cells 41;rwa[World.size_alloc]at this
 have s1:W1.heap.size=w.heap.size+2:=by rw[<- Ah];simp
 obtain⟨B,hB⟩:=Ae w.heap.size;have HB:=Aa hB;have HW:=Aa Ah;rw[hB]at hK b1 q1 q2 s1 ⊢;have hv:=gA B s y W1 (hs.below b1 hK hK) (by omega) Jt Dr;have Ri:=hs.cuts.below b1 hK hK;have Ck:=hx.below b1 hK hK;have Br:=hs.kd;clear hB Ah hs hx;obtain⟨va,vcap,Qb,_,_⟩:=id Ri.form;obtain⟨a1,m1,Bu,_⟩:=Ck.n.form;obtain⟨a2,m2,Bs,_⟩:=Ck.d.form;have Rv:=Ck.kd;have jF:=Ck.i;obtain⟨⟨yop,ynm,yk,yb3,⟨y4,y4n,y4m⟩,yb5,⟨y6,y6n,y6m⟩,yi7,⟨y8,y8n,y8m⟩⟩,sk,⟨ca,cn,cm⟩⟩:=y;dsimp only[Sl.val]at Qb Br Ri;simp only[Value.slice.injEq]at Qb;obtain⟨rfl,rfl,rfl⟩:=Qb;subst Br;obtain⟨l1n,dF⟩:∃ n,v.l1.length=n:=⟨_,rfl⟩;obtain⟨l2n,bF⟩:∃ n,v.l2.length=n:=⟨_,rfl⟩;rw[dF]at Bu;rw[bF]at Bs;have HX:=Aa Ck;have zav:=Aa Ri;obtain⟨kx,f1,x1,f2,x2,xi⟩:=x;dsimp only at Bu Bs Rv jF;subst Bu Bs
 have S9:∀ W,Below W1.heap.size W1 W->Calls Tryz.prog 26 #[.agg #[.int .u8 kx,.bool f1,.slice a1 l1n m1,.bool f2,.slice a2 l2n m2,.int .i64 xi]] W fun e w'=>e=.returned (.bool v.ok)/\Below W.heap.size W w':=fun W hb=>by
  have := hb.size;exact xQ B v ⟨kx,f1,.slice a1 l1n m1,f2,.slice a2 l2n m2,xi⟩ W (Ck.below hb (by rw[s1];omega) (Ab _)) (by rw[s1]at this;omega) Y5
 have Fh:s.okB=true->v.ok=true->kx=s.kd->∀ W,Below W1.heap.size W1 W->Calls Tryz.prog 27 #[.pointer (some ⟨B,0,none⟩),.agg #[.int .u8 kx,.bool f1,.slice a1 l1n m1,.bool f2,.slice a2 l2n m2,.int .i64 xi]] W fun e w'=>e=.returned (.tuple #[.int .i64 (Eu s.cuts v),.bool (fnd s.cuts v)])/\Below W.heap.size W w':=fun h1 h2 h3 W hb=>by
  have := hb.size;have hq:=q1.below hb q1.lt;exact qgj B B 0 _ s.cuts s.kd v ⟨kx,f1,.slice a1 l1n m1,f2,.slice a2 l2n m2,xi⟩ W (Ri.below hb (by rw[s1];omega) (Ab _)) (Ck.below hb (by rw[s1];omega) (Ab _)) (rN h1 Jt) Y5 h2 (by rw[<- Rv];exact h3) (by rw[s1]at this;omega) (hq.at rfl) (by rw[s1]at this;omega) Dr
 obtain⟨n,Et⟩:=Ae s.cuts.length;rw[Et]at hv Ri q1 HW Dr ⊢;have X9:=Aa S9;have F4:=Aa Fh;have Bc:=Aa q1;have Bw:=Aa q2
 have X8:Eu s.cuts v<=n:=by rw[<- Et];exact wB _ _
 obtain⟨rs,Ih⟩:∃ r,s.okB=r:=⟨_,rfl⟩;rw[Ih]at hv;have Lw:=Aa Ih;have zex:=Aa Rv;have qib:=Aa jF;have HN:=Aa Et;obtain⟨kd,Br⟩:=Ae s.kd;rw[Br]at hv HW Bc ⊢;have Px:=Aa Br;obtain⟨C,hC⟩:=Ae (U6 s v);rw[hC];have HC:=Aa hC;obtain⟨d0,d1,d2,d3,d4,d5,d6,d7,d8,d9,d10⟩:=q1.eleven;rw[Br]at d9;clear dF bF S9 Fh Ri Ih Rv jF Ck Jt Y5 Et q1 q2 Br hC
 cases rs with
 | false =>
  have hc:=HC.out;unfold U6 at hc;rw[if_pos (.inl Lw.out)]at hc;subst hc;go_enter Tryz.func9,Tryz.ntmps9
  go_upto_region 1 with fail
  simp only[HB.out];rw[HW.out];go_wp2_with fail
  refine hv.mono ?_;rintro e w2 ⟨rfl,Ai⟩;go_wp2_with fail
  go_ret2
  exact⟨rfl,b1.trans (Ai.mono (by omega))⟩
 | true =>
  obtain⟨rv,Qm⟩:∃ r,v.ok=r:=⟨_,rfl⟩;rw[Qm]at X9;have aH:=Aa Qm;clear Qm
  cases rv with
  | false =>
   have hc:=HC.out;unfold U6 at hc;rw[if_pos (.inr aH.out)]at hc;subst hc;go_enter Tryz.func9,Tryz.ntmps9
   go_upto_region 1 with fail
   simp only[HB.out];rw[HW.out];have Ov:=Below.refl W1.heap.size W1;obtain⟨u0,u1,u2,u3,u4,u5⟩:=Bw.out.six;go_wp2_with fail
   refine hv.mono ?_;rintro e w2 ⟨rfl,Ai⟩;clear u0 u1 u2 u3 u4 u5;obtain⟨u0,u1,u2,u3,u4,u5⟩:=(Bw.out.below Ai (by omega)).six;go_wp2_with fail
   refine(X9.out _ Ai).mono ?_;rintro e w3 ⟨rfl,Ak⟩;go_wp2_with fail
   go_ret2
   exact⟨rfl,b1.trans ((Ai.trans (Ak.mono Ai.size)).mono (by omega))⟩
  | true =>
   have hc:=HC.out;unfold U6 at hc;rw[if_neg (by rw[Lw.out,aH.out];simp),Px.out,<- zex.out,<- qib.out]at hc
   by_cases h0:kd=0
   ·subst h0
    rw[if_pos rfl]at hc
    by_cases h1:kx=1
    ·subst h1
     rw[if_pos rfl]at hc;subst hc;go_enter Tryz.func9,Tryz.ntmps9
     go_upto_region 1 with fail
     simp only[HB.out];rw[HW.out];obtain⟨u0,u1,u2,u3,u4,u5⟩:=Bw.out.six;go_wp2_with fail
     refine hv.mono ?_;rintro e w2 ⟨rfl,Ai⟩;clear u0 u1 u2 u3 u4 u5;obtain⟨u0,u1,u2,u3,u4,u5⟩:=(Bw.out.below Ai (by omega)).six;go_wp2_with fail
     refine(X9.out _ Ai).mono ?_;rintro e w3 ⟨rfl,Ak⟩;clear u0 u1 u2 u3 u4 u5 d0 d1 d2 d3 d4 d5 d6 d7 d8 d9 d10;have Ob:Below W1.heap.size W1 w3:=Ai.trans (Ak.mono Ai.size);clear Ai Ak;obtain⟨u0,u1,u2,u3,u4,u5⟩:=(Bw.out.below Ob (by omega)).six;have d9:=(Bc.out.below Ob (by omega)).at (i:=9) rfl;go_wp2_with fail
     go_ret2
     exact⟨rfl,b1.trans (Ob.mono (by omega))⟩
    ·rw[if_neg h1]at hc
     subst hc
     have e1:(kx==1)=false:=by simpa using h1
     have e2:(kx != 1)=true:=by simpa using h1
     go_enter Tryz.func9,Tryz.ntmps9
     go_upto_region 1 with fail
     simp only[HB.out];rw[HW.out];obtain⟨u0,u1,u2,u3,u4,u5⟩:=Bw.out.six;go_wp2_with fail
     refine hv.mono ?_;rintro e w2 ⟨rfl,Ai⟩;clear u0 u1 u2 u3 u4 u5;obtain⟨u0,u1,u2,u3,u4,u5⟩:=(Bw.out.below Ai (by omega)).six;go_wp2_with fail
     refine(X9.out _ Ai).mono ?_;rintro e w3 ⟨rfl,Ak⟩;clear u0 u1 u2 u3 u4 u5 d0 d1 d2 d3 d4 d5 d6 d7 d8 d9 d10;have Ob:Below W1.heap.size W1 w3:=Ai.trans (Ak.mono Ai.size);clear Ai Ak;obtain⟨u0,u1,u2,u3,u4,u5⟩:=(Bw.out.below Ob (by omega)).six;have d9:=(Bc.out.below Ob (by omega)).at (i:=9) rfl;go_wp2_with fail
     go_ret2
     exact⟨rfl,b1.trans (Ob.mono (by omega))⟩
   ·rw[if_neg h0]at hc
    have e0:(kd==0)=false:=by simpa using h0
    by_cases h1:kx=kd
    ·rw[if_neg (by simpa using h1)]at hc
     subst h1;have Cd:=F4.out Lw.out aH.out Px.out.symm;obtain⟨f,hf⟩:=Ae (fnd s.cuts v);obtain⟨r,hr⟩:=Ae (Eu s.cuts v);rw[hf,hr]at Cd hc;rw[hr]at X8;have Kw:IntKind.i64.wrap (2*(r:Int))=2*(r:Int):=IntWalk.i64_in _ (by omega);have Gs:IntKind.i64.wrap (2*(r:Int)+1)=2*(r:Int)+1:=IntWalk.i64_in _ (by omega);have HS:=Aa Cd;clear Cd hf hr h0;go_enter Tryz.func9,Tryz.ntmps9
     go_upto_region 1 with fail
     simp only[HB.out];rw[HW.out];obtain⟨u0,u1,u2,u3,u4,u5⟩:=Bw.out.six;go_wp2_with fail
     refine hv.mono ?_;rintro e w2 ⟨rfl,Ai⟩;clear u0 u1 u2 u3 u4 u5;obtain⟨u0,u1,u2,u3,u4,u5⟩:=(Bw.out.below Ai (by omega)).six;go_wp2_with fail
     refine(X9.out _ Ai).mono ?_;rintro e w3 ⟨rfl,Ak⟩;clear u0 u1 u2 u3 u4 u5 d0 d1 d2 d3 d4 d5 d6 d7 d8 d9 d10;have Ob:Below W1.heap.size W1 w3:=Ai.trans (Ak.mono Ai.size);clear Ai Ak;obtain⟨u0,u1,u2,u3,u4,u5⟩:=(Bw.out.below Ob (by omega)).six;have d9:=(Bc.out.below Ob (by omega)).at (i:=9) rfl;go_wp2_with fail
     refine(HS.out _ Ob).mono ?_;rintro e w4 ⟨rfl,Al⟩;have qoo:Below W1.heap.size W1 w4:=Ob.trans (Al.mono Ob.size)
     cases f with
     | true =>
      rw[if_pos rfl]at hc;subst hc;go_wp2_with fail
      go_ret2
      exact⟨rfl,b1.trans (qoo.mono (by omega))⟩
     | false =>
      rw[if_neg (by simp)]at hc;subst hc;go_wp2_with fail
      go_ret2
      exact⟨rfl,b1.trans (qoo.mono (by omega))⟩
    ·rw[if_pos h1]at hc
     subst hc
     have e1:(kx==kd)=false:=by simpa using h1
     have e2:(kx != kd)=true:=by simpa using h1
     clear h0 h1;go_enter Tryz.func9,Tryz.ntmps9
     go_upto_region 1 with fail
     simp only[HB.out];rw[HW.out];obtain⟨u0,u1,u2,u3,u4,u5⟩:=Bw.out.six;go_wp2_with fail
     refine hv.mono ?_;rintro e w2 ⟨rfl,Ai⟩;clear u0 u1 u2 u3 u4 u5;obtain⟨u0,u1,u2,u3,u4,u5⟩:=(Bw.out.below Ai (by omega)).six;go_wp2_with fail
     refine(X9.out _ Ai).mono ?_;rintro e w3 ⟨rfl,Ak⟩;clear u0 u1 u2 u3 u4 u5 d0 d1 d2 d3 d4 d5 d6 d7 d8 d9 d10;have Ob:Below W1.heap.size W1 w3:=Ai.trans (Ak.mono Ai.size);clear Ai Ak;obtain⟨u0,u1,u2,u3,u4,u5⟩:=(Bw.out.below Ob (by omega)).six;have d9:=(Bc.out.below Ob (by omega)).at (i:=9) rfl;go_wp2_with fail
     go_ret2
     exact⟨rfl,b1.trans (Ob.mono (by omega))⟩
abbrev Me (kd i:Int):Vv:=⟨kd,false,.slice none 0 0,false,.slice none 0 0,i⟩
def Pd (kd i:Int):Vq:=⟨kd,false,[],false,[],i⟩
theorem rR (K:Nat) (w:World) (kd i:Int):VlX K w (Pd kd i) (Me kd i):=⟨rfl,rfl,rfl,rfl,Lm.nil K w,Lm.nil K w⟩
theorem y9 {kd:Int} (h:Ky kd=true):(kd != 2)=true/\(kd != 3)=true/\(kd==0)=false:=by
 unfold Ky at h;simp only[Bool.or_eq_true,beq_iff_eq]at h;refine⟨?_,?_,?_⟩<;>simp<;>omega
theorem zu9 (kd i n:Int) (f1 f2:Bool) (a1 a2:Option Addr) (n1 m1 n2 m2:Nat) (w:World) (hk:Ky kd=true) (hi : -1048576<=i/\i<=1048576) (hn : -2<=n/\n<=2) :
  Calls Tryz.prog 48 #[(⟨kd,f1,.slice a1 n1 m1,f2,.slice a2 n2 m2,i⟩:Vv).agg,.int .i64 n] w fun e w'=>e=.returned (.tuple #[(Me kd (i+n)).agg,.bool true])/\Below w.heap.size w w':=by
 obtain⟨W1,Ah⟩:=Ae ((w.alloc (.cells (⟨kd,f1,.slice a1 n1 m1,f2,.slice a2 n2 m2,i⟩:Vv).cells 41)).alloc (.cells vv0.cells 41))
 have b1:Below w.heap.size w W1:=by rw[<- Ah];exact(Af _ _).alloc (by simp) _
 have q1:Blk W1 w.heap.size (⟨kd,f1,.slice a1 n1 m1,f2,.slice a2 n2 m2,i⟩:Vv).cells 41:=by rw[<- Ah];exact(Blk.new w _ _).alloc _
 have q2:Blk W1 (w.heap.size+1) vv0.cells 41:=by
  rw[<- Ah];have := Blk.new (w.alloc (.cells (⟨kd,f1,.slice a1 n1 m1,f2,.slice a2 n2 m2,i⟩:Vv).cells 41)) vv0.cells 41;rwa[World.size_alloc]at this
 have s1:W1.heap.size=w.heap.size+2:=by rw[<- Ah];simp
 obtain⟨B,hB⟩:=Ae w.heap.size;have HB:=Aa hB;have HW:=Aa Ah;rw[hB]at b1 q1 q2 s1 ⊢;dsimp only[Vv.cells,vv0]at HW;obtain⟨e2,e3,_⟩:=y9 hk;obtain⟨c0,c1,c2,c3,c4,c5⟩:=q1.six;have Kw:IntKind.i64.wrap (i+n)=i+n:=IntWalk.i64_in _ (by omega)
 have Bd:∀ u∈(Me kd (i+n)).cells,u.oneCell'=true:=by simp[Value.oneCell']
 have Bw:=Aa q2
 have infoV:(Tryz.prog.info? 41).map (fun i=>i.size)=some 6:=by kernel_rfl
 have HI:=Aa infoV;clear hB Ah hi hn hk q2 infoV;go_enter Tryz.func48,Tryz.ntmps48
 go_upto_region 1 with fail
 simp only[HB.out];rw[HW.out]
 go_upto_region 2 with fail
 go_wp2_with (refine Gu rfl 41 41 (.tmp 4) (.tmp 22) rfl (Me kd (i+n)).cells _ (B+1) Bw.out HI.out rfl Bd rfl rfl ?_;intro W2 t1 t2 t3 t4)
 refine bodyPost_ret (v:=.tuple #[(Me kd (i+n)).agg,.bool true]) ?_ rfl ?_
 ·obtain⟨e0,e1,e2,e3,e4,e5⟩:=t1.six
  simp[results,Tryz.results48,go_sem,e0,e1,e2,e3,e4,e5]
 exact⟨rfl,b1.trans (t2 _ (by omega))⟩
theorem zvh (kd i j:Int) (f1 f2 g1 g2:Bool) (a1 a2 a3 a4:Option Addr) (n1 m1 n2 m2 n3 m3 n4 m4:Nat) (w:World) (hk:Ky kd=true) (hi : -1048576<=i/\i<=1048576) (hj : -1048576<=j/\j<=1048576) (k2:Int) :
  Calls Tryz.prog 49 #[(⟨kd,f1,.slice a1 n1 m1,f2,.slice a2 n2 m2,i⟩:Vv).agg,(⟨k2,g1,.slice a3 n3 m3,g2,.slice a4 n4 m4,j⟩:Vv).agg] w fun e w'=>e=.returned (.tuple #[(Me kd ((i+j)/2)).agg,.bool true])/\Below w.heap.size w w':=by
 obtain⟨W1,Ah⟩:=Ae (((w.alloc (.cells (⟨kd,f1,.slice a1 n1 m1,f2,.slice a2 n2 m2,i⟩:Vv).cells 41)).alloc (.cells (⟨k2,g1,.slice a3 n3 m3,g2,.slice a4 n4 m4,j⟩:Vv).cells 41)).alloc (.cells vv0.cells 41));obtain⟨b1,q1,q2,q3,s1⟩:=N4 w _ _ _ _ _ _ Ah;obtain⟨B,hB⟩:=Ae w.heap.size;have HB:=Aa hB;have HW:=Aa Ah;rw[hB]at b1 q1 q2 q3 s1 ⊢;dsimp only[Vv.cells,vv0]at HW;obtain⟨e2,e3,_⟩:=y9 hk;obtain⟨c0,c1,c2,c3,c4,c5⟩:=q1.six;have u5:=q2.at (i:=5) (x:=.int .i64 j) rfl;obtain⟨t,ht⟩:=Ae (i+j)
 have Kw:IntKind.i64.wrap (i+j)=t:=by rw[ht];exact IntWalk.i64_in _ (by omega)
 rw[ht]
 have Bd:∀ u∈(Me kd (t/2)).cells,u.oneCell'=true:=by simp[Value.oneCell']
 have Hz:=Aa q3
 have infoV:(Tryz.prog.info? 41).map (fun i=>i.size)=some 6:=by kernel_rfl
 have HI:=Aa infoV;clear hB Ah hi hj hk q3 infoV ht;go_enter Tryz.func49,Tryz.ntmps49
 go_upto_region 1 with fail
 simp only[HB.out,Nat.add_assoc,Nat.reduceAdd];rw[HW.out]
 go_upto_region 2 with fail
 go_wp2_with (refine Gu rfl 41 41 (.tmp 4) (.tmp 24) rfl (Me kd (t/2)).cells _ (B+2) Hz.out HI.out rfl Bd rfl rfl ?_;intro W2 t1 t2 t3 t4)
 refine bodyPost_ret (v:=.tuple #[(Me kd (t/2)).agg,.bool true]) ?_ rfl ?_
 ·obtain⟨e0,e1,e2,e3,e4,e5⟩:=t1.six
  simp[results,Tryz.results49,go_sem,e0,e1,e2,e3,e4,e5]
 exact⟨rfl,b1.trans (t2 _ (by omega))⟩
def bV (t:Tq) (s:Sc) (c:Int):Bool × Bool :=
 if t.kd=0 then(c==1,true)else if fnd s.cuts t.cut=false then(false,false)
 else if t.op=14 then(c==2*(Eu s.cuts t.cut:Int)+1,true)
 else if t.snd=true then(decide (2*(Eu s.cuts t.cut:Int)+1<c),true)else(decide (c<2*(Eu s.cuts t.cut:Int)+1),true)
theorem zqn (K:Nat) (t:Tq) (s:Sc) (c:Int) (x:Tv) (y:Sv) (w:World) (ht:TqX K w t x) (hs:ScX K w s y) (hK:K<=w.heap.size) (Em:Nq s.kd s.cuts) (Ea:t.kd≠0->t.cut.good=true/\t.cut.ok=true/\t.cut.kd=s.kd) (Dr:s.cuts.length<=2^38) :
  Calls Tryz.prog 98 #[x.agg,y.agg,.int .i64 c] w fun e w'=>e=.returned (.tuple #[.bool (bV t s c).1,.bool (bV t s c).2])/\Below w.heap.size w w':=by
 obtain⟨W1,Ah⟩:=Ae ((w.alloc (.cells x.cells 79)).alloc (.cells y.cells 46))
 have b1:Below w.heap.size w W1:=by rw[<- Ah];exact(Af _ _).alloc (by simp) _
 have q1:Blk W1 w.heap.size x.cells 79:=by rw[<- Ah];exact(Blk.new w _ _).alloc _
 have q2:Blk W1 (w.heap.size+1) y.cells 46:=by
  rw[<- Ah];have := Blk.new (w.alloc (.cells x.cells 79)) y.cells 46;rwa[World.size_alloc]at this
 have s1:W1.heap.size=w.heap.size+2:=by rw[<- Ah];simp
 obtain⟨B,hB⟩:=Ae w.heap.size;have HB:=Aa hB;have HW:=Aa Ah;rw[hB]at hK b1 q1 q2 s1 ⊢;have Ri:=hs.cuts.below b1 hK hK;have Ck:=ht.cut.below b1 hK hK;have Br:=hs.kd;have qa8:=ht.kd;have nH:=ht.op;have qip:=ht.snd;clear hB Ah hs ht;obtain⟨va,vcap,Qb,_,_⟩:=id Ri.form;obtain⟨a1,m1,Bu,_⟩:=Ck.n.form;obtain⟨a2,m2,Bs,_⟩:=Ck.d.form;have Rv:=Ck.kd;obtain⟨⟨yop,ynm,yk,yb3,⟨y4,y4n,y4m⟩,yb5,⟨y6,y6n,y6m⟩,yi7,⟨y8,y8n,y8m⟩⟩,sk,⟨ca,cn,cm⟩⟩:=y;dsimp only[Sl.val]at Qb Br Ri;simp only[Value.slice.injEq]at Qb;obtain⟨rfl,rfl,rfl⟩:=Qb;subst Br;obtain⟨l1n,dF⟩:∃ n,t.cut.l1.length=n:=⟨_,rfl⟩;obtain⟨l2n,bF⟩:∃ n,t.cut.l2.length=n:=⟨_,rfl⟩;rw[dF]at Bu;rw[bF]at Bs;obtain⟨⟨xop,xnm,xk,xb3,⟨x4,x4n,x4m⟩,xb5,⟨x6,x6n,x6m⟩,xi7,⟨x8,x8n,x8m⟩⟩,tk,⟨kx,f1,x1,f2,x2,xi⟩,top_,tsn⟩:=x;dsimp only at Bu Bs Rv qa8 nH qip Ck;subst Bu Bs
 have Fh:t.kd≠0->∀ W,Below W1.heap.size W1 W->Calls Tryz.prog 27 #[.pointer (some ⟨B+1,0,none⟩),.agg #[.int .u8 kx,.bool f1,.slice a1 l1n m1,.bool f2,.slice a2 l2n m2,.int .i64 xi]] W fun e w'=>e=.returned (.tuple #[.int .i64 (Eu s.cuts t.cut),.bool (fnd s.cuts t.cut)])/\Below W.heap.size W w':=fun h0 W hb=>by
  obtain⟨h1,h2,h3⟩:=Ea h0;have := hb.size;have hq:=q2.below hb q2.lt;exact qgj B (B+1) 0 _ s.cuts s.kd t.cut ⟨kx,f1,.slice a1 l1n m1,f2,.slice a2 l2n m2,xi⟩ W (Ri.below hb (by rw[s1];omega) (Ab _)) (Ck.below hb (by rw[s1];omega) (Ab _)) Em h1 h2 h3 (by rw[s1]at this;omega) (hq.at rfl) (by rw[s1]at this;omega) Dr
 obtain⟨n,Et⟩:=Ae s.cuts.length;rw[Et]at q2 HW Dr ⊢;have F4:=Aa Fh
 have X8:Eu s.cuts t.cut<=n:=by rw[<- Et];exact wB _ _
 obtain⟨C,hC⟩:=Ae (bV t s c);rw[hC];unfold bV at hC;rw[<- qa8,<- nH,<- qip]at hC;obtain⟨kd,Br⟩:=Ae s.kd;rw[Br]at HW q2 ⊢;have Bc:=Aa q1;have Bw:=Aa q2;have d9:=q1.at (i:=9) (x:=.int .u8 tk) rfl;have d10:=q1.at (i:=10) (x:=.int .u8 kx) rfl;have d11:=q1.at (i:=11) (x:=.bool f1) rfl;have d12:=q1.at (i:=12) (x:=.slice a1 l1n m1) rfl;have d13:=q1.at (i:=13) (x:=.bool f2) rfl;have d14:=q1.at (i:=14) (x:=.slice a2 l2n m2) rfl;have d15:=q1.at (i:=15) (x:=.int .i64 xi) rfl
 have ltB:B<W1.heap.size:=by omega
 have Vo:Hid (tk≠0->t.kd≠0):=Aa fun h=>by rw[<- qa8];exact h
 clear dF bF Ri Ck Et q1 q2 Br Fh Rv qa8 nH qip Ea Em
 by_cases h0:tk=0
 ·subst h0
  rw[if_pos rfl]at hC;subst hC;go_enter Tryz.func98,Tryz.ntmps98
  go_upto_region 1 with fail
  simp only[HB.out];rw[HW.out];go_wp2_with fail
  go_ret2
  exact⟨rfl,b1⟩
 ·rw[if_neg h0]at hC
  have e0:(tk==0)=false:=by simpa using h0
  have Cd:=F4.out (Vo.out h0) W1 (Below.refl _ _);obtain⟨f,hf⟩:=Ae (fnd s.cuts t.cut);obtain⟨r,hr⟩:=Ae (Eu s.cuts t.cut);rw[hf,hr]at Cd hC;rw[hr]at X8;have Kw:IntKind.i64.wrap (2*(r:Int))=2*(r:Int):=IntWalk.i64_in _ (by omega);have Gs:IntKind.i64.wrap (2*(r:Int)+1)=2*(r:Int)+1:=IntWalk.i64_in _ (by omega);have HS:=Aa Cd;clear Cd hf hr h0;go_enter Tryz.func98,Tryz.ntmps98
  go_upto_region 1 with fail
  simp only[HB.out];rw[HW.out];go_wp2_with fail
  refine HS.out.mono ?_;rintro e w2 ⟨rfl,Ai⟩;clear d9 d10 d11 d12 d13 d14 d15;have d16:=(Bc.out.below Ai ltB).at (i:=16) (x:=.int .u8 top_) rfl;have d17:=(Bc.out.below Ai ltB).at (i:=17) (x:=.bool tsn) rfl
  cases f with
  | false =>
   rw[if_pos rfl]at hC;subst hC;go_wp2_with fail
   go_ret2
   exact⟨rfl,b1.trans (Ai.mono (by omega))⟩
  | true =>
   rw[if_neg (by simp)]at hC
   by_cases ho:top_=14
   ·subst ho
    rw[if_pos rfl]at hC;subst hC;go_wp2_with fail
    go_ret2
    exact⟨rfl,b1.trans (Ai.mono (by omega))⟩
   ·rw[if_neg ho]at hC
    have e1:(top_==14)=false:=by simpa using ho
    cases tsn with
    | true =>
     rw[if_pos rfl]at hC;subst hC;go_wp2_with fail
     go_ret2
     exact⟨rfl,b1.trans (Ai.mono (by omega))⟩
    | false =>
     rw[if_neg (by simp)]at hC;subst hC;go_wp2_with fail
     go_ret2
     exact⟨rfl,b1.trans (Ai.mono (by omega))⟩
def qU (l:List Sc) (cs:List Int) (e:Gx):Bool × Bool :=
 if l.findIdx (Ec e).belongs<l.length then bV (Ec e) (l[l.findIdx (Ec e).belongs]?.getD default) (cs[l.findIdx (Ec e).belongs]?.getD 0)else(false,false)
def A7 (o:Int) (f:Nat->Bool):Bool:=if o=15 then f 0 && f 1 else if o=16 then f 0 || f 1 else if o=17 then !f 0 else if f 0 then f 1 else f 2
mutual
def Ll (l:List Sc) (cs:List Int):Gx->Bool × Bool
 | .mk o n v es=>if(Gx.mk o n v es).settled then(v.i==1,true)else if(Gx.mk o n v es).composed then(A7 o fun k=>((nY l cs es)[k]?.getD (false,true)).1,(nY l cs es).all (·.2))else qU l cs (.mk o n v es)
def nY (l:List Sc) (cs:List Int):List Gx->List (Bool × Bool)
 | []=>[]
 | e::r=>Ll l cs e::nY l cs r
end
theorem zws (l:List Sc) (cs:List Int) (es:List Gx):nY l cs es=es.map (Ll l cs):=by
 induction es with
 | nil=>rw[nY];rfl
 | cons e r ih=>rw[nY,ih];rfl
def Rf (l:List Sc) (cs:List Int) (e:Gx) (k:Nat):Bool × Bool:=((e.args.map (Ll l cs))[k]?.getD (false,true))
theorem zin (l:List Sc) (cs:List Int) (e:Gx):Ll l cs e=if e.settled then(e.v.i==1,true)else if e.composed then(A7 e.op fun k=>(Rf l cs e k).1,(e.args.map (Ll l cs)).all (·.2))else qU l cs e:=by
 cases e with
 | mk o n v es=>rw[Ll,zws];rfl
theorem zka {l:List Sc} {cs:List Int} {e a:Gx} {k:Nat} (h:e.args[k]?=some a):Rf l cs e k=Ll l cs a:=by
 unfold Rf;rw[List.getElem?_map,h];rfl
theorem zki {e:Gx} (h:e.composed=true):e.args.length<=3:=by
 unfold Gx.composed at h;simp only[Bool.or_eq_true,Bool.and_eq_true,beq_iff_eq]at h;omega
def Wm (l:List Sc) (cs:List Int) (e:Gx) (j:Nat):Bool:=((e.args.map (Ll l cs)).take j).all (·.2)
theorem zlh (l:List Sc) (cs:List Int) (e:Gx):Wm l cs e 0=true:=by unfold Wm;simp
theorem zfi {l:List Sc} {cs:List Int} {e a:Gx} {j:Nat} (h:e.args[j]?=some a):Wm l cs e (j+1)=(Wm l cs e j && (Ll l cs a).2):=by
 unfold Wm;have hj:=(List.getElem?_eq_some_iff.1 h).1
 have O5:j<(e.args.map (Ll l cs)).length:=by simpa using hj
 rw[List.take_succ_eq_append_getElem O5,List.all_append]
 have:(e.args.map (Ll l cs))[j]=Ll l cs a:=by
  rw[List.getElem_map];rw[Ac hj]at h;rw[Option.some.inj h]
 rw[this];simp
theorem zmf (l:List Sc) (cs:List Int) (e:Gx):Wm l cs e e.args.length=(e.args.map (Ll l cs)).all (·.2):=by
 unfold Wm;rw[List.take_of_length_le (by simp)]
def Tc (f:Nat->Bool) (j:Nat):Array Value:=#[.bool (decide (0<j) && f 0),.bool (decide (1<j) && f 1),.bool (decide (2<j) && f 2)]
theorem zrp {f:Nat->Bool} {j:Nat} (hj:j<3):(Tc f j).setIfInBounds j (.bool (f j))=Tc f (j+1):=by
 match j,hj with
 | 0,_=>simp[Tc]
 | 1,_=>simp[Tc]
 | 2,_=>simp[Tc]
theorem zsj {f:Nat->Bool} {n:Nat} (h:∀ k,n<=k->f k=false):Tc f n=#[.bool (f 0),.bool (f 1),.bool (f 2)]:=by
 have h2:∀ k,(decide (k<n) && f k)=f k:=fun k=>by
  by_cases hk:k<n
  ·simp[hk]
  ·rw[h k (by omega)];simp
 unfold Tc;rw[h2,h2,h2]
theorem zh1 {l:List Sc} {cs:List Int} {e:Gx} {k:Nat} (h:e.args.length<=k):Rf l cs e k=(false,true):=by
 unfold Rf;rw[List.getElem?_eq_none (by simpa using h)];rfl
def Zq (l:List Sc) (cs:List Int) (i:Nat):Bool:=(l[i]?.getD default).okB && decide (0<=cs[i]?.getD 0) && decide (cs[i]?.getD 0<Hd (l[i]?.getD default).kd (l[i]?.getD default).cuts.length)
def Lp (e:Gx) (l:List Sc) (cs:List Int):Bool × Int :=
 if Tf e=false\/cs.length≠l.length then(false,2)
 else if(List.range l.length).any (fun i => !(Zq l cs i))=true then(false,2)
 else if(Ll l cs e).2=false then(false,2)else((Ll l cs e).1,0)
end Go.Proofs.YtlldjmagbjjeoaaGreatDoor
