/- Contracts and plain laws, several texts in one (GlK4, GlK5, GMadeS, GlM1, GlM2). No conditions beyond those stated. -/
import Derived.Laws.IdiomStrings
import Derived.Test.YtlldjmagbjjeoaaGreatDoorPk24
set_option maxRecDepth 100000
set_option maxHeartbeats 40000000
namespace Go.Proofs.YtlldjmagbjjeoaaGreatDoor
open Go.RowKit
set_option linter.unusedVariables false
theorem Bm:(Tryz.prog.info? 43).map (fun i=>i.size)=some 9:=by kernel_rfl
abbrev Ch (kd:Int) (f1:Bool) (s1:Sl) (f2:Bool) (s2:Sl) (i:Int):Xv:=⟨1,[],kd,f1,s1,f2,s2,i,⟨none,0,0⟩⟩
theorem qh9 (kd:Int) (f1 f2:Bool) (s1 s2:Sl) (i:Int) (w:World):Calls Tryz.prog 59 #[(⟨kd,f1,s1.val,f2,s2.val,i⟩:Vv).agg] w fun e w'=>e=.returned (Ch kd f1 s1 f2 s2 i).agg/\Below w.heap.size w w':=by
 obtain⟨a1,n1,m1⟩:=s1;obtain⟨a2,n2,m2⟩:=s2
 have Bd:∀ u∈(Ch kd f1 ⟨a1,n1,m1⟩ f2 ⟨a2,n2,m2⟩ i).cells,u.oneCell'=true:=by simp[Value.oneCell']
 obtain⟨W1,Ah⟩:=Ae (w.alloc (.cells (⟨kd,f1,.slice a1 n1 m1,f2,.slice a2 n2 m2,i⟩:Vv).cells 41))
 have q1:Blk W1 w.heap.size (⟨kd,f1,.slice a1 n1 m1,f2,.slice a2 n2 m2,i⟩:Vv).cells 41:=by rw[<- Ah];exact Blk.new w _ _
 have b1:Below w.heap.size w W1:=by rw[<- Ah];exact Af _ _
 have s1:W1.heap.size=w.heap.size+1:=by rw[<- Ah];simp
 have HW:=Aa Ah;dsimp only[Vv.cells]at HW;obtain⟨c0,c1,c2,c3,c4,c5⟩:=q1.six
 have Aj:w.heap.size<W1.heap.size:=by omega
 have At:¬ w.heap.size=W1.heap.size:=by omega
 clear Ah;go_enter Tryz.func59,Tryz.ntmps59
 go_upto_region 1 with fail
 rw[HW.out];go_wp2_with (refine Iu rfl 43 (.tmp 2) (.tmp 4) rfl (Ch kd f1 ⟨a1,n1,m1⟩ f2 ⟨a2,n2,m2⟩ i).cells _ Bm rfl Bd (w.heap.size+1) s1.symm rfl rfl ?_)
 have qn:Blk (W1.alloc (.cells (Ch kd f1 ⟨a1,n1,m1⟩ f2 ⟨a2,n2,m2⟩ i).cells 43)) (w.heap.size+1) (Ch kd f1 ⟨a1,n1,m1⟩ f2 ⟨a2,n2,m2⟩ i).cells 43:=by
  have := Blk.new W1 (Ch kd f1 ⟨a1,n1,m1⟩ f2 ⟨a2,n2,m2⟩ i).cells 43;rwa[s1]at this
 refine bodyPost_ret (Pk rfl _ _ (w.heap.size+1) _ _ qn rfl Tryz.underlying43 rfl Bm) rfl ?_;exact⟨rfl,b1.trans ((Below.refl _ _).alloc (by omega) _)⟩
abbrev opX (o:Int) (s:Sl):Xv:=⟨o,[],0,false,⟨none,0,0⟩,false,⟨none,0,0⟩,0,s⟩
theorem C9 (o:Int) (s:Sl) (w:World):Calls Tryz.prog 60 #[.int .u8 o,s.val] w fun e w'=>e=.returned (opX o s).agg/\Below w.heap.size w w':=by
 obtain⟨a1,n1,m1⟩:=s
 have Bd:∀ u∈(opX o ⟨a1,n1,m1⟩).cells,u.oneCell'=true:=by simp[Value.oneCell']
 have b1:Below w.heap.size w (w.alloc (.cells (opX o ⟨a1,n1,m1⟩).cells 43)):=Af _ _;go_enter Tryz.func60,Tryz.ntmps60
 go_upto_region 1 with fail
 go_wp2_with (refine Iu rfl 43 (.tmp 4) (.tmp 7) rfl (opX o ⟨a1,n1,m1⟩).cells _ Bm rfl Bd w.heap.size rfl rfl rfl ?_)
 refine bodyPost_ret (Pk rfl _ _ w.heap.size _ _ (Blk.new w _ _) rfl Tryz.underlying43 rfl Bm) rfl ?_;exact⟨rfl,b1⟩
abbrev V0:Xv:=⟨2,[],0,false,⟨none,0,0⟩,false,⟨none,0,0⟩,0,⟨none,0,0⟩⟩
theorem Lm.one {K n:Nat} {w:World} {v:Value} (h:Lm K w v [n]):∃ a c,v=.slice a 1 c:=by obtain⟨a,c,e,_⟩:=h.form;exact⟨a,c,e⟩
theorem zc2 (K n:Nat) (u v:Value) (w:World) (hu:Lm K w u [n]) (hv:Lm K w v [n]):Calls Tryz.prog 102 #[u,v] w fun e w'=>e=.returned (.bool true)/\Below w.heap.size w w':=by
 obtain⟨b,o,c,rfl,h1,h2,h3,h4⟩:=hu.pos (by simp);obtain⟨b',o',c',rfl,Ve,Qo,zke,qxy⟩:=hv.pos (by simp)
 have c1:w.cell? ⟨b,o,none⟩=some (.int .u16 n):=by have := h4 0 (by simp);simpa using this
 have c2:w.cell? ⟨b',o',none⟩=some (.int .u16 n):=by have := qxy 0 (by simp);simpa using this
 have he:((n:Int) != (n:Int))=false:=by simp
 clear hu hv h4 qxy;simp only[List.length_cons,List.length_nil,Nat.zero_add]at *;go_enter Tryz.func102,Tryz.ntmps102
 go_wp2_with fail
 refine wp_loop_rounds 2 ?_;rw[rounds_succ]
 go_upto_region 6 with fail
 go_quiet (fail)
 go_wp2_with fail
 rw[rounds_succ];go_wp2_with fail
 go_ret
 exact⟨rfl,Gn (Below.refl _ _) _⟩
theorem qpp (K n:Nat) (u v:Value) (w:World) (hu:Lm K w u [n]) (hv:Lm K w v [n]) (hK:K<=w.heap.size):Calls Tryz.prog 80 #[Wv u,Wv v] w fun e w'=>e=.returned (.bool true)/\Below w.heap.size w w':=by
 obtain⟨W1,Ah⟩:=Ae ((w.alloc (.cells #[.bool false,u] 37)).alloc (.cells #[.bool false,v] 37))
 have b1:Below w.heap.size w W1:=by rw[<- Ah];exact(Af _ _).alloc (by simp) _
 have q0:Blk W1 w.heap.size #[.bool false,u] 37:=by rw[<- Ah];exact(Blk.new w _ _).alloc _
 have q1:Blk W1 (w.heap.size+1) #[.bool false,v] 37:=by
  rw[<- Ah];have := Blk.new (w.alloc (.cells #[.bool false,u] 37)) #[.bool false,v] 37;rwa[World.size_alloc]at this
 have hc:=zc2 w.heap.size n u v W1 (hu.below b1 hK hK) (hv.below b1 hK hK);have hs:=b1.size;obtain⟨B,hB⟩:=Ae w.heap.size;have HB:=Aa hB;have HW:=Aa Ah;rw[hB]at b1 q0 q1 hs ⊢;obtain⟨ua,uc,rfl⟩:=hu.one;obtain⟨va,vc,rfl⟩:=hv.one;obtain⟨d0,d1⟩:=q0.two;obtain⟨d2,d3⟩:=q1.two;clear hB Ah;go_enter Tryz.func80,Tryz.ntmps80
 go_upto_region 1 with fail
 simp only[HB.out];rw[HW.out];go_wp2_with fail
 refine hc.mono ?_;rintro e w2 ⟨rfl,Ai⟩;go_wp2_with fail
 go_ret
 exact⟨rfl,b1.trans (Ai.mono hs)⟩
theorem zo6 (K m n:Nat) (u v x y:Value) (w:World) (hu:Lm K w u [m]) (hv:Lm K w v [n]) (hx:Lm K w x [m]) (hy:Lm K w y [n]) (hK:K<=w.heap.size):Calls Tryz.prog 43 #[Fv u v,Fv x y] w fun e w'=>e=.returned (.bool true)/\Below w.heap.size w w':=by
 obtain⟨W1,Ah⟩:=Ae ((w.alloc (.cells #[.bool false,u,.bool false,v] 39)).alloc (.cells #[.bool false,x,.bool false,y] 39))
 have b1:Below w.heap.size w W1:=by rw[<- Ah];exact(Af _ _).alloc (by simp) _
 have q0:Blk W1 w.heap.size #[.bool false,u,.bool false,v] 39:=by rw[<- Ah];exact(Blk.new w _ _).alloc _
 have q1:Blk W1 (w.heap.size+1) #[.bool false,x,.bool false,y] 39:=by
  rw[<- Ah];have := Blk.new (w.alloc (.cells #[.bool false,u,.bool false,v] 39)) #[.bool false,x,.bool false,y] 39;rwa[World.size_alloc]at this
 have hs:=b1.size;have hc:=qpp w.heap.size m u x W1 (hu.below b1 hK hK) (hx.below b1 hK hK) hs
 have Ii:∀ W,Below W1.heap.size W1 W->Calls Tryz.prog 80 #[Wv v,Wv y] W fun e w'=>e=.returned (.bool true)/\Below W.heap.size W w':=fun W hb=>qpp w.heap.size n v y W ((hv.below b1 hK hK).below hb hs (Ab _)) ((hy.below b1 hK hK).below hb hs (Ab _)) (Nat.le_trans hs hb.size)
 have Gh:=Aa Ii
 have s1:W1.heap.size=w.heap.size+2:=by rw[<- Ah];simp
 obtain⟨B,hB⟩:=Ae w.heap.size;have HB:=Aa hB;have HW:=Aa Ah;rw[hB]at b1 q0 q1 hs s1 ⊢;obtain⟨ua,uc,rfl⟩:=hu.one;obtain⟨va,vc,rfl⟩:=hv.one;obtain⟨xa,xc,rfl⟩:=hx.one;obtain⟨ya,yc,rfl⟩:=hy.one;obtain⟨d0,d1,d2,d3⟩:=q0.four;obtain⟨d4,d5,d6,d7⟩:=q1.four;clear hB Ah Ii;go_enter Tryz.func43,Tryz.ntmps43
 go_upto_region 1 with fail
 simp only[HB.out];rw[HW.out];go_wp2_with fail
 refine hc.mono ?_;rintro e w2 ⟨rfl,Ai⟩;clear hc d0 d1 d2 d3 d4 d5 d6 d7;obtain⟨d0,d1,d2,d3⟩:=(q0.below Ai (by omega)).four;obtain⟨d4,d5,d6,d7⟩:=(q1.below Ai (by omega)).four;go_wp2_with fail
 refine(Gh.out w2 Ai).mono ?_;rintro e w3 ⟨rfl,Ak⟩;go_wp2_with fail
 go_ret
 exact⟨rfl,b1.trans ((Ai.trans (Ak.mono Ai.size)).mono hs)⟩
def Uu (v:Vq):Prop:=v.bot=1\/v.bot=2
def tw (v:Vq):Int:=if v.bot=1 then 2*v.top else v.top
theorem zm8 {a b:Vq} (ha:Uu a) (hb:Uu b):vle a b=decide (tw a<=tw b):=by
 unfold vle tw
 rcases ha with ha | ha<;>rcases hb with hb | hb<;>simp[ha,hb]<;>omega
theorem znx {a b:Vq} (ha:Uu a) (hb:Uu b):veq a b=decide (tw a=tw b):=by
 unfold veq tw
 rcases ha with ha | ha<;>rcases hb with hb | hb<;>simp[ha,hb]<;>omega
theorem zb6 {a b:Vq} (ha:Uu a) (hb:Uu b):vlt a b ↔ tw a<tw b:=by
 unfold vlt tw
 rcases ha with ha | ha<;>rcases hb with hb | hb<;>simp[ha,hb]<;>omega
section
variable {l:List Vq} {u v:Vq}
theorem rL (hl:∀ c∈l,Uu c) {i:Nat} (hi:i<l.length):Uu (l[i]?.getD v0):=by
 rw[Ac hi];exact hl _ (List.getElem_mem hi)
theorem zj4 (hl:∀ c∈l,Uu c) (hs:l.Pairwise vlt) {i j:Nat} (Zi:i<j) (hj:j<l.length):tw (l[i]?.getD v0)<tw (l[j]?.getD v0):=by
 rw[<- zb6 (rL hl (by omega)) (rL hl hj),Ac hj,Ac (by omega:i<l.length)];exact List.pairwise_iff_getElem.1 hs i j (by omega) hj Zi
end
def Di (k:Nat):Int:=1+((k%12%6:Nat):Int)
def Fq (k:Nat):Gx:=.mk 5 [115,UInt8.ofNat (48+k%12)] v0 [.mk 2 [] v0 []]
def wV (kd:Int) (n:Nat):Vq:=if kd=2\/kd=3 then⟨kd,false,if n=0 then []else [n],false,[1],0⟩else Pd kd n
def Kv (v:Vq):Gx:=.mk 1 [] v []
def iN:Gx:=Kv (Pd 1 1)
def Lc (x n:Nat):Gx :=
 .mk (if x%4<2 then 13 else 14) [] v0 (if x%2=0 then [Fq (x/3),Kv (wV (Di (x/3)) n)]else [Kv (wV (Di (x/3)) n),Fq (x/3)])
def Rq (x:Nat) (r:List Nat):Gx × List Nat:=if Di (x/3)=1 then(Fq (x/3),r)else(Lc x (r.headD 0%8),r.tail)
def Ca:Nat->List Nat->Gx × List Nat
 | _,[]=>(iN,[])
 | 0,x::r=>Rq x r
 | d+1,x::r =>
  if x%3=0 then
   if x%4=0 then(.mk 17 [] v0 [(Ca d r).1],(Ca d r).2)
   else if x%4=3 then(.mk 18 [] v0 [(Ca d r).1,(Ca d (Ca d r).2).1,(Ca d (Ca d (Ca d r).2).2).1],(Ca d (Ca d (Ca d r).2).2).2)
   else(.mk (15+((x%2:Nat):Int)) [] v0 [(Ca d r).1,(Ca d (Ca d r).2).1],(Ca d (Ca d r).2).2)
  else Rq x r
inductive Md:Gx->Prop
 | tru:Md iN
 | sub (k:Nat):Di k=1->Md (Fq k)
 | tst (x n:Nat):Di (x/3)≠1->n<8->Md (Lc x n)
 | no (a:Gx):Md a->Md (.mk 17 [] v0 [a])
 | two (o:Int) (a b:Gx):(o=15\/o=16)->Md a->Md b->Md (.mk o [] v0 [a,b])
 | ite (a b c:Gx):Md a->Md b->Md c->Md (.mk 18 [] v0 [a,b,c])
theorem qwu (x:Nat) (r:List Nat):Md (Rq x r).1:=by
 unfold Rq
 split
 ·exact .sub _ (by assumption)
 ·exact .tst _ _ (by assumption) (by omega)
theorem cM:∀ (d:Nat) (l:List Nat),Md (Ca d l).1
 | d,[]=>by cases d<;>exact .tru
 | 0,x::r=>qwu x r
 | d+1,x::r=>by
  rw[Ca]
  split
  ·split
   ·exact .no _ (cM d r)
   ·split
    ·exact .ite _ _ _ (cM d r) (cM d _) (cM d _)
    ·exact .two _ _ _ (by omega) (cM d r) (cM d _)
  ·exact qwu x r
theorem qwc (k:Nat):(Fq k).parts=2:=by simp[Fq,Gx.parts,Fu]
theorem qsb (v:Vq):(Kv v).parts=1:=by simp[Kv,Gx.parts,Fu]
theorem zdu (x n:Nat):(Lc x n).parts=4:=by
 by_cases h:x%2=0<;>simp[Lc,h,Gx.parts,Fu,qwc,qsb]
theorem qrj (x:Nat) (r:List Nat):(Rq x r).1.parts<=4/\(Rq x r).2.length<=r.length:=by
 unfold Rq
 split
 ·simp[qwc]
 ·simp[zdu]
theorem U0:∀ (d:Nat) (l:List Nat),(Ca d l).1.parts+4*(Ca d l).2.length<=1+4*l.length
 | d,[]=>by cases d<;>simp[Ca,iN,qsb]
 | 0,x::r=>by have := qrj x r;rw[Ca];simp only[List.length_cons];omega
 | d+1,x::r=>by
  have h1:=U0 d r;have h2:=U0 d (Ca d r).2;have h3:=U0 d (Ca d (Ca d r).2).2;have h0:=qrj x r;rw[Ca];simp only[List.length_cons]
  split
  ·split
   ·simp only[Gx.parts,Fu];omega
   ·split
    ·simp only[Gx.parts,Fu];omega
    ·simp only[Gx.parts,Fu];omega
  ·omega
theorem qre (k:Nat):(Fq k).depth=2:=by simp[Fq,Gx.depth,Tj]
theorem za3 (v:Vq):(Kv v).depth=1:=by simp[Kv,Gx.depth,Tj]
theorem zp7 (x n:Nat):(Lc x n).depth=3:=by
 by_cases h:x%2=0<;>simp[Lc,h,Gx.depth,Tj,qre,za3]
theorem zcj (x:Nat) (r:List Nat):(Rq x r).1.depth<=3:=by
 unfold Rq
 split
 ·simp[qre]
 ·simp[zp7]
theorem yD:∀ (d:Nat) (l:List Nat),(Ca d l).1.depth<=d+3
 | d,[]=>by cases d<;>simp[Ca,iN,za3]
 | 0,x::r=>by have := zcj x r;rw[Ca];omega
 | d+1,x::r=>by
  have h1:=yD d r;have h2:=yD d (Ca d r).2;have h3:=yD d (Ca d (Ca d r).2).2;have h0:=zcj x r;rw[Ca]
  split
  ·split
   ·simp only[Gx.depth,Tj];omega
   ·split
    ·simp only[Gx.depth,Tj];omega
    ·simp only[Gx.depth,Tj];omega
  ·omega
theorem wT (k:Nat):1<=Di k/\Di k<=6:=by unfold Di;omega
theorem fY (kd:Int) (n:Nat) (h:2<=kd/\kd<=6) (hn:n<8):(wV kd n).kd=kd/\(wV kd n).ok=true/\(wV kd n).good=true/\Uu (wV kd n)/\tw (wV kd n)=2*n:=by
 obtain⟨h1,h2⟩:=h
 have hk:kd=2\/kd=3\/kd=4\/kd=5\/kd=6:=by omega
 have hm:n=0\/n=1\/n=2\/n=3\/n=4\/n=5\/n=6\/n=7:=by omega
 unfold Uu
 rcases hk with rfl | rfl | rfl | rfl | rfl<;>rcases hm with rfl | rfl | rfl | rfl | rfl | rfl | rfl | rfl<;>exact⟨by kernel_rfl,by kernel_rfl,by kernel_rfl,.inl (by kernel_rfl),by kernel_rfl⟩
theorem qpd {e:Gx} (h:Md e):e.good=true:=by
 induction h with
 | tru=>kernel_rfl
 | sub k h=>simp[Fq,Gx.good,O0];kernel_rfl
 | tst x n h hn =>
  have hk:=wT (x/3);have hw:=(fY (Di (x/3)) n (by omega) hn).2.2.1
  have h0:v0.good=true:=by kernel_rfl
  by_cases h:x%2=0<;>simp[Lc,h,Gx.good,O0,Fq,Kv,hw,h0]
 | no a _ ih=>simp[Gx.good,O0,ih];kernel_rfl
 | two o a b _ _ _ i1 i2=>simp[Gx.good,O0,i1,i2];kernel_rfl
 | ite a b c _ _ _ i1 i2 i3=>simp[Gx.good,O0,i1,i2,i3];kernel_rfl
theorem qg1 (k:Nat) (w:World) (hk:k<256):Calls Tryz.prog 62 #[.int .u8 k] w fun e w'=>e=.returned (.int .u8 (Di k))/\Below w.heap.size w w':=by
 have e:Di k=1+((k%12%6:Nat):Int):=rfl;rw[e];go_enter Tryz.func62,Tryz.ntmps62
 go_wp2_with fail
 go_ret
 refine⟨?_,Below.refl _ _⟩
 show Ending.returned (Value.int .u8 (1+(k:Int)%6))=_
 congr 2
 omega
theorem zlo (k:Nat) (w:World):(convert 22 9 (.slice (some ⟨w.heap.size,0,none⟩) 2 2)).run Tryz.prog (w.alloc (.cells #[.int .u8 115,.int .u8 (48+(k:Int)%12)] 5))=.ok (S [115,UInt8.ofNat (48+k%12)]) (w.alloc (.cells #[.int .u8 115,.int .u8 (48+(k:Int)%12)] 5)):=by
 have hk:k%12<12:=Nat.mod_lt _ (by omega)
 have e:((UInt8.ofNat (48+k%12)).toNat:Int)=48+(k:Int)%12:=by rw[UInt8.toNat_ofNat'];omega
 refine run_convert_bytes_back _ 22 9 5 ⟨w.heap.size,0,none⟩ 2 [115,UInt8.ofNat (48+k%12)] Tryz.underlying22 Tryz.underlying5 Tryz.underlying9 fun j hj=>?_
 match j,hj with
 | 0,_=>exact(Blk.new w #[Value.int .u8 115,Value.int .u8 (48+(k:Int)%12)] 5).at rfl
 | 1,_ =>
  have := (Blk.new w #[Value.int .u8 115,Value.int .u8 (48+(k:Int)%12)] 5).at (i:=1) rfl
  show _=some (Value.int .u8 ((UInt8.ofNat (48+k%12)).toNat:Int))
  rw[e];exact this
abbrev qac (nm:Str) (b:Nat):Xv:=⟨5,nm,0,false,⟨none,0,0⟩,false,⟨none,0,0⟩,0,⟨some ⟨b,0,none⟩,1,1⟩⟩
theorem zdl {K b:Nat} {nm:Str} {w:World} (h:Blk w b V0.cells 43) (hb:b<K) (hn:nm.length<=maxLen):ExG K w (.mk 5 nm v0 [.mk 2 [] v0 []]) (qac nm b):=by
 have hv:∀ K w,VlX K w v0 (⟨0,false,.slice none 0 0,false,.slice none 0 0,0⟩:Vv):=fun K w=>⟨rfl,rfl,rfl,rfl,Lm.nil _ _,Lm.nil _ _⟩
 rw[ExG];refine⟨rfl,rfl,hn,hv _ _,fun _=>V0,Au.mk_cells (Ab _) (by simp[maxLen]) hb fun i hi j hj=>?_,?_,trivial⟩
 ·have Jo:i=0:=by have:i<1:=hi;omega
  subst Jo
  have := h.at (i:=j) (x:=V0.cell j) (by
   have:j=0\/j=1\/j=2\/j=3\/j=4\/j=5\/j=6\/j=7\/j=8:=by omega
   rcases this with rfl | rfl | rfl | rfl | rfl | rfl | rfl | rfl | rfl<;>rfl)
  simpa using this
 ·rw[ExG]
  exact⟨rfl,rfl,by simp,hv _ _,fun _=>V0,Au.nil _ _ (by simp[maxLen]) (fun _=>rfl),trivial⟩
theorem zf4 (nm:Str) (w:World):Calls Tryz.prog 96 #[S nm] w fun e w'=>∃ b,e=.returned (⟨5,nm,0,false,⟨none,0,0⟩,false,⟨none,0,0⟩,0,⟨some ⟨b,0,none⟩,1,1⟩⟩:Xv).agg/\Blk w' b V0.cells 43/\w.heap.size<b/\Below w.heap.size w w':=by
 obtain⟨W1,Ah⟩:=Ae ((w.alloc (.cells xz.cells 43)).alloc (.cells V0.cells 43))
 have b1:Below w.heap.size w W1:=by rw[<- Ah];exact(Af _ _).alloc (by simp) _
 have q1:Blk W1 w.heap.size xz.cells 43:=by rw[<- Ah];exact(Blk.new w _ _).alloc _
 have q2:Blk W1 (w.heap.size+1) V0.cells 43:=by
  rw[<- Ah];have := Blk.new (w.alloc (.cells xz.cells 43)) V0.cells 43;rwa[World.size_alloc]at this
 obtain⟨B,hB⟩:=Ae w.heap.size;have HB:=Aa hB;have HW:Hid ((w.alloc (.cells #[.int .u8 0,.string ⟨#[]⟩,.int .u8 0,.bool false,.slice none 0 0,.bool false,.slice none 0 0,.int .i64 0,.slice none 0 0] 43)).alloc (.cells #[.int .u8 2,.string ⟨#[]⟩,.int .u8 0,.bool false,.slice none 0 0,.bool false,.slice none 0 0,.int .i64 0,.slice none 0 0] 43)=W1):=Aa Ah;rw[hB]at b1 q1 q2 ⊢
 have Bd:∀ u∈(⟨5,nm,0,false,⟨none,0,0⟩,false,⟨none,0,0⟩,0,⟨some ⟨B+1,0,none⟩,1,1⟩⟩:Xv).cells,u.oneCell'=true:=by simp[Value.oneCell']
 clear hB Ah;go_enter Tryz.func96,Tryz.ntmps96
 go_upto_region 1 with fail
 go_wp2_with (simp only[HB.out];rw[HW.out];refine Gu rfl 43 43 (.tmp 2) (.tmp 6) rfl (⟨5,nm,0,false,⟨none,0,0⟩,false,⟨none,0,0⟩,0,⟨some ⟨B+1,0,none⟩,1,1⟩⟩:Xv).cells _ B q1 Bm rfl Bd rfl rfl ?_;intro W2 t1 t2 t3 t4)
 refine bodyPost_ret (Pk rfl _ _ B _ _ t1 rfl Tryz.underlying43 rfl Bm) rfl ?_;exact⟨B+1,rfl,q2.kept t3 (by simp),by omega,b1.trans (t2 B (Ab _))⟩
theorem zg2 (kd n:Int) (hk:kd=1\/kd=4\/kd=5\/kd=6) (w:World):Calls Tryz.prog 63 #[.int .u8 kd,.int .i64 n] w fun e w'=>e=.returned (Me kd n).agg/\Below w.heap.size w w':=by
 rcases hk with rfl | rfl | rfl | rfl
 ·have b1:Below w.heap.size w (w.alloc (.cells (Me 1 n).cells 41)):=Af _ _
  have Bd:∀ u∈(Me 1 n).cells,u.oneCell'=true:=by simp[Value.oneCell']
  go_enter Tryz.func63,Tryz.ntmps63
  go_upto_region 3 with fail
  go_wp2_with (refine Iu rfl 41 (.tmp 4) (.tmp 17) rfl (Me 1 n).cells _ Kn rfl Bd w.heap.size rfl rfl rfl ?_)
  refine bodyPost_ret (Pk rfl _ _ w.heap.size _ _ (Blk.new w _ _) rfl Tryz.underlying41 rfl Kn) rfl ?_;exact⟨rfl,b1⟩
 ·have b1:Below w.heap.size w (w.alloc (.cells (Me 4 n).cells 41)):=Af _ _
  have Bd:∀ u∈(Me 4 n).cells,u.oneCell'=true:=by simp[Value.oneCell']
  go_enter Tryz.func63,Tryz.ntmps63
  go_upto_region 3 with fail
  go_wp2_with (refine Iu rfl 41 (.tmp 4) (.tmp 17) rfl (Me 4 n).cells _ Kn rfl Bd w.heap.size rfl rfl rfl ?_)
  refine bodyPost_ret (Pk rfl _ _ w.heap.size _ _ (Blk.new w _ _) rfl Tryz.underlying41 rfl Kn) rfl ?_;exact⟨rfl,b1⟩
 ·have b1:Below w.heap.size w (w.alloc (.cells (Me 5 n).cells 41)):=Af _ _
  have Bd:∀ u∈(Me 5 n).cells,u.oneCell'=true:=by simp[Value.oneCell']
  go_enter Tryz.func63,Tryz.ntmps63
  go_upto_region 3 with fail
  go_wp2_with (refine Iu rfl 41 (.tmp 4) (.tmp 17) rfl (Me 5 n).cells _ Kn rfl Bd w.heap.size rfl rfl rfl ?_)
  refine bodyPost_ret (Pk rfl _ _ w.heap.size _ _ (Blk.new w _ _) rfl Tryz.underlying41 rfl Kn) rfl ?_;exact⟨rfl,b1⟩
 ·have b1:Below w.heap.size w (w.alloc (.cells (Me 6 n).cells 41)):=Af _ _
  have Bd:∀ u∈(Me 6 n).cells,u.oneCell'=true:=by simp[Value.oneCell']
  go_enter Tryz.func63,Tryz.ntmps63
  go_upto_region 3 with fail
  go_wp2_with (refine Iu rfl 41 (.tmp 4) (.tmp 17) rfl (Me 6 n).cells _ Kn rfl Bd w.heap.size rfl rfl rfl ?_)
  refine bodyPost_ret (Pk rfl _ _ w.heap.size _ _ (Blk.new w _ _) rfl Tryz.underlying41 rfl Kn) rfl ?_;exact⟨rfl,b1⟩
theorem zi3 (kd:Int) (Br:kd=2\/kd=3) (n:Nat) (w:World) (hn:n<65536):Calls Tryz.prog 63 #[.int .u8 kd,.int .i64 n] w fun e w'=>∃ x:Vv,e=.returned x.agg/\VlX w'.heap.size w' ⟨kd,false,if n=0 then []else [n],false,[1],0⟩ x/\Bj w.heap.size x.s1/\Bj w.heap.size x.s2/\Below w.heap.size w w':=by
 obtain⟨W1,Ah⟩:=Ae (w.alloc (.cells vv0.cells 41))
 have b1:Below w.heap.size w W1:=by rw[<- Ah];exact Af _ _
 have q1:Blk W1 w.heap.size vv0.cells 41:=by rw[<- Ah];exact Blk.new w _ _
 have s1:W1.heap.size=w.heap.size+1:=by rw[<- Ah];simp
 have hc:Calls Tryz.prog 35 #[.int .i64 n,.int .i64 1] W1 fun e w'=>∃ au nu mu av mv,e=.returned (Fv (.slice au nu mu) (.slice av 1 mv))/\(∀ r,r<W1.heap.size->∀ w'',w'.grownBy w'' (some r)->Lm w''.heap.size w'' (.slice au nu mu) (if n=0 then []else [n])/\Lm w''.heap.size w'' (.slice av 1 mv) [1])/\Bj W1.heap.size (.slice au nu mu)/\Bj W1.heap.size (.slice av 1 mv)/\Below W1.heap.size W1 w':=by
  by_cases h0:n=0
  ·subst h0
   refine(zfv W1).mono ?_;rintro e w' ⟨v,rfl,⟨a,c,rfl⟩,hl,hb,hn⟩;exact⟨none,0,0,a,c,rfl,fun r hr w'' hg=>⟨Lm.nil _ _,oA hl hn hr hg hg.size⟩,Bj.nil _ _ _,hn,hb⟩
  ·refine(qnw n W1 (by omega) hn).mono ?_
   rintro e w' ⟨u,v,rfl,⟨a,c,rfl⟩,⟨a',c',rfl⟩,hl,ztg,hb,hn,G5⟩;exact⟨a,1,c,a',c',rfl,fun r hr w'' hg=>⟨by rw[if_neg h0];exact oA hl hn hr hg hg.size,oA ztg G5 hr hg hg.size⟩,hn,G5,hb⟩
 obtain⟨L,hL⟩:=Ae ((if n=0 then []else [n]));rw[hL]at hc ⊢;obtain⟨B,hB⟩:=Ae w.heap.size;have HB:=Aa hB;have HW:=Aa Ah;rw[hB]at b1 q1 s1 ⊢;dsimp only[Vv.cells,vv0]at HW;clear hB Ah hL
 rcases Br with rfl | rfl
 ·go_enter Tryz.func63,Tryz.ntmps63
  go_upto_region 1 with fail
  simp only[HB.out];rw[HW.out];go_wp2_with fail
  refine hc.mono ?_;rintro e w2 ⟨au,nu,mu,av,mv,rfl,hk,Es,Dp,Ai⟩;have q2:=q1.below Ai (by omega);have HK:=Aa hk
  have Bd:∀ u∈(⟨2,false,.slice au nu mu,false,.slice av 1 mv,0⟩:Vv).cells,u.oneCell'=true:=by simp[Value.oneCell']
  clear hc hk;go_wp2_with (refine Gu rfl 41 41 (.tmp 4) (.tmp 14) rfl (⟨2,false,.slice au nu mu,false,.slice av 1 mv,0⟩:Vv).cells _ B q2 Kn rfl Bd rfl rfl ?_;intro W2 t1 t2 t3 t4)
  refine bodyPost_ret (Pk rfl _ _ B _ _ t1 rfl Tryz.underlying41 rfl Kn) rfl ?_;obtain⟨h1,h2⟩:=HK.out B (by omega) W2 t3;exact⟨⟨2,false,.slice au nu mu,false,.slice av 1 mv,0⟩,rfl,⟨rfl,rfl,rfl,rfl,h1,h2⟩,Es.mono (by omega),Dp.mono (by omega),b1.trans ((Ai.mono (by omega)).trans (t2 B (Ab _)))⟩
 ·go_enter Tryz.func63,Tryz.ntmps63
  go_upto_region 1 with fail
  simp only[HB.out];rw[HW.out];go_wp2_with fail
  refine hc.mono ?_;rintro e w2 ⟨au,nu,mu,av,mv,rfl,hk,Es,Dp,Ai⟩;have q2:=q1.below Ai (by omega);have HK:=Aa hk
  have Bd:∀ u∈(⟨3,false,.slice au nu mu,false,.slice av 1 mv,0⟩:Vv).cells,u.oneCell'=true:=by simp[Value.oneCell']
  clear hc hk;go_wp2_with (refine Gu rfl 41 41 (.tmp 4) (.tmp 14) rfl (⟨3,false,.slice au nu mu,false,.slice av 1 mv,0⟩:Vv).cells _ B q2 Kn rfl Bd rfl rfl ?_;intro W2 t1 t2 t3 t4)
  refine bodyPost_ret (Pk rfl _ _ B _ _ t1 rfl Tryz.underlying41 rfl Kn) rfl ?_;obtain⟨h1,h2⟩:=HK.out B (by omega) W2 t3;exact⟨⟨3,false,.slice au nu mu,false,.slice av 1 mv,0⟩,rfl,⟨rfl,rfl,rfl,rfl,h1,h2⟩,Es.mono (by omega),Dp.mono (by omega),b1.trans ((Ai.mono (by omega)).trans (t2 B (Ab _)))⟩
end Go.Proofs.YtlldjmagbjjeoaaGreatDoor
