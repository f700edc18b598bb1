/- Contracts and plain laws, several texts in one (NZ1). No conditions beyond those stated. -/
import Derived.Test.YtlldjmagbjjeoaaGreatDoorPk10
import Derived.Test.YtlldjmagbjjeoaaGreatDoorPk11
set_option maxRecDepth 100000
set_option maxHeartbeats 40000000
namespace Go.Proofs.YtlldjmagbjjeoaaGreatDoor
open Go.RowKit
set_option linter.unusedVariables false
theorem qh2 (K:Nat) (g:Bool) (v:Value) (l:List Nat) (w:World) (h:Lm K w v l) (hK:K<=w.heap.size):Calls Tryz.prog 112 #[.agg #[.bool g,v]] w fun e w'=>e=.returned (.bool (wOk 1024 g l))/\Below w.heap.size w w':=by
 by_cases h0:l.length=0
 ·obtain rfl:=List.eq_nil_of_length_eq_zero h0
  obtain⟨a,c,rfl,_⟩:=h.form;rw[show wOk 1024 g [] = !g by simp[wOk]]
  show Calls Tryz.prog 112 #[.agg #[.bool g,.slice a 0 c]] w _
  clear h h0;go_enter Tryz.func112,Tryz.ntmps112
  go_wp2_with fail
  go_ret
  exact⟨rfl,(Below.refl _ w).alloc (Ab _) _⟩
 ·obtain⟨p,hp⟩:∃ p,l.length=p+1:=⟨l.length-1,by omega⟩
  obtain⟨b,o,c,rfl,h1,hc,hb,h5⟩:=h.pos (by omega);obtain⟨x,hx⟩:=Ae (l[p]?.getD 0);have e0:=h5 p (by omega);rw[hx]at e0;have e0':w.cell? ⟨b,o+p,none⟩=some (.int .u16 (x:Int)):=e0
  have hr:wOk 1024 g l=(decide (p+1<=1024) && x != 0):=by unfold wOk;rw[hp,if_neg (by omega),Nat.add_sub_cancel,hx]
  rw[hr,hp];rw[hp]at h1
  have Aj:b<w.heap.size:=by omega
  have At:¬ b=w.heap.size:=by omega
  unfold maxLen at hc;clear h h5 e0 hx hp hr h0
  by_cases hs:p+1<=1024
  ·have hd:decide ((((p+1:Nat):Int))<=1024)=true:=by simp;omega
   have Lj:decide (p+1<=1024)=true:=by simpa using hs
   rw[Lj]
   by_cases F5:x=0
   ·subst F5
    go_enter Tryz.func112,Tryz.ntmps112
    go_wp2_with fail
    go_ret
    exact⟨rfl,(Below.refl _ w).alloc (Ab _) _⟩
   ·have hx:((x:Int) != 0)=true:=by simp;omega
    have zor:(x != 0)=true:=by simp;omega
    rw[zor];go_enter Tryz.func112,Tryz.ntmps112
    go_wp2_with fail
    go_ret
    exact⟨rfl,(Below.refl _ w).alloc (Ab _) _⟩
  ·have hd:decide ((((p+1:Nat):Int))<=1024)=false:=by simp;omega
   have Lj:decide (p+1<=1024)=false:=by simpa using hs
   rw[Lj];go_enter Tryz.func112,Tryz.ntmps112
   go_wp2_with fail
   go_ret
   exact⟨rfl,(Below.refl _ w).alloc (Ab _) _⟩
theorem zay (K:Nat) (g:Bool) (v:Value) (z:Int) (w:World) (h:Zn K w g v z) (hK:K<=w.heap.size) (hz:z.natAbs<LB 1024):Calls Tryz.prog 112 #[.agg #[.bool g,v]] w fun e w'=>e=.returned (.bool true)/\Below w.heap.size w w':=by
 obtain⟨l,h1,h2,h3⟩:=h.ln;have := qh2 K g v l w h1 hK
 rw[qcl h2 ((Zw h1.2 h2).2 (by rw[h3];exact hz)) (fun e=>by
  rw[List.eq_nil_of_length_eq_zero e]at h3
  have:z=0:=by simp[As]at h3;omega
  rw[h.sg,this];rfl)]at this
 exact this
theorem tG (K b:Nat) (g h:Bool) (u v:Value) (y z:Int) (w:World) (hu:Zn K w g u y) (hv:Zn K w h v z) (hy:y.natAbs<LB 1024) (hz:z.natAbs<LB 1024) (hK:K<=w.heap.size) (hq:Blk w b #[.bool g,u,.bool h,v] 37) :
  Calls Tryz.prog 121 #[.slice (some ⟨b,0,none⟩) 2 2] w fun e w'=>e=.returned (.bool true)/\Below w.heap.size w w':=by
 have Jv:=fun W hb=>zay W.heap.size g u y W (hu.below (B:=w.heap.size) hb hK (Nat.le_trans hK hb.size)) (Ab _) hy
 have Ii:=fun W hb=>zay W.heap.size h v z W (hv.below (B:=w.heap.size) hb hK (Nat.le_trans hK hb.size)) (Ab _) hz
 obtain⟨ua,um,uc,rfl⟩:=hu.form;obtain⟨va,vm,vc,rfl⟩:=hv.form;have hb:=hq.lt;obtain⟨q0,q1,q2,q3⟩:=hq.four
 have At:¬ b=w.heap.size:=by omega
 clear hu hv hy hz;have Og:=Aa Jv;have Gh:=Aa Ii;clear Jv Ii;go_enter Tryz.func121,Tryz.ntmps121
 go_wp2_with fail
 refine wp_loop_rounds 3 ?_;rw[rounds_succ];go_wp2_with fail
 have b1:Below w.heap.size w (w.alloc (.cells #[.bool g,.slice ua um uc] 37)):=Af _ _;refine(Og.out _ b1).mono ?_;rintro e w2 ⟨rfl,Ai⟩;have Gs:Below w.heap.size w w2:=b1.trans (Ai.mono (by simp));obtain⟨r0,r1,r2,r3⟩:=(hq.below Gs hb).four;have Ai:b<w2.heap.size:=Nat.lt_of_lt_of_le hb Gs.size
 have qgf:¬ b=w2.heap.size:=by omega
 go_wp2_with fail
 rw[rounds_succ];go_wp2_with fail
 have b3:Below w.heap.size w (w2.alloc (.cells #[.bool h,.slice va vm vc] 37)):=Gs.alloc Gs.size _;refine(Gh.out _ b3).mono ?_;rintro e w4 ⟨rfl,Al⟩;go_wp2_with fail
 rw[rounds_succ];go_wp2_with fail
 go_ret
 exact⟨rfl,b3.trans (Al.mono (by simp;have := Gs.size;omega))⟩
theorem qby (K:Nat) (g:Bool) (v:Value) (n:Nat) (w:World) (h:Bn K w v n) (hK:K<=w.heap.size) (hn:n<LB 1024) :
  Calls Tryz.prog 132 #[.bool g,v] w fun e w'=>∃ x,e=.returned (.tuple #[x,.int .i64 0])/\ZxN w.heap.size w'.heap.size w' x (sgz g n)/\Below w.heap.size w w':=by
 have b1:Below w.heap.size w (w.alloc (.cells #[.bool false,.slice none 0 0] 37)):=Af _ _;obtain⟨l,hl,tl,rfl⟩:=h;have mG:=Yg tl (N9 (k:=1024) hn (Ab _));have hu:=wO K g v l _ (hl.below b1 hK (Ab _)) (by simp;omega) (by omega);have q1:Blk (w.alloc (.cells #[.bool false,.slice none 0 0] 37)) w.heap.size #[.bool false,.slice none 0 0] 37:=Blk.new w _ _;obtain⟨a,c,rfl,_⟩:=hl.form;obtain⟨n,Fe⟩:=Ae (bv Ag l);rw[Fe]at hu hn ⊢;obtain⟨k,hk⟩:=Ae l.length;rw[hk]at hu ⊢;clear hl tl mG Fe hk;have HU:=Aa hu;clear hu;go_enter Tryz.func132,Tryz.ntmps132
 go_wp2_with fail
 refine HU.out.mono ?_;rintro e w2 ⟨v',rfl,Tu,Ai,Ff⟩;have C7:Below w.heap.size w w2:=b1.trans (Ai.mono (by simp));have q2:=q1.below Ai q1.lt;obtain⟨d0,d1⟩:=q2.two;have f0:=q2.free 0;have f1:=q2.free 1;have Aj:=q2.lt
 have At:¬ w.heap.size=w2.heap.size:=by omega
 obtain⟨a,m,c,rfl,_,_,_,Fs⟩:=Tu.form;have hm:m<=1024:=(Fs 1024).2 hn
 have cL:decide ((1024:Int)<(m:Int))=false:=by simp;omega
 have hz:=Zn.mk' Tu (rfl:sgz g n=sgz g n);obtain⟨g',E5⟩:=Ae ((g && decide (0<n)));rw[E5]at hz ⊢;have HZ:=Aa hz;clear HU Fs hz E5 Tu;go_wp2_with fail
 have q3:=((q2.set (i:=0) (.bool g')).set (i:=1) (.slice a m c)).alloc (.cells #[.bool g',.slice a m c] 37);obtain⟨e0,e1⟩:=q3.two;refine bodyPost_ret (v:=.tuple #[.agg #[.bool g',.slice a m c],.int .i64 0]) (by simp[results,Tryz.results132,go_sem,e0,e1]) rfl ?_;have b3:=(((Below.refl w.heap.size w2).setCell (p:=⟨w.heap.size,0,none⟩) (Ab _) (.bool g')).setCell (p:=⟨w.heap.size,1,none⟩) (Ab _) (.slice a m c)).alloc (by simp[World.setCell];omega) (.cells #[.bool g',.slice a m c] 37);have ws:=((HZ.out.set (r:=w.heap.size) (i:=0) (x:=.bool g') Ff (by simp)).set (r:=w.heap.size) (i:=1) (x:=.slice a m c) Ff (by simp));exact⟨_,rfl,.mk (ws.below (Af _ _) (by simp[World.setCell]) (by simp[World.setCell])) (Ff.mono (by simp)),C7.trans b3⟩
theorem ze9 (g:Bool) (m n:Nat):sgz g (m+n)=sgz g m+sgz g n:=by unfold sgz;cases g<;>simp<;>omega
theorem zp8 {g h:Bool} {m n:Nat} (hg:g≠h) (Ij:n<=m):sgz g (m-n)=sgz g m+sgz h n:=by
 unfold sgz;cases g<;>cases h<;>simp at hg ⊢ <;> omega
theorem zxa {g h:Bool} {m n:Nat} (hg:g≠h) (Ij:m<n):sgz h (n-m)=sgz g m+sgz h n:=by
 unfold sgz;cases g<;>cases h<;>simp at hg ⊢ <;> omega
theorem ztz (g h:Bool) (m n:Nat):sgz (!(g==h)) (m*n)=sgz g m*sgz h n:=by
 unfold sgz;cases g<;>cases h<;>simp[Int.neg_mul,Int.mul_neg]
theorem Ww (g:Bool) (m:Nat):(sgz g m).natAbs=m:=by unfold sgz;cases g<;>simp
theorem zfd (K:Nat) (g h:Bool) (u v:Value) (m n:Nat) (w:World) (hu:Bn K w u m) (hv:Bn K w v n) (hm:m<LB 1000) (hn:n<LB 1000) (hK:K<=w.heap.size) :
  Calls Tryz.prog 135 #[.bool g,u,.bool h,v] w fun e w'=>∃ x,e=.returned (.tuple #[x,.int .i64 0])/\ZxN w.heap.size w'.heap.size w' x (sgz g m+sgz h n)/\Below w.heap.size w w':=by
 obtain⟨W1,Ah⟩:=Ae (w.alloc (.cells #[.bool false,.slice none 0 0] 37))
 have b1:Below w.heap.size w W1:=by rw[<- Ah];exact Af _ _
 have q1:Blk W1 w.heap.size #[.bool false,.slice none 0 0] 37:=by rw[<- Ah];exact Blk.new w _ _
 have s1:W1.heap.size=w.heap.size+1:=by rw[<- Ah];simp
 obtain⟨B,hB⟩:=Ae w.heap.size;have HB:=Aa hB;have HW:=Aa Ah;rw[hB]at hK b1 q1 s1 ⊢;have Ew:Bn B W1 u m:=hu.below b1 hK hK;have Bu:Bn B W1 v n:=hv.below b1 hK hK;have HU:=Aa Ew;have HV:=Aa Bu;obtain⟨ua,um,uc,rfl,_⟩:=hu.form;obtain⟨va,vm,vc,rfl,_⟩:=hv.form
 have qgq:∀ k,1000<=k->m<Ag^k:=fun k hk=>N9 hm hk
 have qos:∀ k,1000<=k->n<Ag^k:=fun k hk=>N9 hn hk
 have qy0:=Aa qgq;have qvv:=Aa qos;have HM:=Aa hm;have HN:=Aa hn;clear hB Ah hu hv Ew Bu qgq qos hm hn
 by_cases hgh:g=h
 ·subst hgh
  have Iv:(g==g)=true:=by simp
  have hc:=zwg B _ _ m n W1 HU.out HV.out (by omega) (qy0.out 536870912 (by decide)) (qvv.out 536870912 (by decide));have hN:m+n<LB 1024:=Bl (sG HM.out HN.out) (by decide);have HZ:Hid (sgz g (m+n)=sgz g m+sgz g n):=Aa (ze9 g m n);have HC:=Aa hc;clear hc;go_enter Tryz.func135,Tryz.ntmps135
  go_wp2_with fail
  simp only[HB.out];rw[HW.out];refine HC.out.mono ?_;rintro e w2 ⟨p,rfl,hp,Ai,_⟩;have b2:Below B w w2:=b1.trans (Ai.mono (by omega));have Az:=Ai.size;have q2:=q1.below Ai q1.lt;have hr:=qby w2.heap.size g p _ w2 hp (Ab _) hN;obtain⟨pa,pm,pc,rfl,_⟩:=hp.form;have HR:=Aa hr;clear HC hr hp;go_wp2_with fail
  refine HR.out.mono ?_;rintro e w3 ⟨x',rfl,D8,Ak⟩;obtain⟨g',p',rfl,J2,Ff⟩:=D8;obtain⟨pa',pm',pc',rfl⟩:=J2.form;have Ep:=Ak.size;have b3:Below B w w3:=b2.trans (Ak.mono (by omega));have q3:=q2.below Ak q2.lt;obtain⟨d0,d1⟩:=q3.two;have f0:=q3.free 0;have f1:=q3.free 1;have HP:=Aa J2;clear HR J2;go_wp2_with fail
  have q4:=(q3.set (i:=0) (.bool g')).set (i:=1) (.slice pa' pm' pc');obtain⟨e0,e1⟩:=q4.two;refine bodyPost_ret (v:=.tuple #[.agg #[.bool g',.slice pa' pm' pc'],.int .i64 0]) (by simp[results,Tryz.results135,go_sem,e0,e1]) rfl ?_;have ws:=((HP.out.set (r:=B) (i:=0) (x:=.bool g') Ff (by omega)).set (r:=B) (i:=1) (x:=.slice pa' pm' pc') Ff (by omega));rw[HZ.out]at ws;exact⟨_,rfl,.mk (ws.below (Below.refl w3.heap.size _) (Ab _) (by simp[World.setCell])) (Ff.mono (by omega)),(b3.setCell (p:=⟨B,0,none⟩) (by simp) _).setCell (p:=⟨B,1,none⟩) (by simp) _⟩
 ·have Iv:(g==h)=false:=by cases g<;>cases h<;>simp at hgh ⊢
  have Kl:=uG B _ _ m n W1 HU.out HV.out
  by_cases Ij:n<=m
  ·have Iq:¬ My m n<0:=by unfold My;rw[if_neg (by omega)];split<;>omega
   obtain⟨cv,Ev⟩:=Ae (My m n);rw[Ev]at Kl Iq
   have zz8:decide (0<=cv)=true:=by simp;omega
   have cZ:=Aa Kl
   have Kj:Hid (∀ k,Calls Tryz.prog 145 #[.slice ua um uc,.slice va vm vc] (W1.drewN k) fun e w'=>∃ v',e=.returned v'/\Bn w'.heap.size w' v' (m-n)/\Below (W1.drewN k).heap.size (W1.drewN k) w'/\Bj (W1.drewN k).heap.size v'):=Aa fun k=>qpw B _ _ m n (W1.drewN k) (HU.out.below (Gn (Below.refl W1.heap.size W1) k) (by omega) (Ab _)) (HV.out.below (Gn (Below.refl W1.heap.size W1) k) (by omega) (Ab _)) (by show B<=W1.heap.size;omega) Ij (qy0.out 1073741824 (by decide))
   have hN:m-n<LB 1024:=Nat.lt_of_le_of_lt (Nat.sub_le _ _) (Bl HM.out (by decide));have HZ:Hid (sgz g (m-n)=sgz g m+sgz h n):=Aa (zp8 hgh Ij);clear Kl Ev;go_enter Tryz.func135,Tryz.ntmps135
   go_wp2_with fail
   simp only[HB.out];rw[HW.out];refine cZ.out.mono ?_;rintro e w9 ⟨rfl,k9,rfl⟩;have HC:=Aa (Kj.out k9);have b1':Below B w (W1.drewN k9):=Gn b1 k9;have q1':Blk (W1.drewN k9) B #[.bool false,.slice none 0 0] 37:=q1.below (Gn (Below.refl W1.heap.size W1) k9) (by omega);have s1':(W1.drewN k9).heap.size=B+1:=s1
   generalize W1.drewN k9=W1' at HC b1' q1' s1'
   clear cZ Kj HU HV b1 q1 s1 HW;obtain⟨b1,q1,s1⟩:Below B w W1'/\Blk W1' B #[.bool false,.slice none 0 0] 37/\W1'.heap.size=B+1:=⟨b1',q1',s1'⟩;clear b1' q1' s1';go_wp2_with fail
   refine HC.out.mono ?_;rintro e w2 ⟨p,rfl,hp,Ai,_⟩;have b2:Below B w w2:=b1.trans (Ai.mono (by omega));have Az:=Ai.size;have q2:=q1.below Ai q1.lt;have hr:=qby w2.heap.size g p _ w2 hp (Ab _) hN;obtain⟨pa,pm,pc,rfl,_⟩:=hp.form;have HR:=Aa hr;clear HC hr hp;go_wp2_with fail
   refine HR.out.mono ?_;rintro e w3 ⟨x',rfl,D8,Ak⟩;obtain⟨g',p',rfl,J2,Ff⟩:=D8;obtain⟨pa',pm',pc',rfl⟩:=J2.form;have Ep:=Ak.size;have b3:Below B w w3:=b2.trans (Ak.mono (by omega));have q3:=q2.below Ak q2.lt;obtain⟨d0,d1⟩:=q3.two;have f0:=q3.free 0;have f1:=q3.free 1;have HP:=Aa J2;clear HR J2;go_wp2_with fail
   have q4:=(q3.set (i:=0) (.bool g')).set (i:=1) (.slice pa' pm' pc');obtain⟨e0,e1⟩:=q4.two;refine bodyPost_ret (v:=.tuple #[.agg #[.bool g',.slice pa' pm' pc'],.int .i64 0]) (by simp[results,Tryz.results135,go_sem,e0,e1]) rfl ?_;have ws:=((HP.out.set (r:=B) (i:=0) (x:=.bool g') Ff (by omega)).set (r:=B) (i:=1) (x:=.slice pa' pm' pc') Ff (by omega));rw[HZ.out]at ws;exact⟨_,rfl,.mk (ws.below (Below.refl w3.heap.size _) (Ab _) (by simp[World.setCell])) (Ff.mono (by omega)),(b3.setCell (p:=⟨B,0,none⟩) (by simp) _).setCell (p:=⟨B,1,none⟩) (by simp) _⟩
  ·have que:m<n:=by omega
   have Iq:My m n = -1:=qjx que;rw[Iq]at Kl;have cZ:=Aa Kl
   have Kj:Hid (∀ k,Calls Tryz.prog 145 #[.slice va vm vc,.slice ua um uc] (W1.drewN k) fun e w'=>∃ v',e=.returned v'/\Bn w'.heap.size w' v' (n-m)/\Below (W1.drewN k).heap.size (W1.drewN k) w'/\Bj (W1.drewN k).heap.size v'):=Aa fun k=>qpw B _ _ n m (W1.drewN k) (HV.out.below (Gn (Below.refl W1.heap.size W1) k) (by omega) (Ab _)) (HU.out.below (Gn (Below.refl W1.heap.size W1) k) (by omega) (Ab _)) (by show B<=W1.heap.size;omega) (by omega) (qvv.out 1073741824 (by decide))
   have hN:n-m<LB 1024:=Nat.lt_of_le_of_lt (Nat.sub_le _ _) (Bl HN.out (by decide));have HZ:Hid (sgz h (n-m)=sgz g m+sgz h n):=Aa (zxa hgh que);clear Kl Iq;go_enter Tryz.func135,Tryz.ntmps135
   go_wp2_with fail
   simp only[HB.out];rw[HW.out];refine cZ.out.mono ?_;rintro e w9 ⟨rfl,k9,rfl⟩;have HC:=Aa (Kj.out k9);have b1':Below B w (W1.drewN k9):=Gn b1 k9;have q1':Blk (W1.drewN k9) B #[.bool false,.slice none 0 0] 37:=q1.below (Gn (Below.refl W1.heap.size W1) k9) (by omega);have s1':(W1.drewN k9).heap.size=B+1:=s1
   generalize W1.drewN k9=W1' at HC b1' q1' s1'
   clear cZ Kj HU HV b1 q1 s1 HW;obtain⟨b1,q1,s1⟩:Below B w W1'/\Blk W1' B #[.bool false,.slice none 0 0] 37/\W1'.heap.size=B+1:=⟨b1',q1',s1'⟩;clear b1' q1' s1';go_wp2_with fail
   refine HC.out.mono ?_;rintro e w2 ⟨p,rfl,hp,Ai,_⟩;have b2:Below B w w2:=b1.trans (Ai.mono (by omega));have Az:=Ai.size;have q2:=q1.below Ai q1.lt;have hr:=qby w2.heap.size h p _ w2 hp (Ab _) hN;obtain⟨pa,pm,pc,rfl,_⟩:=hp.form;have HR:=Aa hr;clear HC hr hp;go_wp2_with fail
   refine HR.out.mono ?_;rintro e w3 ⟨x',rfl,D8,Ak⟩;obtain⟨g',p',rfl,J2,Ff⟩:=D8;obtain⟨pa',pm',pc',rfl⟩:=J2.form;have Ep:=Ak.size;have b3:Below B w w3:=b2.trans (Ak.mono (by omega));have q3:=q2.below Ak q2.lt;obtain⟨d0,d1⟩:=q3.two;have f0:=q3.free 0;have f1:=q3.free 1;have HP:=Aa J2;clear HR J2;go_wp2_with fail
   have q4:=(q3.set (i:=0) (.bool g')).set (i:=1) (.slice pa' pm' pc');obtain⟨e0,e1⟩:=q4.two;refine bodyPost_ret (v:=.tuple #[.agg #[.bool g',.slice pa' pm' pc'],.int .i64 0]) (by simp[results,Tryz.results135,go_sem,e0,e1]) rfl ?_;have ws:=((HP.out.set (r:=B) (i:=0) (x:=.bool g') Ff (by omega)).set (r:=B) (i:=1) (x:=.slice pa' pm' pc') Ff (by omega));rw[HZ.out]at ws;exact⟨_,rfl,.mk (ws.below (Below.refl w3.heap.size _) (Ab _) (by simp[World.setCell])) (Ff.mono (by omega)),(b3.setCell (p:=⟨B,0,none⟩) (by simp) _).setCell (p:=⟨B,1,none⟩) (by simp) _⟩
theorem zur (K:Nat) (g h:Bool) (u v:Value) (y z:Int) (w:World) (hu:Zn K w g u y) (hv:Zn K w h v z) (hy:y.natAbs<LB 1000) (hz:z.natAbs<LB 1000) (hK:K<=w.heap.size) :
  Calls Tryz.prog 128 #[.agg #[.bool g,u],.agg #[.bool h,v]] w fun e w'=>∃ x,e=.returned (.tuple #[x,.int .i64 0])/\ZxN w.heap.size w'.heap.size w' x (((Nat.gcd y.natAbs z.natAbs:Nat):Int))/\Below w.heap.size w w':=by
 obtain⟨ua,um,uc,rfl⟩:=hu.form;obtain⟨va,vm,vc,rfl⟩:=hv.form;obtain⟨W1,Ah⟩:=Ae ((((w.alloc (.cells #[.bool g,.slice ua um uc] 37)).alloc (.cells #[.bool h,.slice va vm vc] 37)).alloc (.cells #[.bool false,.slice none 0 0] 37)).alloc (.cells #[.bool g,.slice ua um uc,.bool h,.slice va vm vc] 37));obtain⟨b1,q0,q1,q2,q3,s1⟩:=eG w _ _ _ _ _ _ _ _ Ah;have HW:=Aa Ah;obtain⟨B,hB⟩:=Ae w.heap.size;have HB:=Aa hB;rw[hB]at hK b1 q0 q1 q2 q3 s1 ⊢;have Na:=tG B (B+3) g h _ _ y z W1 (hu.below b1 hK hK) (hv.below b1 hK hK) (Bl hy (by decide)) (Bl hz (by decide)) (by omega) q3;have Mv:=Aa Na;have Wj:=Aa hu;have Xe:=Aa hv;have HY:=Aa hy;have HZ:=Aa hz;clear hB Ah Na hu hv hy hz;go_enter Tryz.func128,Tryz.ntmps128
 go_wp2_with fail
 simp only[HB.out,Nat.add_assoc,Nat.reduceAdd];rw[HW.out];refine Mv.out.mono ?_;rintro e w2 ⟨rfl,Ai⟩;have b2:Below B w w2:=b1.trans (Ai.mono (by omega));have Az:=Ai.size;have q0:=q0.below Ai q0.lt;have q1:=q1.below Ai q1.lt;have q2:=q2.below Ai q2.lt;have Rd:Hid (Zn w2.heap.size w2 g (.slice ua um uc) y):=Aa (Wj.out.below b2 hK (by omega));have D3:Hid (Zn w2.heap.size w2 h (.slice va vm vc) z):=Aa (Xe.out.below b2 hK (by omega));obtain⟨d0,d1⟩:=q0.two;obtain⟨d2,d3⟩:=q1.two;clear q3 Mv Wj Xe
 go_upto_region 3 with fail
 clear d0 d1 d2 d3;refine Fz (fun W'=>Below w2.heap.size w2 W') [8,9] (by kernel_rfl) ?_;have qS:(fun W'=>Below w2.heap.size w2 W') w2.drew:=Er (Below.refl _ _);refine Aw (i:=0) (v:=.pointer (some ⟨B,1,none⟩)) (some 12) rfl rfl qS ?_;refine Dx (i:=1) (v:=.slice ua um uc) (some 13) rfl rfl (.inl ⟨by kernel_rfl,fun W' hS=>by have d0:=(q0.below hS q0.lt).at (i:=1) rfl;go_simp⟩) qS ?_;refine Aw (i:=3) (v:=.pointer (some ⟨B+1,1,none⟩)) (some 15) rfl rfl qS ?_;refine Dx (i:=4) (v:=.slice va vm vc) (some 16) rfl rfl (.inl ⟨by kernel_rfl,fun W' hS=>by have d0:=(q1.below hS q1.lt).at (i:=1) rfl;go_simp⟩) qS ?_;refine Ap (i:=2) rfl ?_;go_simp
 refine(Yy w2.heap.size _ _ _ (Rd.out.ln.below qS (Ab _) (Ab _)) qS.size (Bl HY.out (by decide))).mono ?_;rintro e w3 ⟨p3,rfl,Ga,Ak⟩;obtain⟨ap3,mp3,cp3,rfl,_⟩:=Ga.form;have qSw3:Below w2.heap.size w2 w3:=qS.trans (Ak.mono qS.size);go_simp
 refine Ap (i:=5) rfl ?_;go_simp
 refine(Yy w2.heap.size _ _ _ (D3.out.ln.below qSw3 (Ab _) (Ab _)) qSw3.size (Bl HZ.out (by decide))).mono ?_;rintro e w4 ⟨p4,rfl,Mm,Al⟩;obtain⟨ap4,mp4,cp4,rfl,_⟩:=Mm.form;have qSw3w4:Below w2.heap.size w2 w4:=qSw3.trans (Al.mono qSw3.size);go_simp
 refine Ap (i:=6) rfl ?_;go_simp
 refine(zmn w4.heap.size _ _ _ _ _ (Ga.below Al (Ab _) Al.size) Mm (Ab _) (N9 (k:=268435456) HY.out (by decide)) (N9 (k:=268435456) HZ.out (by decide))).mono ?_;rintro e w5 ⟨p5,rfl,Xj,Aq⟩;obtain⟨l5,quo,tl5,uP⟩:=Xj;obtain⟨a5,c5,rfl,_⟩:=quo.form
 have Bo:Nat.gcd y.natAbs z.natAbs<LB 1000:=by
  rcases Nat.eq_zero_or_pos y.natAbs with h | h
  ·rw[h,Nat.gcd_zero_left];exact HZ.out
  ·exact Nat.lt_of_le_of_lt (Nat.gcd_le_left _ h) HY.out
 have mG:=Yg tl5 (k:=1000) (by rw[uP];exact N9 (k:=1000) Bo (Ab _));have qSw3w4w5:Below w2.heap.size w2 w5:=qSw3w4.trans (Aq.mono qSw3w4.size);go_simp
 refine Ap (i:=7) rfl ?_;go_simp
 refine(wO w5.heap.size false _ l5 _ quo (Ab _) (by omega)).mono ?_;rintro e w6 ⟨p6,rfl,Jr,Bk,Ff⟩;have Jr:=Zn.mk' (g:=false) Jr (z:=((Nat.gcd y.natAbs z.natAbs:Nat):Int)) (by rw[uP];rfl);obtain⟨a6,m6,c6,rfl⟩:=Jr.form;obtain⟨g6,Hn⟩:=Ae ((false && decide (0<bv Ag l5)));rw[Hn]at Jr ⊢;have qSw3w4w5w6:Below w2.heap.size w2 w6:=qSw3w4w5.trans (Bk.mono qSw3w4w5.size);go_simp
 have q2s:=q2.below qSw3w4w5w6 q2.lt;obtain⟨e0,e1⟩:=q2s.two;have f0:=q2s.free 0;have f1:=q2s.free 1;refine Ap (i:=8) rfl ?_;go_simp
 refine Ap (i:=9) rfl ?_;go_simp
 refine Eo (by kernel_rfl) ?_ _;go_wp2_with fail
 have q3s:=(q2s.set (i:=0) (.bool g6)).set (i:=1) (.slice a6 m6 c6);clear e0 e1;obtain⟨e0,e1⟩:=q3s.two;refine bodyPost_ret (v:=.tuple #[.agg #[.bool g6,.slice a6 m6 c6],.int .i64 0]) (by simp[results,Tryz.results128,go_sem,e0,e1]) rfl ?_
 have Uj:B+2<w5.heap.size:=by have := qSw3w4w5.size;omega
 have ws:=((Jr.set (r:=B+2) (i:=0) (x:=.bool g6) Ff Uj).set (r:=B+2) (i:=1) (x:=.slice a6 m6 c6) Ff Uj);have b6:Below B w w6:=b2.trans (qSw3w4w5w6.mono (by omega));exact⟨_,rfl,.mk (ws.below (Below.refl w6.heap.size _) (Ab _) (by simp[World.setCell])) (Ff.mono (by omega)),(b6.setCell (p:=⟨B+2,0,none⟩) (by simp) _).setCell (p:=⟨B+2,1,none⟩) (by simp) _⟩
theorem zni (K:Nat) (g h:Bool) (u v:Value) (y z:Int) (w:World) (hu:Zn K w g u y) (hv:Zn K w h v z) (hy:y.natAbs<LB 999) (hz:z.natAbs<LB 999) (hK:K<=w.heap.size) :
  Calls Tryz.prog 127 #[.agg #[.bool g,u],.agg #[.bool h,v]] w fun e w'=>∃ x,e=.returned (.tuple #[x,.int .i64 0])/\ZxN w.heap.size w'.heap.size w' x (y+z)/\Below w.heap.size w w':=by
 obtain⟨ua,um,uc,rfl⟩:=hu.form;obtain⟨va,vm,vc,rfl⟩:=hv.form;obtain⟨W1,Ah⟩:=Ae ((((w.alloc (.cells #[.bool g,.slice ua um uc] 37)).alloc (.cells #[.bool h,.slice va vm vc] 37)).alloc (.cells #[.bool false,.slice none 0 0] 37)).alloc (.cells #[.bool g,.slice ua um uc,.bool h,.slice va vm vc] 37));obtain⟨b1,q0,q1,q2,q3,s1⟩:=eG w _ _ _ _ _ _ _ _ Ah;have HW:=Aa Ah;obtain⟨B,hB⟩:=Ae w.heap.size;have HB:=Aa hB;rw[hB]at hK b1 q0 q1 q2 q3 s1 ⊢;have Na:=tG B (B+3) g h _ _ y z W1 (hu.below b1 hK hK) (hv.below b1 hK hK) (Bl hy (by decide)) (Bl hz (by decide)) (by omega) q3;have Mv:=Aa Na;have Wj:=Aa hu;have Xe:=Aa hv;have HY:=Aa hy;have HZ:=Aa hz;clear hB Ah Na hu hv hy hz;go_enter Tryz.func127,Tryz.ntmps127
 go_wp2_with fail
 simp only[HB.out,Nat.add_assoc,Nat.reduceAdd];rw[HW.out];refine Mv.out.mono ?_;rintro e w2 ⟨rfl,Ai⟩;have b2:Below B w w2:=b1.trans (Ai.mono (by omega));have Az:=Ai.size;have q0:=q0.below Ai q0.lt;have q1:=q1.below Ai q1.lt;have q2:=q2.below Ai q2.lt;have Rd:Hid (Zn w2.heap.size w2 g (.slice ua um uc) y):=Aa (Wj.out.below b2 hK (by omega));have D3:Hid (Zn w2.heap.size w2 h (.slice va vm vc) z):=Aa (Xe.out.below b2 hK (by omega));obtain⟨d0,d1⟩:=q0.two;obtain⟨d2,d3⟩:=q1.two;clear q3 Mv Wj Xe
 go_upto_region 3 with fail
 clear d0 d1 d2 d3;refine Fz (fun W'=>Below w2.heap.size w2 W') [13,14] (by kernel_rfl) ?_;have qS:(fun W'=>Below w2.heap.size w2 W') w2.drew:=Er (Below.refl _ _);refine Aw (i:=0) (v:=.pointer (some ⟨B,0,none⟩)) (some 12) rfl rfl qS ?_;refine Dx (i:=1) (v:=.bool g) (some 13) rfl rfl (.inl ⟨by kernel_rfl,fun W' hS=>by have d0:=(q0.below hS q0.lt).at (i:=0) rfl;go_simp⟩) qS ?_;refine Aw (i:=2) (v:=.pointer (some ⟨B,1,none⟩)) (some 14) rfl rfl qS ?_;refine Dx (i:=3) (v:=.slice ua um uc) (some 15) rfl rfl (.inl ⟨by kernel_rfl,fun W' hS=>by have d0:=(q0.below hS q0.lt).at (i:=1) rfl;go_simp⟩) qS ?_;refine Aw (i:=5) (v:=.pointer (some ⟨B+1,0,none⟩)) (some 17) rfl rfl qS ?_;refine Dx (i:=6) (v:=.bool h) (some 18) rfl rfl (.inl ⟨by kernel_rfl,fun W' hS=>by have d0:=(q1.below hS q1.lt).at (i:=0) rfl;go_simp⟩) qS ?_;refine Aw (i:=7) (v:=.pointer (some ⟨B+1,1,none⟩)) (some 19) rfl rfl qS ?_;refine Dx (i:=8) (v:=.slice va vm vc) (some 20) rfl rfl (.inl ⟨by kernel_rfl,fun W' hS=>by have d0:=(q1.below hS q1.lt).at (i:=1) rfl;go_simp⟩) qS ?_;refine Ap (i:=4) rfl ?_;go_simp
 refine(Yy w2.heap.size _ _ _ (Rd.out.ln.below qS (Ab _) (Ab _)) qS.size (Bl HY.out (by decide))).mono ?_;rintro e w3 ⟨p3,rfl,Ga,Ak⟩;obtain⟨ap3,mp3,cp3,rfl,_⟩:=Ga.form;have qSw3:Below w2.heap.size w2 w3:=qS.trans (Ak.mono qS.size);go_simp
 refine Ap (i:=9) rfl ?_;go_simp
 refine(Yy w2.heap.size _ _ _ (D3.out.ln.below qSw3 (Ab _) (Ab _)) qSw3.size (Bl HZ.out (by decide))).mono ?_;rintro e w4 ⟨p4,rfl,Mm,Al⟩;obtain⟨ap4,mp4,cp4,rfl,_⟩:=Mm.form;have qSw3w4:Below w2.heap.size w2 w4:=qSw3.trans (Al.mono qSw3.size);go_simp
 refine Ap (i:=10) rfl ?_;go_simp
 refine(zfd w4.heap.size g h _ _ _ _ _ (Ga.below Al (Ab _) Al.size) Mm (Bl HY.out (by decide)) (Bl HZ.out (by decide)) (Ab _)).mono ?_;rintro e w5 ⟨x6,rfl,Wt,Aq⟩;obtain⟨g6,p6,rfl,Jr,Ff⟩:=Wt;obtain⟨a6,m6,c6,rfl⟩:=Jr.form;rw[Rd.out.val,D3.out.val]at Jr;have qSw3w4w5:Below w2.heap.size w2 w5:=qSw3w4.trans (Aq.mono qSw3w4.size);go_simp
 have q2s:=q2.below qSw3w4w5 q2.lt;obtain⟨e0,e1⟩:=q2s.two;have f0:=q2s.free 0;have f1:=q2s.free 1;refine Aw (i:=11) (v:=.agg #[.bool g6,.slice a6 m6 c6]) (some 23) rfl rfl qSw3w4w5 ?_;refine Aw (i:=12) (v:=.int .i64 0) (some 24) rfl rfl qSw3w4w5 ?_;refine Ap (i:=13) rfl ?_;go_simp
 refine Ap (i:=14) rfl ?_;go_simp
 refine Eo (by kernel_rfl) ?_ _;go_wp2_with fail
 have q3s:=(q2s.set (i:=0) (.bool g6)).set (i:=1) (.slice a6 m6 c6);clear e0 e1;obtain⟨e0,e1⟩:=q3s.two;refine bodyPost_ret (v:=.tuple #[.agg #[.bool g6,.slice a6 m6 c6],.int .i64 0]) (by simp[results,Tryz.results127,go_sem,e0,e1]) rfl ?_
 have Uj:B+2<w4.heap.size:=by have := qSw3w4.size;omega
 have ws:=((Jr.set (r:=B+2) (i:=0) (x:=.bool g6) Ff Uj).set (r:=B+2) (i:=1) (x:=.slice a6 m6 c6) Ff Uj);have b6:Below B w w5:=b2.trans (qSw3w4w5.mono (by omega));exact⟨_,rfl,.mk (ws.below (Below.refl w5.heap.size _) (Ab _) (by simp[World.setCell])) (Ff.mono (by omega)),(b6.setCell (p:=⟨B+2,0,none⟩) (by simp) _).setCell (p:=⟨B+2,1,none⟩) (by simp) _⟩
theorem zf9 (K:Nat) (g h:Bool) (u v:Value) (y z:Int) (w:World) (hu:Zn K w g u y) (hv:Zn K w h v z) (hy:y.natAbs<LB 512) (hz:z.natAbs<LB 512) (hK:K<=w.heap.size) :
  Calls Tryz.prog 124 #[.agg #[.bool g,u],.agg #[.bool h,v]] w fun e w'=>∃ x,e=.returned (.tuple #[x,.int .i64 0])/\ZxN w.heap.size w'.heap.size w' x (y*z)/\Below w.heap.size w w':=by
 obtain⟨ua,um,uc,rfl⟩:=hu.form;obtain⟨va,vm,vc,rfl⟩:=hv.form;obtain⟨W1,Ah⟩:=Ae ((((w.alloc (.cells #[.bool g,.slice ua um uc] 37)).alloc (.cells #[.bool h,.slice va vm vc] 37)).alloc (.cells #[.bool false,.slice none 0 0] 37)).alloc (.cells #[.bool g,.slice ua um uc,.bool h,.slice va vm vc] 37));obtain⟨b1,q0,q1,q2,q3,s1⟩:=eG w _ _ _ _ _ _ _ _ Ah;have HW:=Aa Ah;obtain⟨B,hB⟩:=Ae w.heap.size;have HB:=Aa hB;rw[hB]at hK b1 q0 q1 q2 q3 s1 ⊢;have Na:=tG B (B+3) g h _ _ y z W1 (hu.below b1 hK hK) (hv.below b1 hK hK) (Bl hy (by decide)) (Bl hz (by decide)) (by omega) q3;have Mv:=Aa Na;have Wj:=Aa hu;have Xe:=Aa hv;have HY:=Aa hy;have HZ:=Aa hz;clear hB Ah Na hu hv hy hz;go_enter Tryz.func124,Tryz.ntmps124
 go_wp2_with fail
 simp only[HB.out,Nat.add_assoc,Nat.reduceAdd];rw[HW.out];refine Mv.out.mono ?_;rintro e w2 ⟨rfl,Ai⟩;have b2:Below B w w2:=b1.trans (Ai.mono (by omega));have Az:=Ai.size;have q0:=q0.below Ai q0.lt;have q1:=q1.below Ai q1.lt;have q2:=q2.below Ai q2.lt;have Rd:Hid (Zn w2.heap.size w2 g (.slice ua um uc) y):=Aa (Wj.out.below b2 hK (by omega));have D3:Hid (Zn w2.heap.size w2 h (.slice va vm vc) z):=Aa (Xe.out.below b2 hK (by omega));obtain⟨d0,d1⟩:=q0.two;obtain⟨d2,d3⟩:=q1.two;clear q3 Mv Wj Xe
 go_upto_region 3 with fail
 clear d0 d1 d2 d3;refine Fz (fun W'=>Below w2.heap.size w2 W') [15,16] (by kernel_rfl) ?_;have qS:(fun W'=>Below w2.heap.size w2 W') w2.drew:=Er (Below.refl _ _);refine Aw (i:=0) (v:=.pointer (some ⟨B,0,none⟩)) (some 12) rfl rfl qS ?_;refine Dx (i:=1) (v:=.bool g) (some 13) rfl rfl (.inl ⟨by kernel_rfl,fun W' hS=>by have d0:=(q0.below hS q0.lt).at (i:=0) rfl;go_simp⟩) qS ?_;refine Aw (i:=2) (v:=.pointer (some ⟨B+1,0,none⟩)) (some 14) rfl rfl qS ?_;refine Dx (i:=3) (v:=.bool h) (some 15) rfl rfl (.inl ⟨by kernel_rfl,fun W' hS=>by have d0:=(q1.below hS q1.lt).at (i:=0) rfl;go_simp⟩) qS ?_;refine Aw (i:=4) (v:=.bool (!(g==h))) (some 16) rfl rfl qS ?_;refine Aw (i:=5) (v:=.pointer (some ⟨B,1,none⟩)) (some 17) rfl rfl qS ?_;refine Dx (i:=6) (v:=.slice ua um uc) (some 18) rfl rfl (.inl ⟨by kernel_rfl,fun W' hS=>by have d0:=(q0.below hS q0.lt).at (i:=1) rfl;go_simp⟩) qS ?_;refine Aw (i:=8) (v:=.pointer (some ⟨B+1,1,none⟩)) (some 20) rfl rfl qS ?_;refine Dx (i:=9) (v:=.slice va vm vc) (some 21) rfl rfl (.inl ⟨by kernel_rfl,fun W' hS=>by have d0:=(q1.below hS q1.lt).at (i:=1) rfl;go_simp⟩) qS ?_;refine Ap (i:=7) rfl ?_;go_simp
 refine(Yy w2.heap.size _ _ _ (Rd.out.ln.below qS (Ab _) (Ab _)) qS.size (Bl HY.out (by decide))).mono ?_;rintro e w3 ⟨p3,rfl,Ga,Ak⟩;obtain⟨ap3,mp3,cp3,rfl,_⟩:=Ga.form;have qSw3:Below w2.heap.size w2 w3:=qS.trans (Ak.mono qS.size);go_simp
 refine Ap (i:=10) rfl ?_;go_simp
 refine(Yy w2.heap.size _ _ _ (D3.out.ln.below qSw3 (Ab _) (Ab _)) qSw3.size (Bl HZ.out (by decide))).mono ?_;rintro e w4 ⟨p4,rfl,Mm,Al⟩;obtain⟨ap4,mp4,cp4,rfl,_⟩:=Mm.form;have qSw3w4:Below w2.heap.size w2 w4:=qSw3.trans (Al.mono qSw3.size);go_simp
 refine Ap (i:=11) rfl ?_;go_simp
 refine(zpo w4.heap.size _ _ _ _ _ (Ga.below Al (Ab _) Al.size) Mm (Ab _) (N9 (k:=536870912) HY.out (by decide)) (N9 (k:=536870912) HZ.out (by decide))).mono ?_;rintro e w5 ⟨p5,rfl,Xj,Aq,_⟩;obtain⟨a5,m5,c5,rfl,_⟩:=Xj.form;have qSw3w4w5:Below w2.heap.size w2 w5:=qSw3w4.trans (Aq.mono qSw3w4.size);go_simp
 refine Ap (i:=12) rfl ?_;go_simp
 refine(qby w5.heap.size (!(g==h)) _ _ _ Xj (Ab _) (Bl (Ts HY.out HZ.out) (by decide))).mono ?_;rintro e w6 ⟨x6,rfl,Wt,Bk⟩;obtain⟨g6,p6,rfl,Jr,Ff⟩:=Wt;obtain⟨a6,m6,c6,rfl⟩:=Jr.form;rw[ztz,Rd.out.val,D3.out.val]at Jr;have qSw3w4w5w6:Below w2.heap.size w2 w6:=qSw3w4w5.trans (Bk.mono qSw3w4w5.size);go_simp
 have q2s:=q2.below qSw3w4w5w6 q2.lt;obtain⟨e0,e1⟩:=q2s.two;have f0:=q2s.free 0;have f1:=q2s.free 1;refine Aw (i:=13) (v:=.agg #[.bool g6,.slice a6 m6 c6]) (some 25) rfl rfl qSw3w4w5w6 ?_;refine Aw (i:=14) (v:=.int .i64 0) (some 26) rfl rfl qSw3w4w5w6 ?_;refine Ap (i:=15) rfl ?_;go_simp
 refine Ap (i:=16) rfl ?_;go_simp
 refine Eo (by kernel_rfl) ?_ _;go_wp2_with fail
 have q3s:=(q2s.set (i:=0) (.bool g6)).set (i:=1) (.slice a6 m6 c6);clear e0 e1;obtain⟨e0,e1⟩:=q3s.two;refine bodyPost_ret (v:=.tuple #[.agg #[.bool g6,.slice a6 m6 c6],.int .i64 0]) (by simp[results,Tryz.results124,go_sem,e0,e1]) rfl ?_
 have Uj:B+2<w5.heap.size:=by have := qSw3w4w5.size;omega
 have ws:=((Jr.set (r:=B+2) (i:=0) (x:=.bool g6) Ff Uj).set (r:=B+2) (i:=1) (x:=.slice a6 m6 c6) Ff Uj);have b6:Below B w w6:=b2.trans (qSw3w4w5w6.mono (by omega));exact⟨_,rfl,.mk (ws.below (Below.refl w6.heap.size _) (Ab _) (by simp[World.setCell])) (Ff.mono (by omega)),(b6.setCell (p:=⟨B+2,0,none⟩) (by simp) _).setCell (p:=⟨B+2,1,none⟩) (by simp) _⟩
theorem zgq {y z:Int} (hy:y<0) (hz:z<0):Lz y z = -My y.natAbs z.natAbs:=by
 unfold Lz My
 by_cases h1:y<z
 ·rw[if_pos h1,if_neg (by omega),if_pos (by omega)]
 ·by_cases h2:z<y
  ·rw[if_neg h1,if_pos h2,if_pos (by omega)];rfl
  ·rw[if_neg h1,if_neg h2,if_neg (by omega),if_neg (by omega)];rfl
theorem zef {y z:Int} (hy:0<=y) (hz:0<=z):Lz y z=My y.natAbs z.natAbs:=by
 unfold Lz My
 by_cases h1:y<z
 ·rw[if_pos h1,if_pos (by omega)]
 ·by_cases h2:z<y
  ·rw[if_neg h1,if_pos h2,if_neg (by omega),if_pos (by omega)]
  ·rw[if_neg h1,if_neg h2,if_neg (by omega),if_neg (by omega)]
theorem zee (K:Nat) (g h:Bool) (u v:Value) (y z:Int) (w:World) (hu:Zn K w g u y) (hv:Zn K w h v z) (hy:y.natAbs<LB 1000) (hz:z.natAbs<LB 1000) (hK:K<=w.heap.size) :
  Calls Tryz.prog 104 #[.agg #[.bool g,u],.agg #[.bool h,v]] w fun e w'=>e=.returned (.int .i64 (Lz y z))/\Below w.heap.size w w':=by
 obtain⟨ua,um,uc,rfl⟩:=hu.form;obtain⟨va,vm,vc,rfl⟩:=hv.form;obtain⟨W1,Ah⟩:=Ae (((w.alloc (.cells #[.bool g,.slice ua um uc] 37)).alloc (.cells #[.bool h,.slice va vm vc] 37)).alloc (.cells #[.bool g,.slice ua um uc,.bool h,.slice va vm vc] 37));obtain⟨b1,q0,q1,q2,s1⟩:=N4 w _ _ _ _ _ _ Ah;have HW:=Aa Ah;obtain⟨B,hB⟩:=Ae w.heap.size;have HB:=Aa hB;rw[hB]at hK b1 q0 q1 q2 s1 ⊢;have Na:=tG B (B+2) g h _ _ y z W1 (hu.below b1 hK hK) (hv.below b1 hK hK) (Bl hy (by decide)) (Bl hz (by decide)) (by omega) q2;have Mv:=Aa Na;have Wj:=Aa hu;have Xe:=Aa hv;have HY:=Aa hy;have HZ:=Aa hz;clear hB Ah Na hu hv hy hz;go_enter Tryz.func104,Tryz.ntmps104
 go_wp2_with fail
 simp only[HB.out,Nat.add_assoc,Nat.reduceAdd];rw[HW.out];refine Mv.out.mono ?_;rintro e w2 ⟨rfl,Ai⟩;have b2:Below B w w2:=b1.trans (Ai.mono (by omega));have Az:=Ai.size;have q0:=q0.below Ai q0.lt;have q1:=q1.below Ai q1.lt;have Rd:Hid (Zn w2.heap.size w2 g (.slice ua um uc) y):=Aa (Wj.out.below b2 hK (by omega));have D3:Hid (Zn w2.heap.size w2 h (.slice va vm vc) z):=Aa (Xe.out.below b2 hK (by omega));obtain⟨d0,d1⟩:=q0.two;obtain⟨d2,d3⟩:=q1.two;clear q2 Mv Wj Xe;obtain⟨cv,Ev⟩:=Ae (My y.natAbs z.natAbs);have S8:=Aa Ev;clear Ev;have lM:=Rd.out.sg;have bD:=D3.out.sg
 cases g with
 | true =>
  have Vt:y<0:=by simpa using lM.symm
  cases h with
  | false =>
   have Cz:¬ z<0:=by simpa using bD.symm
   have hr:Lz y z = -1:=by unfold Lz;rw[if_pos (by omega)]
   have HR:=Aa hr;clear hr lM bD;go_wp2_with fail
   go_ret
   exact⟨by rw[HR.out];rfl,b2⟩
  | true =>
   have Cz:z<0:=by simpa using bD.symm
   have Ka:Hid (Lz y z = -cv):=Aa (by rw[zgq Vt Cz,S8.out])
   have cX:cv = -1\/cv=0\/cv=1:=by
    rw[<- S8.out];unfold My
    split
    ·exact .inl rfl
    ·split
     ·exact .inr (.inr rfl)
     ·exact .inr (.inl rfl)
   have bL:IntKind.i64.wrap (-cv) = -cv:=Su (by omega) (by omega);clear lM bD cX
   go_upto_region 7 with fail
   clear d0 d1 d2 d3;refine Fz (fun W'=>Below w2.heap.size w2 W') [] (by kernel_rfl) ?_;have qS:(fun W'=>Below w2.heap.size w2 W') w2.drew:=Er (Below.refl _ _);refine Aw (i:=0) (v:=.pointer (some ⟨B,1,none⟩)) (some 18) rfl rfl qS ?_;refine Dx (i:=1) (v:=.slice ua um uc) (some 19) rfl rfl (.inl ⟨by kernel_rfl,fun W' hS=>by have d0:=(q0.below hS q0.lt).at (i:=1) rfl;go_simp⟩) qS ?_;refine Aw (i:=3) (v:=.pointer (some ⟨B+1,1,none⟩)) (some 21) rfl rfl qS ?_;refine Dx (i:=4) (v:=.slice va vm vc) (some 22) rfl rfl (.inl ⟨by kernel_rfl,fun W' hS=>by have d0:=(q1.below hS q1.lt).at (i:=1) rfl;go_simp⟩) qS ?_;refine Ap (i:=2) rfl ?_;go_simp
   refine(Yy w2.heap.size _ _ _ (Rd.out.ln.below qS (Ab _) (Ab _)) qS.size (Bl HY.out (by decide))).mono ?_;rintro e w3 ⟨p3,rfl,Ga,Ak⟩;obtain⟨ap3,mp3,cp3,rfl,_⟩:=Ga.form;have qSw3:Below w2.heap.size w2 w3:=qS.trans (Ak.mono qS.size);go_simp
   refine Ap (i:=5) rfl ?_;go_simp
   refine(Yy w2.heap.size _ _ _ (D3.out.ln.below qSw3 (Ab _) (Ab _)) qSw3.size (Bl HZ.out (by decide))).mono ?_;rintro e w4 ⟨p4,rfl,Mm,Al⟩;obtain⟨ap4,mp4,cp4,rfl,_⟩:=Mm.form;have qSw3w4:Below w2.heap.size w2 w4:=qSw3.trans (Al.mono qSw3.size);go_simp
   refine Ap (i:=6) rfl ?_;go_simp
   have hc:=uG w4.heap.size _ _ _ _ _ (Ga.below Al (Ab _) Al.size) Mm;rw[S8.out]at hc;refine hc.mono ?_;rintro e w5 ⟨rfl,k5,rfl⟩;have qS5:Below w2.heap.size w2 (w4.drewN k5):=Gn qSw3w4 _;have d0:=(q0.below qS5 q0.lt).two.1;go_simp
   refine Ap (i:=7) rfl ?_;go_simp
   refine Eo (by kernel_rfl) ?_ _;go_wp2_with fail
   go_ret
   exact⟨by rw[Ka.out];rfl,b2.trans (qS5.mono (by omega))⟩
 | false =>
  have Vt:¬ y<0:=by simpa using lM.symm
  cases h with
  | true =>
   have Cz:z<0:=by simpa using bD.symm
   have hr:Lz y z=1:=by unfold Lz;rw[if_neg (by omega),if_pos (by omega)]
   have HR:=Aa hr;clear hr lM bD;go_wp2_with fail
   go_ret
   exact⟨by rw[HR.out];rfl,b2⟩
  | false =>
   have Cz:¬ z<0:=by simpa using bD.symm
   have Ka:Hid (Lz y z=cv):=Aa (by rw[zef (by omega) (by omega),S8.out]);clear lM bD
   go_upto_region 7 with fail
   clear d0 d1 d2 d3;refine Fz (fun W'=>Below w2.heap.size w2 W') [] (by kernel_rfl) ?_;have qS:(fun W'=>Below w2.heap.size w2 W') w2.drew:=Er (Below.refl _ _);refine Aw (i:=0) (v:=.pointer (some ⟨B,1,none⟩)) (some 18) rfl rfl qS ?_;refine Dx (i:=1) (v:=.slice ua um uc) (some 19) rfl rfl (.inl ⟨by kernel_rfl,fun W' hS=>by have d0:=(q0.below hS q0.lt).at (i:=1) rfl;go_simp⟩) qS ?_;refine Aw (i:=3) (v:=.pointer (some ⟨B+1,1,none⟩)) (some 21) rfl rfl qS ?_;refine Dx (i:=4) (v:=.slice va vm vc) (some 22) rfl rfl (.inl ⟨by kernel_rfl,fun W' hS=>by have d0:=(q1.below hS q1.lt).at (i:=1) rfl;go_simp⟩) qS ?_;refine Ap (i:=2) rfl ?_;go_simp
   refine(Yy w2.heap.size _ _ _ (Rd.out.ln.below qS (Ab _) (Ab _)) qS.size (Bl HY.out (by decide))).mono ?_;rintro e w3 ⟨p3,rfl,Ga,Ak⟩;obtain⟨ap3,mp3,cp3,rfl,_⟩:=Ga.form;have qSw3:Below w2.heap.size w2 w3:=qS.trans (Ak.mono qS.size);go_simp
   refine Ap (i:=5) rfl ?_;go_simp
   refine(Yy w2.heap.size _ _ _ (D3.out.ln.below qSw3 (Ab _) (Ab _)) qSw3.size (Bl HZ.out (by decide))).mono ?_;rintro e w4 ⟨p4,rfl,Mm,Al⟩;obtain⟨ap4,mp4,cp4,rfl,_⟩:=Mm.form;have qSw3w4:Below w2.heap.size w2 w4:=qSw3.trans (Al.mono qSw3.size);go_simp
   refine Ap (i:=6) rfl ?_;go_simp
   have hc:=uG w4.heap.size _ _ _ _ _ (Ga.below Al (Ab _) Al.size) Mm;rw[S8.out]at hc;refine hc.mono ?_;rintro e w5 ⟨rfl,k5,rfl⟩;have qS5:Below w2.heap.size w2 (w4.drewN k5):=Gn qSw3w4 _;have d0:=(q0.below qS5 q0.lt).two.1;go_simp
   refine Ap (i:=7) rfl ?_;go_simp
   refine Eo (by kernel_rfl) ?_ _;go_wp2_with fail
   go_ret
   exact⟨by rw[Ka.out];rfl,b2.trans (qS5.mono (by omega))⟩
end Go.Proofs.YtlldjmagbjjeoaaGreatDoor
