/- Contracts and plain laws, several texts in one (NZ3, GTime2). No conditions beyond those stated. -/
import Derived.Test.YtlldjmagbjjeoaaGreatDoorPk13
set_option maxRecDepth 100000
set_option maxHeartbeats 40000000
namespace Go.Proofs.YtlldjmagbjjeoaaGreatDoor
open Go.RowKit
set_option linter.unusedVariables false
abbrev Fg (g:Bool) (u:Value) (h:Bool) (v:Value):Value:=.agg #[.bool g,u,.bool h,v]
theorem qrv (K:Nat) (g:Bool) (v:Value) (l:List Nat) (w:World) (h:Lm K w v l) (hK:K<=w.heap.size):Calls Tryz.prog 114 #[.agg #[.bool g,v]] w fun e w'=>e=.returned (.bool (!g && l==[1]))/\Below w.heap.size w w':=by
 cases g with
 | true =>
  obtain⟨a,c,rfl,_⟩:=h.form;go_enter Tryz.func114,Tryz.ntmps114
  go_wp2_with fail
  go_ret
  exact⟨rfl,(Below.refl _ w).alloc (Ab _) _⟩
 | false =>
  match l,h with
  | [],h =>
   obtain⟨a,c,rfl,_⟩:=h.form
   show Calls Tryz.prog 114 #[.agg #[.bool false,.slice a 0 c]] w _
   go_enter Tryz.func114,Tryz.ntmps114
   go_wp2_with fail
   go_ret
   exact⟨rfl,(Below.refl _ w).alloc (Ab _) _⟩
  | [x],h =>
   obtain⟨b,o,c,rfl,h1,hc,hb,h5⟩:=h.pos (by simp);have e0:w.cell? ⟨b,o,none⟩=some (.int .u16 (x:Int)):=h5 0 (by simp)
   have Aj:b<w.heap.size:=by omega
   have At:¬ b=w.heap.size:=by omega
   show Calls Tryz.prog 114 #[.agg #[.bool false,.slice (some ⟨b,o,none⟩) 1 c]] w _
   clear h h5 h1
   by_cases hx:x=1
   ·subst hx
    go_enter Tryz.func114,Tryz.ntmps114
    go_wp2_with fail
    go_ret
    exact⟨rfl,(Below.refl _ w).alloc (Ab _) _⟩
   ·have Ck:((x:Int)==1)=false:=by simp;omega
    have hr:(!false && [x]==[1])=false:=by simp;omega
    rw[hr];clear hr;go_enter Tryz.func114,Tryz.ntmps114
    go_wp2_with fail
    go_ret
    exact⟨rfl,(Below.refl _ w).alloc (Ab _) _⟩
  | x::y::r,h =>
   obtain⟨a,c,rfl,_⟩:=h.form
   have hr:(!false && (x::y::r)==[1])=false:=by simp
   rw[hr];obtain⟨n,hn⟩:=Ae ((x::y::r).length)
   have Dp:2<=n:=by rw[<- hn];simp
   rw[hn]
   have Ck:((n:Int)==1)=false:=by simp;omega
   clear h hr hn;go_enter Tryz.func114,Tryz.ntmps114
   go_wp2_with fail
   go_ret
   exact⟨rfl,(Below.refl _ w).alloc (Ab _) _⟩
theorem zwa {l:List Nat} (h1:∀ d∈l,d<65536) (h2:Hr l):(l==[1])=(As l==1):=by
 rw[Bool.eq_iff_iff,beq_iff_eq,beq_iff_eq];constructor
 ·intro h;rw[h];rfl
 ·intro h
  have := (Zw (k:=1) h1 h2).2 (by rw[h];decide)
  match l,this with
  | [],_=>simp[As]at h
  | [d],_=>rw[qo0]at h;rw[h]
theorem Lm.zn {K m:Nat} {g:Bool} {w:World} {v:Value} {l:List Nat} (h:Lm K w v l) (ho:wOk m g l=true):Zn K w g v (sgz g (As l)):=by
 obtain⟨h1,h2,h3⟩:=vD ho;refine⟨by rw[Ww];exact⟨l,h,h1,rfl⟩,?_⟩;unfold sgz
 cases g with
 | false=>simp
 | true =>
  have:As l≠0:=fun e=>by
   have h4:=(Zw (k:=0) h.2 h1).2 (by rw[e];decide);exact absurd (h3 (by omega)) (by decide)
  simp;omega
theorem zbx (g1 g2:Bool) (n1 n2 c1 c2:Nat) (a1 a2:Option Addr) (w:World):Calls Tryz.prog 111 #[Fg g1 (.slice a1 n1 c1) g2 (.slice a2 n2 c2)] w fun e w'=>e=.returned (.bool (decide (256<n1) || decide (256<n2)))/\Below w.heap.size w w':=by
 by_cases h1:256<n1
 ·have e1:decide ((256:Int)<(n1:Int))=true:=by simp;omega
  have e2:decide (256<n1)=true:=by simp;omega
  rw[e2];go_enter Tryz.func111,Tryz.ntmps111
  go_wp2_with fail
  go_ret
  exact⟨rfl,(Below.refl _ w).alloc (Ab _) _⟩
 ·have e1:decide ((256:Int)<(n1:Int))=false:=by simp;omega
  have e2:decide (256<n1)=false:=by simp;omega
  rw[e2]
  by_cases h2:256<n2
  ·have e3:decide ((256:Int)<(n2:Int))=true:=by simp;omega
   have e4:decide (256<n2)=true:=by simp;omega
   rw[e4];go_enter Tryz.func111,Tryz.ntmps111
   go_wp2_with fail
   go_ret
   exact⟨rfl,(Below.refl _ w).alloc (Ab _) _⟩
  ·have e3:decide ((256:Int)<(n2:Int))=false:=by simp;omega
   have e4:decide (256<n2)=false:=by simp;omega
   rw[e4];go_enter Tryz.func111,Tryz.ntmps111
   go_wp2_with fail
   go_ret
   exact⟨rfl,(Below.refl _ w).alloc (Ab _) _⟩
theorem zlx (K:Nat) (g1 g2:Bool) (u v:Value) (l:List Nat) (w:World) (hu:u.oneCell'=true) (hv:Lm K w v l) (hK:K<=w.heap.size):Calls Tryz.prog 113 #[Fg g1 u g2 v] w fun e w'=>e=.returned (.bool (!g2 && l==[1]))/\Below w.heap.size w w':=by
 have b1:Below w.heap.size w (w.alloc (.cells #[.bool g1,u,.bool g2,v] 138)):=Af _ _;have hc:=qrv w.heap.size g2 v l _ (hv.below b1 hK hK) (by simp);obtain⟨va,vc,rfl,_⟩:=hv.form;obtain⟨r,hr⟩:=Ae ((!g2 && l==[1]));rw[hr]at hc ⊢;obtain⟨n,hn⟩:=Ae l.length;rw[hn]at hc b1 ⊢;clear hr hv hn;cases u<;>simp[Value.oneCell']at hu
 all_goals
  go_enter Tryz.func113,Tryz.ntmps113
  go_wp2_with fail
  refine hc.mono ?_;rintro e w2 ⟨rfl,Ai⟩;go_wp2_with fail
  go_ret
  exact⟨rfl,b1.trans (Ai.mono (by simp))⟩
theorem zq4 (g1:Bool) (l1:List Nat) (g2:Bool) (l2:List Nat):frOk g1 l1 g2 l2=(!(decide (256<l1.length) || decide (256<l2.length)) && wOk 1024 g1 l1 && wOk 1024 g2 l2 && !g2 && l2.length != 0 && Nat.gcd (As l1) (As l2)==1):=by
 unfold frOk
 have h1:decide (l1.length<=256) = !decide (256<l1.length):=by rw[<- decide_not];congr 1;simp
 have h2:decide (l2.length<=256) = !decide (256<l2.length):=by rw[<- decide_not];congr 1;simp
 rw[h1,h2,Bool.not_or]
theorem zlz (K:Nat) (g1 g2:Bool) (u v:Value) (l1 l2:List Nat) (w:World) (hu:Lm K w u l1) (hv:Lm K w v l2) (hK:K<=w.heap.size) :
  Calls Tryz.prog 87 #[Fg g1 u g2 v] w fun e w'=>e=.returned (.bool (frOk g1 l1 g2 l2))/\Below w.heap.size w w':=by
 obtain⟨ua,uc,rfl,_⟩:=hu.form;obtain⟨va,vc,rfl,_⟩:=hv.form;obtain⟨r,hr⟩:=Ae (frOk g1 l1 g2 l2);rw[hr];rw[zq4]at hr;obtain⟨um,aE⟩:∃ n,l1.length=n:=⟨_,rfl⟩;obtain⟨vm,Mn⟩:∃ n,l2.length=n:=⟨_,rfl⟩
 have Hg:∀ W,Calls Tryz.prog 111 #[Fg g1 (.slice ua um uc) g2 (.slice va vm vc)] W fun e w'=>e=.returned (.bool (decide (256<um) || decide (256<vm)))/\Below W.heap.size W w':=fun W=>zbx g1 g2 um vm uc vc ua va W
 rw[aE,Mn]at hr;rw[aE]at hu ⊢;rw[Mn]at hv ⊢;obtain⟨W1,Ah⟩:=Ae (w.alloc (.cells #[.bool g1,.slice ua um uc,.bool g2,.slice va vm vc] 138))
 have q1:Blk W1 w.heap.size #[.bool g1,.slice ua um uc,.bool g2,.slice va vm vc] 138:=by rw[<- Ah];exact Blk.new w _ _
 have b1:Below w.heap.size w W1:=by rw[<- Ah];exact Af _ _
 have s1:W1.heap.size=w.heap.size+1:=by rw[<- Ah];simp
 obtain⟨B,hB⟩:=Ae w.heap.size;have HB:=Aa hB;have HW:=Aa Ah;rw[hB]at hK b1 q1 s1 ⊢;obtain⟨bl,Gq⟩:∃ b,(decide (256<um) || decide (256<vm))=b:=⟨_,rfl⟩;obtain⟨bu,qe6⟩:∃ b,wOk 1024 g1 l1=b:=⟨_,rfl⟩;obtain⟨bv',aD⟩:∃ b,wOk 1024 g2 l2=b:=⟨_,rfl⟩;rw[Gq]at Hg hr;rw[qe6,aD]at hr;have HU:=Aa hu;have HV:=Aa hv;have Nl:=Aa Hg;have qjf:=Aa qe6;have uE:=Aa aD;have qdk:=Aa Gq;have zvl:=Aa aE;have zi8:=Aa Mn;have Xl:=Aa hr;clear hB Ah hu hv Hg qe6 aD Gq aE Mn hr;obtain⟨c0,c1,c2,c3⟩:=q1.four;go_enter Tryz.func87,Tryz.ntmps87
 go_upto_region 1 with fail
 simp only[HB.out];rw[HW.out];go_wp2_with fail
 refine(Nl.out _).mono ?_;rintro e w2 ⟨rfl,Ai⟩;clear c0 c1 c2 c3 Nl;have b2:Below B w w2:=b1.trans (Ai.mono (by omega));have Az:=Ai.size;have q2:=q1.below Ai q1.lt;obtain⟨c0,c1,c2,c3⟩:=q2.four
 cases bl with
 | true =>
  have HR:Hid (r=false):=Aa (by rw[<- Xl.out];rfl);go_wp2_with fail
  go_ret
  exact⟨by rw[HR.out];rfl,b2⟩
 | false =>
  have hc:=qh2 B g1 _ l1 w2 (HU.out.below b2 hK hK) (by omega);rw[qjf.out]at hc;have HC:=Aa hc;clear hc;go_wp2_with fail
  refine HC.out.mono ?_;rintro e w3 ⟨rfl,Ak⟩;clear c0 c1 c2 c3 HC;have b3:Below B w w3:=b2.trans (Ak.mono (by omega));have Ep:=Ak.size;have q3:=q2.below Ak q2.lt;obtain⟨c0,c1,c2,c3⟩:=q3.four
  cases bu with
  | false =>
   have HR:Hid (r=false):=Aa (by rw[<- Xl.out];rfl);go_wp2_with fail
   go_ret
   exact⟨by rw[HR.out];rfl,b3⟩
  | true =>
   have hc:=qh2 B g2 _ l2 w3 (HV.out.below b3 hK hK) (by omega);rw[uE.out]at hc;have HC:=Aa hc;clear hc;go_wp2_with fail
   refine HC.out.mono ?_;rintro e w4 ⟨rfl,Al⟩;clear c0 c1 c2 c3 HC;have b4:Below B w w4:=b3.trans (Al.mono (by omega));have Fi:=Al.size;have q4:=q3.below Al q3.lt;obtain⟨c0,c1,c2,c3⟩:=q4.four
   cases bv' with
   | false =>
    have HR:Hid (r=false):=Aa (by rw[<- Xl.out];rfl);go_wp2_with fail
    go_ret
    exact⟨by rw[HR.out];rfl,b4⟩
   | true =>
    cases g2 with
    | true =>
     have HR:Hid (r=false):=Aa (by rw[<- Xl.out];rfl);go_wp2_with fail
     go_ret
     exact⟨by rw[HR.out];rfl,b4⟩
    | false =>
     by_cases K2:vm=0
     ·subst K2
      have HR:Hid (r=false):=Aa (by rw[<- Xl.out];rfl);go_wp2_with fail
      go_ret
      exact⟨by rw[HR.out];rfl,b4⟩
     ·have zml:((vm:Int)==0)=false:=by simp;omega
      have HR:Hid (r=(Nat.gcd (As l1) (As l2)==1)):=Aa (by rw[<- Xl.out];simp[K2]);have hi:=zlx B g1 false (.slice ua um uc) _ l2 w4 rfl (HV.out.below b4 hK hK) (by omega);rw[Bool.not_false,Bool.true_and]at hi;have HI:=Aa hi;have qxh:=(HU.out.zn (qjf.out)).below b4 hK (show K<=B from hK);have sM:=(HV.out.zn (uE.out)).below b4 hK (show K<=B from hK);have zew:=Aa qxh;have tZ:=Aa sM
      have Sj:∀ l:List Nat,l.length<=256->(∀ d∈l,d<65536)->Hr l->As l<LB 1000:=fun l h1 h2 h3=>Bl ((Zw h2 h3).1 h1) (by decide)
      have Bt:um<=256/\vm<=256:=by have := qdk.out;simp at this;omega
      have qya:As l1<LB 1000:=Sj l1 (by rw[zvl.out];exact Bt.1) HU.out.2 (vD qjf.out).1;have qug:As l2<LB 1000:=Sj l2 (by rw[zi8.out];exact Bt.2) HV.out.2 (vD uE.out).1;have zda:=Aa qya;have zmo:=Aa qug;obtain⟨one,rH⟩:∃ b,(l2==[1])=b:=⟨_,rfl⟩;rw[rH]at HI;have zhi:=Aa rH;clear hi qxh sM Sj Bt qya qug rH K2;go_wp2_with fail
      refine HI.out.mono ?_;rintro e w5 ⟨rfl,Aq⟩;clear c0 c1 c2 c3 HI;have b5:Below B w w5:=b4.trans (Aq.mono (by omega));have Kg:=Aq.size;have q5:=q4.below Aq q4.lt;obtain⟨c0,c1,c2,c3⟩:=q5.four
      cases one with
      | true =>
       have zft:Hid (r=true):=Aa (by
        have:l2=[1]:=by simpa using zhi.out
        rw[HR.out,this,qo0,Nat.gcd_one_right];rfl)
       go_wp2_with fail
       go_ret
       exact⟨by rw[zft.out];rfl,b5⟩
      | false =>
       have hd:=qn8 B g1 false _ _ _ _ w5 (zew.out.below Aq (by omega) (Ab _)) (tZ.out.below Aq (by omega) (Ab _)) (by rw[Ww];exact zda.out) (by rw[Ww];exact zmo.out) (by omega);rw[Ww,Ww]at hd;have HD:=Aa hd;clear hd;go_wp2_with fail
       refine HD.out.mono ?_;rintro e w6 ⟨x,rfl,hx,Bk⟩;obtain⟨gx,gu,rfl,Sk,_⟩:=hx;obtain rfl:=Sk.pos (by omega);obtain⟨lg,O2,tlg,Y5⟩:=Sk.ln;have ho:=qrv w6.heap.size false gu lg w6 O2 (Ab _);rw[Bool.not_false,Bool.true_and,zwa O2.2 tlg,Y5,Int.natAbs_natCast,<- HR.out]at ho;obtain⟨xa,xm,xc,rfl⟩:=Sk.form;have HO:=Aa ho;have Nt:=Bk.size;clear HD Sk O2 tlg Y5 ho;go_wp2_with fail
       refine HO.out.mono ?_;rintro e w7 ⟨rfl,Ct⟩;go_wp2_with fail
       go_ret
       exact⟨rfl,b5.trans ((Bk.mono (by omega)).trans (Ct.mono (by omega)))⟩
theorem qor (K:Nat) (g1 g2:Bool) (u v:Value) (l1 l2:List Nat) (w:World) (hu:Lm K w u l1) (hv:Lm K w v l2) (hK:K<=w.heap.size) :
  Calls Tryz.prog 50 #[Fg g1 u g2 v] w fun e w'=>e=.returned (.bool (frOk g1 l1 g2 l2))/\Below w.heap.size w w':=by
 have b1:Below w.heap.size w (w.alloc (.cells #[.bool g1,u,.bool g2,v] 39)):=Af _ _;have hc:=zlz w.heap.size g1 g2 u v l1 l2 _ (hu.below b1 hK hK) (hv.below b1 hK hK) (by simp);obtain⟨ua,uc,rfl,_⟩:=hu.form;obtain⟨va,vc,rfl,_⟩:=hv.form;obtain⟨um,aE⟩:∃ n,l1.length=n:=⟨_,rfl⟩;obtain⟨vm,Mn⟩:∃ n,l2.length=n:=⟨_,rfl⟩;obtain⟨r,hr⟩:=Ae (frOk g1 l1 g2 l2);rw[hr,aE,Mn]at hc;rw[aE,Mn]at b1;rw[hr,aE,Mn];clear aE Mn hu hv hr;go_enter Tryz.func50,Tryz.ntmps50
 go_wp2_with fail
 refine hc.mono ?_;rintro e w2 ⟨rfl,Ai⟩;go_wp2_with fail
 go_ret
 exact⟨rfl,b1.trans (Ai.mono (by simp))⟩
structure Qv (K:Nat) (w:World) (g:Bool) (u v:Value) (p:Int) (q:Nat):Prop where
 n:Zn K w g u p
 d:Zn K w false v (q:Int)
 q0:0<q
 cop:Nat.gcd p.natAbs q=1
 pl:p.natAbs<LB 256
 ql:q<LB 256
theorem Qv.below {K K' B:Nat} {w w':World} {g:Bool} {u v:Value} {p:Int} {q:Nat} (h:Qv K w g u v p q) (hb:Below B w w') (hB:K<=B) (hK:K<=K'):Qv K' w' g u v p q:=⟨h.n.below hb hB hK,h.d.below hb hB hK,h.q0,h.cop,h.pl,h.ql⟩
theorem qry {g1:Bool} {l1:List Nat} {g2:Bool} {l2:List Nat} (h:frOk g1 l1 g2 l2=true):l1.length<=256/\l2.length<=256/\wOk 1024 g1 l1=true/\wOk 1024 g2 l2=true/\g2=false/\l2.length≠0/\Nat.gcd (As l1) (As l2)=1:=by
 unfold frOk at h;simp only[Bool.and_eq_true,decide_eq_true_eq,beq_iff_eq,bne_iff_ne,ne_eq,Bool.not_eq_true']at h;obtain⟨⟨⟨⟨⟨⟨h1,h2⟩,h3⟩,h4⟩,h5⟩,h6⟩,h7⟩:=h;exact⟨h1,h2,h3,h4,h5,h6,h7⟩
theorem Lm.qv {K:Nat} {g1 g2:Bool} {w:World} {u v:Value} {l1 l2:List Nat} (hu:Lm K w u l1) (hv:Lm K w v l2) (h:frOk g1 l1 g2 l2=true):g2=false/\Qv K w g1 u v (sgz g1 (As l1)) (As l2):=by
 obtain⟨h1,h2,h3,h4,h5,h6,h7⟩:=qry h;subst h5;have t1:=(vD h3).1;have t2:=(vD h4).1;refine⟨rfl,hu.zn h3,hv.zn h4,?_,by rw[Ww];exact h7,by rw[Ww];exact(Zw hu.2 t1).1 h1,(Zw hv.2 t2).1 h2⟩
 rcases Nat.eq_zero_or_pos (As l2)with h | h
 ·have := (Zw (k:=0) hv.2 t2).2 (by rw[h];decide)
  omega
 ·exact h
theorem Qv.frOk {K:Nat} {w:World} {g:Bool} {u v:Value} {p:Int} {q:Nat} (h:Qv K w g u v p q):∃ l1 l2,Lm K w u l1/\Lm K w v l2/\frOk g l1 false l2=true:=by
 obtain⟨l1,a1,t1,e1⟩:=h.n.ln;obtain⟨l2,a2,t2,e2⟩:=h.d.ln;rw[Int.natAbs_natCast]at e2;have n1:=(Zw a1.2 t1).2 (by rw[e1];exact h.pl);have n2:=(Zw a2.2 t2).2 (by rw[e2];exact h.ql)
 have z1:l1.length=0->g=false:=fun e=>by
  rw[List.eq_nil_of_length_eq_zero e]at e1
  have:p=0:=by simp[As]at e1;omega
  rw[h.n.sg,this];rfl
 have z2:l2.length≠0:=fun e=>by
  rw[List.eq_nil_of_length_eq_zero e]at e2;have := h.q0;simp[As]at e2;omega
 refine⟨l1,l2,a1,a2,?_⟩;unfold Proofs.YtlldjmagbjjeoaaGreatDoor.frOk;rw[qcl t1 (by omega) z1,qcl t2 (by omega) (fun _=>rfl),e1,e2,h.cop];simp[n1,n2];intro e;exact z2 (by rw[e];rfl)
theorem zua (K:Nat) (g:Bool) (u v:Value) (p:Int) (q:Nat) (w:World) (h:Qv K w g u v p q) (hK:K<=w.heap.size) :
  Calls Tryz.prog 50 #[Fg g u false v] w fun e w'=>e=.returned (.bool true)/\Below w.heap.size w w':=by
 obtain⟨l1,l2,h1,h2,h3⟩:=h.frOk;have := qor K g false u v l1 l2 w h1 h2 hK;rwa[h3]at this
theorem qps (K:Nat) (g:Bool) (u v:Value) (p:Int) (q:Nat) (w:World) (h:Qv K w g u v p q) (hK:K<=w.heap.size) :
  Calls Tryz.prog 120 #[Fg g u false v] w fun e w'=>e=.returned (.bool false)/\Below w.heap.size w w':=by
 have b1:Below w.heap.size w (w.alloc (.cells #[.bool g,u,.bool false,v] 39)):=Af _ _;have hc:=zua w.heap.size g u v p q _ (h.below b1 hK hK) (by simp);obtain⟨ua,um,uc,rfl⟩:=h.n.form;obtain⟨va,vm,vc,rfl⟩:=h.d.form;clear h;go_enter Tryz.func120,Tryz.ntmps120
 go_wp2_with fail
 refine hc.mono ?_;rintro e w2 ⟨rfl,Ai⟩;go_wp2_with fail
 go_ret
 exact⟨rfl,b1.trans (Ai.mono (by simp))⟩
theorem zgl (K b:Nat) (g h:Bool) (u v x y:Value) (m p:Int) (n q:Nat) (w:World) (h1:Qv K w g u v m n) (h2:Qv K w h x y p q) (hK:K<=w.heap.size)
  (hq:Blk w b #[.bool g,u,.bool false,v,.bool h,x,.bool false,y] 39) :
  Calls Tryz.prog 131 #[.slice (some ⟨b,0,none⟩) 2 2,.func (.func 120) #[] #[]] w fun e w'=>e=.returned (.int .i64 (-1))/\Below w.heap.size w w':=by
 have qnb:=qps K g u v m n w h1 hK;have hb:=hq.lt
 have Ii:∀ W,Below w.heap.size w W->Calls Tryz.prog 120 #[Fg h x false y] W fun e w'=>e=.returned (.bool false)/\Below W.heap.size W w':=fun W hb=>qps W.heap.size h x y p q W (h2.below hb hK (Nat.le_trans hK hb.size)) (Ab _)
 obtain⟨ua,um,uc,rfl⟩:=h1.n.form;obtain⟨va,vm,vc,rfl⟩:=h1.d.form;obtain⟨xa,xm,xc,rfl⟩:=h2.n.form;obtain⟨ya,ym,yc,rfl⟩:=h2.d.form;obtain⟨d0,d1,d2,d3,d4,d5,d6,d7⟩:=hq.eight;have zsy:=Aa qnb;have Gh:=Aa Ii;clear h1 h2 qnb Ii;go_enter Tryz.func131,Tryz.ntmps131
 go_wp2_with fail
 refine wp_loop_rounds 3 ?_;rw[rounds_succ];go_wp2_with fail
 refine zsy.out.mono ?_;rintro e w2 ⟨rfl,Ai⟩;clear d0 d1 d2 d3 d4 d5 d6 d7;obtain⟨d0,d1,d2,d3,d4,d5,d6,d7⟩:=(hq.below Ai hb).eight;go_wp2_with fail
 rw[rounds_succ];go_wp2_with fail
 refine(Gh.out w2 Ai).mono ?_;rintro e w3 ⟨rfl,Ak⟩;go_wp2_with fail
 rw[rounds_succ];go_wp2_with fail
 go_ret
 exact⟨rfl,Ai.trans (Ak.mono Ai.size)⟩
theorem qg9 (K b:Nat) (g h:Bool) (u v x y:Value) (m p:Int) (n q:Nat) (w:World) (h1:Qv K w g u v m n) (h2:Qv K w h x y p q) (hK:K<=w.heap.size)
  (hq:Blk w b #[.bool g,u,.bool false,v,.bool h,x,.bool false,y] 39) :
  Calls Tryz.prog 103 #[.slice (some ⟨b,0,none⟩) 2 2] w fun e w'=>e=.returned (.bool true)/\Below w.heap.size w w':=by
 have hi:=zgl K b g h u v x y m p n q w h1 h2 hK hq
 have hc:Calls Tryz.prog 119 #[.slice (some ⟨b,0,none⟩) 2 2,.func (.func 120) #[] #[]] w fun e w'=>e=.returned (.bool false)/\Below w.heap.size w w':=by
  go_enter Tryz.func119,Tryz.ntmps119
  go_wp2_with fail
  refine hi.mono ?_;rintro e w2 ⟨rfl,Ai⟩;go_wp2_with fail
  go_ret
  exact⟨rfl,Ai⟩
 clear hi;go_enter Tryz.func103,Tryz.ntmps103
 go_wp2_with fail
 refine hc.mono ?_;rintro e w2 ⟨rfl,Ai⟩;go_wp2_with fail
 go_ret
 exact⟨rfl,Ai⟩
theorem zq0 (K:Nat) (g h:Bool) (u v x y:Value) (m p:Int) (n q:Nat) (w:World) (h1:Qv K w g u v m n) (h2:Qv K w h x y p q) (hK:K<=w.heap.size) :
  Calls Tryz.prog 81 #[Fg g u false v,Fg h x false y] w fun e w'=>e=.returned (.int .i64 (Lz (m*q) (p*n)))/\Below w.heap.size w w':=by
 obtain⟨ua,um,uc,rfl⟩:=h1.n.form;obtain⟨va,vm,vc,rfl⟩:=h1.d.form;obtain⟨xa,xm,xc,rfl,_,_,Ng,_⟩:=h2.n.ln.form;obtain⟨ya,ym,yc,rfl⟩:=h2.d.form;obtain⟨W1,Ah⟩:=Ae (((w.alloc (.cells #[.bool g,.slice ua um uc,.bool false,.slice va vm vc] 39)).alloc (.cells #[.bool h,.slice xa xm xc,.bool false,.slice ya ym yc] 39)).alloc (.cells #[.bool g,.slice ua um uc,.bool false,.slice va vm vc,.bool h,.slice xa xm xc,.bool false,.slice ya ym yc] 39));obtain⟨b1,q0,q1,q2,s1⟩:=N4 w _ _ _ _ _ _ Ah;have HW:=Aa Ah;obtain⟨B,hB⟩:=Ae w.heap.size;have HB:=Aa hB;rw[hB]at hK b1 q0 q1 q2 s1 ⊢;have Na:=qg9 B (B+2) g h _ _ _ _ m p n q W1 (h1.below b1 hK hK) (h2.below b1 hK hK) (by omega) q2;have Mv:=Aa Na;have H1:=Aa h1;have H2:=Aa h2;clear hB Ah Na h1 h2;go_enter Tryz.func81,Tryz.ntmps81
 go_wp2_with fail
 simp only[HB.out,Nat.add_assoc,Nat.reduceAdd];rw[HW.out];refine Mv.out.mono ?_;rintro e w2 ⟨rfl,Ai⟩;have b2:Below B w w2:=b1.trans (Ai.mono (by omega));have Az:=Ai.size;have q0:=q0.below Ai q0.lt;have q1:=q1.below Ai q1.lt;have Mb:Hid (Qv w2.heap.size w2 g (.slice ua um uc) (.slice va vm vc) m n):=Aa (H1.out.below b2 hK (by omega));have Lq:Hid (Qv w2.heap.size w2 h (.slice xa xm xc) (.slice ya ym yc) p q):=Aa (H2.out.below b2 hK (by omega));clear Mv q2 H1 H2;obtain⟨cv,Ev⟩:=Ae (Lz (m*q) (p*n));have S8:=Aa Ev;clear Ev
 go_upto_region 3 with fail
 refine Fz (fun W'=>Below w2.heap.size w2 W') [] (by kernel_rfl) ?_;have qS:(fun W'=>Below w2.heap.size w2 W') w2.drew:=Er (Below.refl _ _);refine Aw (i:=0) (v:=.pointer (some ⟨B,0,none⟩)) (some 10) rfl rfl qS ?_;refine Dx (i:=1) (v:=.agg #[.bool g,.slice ua um uc]) (some 11) rfl rfl (.inl ⟨by kernel_rfl,fun W' hS=>by have d0:=(q0.below hS q0.lt).at (i:=0) rfl;have d1:=(q0.below hS q0.lt).at (i:=1) rfl;go_simp⟩) qS ?_;refine Aw (i:=2) (v:=.pointer (some ⟨B+1,2,none⟩)) (some 12) rfl rfl qS ?_;refine Dx (i:=3) (v:=.agg #[.bool false,.slice ya ym yc]) (some 13) rfl rfl (.inl ⟨by kernel_rfl,fun W' hS=>by have d0:=(q1.below hS q1.lt).at (i:=2) rfl;have d1:=(q1.below hS q1.lt).at (i:=3) rfl;go_simp⟩) qS ?_;refine Aw (i:=5) (v:=.pointer (some ⟨B+1,0,none⟩)) (some 15) rfl rfl qS ?_;refine Dx (i:=6) (v:=.agg #[.bool h,.slice xa xm xc]) (some 16) rfl rfl (.inl ⟨by kernel_rfl,fun W' hS=>by have d0:=(q1.below hS q1.lt).at (i:=0) rfl;have d1:=(q1.below hS q1.lt).at (i:=1) rfl;go_simp⟩) qS ?_;refine Aw (i:=7) (v:=.pointer (some ⟨B,2,none⟩)) (some 17) rfl rfl qS ?_;refine Dx (i:=8) (v:=.agg #[.bool false,.slice va vm vc]) (some 18) rfl rfl (.inl ⟨by kernel_rfl,fun W' hS=>by have d0:=(q0.below hS q0.lt).at (i:=2) rfl;have d1:=(q0.below hS q0.lt).at (i:=3) rfl;go_simp⟩) qS ?_;refine Ap (i:=4) rfl ?_;go_simp
 refine(eC w2.heap.size _ _ _ _ _ _ _ (Mb.out.n.below qS (Ab _) (Ab _)) (Lq.out.d.below qS (Ab _) (Ab _)) (Bl Mb.out.pl (by decide)) (Bl Lq.out.ql (by decide)) qS.size).mono ?_;rintro e w3 ⟨x3,rfl,Tk,Ak⟩;obtain⟨g3,p3,rfl,Ga,Zc⟩:=Tk;obtain⟨a3,m3,c3,rfl⟩:=Ga.form;have qSw3:Below w2.heap.size w2 w3:=qS.trans (Ak.mono qS.size);go_simp
 refine Ap (i:=9) rfl ?_;go_simp
 refine(eC w2.heap.size _ _ _ _ _ _ _ (Lq.out.n.below qSw3 (Ab _) (Ab _)) (Mb.out.d.below qSw3 (Ab _) (Ab _)) (Bl Lq.out.pl (by decide)) (Bl Mb.out.ql (by decide)) qSw3.size).mono ?_;rintro e w4 ⟨x4,rfl,qia,Al⟩;obtain⟨g4,p4,rfl,Mm,gH⟩:=qia;obtain⟨a4,m4,c4,rfl⟩:=Mm.form;have qSw3w4:Below w2.heap.size w2 w4:=qSw3.trans (Al.mono qSw3.size);go_simp
 refine Ap (i:=10) rfl ?_;go_simp
 have hc:=zee w4.heap.size _ _ _ _ _ _ _ (Ga.below Al (Ab _) Al.size) Mm (by rw[Int.natAbs_mul];exact Bl (Ts Mb.out.pl Lq.out.ql) (by decide)) (by rw[Int.natAbs_mul];exact Bl (Ts Lq.out.pl Mb.out.ql) (by decide)) (Ab _);rw[S8.out]at hc;refine hc.mono ?_;rintro e w5 ⟨rfl,Aq⟩;have qSw3w4w5:Below w2.heap.size w2 w5:=qSw3w4.trans (Aq.mono qSw3w4.size);go_simp
 refine Ap (i:=11) rfl ?_;go_simp
 refine Eo (by kernel_rfl) ?_ _;go_wp2_with fail
 go_ret
 exact⟨by rw[S8.out];rfl,b2.trans (qSw3w4w5.mono (by omega))⟩
theorem zre {v:Vq} (hf:v.fr=false) (hk:v.kd=1\/v.kd=4\/v.kd=5\/v.kd=6) :
  v.ok=(((v.g1==false && v.l1==[]) && (v.g2==false && v.l2==[])) && (if v.kd==1 then decide (0<=v.i) && decide (v.i<=1)else if v.kd==4 then decide (0<=v.i) && decide (v.i<65536)else decide (-1048576<=v.i) && decide (v.i<=1048576))):=by
 unfold Vq.ok;rw[hf]
 have hx:(v.kd==1\/v.kd==4\/v.kd==5\/v.kd==6):=by simpa using hk
 simp only[Bool.false_eq_true,if_false,if_pos hx]
 congr 1
 have e1:(v.l1.length==0)=(v.l1==[]):=by cases v.l1<;>rfl
 have e2:(v.l2.length==0)=(v.l2==[]):=by cases v.l2<;>rfl
 rw[e1,e2];cases v.g1<;>cases v.g2<;>cases (v.l1==[])<;>cases (v.l2==[])<;>rfl
theorem zcn {v:Vq} (hf:v.fr=false) (hk:¬ (v.kd=1\/v.kd=4\/v.kd=5\/v.kd=6)):v.ok=false:=by
 unfold Vq.ok;rw[hf]
 have hx:¬ (v.kd==1\/v.kd==4\/v.kd==5\/v.kd==6):=by simpa using hk
 simp only[Bool.false_eq_true,if_false,if_neg hx]
theorem xQ (K:Nat) (v:Vq) (x:Vv) (w:World) (h:VlX K w v x) (hK:K<=w.heap.size) (ho:v.good=true):Calls Tryz.prog 26 #[x.agg] w fun e w'=>e=.returned (.bool v.ok)/\Below w.heap.size w w':=by
 obtain⟨kd,f1,s1,f2,s2,i⟩:=x;obtain⟨hk,Ge,Cw,hi,h1,h2⟩:=h;simp only at hk hi h1 h2 Ge Cw;obtain⟨W1,Ah⟩:=Ae (w.alloc (.cells #[.int .u8 kd,.bool f1,s1,.bool f2,s2,.int .i64 i] 41))
 have b1:Below w.heap.size w W1:=by rw[<- Ah];exact Af _ _
 have q1:Blk W1 w.heap.size #[.int .u8 kd,.bool f1,s1,.bool f2,s2,.int .i64 i] 41:=by rw[<- Ah];exact Blk.new w _ _
 have sz1:W1.heap.size=w.heap.size+1:=by rw[<- Ah];simp
 obtain⟨B,hB⟩:=Ae w.heap.size;have HB:=Aa hB;have HW:=Aa Ah;rw[hB]at hK b1 q1 sz1 ⊢;obtain⟨ua,uc,rfl,_⟩:=h1.form;obtain⟨va,vc,rfl,_⟩:=h2.form;clear hB Ah;obtain⟨c0,c1,c2,c3,c4,c5⟩:=q1.six
 cases hf:v.fr with
 | true =>
  have Br:kd=2\/kd=3:=by rw[hk];unfold Vq.fr at hf;simpa using hf
  have hc:=qor B f1 f2 _ _ v.l1 v.l2 W1 (h1.below b1 hK hK) (h2.below b1 hK hK) (by omega)
  have Ay:v.ok=(i==0 && frOk f1 v.l1 f2 v.l2):=by unfold Vq.ok;rw[hf,if_pos rfl,hi,Ge,Cw]
  obtain⟨fr,Id⟩:∃ b,frOk f1 v.l1 f2 v.l2=b:=⟨_,rfl⟩;rw[Id]at hc Ay;obtain⟨r,hr⟩:=Ae v.ok;rw[hr]at Ay ⊢;have HR:=Aa Ay;obtain⟨n1,Es⟩:∃ n,v.l1.length=n:=⟨_,rfl⟩;obtain⟨n2,Dp⟩:∃ n,v.l2.length=n:=⟨_,rfl⟩;simp only[Es,Dp]at c2 c4 hc HW q1;simp only[Es,Dp];clear hf hk hi ho Ay h1 h2 Ge Cw hr Id Es Dp
  by_cases Jo:i=0
  ·subst Jo
   rcases Br with rfl | rfl
   all_goals
    go_enter Tryz.func26,Tryz.ntmps26
    go_upto_region 1 with fail
    simp only[HB.out];rw[HW.out];go_wp2_with fail
    refine hc.mono ?_;rintro e w2 ⟨rfl,Ai⟩;go_wp2_with fail
    go_ret
    exact⟨by rw[HR.out];rfl,b1.trans (Ai.mono (by omega))⟩
  ·have ze1:(i==0)=false:=by simpa using Jo
   have Kr:Hid (r=false):=Aa (by rw[HR.out,ze1];rfl);clear Jo
   rcases Br with rfl | rfl
   all_goals
    go_enter Tryz.func26,Tryz.ntmps26
    go_upto_region 1 with fail
    simp only[HB.out];rw[HW.out];go_wp2_with fail
    go_ret
    exact⟨by rw[Kr.out];rfl,b1⟩
 | false =>
  have Vw:(kd==2)=false/\(kd==3)=false:=by unfold Vq.fr at hf;rw[hk];simpa using hf
  by_cases Br:v.kd=1\/v.kd=4\/v.kd=5\/v.kd=6
  ·have Ay:=zre hf Br
   have hz:=fun W=>(Lm.nil 0 W).below (Below.refl 0 W) (Ab _) (Nat.zero_le B)
   have hc:=qt4 B f1 f2 false false _ _ _ _ _ _ _ _ W1 (h1.below b1 hK hK) (h2.below b1 hK hK) (hz W1) (hz W1) (by omega);rw[<- Ge,<- Cw,<- hk,<- hi]at Ay;rw[<- hk]at Br;obtain⟨r,hr⟩:=Ae v.ok;obtain⟨fz,fX⟩:=Ae (((f1==false && v.l1==[]) && (f2==false && v.l2==[])));rw[hr,fX]at Ay;rw[hr];rw[fX]at hc;have HR:=Aa Ay;obtain⟨n1,Es⟩:∃ n,v.l1.length=n:=⟨_,rfl⟩;obtain⟨n2,Dp⟩:∃ n,v.l2.length=n:=⟨_,rfl⟩;simp only[Es,Dp]at c2 c4 hc HW q1;simp only[Es,Dp];clear Ay hf hk hi ho Ge Cw hr fX h1 h2 hz Es Dp;obtain⟨Jk,Iy⟩:=Vw
   have fin:∀ (e:Ending) (w2:World),(e=.returned (.bool fz)/\Below W1.heap.size W1 w2)->e=.returned (.bool fz)/\w2.cell? ⟨B,5,none⟩=some (.int .i64 i)/\Below B w w2:=fun e w2 ⟨h3,h4⟩=>⟨h3,(q1.below h4 q1.lt).six.2.2.2.2.2,b1.trans (h4.mono (by omega))⟩
   rcases Br with rfl | rfl | rfl | rfl
   ·go_enter Tryz.func26,Tryz.ntmps26
    go_upto_region 1 with fail
    simp only[HB.out];rw[HW.out];go_wp2_with fail
    refine hc.mono ?_;intro e w2 h3
    obtain⟨rfl,d5,b2⟩:=fin e w2 h3
    cases fz with
    | false =>
     go_wp2_with fail
     go_ret
     exact⟨by rw[HR.out];simp,b2⟩
    | true =>
     go_wp2_with fail
     all_goals go_ret
     all_goals
      refine⟨?_,b2⟩;rw[HR.out];simp
      try omega
   ·go_enter Tryz.func26,Tryz.ntmps26
    go_upto_region 1 with fail
    simp only[HB.out];rw[HW.out];go_wp2_with fail
    refine hc.mono ?_;intro e w2 h3
    obtain⟨rfl,d5,b2⟩:=fin e w2 h3
    cases fz with
    | false =>
     go_wp2_with fail
     go_ret
     exact⟨by rw[HR.out];simp,b2⟩
    | true =>
     go_wp2_with fail
     all_goals go_ret
     all_goals
      refine⟨?_,b2⟩;rw[HR.out];simp
      try omega
   ·go_enter Tryz.func26,Tryz.ntmps26
    go_upto_region 1 with fail
    simp only[HB.out];rw[HW.out];go_wp2_with fail
    refine hc.mono ?_;intro e w2 h3
    obtain⟨rfl,d5,b2⟩:=fin e w2 h3
    cases fz with
    | false =>
     go_wp2_with fail
     go_ret
     exact⟨by rw[HR.out];simp,b2⟩
    | true =>
     go_wp2_with fail
     all_goals go_ret
     all_goals
      refine⟨?_,b2⟩;rw[HR.out];simp
      try omega
   ·go_enter Tryz.func26,Tryz.ntmps26
    go_upto_region 1 with fail
    simp only[HB.out];rw[HW.out];go_wp2_with fail
    refine hc.mono ?_;intro e w2 h3
    obtain⟨rfl,d5,b2⟩:=fin e w2 h3
    cases fz with
    | false =>
     go_wp2_with fail
     go_ret
     exact⟨by rw[HR.out];simp,b2⟩
    | true =>
     go_wp2_with fail
     all_goals go_ret
     all_goals
      refine⟨?_,b2⟩;rw[HR.out];simp
      try omega
  ·have Ay:=zcn hf Br
   rw[Ay];rw[<- hk]at Br
   have Sg:(kd==1)=false:=by simp;omega
   have qrx:(kd==4)=false:=by simp;omega
   have Rt:(kd==5)=false:=by simp;omega
   have zxr:(kd==6)=false:=by simp;omega
   obtain⟨Jk,Iy⟩:=Vw;clear Ay hf hk hi ho Ge Cw h1 h2 Br;go_enter Tryz.func26,Tryz.ntmps26
   go_upto_region 1 with fail
   simp only[HB.out];rw[HW.out];go_wp2_with fail
   go_ret
   exact⟨rfl,b1⟩
theorem zv8 (K:Nat) (v v':Vq) (x y:Vv) (w:World) (h:VlX K w v x) (h':VlX K w v' y) (hK:K<=w.heap.size):Calls Tryz.prog 92 #[x.agg,y.agg] w fun e w'=>e=.returned (.bool (v==v'))/\Below w.heap.size w w':=by
 obtain⟨kd,f1,s1,f2,s2,i⟩:=x;obtain⟨kd',f1',s1',f2',s2',i'⟩:=y;obtain⟨hk,Ge,Cw,hi,h1,h2⟩:=h;obtain⟨Ji,bB,bJ,Fj,Ve,Qo⟩:=h';simp only at hk hi h1 h2 Ji Fj Ve Qo Ge Cw bB bJ;have b1:Below w.heap.size w ((w.alloc (.cells #[.int .u8 kd,.bool f1,s1,.bool f2,s2,.int .i64 i] 41)).alloc (.cells #[.int .u8 kd',.bool f1',s1',.bool f2',s2',.int .i64 i'] 41)):=(Af _ _).alloc (by simp) _;have hc:=qt4 w.heap.size f1 f2 f1' f2' _ _ _ _ v.l1 v.l2 v'.l1 v'.l2 _ (h1.below b1 hK hK) (h2.below b1 hK hK) (Ve.below b1 hK hK) (Qo.below b1 hK hK) (by simp;omega);obtain⟨r,hr⟩:=Ae ((v==v'));obtain⟨f,hf⟩:=Ae (((f1==f1' && v.l1==v'.l1) && (f2==f2' && v.l2==v'.l2)))
 have HR:Hid (r=((kd==kd') && (i==i') && f)):=Aa (by
  rw[<- hr,<- hf,hk,Ji,hi,Fj,Ge,bB,Cw,bJ];cases v;cases v'
  rw[Bool.eq_iff_iff];simp only[beq_iff_eq,Vq.mk.injEq,Bool.and_eq_true];constructor
  ·rintro⟨a,b,c,d,e,f⟩;exact⟨⟨a,f⟩,⟨b,c⟩,d,e⟩
  ·rintro⟨⟨a,f⟩,⟨b,c⟩,d,e⟩;exact⟨a,b,c,d,e,f⟩)
 rw[hf]at hc;rw[hr];obtain⟨ua,uc,rfl,_⟩:=h1.form;obtain⟨va,vc,rfl,_⟩:=h2.form;obtain⟨xa,xc,rfl,_⟩:=Ve.form;obtain⟨ya,yc,rfl,_⟩:=Qo.form;clear hr hf hk Ji hi Fj Ge Cw bB bJ h1 h2 Ve Qo
 by_cases e1:kd=kd'
 ·subst e1
  by_cases e2:i=i'
  ·subst e2
   have E:=Aa (HR.out.trans (show((kd==kd) && (i==i) && f)=f by simp));go_enter Tryz.func92,Tryz.ntmps92
   go_wp2_with fail
   refine hc.mono ?_;rintro e w2 ⟨rfl,Ai⟩;go_wp2_with fail
   go_ret
   exact⟨by rw[E.out];rfl,b1.trans (Ai.mono (by simp;omega))⟩
  ·have E:=Aa (HR.out.trans (show((kd==kd) && (i==i') && f)=false by simp[e2]))
   have hx:(i==i')=false:=by simp[e2]
   go_enter Tryz.func92,Tryz.ntmps92
   go_wp2_with fail
   go_ret
   exact⟨by rw[E.out];rfl,b1⟩
 ·have E:=Aa (HR.out.trans (show((kd==kd') && (i==i') && f)=false by simp[e1]))
  have hx:(kd==kd')=false:=by simp[e1]
  go_enter Tryz.func92,Tryz.ntmps92
  go_wp2_with fail
  go_ret
  exact⟨by rw[E.out];rfl,b1⟩
theorem zsm {v v':Vq} (hf:v.fr=true) (A4:v'.fr=true):Te v v'=Lz (sgz v.g1 (As v.l1)*(As v'.l2:Nat)) (sgz v'.g1 (As v'.l1)*(As v.l2:Nat)):=by
 unfold Te Vq.top Vq.bot sgz;rw[hf,A4];simp
theorem qaw {v:Vq} (hf:v.fr=true) (ho:v.ok=true):frOk v.g1 v.l1 v.g2 v.l2=true/\(v.kd=2\/v.kd=3):=by
 have hk:v.kd=2\/v.kd=3:=by unfold Vq.fr at hf;simpa using hf
 unfold Vq.ok at ho;rw[hf,if_pos rfl]at ho;simp only[Bool.and_eq_true]at ho;exact⟨ho.2,hk⟩
theorem zh5 {v v':Vq} (hf:v.fr=false) (A4:v'.fr=false):Te v v'=Lz v.i v'.i:=by
 unfold Te Vq.top Vq.bot;rw[hf,A4];simp
theorem qgi (K:Nat) (v v':Vq) (x y:Vv) (w:World) (h:VlX K w v x) (h':VlX K w v' y) (hK:K<=w.heap.size) (ho:v.good=true) (G6:v'.good=true) (Ay:v.ok=true) (qma:v'.ok=true) (Kd:v.kd=v'.kd) :
  Calls Tryz.prog 45 #[x.agg,y.agg] w fun e w'=>e=.returned (.int .i64 (Te v v'))/\Below w.heap.size w w':=by
 obtain⟨kd,f1,s1,f2,s2,i⟩:=x;obtain⟨kd',f1',s1',f2',s2',i'⟩:=y;obtain⟨hk,Ge,Cw,hi,h1,h2⟩:=h;obtain⟨Ji,bB,bJ,Fj,Ve,Qo⟩:=h';simp only at hk hi h1 h2 Ji Fj Ve Qo Ge Cw bB bJ;have b1:Below w.heap.size w ((w.alloc (.cells #[.int .u8 kd,.bool f1,s1,.bool f2,s2,.int .i64 i] 41)).alloc (.cells #[.int .u8 kd',.bool f1',s1',.bool f2',s2',.int .i64 i'] 41)):=(Af _ _).alloc (by simp) _
 cases hf:v.fr with
 | true =>
  have A4:v'.fr=true:=by unfold Vq.fr at hf ⊢;rw[<- Kd];exact hf
  obtain⟨Id,jT⟩:=qaw hf Ay;obtain⟨qmu,zwb⟩:=qaw A4 qma;obtain⟨z1,qv1⟩:=h1.qv h2 Id;obtain⟨z2,qv2⟩:=Ve.qv Qo qmu;have hc:=zq0 w.heap.size _ _ _ _ _ _ _ _ _ _ _ (qv1.below b1 hK hK) (qv2.below b1 hK hK) (by simp;omega);have Kb:=zsm hf A4;rw[<- Kb]at hc;obtain⟨r,hr⟩:=Ae (Te v v');rw[hr]at hc ⊢
  have Br:kd=2\/kd=3:=by rw[hk];exact jT
  rw[<- Ge,<- bB]at hc
  have Nb:f2=false:=by rw[Cw,z1]
  have zkk:f2'=false:=by rw[bJ,z2]
  subst Nb zkk;obtain⟨ua,uc,rfl,_⟩:=h1.form;obtain⟨va,vc,rfl,_⟩:=h2.form;obtain⟨xa,xc,rfl,_⟩:=Ve.form;obtain⟨ya,yc,rfl,_⟩:=Qo.form;clear Kb hr z1 z2 qv1 qv2 hf A4 hk Ji hi Fj Kd jT zwb Id qmu ho G6 Ay qma h1 h2 Ve Qo Ge Cw bB bJ
  rcases Br with rfl | rfl
  all_goals
   go_enter Tryz.func45,Tryz.ntmps45
   go_wp2_with fail
   refine hc.mono ?_;rintro e w2 ⟨rfl,Ai⟩;go_wp2_with fail
   go_ret
   exact⟨rfl,b1.trans (Ai.mono (by simp;omega))⟩
 | false =>
  have A4:v'.fr=false:=by unfold Vq.fr at hf ⊢;rw[<- Kd];exact hf
  have Kb:Te v v'=Lz i i':=by rw[zh5 hf A4,hi,Fj]
  rw[Kb]
  have Jk:(kd==2)=false/\(kd==3)=false:=by unfold Vq.fr at hf;rw[hk];simpa using hf
  obtain⟨Jk,Iy⟩:=Jk;obtain⟨ua,uc,rfl,_⟩:=h1.form;obtain⟨va,vc,rfl,_⟩:=h2.form;obtain⟨xa,xc,rfl,_⟩:=Ve.form;obtain⟨ya,yc,rfl,_⟩:=Qo.form;clear Kb hf A4 hk Ji hi Fj Kd ho G6 Ay qma h1 h2 Ve Qo Ge Cw bB bJ;obtain⟨r,hr⟩:=Ae (Lz i i');have HR:=Aa hr;rw[hr];clear hr;go_enter Tryz.func45,Tryz.ntmps45
  go_wp2_with fail
  all_goals go_ret
  all_goals
   refine⟨?_,b1⟩
   first
    | (rw[show r = -1 from by rw[<- HR.out];unfold Lz;rw[if_pos (by omega)]];rfl)
    | (rw[show r=1 from by rw[<- HR.out];unfold Lz;rw[if_neg (by omega),if_pos (by omega)]];rfl)
    | (rw[show r=0 from by rw[<- HR.out];unfold Lz;rw[if_neg (by omega),if_neg (by omega)]];rfl)
end Go.Proofs.YtlldjmagbjjeoaaGreatDoor
