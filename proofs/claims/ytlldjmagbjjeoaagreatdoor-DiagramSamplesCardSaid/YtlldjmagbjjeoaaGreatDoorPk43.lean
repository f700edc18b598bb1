/- Contracts and plain laws, several texts in one (NZ4, NLimb). No conditions beyond those stated. -/
import Derived.Test.YtlldjmagbjjeoaaGreatDoorPk22
set_option maxRecDepth 100000
set_option maxHeartbeats 40000000
namespace Go.Proofs.YtlldjmagbjjeoaaGreatDoor
open Go.RowKit
set_option linter.unusedVariables false
def Ho (y:Int) (d:Nat):Int:=y/(Nat.gcd y.natAbs d:Nat)
def Ic (y:Int) (d:Nat):Nat:=d/Nat.gcd y.natAbs d
theorem tT (y:Int) (d:Nat):y=Ho y d*(Nat.gcd y.natAbs d:Nat):=(Int.ediv_mul_cancel (Int.ofNat_dvd_left.2 (Nat.gcd_dvd_left _ _))).symm
theorem qbw (y:Int) (d:Nat):d=Ic y d*Nat.gcd y.natAbs d:=(Nat.div_mul_cancel (Nat.gcd_dvd_right _ _)).symm
theorem qky (y:Int) {d:Nat} (hd:0<d):0<Nat.gcd y.natAbs d:=Nat.gcd_pos_of_pos_right _ hd
theorem pP (y:Int) {d:Nat} (hd:0<d):0<Ic y d:=Nat.div_pos (Nat.le_of_dvd hd (Nat.gcd_dvd_right _ _)) (qky y hd)
theorem nL (y:Int) (d:Nat):Ic y d<=d:=Nat.div_le_self _ _
theorem qsj (y:Int) {d:Nat} (hd:0<d):(Ho y d).natAbs=y.natAbs/Nat.gcd y.natAbs d:=by
 have h:=congrArg Int.natAbs (tT y d);rw[Int.natAbs_mul,Int.natAbs_natCast]at h;exact(Nat.div_eq_of_eq_mul_left (qky y hd) h).symm
theorem lS (y:Int) {d:Nat} (hd:0<d):(Ho y d).natAbs<=y.natAbs:=by rw[qsj y hd];exact Nat.div_le_self _ _
theorem yI (y:Int) {d:Nat} (hd:0<d):Nat.gcd (Ho y d).natAbs (Ic y d)=1:=by
 rw[qsj y hd];exact Nat.gcd_div_gcd_div_gcd_of_pos_right hd
theorem qo9 (y:Int) (d:Nat):Ho y d*d=y*Ic y d:=by
 have h1:=tT y d
 have h2:(d:Int)=(Ic y d:Int)*(Nat.gcd y.natAbs d:Nat):=by
  have := congrArg (fun n:Nat=>(n:Int)) (qbw y d)
  simpa using this
 obtain⟨G,hG⟩:∃ G:Int,((Nat.gcd y.natAbs d:Nat):Int)=G:=⟨_,rfl⟩;rw[hG]at h1 h2;obtain⟨P,hP⟩:=Ae (Ho y d);obtain⟨Q,hQ⟩:∃ Q:Int,(Ic y d:Int)=Q:=⟨_,rfl⟩;rw[hP]at h1 ⊢;rw[hQ]at h2 ⊢;rw[h2,h1,Int.mul_assoc,Int.mul_comm Q G]
def QxN (L K:Nat) (w:World) (x:Value) (p:Int) (q:Nat):Prop:=∃ g u v,x=Fg g u false v/\Qv K w g u v p q/\Bj L u/\Bj L v
theorem ze3 (K:Nat) (g h:Bool) (u v:Value) (p q:Int) (w:World) (hu:Zn K w g u p) (hv:Zn K w h v q):Calls Tryz.prog 110 #[Fg g u h v] w fun e w'=>e=.returned (.bool (p==0))/\Below w.heap.size w w':=by
 obtain⟨ua,um,uc,rfl,_,_,hm,_⟩:=hu.ln.form;obtain⟨va,vm,vc,rfl⟩:=hv.form
 have h1:((um:Int)==0)=(p==0):=by rw[Bool.eq_iff_iff];simp;omega
 obtain⟨r,hr⟩:=Ae ((p==0));rw[hr]at h1 ⊢;clear hu hv hr hm;go_enter Tryz.func110,Tryz.ntmps110
 go_wp2_with fail
 go_ret
 exact⟨rfl,(Below.refl _ w).alloc (Ab _) _⟩
theorem zal (K:Nat) (g:Bool) (u v:Value) (p q:Int) (w:World) (hu:Zn K w g u p) (hv:Zn K w false v q) (hp:p.natAbs<LB 256) (hq:q.natAbs<LB 256) :
  Calls Tryz.prog 108 #[Fg g u false v] w fun e w'=>e=.returned (.tuple #[Fg g u false v,.int .i64 0])/\Below w.heap.size w w':=by
 obtain⟨ua,um,uc,rfl,_,_,_,Fs⟩:=hu.ln.form;obtain⟨va,vm,vc,rfl,_,_,_,Oz⟩:=hv.ln.form;have h1:um<=256:=(Fs 256).2 hp;have h2:vm<=256:=(Oz 256).2 hq;obtain⟨W1,Ah⟩:=Ae ((w.alloc (.cells #[.bool g,.slice ua um uc,.bool false,.slice va vm vc] 138)).alloc (.cells #[.bool false,.slice none 0 0,.bool false,.slice none 0 0] 39))
 have b1:Below w.heap.size w W1:=by rw[<- Ah];exact(Af _ _).alloc (by simp) _
 have q0:Blk W1 w.heap.size #[.bool g,.slice ua um uc,.bool false,.slice va vm vc] 138:=by rw[<- Ah];exact(Blk.new w _ _).alloc _
 have q1:Blk W1 (w.heap.size+1) #[.bool false,.slice none 0 0,.bool false,.slice none 0 0] 39:=by
  rw[<- Ah];have := Blk.new (w.alloc (.cells #[.bool g,.slice ua um uc,.bool false,.slice va vm vc] 138)) #[.bool false,.slice none 0 0,.bool false,.slice none 0 0] 39;rwa[World.size_alloc]at this
 have s1:W1.heap.size=w.heap.size+2:=by rw[<- Ah];simp
 have HW:=Aa Ah;obtain⟨B,hB⟩:=Ae w.heap.size;have HB:=Aa hB;rw[hB]at b1 q0 q1 s1 ⊢;have hl:=zbx g false um vm uc vc ua va W1;rw[show(decide (256<um) || decide (256<vm))=false by simp;omega]at hl;clear hB Ah hu hv hp hq Fs Oz h1 h2;obtain⟨d0,d1,d2,d3⟩:=q0.four;go_enter Tryz.func108,Tryz.ntmps108
 go_upto_region 1 with fail
 simp only[HB.out];rw[HW.out];go_wp2_with fail
 refine hl.mono ?_;rintro e w2 ⟨rfl,Ai⟩;have q0:=q0.below Ai q0.lt;have q1:=q1.below Ai q1.lt;clear hl d0 d1 d2 d3;obtain⟨d0,d1,d2,d3⟩:=q0.four;obtain⟨d4,d5,d6,d7⟩:=q1.four;have f4:=q1.free 0;have f5:=q1.free 1;have f6:=q1.free 2;have f7:=q1.free 3;go_wp2_with fail
 have x2:=(((q1.set (i:=0) (.bool g)).set (i:=1) (.slice ua um uc)).set (i:=2) (.bool false)).set (i:=3) (.slice va vm vc);obtain⟨e0,e1,e2,e3⟩:=x2.four;refine bodyPost_ret (v:=.tuple #[Fg g (.slice ua um uc) false (.slice va vm vc),.int .i64 0]) (by simp[results,Tryz.results108,go_sem,e0,e1,e2,e3]) rfl ?_;exact⟨rfl,((((b1.trans (Ai.mono (by omega))).setCell (p:=⟨B+1,0,none⟩) (by simp) _).setCell (p:=⟨B+1,1,none⟩) (by simp) _).setCell (p:=⟨B+1,2,none⟩) (by simp) _).setCell (p:=⟨B+1,3,none⟩) (by simp) _⟩
theorem qyx (K:Nat) (g h:Bool) (u v x y:Value) (m p:Int) (n q:Nat) (w:World) (h1:Qv K w g u v m n) (h2:Qv K w h x y p q) (Bp:m.natAbs<LB 100) (C7:n<LB 100) (Ak:p.natAbs<LB 100) (Al:q<LB 100) (hK:K<=w.heap.size) :
  Calls Tryz.prog 84 #[Fg g u false v,Fg h x false y] w fun e w'=>∃ x,e=.returned (.tuple #[x,.int .i64 0])/\QxN w.heap.size w'.heap.size w' x (Ho (m*q+p*n) (n*q)) (Ic (m*q+p*n) (n*q))/\Below w.heap.size w w':=by
 obtain⟨ua,um,uc,rfl⟩:=h1.n.form;obtain⟨va,vm,vc,rfl⟩:=h1.d.form;obtain⟨xa,xm,xc,rfl,_,_,Ng,_⟩:=h2.n.ln.form;obtain⟨ya,ym,yc,rfl⟩:=h2.d.form;obtain⟨W1,Ah⟩:=Ae ((((w.alloc (.cells #[.bool g,.slice ua um uc,.bool false,.slice va vm vc] 39)).alloc (.cells #[.bool h,.slice xa xm xc,.bool false,.slice ya ym yc] 39)).alloc (.cells #[.bool false,.slice none 0 0,.bool false,.slice none 0 0] 39)).alloc (.cells #[.bool g,.slice ua um uc,.bool false,.slice va vm vc,.bool h,.slice xa xm xc,.bool false,.slice ya ym yc] 39));obtain⟨b1,q0,q1,q2,q3,s1⟩:=eG w _ _ _ _ _ _ _ _ Ah;have HW:=Aa Ah;obtain⟨B,hB⟩:=Ae w.heap.size;have HB:=Aa hB;rw[hB]at hK b1 q0 q1 q2 q3 s1 ⊢;have Na:=qg9 B (B+3) g h _ _ _ _ m p n q W1 (h1.below b1 hK hK) (h2.below b1 hK hK) (by omega) q3;have Mv:=Aa Na;have H1:=Aa h1;have H2:=Aa h2;clear hB Ah Na h1 h2;go_enter Tryz.func84,Tryz.ntmps84
 go_wp2_with fail
 simp only[HB.out,Nat.add_assoc,Nat.reduceAdd];rw[HW.out];refine Mv.out.mono ?_;rintro e w2 ⟨rfl,Ai⟩;have b2:Below B w w2:=b1.trans (Ai.mono (by omega));have Az:=Ai.size;have q0:=q0.below Ai q0.lt;have q1:=q1.below Ai q1.lt;have q2:=q2.below Ai q2.lt;have Mb:Hid (Qv w2.heap.size w2 g (.slice ua um uc) (.slice va vm vc) m n):=Aa (H1.out.below b2 hK (by omega));have Lq:Hid (Qv w2.heap.size w2 h (.slice xa xm xc) (.slice ya ym yc) p q):=Aa (H2.out.below b2 hK (by omega));clear Mv q3 H1 H2;have Nm:0<n*q:=Nat.mul_pos Mb.out.q0 Lq.out.q0;have aA:=Aa Nm;have Uq:Hid (((n:Int)*q).natAbs=n*q):=Aa (by rw[Int.natAbs_mul,Int.natAbs_natCast,Int.natAbs_natCast])
 have qfv:Hid (((n:Int)*q)=((Ic (m*q+p*n) (n*q):Nat):Int)*((Nat.gcd (m*q+p*n).natAbs (n*q):Nat):Int)):=Aa (by
  have := congrArg (fun k:Nat=>(k:Int)) (qbw (m*q+p*n) (n*q))
  have h2:((n:Int)*q)=((n*q:Nat):Int):=by rw[Int.natCast_mul]
  rw[h2];rw[<- Int.natCast_mul]
  exact this)
 have oM:((n:Int)*q)=((n*q:Nat):Int):=by rw[Int.natCast_mul]
 have pA:Hid (0<((n:Int)*q)):=Aa (by rw[oM];omega);have dN:(m*q+p*n).natAbs<LB 201:=Nat.lt_of_le_of_lt (Int.natAbs_add_le _ _) (by rw[Int.natAbs_mul,Int.natAbs_mul,Int.natAbs_natCast,Int.natAbs_natCast];exact sG (a:=200) (Ts Bp Al) (Ts Ak C7));have Mt:Hid ((m*q+p*n).natAbs<LB 1000):=Aa (Bl dN (by decide));have eI:n*q<LB 201:=Bl (Ts C7 Al) (by decide);have qdf:Hid (((n:Int)*q).natAbs<LB 1000):=Aa (by rw[Uq.out];exact Bl eI (by decide));have Ja:Hid ((Ho (m*q+p*n) (n*q)).natAbs<LB 256):=Aa (Bl (Nat.lt_of_le_of_lt (lS _ Nm) dN) (by decide));have Lg:Hid ((((Ic (m*q+p*n) (n*q):Nat):Int)).natAbs<LB 256):=Aa (by rw[Int.natAbs_natCast];exact Bl (Nat.lt_of_le_of_lt (nL _ _) eI) (by decide));clear Bp C7 Ak Al Nm dN eI oM
 go_upto_region 3 with fail
 refine Fz (fun W'=>Below w2.heap.size w2 W') [20,21] (by kernel_rfl) ?_;have qS:(fun W'=>Below w2.heap.size w2 W') w2.drew:=Er (Below.refl _ _);refine Aw (i:=0) (v:=.pointer (some ⟨B,0,none⟩)) (some 12) rfl rfl qS ?_;refine Dx (i:=1) (v:=.agg #[.bool g,.slice ua um uc]) (some 13) rfl rfl (.inl ⟨by kernel_rfl,fun W' hS=>by have d0:=(q0.below hS q0.lt).at (i:=0) rfl;have d1:=(q0.below hS q0.lt).at (i:=1) rfl;go_simp⟩) qS ?_;refine Aw (i:=2) (v:=.pointer (some ⟨B+1,2,none⟩)) (some 14) rfl rfl qS ?_;refine Dx (i:=3) (v:=.agg #[.bool false,.slice ya ym yc]) (some 15) rfl rfl (.inl ⟨by kernel_rfl,fun W' hS=>by have d0:=(q1.below hS q1.lt).at (i:=2) rfl;have d1:=(q1.below hS q1.lt).at (i:=3) rfl;go_simp⟩) qS ?_;refine Aw (i:=5) (v:=.pointer (some ⟨B+1,0,none⟩)) (some 17) rfl rfl qS ?_;refine Dx (i:=6) (v:=.agg #[.bool h,.slice xa xm xc]) (some 18) rfl rfl (.inl ⟨by kernel_rfl,fun W' hS=>by have d0:=(q1.below hS q1.lt).at (i:=0) rfl;have d1:=(q1.below hS q1.lt).at (i:=1) rfl;go_simp⟩) qS ?_;refine Aw (i:=7) (v:=.pointer (some ⟨B,2,none⟩)) (some 19) rfl rfl qS ?_;refine Dx (i:=8) (v:=.agg #[.bool false,.slice va vm vc]) (some 20) rfl rfl (.inl ⟨by kernel_rfl,fun W' hS=>by have d0:=(q0.below hS q0.lt).at (i:=2) rfl;have d1:=(q0.below hS q0.lt).at (i:=3) rfl;go_simp⟩) qS ?_;refine Aw (i:=11) (v:=.pointer (some ⟨B,2,none⟩)) (some 23) rfl rfl qS ?_;refine Dx (i:=12) (v:=.agg #[.bool false,.slice va vm vc]) (some 24) rfl rfl (.inl ⟨by kernel_rfl,fun W' hS=>by have d0:=(q0.below hS q0.lt).at (i:=2) rfl;have d1:=(q0.below hS q0.lt).at (i:=3) rfl;go_simp⟩) qS ?_;refine Aw (i:=13) (v:=.pointer (some ⟨B+1,2,none⟩)) (some 25) rfl rfl qS ?_;refine Dx (i:=14) (v:=.agg #[.bool false,.slice ya ym yc]) (some 26) rfl rfl (.inl ⟨by kernel_rfl,fun W' hS=>by have d0:=(q1.below hS q1.lt).at (i:=2) rfl;have d1:=(q1.below hS q1.lt).at (i:=3) rfl;go_simp⟩) qS ?_;refine Ap (i:=4) rfl ?_;go_simp
 refine(eC w2.heap.size _ _ _ _ _ _ _ (Mb.out.n.below qS (Ab _) (Ab _)) (Lq.out.d.below qS (Ab _) (Ab _)) (Bl Mb.out.pl (by decide)) (Bl Lq.out.ql (by decide)) qS.size).mono ?_;rintro e w3 ⟨x3,rfl,Tk,Ak⟩;obtain⟨g3,p3,rfl,Ga,Zc⟩:=Tk;obtain⟨a3,m3,c3,rfl⟩:=Ga.form;have qSw3:Below w2.heap.size w2 w3:=qS.trans (Ak.mono qS.size);go_simp
 refine Ap (i:=9) rfl ?_;go_simp
 refine(eC w2.heap.size _ _ _ _ _ _ _ (Lq.out.n.below qSw3 (Ab _) (Ab _)) (Mb.out.d.below qSw3 (Ab _) (Ab _)) (Bl Lq.out.pl (by decide)) (Bl Mb.out.ql (by decide)) qSw3.size).mono ?_;rintro e w4 ⟨x4,rfl,qia,Al⟩;obtain⟨g4,p4,rfl,Mm,gH⟩:=qia;obtain⟨a4,m4,c4,rfl⟩:=Mm.form;have qSw3w4:Below w2.heap.size w2 w4:=qSw3.trans (Al.mono qSw3.size);go_simp
 refine Ap (i:=10) rfl ?_;go_simp
 refine(zk5 w4.heap.size _ _ _ _ _ _ _ (Ga.below Al (Ab _) Al.size) Mm (by rw[Int.natAbs_mul];exact Bl (Ts Mb.out.pl Lq.out.ql) (by decide)) (by rw[Int.natAbs_mul];exact Bl (Ts Lq.out.pl Mb.out.ql) (by decide)) (Ab _)).mono ?_;rintro e w5 ⟨x5,rfl,zga,Aq⟩;obtain⟨g5,p5,rfl,Xj,zig⟩:=zga;obtain⟨a5,m5,c5,rfl⟩:=Xj.form;have qSw3w4w5:Below w2.heap.size w2 w5:=qSw3w4.trans (Aq.mono qSw3w4.size);go_simp
 refine Ap (i:=15) rfl ?_;go_simp
 refine(eC w2.heap.size _ _ _ _ _ _ _ (Mb.out.d.below qSw3w4w5 (Ab _) (Ab _)) (Lq.out.d.below qSw3w4w5 (Ab _) (Ab _)) (Bl Mb.out.ql (by decide)) (Bl Lq.out.ql (by decide)) qSw3w4w5.size).mono ?_;rintro e w6 ⟨x6,rfl,Wt,Bk⟩;obtain⟨g6,p6,rfl,Jr,uZ⟩:=Wt;obtain⟨a6,m6,c6,rfl⟩:=Jr.form;obtain rfl:=Jr.pos (by have := pA.out;omega);have qSw3w4w5w6:Below w2.heap.size w2 w6:=qSw3w4w5.trans (Bk.mono qSw3w4w5.size);go_simp
 refine Ap (i:=16) rfl ?_;go_simp
 have Hv:=qv0 w6.heap.size _ _ _ (m*q+p*n) ((n:Int)*q) (Ho (m*q+p*n) (n*q)) (Ic (m*q+p*n) (n*q)) w6 (Xj.below Bk (Ab _) Bk.size) Jr pA.out (by rw[Uq.out];exact tT _ _) (by rw[Uq.out];exact qfv.out) Mt.out qdf.out (Ab _);refine Hv.mono ?_;rintro e w7 ⟨x7,rfl,Zy,Ct⟩;obtain⟨g7,r7,t7,rfl,dK,gX,Es,Dp⟩:=Zy;obtain⟨ra,rm,rc,rfl⟩:=dK.form;obtain⟨ta,tm,tc,rfl⟩:=gX.form;have qSw3w4w5w6w7:Below w2.heap.size w2 w7:=qSw3w4w5w6.trans (Ct.mono qSw3w4w5w6.size);go_simp
 refine Ap (i:=17) rfl ?_;go_simp
 refine(zal w7.heap.size g7 _ _ _ _ _ dK gX Ja.out Lg.out).mono ?_;rintro e w8 ⟨rfl,Ey⟩;have qSw3w4w5w6w7w8:Below w2.heap.size w2 w8:=qSw3w4w5w6w7.trans (Ey.mono qSw3w4w5w6w7.size);go_simp
 refine Aw (i:=18) (v:=.agg #[.bool g7,.slice ra rm rc,.bool false,.slice ta tm tc]) (some 30) rfl rfl qSw3w4w5w6w7w8 ?_;refine Aw (i:=19) (v:=.int .i64 0) (some 31) rfl rfl qSw3w4w5w6w7w8 ?_;have q2s:=q2.below qSw3w4w5w6w7w8 q2.lt;obtain⟨e0,e1,e2,e3⟩:=q2s.four;have f0:=q2s.free 0;have f1:=q2s.free 1;have f2:=q2s.free 2;have f3:=q2s.free 3;refine Ap (i:=20) rfl ?_;go_simp
 refine Ap (i:=21) rfl ?_;go_simp
 refine Eo (by kernel_rfl) ?_ _;go_wp2_with fail
 have q3s:=(((q2s.set (i:=0) (.bool g7)).set (i:=1) (.slice ra rm rc)).set (i:=2) (.bool false)).set (i:=3) (.slice ta tm tc);clear e0 e1 e2 e3;obtain⟨e0,e1,e2,e3⟩:=q3s.four;refine bodyPost_ret (v:=.tuple #[Fg g7 (.slice ra rm rc) false (.slice ta tm tc),.int .i64 0]) (by simp[results,Tryz.results84,go_sem,e0,e1,e2,e3]) rfl ?_
 have Ns:B+2<w6.heap.size:=by have := qSw3w4w5w6.size;omega
 have qks:=dK.below Ey (Ab _) Ey.size;have qhb:=gX.below Ey (Ab _) Ey.size;have oW:=(((qks.set (r:=B+2) (i:=0) (x:=.bool g7) Es Ns).set (r:=B+2) (i:=1) (x:=.slice ra rm rc) Es Ns).set (r:=B+2) (i:=2) (x:=.bool false) Es Ns).set (r:=B+2) (i:=3) (x:=.slice ta tm tc) Es Ns;have uX:=(((qhb.set (r:=B+2) (i:=0) (x:=.bool g7) Dp Ns).set (r:=B+2) (i:=1) (x:=.slice ra rm rc) Dp Ns).set (r:=B+2) (i:=2) (x:=.bool false) Dp Ns).set (r:=B+2) (i:=3) (x:=.slice ta tm tc) Dp Ns;have b8:Below B w w8:=b2.trans (qSw3w4w5w6w7w8.mono (by omega))
 have Po:∀ K',w8.heap.size<=K'->Qv K' _ g7 (.slice ra rm rc) (.slice ta tm tc) _ _:=fun K' Qa=>⟨oW.below (Below.refl w8.heap.size _) (Ab _) Qa,uX.below (Below.refl w8.heap.size _) (Ab _) Qa,pP _ aA.out,yI _ aA.out,Ja.out,by have := Lg.out;rwa[Int.natAbs_natCast]at this⟩
 exact⟨_,rfl,⟨_,_,_,rfl,Po _ (by simp[World.setCell]),Es.mono (by omega),Dp.mono (by omega)⟩,(((b8.setCell (p:=⟨B+2,0,none⟩) (by simp) _).setCell (p:=⟨B+2,1,none⟩) (by simp) _).setCell (p:=⟨B+2,2,none⟩) (by simp) _).setCell (p:=⟨B+2,3,none⟩) (by simp) _⟩
theorem zp1 (K:Nat) (g h:Bool) (u v x y:Value) (m p:Int) (n q:Nat) (w:World) (h1:Qv K w g u v m n) (h2:Qv K w h x y p q) (aT:0<p) (Bp:m.natAbs<LB 100) (C7:n<LB 100) (Ak:p.natAbs<LB 100) (Al:q<LB 100) (hK:K<=w.heap.size) :
  Calls Tryz.prog 86 #[Fg g u false v,Fg h x false y] w fun e w'=>∃ x,e=.returned (.tuple #[x,.int .i64 0])/\QxN w.heap.size w'.heap.size w' x (Ho (m*q) (n*p.natAbs)) (Ic (m*q) (n*p.natAbs))/\Below w.heap.size w w':=by
 obtain⟨ua,um,uc,rfl⟩:=h1.n.form;obtain⟨va,vm,vc,rfl⟩:=h1.d.form;obtain⟨xa,xm,xc,rfl,_,_,Ng,_⟩:=h2.n.ln.form;obtain⟨ya,ym,yc,rfl⟩:=h2.d.form;obtain⟨W1,Ah⟩:=Ae ((((w.alloc (.cells #[.bool g,.slice ua um uc,.bool false,.slice va vm vc] 39)).alloc (.cells #[.bool h,.slice xa xm xc,.bool false,.slice ya ym yc] 39)).alloc (.cells #[.bool false,.slice none 0 0,.bool false,.slice none 0 0] 39)).alloc (.cells #[.bool g,.slice ua um uc,.bool false,.slice va vm vc,.bool h,.slice xa xm xc,.bool false,.slice ya ym yc] 39));obtain⟨b1,q0,q1,q2,q3,s1⟩:=eG w _ _ _ _ _ _ _ _ Ah;have HW:=Aa Ah;obtain⟨B,hB⟩:=Ae w.heap.size;have HB:=Aa hB;rw[hB]at hK b1 q0 q1 q2 q3 s1 ⊢;have Na:=qg9 B (B+3) g h _ _ _ _ m p n q W1 (h1.below b1 hK hK) (h2.below b1 hK hK) (by omega) q3;have Mv:=Aa Na;have H1:=Aa h1;have H2:=Aa h2;clear hB Ah Na h1 h2;go_enter Tryz.func86,Tryz.ntmps86
 go_wp2_with fail
 simp only[HB.out,Nat.add_assoc,Nat.reduceAdd];rw[HW.out];refine Mv.out.mono ?_;rintro e w2 ⟨rfl,Ai⟩;have b2:Below B w w2:=b1.trans (Ai.mono (by omega));have Az:=Ai.size;have q0:=q0.below Ai q0.lt;have q1:=q1.below Ai q1.lt;have q2:=q2.below Ai q2.lt;have Mb:Hid (Qv w2.heap.size w2 g (.slice ua um uc) (.slice va vm vc) m n):=Aa (H1.out.below b2 hK (by omega));have Lq:Hid (Qv w2.heap.size w2 h (.slice xa xm xc) (.slice ya ym yc) p q):=Aa (H2.out.below b2 hK (by omega));clear Mv q3 H1 H2;have Nm:0<n*p.natAbs:=Nat.mul_pos Mb.out.q0 (by omega);have aA:=Aa Nm;have Uq:Hid (((n:Int)*p).natAbs=n*p.natAbs):=Aa (by rw[Int.natAbs_mul,Int.natAbs_natCast])
 have qfv:Hid (((n:Int)*p)=((Ic (m*q) (n*p.natAbs):Nat):Int)*((Nat.gcd (m*q).natAbs (n*p.natAbs):Nat):Int)):=Aa (by
  have := congrArg (fun k:Nat=>(k:Int)) (qbw (m*q) (n*p.natAbs))
  have h2:((n:Int)*p)=((n*p.natAbs:Nat):Int):=by rw[Int.natCast_mul];congr 1;omega
  rw[h2];rw[<- Int.natCast_mul]
  exact this)
 have oM:((n:Int)*p)=((n*p.natAbs:Nat):Int):=by rw[Int.natCast_mul];congr 1;omega
 have pA:Hid (0<((n:Int)*p)):=Aa (by rw[oM];omega)
 have dN:(m*q).natAbs<LB 201:=by rw[Int.natAbs_mul,Int.natAbs_natCast];exact Bl (Ts Bp Al) (by decide)
 have Mt:Hid ((m*q).natAbs<LB 1000):=Aa (Bl dN (by decide));have eI:n*p.natAbs<LB 201:=Bl (Ts C7 Ak) (by decide);have qdf:Hid (((n:Int)*p).natAbs<LB 1000):=Aa (by rw[Uq.out];exact Bl eI (by decide));have Ja:Hid ((Ho (m*q) (n*p.natAbs)).natAbs<LB 256):=Aa (Bl (Nat.lt_of_le_of_lt (lS _ Nm) dN) (by decide));have Lg:Hid ((((Ic (m*q) (n*p.natAbs):Nat):Int)).natAbs<LB 256):=Aa (by rw[Int.natAbs_natCast];exact Bl (Nat.lt_of_le_of_lt (nL _ _) eI) (by decide))
 have qol:(p==0)=false:=by simp;omega
 have Cz:=ze3 w2.heap.size h false _ _ p q w2 Lq.out.n Lq.out.d;rw[qol]at Cz;have qaj:=Aa Cz;obtain⟨d0,d1,d2,d3⟩:=q1.four;clear Bp C7 Ak Al Nm dN eI oM Cz qol aT Ng;go_wp2_with fail
 refine qaj.out.mono ?_;rintro e wz ⟨rfl,dS⟩;have b2z:Below B w wz:=b2.trans (dS.mono (by omega));have Dn:=dS.size;have qn2:Hid (Qv wz.heap.size wz g (.slice ua um uc) (.slice va vm vc) m n):=Aa (Mb.out.below dS (Ab _) Dn);have zah:Hid (Qv wz.heap.size wz h (.slice xa xm xc) (.slice ya ym yc) p q):=Aa (Lq.out.below dS (Ab _) Dn);have q0z:=q0.below dS q0.lt;have q1z:=q1.below dS q1.lt;have q2z:=q2.below dS q2.lt;clear d0 d1 d2 d3 qaj Mb Lq q0 q1 q2 b2 Ai;obtain⟨w2',rfl⟩:∃ w2':World,w2'=wz:=⟨_,rfl⟩;have Mb:=qn2;have Lq:=zah;have q0:=q0z;have q1:=q1z;have q2:=q2z;have b2:=b2z;clear qn2 zah q0z q1z q2z b2z
 go_upto_region 5 with fail
 refine Fz (fun W'=>Below w2'.heap.size w2' W') [14,15] (by kernel_rfl) ?_;have qS:(fun W'=>Below w2'.heap.size w2' W') w2'.drew:=Er (Below.refl _ _);refine Aw (i:=0) (v:=.pointer (some ⟨B,0,none⟩)) (some 16) rfl rfl qS ?_;refine Dx (i:=1) (v:=.agg #[.bool g,.slice ua um uc]) (some 17) rfl rfl (.inl ⟨by kernel_rfl,fun W' hS=>by have d0:=(q0.below hS q0.lt).at (i:=0) rfl;have d1:=(q0.below hS q0.lt).at (i:=1) rfl;go_simp⟩) qS ?_;refine Aw (i:=2) (v:=.pointer (some ⟨B+1,2,none⟩)) (some 18) rfl rfl qS ?_;refine Dx (i:=3) (v:=.agg #[.bool false,.slice ya ym yc]) (some 19) rfl rfl (.inl ⟨by kernel_rfl,fun W' hS=>by have d0:=(q1.below hS q1.lt).at (i:=2) rfl;have d1:=(q1.below hS q1.lt).at (i:=3) rfl;go_simp⟩) qS ?_;refine Aw (i:=5) (v:=.pointer (some ⟨B,2,none⟩)) (some 21) rfl rfl qS ?_;refine Dx (i:=6) (v:=.agg #[.bool false,.slice va vm vc]) (some 22) rfl rfl (.inl ⟨by kernel_rfl,fun W' hS=>by have d0:=(q0.below hS q0.lt).at (i:=2) rfl;have d1:=(q0.below hS q0.lt).at (i:=3) rfl;go_simp⟩) qS ?_;refine Aw (i:=7) (v:=.pointer (some ⟨B+1,0,none⟩)) (some 23) rfl rfl qS ?_;refine Dx (i:=8) (v:=.agg #[.bool h,.slice xa xm xc]) (some 24) rfl rfl (.inl ⟨by kernel_rfl,fun W' hS=>by have d0:=(q1.below hS q1.lt).at (i:=0) rfl;have d1:=(q1.below hS q1.lt).at (i:=1) rfl;go_simp⟩) qS ?_;refine Ap (i:=4) rfl ?_;go_simp
 refine(eC w2'.heap.size _ _ _ _ _ _ _ (Mb.out.n.below qS (Ab _) (Ab _)) (Lq.out.d.below qS (Ab _) (Ab _)) (Bl Mb.out.pl (by decide)) (Bl Lq.out.ql (by decide)) qS.size).mono ?_;rintro e w3 ⟨x3,rfl,Tk,Ak⟩;obtain⟨g3,p3,rfl,Ga,Zc⟩:=Tk;obtain⟨a3,m3,c3,rfl⟩:=Ga.form;have qSw3:Below w2'.heap.size w2' w3:=qS.trans (Ak.mono qS.size);go_simp
 refine Ap (i:=9) rfl ?_;go_simp
 refine(eC w2'.heap.size _ _ _ _ _ _ _ (Mb.out.d.below qSw3 (Ab _) (Ab _)) (Lq.out.n.below qSw3 (Ab _) (Ab _)) (Bl Mb.out.ql (by decide)) (Bl Lq.out.pl (by decide)) qSw3.size).mono ?_;rintro e w6 ⟨x6,rfl,Wt,Bk⟩;obtain⟨g6,p6,rfl,Jr,uZ⟩:=Wt;obtain⟨a6,m6,c6,rfl⟩:=Jr.form;obtain rfl:=Jr.pos (by have := pA.out;omega);have qSw3w6:Below w2'.heap.size w2' w6:=qSw3.trans (Bk.mono qSw3.size);go_simp
 refine Ap (i:=10) rfl ?_;go_simp
 have Hv:=qv0 w6.heap.size _ _ _ (m*q) ((n:Int)*p) (Ho (m*q) (n*p.natAbs)) (Ic (m*q) (n*p.natAbs)) w6 (Ga.below Bk (Ab _) Bk.size) Jr pA.out (by rw[Uq.out];exact tT _ _) (by rw[Uq.out];exact qfv.out) Mt.out qdf.out (Ab _);refine Hv.mono ?_;rintro e w7 ⟨x7,rfl,Zy,Ct⟩;obtain⟨g7,r7,t7,rfl,dK,gX,Es,Dp⟩:=Zy;obtain⟨ra,rm,rc,rfl⟩:=dK.form;obtain⟨ta,tm,tc,rfl⟩:=gX.form;have qSw3w6w7:Below w2'.heap.size w2' w7:=qSw3w6.trans (Ct.mono qSw3w6.size);go_simp
 refine Ap (i:=11) rfl ?_;go_simp
 refine(zal w7.heap.size g7 _ _ _ _ _ dK gX Ja.out Lg.out).mono ?_;rintro e w8 ⟨rfl,Ey⟩;have qSw3w6w7w8:Below w2'.heap.size w2' w8:=qSw3w6w7.trans (Ey.mono qSw3w6w7.size);go_simp
 refine Aw (i:=12) (v:=.agg #[.bool g7,.slice ra rm rc,.bool false,.slice ta tm tc]) (some 28) rfl rfl qSw3w6w7w8 ?_;refine Aw (i:=13) (v:=.int .i64 0) (some 29) rfl rfl qSw3w6w7w8 ?_;have q2s:=q2.below qSw3w6w7w8 q2.lt;obtain⟨e0,e1,e2,e3⟩:=q2s.four;have f0:=q2s.free 0;have f1:=q2s.free 1;have f2:=q2s.free 2;have f3:=q2s.free 3;refine Ap (i:=14) rfl ?_;go_simp
 refine Ap (i:=15) rfl ?_;go_simp
 refine Eo (by kernel_rfl) ?_ _;go_wp2_with fail
 have q3s:=(((q2s.set (i:=0) (.bool g7)).set (i:=1) (.slice ra rm rc)).set (i:=2) (.bool false)).set (i:=3) (.slice ta tm tc);clear e0 e1 e2 e3;obtain⟨e0,e1,e2,e3⟩:=q3s.four;refine bodyPost_ret (v:=.tuple #[Fg g7 (.slice ra rm rc) false (.slice ta tm tc),.int .i64 0]) (by simp[results,Tryz.results86,go_sem,e0,e1,e2,e3]) rfl ?_
 have Ns:B+2<w6.heap.size:=by have := qSw3w6.size;omega
 have qks:=dK.below Ey (Ab _) Ey.size;have qhb:=gX.below Ey (Ab _) Ey.size;have oW:=(((qks.set (r:=B+2) (i:=0) (x:=.bool g7) Es Ns).set (r:=B+2) (i:=1) (x:=.slice ra rm rc) Es Ns).set (r:=B+2) (i:=2) (x:=.bool false) Es Ns).set (r:=B+2) (i:=3) (x:=.slice ta tm tc) Es Ns;have uX:=(((qhb.set (r:=B+2) (i:=0) (x:=.bool g7) Dp Ns).set (r:=B+2) (i:=1) (x:=.slice ra rm rc) Dp Ns).set (r:=B+2) (i:=2) (x:=.bool false) Dp Ns).set (r:=B+2) (i:=3) (x:=.slice ta tm tc) Dp Ns;have b8:Below B w w8:=b2.trans (qSw3w6w7w8.mono (by omega))
 have Po:∀ K',w8.heap.size<=K'->Qv K' _ g7 (.slice ra rm rc) (.slice ta tm tc) _ _:=fun K' Qa=>⟨oW.below (Below.refl w8.heap.size _) (Ab _) Qa,uX.below (Below.refl w8.heap.size _) (Ab _) Qa,pP _ aA.out,yI _ aA.out,Ja.out,by have := Lg.out;rwa[Int.natAbs_natCast]at this⟩
 exact⟨_,rfl,⟨_,_,_,rfl,Po _ (by simp[World.setCell]),Es.mono (by omega),Dp.mono (by omega)⟩,(((b8.setCell (p:=⟨B+2,0,none⟩) (by simp) _).setCell (p:=⟨B+2,1,none⟩) (by simp) _).setCell (p:=⟨B+2,2,none⟩) (by simp) _).setCell (p:=⟨B+2,3,none⟩) (by simp) _⟩
theorem qhu (K:Nat) (v:Value) (l:List Nat) (w:World) (h:Lm K w v l) (hK:K<=w.heap.size) (hl:l.length<=2^40) :
  Calls Tryz.prog 83 #[v] w fun e w'=>∃ v',e=.returned v'/\Lm w'.heap.size w' v' l/\Bj w.heap.size v'/\Below w.heap.size w w':=by
 have hq:=zbl;have hd:=h.2;obtain⟨i0,hi,Cz,Gb,Ft⟩:=info_parts Tryz.infoU16;obtain⟨a,cap,rfl,hn,hm,hz,hc⟩:=h.1
 cases a with
 | none =>
  have h0:l=[]:=by
   cases l with
   | nil=>rfl
   | cons d r=>obtain⟨b',o',h,_⟩:=hc 0 (by simp);cases h
  subst h0;obtain rfl:=hz rfl;go_enter Tryz.func83,Tryz.ntmps83
  go_wp2_with fail
  go_ret
  exact⟨_,rfl,Lm.nil _ _,Bj.nil _ _ _,Below.refl _ _⟩
 | some ad =>
  go_enter Tryz.func83,Tryz.ntmps83
  go_wp2_with (at_builtin;refine wpList_append_own _ rfl _ _ 35 rfl w.heap.size 132 i0 (.int .u16 0) 1 2 Tryz.underlying35 hi Cz Gb Ft rfl (by decide) _ _ _ rfl (World.ownsRow_made w #[] 0 (Ab _) (Nat.zero_le _) rfl) ad l.length cap (l.map D16) rfl (by simp) ?qc2 (qmm l) ?qc4 ?qc5 ?qc6 ?_)
  case qc2 =>
   intro j u hj
   have qd4:j<l.length:=(List.getElem?_eq_some_iff.1 hj).1;obtain⟨b,o,he,Cj,Gw⟩:=hc j qd4;simp only[Option.some.injEq]at he;subst he;have h0:=Gw 0 (by omega);rw[hj]at h0;rw[cY];refine(Below.cell ((Below.refl w.heap.size w).alloc (Ab _) _) (p:=⟨b,o+j,none⟩) (by simp;omega)).trans ?_
   simpa using h0
  case qc4=>simp[maxLen];omega
  case qc5=>omega
  intro v' w1 Av qjq zl0
  have Bp:Below w.heap.size w w1:=((Below.refl _ w).alloc (Ab _) (.cells #[] 132)).grown qjq (by simp) (by intro k hk;simp[Value.ownBlock]at hk;omega);go_wp2_with fail
  go_ret
  have fL:w1.ownsRow w.heap.size 132 1 v' l.length (l.map D16):=by simpa using Av
  exact⟨v',rfl,(qm4 fL hd (F:=fun b=>b<w1.heap.size) fun b hb=>cU fL hb).get fun b hb=>hb,(fun b o m c e=>(Or fL (r:=b) (by rw[e];rfl)).1),Bp⟩
theorem qxm (w:World) :
  Calls Tryz.prog 109 #[.int .i64 (1)] w fun e w'=>∃ x,e=.returned x/\ZxN w.heap.size w'.heap.size w' x (1)/\Below w.heap.size w w':=by
 obtain⟨W1,Ah⟩:∃ W,(w.alloc (.cells #[.bool false,.slice none 0 0] 37)).alloc (.cells #[.int .u16 1,.int .u16 0,.int .u16 0,.int .u16 0] 167)=W:=⟨_,rfl⟩
 have b1:Below w.heap.size w W1:=by rw[<- Ah];exact(Af _ _).alloc (by simp) _
 have q1:Blk W1 w.heap.size #[.bool false,.slice none 0 0] 37:=by rw[<- Ah];exact(Blk.new w _ _).alloc _
 have q2:Blk W1 (w.heap.size+1) #[.int .u16 1,.int .u16 0,.int .u16 0,.int .u16 0] 167:=by
  rw[<- Ah];have := Blk.new (w.alloc (.cells #[.bool false,.slice none 0 0] 37)) #[.int .u16 1,.int .u16 0,.int .u16 0,.int .u16 0] 167;rwa[World.size_alloc]at this
 have s1:W1.heap.size=w.heap.size+2:=by rw[<- Ah];simp
 have hc:=qhu _ _ [1] _ (Blk.limbs1 (n:=1) q2 (by decide)) (Ab _) (by simp);have HC:=Aa hc;have HW:=Aa Ah;clear Ah hc q2;go_enter Tryz.func109,Tryz.ntmps109
 go_wp2_with fail
 refine wp_loop_rounds 5 ?_;rw[rounds_succ];go_wp2_with fail
 rw[rounds_succ];go_wp2_with fail
 rw[rounds_succ];go_wp2_with fail
 rw[rounds_succ];go_wp2_with fail
 rw[rounds_succ];go_wp2_with fail
 rw[HW.out];refine HC.out.mono ?_;rintro e w2 ⟨v',rfl,hl,hn,Ai⟩;obtain⟨a,c,rfl,_⟩:=hl.form;have hz:Zn w2.heap.size w2 false (.slice a 1 c) (1):=⟨⟨[1],hl,.inr (by decide),rfl⟩,rfl⟩;have HZ:=Aa hz;have Az:=Ai.size;have q2:=q1.below Ai (by omega);obtain⟨d0,d1⟩:=q2.two;have f0:=q2.free 0;have f1:=q2.free 1;clear hl hz HC;go_wp2_with fail
 have q3:=(q2.set (i:=0) (.bool false)).set (i:=1) (.slice a 1 c);obtain⟨e0,e1⟩:=q3.two;refine bodyPost_ret (v:=.agg #[.bool false,.slice a 1 c]) (by simp[results,Tryz.results109,go_sem,e0,e1]) rfl ?_;have Ft:=HZ.out.set2 (r:=w.heap.size) (x:=.bool false) (y:=.slice a 1 c) hn (by omega);exact⟨_,rfl,.mk (Ft.below (Below.refl w2.heap.size _) (Ab _) (by simp[World.setCell])) (hn.mono (by omega)),tQ (b1.trans (Ai.mono (by omega))) (Ab _) _ _⟩
theorem zs6 (w:World) :
  Calls Tryz.prog 109 #[.int .i64 (2)] w fun e w'=>∃ x,e=.returned x/\ZxN w.heap.size w'.heap.size w' x (2)/\Below w.heap.size w w':=by
 obtain⟨W1,Ah⟩:∃ W,(w.alloc (.cells #[.bool false,.slice none 0 0] 37)).alloc (.cells #[.int .u16 2,.int .u16 0,.int .u16 0,.int .u16 0] 167)=W:=⟨_,rfl⟩
 have b1:Below w.heap.size w W1:=by rw[<- Ah];exact(Af _ _).alloc (by simp) _
 have q1:Blk W1 w.heap.size #[.bool false,.slice none 0 0] 37:=by rw[<- Ah];exact(Blk.new w _ _).alloc _
 have q2:Blk W1 (w.heap.size+1) #[.int .u16 2,.int .u16 0,.int .u16 0,.int .u16 0] 167:=by
  rw[<- Ah];have := Blk.new (w.alloc (.cells #[.bool false,.slice none 0 0] 37)) #[.int .u16 2,.int .u16 0,.int .u16 0,.int .u16 0] 167;rwa[World.size_alloc]at this
 have s1:W1.heap.size=w.heap.size+2:=by rw[<- Ah];simp
 have hc:=qhu _ _ [2] _ (Blk.limbs1 (n:=2) q2 (by decide)) (Ab _) (by simp);have HC:=Aa hc;have HW:=Aa Ah;clear Ah hc q2;go_enter Tryz.func109,Tryz.ntmps109
 go_wp2_with fail
 refine wp_loop_rounds 5 ?_;rw[rounds_succ];go_wp2_with fail
 rw[rounds_succ];go_wp2_with fail
 rw[rounds_succ];go_wp2_with fail
 rw[rounds_succ];go_wp2_with fail
 rw[rounds_succ];go_wp2_with fail
 rw[HW.out];refine HC.out.mono ?_;rintro e w2 ⟨v',rfl,hl,hn,Ai⟩;obtain⟨a,c,rfl,_⟩:=hl.form;have hz:Zn w2.heap.size w2 false (.slice a 1 c) (2):=⟨⟨[2],hl,.inr (by decide),rfl⟩,rfl⟩;have HZ:=Aa hz;have Az:=Ai.size;have q2:=q1.below Ai (by omega);obtain⟨d0,d1⟩:=q2.two;have f0:=q2.free 0;have f1:=q2.free 1;clear hl hz HC;go_wp2_with fail
 have q3:=(q2.set (i:=0) (.bool false)).set (i:=1) (.slice a 1 c);obtain⟨e0,e1⟩:=q3.two;refine bodyPost_ret (v:=.agg #[.bool false,.slice a 1 c]) (by simp[results,Tryz.results109,go_sem,e0,e1]) rfl ?_;have Ft:=HZ.out.set2 (r:=w.heap.size) (x:=.bool false) (y:=.slice a 1 c) hn (by omega);exact⟨_,rfl,.mk (Ft.below (Below.refl w2.heap.size _) (Ab _) (by simp[World.setCell])) (hn.mono (by omega)),tQ (b1.trans (Ai.mono (by omega))) (Ab _) _ _⟩
theorem zdv (w:World) :
  Calls Tryz.prog 109 #[.int .i64 (-1)] w fun e w'=>∃ x,e=.returned x/\ZxN w.heap.size w'.heap.size w' x (-1)/\Below w.heap.size w w':=by
 obtain⟨W1,Ah⟩:∃ W,(w.alloc (.cells #[.bool false,.slice none 0 0] 37)).alloc (.cells #[.int .u16 1,.int .u16 0,.int .u16 0,.int .u16 0] 167)=W:=⟨_,rfl⟩
 have b1:Below w.heap.size w W1:=by rw[<- Ah];exact(Af _ _).alloc (by simp) _
 have q1:Blk W1 w.heap.size #[.bool false,.slice none 0 0] 37:=by rw[<- Ah];exact(Blk.new w _ _).alloc _
 have q2:Blk W1 (w.heap.size+1) #[.int .u16 1,.int .u16 0,.int .u16 0,.int .u16 0] 167:=by
  rw[<- Ah];have := Blk.new (w.alloc (.cells #[.bool false,.slice none 0 0] 37)) #[.int .u16 1,.int .u16 0,.int .u16 0,.int .u16 0] 167;rwa[World.size_alloc]at this
 have s1:W1.heap.size=w.heap.size+2:=by rw[<- Ah];simp
 have hc:=qhu _ _ [1] _ (Blk.limbs1 (n:=1) q2 (by decide)) (Ab _) (by simp);have HC:=Aa hc;have HW:=Aa Ah;clear Ah hc q2
 have Yi:IntKind.u64.wrap (-IntKind.u64.wrap (-1))=1:=by decide
 go_enter Tryz.func109,Tryz.ntmps109
 go_wp2_with fail
 refine wp_loop_rounds 5 ?_;rw[rounds_succ];go_wp2_with fail
 rw[rounds_succ];go_wp2_with fail
 rw[rounds_succ];go_wp2_with fail
 rw[rounds_succ];go_wp2_with fail
 rw[rounds_succ];go_wp2_with fail
 rw[HW.out];refine HC.out.mono ?_;rintro e w2 ⟨v',rfl,hl,hn,Ai⟩;obtain⟨a,c,rfl,_⟩:=hl.form;have hz:Zn w2.heap.size w2 true (.slice a 1 c) (-1):=⟨⟨[1],hl,.inr (by decide),rfl⟩,rfl⟩;have HZ:=Aa hz;have Az:=Ai.size;have q2:=q1.below Ai (by omega);obtain⟨d0,d1⟩:=q2.two;have f0:=q2.free 0;have f1:=q2.free 1;clear hl hz HC;go_wp2_with fail
 have q3:=(q2.set (i:=0) (.bool true)).set (i:=1) (.slice a 1 c);obtain⟨e0,e1⟩:=q3.two;refine bodyPost_ret (v:=.agg #[.bool true,.slice a 1 c]) (by simp[results,Tryz.results109,go_sem,e0,e1]) rfl ?_;have Ft:=HZ.out.set2 (r:=w.heap.size) (x:=.bool true) (y:=.slice a 1 c) hn (by omega);exact⟨_,rfl,.mk (Ft.below (Below.refl w2.heap.size _) (Ab _) (by simp[World.setCell])) (hn.mono (by omega)),tQ (b1.trans (Ai.mono (by omega))) (Ab _) _ _⟩
theorem qrc (n:Int) (w:World) (hc:∀ W,Calls Tryz.prog 109 #[.int .i64 n] W fun e w'=>∃ x,e=.returned x/\ZxN W.heap.size w'.heap.size w' x n/\Below W.heap.size W w') (hn:n.natAbs<LB 256) :
  Calls Tryz.prog 85 #[.int .i64 n] w fun e w'=>∃ x,e=.returned x/\QxN w.heap.size w'.heap.size w' x n 1/\Below w.heap.size w w':=by
 obtain⟨W1,Ah⟩:=Ae (w.alloc (.cells #[.bool false,.slice none 0 0,.bool false,.slice none 0 0] 39))
 have b1:Below w.heap.size w W1:=by rw[<- Ah];exact Af _ _
 have q1:Blk W1 w.heap.size #[.bool false,.slice none 0 0,.bool false,.slice none 0 0] 39:=by rw[<- Ah];exact Blk.new w _ _
 have s1:W1.heap.size=w.heap.size+1:=by rw[<- Ah];simp
 obtain⟨B,hB⟩:=Ae w.heap.size;have HB:=Aa hB;have HW:=Aa Ah;have HC:=Aa hc;have Gh:=Aa qxm;have HN:=Aa hn;rw[hB]at b1 q1 s1 ⊢;clear hB Ah hn hc;go_enter Tryz.func85,Tryz.ntmps85
 go_wp2_with fail
 simp only[HB.out];rw[HW.out];refine(HC.out W1).mono ?_;rintro e w2 ⟨x,rfl,hx,Ai⟩;obtain⟨g,u,rfl,hu,dE⟩:=hx;obtain⟨a,m,c,rfl⟩:=hu.form;have HU:=Aa hu;have Az:=Ai.size;have q2:=q1.below Ai (by omega);have dU:=Gh.out w2;have O6:=Aa dU;clear HC Gh dU hu;go_wp2_with fail
 refine O6.out.mono ?_;rintro e w3 ⟨x,rfl,hx,Ak⟩;obtain⟨g3,u3,rfl,fU,vC⟩:=hx;obtain rfl:=fU.pos (by decide);obtain⟨a3,m3,c3,rfl⟩:=fU.form;have lJ:=Aa (HU.out.below Ak (Ab _) Ak.size);have Rd:=Aa fU;have Ep:=Ak.size;have q3:=q2.below Ak (by omega);obtain⟨d0,d1,d2,d3⟩:=q3.four;have f0:=q3.free 0;have f1:=q3.free 1;have f2:=q3.free 2;have f3:=q3.free 3;clear O6 fU HU;go_wp2_with fail
 have q4:=(((q3.set (i:=0) (.bool g)).set (i:=1) (.slice a m c)).set (i:=2) (.bool false)).set (i:=3) (.slice a3 m3 c3);obtain⟨e0,e1,e2,e3⟩:=q4.four;refine bodyPost_ret (v:=Fg g (.slice a m c) false (.slice a3 m3 c3)) (by simp[results,Tryz.results85,go_sem,e0,e1,e2,e3]) rfl ?_;have oW:=(((lJ.out.set (r:=B) (i:=0) (x:=.bool g) dE (by omega)).set (r:=B) (i:=1) (x:=.slice a m c) dE (by omega)).set (r:=B) (i:=2) (x:=.bool false) dE (by omega)).set (r:=B) (i:=3) (x:=.slice a3 m3 c3) dE (by omega);have uX:=(((Rd.out.set (r:=B) (i:=0) (x:=.bool g) vC (by omega)).set (r:=B) (i:=1) (x:=.slice a m c) vC (by omega)).set (r:=B) (i:=2) (x:=.bool false) vC (by omega)).set (r:=B) (i:=3) (x:=.slice a3 m3 c3) vC (by omega);have b8:Below B w w3:=(b1.trans (Ai.mono (by omega))).trans (Ak.mono (by omega))
 have Po:∀ K',w3.heap.size<=K'->Qv K' _ g (.slice a m c) (.slice a3 m3 c3) n 1:=fun K' Qa=>⟨oW.below (Below.refl w3.heap.size _) (Ab _) Qa,uX.below (Below.refl w3.heap.size _) (Ab _) Qa,by decide,Nat.gcd_one_right _,HN.out,Bl (show(1:Nat)<LB 1 by decide) (by decide)⟩
 exact⟨_,rfl,⟨_,_,_,rfl,Po _ (by simp[World.setCell]),dE.mono (by omega),vC.mono (by omega)⟩,(((b8.setCell (p:=⟨B,0,none⟩) (by simp) _).setCell (p:=⟨B,1,none⟩) (by simp) _).setCell (p:=⟨B,2,none⟩) (by simp) _).setCell (p:=⟨B,3,none⟩) (by simp) _⟩
def limbs (n:Nat):List Nat:=if h:n=0 then []else n%65536::limbs (n/65536)
termination_by n
decreasing_by exact Nat.div_lt_self (by omega) (by decide)
theorem qfr:limbs 0=[]:=by unfold limbs;rfl
theorem qmc {n:Nat} (h:n≠0):limbs n=n%65536::limbs (n/65536):=by
 rw[limbs];rw[dif_neg h]
theorem Y8 (n:Nat):As (limbs n)=n:=by
 induction n using Nat.strongRecOn with
 | _ n ih =>
  by_cases h:n=0
  ·subst h;rw[qfr];rfl
  ·rw[qmc h,As,ih _ (Nat.div_lt_self (by omega) (by decide))]
   omega
theorem kS (n:Nat):∀ d∈limbs n,d<65536:=by
 induction n using Nat.strongRecOn with
 | _ n ih =>
  intro d hd
  by_cases h:n=0
  ·subst h;rw[qfr]at hd;cases hd
  ·rw[qmc h]at hd
   rcases List.mem_cons.1 hd with rfl | hd
   ·omega
   ·exact ih _ (Nat.div_lt_self (by omega) (by decide)) d hd
theorem qde (n:Nat):Hr (limbs n):=by
 induction n using Nat.strongRecOn with
 | _ n ih =>
  by_cases h:n=0
  ·subst h;exact .inl qfr
  ·right
   rw[qmc h]
   rcases ih _ (Nat.div_lt_self (show 0<n by omega) (show 1<65536 by decide))with h1 | h1
   ·rw[h1]
    have:As (limbs (n/65536))=n/65536:=Y8 _
    rw[h1]at this;simp[As]at this;simp;omega
   ·cases hl:limbs (n/65536)with
    | nil=>rw[hl]at h1;simp at h1
    | cons a r=>rw[hl]at h1;rw[List.getLast?_cons_cons];exact h1
theorem zu6 {l:List Nat} (h1:∀ d∈l,d<65536) (h2:Hr l):l=limbs (As l):=by
 refine zj8 (b:=65536) (by decide) h1 (kS _) h2 (qde _) ?_;rw[<- cN,<- cN,Y8]
theorem Ln.limbs {K n:Nat} {w:World} {v:Value} (h:Ln K w v n):Lm K w v (limbs n):=by
 obtain⟨l,h1,h2,rfl⟩:=h;rw[<- zu6 h1.2 h2];exact h1
theorem rE {n k:Nat}:(limbs n).length<=k ↔ n<LB k:=by
 have := Zw (k:=k) (kS n) (qde n);rwa[Y8]at this
theorem qqj {n:Nat} {g:Bool} (h:n<LB 1024) (hg:n=0->g=false):wOk 1024 g (limbs n)=true :=
 qcl (qde n) (rE.2 h) (fun e=>hg (by
  have := Y8 n;rw[List.eq_nil_of_length_eq_zero e]at this
  exact this.symm))
def Td (kd:Int) (p:Int) (q:Nat):Vq:=⟨kd,decide (p<0),limbs p.natAbs,false,limbs q,0⟩
theorem zpf (p:Int):sgz (decide (p<0)) p.natAbs=p:=by unfold sgz;by_cases h:p<0<;>simp[h]<;>omega
theorem qo1 {kd:Int} (hk:kd=2\/kd=3) (p:Int) (q:Nat):(Td kd p q).top=p/\(Td kd p q).bot=q:=by
 have hf:(Td kd p q).fr=true:=by unfold Vq.fr Td;rcases hk with rfl | rfl<;>rfl
 constructor
 ·unfold Vq.top;rw[hf,if_pos rfl]
  show(if decide (p<0)=true then -((As (Proofs.YtlldjmagbjjeoaaGreatDoor.limbs p.natAbs):Nat):Int)else(As (Proofs.YtlldjmagbjjeoaaGreatDoor.limbs p.natAbs):Nat))=p
  rw[Y8];exact zpf p
 ·unfold Vq.bot;rw[hf,if_pos rfl]
  show((As (Proofs.YtlldjmagbjjeoaaGreatDoor.limbs q):Nat):Int)=q
  rw[Y8]
theorem qzt {kd:Int} (hk:kd=2\/kd=3) {p:Int} {q:Nat} (hq:0<q) (hg:Nat.gcd p.natAbs q=1) (hp:p.natAbs<LB 256) (hl:q<LB 256):(Td kd p q).ok=true:=by
 have hf:(Td kd p q).fr=true:=by unfold Vq.fr Td;rcases hk with rfl | rfl<;>rfl
 unfold Vq.ok;rw[hf,if_pos rfl]
 show((0:Int)==0 && frOk (decide (p<0)) (Proofs.YtlldjmagbjjeoaaGreatDoor.limbs p.natAbs) false (Proofs.YtlldjmagbjjeoaaGreatDoor.limbs q))=true
 unfold frOk
 have h0:(Proofs.YtlldjmagbjjeoaaGreatDoor.limbs q).length≠0:=fun e=>by
  have := Y8 q;rw[List.eq_nil_of_length_eq_zero e]at this;simp[As]at this;omega
 rw[qqj (Bl hp (by decide)) (fun e=>by simp;omega),qqj (Bl hl (by decide)) (fun _=>rfl),Y8,Y8,hg];have h1:=(rE (k:=256)).2 hp;have h2:=(rE (k:=256)).2 hl;simp[h1,h2];intro e;exact h0 (by rw[e];rfl)
theorem qvc {kd p:Int} {q:Nat} (hp:p.natAbs<LB 64) (hl:q<LB 64):(Td kd p q).good=true:=by
 unfold Vq.good Td;have h1:=(rE (k:=64)).2 hp;have h2:=(rE (k:=64)).2 hl;simp[h1,h2]
theorem xB {v:Vq} (hk:v.kd=2\/v.kd=3) (ho:v.ok=true) (hg:v.good=true):v.g2=false/\v.i=0/\0<As v.l2/\v.top=sgz v.g1 (As v.l1)/\v.bot=(As v.l2:Nat)/\Nat.gcd v.top.natAbs (As v.l2)=1:=by
 have hf:v.fr=true:=by unfold Vq.fr;rcases hk with h | h<;>rw[h]<;>rfl
 have h1:=(qaw hf ho).1;obtain⟨k1,k2,k3,k4,k5,k6,k7⟩:=qry h1
 have h2:v.i=0:=by
  unfold Vq.ok at ho;rw[hf,if_pos rfl]at ho;simp only[Bool.and_eq_true,beq_iff_eq]at ho;exact ho.1
 have ht:v.top=sgz v.g1 (As v.l1):=by unfold Vq.top sgz;rw[hf,if_pos rfl]
 refine⟨k5,h2,?_,ht,by unfold Vq.bot;rw[hf,if_pos rfl],by rw[ht,Ww];exact k7⟩;have := gS ho;unfold Vq.bot at this;rw[hf,if_pos rfl]at this;omega
end Go.Proofs.YtlldjmagbjjeoaaGreatDoor
