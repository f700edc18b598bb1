/- Contracts and plain laws, several texts in one (DlConds, DlDecS, DlSaS, GSmpE, DTakeP). No conditions beyond those stated. -/
import Derived.Test.YtlldjmagbjjeoaaGreatDoorPk40
import Derived.Test.YtlldjmagbjjeoaaGreatDoorPk44
set_option maxRecDepth 100000
set_option maxHeartbeats 40000000
namespace Go.Proofs.YtlldjmagbjjeoaaGreatDoor
open Go.RowKit
set_option linter.unusedVariables false
theorem zue {fn:Func} {r t s:Tmp} {ty:TypeId} (h:fn.results=#[.tmp r,.cell t ty,.tmp s]) (tmps:Array Value) (w:World) (b:Nat) (cs:Array Value) (d:TypeDesc) (hc:Blk w b cs ty) (ht:tmps.getD t undef=.pointer (some ⟨b,0,none⟩))
  (hu:Tryz.prog.underlying ty=some d) (hd:d.isRow=true) (hi:(Tryz.prog.info? ty).map (fun i=>i.size)=some cs.size):(results fn tmps).run Tryz.prog w=.ok (.tuple #[tmps.getD r undef,.agg cs,tmps.getD s undef]) w:=by
 have hl:=run_loadVar_mid (P:=Tryz.prog) w b 0 ty cs.toList d hc.range hu hd (by rw[hi];simp)
 have Ua:tmps[t]?.getD undef=.pointer (some ⟨b,0,none⟩):=by simpa using ht
 simp[results,h,Ua,asAddr,hl]
theorem zo4 {l:List Sc} (h:LM l) (hf:Uw l):kH l:=fun s hs=>by
 have M7:=oB (sU (h.each s hs) (hf s hs));refine⟨(dD h hf s hs).1,(dD h hf s hs).2,qz2 (h.each s hs) (hf s hs),fun c hc=>?_⟩;unfold Bf at hc
 split at hc
 ·unfold Vl at hc
  have := List.mem_range.1 (List.mem_filter.1 hc).1;unfold Hd at this
  split at this<;>omega
 ·cases hc
theorem zg7 {l:List Sc} (h:LM l) (hf:Uw l):∀ s∈l,s.okB=true:=fun s hs=>sU (h.each s hs) (hf s hs)
def prS (m n:List Nat):List Sc:=(Oc (prM m n)).1
def prT (m n:List Nat):Int × DSt:=tgt (lfS (prS m n) (prM m n)) (pcs (prS m n)) 0 [] DSt.no
theorem qwt {m n:List Nat} (h:gG m n=true):Gd (pcs (prS m n))<=300:=by
 obtain⟨l,hl,Rr,Uo,_⟩:=oK m n;unfold gG at h;unfold prS;rw[hl]at h ⊢
 show Gd (pcs l)<=300
 have := (qq0 (pcs l) 1 (by omega) (fun p hp=>(qfa Rr Uo p hp).2)).1 (of_decide_eq_true h);omega
theorem qpy {m n:List Nat} (h:gG m n=true):DgV (prS m n) (prT m n).2 (prT m n).1:=by
 have hp:=qwt h;obtain⟨l,hl,Rr,Uo,_⟩:=oK m n;unfold prT
 have hs:prS m n=l:=by unfold prS;rw[hl]
 rw[hs]at hp ⊢;exact qls (prM m n) (by have := LM.len Rr;omega) (zg7 Rr Uo) (qfa Rr Uo) (by omega)
theorem ztf (K:Nat) (m:List Nat) (mv:Value) (n:List Nat) (nv:Value) (w:World) (hm:U8s K w mv m) (Ng:∀ y∈m,y<256) (hn:U8s K w nv n) (Lf:∀ y∈n,y<256) (hK:K<=w.heap.size) (Yn:gG m n=true) (In:Pe K w) :
  Calls Tryz.prog 6 #[mv,nv] w fun e w'=>∃ (b:Nat) (X Y:Xv) (y:Dv),e=.returned (.tuple #[.slice (some ⟨b,0,none⟩) 2 2,y.agg,.bool true])/\w.heap.size<=b/\Blk w' b (Cq X Y) 43/\ExG w'.heap.size w' (Ca 6 (m.take 20)).1 X/\ExG w'.heap.size w' (Ca 6 (n.take 20)).1 Y/\DgX w'.heap.size w' y (prS m n) (prT m n).2 (prT m n).1/\Below w.heap.size w w':=by
 have Hk:=qpy Yn;have Ga:=qwt Yn;have Od:Zh ((pcs (prS m n)).map (·.length)) 1<=300:=of_decide_eq_true Yn;obtain⟨ma,mc,rfl,qch,cL⟩:=id (Au.form hm);obtain⟨na,nc,rfl,Ro,Vz⟩:=id (Au.form hn);unfold maxLen at cL Vz;obtain⟨mk,Fs⟩:∃ k,min m.length 20=k:=⟨_,rfl⟩;obtain⟨nk,Oz⟩:∃ k,min n.length 20=k:=⟨_,rfl⟩;have Nw:=hm.take20 mk Fs;have Dp:=hn.take20 nk Oz;obtain⟨ls,Ql,Rr,Uo,_⟩:=oK m n
 have oR:prS m n=ls:=by unfold prS;rw[Ql]
 have U2:∀ a∈prM m n,a.good=true:=fun a ha=>qpd (r9 a ha).1
 have bI:∀ a∈prM m n,a.parts<=2^20:=fun a ha=>by
  simp only[prM,List.mem_cons,List.not_mem_nil,or_false]at ha
  rcases ha with rfl | rfl
  ·have := U0 6 (m.take 20);have := take20 m;omega
  ·have := U0 6 (n.take 20);have := take20 n;omega
 obtain⟨st,Ls⟩:=Ae ((prT m n).2);obtain⟨rt,Gt⟩:=Ae ((prT m n).1);rw[Ls,Gt,oR]at Hk;rw[Ls,Gt,oR];rw[oR]at Ga Od;unfold prT at Ls Gt;rw[oR]at Ls Gt;obtain⟨z,hz⟩:=Ae (Zh ((pcs ls).map (·.length)) 1);rw[hz]at Od;have HZ:=Aa hz;unfold prM at Ql U2 bI Ls Gt
 have qR:∀ y∈m.take 20,y<256:=fun y hy=>Ng y (List.mem_of_mem_take hy)
 have pI:∀ y∈n.take 20,y<256:=fun y hy=>Lf y (List.mem_of_mem_take hy)
 obtain⟨W1,Ah⟩:=Ae (w.alloc (.cells #[.slice none 0 0,.slice none 0 0,.slice none 0 0,.int .i64 0] 31))
 have b1:Below w.heap.size w W1:=by rw[<- Ah];exact Af _ _
 have q1:Blk W1 w.heap.size #[.slice none 0 0,.slice none 0 0,.slice none 0 0,.int .i64 0] 31:=by rw[<- Ah];exact Blk.new w _ _
 have s1:W1.heap.size=w.heap.size+1:=by rw[<- Ah];simp
 have T9:∀ W,Below w.heap.size w W->Calls Tryz.prog 11 #[.slice ma mk mc] W fun e w'=>∃ X:Xv,e=.returned X.agg/\ExN W.heap.size w' (Ca 6 (m.take 20)).1 X/\Below W.heap.size W w':=fun W hb=>j5 K _ _ W (Nw.below hb hK (Ab _)) qR (by have := hb.size;omega) (by have := take20 m;omega)
 have dQ:∀ W,Below w.heap.size w W->Calls Tryz.prog 11 #[.slice na nk nc] W fun e w'=>∃ X:Xv,e=.returned X.agg/\ExN W.heap.size w' (Ca 6 (n.take 20)).1 X/\Below W.heap.size W w':=fun W hb=>j5 K _ _ W (Dp.below hb hK (Ab _)) pI (by have := hb.size;omega) (by have := take20 n;omega)
 obtain⟨ea,Q4⟩:∃ e,(Ca 6 (m.take 20)).1=e:=⟨_,rfl⟩;obtain⟨eb,vN⟩:∃ e,(Ca 6 (n.take 20)).1=e:=⟨_,rfl⟩;simp only[Q4,vN]at T9 dQ Ql U2 bI Ls Gt ⊢;obtain⟨ml,rJ⟩:∃ k,m.length=k:=⟨_,rfl⟩;obtain⟨nle,tL⟩:∃ k,n.length=k:=⟨_,rfl⟩;rw[rJ]at qch Fs ⊢;rw[tL]at Ro Oz ⊢
 have zdh:mk<=mc:=by omega
 have zdz:nk<=nc:=by omega
 have sK:(if(20:Int)<(ml:Int)then(20:Int)else(ml:Int))=(mk:Int):=by split<;>omega
 have Tm:(if(20:Int)<(nle:Int)then(20:Int)else(nle:Int))=(nk:Int):=by split<;>omega
 have jR:=Aa sK;have qkj:=Aa Tm;have qhp:Hid (min (ml:Int) 20=(mk:Int)):=Aa (by omega);have qdt:Hid (min (nle:Int) 20=(nk:Int)):=Aa (by omega);have vR:=Aa T9;have qE:=Aa dQ;have zC:=Aa Ql;have kU:=Aa U2;have zsn:=Aa bI;have Hy:=Aa Rr;have Qp:=Aa Uo;have dB:=Aa Ls;have kO:=Aa Gt;have Ig:=Aa Hk;have Rl:=Aa In;obtain⟨B,hB⟩:=Ae w.heap.size;rw[hB]at hK vR qE b1 q1 s1 ⊢;have HB:=Aa hB;have Dk:=Aa Ah;have Bi:=Aa b1;have Bc:=Aa q1;have S1:=Aa s1;have aQ:=Aa Ga;clear hm hn Nw Dp Ng Lf qR pI rJ tL T9 dQ Q4 vN Ql U2 bI Rr Uo Fs Oz sK Tm hz Ls Gt Hk In oR Ga Yn hB Ah b1 q1 s1;go_enter Tryz.func6,Tryz.ntmps6
 go_upto_region 1 with fail
 simp only[HB.out];rw[Dk.out];refine Fz (fun _=>True) [] (by kernel_rfl) ?_;refine Am (i:=0) (v:=.slice ma ml mc) rfl trivial ?_;refine Am (i:=1) (v:=.slice ma ml mc) rfl trivial ?_;refine Am (i:=2) (v:=.int .i64 ml) rfl trivial ?_;refine Ar (i:=3) (v:=.int .i64 mk) rfl (.inl ⟨by kernel_rfl,fun W' hS=>by have Fs:=jR.out;go_simp<;>exact qhp.out⟩) trivial ?_;refine Am (i:=4) (v:=.slice ma mk mc) rfl trivial ?_;refine Am (i:=6) (v:=.slice na nle nc) rfl trivial ?_;refine Am (i:=7) (v:=.slice na nle nc) rfl trivial ?_;refine Am (i:=8) (v:=.int .i64 nle) rfl trivial ?_;refine Ar (i:=9) (v:=.int .i64 nk) rfl (.inl ⟨by kernel_rfl,fun W' hS=>by have Oz:=qkj.out;go_simp<;>exact qdt.out⟩) trivial ?_;refine Am (i:=10) (v:=.slice na nk nc) rfl trivial ?_;have Ov:Below B w W1.drew:=Gn Bi.out 1;have Pi:W1.drew.heap.size=B+1:=S1.out;have H8:Blk W1.drew B #[.slice none 0 0,.slice none 0 0,.slice none 0 0,.int .i64 0] 31:=Bc.out;obtain⟨W0,J0⟩:∃ W,W1.drew=W:=⟨_,rfl⟩;rw[J0]at Ov Pi H8 ⊢;have Zg:=Aa Ov;have Ys:=Aa Pi;have Wf:=Aa H8;clear Ov Pi J0 H8 Bc Bi;refine Ap (i:=5) rfl ?_;go_simp
 refine(vR.out W0 Zg.out).mono ?_;rintro en w3 ⟨X1,rfl,N1,Ak⟩;have b3:Below B w w3:=Zg.out.trans (Ak.mono (by rw[Ys.out];omega))
 have b03:Below (B+1) W0 w3:=by have := Ak;rwa[Ys.out]at this
 have Ep:B+1<=w3.heap.size:=by have := Ak.size;rw[Ys.out]at this;exact this
 have bN:=N1.now;have Rg:=Aa bN;rw[Ys.out]at N1;have zak:=Aa N1;have Do:=Aa b3;have qr7:=Aa b03;clear N1 Ak bN b3 b03;refine Ap (i:=11) rfl ?_;go_simp
 refine(qE.out w3 Do.out).mono ?_;rintro en w4 ⟨X2,rfl,U3,Al⟩;have b4:Below B w w4:=Do.out.trans (Al.mono (by omega));have b04:Below (B+1) W0 w4:=qr7.out.trans (Al.mono (by omega))
 have Fi:B+1<=w4.heap.size:=by have := Al.size;omega
 have lQ:=Rg.out.below Al (Ab _) Al.size;have nI:=U3.now;have qtb:=Aa (zak.out.move (An.of Al));have za0:=Aa (U3.mono Ep);obtain⟨b,Iv⟩:=Ae w4.heap.size;obtain⟨W5,Ez⟩:=Ae (w4.alloc (.cells (Cq X1 X2) 43))
 have b5:Below b w4 W5:=by rw[<- Ez,<- Iv];exact Af _ _
 have q5:Blk W5 b (Cq X1 X2) 43:=by rw[<- Ez,<- Iv];exact Blk.new w4 _ _
 have s5:W5.heap.size=b+1:=by rw[<- Ez,<- Iv];simp
 rw[Iv]at lQ nI Fi;have zxk:=Aa (qtb.out.move (An.of (by rw[Iv];exact b5)));have zh8:=Aa (za0.out.move (An.of (by rw[Iv];exact b5)));have zvc:=Aa (lQ.below b5 (Ab _) (show b<=W5.heap.size by omega));have zl2:=Aa (nI.below b5 (Ab _) (show b<=W5.heap.size by omega));have Hf:=Aa (b4.trans (b5.mono (by omega)));have qpl:=Aa (b04.trans (b5.mono Fi));have Jq:=Aa q5;have Wb:=Aa Ez;have vE:=Aa Iv;have S5:=Aa s5;dsimp only[Cq]at Wb;clear U3 Al b4 lQ nI Rg zak qtb za0 Do Iv Ez b5 q5 s5 b04 qr7 Zg;refine Ap (i:=12) rfl ?_;go_simp
 simp only[vE.out];rw[Wb.out];refine Am (i:=13) (v:=.slice (some ⟨b,0,none⟩) 2 2) rfl trivial ?_;refine Eo (by kernel_rfl) ?_ _
 have Cx:∀ W,Below W5.heap.size W5 W->Au 9 (fun i j=>(g2x X1 X2 i).cell j) W.heap.size W (.slice (some ⟨b,0,none⟩) 2 2) 2:=fun W hb=>by
  have hq:=Jq.out.below hb Jq.out.lt;exact qbr hq hq.lt
 have qfw:∀ W,Below W5.heap.size W5 W->∀ (i:Nat) (a:Gx),[ea,eb][i]?=some a->ExG W.heap.size W a (g2x X1 X2 i):=fun W hb i a ha=>by
  rcases i with _ | _ | i
  ·cases ha;exact zvc.out.below hb (Ab _) hb.size
  ·cases ha;exact zl2.out.below hb (Ab _) hb.size
  ·cases ha
 have Cd:=qo8 W5.heap.size (.slice (some ⟨b,0,none⟩) 2 2) [ea,eb] (g2x X1 X2) W5 (Cx W5 (Below.refl _ _)) (qfw W5 (Below.refl _ _)) kU.out (Ab _);rw[zC.out]at Cd;have Om:=Aa Cd;have Zf:=Aa Cx;have znc:=Aa qfw;clear Cd Cx qfw;go_simp
 go_wp2_with fail
 refine Om.out.mono ?_;clear Om;rintro en w7 ⟨lv,rfl,Hg,Ct⟩;obtain⟨la,lc,rfl,_,_⟩:=id Hg.form;have Ce:=qw1 w7.heap.size _ ls w7 Hg (dD Hy.out Qp.out) (by have := LM.len Hy.out;omega) (Ab _);rw[HZ.out]at Ce;have Qh:=Aa Ce;have E7:=Aa Ct;obtain⟨ln,Ms⟩:∃ k,ls.length=k:=⟨_,rfl⟩;rw[Ms]at Qh ⊢;have Mu:=Aa Ms;have t300:decide ((300:Int)<(z:Int))=false:=decide_eq_false (by omega);clear Ce Hg Ct Ms;go_wp2_with fail
 refine Qh.out.mono ?_;clear Qh;rintro en w8 ⟨rfl,Ey⟩;have b58:Below W5.heap.size W5 w8:=E7.out.trans (Ey.mono E7.out.size);have M1:=qir w8.heap.size (.slice (some ⟨b,0,none⟩) 2 2) [ea,eb] (g2x X1 X2) w8 (Zf.out w8 b58) (znc.out w8 b58) kU.out zsn.out (Ab _) (by simp) ls zC.out (zo4 Hy.out Qp.out) (by have := LM.len Hy.out;omega) (by have := aQ.out;omega) ((Rl.out.on ((Hf.out.trans (b58.mono (by have := Hf.out.size;rw[HB.out]at this;exact this))).mono hK)).up (by have := b58.size;have := S5.out;omega));rw[dB.out,kO.out]at M1;have Z7:=Aa M1;have qgw:=Aa b58;have Rm:Hid (B<w8.heap.size):=Aa (by have := b58.size;have := S5.out;omega);clear M1 b58 Ey E7;go_wp2_with fail
 refine Z7.out.mono ?_;clear Z7;rintro en w9 ⟨y,rfl,Fo,jY⟩;obtain⟨l1,l2,l3⟩:=(Fo w9 (An.refl _ _)).lens
 have Hj:∀ W,Below w9.heap.size w9 W->Calls Tryz.prog 20 #[y.agg] W fun e w'=>e=.returned (.bool true)/\Below W.heap.size W w':=fun W hb=>uK W.heap.size y ls st rt W (Fo W (An.of hb)) Ig.out (dD Hy.out Qp.out) (Ab _)
 obtain⟨⟨sa,sn,sm⟩,⟨da,dn,dm⟩,⟨fa,fn,fm⟩,rr⟩:=y;dsimp only[Dv.agg,Dv.cells,Sl.val]at Hj l1 l2 l3 Fo ⊢;rw[Mu.out]at l1;subst l1
 have Bd:∀ u∈(#[.slice sa sn sm,.slice da dn dm,.slice fa fn fm,.int .i64 rr]:Array Value),u.oneCell'=true:=by simp[Value.oneCell']
 have I0:=Aa Fo;have Up:=Aa Hj;have b59:Below W5.heap.size W5 w9:=qgw.out.trans (jY.mono qgw.out.size);have zis:=Aa b59;obtain⟨D,hD⟩:=Ae w9.heap.size;obtain⟨cE,qam⟩:∃ W,w9.alloc (.cells #[.slice sa sn sm,.slice da dn dm,.slice fa fn fm,.int .i64 rr] 31)=W:=⟨_,rfl⟩
 have b10:Below w9.heap.size w9 cE:=by rw[<- qam];exact Af _ _
 have q10:Blk cE D #[.slice sa sn sm,.slice da dn dm,.slice fa fn fm,.int .i64 rr] 31:=by rw[<- qam,<- hD];exact Blk.new w9 _ _
 have qkr:=Aa b10;have qxk:=Aa q10;have zc6:=Aa qam;have HD:=Aa hD
 have ztp:W5.heap.size<=D:=by rw[<- hD];exact b59.size
 obtain⟨c0,c1,c2,c3⟩:=q10.four;clear Fo Hj b59 jY l2 l3 qam b10 q10 hD qgw
 go_upto_region 6 with(refine Iu rfl 31 (.tmp 10) (.tmp 41) rfl #[.slice sa sn sm,.slice da dn dm,.slice fa fn fm,.int .i64 rr] _ cO rfl Bd w9.heap.size rfl rfl rfl ?_)
 simp only[HD.out];rw[zc6.out];have qut:=Up.out cE qkr.out;have qq4:=Aa qut;clear qut;go_wp2_with fail
 refine qq4.out.mono ?_;clear qq4 Up c1 c2 c3;rintro en w11 ⟨rfl,qhm⟩;have q11:=qxk.out.below qhm qxk.out.lt;have d0:w11.cell? ⟨D,0,none⟩=some (.slice sa sn sm):=q11.at rfl;have zqx:=Aa q11;have zi9:=Aa (qkr.out.trans (qhm.mono qkr.out.size));clear q11 qhm c0
 go_upto_region 8 with fail
 obtain⟨Jp,qbn⟩:∃ W,w11.drew=W:=⟨_,rfl⟩
 have qtv:Blk Jp D #[.slice sa sn sm,.slice da dn dm,.slice fa fn fm,.int .i64 rr] 31:=by rw[<- qbn];exact zqx.out
 have b12:Below w9.heap.size w9 Jp:=by rw[<- qbn];exact Gn zi9.out 1
 have b512:Below W5.heap.size W5 Jp:=zis.out.trans (b12.mono (by rw[HD.out];exact ztp));have b012:Below (B+1) W0 Jp:=qpl.out.trans (b512.mono (by have := qpl.out.size;rw[Ys.out]at this;exact this));have q0:=Wf.out.below b012 (Nat.lt_succ_self B);have fV:=Aa b12;have tR:=Aa b512;have qel:=Aa qtv;have E8:=Aa q0;have zkg:Hid (D≠B):=Aa (by have := S5.out;omega);clear b12 b512 b012 q0 qtv d0;refine Fz (fun W'=>Blk W' D #[.slice sa sn sm,.slice da dn dm,.slice fa fn fm,.int .i64 rr] 31) [] (by kernel_rfl) ?_;rw[qbn];have qS:(fun W'=>Blk W' D #[.slice sa sn sm,.slice da dn dm,.slice fa fn fm,.int .i64 rr] 31) Jp:=qel.out;clear qbn;refine Am (i:=0) (v:=.slice (some ⟨b,0,none⟩) 2 2) rfl qS ?_;refine Ar (i:=1) (v:=.agg #[.slice sa sn sm,.slice da dn dm,.slice fa fn fm,.int .i64 rr]) rfl (.inl ⟨by kernel_rfl,fun W' hS=>by obtain⟨c0,c1,c2,c3⟩:=Blk.four hS;go_simp⟩) qS ?_;refine Am (i:=2) (v:=.slice (some ⟨b,0,none⟩) 2 2) rfl qS ?_;refine Ap (i:=3) rfl ?_;refine eH 31 31 (.tmp 5) (.tmp 60) rfl #[.slice sa sn sm,.slice da dn dm,.slice fa fn fm,.int .i64 rr] _ B E8.out cO rfl Bd rfl rfl ?_;intro qk7 t1 t2 t3 t4
 have qS13:(fun W'=>Blk W' D #[.slice sa sn sm,.slice da dn dm,.slice fa fn fm,.int .i64 rr] 31) qk7:=(t3.block D qel.out.lt (by simp;exact zkg.out)).trans qel.out;refine⟨fun _=>qS13,?_⟩;refine Am (i:=4) (v:=.bool true) rfl qS13 ?_;refine Eo (by kernel_rfl) ?_ _;go_simp
 go_wp2_with fail
 refine bodyPost_ret (zue rfl _ _ B _ _ t1 rfl Tryz.underlying31 rfl cO) rfl ?_;have zz4:B+1<=b:=Fi;have Ey:B<w8.heap.size:=Rm.out
 exact⟨b,X1,X2,⟨⟨sa,sn,sm⟩,⟨da,dn,dm⟩,⟨fa,fn,fm⟩,rr⟩,rfl,by omega,(t3.block b (Jq.out.below tR.out Jq.out.lt).lt (by simp;omega)).trans (Jq.out.below tR.out Jq.out.lt),
  ((zxk.out.move (An.of tR.out)).move (An.put t3 (Nat.lt_succ_self B))).now,((zh8.out.move (An.of tR.out)).move (An.put t3 (Nat.lt_succ_self B))).now,
  I0.out qk7 (((An.of fV.out).trans (An.put t3 Ey))),Hf.out.trans ((tR.out.mono (by have := S5.out;omega)).trans (t2 B (Ab _)))⟩
theorem qvd {m n:List Nat}:∃ l,prS m n=l/\Oc (prM m n)=(l,0)/\LM l/\Uw l/\∀ e∈prM m n,∀ t∈e.tests,Has l (Ec t):=by
 obtain⟨l,h1,h2,h3,h4⟩:=oK m n;exact⟨l,by unfold prS;rw[h1],h1,h2,h3,h4⟩
theorem zcm (m n:List Nat):eN (pcs (prS m n)) (lfS (prS m n) (prM m n)) (prT m n).2 (prT m n).1:=by
 obtain⟨l,h1,_,Rr,Uo,_⟩:=@qvd m n;unfold prT;rw[h1];exact qgk (qfa Rr Uo)
theorem zc4 {kd:Int} {n:Nat} (hn:n<8):(wV kd n).dig/\(wV kd n).lim 8:=by
 unfold wV
 split
 ·refine⟨⟨fun d hd=>?_,fun d hd=>?_⟩,?_,?_⟩
  ·dsimp only at hd
   split at hd
   ·cases hd
   ·rw[List.mem_singleton.1 hd];omega
  ·dsimp only at hd
   rw[List.mem_singleton.1 hd];decide
  ·dsimp only
   split<;>simp
  ·simp
 ·exact⟨⟨fun d hd=>(by cases hd),fun d hd=>(by cases hd)⟩,Nat.zero_le _,Nat.zero_le _⟩
theorem qmy {s:Sc} (h:ScM s) (hf:s.kd≠0->s.cuts≠[]):j4 s 8:=by
 have key:∀ c∈s.cuts,c.dig/\c.lim 8:=fun c hc=>by
  obtain⟨k,hk,he,h1 | h1⟩:=h
  ·rw[h1.2.2]at hc;cases hc
  ·obtain⟨n,hn,rfl⟩:=h1.2.2.2 c hc
   exact zc4 hn
 exact⟨sU h hf,fun c hc=>(quy h c hc).2,fun c hc=>(key c hc).1,fun c hc=>(key c hc).2⟩
theorem qqs {s:Sc} {c:Nat} (h:c∈Bf s):s.okB=true/\s.poss c=true:=by
 unfold Bf at h
 split at h
 ·rename_i ho
  unfold Vl at h;exact⟨ho,(List.mem_filter.1 h).2⟩
 ·cases h
def Tp (nl:List Nat) (ls:List Sc) (i:Nat):Nat:=(Bf (ls[i]?.getD default))[nl[i]?.getD 0%(Bf (ls[i]?.getD default)).length]?.getD 0
def Wc (nl:List Nat) (ls:List Sc) (k:Nat):List Nat:=(List.range k).map (Tp nl ls)
theorem S6 (nl:List Nat) (ls:List Sc) (k:Nat):(Wc nl ls k).length=k:=by simp[Wc]
theorem ztl (nl:List Nat) (ls:List Sc) (k:Nat):Wc nl ls (k+1)=Wc nl ls k++[Tp nl ls k]:=by unfold Wc;rw[List.range_succ];simp
theorem qj4 {nl:List Nat} {ls:List Sc} {k i:Nat} (h:i<k):(Wc nl ls k)[i]?=some (Tp nl ls i):=by simp[Wc,h]
theorem qiu {nl:List Nat} {ls:List Sc} (hl:LM ls) (hf:Uw ls) {i:Nat} {s:Sc} (h:ls[i]?=some s):Tp nl ls i∈Bf s/\2<=(Bf s).length/\Tp nl ls i=(Bf s)[nl[i]?.getD 0%(Bf s).length]?.getD 0:=by
 have hm:=List.mem_of_getElem? h;have h2:=qva (hl.each s hm) (hf s hm)
 have he:Tp nl ls i=(Bf s)[nl[i]?.getD 0%(Bf s).length]?.getD 0:=by unfold Tp;rw[h,Option.getD_some]
 refine⟨?_,h2,he⟩;rw[he,Ac (Nat.mod_lt _ (by omega)),Option.getD_some];exact List.getElem_mem _
theorem zds {nl:List Nat} {ls:List Sc} (hl:LM ls) (hf:Uw ls):Cu (pcs ls) (Wc nl ls ls.length):=by
 refine⟨by rw[S6];simp[pcs],fun i c hc=>?_⟩
 have hi:i<ls.length:=by have := (List.getElem?_eq_some_iff.1 hc).1;rwa[S6]at this
 rw[qj4 hi,Option.some.injEq]at hc;have hs:ls[i]?=some ls[i]:=Ac hi;refine⟨Bf ls[i],by simp[pcs,hs],?_⟩;rw[<- hc];exact(qiu hl hf hs).1
def Xq (nl:List Nat) (ls:List Sc) (i:Nat):Vq:=Jg (ls[i]?.getD default) (Tp nl ls i)
theorem zlk {nl:List Nat} {ls:List Sc} (hl:LM ls) (hf:Uw ls) {i:Nat} {s:Sc} (h:ls[i]?=some s):U6 s (Xq nl ls i)=((Tp nl ls i:Int),true)/\(Xq nl ls i).good=true:=by
 have hm:=List.mem_of_getElem? h
 have e:Xq nl ls i=Jg s (Tp nl ls i):=by unfold Xq;rw[h,Option.getD_some]
 rw[e];exact zk6 (qmy (hl.each s hm) (hf s hm)) (by decide) (qqs (qiu hl hf h).1).2
def jO (v:Vq) (k:Int) (r:Vq):Prop:=∀ (x:Vv) (W:World),VlX W.heap.size W v x->Calls Tryz.prog 48 #[x.agg,.int .i64 k] W fun e w'=>∃ z:Vv,e=.returned (.tuple #[z.agg,.bool true])/\Zed (Btw W.heap.size w'.heap.size) w' (fun K W=>VlX K W r z)/\Below W.heap.size W w'
def qhh (a b r:Vq):Prop:=∀ (x y:Vv) (W:World),VlX W.heap.size W a x->VlX W.heap.size W b y->Calls Tryz.prog 49 #[x.agg,y.agg] W fun e w'=>∃ z:Vv,e=.returned (.tuple #[z.agg,.bool true])/\Zed (Btw W.heap.size w'.heap.size) w' (fun K W=>VlX K W r z)/\Below W.heap.size W w'
theorem qpu {s:Sc} (h:s.okB=true) (h0:(s.kd==0)=false):1<=s.cuts.length:=by
 unfold Sc.okB at h;rw[if_neg (by simpa using h0)]at h;simp only[Bool.and_eq_true,decide_eq_true_eq]at h;omega
theorem zck (K:Nat) (s:Sc) (y:Sv) (c:Nat) (r:Vq) (w:World) (hs:ScX K w s y) (hK:K<=w.heap.size) (Jt:∀ v∈s.cuts,v.good=true) (Ay:s.okB=true) (e0:(s.kd==0)=false) (hp:s.poss c=true) (Kh:c%2=0)
  (h0:c/2=0->jO (s.cuts[0]?.getD v0) (-1) r) (h1:0<c/2->c/2=s.cuts.length->jO (s.cuts[c/2-1]?.getD v0) 1 r) (h2:0<c/2->c/2<s.cuts.length->qhh (s.cuts[c/2-1]?.getD v0) (s.cuts[c/2]?.getD v0) r) :
  Calls Tryz.prog 25 #[y.agg,.int .i64 c] w fun e w'=>∃ z:Vv,e=.returned (.tuple #[z.agg,.bool true])/\Zed (Btw w.heap.size w'.heap.size) w' (fun K W=>VlX K W r z)/\Below w.heap.size w w':=by
 have rD:=oB Ay
 have Ox:c<2*s.cuts.length+1:=by
  unfold Sc.poss Hd at hp;rw[if_neg (by simpa using e0)]at hp;simp only[Bool.and_eq_true,decide_eq_true_eq]at hp;omega
 have Es:1<=s.cuts.length:=qpu Ay e0;obtain⟨W1,Ah⟩:=Ae ((w.alloc (.cells y.cells 46)).alloc (.cells vv0.cells 41))
 have b1:Below w.heap.size w W1:=by rw[<- Ah];exact(Af _ _).alloc (by simp) _
 have q1:Blk W1 w.heap.size y.cells 46:=by rw[<- Ah];exact(Blk.new w _ _).alloc _
 have q2:Blk W1 (w.heap.size+1) vv0.cells 41:=by
  rw[<- Ah];have := Blk.new (w.alloc (.cells y.cells 46)) vv0.cells 41;rwa[World.size_alloc]at this
 have s1:W1.heap.size=w.heap.size+2:=by rw[<- Ah];simp
 obtain⟨B,hB⟩:=Ae w.heap.size;have HB:=Aa hB;have HW:=Aa Ah;rw[hB]at hK b1 q1 q2 s1 ⊢;dsimp only[Vv.cells,vv0]at HW;have hv:=gA B s y W1 (hs.below b1 hK hK) (by omega) Jt (by omega);rw[Ay]at hv
 have Ye:∀ W,Below W1.heap.size W1 W->Calls Tryz.prog 23 #[.pointer (some ⟨B,0,none⟩),.int .i64 (c:Int)] W fun e w'=>e=.returned (.bool true)/\Below W.heap.size W w':=fun W hb=>by
  have h3:=hb.size;have h2:=(q1.below hb q1.lt);have := yG B B 0 y.c.val s c W ((hs.cuts.below b1 hK hK).below hb (by omega) (Ab _)) (by omega) (by omega) (by rw[Nat.zero_add,<- hs.kd];exact h2.at rfl) (by rw[Nat.zero_add];exact h2.at rfl) (by omega) (iY Ay);rw[hp]at this;exact this.mono (by rintro e w' ⟨rfl,h⟩;exact⟨rfl,h⟩)
 have Yc:=Aa Ye;have C8:=hs.cuts.below b1 hK hK;have Br:=hs.kd;obtain⟨g,Cx,Eh⟩:=C8;obtain⟨cb,co,ccap,Nh,_,Fl,Fx,Rp⟩:=Cx.pos (by omega);obtain⟨⟨yop,ynm,yk,yb3,⟨y4,y4n,y4m⟩,yb5,⟨y6,y6n,y6m⟩,yi7,⟨y8,y8n,y8m⟩⟩,sk,⟨ca,cn,cm⟩⟩:=y;simp only[Sl.val,Value.slice.injEq]at Nh;obtain⟨rfl,rfl,rfl⟩:=Nh;dsimp only at Br;subst Br;obtain⟨m,hm⟩:=Ae (c/2);rw[hm]at h0 h1 h2
 have Dz:Int.tdiv (c:Int) 2=(m:Int):=by rw[Int.tdiv_eq_ediv_of_nonneg (by omega)];omega
 have qK:∀ j,j<s.cuts.length->∃ a1 n1 m1 a2 n2 m2,g j=⟨(g j).kd,(g j).b1,.slice a1 n1 m1,(g j).b2,.slice a2 n2 m2,(g j).i⟩:=fun j hj=>by
  have h6:=Eh j hj;obtain⟨a1,m1,h7,_⟩:=h6.n.form;obtain⟨a2,m2,h8,_⟩:=h6.d.form;exact⟨a1,_,m1,a2,_,m2,by rw[<- h7,<- h8]⟩
 have fI:=Aa qK;have Mz:=Aa Eh;have Kj:=Aa Rp;have Bc:=Aa q1;have Bw:=Aa q2;obtain⟨n,hn⟩:=Ae s.cuts.length;have HN:=Aa hn;obtain⟨kd,Br⟩:=Ae s.kd;have Px:=Aa Br;rw[hn]at hv rD Es Ox HW Kj fI Mz Bc h1 h2 ⊢;rw[Br]at hv e0 HW Bc ⊢;have H0:=Aa h0;have H1:=Aa h1;have H2:=Aa h2;have HM:=Aa hm;obtain⟨d0,d1,d2,d3,d4,d5,d6,d7,d8,d9,d10⟩:=Bc.out.eleven;clear hB Ah hs Jt Ay hp Ye Cx Eh Rp q1 q2 qK hn Br h0 h1 h2;go_enter Tryz.func25,Tryz.ntmps25
 go_upto_region 1 with fail
 simp only[HB.out];rw[HW.out];go_wp2_with fail
 refine hv.mono ?_;rintro e w2 ⟨rfl,Ai⟩;clear hv d0 d1 d2 d3 d4 d5 d6 d7 d8 d9 d10;go_wp2_with fail
 refine(Yc.out w2 Ai).mono ?_;rintro e w3 ⟨rfl,Ak⟩;have b3':Below W1.heap.size W1 w3:=Ai.trans (Ak.mono Ai.size);have b3:Below B w w3:=b1.trans (b3'.mono (by omega));have Ep:=b3'.size;clear Ai Ak;have Lv:=Bc.out.below b3' (by omega);have nM:=Bw.out.below b3' (by omega);have d9:=Lv.at (i:=9) (x:=.int .u8 kd) rfl;have d10:=Lv.at (i:=10) (x:=.slice (some ⟨cb,co,none⟩) n cm) rfl
 have pX:Hid (∀ j,j<n->w3.rangeAt cb (co+j*6) (g j).cells.toList):=Aa fun j hj=>qiz (Km b3' (by omega) Kj.out) hj
 have cb3:cb<w3.heap.size:=by omega
 have Jd:Int.tmod (c:Int) 2=0:=by rw[Int.tmod_eq_emod_of_nonneg (by omega)];omega
 have Wu:Hid (∀ j,j<n->VlX w3.heap.size w3 (s.cuts[j]?.getD v0) (g j)):=Aa fun j hj=>(Mz.out j hj).below b3' (by omega) (by omega)
 by_cases eF:m=0
 ·subst eF
  obtain⟨a1,n1,m1,a2,n2,m2,Nn⟩:=fI.out 0 (by omega);have Ce:=pX.out 0 (by omega);rw[Nat.zero_mul,Nat.add_zero]at Ce;have Iv:=H0.out rfl (g 0) w3 (Wu.out 0 (by omega));rw[Nn]at Ce Iv;have Qh:=Aa Ce;have vE:=Aa Iv;have Io:=Aa nM
  have zyb:0<n:=by omega
  clear Nn Ce Iv hm;go_wp2_with (refine wpList_load_mid rfl 41 (.tmp 38) rfl cb co rfl (⟨(g 0).kd,(g 0).b1,.slice a1 n1 m1,(g 0).b2,.slice a2 n2 m2,(g 0).i⟩:Vv).cells.toList _ Qh.out Tryz.underlying41 rfl Kn ?_)
  refine vE.out.mono ?_;rintro e w4 ⟨z,rfl,hz,Al⟩
  have Cz:=hz.get fun b hb=>hb.2
  obtain⟨b1a,b1m,Ge,_⟩:=Cz.n.form;obtain⟨b2a,b2m,Cw,_⟩:=Cz.d.form;obtain⟨x1,Ck⟩:∃ x,r.l1.length=x:=⟨_,rfl⟩;obtain⟨x2,Gi⟩:∃ x,r.l2.length=x:=⟨_,rfl⟩;rw[Ck]at Ge;rw[Gi]at Cw;obtain⟨zk,zb1,zs1,zb2,zs2,zi⟩:=z;dsimp only at Ge Cw;subst Ge Cw;have Fi:=Al.size
  have Bd:∀ u∈(⟨zk,zb1,.slice b1a x1 b1m,zb2,.slice b2a x2 b2m,zi⟩:Vv).cells,u.oneCell'=true:=by simp[Value.oneCell']
  have Df:=Aa Bd;have HZ:=Aa hz;clear hz Cz Ck Gi Bd;have q4:=Io.out.below Al (by omega);have Jq:=Aa q4;clear q4;go_wp2_with (refine Gu rfl 41 41 (.tmp 4) (.tmp 41) rfl (⟨zk,zb1,.slice b1a x1 b1m,zb2,.slice b2a x2 b2m,zi⟩:Vv).cells _ (B+1) Jq.out Kn rfl Df.out rfl rfl ?_;intro W2 t1 t2 t3 t4)
  refine bodyPost_ret (v:=.tuple #[(⟨zk,zb1,.slice b1a x1 b1m,zb2,.slice b2a x2 b2m,zi⟩:Vv).agg,.bool true]) ?_ rfl ?_
  ·obtain⟨e0,e1,e2,e3,e4,e5⟩:=t1.six
   simp[results,Tryz.results25,go_sem,e0,e1,e2,e3,e4,e5]
  exact⟨_,rfl,(HZ.out.move (G7 t3 (fun b hb=>hb.2) fun b hb h=>by cases hb;have := h.1;omega)).mono fun b hb=>⟨by have := hb.1;omega,Nat.lt_of_lt_of_le hb.2 t3.size⟩,b3.trans ((Al.mono (by omega)).trans (t2 B (by omega)))⟩
 ·have em0:((m:Int)==0)=false:=by simp;omega
  obtain⟨p,Vj⟩:∃ p,p+1=m:=⟨m-1,by omega⟩
  have iQ:m-1=p:=by omega
  have qcq:IntKind.i64.wrap ((m:Int)-1)=(p:Int):=by rw[show(m:Int)-1=p by omega];exact IntWalk.i64_in _ (by omega)
  obtain⟨a1,n1,m1,a2,n2,m2,Nn⟩:=fI.out p (by omega);have Ce:=pX.out p (by omega);have Io:=Aa nM
  have Pp:p<n:=by omega
  by_cases Ij:m=n
  ·subst Ij
   have Iv:=H1.out (by omega) rfl (g p) w3 (by have := Wu.out p (by omega);rw[iQ];exact this);rw[Nn]at Ce Iv;have Qh:=Aa Ce;have vE:=Aa Iv;clear Nn Ce Iv hm iQ;go_wp2_with (refine wpList_load_mid rfl 41 (.tmp 53) rfl cb (co+p*6) rfl (⟨(g p).kd,(g p).b1,.slice a1 n1 m1,(g p).b2,.slice a2 n2 m2,(g p).i⟩:Vv).cells.toList _ Qh.out Tryz.underlying41 rfl Kn ?_)
   refine vE.out.mono ?_;rintro e w4 ⟨z,rfl,hz,Al⟩
   have Cz:=hz.get fun b hb=>hb.2
   obtain⟨b1a,b1m,Ge,_⟩:=Cz.n.form;obtain⟨b2a,b2m,Cw,_⟩:=Cz.d.form;obtain⟨x1,Ck⟩:∃ x,r.l1.length=x:=⟨_,rfl⟩;obtain⟨x2,Gi⟩:∃ x,r.l2.length=x:=⟨_,rfl⟩;rw[Ck]at Ge;rw[Gi]at Cw;obtain⟨zk,zb1,zs1,zb2,zs2,zi⟩:=z;dsimp only at Ge Cw;subst Ge Cw;have Fi:=Al.size
   have Bd:∀ u∈(⟨zk,zb1,.slice b1a x1 b1m,zb2,.slice b2a x2 b2m,zi⟩:Vv).cells,u.oneCell'=true:=by simp[Value.oneCell']
   have Df:=Aa Bd;have HZ:=Aa hz;clear hz Cz Ck Gi Bd;have q4:=Io.out.below Al (by omega);have Jq:=Aa q4;clear q4;go_wp2_with (refine Gu rfl 41 41 (.tmp 4) (.tmp 56) rfl (⟨zk,zb1,.slice b1a x1 b1m,zb2,.slice b2a x2 b2m,zi⟩:Vv).cells _ (B+1) Jq.out Kn rfl Df.out rfl rfl ?_;intro W2 t1 t2 t3 t4)
   refine bodyPost_ret (v:=.tuple #[(⟨zk,zb1,.slice b1a x1 b1m,zb2,.slice b2a x2 b2m,zi⟩:Vv).agg,.bool true]) ?_ rfl ?_
   ·obtain⟨e0,e1,e2,e3,e4,e5⟩:=t1.six
    simp[results,Tryz.results25,go_sem,e0,e1,e2,e3,e4,e5]
   exact⟨_,rfl,(HZ.out.move (G7 t3 (fun b hb=>hb.2) fun b hb h=>by cases hb;have := h.1;omega)).mono fun b hb=>⟨by have := hb.1;omega,Nat.lt_of_lt_of_le hb.2 t3.size⟩,b3.trans ((Al.mono (by omega)).trans (t2 B (by omega)))⟩
  ·have v8:m<n:=by omega
   obtain⟨a3,n3,m3,a4,n4,m4,qex⟩:=fI.out m (by omega);have uN:=pX.out m (by omega)
   have tC:Hid (∀ W,Below w3.heap.size w3 W->Calls Tryz.prog 49 #[(g p).agg,(g m).agg] W fun e w'=>∃ z:Vv,e=.returned (.tuple #[z.agg,.bool true])/\Zed (Btw W.heap.size w'.heap.size) w' (fun K W=>VlX K W r z)/\Below W.heap.size W w'):=Aa fun W hb=>H2.out (by omega) v8 (g p) (g m) W (by rw[iQ];exact(Wu.out p Pp).below hb (Ab _) hb.size) ((Wu.out m v8).below hb (Ab _) hb.size)
   rw[Nn,qex]at tC;have zve:=Aa Nn;have zpu:=Aa qex
   have emn:((m:Int)==(n:Int))=false:=by simp;omega
   have zy5:cb<W1.heap.size:=by omega
   clear Nn Ce hm qex uN iQ
   go_upto_region 12 with fail
   have qg0:=Aa Lv;clear d9 d10 Lv nM
   have l3:B+1<w3.heap.size:=by omega
   refine Fz (fun W'=>Below w3.heap.size w3 W') [14,15] (by kernel_rfl) ?_;have qS:(fun W'=>Below w3.heap.size w3 W') w3.drew:=Er (Below.refl _ _)
   have Gz:∀ W' j,Below w3.heap.size w3 W'->j<n->W'.rangeAt cb (co+j*6) (g j).cells.toList:=fun W' j hb hj=>qiz (Km (b3'.trans (hb.mono Ep)) (by omega) Kj.out) hj
   refine Am (i:=0) (v:=.pointer (some ⟨B,10,none⟩)) rfl qS ?_;refine Ar (i:=1) (v:=.slice (some ⟨cb,co,none⟩) n cm) rfl (.inl ⟨by kernel_rfl,fun W' hS=>by have d10:=(qg0.out.below hS (by omega)).at (i:=10) (x:=.slice (some ⟨cb,co,none⟩) n cm) rfl;go_simp⟩) qS ?_;refine Am (i:=2) (v:=.int .i64 (m:Int)) rfl qS ?_;refine Am (i:=3) (v:=.int .i64 (p:Int)) rfl qS ?_;refine Am (i:=4) (v:=.pointer (some ⟨cb,co+p*6,none⟩)) rfl qS ?_;refine Ar (i:=5) (v:=(⟨(g p).kd,(g p).b1,.slice a1 n1 m1,(g p).b2,.slice a2 n2 m2,(g p).i⟩:Vv).agg) rfl (yieldsIf_load_mid (by kernel_rfl) 41 (.tmp 62) rfl cb (co+p*6) rfl (⟨(g p).kd,(g p).b1,.slice a1 n1 m1,(g p).b2,.slice a2 n2 m2,(g p).i⟩:Vv).cells.toList _ (fun W' hS=>by have h:=Gz W' p hS Pp;rw[zve.out]at h;exact h) Tryz.underlying41 rfl Kn) qS ?_;refine Am (i:=6) (v:=.pointer (some ⟨B,10,none⟩)) rfl qS ?_;refine Ar (i:=7) (v:=.slice (some ⟨cb,co,none⟩) n cm) rfl (.inl ⟨by kernel_rfl,fun W' hS=>by have d10:=(qg0.out.below hS (by omega)).at (i:=10) (x:=.slice (some ⟨cb,co,none⟩) n cm) rfl;go_simp⟩) qS ?_;refine Am (i:=8) (v:=.int .i64 (m:Int)) rfl qS ?_;refine Am (i:=9) (v:=.pointer (some ⟨cb,co+m*6,none⟩)) rfl qS ?_;refine Ar (i:=10) (v:=(⟨(g m).kd,(g m).b1,.slice a3 n3 m3,(g m).b2,.slice a4 n4 m4,(g m).i⟩:Vv).agg) rfl (yieldsIf_load_mid (by kernel_rfl) 41 (.tmp 67) rfl cb (co+m*6) (by go_simp) (⟨(g m).kd,(g m).b1,.slice a3 n3 m3,(g m).b2,.slice a4 n4 m4,(g m).i⟩:Vv).cells.toList _ (fun W' hS=>by have h:=Gz W' m hS v8;rw[zpu.out]at h;exact h) Tryz.underlying41 rfl Kn) qS ?_;refine Ap (i:=11) rfl ?_;go_simp
   refine(tC.out _ qS).mono ?_;rintro e w4 ⟨z,rfl,hz,Al⟩
   have Cz:=hz.get fun b hb=>hb.2
   obtain⟨b1a,b1m,Ge,_⟩:=Cz.n.form;obtain⟨b2a,b2m,Cw,_⟩:=Cz.d.form;obtain⟨x1,Ck⟩:∃ x,r.l1.length=x:=⟨_,rfl⟩;obtain⟨x2,Gi⟩:∃ x,r.l2.length=x:=⟨_,rfl⟩;rw[Ck]at Ge;rw[Gi]at Cw;obtain⟨zk,zb1,zs1,zb2,zs2,zi⟩:=z;dsimp only at Ge Cw;subst Ge Cw;have Fi:=Al.size
   have Bd:∀ u∈(⟨zk,zb1,.slice b1a x1 b1m,zb2,.slice b2a x2 b2m,zi⟩:Vv).cells,u.oneCell'=true:=by simp[Value.oneCell']
   have Df:=Aa Bd;have HZ:=Aa hz;clear hz Cz Ck Gi Bd;have qS4:Below w3.heap.size w3 w4:=qS.trans (Al.mono qS.size);have zeu:=qS4.size;have q4:=Io.out.below qS4 l3;have Jq:=Aa q4;clear q4;go_simp
   refine Am (i:=12) (v:=(⟨zk,zb1,.slice b1a x1 b1m,zb2,.slice b2a x2 b2m,zi⟩:Vv).agg) rfl qS4 ?_;refine Am (i:=13) (v:=.bool true) rfl qS4 ?_;refine Ap (i:=14) rfl ?_;refine eH 41 41 (.tmp 4) (.tmp 70) rfl (⟨zk,zb1,.slice b1a x1 b1m,zb2,.slice b2a x2 b2m,zi⟩:Vv).cells _ (B+1) Jq.out Kn rfl Df.out rfl rfl ?_;intro W2 t1 t2 t3 t4
   refine⟨fun e=>absurd e (by decide),?_⟩;refine Ap (i:=15) rfl ?_;go_simp
   refine Eo (by kernel_rfl) ?_ _;go_wp2_with fail
   refine bodyPost_ret (v:=.tuple #[(⟨zk,zb1,.slice b1a x1 b1m,zb2,.slice b2a x2 b2m,zi⟩:Vv).agg,.bool true]) ?_ rfl ?_
   ·obtain⟨e0,e1,e2,e3,e4,e5⟩:=t1.six
    simp[results,Tryz.results25,go_sem,e0,e1,e2,e3,e4,e5]
   exact⟨_,rfl,(HZ.out.move (G7 t3 (fun b hb=>hb.2) fun b hb h=>by cases hb;have := h.1;have := qS.size;omega)).mono fun b hb=>⟨by have := hb.1;have := qS.size;omega,Nat.lt_of_lt_of_le hb.2 t3.size⟩,b3.trans ((qS4.mono (by omega)).trans (t2 B (by omega)))⟩
section
variable {P:Program} {ops:Array Oper} {Q:Exit->Act->World->Prop} {md:Region.Mode} {S:World->Prop} {D:List Nat}
theorem zrg {i:Nat} {oi:Oper} {v:Value} (hi:ops[i]?=some oi) (cJ:∀ (j:Nat) (o:Oper) cs b,ops[j]?=some o->o.op≠.select cs b)
  (hQ:∀ c a w,Q (.panic c) (a.put oi.dst v) w->Q (.panic c) a w) (quu:i∈D) :
  ∀ (fuel:Nat) (listed:Array Bool) (a:Act) (w:World),
   (∀ j oj,ops[j]?=some oj->j≠i->listed.getD j true=false->(∀ e∈oj.after,Region.binds md e=true->e.on≠i)->oi.apart ops oj=true) →
   i∈Region.ready md ops listed->YieldsIf P ops (fun _=>True) oi v a →
   By P md ops Q S D fuel (listed.setIfInBounds i true) (a.put oi.dst v) w->By P md ops Q S D (fuel+1) listed a w:=by
 intro fuel
 induction fuel with
 | zero =>
  intro listed a w _ hr hy H
  refine⟨fun h=>(by rw[h]at hr;cases hr),fun j hj=>?_⟩
  by_cases Kc:j=i
  ·subst Kc;exact hy.wpOp hi trivial ⟨fun h=>absurd quu h,H⟩
  ·have := ready_mono hj Kc
   rw[H.1]at this;cases this
 | succ fuel ih =>
  intro listed a w bX hr hy H
  refine⟨fun h=>(by rw[h]at hr;cases hr),fun j hj=>?_⟩
  by_cases Kc:j=i
  ·subst Kc;exact hy.wpOp hi trivial ⟨fun h=>absurd quu h,H⟩
  ·have h1:=H.2 j (ready_mono hj Kc)
   obtain⟨aZ,oj,Pw,Ht⟩:=mem_ready.1 hj
   have rU:∀ k,listed.getD k false=true->listed.getD k true=true:=fun k hk=>by
    rcases Nat.lt_or_ge k listed.size with h' | h'
    ·simpa [h'] using hk
    ·simp[Array.getElem?_eq_none h']
   have S0:∀ e∈oj.after,Region.binds md e=true->e.on≠i:=fun e he hb A2=>by
    have h1:=Ht e he hb;have h0:=(mem_ready.1 hr).1;rw[A2]at h1;have := rU _ h1;rw[h0]at this;cases this
   have h2:=wpOp_putIf Pw (bX j oj Pw Kc aZ S0) (fun cs b=>cJ i oi cs b hi) (fun cs b=>cJ j oj cs b Pw) hQ hy h1
   have uB:∀ k ok,ops[k]?=some ok->k≠i->(listed.setIfInBounds j true).getD k true=false →
     (∀ e∈ok.after,Region.binds md e=true->e.on≠i)->oi.apart ops ok=true:=fun k ok hk Mp Sy Eg=>by
    refine bX k ok hk Mp ?_ Eg
    by_cases Sb:j=k
    ·subst Sb;exact aZ
    ·rw[getD_set_ne true Sb]at Sy;exact Sy
   refine wpOp_mono (fun a' w' h3=>⟨h3.2.1,ih (listed.setIfInBounds j true) a' w' uB (ready_mono hr (Ne.symm Kc)) h3.1 ?_⟩) h2;rw[Array.setIfInBounds_comm _ _ Kc];exact h3.2.2
theorem zeo {i:Nat} {oi:Oper} {v:Value} {fuel:Nat} {listed:Array Bool} {a:Act} {w:World} (d:Option Tmp) (hi:ops[i]?=some oi) (hd:oi.dst=d)
  (hs:Region.noSelect ops=true) (hf:Region.free md ops listed i=true) (hr:(Region.ready md ops listed).contains i=true) (hD:D.contains i=true)
  (hQ:∀ c a w,Q (.panic c) (a.put d v) w->Q (.panic c) a w) (hy:YieldsIf P ops (fun _=>True) oi v a)
  (h:By P md ops Q S D fuel (listed.setIfInBounds i true) (a.put d v) w):By P md ops Q S D (fuel+1) listed a w:=by
 subst hd;exact zrg hi (Region.noSelect_spec hs) hQ (by simpa using hD) fuel listed a w (Region.free_spec hi hf) (by simpa using hr) hy h
end
end Go.Proofs.YtlldjmagbjjeoaaGreatDoor
