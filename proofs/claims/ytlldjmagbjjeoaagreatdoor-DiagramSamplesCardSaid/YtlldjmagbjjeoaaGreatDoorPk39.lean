/- Contracts and plain laws, several texts in one (DBuildW). No conditions beyond those stated. -/
import Derived.Test.YtlldjmagbjjeoaaGreatDoorPk38
set_option maxRecDepth 100000
set_option maxHeartbeats 40000000
namespace Go.Proofs.YtlldjmagbjjeoaaGreatDoor
open Go.RowKit
set_option linter.unusedVariables false
def U5 (d:Nat->Bool):Array Bool:=#[true,true,true,d 3,true,true,d 6,d 7,d 8,d 9,d 10,false]
def J6:List Nat:=[3,6,7,8,10,9]
theorem zkf (d:Nat->Bool) {i:Nat} (hi:i∈J6) (h:(U5 d).getD i true=false):d i=false:=by
 unfold J6 at hi;simp only[List.mem_cons,List.not_mem_nil,or_false]at hi
 rcases hi with rfl | rfl | rfl | rfl | rfl | rfl<;>exact h
theorem zr1 {md:Region.Mode} {ops:Array Oper} (d:Nat->Bool) (h:((!(Region.ready md ops (U5 d)).isEmpty) && (Region.ready md ops (U5 d)).all fun i=>J6.contains i)=true):Region.ready md ops (U5 d)≠[]/\∀ i∈Region.ready md ops (U5 d),i∈J6/\d i=false:=by
 rw[Bool.and_eq_true]at h;refine⟨fun e=>by rw[e]at h;simp at h,fun i hi=>?_⟩;have h1:=List.all_eq_true.1 h.2 i hi
 have h2:i∈J6:=by simpa using h1
 exact⟨h2,zkf d h2 (mem_ready.1 hi).1⟩
theorem qir (K:Nat) (v:Value) (es:List Gx) (g:Nat->Xv) (w:World) (hv:Au 9 (fun i j=>(g i).cell j) K w v es.length) (hx:∀ (i:Nat) (a:Gx),es[i]?=some a->ExG K w a (g i)) (Pn:∀ a∈es,a.good=true) (qr6:∀ a∈es,a.parts<=2^20) (hK:K<=w.heap.size)
  (qe5:es.length<=40) (scs:List Sc) (Cd:Oc es=(scs,0)) (Ay:kH scs) (Tm:scs.length<=2^20) (zbj:Gd (pcs scs)<=8192) (In:Pe K w) :
  Calls Tryz.prog 14 #[v] w fun e w'=>∃ y:Dv,e=.returned (.tuple #[y.agg,.int .i64 0])/\(∀ W,An w.heap.size w' W->DgX W.heap.size W y scs (tgt (lfS scs es) (pcs scs) 0 [] DSt.no).2 (tgt (lfS scs es) (pcs scs) 0 [] DSt.no).1)/\Below w.heap.size w w':=by
 obtain⟨va,vm,rfl,Mr,Mn⟩:=hv.form;obtain⟨m,hm⟩:=Ae es.length;obtain⟨n,hn⟩:=Ae scs.length;rw[hm]at hv Mr qe5 ⊢;rw[hn]at Tm;obtain⟨W1,Ah⟩:=Ae (w.alloc (.cells #[.slice none 0 0,.slice none 0 0,.slice none 0 0,.int .i64 0] 31))
 have b1:Below w.heap.size w W1:=by rw[<- Ah];exact Af _ _
 have q1:Blk W1 w.heap.size #[.slice none 0 0,.slice none 0 0,.slice none 0 0,.int .i64 0] 31:=by rw[<- Ah];exact Blk.new w _ _
 have s1:W1.heap.size=w.heap.size+1:=by rw[<- Ah];simp
 obtain⟨T,hT⟩:=Ae w.heap.size;have HT:=Aa hT;have HW:=Aa Ah;rw[hT]at b1 q1 s1 hK ⊢;have hs:=qnc K (.slice va m vm) es g W1 (by rw[hm];exact hv.below b1 hK (Ab _)) (fun i a ha=>(hx i a ha).below b1 hK (Ab _)) Pn (by omega);rw[Cd]at hs;have HS:=Aa hs;have HV:=Aa hv;have HX:=Aa hx;have HM:=Aa hm;have HN:=Aa hn;have HG:=Aa Pn;have nV:=Aa qr6;have J5:=Aa Ay;have Rl:=Aa In;have Bi:=Aa b1;have Bc:=Aa q1;have S1:=Aa s1;have oD:=Aa zbj
 have jaa:decide ((40:Int)<(m:Int))=false:=by simp;omega
 unfold maxLen at Mn;clear hv hx Pn qr6 Ay In b1 q1 s1 hs Cd hm hn hT Ah zbj;go_enter Tryz.func14,Tryz.ntmps14
 go_upto_region 1 with fail
 simp only[HT.out];rw[HW.out];go_wp2_with fail
 refine HS.out.mono ?_;clear HS;rintro en w2 ⟨lv,rfl,C0,Ai⟩;have Hg:=C0.read;obtain⟨sa,sm,rfl,X8,Hm⟩:=Hg.form;rw[HN.out]at Hg X8 C0 ⊢;have zry:=Aa C0.zed;have Nl:=Aa Hg;have Bz:=Aa Ai
 have Az:T+1<=w2.heap.size:=by have := Ai.size;have := S1.out;omega
 clear Hg Ai C0
 go_upto_region 6 with fail
 have Fs:=zob n (by omega);have vB:K<=T:=hK;refine Fz (fun _=>True) [] (by kernel_rfl) ?_;refine Am (i:=0) (v:=.slice sa n sm) rfl trivial ?_;refine Am (i:=1) (v:=.agg #[.slice sa n sm,.slice none 0 0,.slice none 0 0,.int .i64 0]) rfl trivial ?_;refine Am (i:=2) (v:=.slice sa n sm) rfl trivial ?_;refine Am (i:=4) (v:=.slice sa n sm) rfl trivial ?_;refine Am (i:=5) (v:=.int .i64 n) rfl trivial ?_;have Yt:∃ AA:(Nat->Value)->Act,AA=(fun x=>{ tmps:=List.toArray (.slice va m vm::undef::.pointer (some ⟨T,0,none⟩)::.int .i64 0::.slice sa n sm::.int .i64 0::x 10::undef::undef::undef::undef::undef::.slice va m vm::.int .i64 m::.bool false::undef::.tuple #[.slice sa n sm,.int .i64 0]::.slice va m vm::.tuple #[.slice sa n sm,.int .i64 0]::.slice sa n sm::.int .i64 0::.int .i64 0::.bool false::undef::undef::.slice sa n sm::.agg #[.slice sa n sm,.slice none 0 0,.slice none 0 0,.int .i64 0]::.slice sa n sm::x 3::.slice sa n sm::.int .i64 n::x 6::x 7::x 8::x 9::undef::undef::undef::undef::undef::undef::undef::undef::undef::undef::undef::undef::undef::undef::undef::undef::undef::undef::undef::undef::undef::undef::undef::undef::undef::undef::undef::undef::undef::undef::undef::undef::undef::undef::[]),defers:=[] }):=⟨_,rfl⟩;obtain⟨AA,Yt⟩:=Yt;refine zkr (J:=J6) (by decide) U5 AA (fun d x W=>∃ bk lo hi gv,Ti scs n w2.heap.size w2 d x bk lo hi gv W/\w2.heap.size<=W.heap.size/\(d 9=true->x 9=.agg #[.slice sa n sm,.slice none 0 0,.slice none 0 0,.int .i64 0,.slice none 0 0,x 3,x 6,x 7,x 8]/\d 3=true/\d 6=true/\d 7=true/\d 8=true)) (fuel0:=1) (by kernel_rfl) (by rw[Yt];rfl) rfl ?_ ?_ ?_ ?_ ?_
 ·exact⟨fun _=>0,0,0,fun _=>undef,⟨Er (Below.refl _ _),fun j _ h=>(by cases h),fun i j _ _ _ h=>(by cases h),fun h=>(by cases h),fun h=>(by cases h),fun h=>(by cases h),fun h=>(by cases h),fun h=>(by cases h),fun h=>(by cases h)⟩,Ab _,fun h=>(by cases h)⟩
 ·intro d j hj
  unfold J6 at hj;simp only[List.mem_cons,List.not_mem_nil,or_false]at hj
  rcases hj with rfl | rfl | rfl | rfl | rfl | rfl<;>rfl
 ·intro d Za
  refine zr1 d ?_
  have jA:(d 3 && d 6 && d 7 && d 8 && d 9 && d 10)=false:=by
   obtain⟨j,hj,zhp⟩:=Za;unfold J6 at hj;simp only[List.mem_cons,List.not_mem_nil,or_false]at hj
   rcases hj with rfl | rfl | rfl | rfl | rfl | rfl<;>simp[zhp]
  have hl:U5 d=#[true,true,true,d 3,true,true,d 6,d 7,d 8,d 9,d 10,false]:=rfl;rw[hl];clear hl Za
  generalize d 3=b3 at jA ⊢
  generalize d 6=b6 at jA ⊢
  generalize d 7=b7 at jA ⊢
  generalize d 8=b8 at jA ⊢
  generalize d 9=b9 at jA ⊢
  generalize d 10=b10 at jA ⊢
  clear Yt
  cases b3<;>cases b6<;>cases b7<;>cases b8<;>cases b9<;>cases b10<;>first | (exact absurd jA (by decide)) | (show(_:Bool)=true;kernel_rfl)
 ·intro d x W hI j hj hd zct
  obtain⟨bk,lo,hi,gv,Ir,Qr,h9⟩:=hI;unfold J6 at hj;simp only[List.mem_cons,List.not_mem_nil,or_false]at hj
  rcases hj with rfl | rfl | rfl | rfl | rfl | rfl
  ·refine⟨_,rfl,rfl,?_⟩
   suffices h:∀ KK:Act->World->Prop,(∀ v W',(∃ bk lo hi gv,Ti scs n w2.heap.size w2 (Ef d 3) (Du x 3 v) bk lo hi gv W'/\w2.heap.size<=W'.heap.size/\(Ef d 3 9=true->Du x 3 v 9=.agg #[.slice sa n sm,.slice none 0 0,.slice none 0 0,.int .i64 0,.slice none 0 0,Du x 3 v 3,Du x 3 v 6,Du x 3 v 7,Du x 3 v 8]/\Ef d 3 3=true/\Ef d 3 6=true/\Ef d 3 7=true/\Ef d 3 8=true))->KK (AA (Du x 3 v)) W')->Oper.wp Tryz.prog _ _ W KK _ from h _ fun v W' Vf=>⟨fun _=>trivial,v,rfl,Vf⟩
   intro KK Hb
   rw[Yt]at Hb ⊢;go_simp
   refine(qhn w2.heap.size (.slice sa n sm) scs W (Nl.out.below Ir.bel (Ab _) (Ab _)) (fun s hs=>⟨(J5.out s hs).1,(J5.out s hs).2.1⟩) (by rw[HN.out];exact Tm) Qr).mono ?_;rintro en w3 ⟨pv,pvs,pF,rfl,Eg,Ak⟩;have hz:=NO.zed Eg
   have Cc:(scs.map Bf).length=n:=by rw[List.length_map];exact HN.out
   obtain⟨pa,pc,Sm,_,_⟩:=Eg.own.form;rw[List.length_zipWith,Eg.len,Nat.min_self,Cc]at Sm;rw[Cc]at hz;exact Hb pv w3 ⟨bk,_,_,_,Ir.poss Qr ⟨pa,pc,Sm⟩ Ak hz,Nat.le_trans Qr Ak.size,fun e9=>by rw[Le d (by decide)]at e9;rw[(h9 e9).2.1]at hd;cases hd⟩
  ·refine⟨_,rfl,rfl,?_⟩
   suffices h:∀ KK:Act->World->Prop,(∀ v W',(∃ bk lo hi gv,Ti scs n w2.heap.size w2 (Ef d 6) (Du x 6 v) bk lo hi gv W'/\w2.heap.size<=W'.heap.size/\(Ef d 6 9=true->Du x 6 v 9=.agg #[.slice sa n sm,.slice none 0 0,.slice none 0 0,.int .i64 0,.slice none 0 0,Du x 6 v 3,Du x 6 v 6,Du x 6 v 7,Du x 6 v 8]/\Ef d 6 3=true/\Ef d 6 6=true/\Ef d 6 7=true/\Ef d 6 8=true))->KK (AA (Du x 6 v)) W')->Oper.wp Tryz.prog _ _ W KK _ from h _ fun v W' Vf=>⟨fun _=>trivial,v,rfl,Vf⟩
   intro KK Hb
   rw[Yt]at Hb ⊢;go_simp
   exact Hb (.slice (some ⟨W.heap.size,0,none⟩) n n) (W.alloc (.cells (Kf n fun _=>.int .i64 0) 3)) ⟨_,_,_,_,Ir.add Qr (j:=6) (by decide) (.slice (some ⟨W.heap.size,0,none⟩) n n) (.cells (Kf n fun _=>.int .i64 0) 3) (fun e=>⟨rfl,rfl⟩) (fun e=>absurd e (by decide)) (fun e=>absurd e (by decide)) (fun e=>absurd e (by decide)),by simp;omega,fun e9=>by rw[Le d (by decide)]at e9;rw[(h9 e9).2.2.1]at hd;cases hd⟩
  ·refine⟨_,rfl,rfl,?_⟩
   suffices h:∀ KK:Act->World->Prop,(∀ v W',(∃ bk lo hi gv,Ti scs n w2.heap.size w2 (Ef d 7) (Du x 7 v) bk lo hi gv W'/\w2.heap.size<=W'.heap.size/\(Ef d 7 9=true->Du x 7 v 9=.agg #[.slice sa n sm,.slice none 0 0,.slice none 0 0,.int .i64 0,.slice none 0 0,Du x 7 v 3,Du x 7 v 6,Du x 7 v 7,Du x 7 v 8]/\Ef d 7 3=true/\Ef d 7 6=true/\Ef d 7 7=true/\Ef d 7 8=true))->KK (AA (Du x 7 v)) W')->Oper.wp Tryz.prog _ _ W KK _ from h _ fun v W' Vf=>⟨fun _=>trivial,v,rfl,Vf⟩
   intro KK Hb
   rw[Yt]at Hb ⊢;go_simp
   exact Hb (.map (some W.heap.size)) (W.alloc (.map #[] 0)) ⟨_,_,_,_,Ir.add Qr (j:=7) (by decide) (.map (some W.heap.size)) (.map #[] 0) (fun e=>absurd e (by decide)) (fun e=>⟨rfl,rfl⟩) (fun e=>absurd e (by decide)) (fun e=>absurd e (by decide)),by simp;omega,fun e9=>by rw[Le d (by decide)]at e9;rw[(h9 e9).2.2.2.1]at hd;cases hd⟩
  ·refine⟨_,rfl,rfl,?_⟩
   suffices h:∀ KK:Act->World->Prop,(∀ v W',(∃ bk lo hi gv,Ti scs n w2.heap.size w2 (Ef d 8) (Du x 8 v) bk lo hi gv W'/\w2.heap.size<=W'.heap.size/\(Ef d 8 9=true->Du x 8 v 9=.agg #[.slice sa n sm,.slice none 0 0,.slice none 0 0,.int .i64 0,.slice none 0 0,Du x 8 v 3,Du x 8 v 6,Du x 8 v 7,Du x 8 v 8]/\Ef d 8 3=true/\Ef d 8 6=true/\Ef d 8 7=true/\Ef d 8 8=true))->KK (AA (Du x 8 v)) W')->Oper.wp Tryz.prog _ _ W KK _ from h _ fun v W' Vf=>⟨fun _=>trivial,v,rfl,Vf⟩
   intro KK Hb
   rw[Yt]at Hb ⊢;go_simp
   exact Hb (.map (some W.heap.size)) (W.alloc (.map #[] 0)) ⟨_,_,_,_,Ir.add Qr (j:=8) (by decide) (.map (some W.heap.size)) (.map #[] 0) (fun e=>absurd e (by decide)) (fun e=>absurd e (by decide)) (fun e=>⟨rfl,rfl⟩) (fun e=>absurd e (by decide)),by simp;omega,fun e9=>by rw[Le d (by decide)]at e9;rw[(h9 e9).2.2.2.2]at hd;cases hd⟩
  ·refine⟨_,rfl,rfl,?_⟩
   suffices h:∀ KK:Act->World->Prop,(∀ v W',(∃ bk lo hi gv,Ti scs n w2.heap.size w2 (Ef d 10) (Du x 10 v) bk lo hi gv W'/\w2.heap.size<=W'.heap.size/\(Ef d 10 9=true->Du x 10 v 9=.agg #[.slice sa n sm,.slice none 0 0,.slice none 0 0,.int .i64 0,.slice none 0 0,Du x 10 v 3,Du x 10 v 6,Du x 10 v 7,Du x 10 v 8]/\Ef d 10 3=true/\Ef d 10 6=true/\Ef d 10 7=true/\Ef d 10 8=true))->KK (AA (Du x 10 v)) W')->Oper.wp Tryz.prog _ _ W KK _ from h _ fun v W' Vf=>⟨fun _=>trivial,v,rfl,Vf⟩
   intro KK Hb
   rw[Yt]at Hb ⊢;go_simp
   exact Hb (.pointer (some ⟨W.heap.size,0,none⟩)) (W.alloc (.cells #[.slice none 0 0,.slice none 0 0,.slice none 0 0,.int .i64 0,.slice none 0 0,.slice none 0 0,.slice none 0 0,.map none,.map none] 89)) ⟨_,_,_,_,Ir.add Qr (j:=10) (by decide) (.pointer (some ⟨W.heap.size,0,none⟩)) (.cells #[.slice none 0 0,.slice none 0 0,.slice none 0 0,.int .i64 0,.slice none 0 0,.slice none 0 0,.slice none 0 0,.map none,.map none] 89) (fun e=>absurd e (by decide)) (fun e=>absurd e (by decide)) (fun e=>absurd e (by decide)) (fun e=>⟨rfl,rfl⟩),by simp;omega,fun e9=>by
    rw[Le d (by decide)]at e9;obtain⟨g1,g2,g3,g4,g5⟩:=h9 e9;rw[Oh x _ (by decide),Oh x _ (by decide),Oh x _ (by decide),Oh x _ (by decide),Oh x _ (by decide),Le d (by decide),Le d (by decide),Le d (by decide),Le d (by decide)]
    exact⟨g1,g2,g3,g4,g5⟩⟩
  ·refine⟨_,rfl,rfl,?_⟩
   suffices h:∀ KK:Act->World->Prop,(∀ v W',(∃ bk lo hi gv,Ti scs n w2.heap.size w2 (Ef d 9) (Du x 9 v) bk lo hi gv W'/\w2.heap.size<=W'.heap.size/\(Ef d 9 9=true->Du x 9 v 9=.agg #[.slice sa n sm,.slice none 0 0,.slice none 0 0,.int .i64 0,.slice none 0 0,Du x 9 v 3,Du x 9 v 6,Du x 9 v 7,Du x 9 v 8]/\Ef d 9 3=true/\Ef d 9 6=true/\Ef d 9 7=true/\Ef d 9 8=true))->KK (AA (Du x 9 v)) W')->Oper.wp Tryz.prog _ _ W KK _ from h _ fun v W' Vf=>⟨fun _=>trivial,v,rfl,Vf⟩
   intro KK Hb
   rw[Yt]at Hb ⊢;obtain⟨_,oj,Pw,Ht⟩:=mem_ready.1 zct;cases Pw
   have d3:d 3=true:=Ht ⟨3,.data⟩ (by simp) rfl;have d6:d 6=true:=Ht ⟨6,.data⟩ (by simp) rfl;have d7:d 7=true:=Ht ⟨7,.data⟩ (by simp) rfl;have d8:d 8=true:=Ht ⟨8,.data⟩ (by simp) rfl;obtain⟨⟨pa,pc,Tk⟩,_⟩:=Ir.c3 d3;have Wt:=(Ir.c6 d6).1;have Zy:=(Ir.c7 d7).1;have lI:=(Ir.c8 d8).1;dsimp only;rw[Tk,Wt,Zy,lI];go_simp
   have hk:=Hb (.agg #[.slice sa n sm,.slice none 0 0,.slice none 0 0,.int .i64 0,.slice none 0 0,.slice pa n pc,.slice (some ⟨bk 6,0,none⟩) n n,.map (some (bk 7)),.map (some (bk 8))]) W ⟨bk,lo,hi,gv,Ir.nine _,Qr,fun _=>by
    rw[yN,Oh x _ (show 3≠9 by decide),Oh x _ (show 6≠9 by decide),Oh x _ (show 7≠9 by decide),Oh x _ (show 8≠9 by decide),Tk,Wt,Zy,lI,Le d (show 3≠9 by decide),Le d (show 6≠9 by decide),Le d (show 7≠9 by decide),Le d (show 8≠9 by decide)]
    exact⟨rfl,d3,d6,d7,d8⟩⟩
   dsimp only at hk;rw[yN,Oh x _ (show 3≠9 by decide),Oh x _ (show 6≠9 by decide),Oh x _ (show 7≠9 by decide),Oh x _ (show 8≠9 by decide),Oh x _ (show 10≠9 by decide),Tk,Wt,Zy,lI]at hk;exact hk
 ·intro d x W hI Ht
  obtain⟨bk,lo,hi,gv,Ir,Qr,h9⟩:=hI;have d3:=Ht 3 (by decide);have d6:=Ht 6 (by decide);have d7:=Ht 7 (by decide);have d8:=Ht 8 (by decide);have d9:=Ht 9 (by decide);have d10:=Ht 10 (by decide);have qs2:=(h9 d9).1;obtain⟨⟨pa,pc,Tk⟩,qey⟩:=Ir.c3 d3;simp only[Tk]at qey;obtain⟨Wt,q6⟩:=Ir.c6 d6;obtain⟨Zy,q7⟩:=Ir.c7 d7;obtain⟨lI,q8⟩:=Ir.c8 d8;obtain⟨qt2,q10⟩:=Ir.c10 d10
  have hl:U5 d=#[true,true,true,true,true,true,true,true,true,true,true,false]:=by unfold U5;rw[d3,d6,d7,d8,d9,d10]
  rw[hl,Yt];dsimp only;rw[qs2,qt2,Tk,Wt,Zy,lI];refine Ap (i:=11) rfl ?_;refine eH 89 89 (.tmp 6) (.tmp 34) rfl #[.slice sa n sm,.slice none 0 0,.slice none 0 0,.int .i64 0,.slice none 0 0,.slice pa n pc,.slice (some ⟨bk 6,0,none⟩) n n,.map (some (bk 7)),.map (some (bk 8))] _ (bk 10) q10 zse rfl (by simp[Value.oneCell']) rfl rfl ?_;intro W3 t1 t2 t3 t4
  refine⟨fun _=>trivial,?_⟩;refine Eo (by kernel_rfl) ?_ _;go_simp
  have r10:=Ir.rng 10 (by decide) d10;have r6:=Ir.rng 6 (by decide) d6;have r7:=Ir.rng 7 (by decide) d7;have r8:=Ir.rng 8 (by decide) d8;have n1:=Ir.dis 10 6 (by decide) (by decide) (by decide) d10 d6;have n2:=Ir.dis 10 7 (by decide) (by decide) (by decide) d10 d7;have n3:=Ir.dis 10 8 (by decide) (by decide) (by decide) d10 d8;have n4:=Ir.dis 6 7 (by decide) (by decide) (by decide) d6 d7;have n5:=Ir.dis 6 8 (by decide) (by decide) (by decide) d6 d8;have n6:=Ir.dis 7 8 (by decide) (by decide) (by decide) d7 d8;obtain⟨o1,o2,o3,o4⟩:=Ir.out d3;have p10:=o4 10 (by decide) d10;have p6:=o4 6 (by decide) d6;have p7:=o4 7 (by decide) d7;have p8:=o4 8 (by decide) d8;have Va:=Ir.bel;obtain⟨bb,Jj⟩:∃ b,bk 10=b:=⟨_,rfl⟩;obtain⟨cb,Fx⟩:∃ b,bk 6=b:=⟨_,rfl⟩;obtain⟨nm,Vz⟩:∃ b,bk 7=b:=⟨_,rfl⟩;obtain⟨lm,Jw⟩:∃ b,bk 8=b:=⟨_,rfl⟩;rw[Jj]at r10 n1 n2 n3 p10 t1 t2 t3;rw[Fx]at r6 n1 n4 n5 p6 t1 q6;rw[Vz]at r7 n2 n4 n6 p7 t1 q7;rw[Jw]at r8 n3 n5 n6 p8 t1 q8;rw[Jj,Fx,Vz,Jw]
  have Kk:∀ b,b≠bb->W3.heap[b]?=W.heap[b]? := fun b hb=>by
   by_cases h:b<W.heap.size
   ·exact t3.block b h (by simpa using hb)
   ·rw[Array.getElem?_eq_none (by omega),Array.getElem?_eq_none (by omega)]
  have qc3:Blk W3 cb (Kf n fun _=>.int .i64 0) 3:=(Kk cb n1.symm).trans q6;have qn3:Ek W3 9 nm 0 (fun _=>none):=q7.kept t3 (by simpa using n2.symm);have ql3:Ek W3 9 lm 0 (fun _=>none):=q8.kept t3 (by simpa using n3.symm);have qqv:=qey.move (w':=W3) (Agr.of fun b hb=>Kk b (by have := hb.1;have := hb.2;omega));have qvy:Below w2.heap.size w2 W3:=Va.trans (t2 _ r10.1);have E8:=Aa t1;have zm9:=Aa qc3;have zjm:=Aa qn3;have Lg:=Aa ql3;have yW:=Aa qqv;have zrm:=Aa qvy;have hL:W3.heap.size=W.heap.size:=t4;obtain⟨L,qul⟩:=Ae W3.heap.size;have K7:=Aa qul;have Qh:Hid ((w2.heap.size<=bb/\bb<L)/\(w2.heap.size<=cb/\cb<L)/\(w2.heap.size<=nm/\nm<L)/\(w2.heap.size<=lm/\lm<L)):=Aa (by omega);have Rw:Hid (bb≠cb/\bb≠nm/\bb≠lm/\cb≠nm/\cb≠lm/\nm≠lm):=Aa ⟨n1,n2,n3,n4,n5,n6⟩;have Yc:Hid (w2.heap.size<=lo/\lo<=hi/\hi<=L/\(bb<lo\/hi<=bb)/\(cb<lo\/hi<=cb)/\(nm<lo\/hi<=nm)/\(lm<lo\/hi<=lm)):=Aa ⟨o1,o2,by omega,p10,p6,p7,p8⟩
  have qhw:Hid (∀ p∈pcs scs,p≠[]):=Aa fun p hp=>by
   unfold pcs at hp;obtain⟨s,hs,rfl⟩:=List.mem_map.1 hp;exact(J5.out s hs).2.2.1
  have L8:(pcs scs).length=n:=by unfold pcs;rw[List.length_map];exact HN.out
  have Ja:=Aa L8;have c5:W3.cell? ⟨bb,5,none⟩=some (.slice pa n pc):=E8.out.at rfl;have aT:Gd ((pcs scs).take 0)=1:=rfl;have pZ:=Aa aT;clear Ir h9 qs2 Tk Wt Zy lI qt2 qey q6 q7 q8 q10 hl d3 d6 d7 d8 d9 d10 Ht Qr t1 t2 t3 t4 r10 r6 r7 r8 n1 n2 n3 n4 n5 n6 o1 o2 o3 o4 p10 p6 p7 p8 Va Jj Fx Vz Jw Kk qc3 qn3 ql3 qqv qvy hL qul L8 aT Yt
  apply (show ∀ (a:Act) (w:World),_->_ from by assumption)
  go_wp2_with fail
  go_loopw [7,38] (fun rv iv wr=>W3=wr/\∃ i:Nat,i<=n/\rv=.int .i64 (Gd ((pcs scs).take i):Nat)/\iv=.int .i64 i) (fun _ iv _=>n-(intOf iv).toNat)
  case atStart=>exact⟨rfl,0,Nat.zero_le _,by rw[pZ.out];rfl,rfl⟩
  case round =>
   obtain⟨rfl,i,Fj,rfl,rfl⟩:=hrel
   by_cases Aj:i<n
   ·obtain⟨qsa,v6⟩:=yW.out.get fun b hb=>by have := hb.2;have := Yc.out.2.2.1;have := K7.out;omega
    obtain⟨pb,po,pcap,he,_,_,_,qy1⟩:=qsa.pos (by omega);simp only[Value.slice.injEq,true_and]at he;obtain⟨rfl,rfl⟩:=he;obtain⟨pp,J7⟩:∃ pp,(pcs scs)[i]?=some pp:=⟨_,Ac (by rw[Ja.out];exact Aj)⟩;have Qf:=v6 i Aj;rw[J7,Option.getD_some]at Qf;obtain⟨ga,gc,Nn,_,_⟩:=Qf.form;obtain⟨k,hk⟩:=Ae pp.length;rw[hk]at Nn
    have e1:W3.cell? ⟨pb,po+i,none⟩=some (.slice ga k gc):=by have := qy1 i Aj 0 (by omega);rw[Nn]at this;simpa using this
    have Rh:Gd ((pcs scs).take (i+1))=Gd ((pcs scs).take i)*k:=by rw[Q0 J7,qmg,hk]
    have Bt:=Nat.le_trans (qxc qhw.out (i+1)) oD.out;obtain⟨q1,Lv⟩:∃ q,Gd ((pcs scs).take i)=q:=⟨_,rfl⟩;obtain⟨q2,Dz⟩:∃ q,Gd ((pcs scs).take (i+1))=q:=⟨_,rfl⟩;rw[Dz]at Rh Bt;rw[Lv]at Rh ⊢
    have hw:IntKind.i64.wrap ((q1:Int)*(k:Int))=(q2:Int):=by rw[Rh,Int.natCast_mul];exact IntWalk.i64_in _ (by rw[<- Int.natCast_mul,<- Rh];omega)
    have qc9:decide ((8192:Int)<(q2:Int))=false:=decide_eq_false (by omega);have Bw:=Aa Dz;clear qsa v6 qy1 Qf J7 hk Nn Rh Bt Lv Dz;go_wp2_with fail
    exact⟨⟨trivial,i+1,by omega,by rw[Bw.out],by go_num⟩,by simp[intOf];omega⟩
   ·obtain rfl:i=n:=by omega
    clear Fj Aj;go_wp2_with fail
    have ztw:=HM.out;clear ztw;go_loopw [52] (fun iv wr=>∃ (j:Nat) (vs:List Value) (ca:Option Addr) (cm:Nat),j<=m/\iv=.int .i64 j/\Blk wr bb (j0 sa i sm (.slice ca j cm) pa pc cb nm lm) 89/\qy8 scs es L j ca cm vs wr/\L<=wr.heap.size/\Hid (Below w2.heap.size w2 wr)/\Hid (∀ b,b<L->b≠bb->wr.heap[b]?=W3.heap[b]?)) (fun iv _=>m-(intOf iv).toNat)
    case atStart=>exact⟨0,[],none,0,Nat.zero_le _,rfl,E8.out,⟨Be.nil _ _ _ _,rfl,fun i hi=>absurd hi (Nat.not_lt_zero i)⟩,by rw[K7.out];exact Ab _,zrm,Aa fun b _ _=>rfl⟩
    case round =>
     obtain⟨j,vs,ca,cm,hj,rfl,hq,dX,Fh,Ej,L9⟩:=hrel;obtain⟨wo,rfl⟩:∃ wo:World,wo=wr:=⟨_,rfl⟩;have HQ:=Aa hq;have Uv:=Aa dX
     by_cases Aj:j<m
     ·obtain⟨b,o,cap,he,_,_,Cj,hc⟩:=HV.out.pos (by omega)
      simp only[Value.slice.injEq,true_and]at he;obtain⟨rfl,rfl⟩:=he;have bTo:Below T w wo:=(Bi.out.trans (Bz.out.mono (by have := S1.out;omega))).trans (Ej.out.mono (by omega));have Ce:=qwz (Km bTo (by omega) hc) Aj;obtain⟨ea,Q4⟩:∃ a,es[j]?=some a:=⟨_,Ac (by rw[HM.out];exact Aj)⟩;have qgd:=HX.out j ea Q4;have qnu:ea∈es:=List.mem_of_getElem? Q4;obtain⟨y,hy⟩:=Ae (g j);rw[hy]at Ce qgd;have Df:Hid (∀ u∈y.cells,u.oneCell'=true):=Aa (by simp[Value.oneCell']);have t8:=yW.out.move (w':=wo) (Agr.of fun b hb=>L9.out b (by have := hb.2;have := Yc.out;omega) (by have := hb.1;have := hb.2;have := Yc.out;omega));have zm5:=Aa t8;have qjl:=Aa qgd;have qjr:=Aa Q4;have qti:=Aa qnu;have E6:=Aa bTo;clear hc hq dX hy qgd Q4 qnu t8 bTo
      go_upto_region 18 with(first
       | (refine wpList_load_mid rfl 43 (.tmp 54) rfl b (o+j*9) rfl y.cells.toList _ Ce Tryz.underlying43 rfl Xh ?_)
       | (refine Iu rfl 43 (.tmp 11) (.tmp 55) rfl y.cells _ Xh rfl Df.out wo.heap.size rfl rfl rfl ?_))
      obtain⟨A0,Kt⟩:=Ae wo.heap.size;obtain⟨W4,Fc⟩:∃ W,wo.alloc (.cells y.cells 43)=W:=⟨_,rfl⟩
      have b4:Below A0 wo W4:=by rw[<- Fc,<- Kt];exact Af _ _
      have q4:Blk W4 A0 y.cells 43:=by rw[<- Fc,<- Kt];exact Blk.new wo _ _
      have s4:W4.heap.size=A0+1:=by rw[<- Fc,<- Kt];simp
      rw[Kt];rw[Fc];have bM:=Qh.out
      have zs5:L<=A0:=by omega
      have qb4:Blk W4 bb (j0 sa i sm (.slice ca j cm) pa pc cb nm lm) 89:=HQ.out.below b4 (by omega);have qoz:Below w2.heap.size w2 W4.drew:=(Ej.out.trans (b4.mono (by omega))).trans (Er (Below.refl _ _));have K3:Below T w W4.drew:=(E6.out.trans (b4.mono (by omega))).trans (Er (Below.refl _ _))
      have Fi:A0+1<=W4.heap.size:=by omega
      have Qi:BC bb ⟨sa,i,sm⟩ ⟨pa,i,pc⟩ scs gv W4.drew.heap.size W4.drew:=by
       obtain⟨z1,z2⟩:=zm5.out W4.drew W4.heap.size (bH (b4.trans (Er (Below.refl _ _))) fun b hb=>by have := hb.2;have := Yc.out;omega) fun b hb=>by have := hb.2;have := Yc.out;omega
       refine⟨⟨_,qb4,rfl,rfl⟩,by show bb<W4.heap.size;omega,Nl.out.below qoz (Ab _) (by show w2.heap.size<=W4.heap.size;omega),by rw[HN.out];exact z1,fun k hk=>?_⟩;have := z2 k (by rw[<- HN.out];exact hk);unfold pcs at this;rw[List.getElem?_map,Ac hk]at this;rw[Ac hk];exact this
      have Dj:=ziv bb ⟨sa,i,sm⟩ ⟨pa,i,pc⟩ scs gv J5.out (by rw[HN.out];exact Tm) ea.parts ea (Ab _) (nV.out ea qti.out) (HG.out ea qti.out) y W4.drew Qi (qjl.out.below K3 vB (by show K<=W4.heap.size;omega));have Gm:=Aa Dj;have Io:=Aa q4;have qtp:=Aa qb4;have Ei:=Aa b4;have jC:=Aa Kt;have S4:=Aa s4
      have Hv:∀ r,(Value.slice ca j cm).ownBlock=some r->L<=r:=fun r hr=>Uv.out.own.low hr
      have Xd:∀ r,(Value.slice ca j cm).ownBlock=some r->r<A0:=fun r hr=>by have := Uv.out.own.lt hr;omega
      have Pm:=Aa Hv;have Tr:=Aa Xd;have qS:(fun W'=>Blk W' bb (j0 sa i sm (.slice ca j cm) pa pc cb nm lm) 89/\Blk W' A0 y.cells 43) W4.drew:=⟨qb4,q4⟩;clear Dj Qi Fc b4 q4 s4 Kt Ce Df qb4 qoz K3 Hv Xd;refine Fz (fun W'=>Blk W' bb (j0 sa i sm (.slice ca j cm) pa pc cb nm lm) 89/\Blk W' A0 y.cells 43) [7] (by kernel_rfl) ?_;refine Am (i:=0) (v:=.pointer (some ⟨bb,4,none⟩)) rfl qS ?_;refine Ar (i:=1) (v:=.slice ca j cm) rfl (.inl ⟨by kernel_rfl,fun W' hS=>by have u0:W'.cell? ⟨bb,4,none⟩=some (.slice ca j cm):=hS.1.at rfl;go_simp⟩) qS ?_;refine Ar (i:=2) (v:=y.agg) rfl (yieldsIf_load_mid (by kernel_rfl) 43 (.tmp 11) rfl A0 0 rfl y.cells.toList _ (fun W' hS=>hS.2.range) Tryz.underlying43 rfl Xh) qS ?_;refine Ap (i:=3) rfl ?_;go_simp
      refine Gm.out.mono ?_;rintro en w5 ⟨u,rfl,Pt,Aq⟩;have Aq:Below W4.heap.size W4.drew w5:=Aq;have b45:Below W4.heap.size W4 w5:=(Er (Below.refl _ _)).trans Aq;have qb5:=qtp.out.below b45 qtp.out.lt;have qa5:=Io.out.below b45 Io.out.lt;refine⟨⟨qb5,qa5⟩,?_⟩
      obtain⟨gg,caps,rfl,_,_⟩:=Pt.get fun b hb=>hb.2
      have Kg:=b45.size;have bA:Below A0 wo w5:=Ei.out.trans (b45.mono (by omega));have oJ:=Uv.out.own.old bA (by rw[jC.out];exact Ab _);have Bk:Below w5.heap.size w5 (w5.alloc (.cells #[.func (.func gg) #[] caps] 91)):=Af _ _;have qsp:Hid (Be 1 91 L (w5.alloc (.cells #[.func (.func gg) #[] caps] 91)) (.slice ca j cm) (vs.map fun u=>[u])):=Aa (oJ.old Bk (Ab _));obtain⟨RS,Gz⟩:=Ae (vs.map (fun u:Value=>[u]));have Hx:Hid (RS.length=j):=Aa (by rw[<- Gz,List.length_map];exact Uv.out.len);rw[Gz]at qsp;have Lw:=Aa Gz;have D6:Hid (Dg 1 [[.func (.func gg) #[] caps]]):=Aa (Dg.one rfl fun u hu=>by rw[List.mem_singleton.1 hu];rfl)
      have Pz:Hid (∀ (i:Nat) (r:List Value) (jj:Nat) (u:Value),([[.func (.func gg) #[] caps]]:List (List Value))[i]?=some r->r[jj]?=some u->(w5.alloc (.cells #[.func (.func gg) #[] caps] 91)).cell? ⟨w5.heap.size,0+(i*1+jj),none⟩=some u):=Aa fun i r jj u h1 h2=>by
       have Jo:i=0:=by have := (List.getElem?_eq_some_iff.1 h1).1;simp at this;omega
       subst Jo;cases h1
       have Jb:jj=0:=by have := (List.getElem?_eq_some_iff.1 h2).1;simp at this;omega
       subst Jb;cases h2
       exact(Blk.new w5 #[.func (.func gg) #[] caps] 91).at rfl
      have zxb:=Aa Pt;have tO:=Aa bA;have qjm:=Aa b45;have qb6:=qb5.alloc (.cells #[.func (.func gg) #[] caps] 91);have qa6:=qa5.alloc (.cells #[.func (.func gg) #[] caps] 91)
      have jag:L<=w5.heap.size:=by omega
      clear Gz Pt bA oJ Bk b45 Aq qS;refine Ap (i:=4) rfl ?_;go_simp
      refine Ap (i:=5) rfl ?_;refine pV (.tmp 57) (.tmp 60) 87 rfl Tryz.underlying87 qu7 (by kernel_rfl) (by decide) (by simp[Act.eval]) qsp.out (b:=w5.heap.size) (off:=0) (m:=1) (cap:=1) (ms:=[[.func (.func gg) #[] caps]]) (by simp[Act.eval]) rfl D6.out Pz.out (by decide) (by rw[Hx.out];simp[maxLen];omega) (by rw[Hx.out];omega) (by simp;omega) ?_;intro g1 cap1 w7 qa1 Qx jL
      have qb7:=qb6.kept Qx (fun e=>by have := Pm.out bb e.symm;omega);have qa7:=qa6.kept Qx (fun e=>by have := Tr.out A0 e.symm;omega);refine⟨fun _=>⟨qb7,qa7⟩,?_⟩;refine Am (i:=6) (v:=.pointer (some ⟨bb,4,none⟩)) rfl ⟨qb7,qa7⟩ ?_;have u7:w7.cell? ⟨bb,4,none⟩=some (.slice ca j cm):=qb7.at rfl;have f7:w7.frozen? ⟨bb,4,none⟩=false:=qb7.free 4;refine Ap (i:=7) rfl ?_;go_simp
      refine Eo (by kernel_rfl) ?_ _;go_simp
      have zvs:=Aa Qx;have V9:=Aa jL;have yM:=Aa qa1;have zo2:=Aa qb7;clear Qx jL qa1 qb7 qa7 u7 f7 qb5 qa5 qb6 qa6
      apply (show ∀ (a:Act) (w:World),_->_ from by assumption)
      go_wp2_with fail
      have Qx:=zvs.out;have jL:=V9.out;have ztv:=Qx.size;rw[World.size_alloc]at ztv;have bM:=Qh.out
      have zs5:L<=A0:=by omega
      have wS:L<=g1:=by
       rcases jL with h | h
       ·exact Pm.out g1 h
       ·rw[World.size_alloc]at h;omega
      have gZ:Below wo.heap.size wo (w5.alloc (.cells #[.func (.func gg) #[] caps] 91)):=by rw[jC.out];exact tO.out.alloc (by have := tO.out.size;have := jC.out;omega) _
      have nJ:(w7.setCell ⟨bb,4,none⟩ (.slice (some ⟨g1,0,none⟩) (RS.length+1) cap1)).heap.size=w7.heap.size:=by simp[World.setCell]
      have Kk:∀ b,b≠bb->(w7.setCell ⟨bb,4,none⟩ (.slice (some ⟨g1,0,none⟩) (RS.length+1) cap1)).heap[b]?=w7.heap[b]? := fun b hb=>Below.heap_setCell _ _ _ _ hb
      have iE:∀ R,Zed (Frz L w7.heap.size (.slice (some ⟨g1,0,none⟩) (RS.length+1) cap1)) w7 R->Zed (Frz L (w7.setCell ⟨bb,4,none⟩ (.slice (some ⟨g1,0,none⟩) (RS.length+1) cap1)).heap.size (.slice (some ⟨g1,0,none⟩) (RS.length+1) cap1)) (w7.setCell ⟨bb,4,none⟩ (.slice (some ⟨g1,0,none⟩) (RS.length+1) cap1)) R:=fun R h=>by
       rw[nJ];exact h.move (Agr.of fun b hb=>Kk b (by have := hb.1;omega))
      have Cj:Below w2.heap.size w2 (w7.setCell ⟨bb,4,none⟩ (.slice (some ⟨g1,0,none⟩) (RS.length+1) cap1)):=((Ej.out.trans (gZ.mono (by omega))).grown Qx (by simp;omega) (fun r hr=>by have := Pm.out r hr;omega)).setCell (p:=⟨bb,4,none⟩) bM.1.1 _
      have Uk:∀ b,b<L->b≠bb->(w7.setCell ⟨bb,4,none⟩ (.slice (some ⟨g1,0,none⟩) (RS.length+1) cap1)).heap[b]?=W3.heap[b]? := fun b hb At =>
       (Kk b At).trans ((Qx.block b (by simp;omega) (fun e=>by have := Pm.out b e.symm;omega)).trans ((gZ.block b (by omega)).trans (L9.out b hb At)))
      have qnl:qy8 scs es L (RS.length+1) (some ⟨g1,0,none⟩) cap1 (vs++[.func (.func gg) #[] caps]) (w7.setCell ⟨bb,4,none⟩ (.slice (some ⟨g1,0,none⟩) (RS.length+1) cap1)):=by
       refine⟨?_,by rw[List.length_append,Uv.out.len,Hx.out];rfl,fun i hi=>?_⟩
       ·rw[List.map_append,Lw.out]
        exact yM.out.moveEq fun q hq=>Kk q (by simp only[Value.ownBlock,Option.some.injEq]at hq;omega)
       ·by_cases Zi:i=j
        ·subst Zi
         refine iE _ ?_;rw[List.getElem?_append_right (by rw[Uv.out.len];exact Ab _),Uv.out.len,Nat.sub_self,qjr.out];exact qj1 Qx jL rfl (lo':=W4.heap.size) (hi:=w5.heap.size) (by have := S4.out;omega) (fun r hr=>by have := Tr.out r hr;have := S4.out;omega) (by simp) (zxb.out.move (bH ((Below.refl w5.heap.size w5).alloc (Ab _) _) fun b hb=>hb.2))
        ·have oZ:i<j:=by have := Hx.out;omega
         refine iE _ ?_;rw[List.getElem?_append_left (by rw[Uv.out.len];exact oZ)];exact xY Qx jL rfl gZ (Uv.out.dat i oZ)
      have qqf:=zo2.out.set (i:=4) (.slice (some ⟨g1,0,none⟩) (RS.length+1) cap1);rw[Hx.out]at qnl Cj Uk nJ qqf ⊢;exact⟨⟨j+1,vs++[.func (.func gg) #[] caps],_,_,by omega,by go_num,qqf,qnl,by rw[nJ];omega,Aa Cj,Aa Uk⟩,by simp[intOf];omega⟩
     ·obtain rfl:j=m:=by omega
      clear hj Aj;have Ce:=Qh.out;have At:=Rw.out;have Ye:=Yc.out;have Sj:=K7.out;obtain⟨X,hX⟩:∃ X:Bdr,X=⟨bb,cb,nm,lm,w2.heap.size,wo.heap.size,⟨sa,i,sm⟩,⟨ca,j,cm⟩,⟨pa,i,pc⟩,fun k=>vs[k]?.getD undef,gv,fun b=>w2.heap.size<=b/\b<wo.heap.size/\b≠bb/\b≠cb/\b≠nm/\b≠lm⟩:=⟨_,rfl⟩
      have ok:Ue X:=by subst hX;exact⟨Ce.1.1,Ce.2.1.1,Ce.2.2.1.1,Ce.2.2.2.1,by dsimp only;omega,by dsimp only;omega,by dsimp only;omega,by dsimp only;omega,At.1,At.2.1,At.2.2.1,At.2.2.2.1,At.2.2.2.2.1,At.2.2.2.2.2⟩
      have hP:∀ p∈pcs scs,p.Nodup/\p≠[]:=fun p hp=>by
       refine⟨?_,qhw.out p hp⟩;unfold pcs at hp;obtain⟨s,_,rfl⟩:=List.mem_map.1 hp
       exact(qpo s).imp fun h=>Nat.ne_of_lt h
      have Ip:BI X scs es ⟨⟨none,0,0⟩,⟨none,0,0⟩,[],[],fun _=>False,fun _=>False⟩ DSt.no DSt.no (List.replicate i 0) wo:=by
       subst hX;refine⟨hq,RO.nil _ _,RO.nil _ _,?_,?_,?_,List.length_replicate ..,HN.out,fun b h=>h.elim,fun b h=>h.elim,Ab _,fun W K ha hK=>⟨?_,fun k hk=>?_,?_,fun k hk=>?_⟩,fun b hb=>hb.2⟩
       ·show Ek wo 9 nm 0 (fS (nmF []))
        rw[<- zsk];exact zjm.out.same (L9.out nm Ce.2.2.1.2 At.2.1.symm)
       ·show Ek wo 9 lm 0 (fS (lmF []))
        rw[<- zq8];exact Lg.out.same (L9.out lm Ce.2.2.2.2 At.2.2.1.symm)
       ·show Blk wo cb ((List.replicate i 0).map Z).toArray 3
        rw[<- zne];exact(L9.out cb Ce.2.1.2 At.1.symm).trans zm9.out
       ·have := Be.zed Uv.out.own (F:=fun b=>w2.heap.size<=b/\b<wo.heap.size/\b≠bb/\b≠cb/\b≠nm/\b≠lm) (fun b hb=>by have := Uv.out.own.low hb;have := Uv.out.own.lt hb;omega) W K ha hK
        rw[List.length_map,Uv.out.len]at this;rw[HM.out]
        refine this.congr fun k hk jj qkd=>?_
        obtain rfl:jj=0:=by omega
        rw[List.getElem?_map]
        cases hv:vs[k]? with
        | none=>have := List.getElem?_eq_none_iff.1 hv;rw[Uv.out.len]at this;omega
        | some v=>show v=vs[k]?.getD undef;rw[hv];rfl
       ·exact((Uv.out.dat k (by rw[<- HM.out];exact hk)).mono fun b hb=>by have := hb.1;have := hb.2.1;exact⟨by omega,hb.2.1,by omega,by omega,by omega,by omega⟩) W K ha hK
       ·have hz:=((yW.out.move (w':=wo) (Agr.of fun b hb=>L9.out b (by have := hb.2;omega) (by have := hb.1;have := hb.2;omega))).mono fun b hb=>(by have := hb.1;have := hb.2;exact⟨by omega,by omega,by omega,by omega,by omega,by omega⟩:w2.heap.size<=b/\b<wo.heap.size/\b≠bb/\b≠cb/\b≠nm/\b≠lm)) W K ha hK
        rw[Ja.out];exact hz.1
       ·have hz:=((yW.out.move (w':=wo) (Agr.of fun b hb=>L9.out b (by have := hb.2;omega) (by have := hb.1;have := hb.2;omega))).mono fun b hb=>(by have := hb.1;have := hb.2;exact⟨by omega,by omega,by omega,by omega,by omega,by omega⟩:w2.heap.size<=b/\b<wo.heap.size/\b≠bb/\b≠cb/\b≠nm/\b≠lm)) W K ha hK
        exact hz.2 k (by rw[<- Ja.out];exact hk)
      have Py:Below T w w2:=Bi.out.trans (Bz.out.mono (by have := S1.out;omega));have qe0:Below T w wo:=Py.trans (Ej.out.mono (by omega))
      have Y6:Pe X.B wo:=by
       have h1:Pe K wo:=Rl.out.on (qe0.mono vB);have h2:=h1.up (B:=w2.heap.size) (by omega);rw[hX];exact h2
      have Yf:=oD.out
      have qqr:X.sv.n=i:=by rw[hX]
      have cW:X.bb=bb:=by rw[hX]
      have nP:X.B=w2.heap.size:=by rw[hX]
      have lG:X.T=wo.heap.size:=by rw[hX]
      have Dj:=qpk X ok scs es hP (by rw[qqr];exact Tm) (by rw[HM.out];omega) (pcs scs) (fun p hp=>by have := zn9 qhw.out hp;omega) 0 [] DSt.no _ _ wo rfl (Nat.zero_le _) (WF.no _ _) Cu.nil Ip rfl Y6 (by show 0+_<=_;omega) (by show 0+_<=_;omega);rw[cW,show((0:Nat):Int)=0 from rfl]at Dj;have Gm:=Aa Dj;have Ym:=Aa (And.intro hX (And.intro nP lG));have zzf:=Aa ok;have zgg:=Aa qe0;have zll:=Aa cW;obtain⟨TG,qla⟩:=Ae (tgt (lfS scs es) (pcs scs) 0 [] DSt.no);rw[qla]at Gm;have qlv:=Aa qla;clear Dj hX qqr cW nP lG ok hP Ip Py qe0 Y6 Yf qla hq dX Ce At Ye Sj;go_wp2_with fail
      refine Gm.out.mono ?_;clear Gm;rintro en w9 ⟨rfl,d',cur',Qs,qs9,_⟩;obtain⟨hX,nP,lG⟩:=Ym.out;have qsf:=zll.out;have q9:=Qs.blk;rw[qsf]at q9;have e3:w9.cell? ⟨bb,3,none⟩=some (.int .i64 0):=q9.at rfl;have f3:w9.frozen? ⟨bb,3,none⟩=false:=q9.free 3;have wJ:=qs9.bel;rw[nP]at wJ
      have Jh:T<w2.heap.size:=by omega
      have Ce:=Qh.out;have qT:Blk w9 T #[.slice none 0 0,.slice none 0 0,.slice none 0 0,.int .i64 0] 31:=((Bc.out.below Bz.out Bc.out.lt).below Ej.out Jh).below wJ Jh
      have qz6:T≠bb:=by omega
      have rT:=Aa Qs;have zvz:=Aa wJ;have zb0:=Aa q9;have Xy:=Aa qT;obtain⟨rt,Gt⟩:=Ae TG.1;rw[Gt];have kO:=Aa Gt;have c10:=q9.set (i:=3) (.int .i64 rt)
      have g0:(w9.setCell ⟨bb,3,none⟩ (.int .i64 rt)).cell? ⟨bb,0,none⟩=some (.slice sa i sm):=by have := c10.at (i:=0) (x:=X.sv.val) rfl;rw[hX]at this;exact this
      have g1:(w9.setCell ⟨bb,3,none⟩ (.int .i64 rt)).cell? ⟨bb,1,none⟩=some (.slice d'.nv.a d'.nv.n d'.nv.m):=c10.at rfl;have g2:(w9.setCell ⟨bb,3,none⟩ (.int .i64 rt)).cell? ⟨bb,2,none⟩=some (.slice d'.lv.a d'.lv.n d'.lv.m):=c10.at rfl;have g3:(w9.setCell ⟨bb,3,none⟩ (.int .i64 rt)).cell? ⟨bb,3,none⟩=some (.int .i64 rt):=c10.at rfl;have qT10:=qT.other qz6 (i:=3) (.int .i64 rt);obtain⟨k0,k1,k2,k3⟩:=qT10.four;have z0:=qT10.free 0;have z1:=qT10.free 1;have z2:=qT10.free 2;have z3:=qT10.free 3;have q11:=(((qT10.set (i:=0) (.slice sa i sm)).set (i:=1) (.slice d'.nv.a d'.nv.n d'.nv.m)).set (i:=2) (.slice d'.lv.a d'.lv.n d'.lv.m)).set (i:=3) (.int .i64 rt);obtain⟨y0,y1,y2,y3⟩:=q11.four;clear Qs qs9 wJ q9 qT c10 qT10 q11 Gt hX nP lG qsf;go_wp2_with fail
      refine bodyPost_ret (v:=.tuple #[.agg #[.slice sa i sm,.slice d'.nv.a d'.nv.n d'.nv.m,.slice d'.lv.a d'.lv.n d'.lv.m,.int .i64 rt],.int .i64 0]) (by simp[results,Tryz.results14,go_sem,y0,y1,y2,y3]) rfl ?_;obtain⟨WF,qcm⟩:=Ae ((((((w9.setCell ⟨bb,3,none⟩ (.int .i64 rt)).setCell ⟨T,0,none⟩ (.slice sa i sm)).setCell ⟨T,1,none⟩ (.slice d'.nv.a d'.nv.n d'.nv.m)).setCell ⟨T,2,none⟩ (.slice d'.lv.a d'.lv.n d'.lv.m)).setCell ⟨T,3,none⟩ (.int .i64 rt)))
      have Kk:∀ b,b≠bb->b≠T->WF.heap[b]?=w9.heap[b]? := fun b h1 h2=>by
       rw[<- qcm];exact(Below.heap_setCell _ _ _ _ h2).trans ((Below.heap_setCell _ _ _ _ h2).trans ((Below.heap_setCell _ _ _ _ h2).trans ((Below.heap_setCell _ _ _ _ h2).trans (Below.heap_setCell _ _ _ _ h1))))
      have zyy:WF.heap.size=w9.heap.size:=by rw[<- qcm];simp[World.setCell]
      have jY:=zvz.out;have xW:=jY.size
      have zpp:Below T w WF:=by
       rw[<- qcm];exact(((((zgg.out.trans (jY.mono (by omega))).setCell (p:=⟨bb,3,none⟩) (by show T<=bb;omega) _).setCell (p:=⟨T,0,none⟩) (Ab _) _).setCell (p:=⟨T,1,none⟩) (Ab _) _).setCell (p:=⟨T,2,none⟩) (Ab _) _).setCell (p:=⟨T,3,none⟩) (Ab _) _
      rw[qcm];have Qs:=rT.out;obtain⟨hX,nP,lG⟩:=Ym.out
      have jb6:T<X.T/\bb<X.T:=by rw[lG];omega
      have Cp:=S1.out;have rC:DO X.T WF d'.nv.val TG.2.nds d'.ns d'.F1:=Qs.nds.move (Agr.of fun b hb=>Kk b (by have := (Qs.nds.rng b hb).1;omega) (by have := (Qs.nds.rng b hb).1;omega)) (fun q hq=>Kk q (by have := (Qs.nlow hq).1;omega) (by have := (Qs.nlow hq).1;omega)) (by omega);have tX:NO X.T WF d'.lv.val TG.2.lvs d'.ls d'.F2:=Qs.lvs.move (Agr.of fun b hb=>Kk b (by have := (Qs.lvs.rng b hb).1;omega) (by have := (Qs.lvs.rng b hb).1;omega)) (fun q hq=>Kk q (by have := (Qs.llow hq).1;omega) (by have := (Qs.llow hq).1;omega)) (by omega);refine⟨⟨⟨sa,i,sm⟩,d'.nv,d'.lv,rt⟩,rfl,fun W hW=>⟨?_,?_,?_,?_⟩,zpp⟩
      ·refine zry.out W W.heap.size (Agr.of fun b hb=>?_) fun b hb=>by have := hb.2;have := Ej.out.size;have := hW.size;omega
       have h1:=hb.1;have h2:=hb.2;have h3:=Ej.out.size;exact(hW.block b (by omega) (by omega)).trans ((Kk b (by omega) (by omega)).trans ((jY.block b h2).trans (Ej.out.block b h2)))
      ·rw[qlv.out]
       have zul:DO X.T W d'.nv.val TG.2.nds d'.ns d'.F1:=(rC.move (Agr.of fun b hb=>hW.block b (by have := (rC.rng b hb).1;omega) (rC.rng b hb).2) (fun q hq=>hW.block q (by have := rC.own.low hq;omega) (rC.own.lt hq)) hW.size);exact zul.read
      ·rw[qlv.out]
       have zl5:NO X.T W d'.lv.val TG.2.lvs d'.ls d'.F2:=(tX.move (Agr.of fun b hb=>hW.block b (by have := (tX.rng b hb).1;omega) (tX.rng b hb).2) (fun q hq=>hW.block q (by have := tX.own.low hq;omega) (tX.own.lt hq)) hW.size);exact zl5.read
      ·rw[qlv.out];exact kO.out.symm
end Go.Proofs.YtlldjmagbjjeoaaGreatDoor
