/- Contracts and plain laws, several texts in one (GExpr, GTest0, GCopy, GCopy2, GTest, GTest2). No conditions beyond those stated. -/
import Derived.Lib.LazyBuf
import Derived.Test.YtlldjmagbjjeoaaGreatDoorPk14
set_option maxRecDepth 100000
set_option maxHeartbeats 40000000
namespace Go.Proofs.YtlldjmagbjjeoaaGreatDoor
open Go.RowKit
set_option linter.unusedVariables false
abbrev Xv.vv (x:Xv):Vv:=⟨x.kd,x.b3,x.s4.val,x.b5,x.s6.val,x.i7⟩
mutual
def ExG (K:Nat) (w:World):Gx->Xv->Prop
 | .mk op nm v es,x=>x.op=op/\x.nm=nm/\nm.length<=maxLen/\VlX K w v x.vv/\∃ g:Nat->Xv,Au 9 (fun i j=>(g i).cell j) K w x.s8.val es.length/\vH K w es g 0
def vH (K:Nat) (w:World):List Gx->(Nat->Xv)->Nat->Prop
 | [],_,_=>True
 | e::r,g,i=>ExG K w e (g i)/\vH K w r g (i+1)
end
theorem qbf {K:Nat} {w:World} {es:List Gx} {g:Nat->Xv}:∀ {i:Nat},vH K w es g i ↔ ∀ (j:Nat) (e:Gx),es[j]?=some e->ExG K w e (g (i+j)):=by
 induction es with
 | nil=>intro i;simp[vH]
 | cons e r ih =>
  intro i
  rw[vH,ih];constructor
  ·rintro⟨h1,h2⟩ j e' hj
   cases j with
   | zero=>simp at hj;subst hj;simpa using h1
   | succ j=>have := h2 j e' (by simpa using hj);rwa[show i+1+j=i+(j+1)by omega]at this
  ·intro h
   refine⟨by simpa using h 0 e rfl,fun j e' hj=>?_⟩;have := h (j+1) e' (by simpa using hj);rwa[show i+(j+1)=i+1+j by omega]at this
theorem Z9:∀ {es:List Gx} {e:Gx},e∈es->e.parts<=Fu es:=by
 intro es
 induction es with
 | nil=>simp
 | cons x r ih =>
  intro e h
  rw[Fu]
  rcases List.mem_cons.1 h with rfl | h
  ·omega
  ·have := ih h;omega
theorem S7 (o:Int) (n:Str) (v:Vq) (es:List Gx):(Gx.mk o n v es).parts=Fu es+1:=by rw[Gx.parts]
theorem znt {K K' B:Nat} {w w':World} (hb:Below B w w') (hB:K<=B) (hK:K<=K'):∀ (m:Nat) (e:Gx) (x:Xv),e.parts<=m->ExG K w e x->ExG K' w' e x:=by
 intro m
 induction m with
 | zero=>intro e c hm;cases e;rw[S7]at hm;omega
 | succ m ih =>
  intro e c hm h
  cases e with
  | mk op nm v es =>
   rw[ExG]at h ⊢;obtain⟨h1,h2,h3,h4,g,h5,h6⟩:=h;refine⟨h1,h2,h3,h4.below hb hB hK,g,h5.below hb hB hK,qbf.2 fun j e hj=>?_⟩;have hp:=Z9 (List.mem_of_getElem? hj);rw[S7]at hm;exact ih e _ (by omega) (qbf.1 h6 j e hj)
theorem ExG.below {K K' B:Nat} {w w':World} {e:Gx} {x:Xv} (h:ExG K w e x) (hb:Below B w w') (hB:K<=B) (hK:K<=K'):ExG K' w' e x:=znt hb hB hK _ e x (Ab _) h
theorem ExG.open {K:Nat} {w:World} {e:Gx} {x:Xv} (h:ExG K w e x):x.op=e.op/\x.nm=e.nm/\e.nm.length<=maxLen/\VlX K w e.v x.vv/\∃ g:Nat->Xv,Au 9 (fun i j=>(g i).cell j) K w x.s8.val e.args.length/\∀ (j:Nat) (a:Gx),e.args[j]?=some a->ExG K w a (g j):=by
 cases e with
 | mk op nm v es =>
  rw[ExG]at h;obtain⟨h1,h2,h3,h4,g,h5,h6⟩:=h;exact⟨h1,h2,h3,h4,g,h5,fun j a hj=>by have := qbf.1 h6 j a hj;rwa[Nat.zero_add]at this⟩
theorem ExG.make {K:Nat} {w:World} {e:Gx} {x:Xv} (h1:x.op=e.op) (h2:x.nm=e.nm) (h3:e.nm.length<=maxLen) (h4:VlX K w e.v x.vv) (g:Nat->Xv) (h5:Au 9 (fun i j=>(g i).cell j) K w x.s8.val e.args.length)
  (h6:∀ (j:Nat) (a:Gx),e.args[j]?=some a->ExG K w a (g j)):ExG K w e x:=by
 cases e with
 | mk op nm v es =>
  rw[ExG];exact⟨h1,h2,h3,h4,g,h5,qbf.2 fun j a hj=>by rw[Nat.zero_add];exact h6 j a hj⟩
theorem zco {l:List Gx}:O0 l=true ↔ ∀ e∈l,e.good=true:=by
 induction l with
 | nil=>simp[O0]
 | cons e r ih=>rw[O0];simp[ih]
theorem qb8 {e:Gx} (h:e.good=true):e.v.good=true:=by
 cases e with
 | mk op nm v es =>
  rw[Gx.good]at h;simp only[Bool.and_eq_true]at h;exact h.1
theorem jW {e:Gx} (h:e.good=true):∀ a∈e.args,a.good=true:=by
 cases e with
 | mk op nm v es =>
  rw[Gx.good]at h;simp only[Bool.and_eq_true]at h;exact zco.1 h.2
theorem qwh (K:Nat) (e:Gx) (x:Xv) (w:World) (h:ExG K w e x) (hg:e.good=true) (hK:K<=w.heap.size):Calls Tryz.prog 89 #[x.agg] w fun en w'=>en=.returned (.bool e.settled)/\Below w.heap.size w w':=by
 obtain⟨h1,h2,h3,hv,_⟩:=h.open;have b1:Below w.heap.size w (w.alloc (.cells x.cells 43)):=Af _ _;have hc:=xQ w.heap.size e.v x.vv _ (hv.below b1 hK hK) (by simp) (qb8 hg)
 have hs:e.settled=(x.op==1 && x.kd==1 && e.v.ok):=by unfold Gx.settled;rw[h1,show x.kd=e.v.kd from hv.kd]
 rw[hs];obtain⟨r,hr⟩:=Ae e.v.ok;rw[hr]at hc ⊢
 by_cases e1:x.op=1
 ·by_cases e2:x.kd=1
  ·obtain⟨op,nm,kd,b3,s4,b5,s6,i7,s8⟩:=x
   simp only at e1 e2;subst e1 e2;clear h hv hs h1 h2;go_enter Tryz.func89,Tryz.ntmps89
   go_wp2_with fail
   refine hc.mono ?_;rintro en w2 ⟨rfl,Ai⟩;go_wp2_with fail
   go_ret
   exact⟨by simp,b1.trans (Ai.mono (by simp))⟩
  ·have e3:(x.kd==1)=false:=by simp[e2]
   obtain⟨op,nm,kd,b3,s4,b5,s6,i7,s8⟩:=x;simp only at e1 e2 e3;subst e1;clear h hv hs h1 h2 hc;simp only[e3];go_enter Tryz.func89,Tryz.ntmps89
   go_wp2_with fail
   go_ret
   exact⟨by simp,b1⟩
 ·have e3:(x.op==1)=false:=by simp[e1]
  obtain⟨op,nm,kd,b3,s4,b5,s6,i7,s8⟩:=x;simp only at e1 e3;clear h hv hs h1 h2 hc;simp only[e3];go_enter Tryz.func89,Tryz.ntmps89
  go_wp2_with fail
  go_ret
  exact⟨by simp,b1⟩
theorem qr4 (K:Nat) (e:Gx) (x:Xv) (w:World) (h:ExG K w e x):Calls Tryz.prog 90 #[x.agg] w fun en w'=>en=.returned (.bool e.composed)/\Below w.heap.size w w':=by
 obtain⟨h1,h2,h3,hv,g,hr,_⟩:=h.open;have b1:Below w.heap.size w (w.alloc (.cells x.cells 43)):=Af _ _;obtain⟨op,nm,kd,b3,s4,b5,s6,i7,s8⟩:=x;obtain⟨sa,scap,Nh,_⟩:=hr.form;simp only at Nh h1;obtain⟨a8,n8,m8⟩:=s8;simp only[Sl.val,Value.slice.injEq]at Nh;obtain⟨rfl,rfl,rfl⟩:=Nh;obtain⟨n,hn⟩:=Ae e.args.length;obtain⟨r,I3⟩:=Ae e.composed;have HR:Hid (r=((op==15 || op==16) && n==2 || op==17 && n==1 || op==18 && n==3)):=Aa (by rw[<- I3,<- hn,h1];rfl);rw[I3,hn];rw[hn]at b1
 have k2:((n:Int)==2)=(n==2):=by rw[Bool.eq_iff_iff];simp;omega
 have k1:((n:Int)==1)=(n==1):=by rw[Bool.eq_iff_iff];simp;omega
 have k3:((n:Int)==3)=(n==3):=by rw[Bool.eq_iff_iff];simp;omega
 clear h hv h1 h2 h3 hr hn I3
 by_cases e15:op=15
 ·have E:=Aa (HR.out.trans (show _=(n==2)by rw[e15];simp))
  subst e15;go_enter Tryz.func90,Tryz.ntmps90
  go_wp2_with fail
  go_ret
  exact⟨by rw[E.out];rfl,b1⟩
 ·by_cases e16:op=16
  ·have E:=Aa (HR.out.trans (show _=(n==2)by rw[e16];simp))
   subst e16;go_enter Tryz.func90,Tryz.ntmps90
   go_wp2_with fail
   go_ret
   exact⟨by rw[E.out];rfl,b1⟩
  ·by_cases e17:op=17
   ·have E:=Aa (HR.out.trans (show _=(n==1)by rw[e17];simp))
    subst e17;go_enter Tryz.func90,Tryz.ntmps90
    go_wp2_with fail
    go_ret
    exact⟨by rw[E.out];rfl,b1⟩
   ·by_cases e18:op=18
    ·have E:=Aa (HR.out.trans (show _=(n==3)by rw[e18];simp))
     subst e18;go_enter Tryz.func90,Tryz.ntmps90
     go_wp2_with fail
     go_ret
     exact⟨by rw[E.out];rfl,b1⟩
    ·have E:=Aa (HR.out.trans (show _=false by simp[e15,e16,e17,e18]))
     have x15:(op==15)=false:=by simp[e15]
     have x16:(op==16)=false:=by simp[e16]
     have x17:(op==17)=false:=by simp[e17]
     have x18:(op==18)=false:=by simp[e18]
     clear e15 e16 e17 e18;go_enter Tryz.func90,Tryz.ntmps90
     go_wp2_with fail
     go_ret
     exact⟨by rw[E.out];rfl,b1⟩
structure Tv where
 sub:Xv
 kd:Int
 cut:Vv
 op:Int
 snd:Bool
abbrev Tv.cells (y:Tv):Array Value:=#[.int .u8 y.sub.op,S y.sub.nm,.int .u8 y.sub.kd,.bool y.sub.b3,.slice y.sub.s4.a y.sub.s4.n y.sub.s4.m,.bool y.sub.b5,.slice y.sub.s6.a y.sub.s6.n y.sub.s6.m,.int .i64 y.sub.i7,.slice y.sub.s8.a y.sub.s8.n y.sub.s8.m,
 .int .u8 y.kd,.int .u8 y.cut.kd,.bool y.cut.b1,y.cut.s1,.bool y.cut.b2,y.cut.s2,.int .i64 y.cut.i,.int .u8 y.op,.bool y.snd]
abbrev Tv.agg (y:Tv):Value:=.agg y.cells
structure TqX (K:Nat) (w:World) (t:Tq) (y:Tv):Prop where
 sub:ExG K w t.sub y.sub
 kd:y.kd=t.kd
 cut:VlX K w t.cut y.cut
 op:y.op=t.op
 snd:y.snd=t.snd
theorem TqX.below {K K' B:Nat} {w w':World} {t:Tq} {y:Tv} (h:TqX K w t y) (hb:Below B w w') (hB:K<=B) (hK:K<=K'):TqX K' w' t y:=⟨h.sub.below hb hB hK,h.kd,h.cut.below hb hB hK,h.op,h.snd⟩
abbrev vv0:Vv:=⟨0,false,.slice none 0 0,false,.slice none 0 0,0⟩
theorem rS (K:Nat) (w:World):VlX K w v0 vv0:=⟨rfl,rfl,rfl,rfl,Lm.nil _ _,Lm.nil _ _⟩
theorem Zk:(Tryz.prog.info? 79).map (fun i=>i.size)=some 18:=by kernel_rfl
def Agr (F:Nat->Prop) (w W:World):Prop:=∀ b o,F b->w.heap[b]?=some o->o.isCells=true->W.heap[b]?=some o
theorem Agr.of {F:Nat->Prop} {w W:World} (h:∀ b,F b->W.heap[b]?=w.heap[b]?):Agr F w W:=fun b o hb ho _=>(h b hb).trans ho
def Btw (lo hi:Nat) (b:Nat):Prop:=lo<=b/\b<hi
def Zed (F:Nat->Prop) (w:World) (R:Nat->World->Prop):Prop:=∀ W K,Agr F w W->(∀ b,F b->b<K)->R K W
section
variable {F G:Nat->Prop} {w w':World} {R:Nat->World->Prop}
theorem Zed.mono (h:Zed F w R) (hF:∀ b,F b->G b):Zed G w R:=fun W K ha hK=>h W K (fun b o hb=>ha b o (hF b hb)) fun b hb=>hK b (hF b hb)
theorem Zed.move (h:Zed F w R) (ha:Agr F w w'):Zed F w' R:=fun W K hb hK=>h W K (fun b o Gl ho hc=>hb b o Gl (ha b o Gl ho hc) hc) hK
theorem Zed.get (h:Zed F w R) (hF:∀ b,F b->b<w.heap.size):R w.heap.size w:=h w _ (Agr.of fun _ _=>rfl) hF
theorem Zed.imp {R':Nat->World->Prop} (h:Zed F w R) (hi:∀ K W,R K W->R' K W):Zed F w R':=fun W K ha hK=>hi K W (h W K ha hK)
theorem bH {B:Nat} (hb:Below B w w') (hF:∀ b,F b->b<B):Agr F w w':=Agr.of fun b h=>hb.block b (hF b h)
theorem G7 {row:Option Nat} (hg:w.grownBy w' row) (hF:∀ b,F b->b<w.heap.size) (hr:∀ b,row=some b->¬ F b):Agr F w w':=Agr.of fun b h=>hg.block b (hF b h) fun e=>hr b e.symm h
theorem Agr.trans {w'':World} (h:Agr F w w') (h':Agr F w' w''):Agr F w w'':=fun b o hb ho hc=>h' b o hb (h b o hb ho hc) hc
theorem Agr.mono (h:Agr G w w') (hF:∀ b,F b->G b):Agr F w w':=fun b o hb=>h b o (hF b hb)
end
theorem qa3 {F:Nat->Prop} {base T c n:Nat} {w:World} {v:Value} {xs:List Value} (h:w.ownsRow base T c v n xs) (hF:∀ b,v.ownBlock=some b->F b):Zed F w fun K W=>(v=.slice none 0 0/\n=0\/∃ g,v.ownBlock=some g/\g<K)/\W.ownsRow base T c v n xs:=by
 intro W K ha hK
 obtain⟨h1,h2⟩:=h
 rcases h2 with⟨rfl,h0⟩ | ⟨g,cap,cur,rfl,hb,hg,h3⟩
 ·exact⟨.inl ⟨rfl,h0⟩,h1,.inl ⟨rfl,h0⟩⟩
 ·exact⟨.inr ⟨g,rfl,hK g (hF g rfl)⟩,h1,.inr ⟨g,cap,cur,rfl,hb,ha g _ (hF g rfl) hg rfl,h3⟩⟩
theorem Be.zed {F:Nat->Prop} {c T base:Nat} {w:World} {v:Value} {rs:List (List Value)} (h:Be c T base w v rs) (hF:∀ b,v.ownBlock=some b->F b) :
  Zed F w fun K W=>Au c (fun i j=>((rs[i]?.getD [])[j]?).getD undef) K W v rs.length:=by
 intro W K ha hK
 obtain⟨h1,h2⟩:=qa3 h.1 hF W K ha hK;have hr:=Be.rows (show Be c T base W v rs from⟨h2,h.2⟩);obtain⟨a,cap,hv,h3,h4,h5,h6⟩:=hr;refine⟨a,cap,hv,h3,h4,h5,fun i hi=>?_⟩;obtain⟨b,o,rfl,hb,hc⟩:=h6 i hi;refine⟨b,o,rfl,?_,hc⟩
 rcases h1 with⟨h1,h0⟩ | ⟨g,hg,P9⟩
 ·omega
 ·rw[hv]at hg
  simp only[Value.ownBlock,Option.some.injEq]at hg;omega
theorem qm4 {base:Nat} {w:World} {v:Value} {l:List Nat} (h:w.ownsRow base 132 1 v l.length (l.map D16)) (hd:∀ d∈l,d<65536) {F:Nat->Prop} (hF:∀ b,v.ownBlock=some b->F b):Zed F w fun K W=>Lm K W v l:=by
 intro W K ha hK
 obtain⟨h1,h2⟩:=qa3 h hF W K ha hK;refine⟨?_,hd⟩
 rcases h2.2 with⟨rfl,h0⟩ | ⟨g,cap,cur,rfl,hb,hg,hn,hm,hs,ht⟩
 ·rw[h0];exact Au.nil none 0 (by simp[maxLen]) fun _=>rfl
 ·have P9:g<K:=by
   rcases h1 with⟨h1,_⟩ | ⟨g',h1,h3⟩
   ·cases h1
   ·simp only[Value.ownBlock,Option.some.injEq]at h1;omega
  refine Au.mk_cells hn hm P9 fun i hi j hj=>?_
  obtain rfl:j=0:=by omega
  have := World.ownsRow.cells h2 (g:=g) rfl i (D16 (l[i]?.getD 0)) (by simp[hi]);rw[Addr.add]at this
  by_cases h0:i=0
  ·subst h0;simpa using this
  ·simpa [h0] using this
theorem qmm (l:List Nat):∀ u∈l.map D16,u.oneCell'=true:=by
 intro u hu
 obtain⟨d,_,rfl⟩:=List.mem_map.1 hu
 rfl
theorem zbl (w:World) (a:Option Addr) (n c:Nat):(binOp .eql 35 (.slice a n c) (.slice none 0 0)).run Tryz.prog w=.ok (.bool a.isNone) w:=Lib.run_eql_slice_nil w _ _ a n c 0 0 Tryz.underlying35
theorem qxs (K:Nat) (v:Value) (l:List Nat) (w:World) (h:Lm K w v l) (hK:K<=w.heap.size) (hl:l.length<=2^40) :
  Calls Tryz.prog 83 #[v] w fun e w'=>∃ v',e=.returned v'/\Zed (Btw w.heap.size w'.heap.size) w' (fun K W=>Lm K W v' l)/\Below w.heap.size w w':=by
 have hq:=zbl;have hd:=h.2;obtain⟨i0,hi,Cz,Gb,Ft⟩:=info_parts Tryz.infoU16;obtain⟨a,cap,rfl,hn,hm,hz,hc⟩:=h.1
 cases a with
 | none =>
  have h0:l=[]:=by
   cases l with
   | nil=>rfl
   | cons d r=>obtain⟨b',o',h,_⟩:=hc 0 (by simp);cases h
  subst h0;obtain rfl:=hz rfl;go_enter Tryz.func83,Tryz.ntmps83
  go_wp2_with fail
  go_ret
  exact⟨_,rfl,fun W K _ _=>Lm.nil K W,Below.refl _ _⟩
 | some ad =>
  go_enter Tryz.func83,Tryz.ntmps83
  go_wp2_with (at_builtin;refine wpList_append_own _ rfl _ _ 35 rfl w.heap.size 132 i0 (.int .u16 0) 1 2 Tryz.underlying35 hi Cz Gb Ft rfl (by decide) _ _ _ rfl (World.ownsRow_made w #[] 0 (Ab _) (Nat.zero_le _) rfl) ad l.length cap (l.map D16) rfl (by simp) ?qc2 (qmm l) ?qc4 ?qc5 ?qc6 ?_)
  case qc2 =>
   intro j u hj
   have qd4:j<l.length:=(List.getElem?_eq_some_iff.1 hj).1;obtain⟨b,o,he,Cj,Gw⟩:=hc j qd4;simp only[Option.some.injEq]at he;subst he;have h0:=Gw 0 (by omega);rw[hj]at h0;rw[cY];refine(Below.cell ((Below.refl w.heap.size w).alloc (Ab _) _) (p:=⟨b,o+j,none⟩) (by simp;omega)).trans ?_
   simpa using h0
  case qc4=>simp[maxLen];omega
  case qc5=>omega
  intro v' w1 Av qjq zl0
  have Bp:Below w.heap.size w w1:=((Below.refl _ w).alloc (Ab _) (.cells #[] 132)).grown qjq (by simp) (by intro k hk;simp[Value.ownBlock]at hk;omega);go_wp2_with fail
  go_ret
  have fL:w1.ownsRow w.heap.size 132 1 v' l.length (l.map D16):=by simpa using Av
  exact⟨v',rfl,qm4 fL hd fun b hb=>⟨(Or fL hb).1,cU fL hb⟩,Bp⟩
theorem qvt:(Tryz.prog.info? 41).map (fun i=>i.size)=some 6:=by kernel_rfl
theorem qz7 (y:Vv) (h1:y.s1.oneCell'=true) (h2:y.s2.oneCell'=true):∀ u∈y.cells,u.oneCell'=true:=by
 simp only[Vv.cells,List.mem_toArray,List.mem_cons,List.not_mem_nil,or_false]
 rintro u (rfl | rfl | rfl | rfl | rfl | rfl)<;>first | rfl | assumption
theorem zuf {lo lo' hi:Nat} (h:lo'<=lo) (b:Nat) (hb:Btw lo hi b):Btw lo' hi b:=⟨Nat.le_trans h hb.1,hb.2⟩
theorem rA {lo lo' hi Fj:Nat} (h:lo'<=lo) (h':hi<=Fj) (b:Nat) (hb:Btw lo hi b):Btw lo' Fj b:=⟨Nat.le_trans h hb.1,Nat.lt_of_lt_of_le hb.2 h'⟩
theorem qc8 (K:Nat) (v:Vq) (x:Vv) (w:World) (h:VlX K w v x) (hg:v.good=true) (hK:K<=w.heap.size) :
  Calls Tryz.prog 47 #[x.agg] w fun e w'=>∃ y:Vv,e=.returned y.agg/\Zed (Btw w.heap.size w'.heap.size) w' (fun K W=>VlX K W v y)/\Below w.heap.size w w':=by
 obtain⟨Cp,Az⟩:=Vq.short hg;have HX:=Aa h;obtain⟨ua,uc,hu,_⟩:=h.n.form;obtain⟨va,vc,hv,_⟩:=h.d.form;obtain⟨kd,f1,s1,f2,s2,i⟩:=x;dsimp only at hu hv;subst hu hv;obtain⟨W1,Ah⟩:=Ae ((w.alloc (.cells (⟨kd,f1,.slice ua v.l1.length uc,f2,.slice va v.l2.length vc,i⟩:Vv).cells 41)).alloc (.cells vv0.cells 41))
 have b1:Below w.heap.size w W1:=by rw[<- Ah];exact(Af _ _).alloc (by simp) _
 have q1:Blk W1 w.heap.size (⟨kd,f1,.slice ua v.l1.length uc,f2,.slice va v.l2.length vc,i⟩:Vv).cells 41:=by rw[<- Ah];exact(Blk.new w _ _).alloc _
 have q2:Blk W1 (w.heap.size+1) vv0.cells 41:=by
  rw[<- Ah];have := Blk.new (w.alloc (.cells (⟨kd,f1,.slice ua v.l1.length uc,f2,.slice va v.l2.length vc,i⟩:Vv).cells 41)) vv0.cells 41;rwa[World.size_alloc]at this
 have sz1:W1.heap.size=w.heap.size+2:=by rw[<- Ah];simp
 obtain⟨B,hB⟩:=Ae w.heap.size;have HB:=Aa hB;have HW:=Aa Ah;rw[hB]at hK b1 q1 q2 sz1 ⊢;have Jv:=qxs B _ v.l1 W1 (h.n.below b1 hK hK) (by omega) (by omega)
 have Gh:Hid (∀ W,Below B w W->Calls Tryz.prog 83 #[.slice va v.l2.length vc] W fun e w'=>∃ v',e=.returned v'/\Zed (Btw W.heap.size w'.heap.size) w' (fun K W=>Lm K W v' v.l2)/\Below W.heap.size W w'):=Aa fun W hW=>qxs W.heap.size _ v.l2 W (h.d.below hW hK (by have := hW.size;have := HB.out;omega)) (Ab _) (by omega)
 obtain⟨n1,Es⟩:∃ n,v.l1.length=n:=⟨_,rfl⟩;obtain⟨n2,Dp⟩:∃ n,v.l2.length=n:=⟨_,rfl⟩;simp only[Es]at q1 Jv HW;simp only[Dp]at q1 Gh HW;have zk4:=Aa Es;have zoa:=Aa Dp;simp only[Es,Dp];dsimp only[Vv.cells,vv0]at HW;clear hB Ah h hg Cp Az Es Dp;obtain⟨c0,c1,c2,c3,c4,c5⟩:=q1.six;go_enter Tryz.func47,Tryz.ntmps47
 go_upto_region 1 with fail
 simp only[HB.out];rw[HW.out];go_wp2_with fail
 refine Jv.mono ?_;rintro e w2 ⟨r1,rfl,Gb,Ai⟩;clear Jv c0 c1 c2 c3 c4 c5;have p1:=q1.below Ai (by omega);have p2:=q2.below Ai (by omega);obtain⟨c0,c1,c2,c3,c4,c5⟩:=p1.six;have fr2:=p1.free 2
 have qwr:=Gb.get fun b hb=>hb.2
 obtain⟨ra,rc,hr,_⟩:=qwr.form;rw[zk4.out]at hr;subst hr;have Az:=Ai.size
 go_upto_region 2 with fail
 obtain⟨W2,Ax⟩:=Ae (w2.setCell ⟨B,2,none⟩ (.slice ra n1 rc))
 have p3:Blk W2 B (⟨kd,f1,.slice ra n1 rc,f2,.slice va n2 vc,i⟩:Vv).cells 41:=by rw[<- Ax];exact p1.set (.slice ra n1 rc)
 have p4:Blk W2 (B+1) vv0.cells 41:=by rw[<- Ax];exact p2.other (by omega) _
 have b2:Below B w W2:=by rw[<- Ax];exact(b1.trans (Ai.mono (by omega))).setCell (Ab _) _
 have sz2:W2.heap.size=w2.heap.size:=by rw[<- Ax];simp[World.setCell]
 have mO:Zed (Btw W1.heap.size w2.heap.size) W2 (fun K W=>Lm K W (.slice ra n1 rc) v.l1):=Gb.move <| Agr.of fun b hb=>by rw[<- Ax];exact Below.heap_setCell _ _ _ _ (by have := hb.1;show b≠B;omega)
 rw[Ax];clear Ax c0 c1 c2 c3 c4 c5 fr2 qwr Gb p1 p2 q1 q2;obtain⟨c0,c1,c2,c3,c4,c5⟩:=p3.six;go_wp2_with fail
 refine(Gh.out W2 b2).mono ?_;rintro e w3 ⟨r2,rfl,Ft,Ak⟩;clear c0 c1 c2 c3 c4 c5;have p5:=p3.below Ak (by omega);have p6:=p4.below Ak (by omega);obtain⟨c0,c1,c2,c3,c4,c5⟩:=p5.six;have fr4:=p5.free 4
 have qrb:=Ft.get fun b hb=>hb.2
 obtain⟨ta,tc,hr,_⟩:=qrb.form;rw[zoa.out]at hr;subst hr;have Ep:=Ak.size
 go_upto_region 3 with fail
 obtain⟨W3,Cn⟩:=Ae (w3.setCell ⟨B,4,none⟩ (.slice ta n2 tc))
 have p7:Blk W3 B (⟨kd,f1,.slice ra n1 rc,f2,.slice ta n2 tc,i⟩:Vv).cells 41:=by rw[<- Cn];exact p5.set (.slice ta n2 tc)
 have p8:Blk W3 (B+1) vv0.cells 41:=by rw[<- Cn];exact p6.other (by omega) _
 have b3:Below B w W3:=by rw[<- Cn];exact(b2.trans (Ak.mono (by omega))).setCell (Ab _) _
 have sz3:W3.heap.size=w3.heap.size:=by rw[<- Cn];simp[World.setCell]
 have hz1'':Zed (Btw W1.heap.size w2.heap.size) W3 (fun K W=>Lm K W (.slice ra n1 rc) v.l1):=mO.move <| Agr.of fun b hb=>by rw[<- Cn];exact(Below.heap_setCell _ _ _ _ (by have := hb.1;show b≠B;omega)).trans (Ak.block b (by have := hb.2;omega))
 have zvo:Zed (Btw W2.heap.size w3.heap.size) W3 (fun K W=>Lm K W (.slice ta n2 tc) v.l2):=Ft.move <| Agr.of fun b hb=>by rw[<- Cn];exact Below.heap_setCell _ _ _ _ (by have := hb.1;show b≠B;omega)
 rw[Cn];clear Cn c0 c1 c2 c3 c4 c5 fr4 qrb Ft mO p3 p4 p5 p6;obtain⟨c0,c1,c2,c3,c4,c5⟩:=p7.six
 iterate 4 go_step
 refine Gu rfl 41 41 (.tmp 2) (.tmp 19) rfl (⟨kd,f1,.slice ra n1 rc,f2,.slice ta n2 tc,i⟩:Vv).cells _ (B+1) p8 qvt rfl (qz7 _ rfl rfl) rfl rfl ?_;intro W5 t1 t2 t3 t4
 clear c0 c1 c2 c3 c4 c5;have Aq:Below B w W5:=b3.trans (t2 B (by omega))
 have hA:∀ lo hi,B+2<=lo->hi<=W3.heap.size->Agr (Btw lo hi) W3 W5:=fun lo hi h1 h2=>Agr.of fun b hb=>t3.block b (by have := hb.2;omega) (fun e=>by simp at e;have := hb.1;omega)
 go_wp2_with fail
 refine bodyPost_ret (Pk rfl _ _ (B+1) _ _ t1 rfl Tryz.underlying41 rfl qvt) rfl ?_;refine⟨⟨kd,f1,.slice ra n1 rc,f2,.slice ta n2 tc,i⟩,rfl,fun W K ha hk=>?_,Aq⟩;have hx:=HX.out;exact⟨hx.kd,hx.b1,hx.b2,hx.i,(hz1''.move (hA _ _ (by omega) (by omega))).mono (rA (by omega) (by omega)) W K ha hk,(zvo.move (hA _ _ (by omega) (by omega))).mono (rA (by omega) (by omega)) W K ha hk⟩
def tq0 (x:Xv):Tv:=⟨x,0,vv0,0,false⟩
theorem zaz {K:Nat} {w:World} {e:Gx} {x:Xv} (h:ExG K w e x):TqX K w ⟨e,0,v0,0,false⟩ (tq0 x):=⟨h,rfl,rS _ _,rfl,rfl⟩
theorem zqk (w:World) (x:Xv):Blk ((w.alloc (.cells x.cells 43)).alloc (.cells (tq0 x).cells 79)) (w.heap.size+1) (tq0 x).cells 79:=by
 have := Blk.new (w.alloc (.cells x.cells 43)) (tq0 x).cells 79;rwa[World.size_alloc]at this
theorem zro (K:Nat) (e:Gx) (x:Xv) (w:World) (h:ExG K w e x) (hK:K<=w.heap.size) (Dc:¬ ((e.op=13\/e.op=14)/\e.args.length=2)) :
  Calls Tryz.prog 91 #[x.agg] w fun en w'=>∃ y:Tv,en=.returned y.agg/\TqX K w' (Ec e) y/\Below w.heap.size w w':=by
 have HX:=Aa h;have Jl:e.op=x.op:=h.open.1.symm;obtain⟨h1,h2,h3,hv,g,hr,Jz⟩:=h.open;have b1:Below w.heap.size w (w.alloc (.cells x.cells 43)):=Af _ _;obtain⟨sa,scap,Nh,Cp,Az⟩:=hr.form
 have ht:Ec e=⟨e,0,v0,0,false⟩:=by
  unfold Ec;rw[if_neg];simp only[Bool.and_eq_true,Bool.or_eq_true,beq_iff_eq];exact Dc
 rw[ht]
 have fin:∀ w',Below w.heap.size w w'->TqX K w' ⟨e,0,v0,0,false⟩ (tq0 x):=fun w' hb=>zaz (HX.out.below hb hK (Ab _))
 obtain⟨op,nm,kd,b3,s4,b5,s6,i7,s8⟩:=x;obtain⟨a8,n8,m8⟩:=s8;simp only[Sl.val,Value.slice.injEq]at Nh Jl;obtain⟨rfl,rfl,rfl⟩:=Nh;obtain⟨n,hn⟩:=Ae e.args.length;rw[Jl,hn]at Dc;rw[hn]at b1 fin;clear ht Jz h h1 h2 h3 hv hr Jl;simp only[hn];clear hn
 have zdg:(op=13\/op=14)/\((n:Int) != 2)=true\/((op != 13)=true/\(op != 14)=true):=by
  by_cases e13:op=13
  ·refine .inl ⟨.inl e13,?_⟩
   have:¬ n=2:=fun e=>Dc ⟨.inl e13,e⟩
   simp;omega
  ·by_cases e14:op=14
   ·refine .inl ⟨.inr e14,?_⟩
    have:¬ n=2:=fun e=>Dc ⟨.inr e14,e⟩
    simp;omega
   ·exact .inr ⟨by simp[e13],by simp[e14]⟩
 clear Dc
 have Bd:∀ y:Xv,∀ u∈(tq0 y).cells,u.oneCell'=true:=by intro y;simp[Value.oneCell',tq0]
 rcases zdg with⟨rfl | rfl,hx⟩ | ⟨x13,x14⟩
 all_goals
  go_enter Tryz.func91,Tryz.ntmps91
  go_upto_region 2 with fail
  iterate 7 go_step
  refine Iu rfl 79 (.tmp 2) (.tmp 21) rfl (tq0 ⟨_,nm,kd,b3,s4,b5,s6,i7,⟨a8,n,m8⟩⟩).cells _ Zk rfl (Bd _) (w.heap.size+1) (by simp) rfl rfl ?_;go_wp2_with fail
  refine bodyPost_ret (Pk rfl _ _ (w.heap.size+1) _ _ (zqk w _) rfl Tryz.underlying79 rfl Zk) rfl ?_;exact⟨_,rfl,fin _ (b1.alloc (by simp) _),b1.alloc (by simp) _⟩
def Dm (e:Gx) (k:Nat):Gx:=e.args[k]?.getD default
def lW (e:Gx) (k:Nat):Tq:=⟨Dm e (1-k),(Dm e k).v.kd,(Dm e k).v,e.op,k==0⟩
theorem qx9 {e:Gx} (ho:e.op=13\/e.op=14) (hl:e.args.length=2) (h:Mq (Dm e 0) (Dm e 1)=true):Ec e=lW e 0:=by
 unfold Ec Dm at *;rw[if_pos (by simp[ho,hl]),if_pos h];rfl
theorem qqq {e:Gx} (ho:e.op=13\/e.op=14) (hl:e.args.length=2) (h0:Mq (Dm e 0) (Dm e 1)=false) (h:Mq (Dm e 1) (Dm e 0)=true):Ec e=lW e 1:=by
 unfold Ec Dm at *;rw[if_pos (by simp[ho,hl]),if_neg (by rw[h0];simp),if_pos h];rfl
theorem zbm {e:Gx} (ho:e.op=13\/e.op=14) (hl:e.args.length=2) (h0:Mq (Dm e 0) (Dm e 1)=false) (h:Mq (Dm e 1) (Dm e 0)=false):Ec e=⟨e,0,v0,0,false⟩:=by
 unfold Ec Dm at *;rw[if_pos (by simp[ho,hl]),if_neg (by rw[h0];simp),if_neg (by rw[h];simp)]
theorem zgu {e:Gx} {k:Nat} (hk:k<2) (ho:e.op=13\/e.op=14) (hl:e.args.length=2) (h0:∀ j,j<k->Mq (Dm e j) (Dm e (1-j))=false) (h:Mq (Dm e k) (Dm e (1-k))=true):Ec e=lW e k:=by
 match k,hk with
 | 0,_=>exact qx9 ho hl h
 | 1,_=>exact qqq ho hl (h0 0 (by omega)) h
theorem sZ {e:Gx} {k:Nat} (hk:k<e.args.length):e.args[k]?=some (Dm e k):=by unfold Dm;rw[Ac hk];rfl
def xz:Xv:=⟨0,[],0,false,⟨none,0,0⟩,false,⟨none,0,0⟩,0,⟨none,0,0⟩⟩
theorem qlz (y:Tv) (h1:y.cut.s1.oneCell'=true) (h2:y.cut.s2.oneCell'=true):∀ u∈y.cells,u.oneCell'=true:=by
 simp only[Tv.cells,List.mem_toArray,List.mem_cons,List.not_mem_nil,or_false]
 rintro u (rfl | rfl | rfl | rfl | rfl | rfl | rfl | rfl | rfl | rfl | rfl | rfl | rfl | rfl | rfl | rfl | rfl | rfl)<;>first | rfl | assumption
theorem zwc (K:Nat) (e:Gx) (x:Xv) (w:World) (h:ExG K w e x) (hg:e.good=true) (hK:K<=w.heap.size) (ho:e.op=13\/e.op=14) (hl:e.args.length=2) :
  Calls Tryz.prog 91 #[x.agg] w fun en w'=>∃ y:Tv,en=.returned y.agg/\TqX K w' (Ec e) y/\Below w.heap.size w w':=by
 have HX:=Aa h;have Jl:e.op=x.op:=h.open.1.symm;obtain⟨h1,h2,h3,hv,g,hr,Jz⟩:=h.open;rw[hl]at hr;obtain⟨cb,co,cap,he,Dp,hm,Cj,hc⟩:=hr.pos (by omega)
 have HA:Hid (∀ k,k<2->ExG K w (Dm e k) (g k)/\(Dm e k).good=true):=Aa fun k hk=>⟨Jz k _ (sZ (by omega)),jW hg _ (List.mem_of_getElem? (sZ (show k<e.args.length by omega)))⟩
 have HG:=Aa hg;have HO:=Aa ho;have HL:=Aa hl;have HC:=Aa hc;obtain⟨op,nm,kd,b3,s4,b5,s6,i7,s8⟩:=x;obtain⟨a8,n8,m8⟩:=s8;simp only[Sl.val,Value.slice.injEq]at he Jl;obtain⟨rfl,rfl,rfl⟩:=he;obtain⟨x,hx⟩:∃ x:Xv,x=⟨op,nm,kd,b3,s4,b5,s6,i7,⟨some ⟨cb,co,none⟩,2,m8⟩⟩:=⟨_,rfl⟩;rw[<- hx]at HX ⊢
 have Dc:op=13\/op=14:=by rw[<- Jl];exact ho
 have aJ:Hid (op=e.op):=Aa Jl.symm;obtain⟨W1,Ah⟩:=Ae ((w.alloc (.cells x.cells 43)).alloc (.cells (tq0 xz).cells 79))
 have b1:Below w.heap.size w W1:=by rw[<- Ah];exact(Af _ _).alloc (by simp) _
 have q1:Blk W1 w.heap.size x.cells 43:=by rw[<- Ah];exact(Blk.new w _ _).alloc _
 have q2:Blk W1 (w.heap.size+1) (tq0 xz).cells 79:=by
  rw[<- Ah];have := Blk.new (w.alloc (.cells x.cells 43)) (tq0 xz).cells 79;rwa[World.size_alloc]at this
 have s1:W1.heap.size=w.heap.size+2:=by rw[<- Ah];simp
 obtain⟨B,hB⟩:=Ae w.heap.size;have HB:=Aa hB;have HW:=Aa Ah;rw[hB]at hK b1 q1 q2 s1 ⊢;rw[hx]at q1 HW ⊢;clear hB Ah h h1 h2 h3 hv hg ho hl Jl hr Jz hc Dp;unfold maxLen at hm;obtain⟨d0,d1,d2,d3,d4,d5,d6,d7,d8⟩:=q1.nine;have Cc:((2:Int) != 2)=false:=rfl;dsimp only[Xv.cells,Xv.agg,Tv.cells,tq0,xz,vv0]at HW ⊢
 rcases Dc with rfl | rfl
 all_goals
  go_enter Tryz.func91,Tryz.ntmps91
  go_upto_region 1 with fail
  simp only[HB.out];rw[HW.out]
  go_upto_region 3 with fail
  go_wp2_with fail
  clear d0 d1 d2 d3 d4 d5 d6 d7 d8;go_loopw [25] (fun i wr=>∃ k:Nat,k<=2/\i=.int .i64 k/\Blk wr B x.cells 43/\Blk wr (B+1) (tq0 xz).cells 79/\Below B w wr/\Hid (∀ j,j<k->Mq (Dm e j) (Dm e (1-j))=false)) (fun i _=>2-(intOf i).toNat)
  case atStart=>exact⟨0,Nat.zero_le _,rfl,by rw[hx];exact q1,q2,b1,Aa fun j hj=>absurd hj (Nat.not_lt_zero j)⟩
  case round =>
   obtain⟨k,hk,rfl,p1,p2,Bb,HF⟩:=hrel;rw[hx]at p1;obtain⟨d0,d1,d2,d3,d4,d5,d6,d7,d8⟩:=p1.nine;have Fh:=Bb.size
   by_cases Aj:k<2
   ·obtain⟨k',Ji⟩:∃ k':Nat,k'=1-k:=⟨_,rfl⟩
    have Jk:k'<2:=by omega
    have qcq:(1:Int)-(k:Int)=(k':Int):=by omega
    obtain⟨c0,c1,c2,c3,c4,c5,c6,c7,c8⟩:=N3 (Km Bb (by omega) HC.out) Aj;obtain⟨f0,f1,f2,f3,f4,f5,f6,f7,f8⟩:=N3 (Km Bb (by omega) HC.out) Jk;have HK:=HA.out k Aj;have qaf:=HA.out k' Jk;obtain⟨y,hy⟩:=Ae (g k);obtain⟨z,hz⟩:=Ae (g k');rw[hy]at c0 c1 c2 c3 c4 c5 c6 c7 c8 HK;rw[hz]at f0 f1 f2 f3 f4 f5 f6 f7 f8 qaf
    have zx6:cb<wr.heap.size:=by have := HB.out;omega
    have zyg:B<wr.heap.size:=p1.lt;have Qk:=Aa Ji;have HV:=HK.1.open.2.2.2.1;have Ma:Below B w ((wr.alloc (.cells y.cells 43)).alloc (.cells z.cells 43)):=(Bb.alloc (by have := HB.out;omega) _).alloc (by simp;have := HB.out;omega) _;have Hj:=xQ B (Dm e k).v y.vv ((wr.alloc (.cells y.cells 43)).alloc (.cells z.cells 43)) (HV.below Ma hK hK) (by simp;have := HB.out;omega) (qb8 HK.2);obtain⟨okv,qdm⟩:=Ae ((Dm e k).v.ok);rw[qdm]at Hj
    have A6:Hid (Mq (Dm e k) (Dm e (1-k))=(y.op==1 && z.op != 1 && y.kd != 1 && okv)):=Aa (by
     unfold Mq
     rw[<- Ji,HK.1.open.1,qaf.1.open.1,qdm,show y.kd=(Dm e k).v.kd from HV.kd])
    have HN:Hid (Mq (Dm e k) (Dm e (1-k))=false->∀ W',Below wr.heap.size wr W'->∃ m:Nat,m<=2/\Value.int .i64 ((k:Int)+1)=.int .i64 m/\Blk W' B x.cells 43/\Blk W' (B+1) (tq0 xz).cells 79/\Below B w W'/\Hid (∀ j,j<m->Mq (Dm e j) (Dm e (1-j))=false)):=Aa fun hf W' Gl=>by
     refine⟨k+1,by omega,by simp,by rw[hx];exact p1.below Gl p1.lt,p2.below Gl p2.lt,Bb.trans (Gl.mono (by have := HB.out;omega)),Aa fun j hj=>?_⟩
     by_cases Sb:j=k
     ·rw[Sb];exact hf
     ·exact HF.out j (by omega)
    have HT:Hid (Mq (Dm e k) (Dm e (1-k))=true->Ec e=lW e k):=Aa fun h=>zgu Aj HO.out HL.out HF.out h
    obtain⟨sn,L6⟩:=Ae ((k==0))
    have zyw:((k:Int)==0)=sn:=by rw[<- L6,Bool.eq_iff_iff];simp
    have gQ:=Aa L6;have Fw:Below wr.heap.size wr ((wr.alloc (.cells y.cells 43)).alloc (.cells z.cells 43)):=(Af _ _).alloc (by simp) _;have q5:Blk ((wr.alloc (.cells y.cells 43)).alloc (.cells z.cells 43)) wr.heap.size y.cells 43:=(Blk.new wr _ _).alloc _
    have q6:Blk ((wr.alloc (.cells y.cells 43)).alloc (.cells z.cells 43)) (wr.heap.size+1) z.cells 43:=by
     have := Blk.new (wr.alloc (.cells y.cells 43)) z.cells 43;rwa[World.size_alloc]at this
    have Js:=Aa Fw;have Jq:=Aa q5;have aY:=Aa q6;have qvh:=Aa HK;have zsr:=Aa qaf;clear hy hz Ji qdm L6 HV HK qaf Fw q5 q6 Ma
    by_cases e1:y.op=1
    case neg =>
     have e1':(y.op==1)=false:=by simp[e1]
     have Ro:=A6.out.trans (show(y.op==1 && z.op != 1 && y.kd != 1 && okv)=false by simp[e1']);have Zt:=HN.out Ro _ Js.out;clear e1 Ro Hj
     go_upto_region 7 with fail
     go_wp2_with fail
     exact⟨Zt,by simp[intOf];omega⟩
    have e1':(y.op==1)=true:=by simp[e1]
    clear e1
    by_cases e2:z.op=1
    case pos =>
     have e2':(z.op != 1)=false:=by simp[e2]
     have Ro:=A6.out.trans (show(y.op==1 && z.op != 1 && y.kd != 1 && okv)=false by simp[e2']);have Zt:=HN.out Ro _ Js.out;clear e2 Ro Hj
     go_upto_region 7 with fail
     go_wp2_with fail
     exact⟨Zt,by simp[intOf];omega⟩
    by_cases e3:y.kd=1
    case pos =>
     have e2':(z.op != 1)=true:=by simp[e2]
     have e3':(y.kd != 1)=false:=by simp[e3]
     have Ro:=A6.out.trans (show(y.op==1 && z.op != 1 && y.kd != 1 && okv)=false by simp[e3']);have Zt:=HN.out Ro _ Js.out;clear e2 e3 Ro Hj
     go_upto_region 7 with fail
     go_wp2_with fail
     exact⟨Zt,by simp[intOf];omega⟩
    have e2':(z.op != 1)=true:=by simp[e2]
    have e3':(y.kd != 1)=true:=by simp[e3]
    rw[e1',e2',e3']at A6;clear e2 e3
    go_upto_region 7 with fail
    go_wp2_with fail
    refine Hj.mono ?_;rintro en w3 ⟨rfl,Ak⟩;clear d0 d1 d2 d3 d4 d5 d6 d7 d8 c0 c1 c2 c3 c4 c5 c6 c7 c8 f0 f1 f2 f3 f4 f5 f6 f7 f8 Hj;have Al:Below wr.heap.size wr w3:=Js.out.trans (Ak.mono (by simp;omega))
    cases okv with
    | false =>
     have Zt:=HN.out (A6.out.trans rfl) _ Al;go_wp2_with fail
     exact⟨Zt,by simp[intOf];omega⟩
    | true =>
     have r5:=Jq.out.below Ak (by simp;omega);have r6:=aY.out.below Ak (by simp);obtain⟨d0,d1,d2,d3,d4,d5,d6,d7,d8⟩:=(p1.below Al p1.lt).nine;obtain⟨c0,c1,c2,c3,c4,c5,c6,c7,c8⟩:=r5.nine;obtain⟨f0,f1,f2,f3,f4,f5,f6,f7,f8⟩:=r6.nine;have p3:=p2.below Al p2.lt
     go_upto_region 8 with fail
     iterate 34 go_step
     refine Gu rfl 79 79 (.tmp 2) (.tmp 65) rfl (⟨z,y.kd,y.vv,_,sn⟩:Tv).cells _ (B+1) p3 Zk rfl (qlz _ rfl rfl) rfl rfl ?_;intro W5 t1 t2 t3 t4
     clear d0 d1 d2 d3 d4 d5 d6 d7 d8 c0 c1 c2 c3 c4 c5 c6 c7 c8 f0 f1 f2 f3 f4 f5 f6 f7 f8;have Aq:Below B w W5:=(Bb.trans (Al.mono (by have := HB.out;omega))).trans (t2 B (by omega));go_wp2_with fail
     refine bodyPost_ret (Pk rfl _ _ (B+1) _ _ t1 rfl Tryz.underlying79 rfl Zk) rfl ?_;refine⟨_,rfl,?_,Aq⟩;rw[HT.out (A6.out.trans rfl)];unfold lW;rw[<- Qk.out,gQ.out];have zm2:K<=B:=hK;exact⟨zsr.out.1.below Aq hK (Ab _),qvh.out.1.open.2.2.2.1.kd,qvh.out.1.open.2.2.2.1.below Aq hK (Ab _),aJ.out,rfl⟩
   ·obtain rfl:k=2:=by omega
    have HT:=Aa (zbm HO.out HL.out (HF.out 0 (by omega)) (HF.out 1 (by omega)))
    go_upto_region 10 with fail
    iterate 7 go_step
    refine Gu rfl 79 79 (.tmp 2) (.tmp 68) rfl (tq0 x).cells _ (B+1) p2 Zk rfl (by rw[hx];exact qlz _ rfl rfl) rfl (by rw[hx];rfl) ?_;intro W5 t1 t2 t3 t4
    clear d0 d1 d2 d3 d4 d5 d6 d7 d8;have Aq:Below B w W5:=Bb.trans (t2 B (by omega));go_wp2_with fail
    refine bodyPost_ret (Pk rfl _ _ (B+1) _ _ t1 rfl Tryz.underlying79 rfl Zk) rfl ?_;refine⟨_,rfl,?_,Aq⟩;rw[HT.out];exact zaz (HX.out.below Aq hK (Ab _))
theorem qoi (K:Nat) (e:Gx) (x:Xv) (w:World) (h:ExG K w e x) (hg:e.good=true) (hK:K<=w.heap.size) :
  Calls Tryz.prog 91 #[x.agg] w fun en w'=>∃ y:Tv,en=.returned y.agg/\TqX K w' (Ec e) y/\Below w.heap.size w w':=by
 by_cases Dc:(e.op=13\/e.op=14)/\e.args.length=2
 ·exact zwc K e x w h hg hK Dc.1 Dc.2
 ·exact zro K e x w h hK Dc
end Go.Proofs.YtlldjmagbjjeoaaGreatDoor
