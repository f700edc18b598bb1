/- Contracts and plain laws, several texts in one (DBld, DIdxF, GlM4). No conditions beyond those stated. -/
import Derived.Test.YtlldjmagbjjeoaaGreatDoorPk26
import Derived.Test.YtlldjmagbjjeoaaGreatDoorPk29
set_option maxRecDepth 100000
set_option maxHeartbeats 40000000
namespace Go.Proofs.YtlldjmagbjjeoaaGreatDoor
open Go.RowKit
set_option linter.unusedVariables false
theorem Gk.ints {base:Nat} {w:World} {v:Value} {l:List Int} (h:Gk base w v l):Re w.heap.size w v l :=
 (qye h (by simp)).congr fun i hi j _=>by simp[hi]
theorem zkl {base:Nat} {w:World} {v:Value} {l:List Int} (h:Gk base w v l) {F:Nat->Prop} (hF:∀ b,v.ownBlock=some b->F b):Zed F w fun K W=>Re K W v l:=by
 intro W K ha hK
 obtain⟨h1,h2⟩:=qa3 h hF W K ha hK;have hn:=Gk.ints (show Gk base W v l from h2);obtain⟨a,cap,hv,h3,h4,h5,h6⟩:=hn;refine⟨a,cap,hv,h3,h4,h5,fun i hi=>?_⟩;obtain⟨b,o,rfl,hb,hc⟩:=h6 i hi;refine⟨b,o,rfl,?_,hc⟩
 rcases h1 with⟨h1,h0⟩ | ⟨g,hg,P9⟩
 ·omega
 ·rw[hv]at hg
  simp only[Value.ownBlock,Option.some.injEq]at hg;omega
theorem Re.form {K:Nat} {w:World} {v:Value} {l:List Int} (h:Re K w v l):∃ a c,v=.slice a l.length c/\l.length<=c/\c<=maxLen:=Au.form h
theorem RO.add2 {α:Type} {c T:Nat} {row:α->Value->List Value} {R:α->Value->Nat->World->Prop} {base:Nat} {w w5:World} {v v' u:Value} {L:List α} {vs:List Value} {F G:Nat->Prop} {a:α}
  (h:RO c T row R base w v L vs F) (hz:Zed G w (R a u)) (hG:∀ b,G b->base<=b/\b<w.heap.size/\v.ownBlock≠some b)
  (hg:w.grownBy w5 v.ownBlock) (Av:Be c T base w5 v' (List.zipWith row L vs++[row a u])) (Bq:∀ g,v'.ownBlock=some g->v.ownBlock=some g\/w.heap.size<=g) :
  RO c T row R base w5 v' (L++[a]) (vs++[u]) (fun b=>F b\/G b):=by
 have Dn:=hg.size
 have Us:Agr F w w5:=Agr.of fun b hb=>hg.block b (h.rng b hb).2 fun e=>h.nv b hb e.symm
 have qeq:Agr G w w5:=Agr.of fun b hb=>hg.block b (hG b hb).2.1 fun e=>(hG b hb).2.2 e.symm
 refine⟨by simp[h.len],by rw[qhf row L vs a u h.len.symm];exact Av,fun b hb=>?_,fun b hb e=>?_,fun i a' u' h1 h2=>?_⟩
 ·rcases hb with hb | hb
  ·have := h.rng b hb;omega
  ·have := hG b hb;omega
 ·rcases Bq b e with h1 | h1
  ·rcases hb with hb | hb
   ·exact h.nv b hb h1
   ·exact(hG b hb).2.2 h1
  ·rcases hb with hb | hb
   ·have := (h.rng b hb).2;omega
   ·have := (hG b hb).2.1;omega
 ·by_cases Cr:i<L.length
  ·rw[List.getElem?_append_left Cr]at h1
   rw[List.getElem?_append_left (by rw[h.len];exact Cr)]at h2
   exact((h.dat i a' u' h1 h2).move Us).mono fun b hb=>.inl hb
  ·have P6:i<(L++[a]).length:=(List.getElem?_eq_some_iff.1 h1).1
   have:i=L.length:=by simp at P6;omega
   subst this;rw[List.getElem?_append_right (Ab _),Nat.sub_self]at h1;rw[List.getElem?_append_right (by rw[h.len];exact Ab _),h.len,Nat.sub_self]at h2;cases h1;cases h2
   exact(hz.move qeq).mono fun b hb=>.inr hb
abbrev fT (x:Nat × List Int) (u:Value):List Value:=[Z x.1,u]
abbrev DO:=@RO (Nat × List Int) 2 97 fT (fun x u K W=>Re K W u x.2)
theorem DO.read {base:Nat} {w:World} {v:Value} {L:List (Nat × List Int)} {vs:List Value} {F:Nat->Prop} (h:DO base w v L vs F):NdX w.heap.size w v L:=by
 refine⟨fun i=>vs[i]?.getD undef,h.rows.congr fun i hi j hj=>?_,fun i hi=>?_⟩
 ·have hv:vs[i]?=some (vs[i]'(by rw[h.len];exact hi)):=Ac _
  rw[vI (row:=fT) (Ac hi) hv,Ac hi]
  match j,hj with
  | 0,_=>rfl
  | 1,_=>show vs[i]'(by rw[h.len];exact hi)=vs[i]?.getD undef;rw[hv];rfl
 ·have hv:vs[i]?=some (vs[i]'(by rw[h.len];exact hi)):=Ac _
  have := h.get (Ac hi) hv
  show Re _ _ (vs[i]?.getD undef) (L[i]?.getD (0,[])).2
  rw[hv,Ac hi];exact this
def Ty (P:List Nat->Prop) (p:List Nat->Bool) (u:Value) (K:Nat) (W:World):Prop :=
 ∃ (g:Nat) (caps:Array Value),u=.func (.func g) #[] caps/\(∀ args W',(callFunc g args).run Tryz.prog W'=.ok (.enter g args) W') ∧
  ∀ (W':World) (v:Value) (cs:List Nat),Below K W W'->K<=W'.heap.size->Ee W'.heap.size W' v cs->P cs->Calls Tryz.prog g (#[v]++caps) W' fun e W''=>e=.returned (.bool (p cs))/\Below W'.heap.size W' W''
theorem Ty.one {P:List Nat->Prop} {p:List Nat->Bool} {u:Value} {K:Nat} {W:World} (h:Ty P p u K W):u.oneCell'=true:=by obtain⟨g,caps,rfl,_⟩:=h;rfl
structure Bdr where
 bb:Nat
 cb:Nat
 nm:Nat
 lm:Nat
 B:Nat
 T:Nat
 sv:Sl
 cv:Sl
 pv:Sl
 fv:Nat->Value
 gv:Nat->Value
 F:Nat->Prop
structure Ue (x:Bdr):Prop where
 l1:x.B<=x.bb
 l2:x.B<=x.cb
 l3:x.B<=x.nm
 l4:x.B<=x.lm
 u1:x.bb<x.T
 u2:x.cb<x.T
 u3:x.nm<x.T
 u4:x.lm<x.T
 n1:x.bb≠x.cb
 n2:x.bb≠x.nm
 n3:x.bb≠x.lm
 n4:x.cb≠x.nm
 n5:x.cb≠x.lm
 n6:x.nm≠x.lm
abbrev nmF (l:List (Nat × List Int)):Str->Option Value:=fun s=>(atKey P7 l s).map Z
abbrev lmF (l:List (List Nat)):Str->Option Value:=fun s=>(atKey Y0 l s).map Z
structure Dy where
 nv:Sl
 lv:Sl
 ns:List Value
 ls:List Value
 F1:Nat->Prop
 F2:Nat->Prop
abbrev Bdr.cells (x:Bdr) (nv lv:Sl):Array Value:=#[x.sv.val,nv.val,lv.val,.int .i64 0,x.cv.val,x.pv.val,.slice (some ⟨x.cb,0,none⟩) x.sv.n x.sv.n,.map (some x.nm),.map (some x.lm)]
def StR (x:Bdr) (scs:List Sc) (es:List Gx) (K:Nat) (W:World):Prop :=
 Au 1 (fun i _=>x.fv i) K W x.cv.val es.length/\(∀ i,i<es.length->Ty (Cu (pcs scs)) (fun cs=>evG scs cs (es[i]?.getD default)) (x.fv i) K W) ∧
  Au 1 (fun i _=>x.gv i) K W x.pv.val (pcs scs).length/\∀ i,i<(pcs scs).length->Ee K W (x.gv i) ((pcs scs)[i]?.getD [])
structure BI (x:Bdr) (scs:List Sc) (es:List Gx) (d:Dy) (st sm:DSt) (cur:List Nat) (w:World):Prop where
 blk:Blk w x.bb (x.cells d.nv d.lv) 89
 nds:DO x.T w d.nv.val st.nds d.ns d.F1
 lvs:NO x.T w d.lv.val st.lvs d.ls d.F2
 nmap:Ek w 9 x.nm sm.nds.length (fS (nmF sm.nds))
 lmap:Ek w 9 x.lm sm.lvs.length (fS (lmF sm.lvs))
 cells:Blk w x.cb (cur.map Z).toArray 3
 len:cur.length=x.sv.n
 scl:scs.length=x.sv.n
 f1:∀ b,d.F1 b->d.lv.val.ownBlock≠some b
 f2:∀ b,d.F2 b->d.nv.val.ownBlock≠some b
 big:x.T<=w.heap.size
 sta:Zed x.F w (StR x scs es)
 stl:∀ b,x.F b->b<x.T/\b≠x.bb/\b≠x.cb/\b≠x.nm/\b≠x.lm
structure Fr (x:Bdr) (d d':Dy) (w w':World):Prop where
 bel:Below x.B w w'
 keep:∀ b,b<w.heap.size->b≠x.bb->b≠x.cb->b≠x.nm->b≠x.lm->d.nv.val.ownBlock≠some b->d.lv.val.ownBlock≠some b->w'.heap[b]?=w.heap[b]?
 nat:∀ g,d'.nv.val.ownBlock=some g->d.nv.val.ownBlock=some g\/w.heap.size<=g
 lat:∀ g,d'.lv.val.ownBlock=some g->d.lv.val.ownBlock=some g\/w.heap.size<=g
 f1:∀ g,d'.F1 g->d.F1 g\/w.heap.size<=g
 f2:∀ g,d'.F2 g->d.F2 g\/w.heap.size<=g
theorem Fr.trans {x:Bdr} {d d' d'':Dy} {w w' w'':World} (h:Fr x d d' w w') (h':Fr x d' d'' w' w''):Fr x d d'' w w'':=by
 have hs:=h.bel.size
 have key:∀ {p q r:Nat->Prop},(∀ g,q g->p g\/w.heap.size<=g)->(∀ g,r g->q g\/w'.heap.size<=g)->∀ g,r g->p g\/w.heap.size<=g:=fun h1 h2 g hg=>by
  rcases h2 g hg with h3 | h3
  ·exact h1 g h3
  ·exact .inr (by omega)
 refine⟨h.bel.trans h'.bel,fun b hb b1 b2 b3 b4 b5 b6=>(h'.keep b (by omega) b1 b2 b3 b4 (fun e=>?_) (fun e=>?_)).trans (h.keep b hb b1 b2 b3 b4 b5 b6),key h.nat h'.nat,key h.lat h'.lat,key h.f1 h'.f1,key h.f2 h'.f2⟩
 ·rcases h.nat b e with h1 | h1
  ·exact b5 h1
  ·omega
 ·rcases h.lat b e with h1 | h1
  ·exact b6 h1
  ·omega
theorem Fr.old {x:Bdr} {d:Dy} {w w':World} (hb:Below w.heap.size w w') (hB:x.B<=w.heap.size):Fr x d d w w' :=
 ⟨hb.mono hB,fun b hl _ _ _ _ _ _=>hb.block b hl,fun g h=>.inl h,fun g h=>.inl h,fun g h=>.inl h,fun g h=>.inl h⟩
section
variable {x:Bdr} {scs:List Sc} {es:List Gx} {d:Dy} {st sm:DSt} {cur:List Nat} {w w':World}
theorem BI.nlow (h:BI x scs es d st sm cur w) {g:Nat} (hg:d.nv.val.ownBlock=some g):x.T<=g/\g<w.heap.size:=⟨h.nds.own.low hg,h.nds.own.lt hg⟩
theorem BI.llow (h:BI x scs es d st sm cur w) {g:Nat} (hg:d.lv.val.ownBlock=some g):x.T<=g/\g<w.heap.size:=⟨h.lvs.own.low hg,h.lvs.own.lt hg⟩
theorem BI.apart (h:BI x scs es d st sm cur w) {g:Nat} (hg:d.nv.val.ownBlock=some g):d.lv.val.ownBlock≠some g:=qae h.nds.own h.lvs.own (by decide) hg
theorem BI.old (h:BI x scs es d st sm cur w) (hb:Below w.heap.size w w') (ok:Ue x):BI x scs es d st sm cur w' where
 blk:=h.blk.below hb h.blk.lt
 nds:=h.nds.old hb (Ab _)
 lvs:=h.lvs.old hb (Ab _)
 nmap:=h.nmap.below hb h.nmap.lt
 lmap:=h.lmap.below hb h.lmap.lt
 cells:=h.cells.below hb h.cells.lt
 len:=h.len
 scl:=h.scl
 f1:=h.f1
 f2:=h.f2
 big:=Nat.le_trans h.big hb.size
 sta:=h.sta.move (bH hb fun b hF=>by have := (h.stl b hF).1;have := h.big;omega)
 stl:=h.stl
theorem BI.fr_old (h:BI x scs es d st sm cur w) (ok:Ue x) (hb:Below w.heap.size w w'):Fr x d d w w':=Fr.old hb (by have := ok.l1;have := ok.u1;have := h.big;omega)
theorem BI.get (h:BI x scs es d st sm cur w):StR x scs es w.heap.size w:=h.sta.get fun b hb=>by have := (h.stl b hb).1;have := h.big;omega
theorem BI.setCur (h:BI x scs es d st sm cur w) (ok:Ue x) (i c:Nat):BI x scs es d st sm (cur.set i c) (w.setCell ⟨x.cb,i,none⟩ (Z c)) where
 blk:=h.blk.other ok.n1 _
 nds:=h.nds.kept (Fm w x.cb i _) (fun b e hF=>by cases e;have := (h.nds.rng _ hF).1;have := ok.u2;omega) (fun b e hv=>by cases e;have := (h.nlow hv).1;have := ok.u2;omega)
 lvs:=h.lvs.kept (Fm w x.cb i _) (fun b e hF=>by cases e;have := (h.lvs.rng _ hF).1;have := ok.u2;omega) (fun b e hv=>by cases e;have := (h.llow hv).1;have := ok.u2;omega)
 nmap:=h.nmap.kept (Fm w x.cb i _) (by simpa using ok.n4.symm)
 lmap:=h.lmap.kept (Fm w x.cb i _) (by simpa using ok.n5.symm)
 cells:=by
  have := h.cells.set (i:=i) (Z c);rw[List.map_set];rwa[<- List.setIfInBounds_toArray]at *
 len:=by rw[List.length_set];exact h.len
 scl:=h.scl
 f1:=h.f1
 f2:=h.f2
 big:=by have := h.big;simpa [World.setCell] using this
 sta:=h.sta.move (Agr.of fun b hF=>Below.heap_setCell _ _ _ _ (h.stl b hF).2.2.1)
 stl:=h.stl
theorem BI.fr_cur (h:BI x scs es d st sm cur w) (ok:Ue x) (i c:Nat):Fr x d d w (w.setCell ⟨x.cb,i,none⟩ (Z c)) :=
 ⟨(Below.refl _ _).setCell (p:=⟨x.cb,i,none⟩) ok.l2 _,fun b hl _ h2 _ _ _ _=>Below.heap_setCell _ _ _ _ h2,fun g h=>.inl h,fun g h=>.inl h,fun g h=>.inl h,fun g h=>.inl h⟩
theorem BI.putL (h:BI x scs es d st sm cur w) (ok:Ue x) {l':List (List Nat)} (hg:w.grownBy w' (some x.lm)) (hm:Ek w' 9 x.lm l'.length (fS (lmF l'))):BI x scs es d st ⟨sm.nds,l'⟩ cur w' where
 blk:=h.blk.kept hg (by simpa using ok.n3)
 nds:=h.nds.kept hg (fun b e hF=>by cases e;have := (h.nds.rng _ hF).1;have := ok.u4;omega) (fun b e hv=>by cases e;have := (h.nlow hv).1;have := ok.u4;omega)
 lvs:=h.lvs.kept hg (fun b e hF=>by cases e;have := (h.lvs.rng _ hF).1;have := ok.u4;omega) (fun b e hv=>by cases e;have := (h.llow hv).1;have := ok.u4;omega)
 nmap:=h.nmap.kept hg (by simpa using ok.n6)
 lmap:=hm
 cells:=h.cells.kept hg (by simpa using ok.n5)
 len:=h.len
 scl:=h.scl
 f1:=h.f1
 f2:=h.f2
 big:=Nat.le_trans h.big hg.size
 sta:=h.sta.move (Agr.of fun b hF=>hg.block b (by have := (h.stl b hF).1;have := h.big;omega) fun e=>(h.stl b hF).2.2.2.2 (by simpa using e))
 stl:=h.stl
theorem BI.putN (h:BI x scs es d st sm cur w) (ok:Ue x) {n':List (Nat × List Int)} (hg:w.grownBy w' (some x.nm)) (hm:Ek w' 9 x.nm n'.length (fS (nmF n'))):BI x scs es d st ⟨n',sm.lvs⟩ cur w' where
 blk:=h.blk.kept hg (by simpa using ok.n2)
 nds:=h.nds.kept hg (fun b e hF=>by cases e;have := (h.nds.rng _ hF).1;have := ok.u3;omega) (fun b e hv=>by cases e;have := (h.nlow hv).1;have := ok.u3;omega)
 lvs:=h.lvs.kept hg (fun b e hF=>by cases e;have := (h.lvs.rng _ hF).1;have := ok.u3;omega) (fun b e hv=>by cases e;have := (h.llow hv).1;have := ok.u3;omega)
 nmap:=hm
 lmap:=h.lmap.kept hg (by simpa using ok.n6.symm)
 cells:=h.cells.kept hg (by simpa using ok.n4)
 len:=h.len
 scl:=h.scl
 f1:=h.f1
 f2:=h.f2
 big:=Nat.le_trans h.big hg.size
 sta:=h.sta.move (Agr.of fun b hF=>hg.block b (by have := (h.stl b hF).1;have := h.big;omega) fun e=>(h.stl b hF).2.2.2.1 (by simpa using e))
 stl:=h.stl
theorem BI.fr_put (h:BI x scs es d st sm cur w) (ok:Ue x) {r:Nat} (hr:r=x.nm\/r=x.lm) (hg:w.grownBy w' (some r)):Fr x d d w w' :=
 ⟨Sq hg (fun k e=>by cases e;have := ok.l3;have := ok.l4;omega) (by have := ok.l1;have := ok.u1;have := h.big;omega),fun b hl _ _ h3 h4 _ _=>hg.block b hl fun e=>by simp only[Option.some.injEq]at e;omega,fun g h=>.inl h,fun g h=>.inl h,fun g h=>.inl h,fun g h=>.inl h⟩
theorem BI.other (h:BI x scs es d st sm cur w) (ok:Ue x) {row:Option Nat} (hg:w.grownBy w' row) (hr:∀ g,row=some g->x.T<=g/\d.nv.val.ownBlock≠some g/\d.lv.val.ownBlock≠some g/\¬ d.F1 g/\¬ d.F2 g):BI x scs es d st sm cur w' where
 blk:=h.blk.kept hg (fun e=>by have := (hr _ e.symm).1;have := ok.u1;omega)
 nds:=h.nds.kept hg (fun b e=>(hr b e).2.2.2.1) (fun b e=>(hr b e).2.1)
 lvs:=h.lvs.kept hg (fun b e=>(hr b e).2.2.2.2) (fun b e=>(hr b e).2.2.1)
 nmap:=h.nmap.kept hg (fun e=>by have := (hr _ e.symm).1;have := ok.u3;omega)
 lmap:=h.lmap.kept hg (fun e=>by have := (hr _ e.symm).1;have := ok.u4;omega)
 cells:=h.cells.kept hg (fun e=>by have := (hr _ e.symm).1;have := ok.u2;omega)
 len:=h.len
 scl:=h.scl
 f1:=h.f1
 f2:=h.f2
 big:=Nat.le_trans h.big hg.size
 sta:=h.sta.move (Agr.of fun b hF=>hg.block b (by have := (h.stl b hF).1;have := h.big;omega) fun e=>by have := (hr _ e.symm).1;have := (h.stl b hF).1;omega)
 stl:=h.stl
theorem BI.pushL (h:BI x scs es d st sm cur w) (ok:Ue x) {d0:Dy} {w0:World} (Id:Fr x d0 d w0 w) {l:List Nat} {u:Value} {G:Nat->Prop} {g n cap:Nat} (hz:Zed G w fun K W=>Ee K W u l) (Yz:∀ b,G b->w0.heap.size<=b) (hG:∀ b,G b->x.T<=b/\b<w.heap.size/\d.lv.val.ownBlock≠some b/\d.nv.val.ownBlock≠some b)
  (hg:w.grownBy w' d.lv.val.ownBlock) (Av:Be 1 34 x.T w' (.slice (some ⟨g,0,none⟩) n cap) (List.zipWith (fun(_:List Nat) (u:Value)=>[u]) st.lvs d.ls++[[u]])) (Bq:d.lv.val.ownBlock=some g\/g=w.heap.size) :
  BI x scs es { d with lv:=⟨some ⟨g,0,none⟩,n,cap⟩,ls:=d.ls++[u],F2:=fun b=>d.F2 b\/G b } ⟨st.nds,st.lvs++[l]⟩ sm cur (w'.setCell ⟨x.bb,2,none⟩ (.slice (some ⟨g,0,none⟩) n cap)) ∧
  Fr x d0 { d with lv:=⟨some ⟨g,0,none⟩,n,cap⟩,ls:=d.ls++[u],F2:=fun b=>d.F2 b\/G b } w0 (w'.setCell ⟨x.bb,2,none⟩ (.slice (some ⟨g,0,none⟩) n cap)):=by
 have Mj:∀ b,b<x.T->some b≠d.lv.val.ownBlock:=fun b hb e=>by have := (h.llow e.symm).1;omega
 have wS:x.T<=g:=by
  rcases Bq with e | e
  ·exact(h.llow e).1
  ·have := h.big;omega
 have hs:=hg.size
 have C0:=RO.add2 (a:=l) (u:=u) h.lvs hz (fun b hb=>⟨(hG b hb).1,(hG b hb).2.1,(hG b hb).2.2.1⟩) hg Av (fun q hq=>by
  simp only[Value.ownBlock,Option.some.injEq]at hq;subst hq
  rcases Bq with e | e
  ·exact .inl e
  ·exact .inr (by omega))
 have Nb:=Fm w' x.bb 2 (.slice (some ⟨g,0,none⟩) n cap)
 have Fe:∀ b,b<w.heap.size->d.lv.val.ownBlock≠some b->b≠x.bb->(w'.setCell ⟨x.bb,2,none⟩ (.slice (some ⟨g,0,none⟩) n cap)).heap[b]?=w.heap[b]? := fun b hb h1 h2=>(Below.heap_setCell _ _ _ _ h2).trans (hg.block b hb fun e=>h1 e.symm)
 refine⟨{ h with
  blk:=?_
  nds:=?_
  lvs:=?_
  nmap:=(h.nmap.kept hg (Mj _ ok.u3)).kept Nb (by simpa using ok.n2.symm)
  lmap:=(h.lmap.kept hg (Mj _ ok.u4)).kept Nb (by simpa using ok.n3.symm)
  cells:=(h.cells.kept hg (Mj _ ok.u2)).other ok.n1.symm _
  f1:=?_
  f2:=?_
  big:=Nat.le_trans h.big (Nat.le_trans hs Nb.size)
  sta:=?_ },?_⟩
 ·exact(h.blk.kept hg (Mj _ ok.u1)).set (i:=2) _
 ·refine h.nds.move (Agr.of fun b hb=>Fe b (h.nds.rng b hb).2 (h.f1 b hb) (by have := (h.nds.rng b hb).1;have := ok.u1;omega)) (fun q hq=>Fe q (h.nlow hq).2 (h.apart hq) (by have := (h.nlow hq).1;have := ok.u1;omega)) (Nat.le_trans hs Nb.size)
 ·exact C0.kept Nb (fun b e hF=>by cases e;have := (C0.rng _ hF).1;have := ok.u1;omega) (fun b e hv=>by cases e;have := C0.own.low hv;have := ok.u1;omega)
 ·intro b hb e
  have e:g=b:=by simpa [Value.ownBlock] using e
  subst e
  rcases Bq with e | e
  ·exact h.f1 _ hb e
  ·have := (h.nds.rng _ hb).2;omega
 ·intro b hb
  rcases hb with hb | hb
  ·exact h.f2 b hb
  ·exact(hG b hb).2.2.2
 ·exact h.sta.move (Agr.of fun b hF=>Fe b (by have := (h.stl b hF).1;have := h.big;omega) (fun e=>by have := (h.stl b hF).1;have := (h.llow e).1;omega) (h.stl b hF).2.1)
 ·have Ol:=Id.bel.size
  have qeh:∀ q,(Value.slice (some ⟨g,0,none⟩) n cap).ownBlock=some q->d0.lv.val.ownBlock=some q\/w0.heap.size<=q:=fun q hq=>by
   have hq:g=q:=by simpa [Value.ownBlock] using hq
   subst hq
   rcases Bq with e | e
   ·exact Id.lat _ e
   ·exact .inr (by omega)
  have qkq:∀ q,d.F2 q\/G q->d0.F2 q\/w0.heap.size<=q:=fun q hq=>by
   rcases hq with hq | hq
   ·exact Id.f2 q hq
   ·exact .inr (Yz q hq)
  refine⟨Id.bel.trans ((Sq hg (fun k e=>by have := (h.llow e).1;have := ok.l1;have := ok.u1;omega) (by have := ok.l1;have := ok.u1;have := h.big;omega)).setCell (p:=⟨x.bb,2,none⟩) ok.l1 _),fun b hl h1 h2 h3 h4 h5 h6=>(Fe b (by omega) (fun e=>?_) h1).trans (Id.keep b hl h1 h2 h3 h4 h5 h6),Id.nat,qeh,Id.f1,qkq⟩
  rcases Id.lat b e with h7 | h7
  ·exact h6 h7
  ·omega
theorem BI.pushN (h:BI x scs es d st sm cur w) (ok:Ue x) {d0:Dy} {w0:World} (Id:Fr x d0 d w0 w) {z:Nat × List Int} {u:Value} {G:Nat->Prop} {g n cap:Nat} (hz:Zed G w fun K W=>Re K W u z.2) (Yz:∀ b,G b->w0.heap.size<=b) (hG:∀ b,G b->x.T<=b/\b<w.heap.size/\d.nv.val.ownBlock≠some b/\d.lv.val.ownBlock≠some b)
  (hg:w.grownBy w' d.nv.val.ownBlock) (Av:Be 2 97 x.T w' (.slice (some ⟨g,0,none⟩) n cap) (List.zipWith fT st.nds d.ns++[fT z u])) (Bq:d.nv.val.ownBlock=some g\/g=w.heap.size) :
  BI x scs es { d with nv:=⟨some ⟨g,0,none⟩,n,cap⟩,ns:=d.ns++[u],F1:=fun b=>d.F1 b\/G b } ⟨st.nds++[z],st.lvs⟩ sm cur (w'.setCell ⟨x.bb,1,none⟩ (.slice (some ⟨g,0,none⟩) n cap)) ∧
  Fr x d0 { d with nv:=⟨some ⟨g,0,none⟩,n,cap⟩,ns:=d.ns++[u],F1:=fun b=>d.F1 b\/G b } w0 (w'.setCell ⟨x.bb,1,none⟩ (.slice (some ⟨g,0,none⟩) n cap)):=by
 have Mj:∀ b,b<x.T->some b≠d.nv.val.ownBlock:=fun b hb e=>by have := (h.nlow e.symm).1;omega
 have hs:=hg.size
 have C0:=RO.add2 (a:=z) (u:=u) h.nds hz (fun b hb=>⟨(hG b hb).1,(hG b hb).2.1,(hG b hb).2.2.1⟩) hg Av (fun q hq=>by
  simp only[Value.ownBlock,Option.some.injEq]at hq;subst hq
  rcases Bq with e | e
  ·exact .inl e
  ·exact .inr (by omega))
 have Nb:=Fm w' x.bb 1 (.slice (some ⟨g,0,none⟩) n cap)
 have Fe:∀ b,b<w.heap.size->d.nv.val.ownBlock≠some b->b≠x.bb->(w'.setCell ⟨x.bb,1,none⟩ (.slice (some ⟨g,0,none⟩) n cap)).heap[b]?=w.heap[b]? := fun b hb h1 h2=>(Below.heap_setCell _ _ _ _ h2).trans (hg.block b hb fun e=>h1 e.symm)
 refine⟨{ h with
  blk:=?_
  nds:=?_
  lvs:=?_
  nmap:=(h.nmap.kept hg (Mj _ ok.u3)).kept Nb (by simpa using ok.n2.symm)
  lmap:=(h.lmap.kept hg (Mj _ ok.u4)).kept Nb (by simpa using ok.n3.symm)
  cells:=(h.cells.kept hg (Mj _ ok.u2)).other ok.n1.symm _
  f1:=?_
  f2:=?_
  big:=Nat.le_trans h.big (Nat.le_trans hs Nb.size)
  sta:=?_ },?_⟩
 ·exact(h.blk.kept hg (Mj _ ok.u1)).set (i:=1) _
 ·exact C0.kept Nb (fun b e hF=>by cases e;have := (C0.rng _ hF).1;have := ok.u1;omega) (fun b e hv=>by cases e;have := C0.own.low hv;have := ok.u1;omega)
 ·refine h.lvs.move (Agr.of fun b hb=>Fe b (h.lvs.rng b hb).2 (h.f2 b hb) (by have := (h.lvs.rng b hb).1;have := ok.u1;omega)) (fun q hq=>Fe q (h.llow hq).2 (fun e=>h.apart e hq) (by have := (h.llow hq).1;have := ok.u1;omega)) (Nat.le_trans hs Nb.size)
 ·intro b hb
  rcases hb with hb | hb
  ·exact h.f1 b hb
  ·exact(hG b hb).2.2.2
 ·intro b hb e
  have e:g=b:=by simpa [Value.ownBlock] using e
  subst e
  rcases Bq with e | e
  ·exact h.f2 _ hb e
  ·have := (h.lvs.rng _ hb).2;omega
 ·exact h.sta.move (Agr.of fun b hF=>Fe b (by have := (h.stl b hF).1;have := h.big;omega) (fun e=>by have := (h.stl b hF).1;have := (h.nlow e).1;omega) (h.stl b hF).2.1)
 ·have Ol:=Id.bel.size
  have qeh:∀ q,(Value.slice (some ⟨g,0,none⟩) n cap).ownBlock=some q->d0.nv.val.ownBlock=some q\/w0.heap.size<=q:=fun q hq=>by
   have hq:g=q:=by simpa [Value.ownBlock] using hq
   subst hq
   rcases Bq with e | e
   ·exact Id.nat _ e
   ·exact .inr (by omega)
  have qkq:∀ q,d.F1 q\/G q->d0.F1 q\/w0.heap.size<=q:=fun q hq=>by
   rcases hq with hq | hq
   ·exact Id.f1 q hq
   ·exact .inr (Yz q hq)
  refine⟨Id.bel.trans ((Sq hg (fun k e=>by have := (h.nlow e).1;have := ok.l1;have := ok.u1;omega) (by have := ok.l1;have := ok.u1;have := h.big;omega)).setCell (p:=⟨x.bb,1,none⟩) ok.l1 _),fun b hl h1 h2 h3 h4 h5 h6=>(Fe b (by omega) (fun e=>?_) h1).trans (Id.keep b hl h1 h2 h3 h4 h5 h6),qeh,Id.lat,qkq,Id.f2⟩
  rcases Id.nat b e with h7 | h7
  ·exact h5 h7
  ·omega
end
theorem zpe {l:List (Nat × List Int)} {a:Nat × List Int} (h:¬ l.idxOf a<l.length):C4 (nmF l) (P7 a) (Z l.length)=nmF (l++[a]):=by
 funext s
 unfold nmF C4;rw[qxa (fun _ _=>qw8) l a h s]
 by_cases e:s=P7 a
 ·subst e;simp
 ·simp[e]
theorem zjz {l:List (List Nat)} {a:List Nat} (h:¬ l.idxOf a<l.length):C4 (lmF l) (Y0 a) (Z l.length)=lmF (l++[a]):=by
 funext s
 unfold lmF C4;rw[qxa (fun _ _=>qqm) l a h s]
 by_cases e:s=Y0 a
 ·subst e;simp
 ·simp[e]
theorem zjg {l:List (Nat × List Int)} {a:Nat × List Int}:nmF l (P7 a)=if l.idxOf a<l.length then some (Z (l.idxOf a))else none:=by
 unfold nmF;rw[qyz (fun _ _=>qw8)];split<;>rfl
theorem zei {l:List (List Nat)} {a:List Nat}:lmF l (Y0 a)=if l.idxOf a<l.length then some (Z (l.idxOf a))else none:=by
 unfold lmF;rw[qyz (fun _ _=>qqm)];split<;>rfl
theorem bY (g:Str->Option Value) (s:Str):fS g (.string s)=g s:=rfl
def C5 (p:Int->Bool) (l:List Int):Int:=if l.any p then(l.findIdx p:Int)else -1
theorem zw6 {p:Int->Bool} {l:List Int} {k:Nat} {t:Int} (ht:l[k]?=some t) (hp:p t=true) (h:∀ x∈l.take k,p x=false):C5 p l=(k:Int):=by
 obtain⟨hk,zjq⟩:=List.getElem?_eq_some_iff.1 ht;unfold C5;rw[if_pos (List.any_eq_true.2 ⟨t,List.mem_of_getElem? ht,hp⟩)]
 have:l.findIdx p=k:=by
  rw[List.findIdx_eq hk];refine⟨by rw[zjq];exact hp,fun j hj=>?_⟩;exact h _ (List.mem_take_iff_getElem.2 ⟨j,by omega,rfl⟩)
 rw[this]
theorem zub {p:Int->Bool} {l:List Int} (h:∀ x∈l,p x=false):C5 p l = -1:=by
 unfold C5;rw[if_neg];intro ha
 obtain⟨x,hx,hp⟩:=List.any_eq_true.1 ha;rw[h x hx]at hp;cases hp
theorem zlm (p:Int->Bool) (l:List Int):decide ((0:Int)<=C5 p l)=l.any p:=by
 unfold C5;cases l.any p<;>simp
structure zI (Inv:World->Prop) (v:Value) (l:List Int):Prop where
 form:∃ a c,v=.slice a l.length c/\l.length<=c/\c<=maxLen
 cells:0<l.length->∃ b o c,v=.slice (some ⟨b,o,none⟩) l.length c/\∀ W,Inv W->∀ i,i<l.length->W.cell? ⟨b,o+i,none⟩=some (.int .i64 (l[i]?.getD 0))
theorem qt1 (g:Nat) (caps:Array Value) (hg:∀ args w,(callFunc g args).run Tryz.prog w=.ok (.enter g args) w) (l:List Int) (p:Int->Bool) (v:Value) (Inv:World->Prop) (hv:zI Inv v l)
  (Ao:∀ t∈l,∀ W,Inv W->Calls Tryz.prog g (#[.int .i64 t]++caps) W fun e W'=>e=.returned (.bool (p t))/\Inv W') (w:World) (h:Inv w) :
  Calls Tryz.prog 79 #[v,.func (.func g) #[] caps] w fun e w'=>e=.returned (.int .i64 (C5 p l))/\Inv w':=by
 obtain⟨a,c,rfl,Jv,Ii⟩:=hv.form;unfold maxLen at Ii;obtain⟨n,hn⟩:=Ae l.length;have HV:=Aa hv;rw[hn]at HV Jv ⊢;have HN:=Aa hn;have HC:=Aa Ao;have HH:=Aa h;obtain⟨z,hz⟩:=Ae (C5 p l);have HZ:=Aa hz;rw[hz];clear hn Ao hv h hz;go_enter Tryz.func79,Tryz.ntmps79
 go_wp2_with fail
 go_loopw [8] (fun i wr=>∃ k:Nat,k<=n/\i=.int .i64 k/\Hid (Inv wr)/\Hid (∀ x∈l.take k,p x=false)) (fun i _=>n-(intOf i).toNat)
 case atStart=>exact⟨0,Nat.zero_le _,rfl,HH,Aa fun x hx=>by simp at hx⟩
 case round =>
  obtain⟨k,hk,rfl,HI,HA⟩:=hrel
  by_cases Aj:k<n
  ·obtain⟨b,o,c',he,Ba⟩:=HV.out.cells (by rw[HN.out];omega)
   rw[HN.out]at he Ba;simp only[Value.slice.injEq,true_and]at he;obtain⟨rfl,rfl⟩:=he;obtain⟨t,ht⟩:∃ t,l[k]?=some t:=⟨_,Ac (by rw[HN.out];exact Aj)⟩
   have e0:wr.cell? ⟨b,o+k,none⟩=some (.int .i64 t):=by have := Ba wr HI.out k Aj;rw[ht]at this;exact this
   have Dj:=HC.out t (List.mem_of_getElem? ht) wr HI.out;obtain⟨r,hr⟩:=Ae (p t);rw[hr]at Dj;have Gm:=Aa Dj;have HT:=Aa ht;have HR:=Aa hr;clear Ba ht Dj hr;go_wp2_with fail
   refine Gm.out.mono ?_;clear Gm;rintro e w' ⟨rfl,Fj⟩;have qmo:=Aa Fj;clear Fj
   cases r with
   | true =>
    go_wp2_with fail
    go_ret
    exact⟨by rw[show z=(k:Int)by rw[<- HZ.out];exact zw6 HT.out HR.out HA.out];rfl,qmo.out⟩
   | false =>
    go_wp2_with fail
    refine⟨⟨k+1,by omega,by go_num,qmo,Aa fun x hx=>?_⟩,by simp[intOf];omega⟩;rw[Q0 HT.out]at hx
    rcases List.mem_append.1 hx with hx | hx
    ·exact HA.out x hx
    ·rw[List.mem_singleton.1 hx];exact HR.out
  ·obtain rfl:k=n:=by omega
   have Eg:z = -1:=by
    rw[<- HZ.out]
    refine zub fun x hx=>HA.out x ?_
    rw[List.take_of_length_le (by rw[HN.out];exact Ab _)];exact hx
   have Lk:=Aa Eg;clear Eg;go_wp2_with fail
   go_ret
   exact⟨by rw[Lk.out];rfl,HI.out⟩
theorem zkc (g:Nat) (caps:Array Value) (hg:∀ args w,(callFunc g args).run Tryz.prog w=.ok (.enter g args) w) (l:List Int) (p:Int->Bool) (v:Value) (Inv:World->Prop) (hv:zI Inv v l)
  (Ao:∀ t∈l,∀ W,Inv W->Calls Tryz.prog g (#[.int .i64 t]++caps) W fun e W'=>e=.returned (.bool (p t))/\Inv W') (w:World) (h:Inv w) :
  Calls Tryz.prog 78 #[v,.func (.func g) #[] caps] w fun e w'=>e=.returned (.bool (l.any p))/\Inv w':=by
 have Ke:=qt1 g caps hg l p v Inv hv Ao w h;have he:=zlm p l;obtain⟨z,hz⟩:=Ae (C5 p l);obtain⟨r,hr⟩:=Ae (l.any p);rw[hz]at he Ke;rw[hr]at he ⊢;have xR:=Aa Ke;obtain⟨a,c,rfl,_,_⟩:=hv.form;clear hv Ao h hz hr Ke;go_enter Tryz.func78,Tryz.ntmps78
 go_wp2_with fail
 refine xR.out.mono ?_;clear xR;rintro e w' ⟨rfl,hi⟩;have HI:=Aa hi;clear hi;go_wp2_with fail
 go_ret
 exact⟨rfl,HI.out⟩
theorem zdx (k:Nat) (w:World) (hk:k<256):Calls Tryz.prog 61 #[.int .u8 k] w fun e w'=>∃ x:Xv,e=.returned x.agg/\ExN w.heap.size w' (Fq k) x/\Below w.heap.size w w':=by
 obtain⟨W1,Ah⟩:=Ae (w.alloc (.cells xz.cells 43))
 have b1:Below w.heap.size w W1:=by rw[<- Ah];exact Af _ _
 have q1:Blk W1 w.heap.size xz.cells 43:=by rw[<- Ah];exact Blk.new w _ _
 have s1:W1.heap.size=w.heap.size+1:=by rw[<- Ah];simp
 obtain⟨W2,Ax⟩:=Ae (W1.alloc (.cells #[.int .u8 115,.int .u8 (48+(k:Int)%12)] 5))
 have b2:Below W1.heap.size W1 W2:=by rw[<- Ax];exact Af _ _
 have Ev:=zlo k W1;rw[Ax]at Ev;obtain⟨nm,Vz⟩:∃ nm:Str,[115,UInt8.ofNat (48+k%12)]=nm:=⟨_,rfl⟩;rw[Vz]at Ev;have hr:=zf4 nm W2;obtain⟨B,hB⟩:=Ae w.heap.size;have HB:=Aa hB;have Dk:Hid (w.alloc (.cells #[.int .u8 0,.string ⟨#[]⟩,.int .u8 0,.bool false,.slice none 0 0,.bool false,.slice none 0 0,.int .i64 0,.slice none 0 0] 43)=W1):=Aa Ah;have Im:=Aa Ax;have qty:=Aa Vz;rw[hB]at b1 q1 s1 ⊢;rw[s1]at Ev;clear hB Ah Ax Vz;go_enter Tryz.func61,Tryz.ntmps61
 go_upto_region 1 with fail
 simp only[HB.out];rw[Dk.out];go_wp2_with fail
 rw[Im.out,Ev];go_wp2_with fail
 refine hr.mono ?_;rintro e w3 ⟨b,rfl,q3,Fw,b3⟩;have Aj:=q3.lt;have q13:=(q1.below b2 (by omega)).below b3 (by have := b2.size;omega)
 have Bd:∀ u∈(qac nm b).cells,u.oneCell'=true:=by simp[Value.oneCell']
 clear hr;go_wp2_with (refine Gu rfl 43 43 (.tmp 2) (.tmp 8) rfl (qac nm b).cells _ B q13 Bm rfl Bd rfl rfl ?_;intro W4 t1 t2 t3 t4)
 refine bodyPost_ret (Pk rfl _ _ B _ _ t1 rfl Tryz.underlying43 rfl Bm) rfl ?_;have s2:=b2.size;have s3:=b3.size;have hx:=zr9 (nm:=nm) (L:=B) (q3.kept t3 (by simp;omega)) (by omega) (by rw[<- qty.out];simp[maxLen]);rw[<- qty.out]at hx ⊢;exact⟨_,rfl,hx,b1.trans ((b2.mono (by omega)).trans ((b3.mono (by omega)).trans (t2 B (Ab _))))⟩
theorem Xx {fn:Func} {t s:Tmp} {ty:TypeId} (h:fn.results=#[.cell t ty,.tmp s]) (tmps:Array Value) (w:World) (b:Nat) (cs:Array Value) (d:TypeDesc) (hc:Blk w b cs ty) (ht:tmps.getD t undef=.pointer (some ⟨b,0,none⟩))
  (hu:Tryz.prog.underlying ty=some d) (hd:d.isRow=true) (hi:(Tryz.prog.info? ty).map (fun i=>i.size)=some cs.size):(results fn tmps).run Tryz.prog w=.ok (.tuple #[.agg cs,tmps.getD s undef]) w:=by
 have hl:=run_loadVar_mid (P:=Tryz.prog) w b 0 ty cs.toList d hc.range hu hd (by rw[hi];simp)
 have Ua:tmps[t]?.getD undef=.pointer (some ⟨b,0,none⟩):=by simpa using ht
 simp[results,h,Ua,asAddr,hl]
end Go.Proofs.YtlldjmagbjjeoaaGreatDoor
