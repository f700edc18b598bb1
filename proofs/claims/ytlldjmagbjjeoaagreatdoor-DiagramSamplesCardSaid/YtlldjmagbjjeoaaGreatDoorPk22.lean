/- Contracts and plain laws, several texts in one (GOwn, GOkS, GScl0). No conditions beyond those stated. -/
import Derived.Test.YtlldjmagbjjeoaaGreatDoorPk21
set_option maxRecDepth 100000
set_option maxHeartbeats 40000000
namespace Go.Proofs.YtlldjmagbjjeoaaGreatDoor
open Go.RowKit
set_option linter.unusedVariables false
def sv0:Sv:=⟨xz,0,⟨none,0,0⟩⟩
def qff (base:Nat) (w w':World):Prop:=(∀ b o,base<=b->w.heap[b]?=some o->o.isCells=true->w'.heap[b]?=some o)/\w.heap.size<=w'.heap.size
theorem zpi {base T c n:Nat} {w w':World} {v:Value} {xs:List Value} (h:w.ownsRow base T c v n xs) (hk:∀ g o,v.ownBlock=some g->w.heap[g]?=some o->o.isCells=true->w'.heap[g]?=some o):w'.ownsRow base T c v n xs:=by
 obtain⟨h1,h2⟩:=h;refine⟨h1,?_⟩
 rcases h2 with h2 | ⟨g,cap,cur,rfl,hb,hg,h3⟩
 ·exact .inl h2
 ·exact .inr ⟨g,cap,cur,rfl,hb,hk g _ rfl hg rfl,h3⟩
theorem Be.move {base T c:Nat} {w w':World} {v:Value} {rs:List (List Value)} (h:Be c T base w v rs) (hk:∀ g o,v.ownBlock=some g->w.heap[g]?=some o->o.isCells=true->w'.heap[g]?=some o):Be c T base w' v rs:=⟨zpi h.1 hk,h.2⟩
theorem Be.moveEq {base T c:Nat} {w w':World} {v:Value} {rs:List (List Value)} (h:Be c T base w v rs) (hk:∀ g,v.ownBlock=some g->w'.heap[g]?=w.heap[g]?):Be c T base w' v rs:=h.move fun g o hg ho _=>(hk g hg).trans ho
theorem qih (y:Sv) {j:Nat} (hj:j<11):(y.cells.toList[j]?).getD undef=y.cell j:=by
 match j,hj with
 | 0,_=>rfl
 | 1,_=>rfl
 | 2,_=>rfl
 | 3,_=>rfl
 | 4,_=>rfl
 | 5,_=>rfl
 | 6,_=>rfl
 | 7,_=>rfl
 | 8,_=>rfl
 | 9,_=>rfl
 | 10,_=>rfl
theorem qgo (y:Vv) {j:Nat} (hj:j<6):(y.cells.toList[j]?).getD undef=y.cell j:=by
 match j,hj with
 | 0,_=>rfl
 | 1,_=>rfl
 | 2,_=>rfl
 | 3,_=>rfl
 | 4,_=>rfl
 | 5,_=>rfl
theorem zgk (y:Sv):∀ u∈y.cells.toList,u.oneCell'=true:=by
 intro u hu
 simp at hu
 rcases hu with rfl | rfl | rfl | rfl | rfl | rfl | rfl | rfl | rfl | rfl | rfl<;>rfl
theorem zxg (y:Sv):Dg 11 [y.cells.toList]:=Dg.one rfl (zgk y)
def CtO (base:Nat) (w:World) (F:Nat->Prop) (c:Value) (l:List Vq):Prop :=
 ∃ zs:List Vv,zs.length=l.length/\Be 6 41 base w c (zs.map fun z=>z.cells.toList)/\∀ j,j<l.length->Zed F w fun K W=>VlX K W (l[j]?.getD v0) (zs[j]?.getD vv0)
structure ScO (base:Nat) (w:World) (v:Value) (l:List Sc) (ys:List Sv) (F:Nat->Prop):Prop where
 len:ys.length=l.length
 own:Be 11 46 base w v (ys.map fun y=>y.cells.toList)
 rng:∀ b,F b->base<=b/\b<w.heap.size
 nv:∀ b,F b->v.ownBlock≠some b
 nc:∀ b,F b->∀ y∈ys,y.c.val.ownBlock≠some b
 dat:∀ i,i<l.length->Zed F w (fun K W=>ExG K W (l[i]?.getD default).e (ys[i]?.getD sv0).x)/\(ys[i]?.getD sv0).kd=(l[i]?.getD default).kd
 cut:∀ i,i<l.length->CtO base w F (ys[i]?.getD sv0).c.val (l[i]?.getD default).cuts
 dis:∀ i j g,i<l.length->j<l.length->(ys[i]?.getD sv0).c.val.ownBlock=some g->(ys[j]?.getD sv0).c.val.ownBlock=some g->i=j
def Oo (base:Nat) (w:World) (v:Value) (l:List Sc):Prop:=∃ ys F,ScO base w v l ys F
theorem Oo.nil (base:Nat) (w:World):Oo base w (.slice none 0 0) [] :=
 ⟨[],fun _=>False,rfl,Be.nil _ _ _ _,fun b h=>h.elim,fun b h=>h.elim,fun b h=>h.elim,fun i h=>absurd h (by simp),fun i h=>absurd h (by simp),fun i j g h=>absurd h (by simp)⟩
section
variable {base:Nat} {w w':World} {v:Value} {l:List Sc} {ys:List Sv} {F:Nat->Prop}
theorem CtO.move {c:Value} {cs:List Vq} (h:CtO base w F c cs) (hF:Agr F w w') (hk:∀ g o,c.ownBlock=some g->w.heap[g]?=some o->o.isCells=true->w'.heap[g]?=some o):CtO base w' F c cs:=by
 obtain⟨zs,h1,h2,h3⟩:=h;exact⟨zs,h1,h2.move hk,fun j hj=>(h3 j hj).move hF⟩
theorem CtO.moveEq {c:Value} {cs:List Vq} (h:CtO base w F c cs) (hF:Agr F w w') (hk:∀ g,c.ownBlock=some g->w'.heap[g]?=w.heap[g]?):CtO base w' F c cs:=h.move hF fun g o hg ho _=>(hk g hg).trans ho
theorem CtO.mono {G:Nat->Prop} {c:Value} {cs:List Vq} (h:CtO base w F c cs) (hF:∀ b,F b->G b):CtO base w G c cs:=by
 obtain⟨zs,h1,h2,h3⟩:=h;exact⟨zs,h1,h2,fun j hj=>(h3 j hj).mono hF⟩
theorem CtO.low {c:Value} {cs:List Vq} (h:CtO base w F c cs) {g:Nat} (hg:c.ownBlock=some g):base<=g/\g<w.heap.size:=by
 obtain⟨zs,h1,h2,h3⟩:=h;exact⟨h2.low hg,h2.lt hg⟩
theorem CtO.read {c:Value} {cs:List Vq} (h:CtO base w F c cs) (hF:∀ b,F b->b<w.heap.size):Yl w.heap.size w c cs:=by
 obtain⟨zs,h1,h2,h3⟩:=h;refine⟨fun i=>zs[i]?.getD vv0,?_,fun i hi=>(h3 i hi).get hF⟩;have hr:=h2.rows;rw[List.length_map,h1]at hr
 refine hr.congr fun i hi j hj=>?_
 have Fj:i<zs.length:=by omega
 have e1:zs[i]?.getD vv0=zs[i]:=by rw[Ac Fj];rfl
 show _=(zs[i]?.getD vv0).cell j
 rw[e1,List.getElem?_map,Ac Fj];exact qgo _ hj
theorem ScO.move (h:ScO base w v l ys F) (hk:qff base w w'):ScO base w' v l ys F:=by
 have hF:Agr F w w':=fun b o hb=>hk.1 b o (h.rng b hb).1
 refine⟨h.len,h.own.move fun g o hg=>hk.1 g o (h.own.low hg),fun b hb=>⟨(h.rng b hb).1,Nat.lt_of_lt_of_le (h.rng b hb).2 hk.2⟩,h.nv,h.nc,fun i hi=>⟨(h.dat i hi).1.move hF,(h.dat i hi).2⟩,fun i hi=>?_,h.dis⟩
 exact(h.cut i hi).move hF fun g o hg=>hk.1 g o ((h.cut i hi).low hg).1
theorem Oo.move (h:Oo base w v l) (hk:qff base w w'):Oo base w' v l:=by
 obtain⟨ys,F,h⟩:=h;exact⟨ys,F,h.move hk⟩
theorem ScO.read (h:ScO base w v l ys F):Mo w.heap.size w v l:=by
 refine⟨fun i=>ys[i]?.getD sv0,?_,fun i hi=>⟨(h.dat i hi).1.get fun b hb=>(h.rng b hb).2,(h.dat i hi).2,(h.cut i hi).read fun b hb=>(h.rng b hb).2⟩⟩;have hr:=h.own.rows;rw[List.length_map,h.len]at hr
 refine hr.congr fun i hi j hj=>?_
 have hl:=h.len
 have Fj:i<ys.length:=by omega
 have e1:ys[i]?.getD sv0=ys[i]:=by rw[Ac Fj];rfl
 show _=(ys[i]?.getD sv0).cell j
 rw[e1,List.getElem?_map,Ac Fj];exact qih _ hj
theorem Oo.read (h:Oo base w v l):Mo w.heap.size w v l:=by obtain⟨ys,F,h⟩:=h;exact h.read
theorem zs3 (h:w.grownBy w' none):qff base w w':=⟨fun b o _ ho _=>(h.block b (Array.getElem?_eq_some_iff.1 ho).1 (by simp)).trans ho,h.size⟩
theorem tA {α:Type} {a b:List α} {d:α} {i:Nat} (h:i<a.length):(a++b)[i]?.getD d=a[i]?.getD d:=by rw[List.getElem?_append_left h]
theorem mH {α:Type} {a:List α} {x d:α}:(a++[x])[a.length]?.getD d=x:=by simp
theorem ScO.add {W w5:World} {v':Value} {e:Gx} {kd:Int} {x:Xv} {lo hi g:Nat} (h:ScO base w v l ys F) (hw:w.grownBy W none) (hz:Zed (Btw lo hi) W fun K W=>ExG K W e x) (Kx:w.heap.size<=lo) (Dh:base<=lo) (Ny:hi<=W.heap.size)
  (hg:W.grownBy w5 v.ownBlock) (Av:Be 11 46 base w5 v' ((ys.map fun y=>y.cells.toList)++[(⟨x,kd,⟨none,0,0⟩⟩:Sv).cells.toList])) (Tu:v'.ownBlock=some g) (Bq:v.ownBlock=some g\/hi<=g) (zio:v.ownBlock=some g\/w.heap.size<=g) :
  ScO base w5 v' (l++[⟨e,kd,[]⟩]) (ys++[⟨x,kd,⟨none,0,0⟩⟩]) (fun b=>F b\/Btw lo hi b):=by
 have hl:=h.len;have Dn:=hg.size;have oP:=hw.size
 have Aj:∀ r,v.ownBlock=some r->r<w.heap.size:=fun r hr=>h.own.lt hr
 have Us:Agr F w w5:=Agr.of fun b hb=>(hg.block b (by have := (h.rng b hb).2;omega) (fun e=>h.nv b hb e.symm)).trans (hw.block b (h.rng b hb).2 (by simp))
 have gL:Agr (Btw lo hi) W w5:=Agr.of fun b hb=>hg.block b (by have := hb.2;omega) (fun e=>by have := Aj b e.symm;have := hb.1;omega)
 have hcut:∀ i,i<l.length->CtO base w5 F (ys[i]?.getD sv0).c.val (l[i]?.getD default).cuts:=fun i hi=>(h.cut i hi).moveEq Us fun q hq=>by
  have Dz:=((h.cut i hi).low hq).2;refine(hg.block q (by omega) fun e=>?_).trans (hw.block q Dz (by simp));obtain⟨zs,_,ho,_⟩:=h.cut i hi
  rcases id ho.1.2 with⟨h0,_⟩ | ⟨g1,c1,cur1,h0,_,xE,_⟩
  ·rw[h0]at hq;cases hq
  ·rw[h0]at hq
   obtain rfl:g1=q:=by simpa [Value.ownBlock] using hq
   rcases id h.own.1.2 with⟨h2,_⟩ | ⟨g2,c2,cur2,h2,_,Nb,_⟩
   ·rw[h2]at e;cases e
   ·rw[h2]at e
    obtain rfl:g1=g2:=by simpa [Value.ownBlock] using e
    rw[xE]at Nb;simp only[Option.some.injEq,Obj.cells.injEq]at Nb;have := Nb.2.1;revert this;decide
 have Mk:(ys++[(⟨x,kd,⟨none,0,0⟩⟩:Sv)]).length=(l++[(⟨e,kd,[]⟩:Sc)]).length:=by simp[hl]
 have qge:∀ b,F b\/Btw lo hi b->b≠g:=fun b hb e=>by
  subst e
  rcases hb with hb | hb
  ·rcases zio with hq | hq
   ·exact h.nv _ hb hq
   ·have := (h.rng _ hb).2;omega
  ·rcases Bq with hq | hq
   ·have := Aj _ hq;have := hb.1;omega
   ·have := hb.2;omega
 refine⟨Mk,by rw[List.map_append];exact Av,fun b hb=>?_,fun b hb e=>?_,fun b hb y hy=>?_,fun i hi=>?_,fun i hi=>?_,fun i j q hi hj h1 h2=>?_⟩
 ·rcases hb with hb | hb
  ·have := h.rng b hb;omega
  ·have := hb.1;have := hb.2;omega
 ·rw[Tu]at e;exact qge b hb (by simpa using e.symm)
 ·rcases List.mem_append.1 hy with hy | hy
  ·rcases hb with hb | hb
   ·exact h.nc b hb y hy
   ·intro e
    obtain⟨k,hk,rfl⟩:=List.mem_iff_getElem.1 hy;have := ((h.cut k (by omega)).low (g:=b) (by rw[Ac hk];exact e)).2;have := hb.1;omega
  ·rw[List.mem_singleton.1 hy];simp[Value.ownBlock]
 ·rw[List.length_append,List.length_singleton]at hi
  by_cases Cr:i<l.length
  ·rw[tA Cr,tA (by omega)]
   exact⟨((h.dat i Cr).1.move Us).mono fun b hb=>.inl hb,(h.dat i Cr).2⟩
  ·obtain rfl:i=l.length:=by omega
   rw[mH,<- hl,mH];exact⟨(hz.move gL).mono fun b hb=>.inr hb,rfl⟩
 ·rw[List.length_append,List.length_singleton]at hi
  by_cases Cr:i<l.length
  ·rw[tA Cr,tA (by omega)]
   exact(hcut i Cr).mono fun b hb=>.inl hb
  ·obtain rfl:i=l.length:=by omega
   rw[mH,<- hl,mH];exact⟨[],rfl,Be.nil _ _ _ _,fun j hj=>absurd hj (by simp)⟩
 ·rw[List.length_append,List.length_singleton]at hi hj
  by_cases Cr:i<l.length
  ·by_cases Ot:j<l.length
   ·rw[tA (by omega)]at h1 h2
    exact h.dis i j q Cr Ot h1 h2
   ·obtain rfl:j=l.length:=by omega
    rw[<- hl,mH]at h2;simp[Value.ownBlock]at h2
  ·obtain rfl:i=l.length:=by omega
   rw[<- hl,mH]at h1;simp[Value.ownBlock]at h1
theorem zdd {c:Nat} {rs:List (List Value)} (h:Dg c rs) {i j:Nat} {r:List Value} (hi:rs[i]?=some r) (hj:j<c) (u:Value):(rs.set i (r.set j u)).flatten=rs.flatten.set (i*c+j) u:=by
 induction rs generalizing i with
 | nil=>simp at hi
 | cons x t ih =>
  have hx:=(h x (by simp)).1
  cases i with
  | zero =>
   simp only[List.getElem?_cons_zero,Option.some.injEq]at hi;subst hi;rw[List.set_cons_zero,List.flatten_cons,List.flatten_cons,Nat.zero_mul,Nat.zero_add,List.set_append,if_pos (by omega)]
  | succ i =>
   rw[List.set_cons_succ,List.flatten_cons,List.flatten_cons,ih (fun y hy=>h y (List.mem_cons_of_mem _ hy)) (by simpa using hi),List.set_append,if_neg (by rw[hx,Nat.succ_mul];omega),hx]
   congr 2;rw[Nat.succ_mul];omega
theorem Be.setAt {c T:Nat} {rs:List (List Value)} {g n cap i j:Nat} {r:List Value} (h:Be c T base w (.slice (some ⟨g,0,none⟩) n cap) rs) (hi:rs[i]?=some r) (hj:j<c) {u:Value} (h1:u.oneCell'=true) :
  Be c T base (w.setCell ⟨g,i*c+j,none⟩ u) (.slice (some ⟨g,0,none⟩) n cap) (rs.set i (r.set j u)):=by
 have Cr:=(List.getElem?_eq_some_iff.1 hi).1;have rP:=h.2 r (List.mem_of_getElem? hi)
 have Ay:Dg c (rs.set i (r.set j u)):=fun q hq=>by
  rcases List.mem_or_eq_of_mem_set hq with hq | rfl
  ·exact h.2 q hq
  ·refine⟨by rw[List.length_set];exact rP.1,fun z hz=>?_⟩
   rcases List.mem_or_eq_of_mem_set hz with hz | rfl
   ·exact rP.2 z hz
   ·exact h1
 refine⟨⟨by rw[C3 Ay],?_⟩,Ay⟩
 rcases h.1.2 with⟨h0,_⟩ | ⟨g',cap',cur,h0,hb,hg,hn,hm,hs,ht⟩
 ·cases h0
 ·simp only[Value.slice.injEq,Option.some.injEq,Addr.mk.injEq,and_true]at h0
  obtain⟨rfl,rfl,rfl⟩:=h0;refine .inr ⟨g,cap,cur.setIfInBounds (i*c+j) u,by rw[List.length_set],hb,Blk.set hg u,by rw[List.length_set];exact hn,hm,by simpa using hs,?_⟩
  have Aj:i*c+j<rs.length*c:=by
   have:(i+1)*c<=rs.length*c:=Nat.mul_le_mul_right _ Cr
   rw[Nat.succ_mul]at this;omega
  rw[List.length_set,Array.toList_setIfInBounds,List.take_set,ht,zdd h.2 hi hj]
theorem zd1 {zs:List Vv} {r:Nat} {z:Vv}:Tt (zs.map fun z=>z.cells.toList) r z.cells.toList=(zs.take r++z::zs.drop r).map fun z=>z.cells.toList:=by
 unfold Tt;rw[List.map_append,List.map_cons,List.map_take,List.map_drop]
theorem qm0 {α:Type} {l:List α} {r j:Nat} {x d:α} (hr:r<=l.length):(l.take r++x::l.drop r)[j]?.getD d=if j<r then l[j]?.getD d else if j=r then x else l[j-1]?.getD d:=by
 have ht:(l.take r).length=r:=by rw[List.length_take];omega
 by_cases h1:j<r
 ·rw[if_pos h1,List.getElem?_append_left (by omega),List.getElem?_take,if_pos h1]
 ·rw[if_neg h1,List.getElem?_append_right (by omega),ht]
  by_cases h2:j=r
  ·rw[if_pos h2,h2,Nat.sub_self];rfl
  ·rw[if_neg h2,show j-r=(j-r-1)+1 by omega,List.getElem?_cons_succ,List.getElem?_drop,show r+(j-r-1)=j-1 by omega]
theorem sF {α:Type} {l:List α} {i j:Nat} {x d:α} (hi:i<l.length):(l.set i x)[j]?.getD d=if j=i then x else l[j]?.getD d:=by
 rw[List.getElem?_set]
 by_cases h:j=i
 ·rw[if_pos h,if_pos h.symm,if_pos hi];rfl
 ·rw[if_neg h,if_neg (fun e=>h e.symm)]
theorem ScO.ins {W5:World} {sb n cap i hi g r:Nat} {cv':Sl} {x:Vq} {z:Vv} {zs:List Vv} (h:ScO base w (.slice (some ⟨sb,0,none⟩) n cap) l ys F) (Cr:i<l.length) (hr:r<=(l[i]?.getD default).cuts.length)
  (Vb:zs.length=(l[i]?.getD default).cuts.length) (t8:Be 6 41 base w (ys[i]?.getD sv0).c.val (zs.map fun z=>z.cells.toList)) (qzp:∀ j,j<(l[i]?.getD default).cuts.length->Zed F w fun K W=>VlX K W ((l[i]?.getD default).cuts[j]?.getD v0) (zs[j]?.getD vv0))
  (Av:Be 6 41 base W5 cv'.val (Tt (zs.map fun z=>z.cells.toList) r z.cells.toList)) (hg:w.grownBy W5 (ys[i]?.getD sv0).c.val.ownBlock) (hz:Zed (Btw w.heap.size hi) W5 fun K W=>VlX K W x z) (Kx:w.heap.size<=hi) (Ny:hi<=W5.heap.size)
  (Tu:cv'.val.ownBlock=some g) (Bq:(ys[i]?.getD sv0).c.val.ownBlock=some g\/hi<=g) (Cs:base<=w.heap.size) :
  ScO base (W5.setCell ⟨sb,i*11+10,none⟩ cv'.val) (.slice (some ⟨sb,0,none⟩) n cap) (l.set i { (l[i]?.getD default)with cuts:=(l[i]?.getD default).cuts.take r++x::(l[i]?.getD default).cuts.drop r }) (ys.set i { (ys[i]?.getD sv0)with c:=cv' }) (fun b=>F b\/Btw w.heap.size hi b):=by
 have hl:=h.len
 have Uf:i<ys.length:=by omega
 have qjn:sb<w.heap.size:=h.own.lt rfl
 have Dn:(W5.setCell ⟨sb,i*11+10,none⟩ cv'.val).heap.size=W5.heap.size:=by simp[World.setCell]
 have qay:∀ b,b<w.heap.size->(ys[i]?.getD sv0).c.val.ownBlock≠some b->b≠sb->(W5.setCell ⟨sb,i*11+10,none⟩ cv'.val).heap[b]?=w.heap[b]? := fun b hb At hs=>(Below.heap_setCell _ _ _ _ hs).trans (hg.block b hb (fun e=>At e.symm))
 have qwl:(ys[i]?.getD sv0)∈ys:=by rw[Ac Uf];exact List.getElem_mem Uf
 have qmx:∀ b,F b->b≠sb:=fun b hb e=>h.nv b hb (by rw[e];rfl)
 have Us:Agr F w (W5.setCell ⟨sb,i*11+10,none⟩ cv'.val):=Agr.of fun b hb=>qay b (h.rng b hb).2 (h.nc b hb _ qwl) (qmx b hb)
 have gL:Agr (Btw w.heap.size hi) W5 (W5.setCell ⟨sb,i*11+10,none⟩ cv'.val):=Agr.of fun b hb=>Below.heap_setCell _ _ _ _ (by show b≠sb;have := hb.1;omega)
 have qxo:(ys[i]?.getD sv0).c.val.ownBlock≠some sb:=qae h.own t8 (by decide) rfl
 have Cx:(ys.map fun y=>y.cells.toList)[i]?=some (ys[i]?.getD sv0).cells.toList:=by rw[List.getElem?_map,Ac Uf];rfl
 have Nx:((ys.map fun y=>y.cells.toList).set i ((ys[i]?.getD sv0).cells.toList.set 10 cv'.val))=(ys.set i { (ys[i]?.getD sv0)with c:=cv' }).map fun y=>y.cells.toList:=by
  rw[List.map_set];rfl
 have We:g≠sb:=fun e=>by
  rcases Bq with hq | hq
  ·exact qxo (by rw[hq,e])
  ·omega
 have qbx:∀ b,F b\/Btw w.heap.size hi b->b≠g:=fun b hb e=>by
  subst e
  rcases Bq with hq | hq
  ·rcases hb with hb | hb
   ·exact h.nc _ hb _ qwl hq
   ·have := ((h.cut i Cr).low hq).2;have := hb.1;omega
  ·rcases hb with hb | hb
   ·have := (h.rng _ hb).2;omega
   ·have := hb.2;omega
 have qkc:∀ k,k<l.length->k≠i->∀ q,(ys[k]?.getD sv0).c.val.ownBlock=some q->q≠g/\(W5.setCell ⟨sb,i*11+10,none⟩ cv'.val).heap[q]?=w.heap[q]? := fun k hk Mp q hq=>by
  have Dz:=((h.cut k hk).low hq).2
  have jQ:(ys[i]?.getD sv0).c.val.ownBlock≠some q:=fun e=>Mp (h.dis k i q hk Cr hq e)
  obtain⟨zs',_,G6,_⟩:=h.cut k hk
  have zoc:q≠sb:=fun e=>qae h.own G6 (by decide) rfl (by rw[hq,e])
  refine⟨fun e=>?_,qay q Dz jQ zoc⟩
  rcases Bq with hx | hx
  ·exact jQ (by rw[hx,e])
  ·omega
 refine⟨by simp[hl],?_,fun b hb=>?_,fun b hb e=>?_,fun b hb y hy=>?_,fun k hk=>?_,fun k hk=>?_,fun a b q ha hb h1 h2=>?_⟩
 ·rw[<- Nx]
  exact(h.own.moveEq (w':=W5) fun q hq=>by
   obtain rfl:sb=q:=by simpa [Value.ownBlock] using hq
   exact hg.block sb qjn (fun e=>qxo e.symm)).setAt Cx (by decide) rfl
 ·rw[Dn]
  rcases hb with hb | hb
  ·have := h.rng b hb;omega
  ·have := hb.1;have := hb.2;omega
 ·obtain rfl:sb=b:=by simpa [Value.ownBlock] using e
  rcases hb with hb | hb
  ·exact qmx _ hb rfl
  ·have := hb.1;omega
 ·rcases List.mem_or_eq_of_mem_set hy with hy | rfl
  ·rcases hb with hb | hb
   ·exact h.nc b hb y hy
   ·intro e
    obtain⟨k,hk,rfl⟩:=List.mem_iff_getElem.1 hy;have := ((h.cut k (by omega)).low (g:=b) (by rw[Ac hk];exact e)).2;have := hb.1;omega
  ·intro e
   have e2:cv'.val.ownBlock=some b:=e;rw[Tu]at e2;exact qbx b hb (by simpa using e2.symm)
 ·rw[List.length_set]at hk
  rw[sF Cr,sF Uf]
  by_cases Mp:k=i
  ·rw[if_pos Mp,if_pos Mp]
   exact⟨((h.dat i Cr).1.move Us).mono fun b hb=>.inl hb,(h.dat i Cr).2⟩
  ·rw[if_neg Mp,if_neg Mp]
   exact⟨((h.dat k hk).1.move Us).mono fun b hb=>.inl hb,(h.dat k hk).2⟩
 ·rw[List.length_set]at hk
  rw[sF Cr,sF Uf]
  by_cases Mp:k=i
  ·rw[if_pos Mp,if_pos Mp]
   refine⟨zs.take r++z::zs.drop r,?_,?_,fun j hj=>?_⟩
   ·simp only[List.length_append,List.length_cons,List.length_take,List.length_drop];omega
   ·rw[zd1]at Av
    exact Av.moveEq fun q hq=>Below.heap_setCell _ _ _ _ (by
     rw[Tu]at hq;obtain rfl:=Option.some.inj hq
     exact We)
   ·simp only at hj ⊢
    rw[qm0 hr,qm0 (by omega)];simp only[List.length_append,List.length_cons,List.length_take,List.length_drop]at hj
    by_cases h1:j<r
    ·rw[if_pos h1,if_pos h1]
     exact((qzp j (by omega)).move Us).mono fun b hb=>.inl hb
    ·rw[if_neg h1,if_neg h1]
     by_cases h2:j=r
     ·rw[if_pos h2,if_pos h2]
      exact(hz.move gL).mono fun b hb=>.inr hb
     ·rw[if_neg h2,if_neg h2]
      exact((qzp (j-1) (by omega)).move Us).mono fun b hb=>.inl hb
  ·rw[if_neg Mp,if_neg Mp]
   exact((h.cut k hk).moveEq Us fun q hq=>(qkc k hk Mp q hq).2).mono fun b hb=>.inl hb
 ·rw[List.length_set]at ha hb
  rw[sF Uf]at h1 h2
  by_cases hai:a=i
  ·by_cases Ip:b=i
   ·omega
   ·rw[if_pos hai]at h1
    rw[if_neg Ip]at h2;have Ve:cv'.val.ownBlock=some q:=h1;rw[Tu]at Ve;obtain rfl:=Option.some.inj Ve;exact absurd rfl (qkc b hb Ip _ h2).1
  ·rw[if_neg hai]at h1
   by_cases Ip:b=i
   ·rw[if_pos Ip]at h2
    have Qo:cv'.val.ownBlock=some q:=h2;rw[Tu]at Qo;obtain rfl:=Option.some.inj Qo;exact absurd rfl (qkc a ha hai _ h1).1
   ·rw[if_neg Ip]at h2
    exact h.dis a b q ha hb h1 h2
end
theorem qfz {a b c:Vq} (hb:b.ok=true) (hc:c.ok=true) (h1:vlt a b) (h2:vlt b c):vlt a c:=by
 unfold vlt at *;have pb:=gS hb;have pc:=gS hc;have na:=qiw a;have e1:=Int.mul_lt_mul_of_pos_right h1 pc;have e2:=Int.mul_le_mul_of_nonneg_right (Int.le_of_lt h2) na;refine Int.lt_of_mul_lt_mul_right (a:=b.bot) ?_ (Int.le_of_lt pb)
 calc a.top*c.bot*b.bot=a.top*b.bot*c.bot:=by rw[Int.mul_assoc,Int.mul_comm c.bot,<- Int.mul_assoc]
  _<b.top*a.bot*c.bot:=e1
  _=b.top*c.bot*a.bot:=by rw[Int.mul_assoc,Int.mul_comm a.bot,<- Int.mul_assoc]
  _<=c.top*b.bot*a.bot:=e2
  _=c.top*a.bot*b.bot:=by rw[Int.mul_assoc,Int.mul_comm b.bot,<- Int.mul_assoc]
theorem zdi {a b:Vq} (h:vle a b=false):vlt b a:=by
 unfold vle at h;unfold vlt;rw[decide_eq_false_iff_not]at h;omega
theorem zwy {a b:Vq} (h:vle a b=true) (hn:veq b a=false):vlt a b:=by
 unfold vle at h;unfold veq at hn;unfold vlt;rw[decide_eq_true_eq]at h;rw[decide_eq_false_iff_not]at hn;omega
theorem zld (l:List Vq) (v:Vq):(∀ i,i<Eu l v->vle v (l[i]?.getD v0)=false)/\(Eu l v<l.length->vle v (l[Eu l v]?.getD v0)=true):=by
 unfold Eu;constructor
 ·intro i hi
  have hl:i<l.length:=Nat.lt_of_lt_of_le hi List.findIdx_le_length;rw[Ac hl];have := List.not_of_lt_findIdx hi
  simpa using this
 ·intro h
  rw[Ac h];exact List.findIdx_getElem (w:=h)
theorem Nq.ins {kd:Int} {l:List Vq} {v:Vq} (h:Nq kd l) (hg:v.good=true) (ho:v.ok=true) (hk:v.kd=kd) (hf:fnd l v=false):Nq kd (l.take (Eu l v)++v::l.drop (Eu l v)):=by
 have Tn:∀ c∈l.take (Eu l v)++v::l.drop (Eu l v),c=v\/c∈l:=fun c hc=>by
  rcases List.mem_append.1 hc with hc | hc
  ·exact .inr (List.mem_of_mem_take hc)
  ·rcases List.mem_cons.1 hc with hc | hc
   ·exact .inl hc
   ·exact .inr (List.mem_of_mem_drop hc)
 obtain⟨s1,s2⟩:=zld l v
 have zny:∀ a∈l.take (Eu l v),vlt a v:=fun a ha=>by
  obtain⟨i,hi,rfl⟩:=List.mem_iff_getElem.1 ha;rw[List.length_take]at hi;have h1:=s1 i (by omega);rw[Ac (by omega),Option.getD_some]at h1;rw[List.getElem_take];exact zdi h1
 have zkx:∀ b∈l.drop (Eu l v),vlt v b:=fun b hb=>by
  obtain⟨i,hi,rfl⟩:=List.mem_iff_getElem.1 hb;rw[List.length_drop]at hi
  have hr:Eu l v<l.length:=by omega
  have hv:=s2 hr
  have At:veq (l[Eu l v]?.getD v0) v=false:=by
   unfold fnd at hf
   simpa [hr] using hf
  have h0:=zwy hv At;rw[List.getElem_drop]
  by_cases Jo:i=0
  ·subst Jo
   rw[Ac hr,Option.getD_some]at h0
   simpa using h0
  ·rw[Ac hr,Option.getD_some]at h0
   exact qfz (h.ok _ (List.getElem_mem hr)) (h.ok _ (List.getElem_mem _)) h0 (List.pairwise_iff_getElem.1 h.inc _ _ hr (by omega) (by omega))
 refine⟨fun c hc=>?_,fun c hc=>?_,fun c hc=>?_,?_⟩
 ·rcases Tn c hc with rfl | hc
  ·exact hg
  ·exact h.good c hc
 ·rcases Tn c hc with rfl | hc
  ·exact ho
  ·exact h.ok c hc
 ·rcases Tn c hc with rfl | hc
  ·exact hk
  ·exact h.kd c hc
 ·rw[List.pairwise_append]
  refine⟨h.inc.sublist (List.take_sublist _ _),?_,fun a ha b hb=>?_⟩
  ·rw[List.pairwise_cons]
   exact⟨zkx,h.inc.sublist (List.drop_sublist _ _)⟩
  ·rcases List.mem_cons.1 hb with rfl | hb
   ·exact zny a ha
   ·obtain⟨i,hi,rfl⟩:=List.mem_iff_getElem.1 ha
    obtain⟨j,hj,rfl⟩:=List.mem_iff_getElem.1 hb;rw[List.length_take]at hi;rw[List.length_drop]at hj;rw[List.getElem_take,List.getElem_drop];exact List.pairwise_iff_getElem.1 h.inc _ _ (by omega) (by omega) (by omega)
theorem Nq.nil (kd:Int):Nq kd []:=⟨fun c h=>(by cases h),fun c h=>(by cases h),fun c h=>(by cases h),List.Pairwise.nil⟩
structure zkd (s:Sc):Prop where
 good:s.e.good=true
 big:s.e.parts<=200
 cuts:Nq s.kd s.cuts
 zero:s.kd=0->s.cuts=[]
 len:s.cuts.length<=32
structure iC (t:Tq):Prop where
 good:t.sub.good=true
 big:t.sub.parts<=200
 cut:t.kd≠0->t.cut.good=true/\t.cut.ok=true/\t.cut.kd=t.kd
structure cA (l:List Sc):Prop where
 each:∀ s∈l,zkd s
 len:l.length<=16
theorem qo2 {a:Gx} (hg:a.good=true) (hp:a.parts<=200):iC (Ec a):=by
 have qr5:∀ k,k<a.args.length->(Dm a k).good=true/\(Dm a k).parts<=200:=fun k hk=>by
  have h1:=List.mem_of_getElem? (sZ hk);have h2:=Z9 h1;have h3:=Xk a;exact⟨jW hg _ h1,by omega⟩
 by_cases Dc:(a.op=13\/a.op=14)/\a.args.length=2
 ·obtain⟨ho,hl⟩:=Dc
  have hcut:∀ k,k<2->Mq (Dm a k) (Dm a (1-k))=true->iC (lW a k):=fun k hk hc=>by
   obtain⟨h1,h2⟩:=qr5 (1-k) (by omega);obtain⟨h3,h4⟩:=qr5 k (by omega);unfold Mq at hc;simp only[Bool.and_eq_true]at hc;exact⟨h1,h2,fun _=>⟨qb8 h3,hc.2,rfl⟩⟩
  by_cases h0:Mq (Dm a 0) (Dm a 1)=true
  ·rw[qx9 ho hl h0];exact hcut 0 (by omega) h0
  ·have lA:Mq (Dm a 0) (Dm a 1)=false:=by simpa using h0
   by_cases h1:Mq (Dm a 1) (Dm a 0)=true
   ·rw[qqq ho hl lA h1];exact hcut 1 (by omega) h1
   ·rw[zbm ho hl lA (by simpa using h1)];exact⟨hg,hp,fun h=>absurd rfl h⟩
 ·have ht:Ec a=⟨a,0,v0,0,false⟩:=by
   unfold Ec;rw[if_neg];simp only[Bool.and_eq_true,Bool.or_eq_true,beq_iff_eq];exact Dc
  rw[ht];exact⟨hg,hp,fun h=>absurd rfl h⟩
theorem qfs {t:Tq} {s:Sc} (h:t.belongs s=true):t.kd=s.kd:=by
 unfold Tq.belongs at h;simp only[Bool.and_eq_true,beq_iff_eq]at h;exact h.1
theorem qcn {t:Tq} {l:List Sc} (h:l.findIdx t.belongs<l.length):t.belongs (l[l.findIdx t.belongs]?.getD default)=true:=by
 rw[Ac h];exact List.findIdx_getElem (w:=h)
theorem qwb {l l':List Sc} {i:Nat} {t:Tq} (h:cA l) (ht:iC t) (hi:i<l.length) (hb:t.kd=(l[i]?.getD default).kd) (he:Sn l i t=some l'):cA l':=by
 unfold Sn at he
 by_cases hk:t.kd=0
 ·rw[if_pos hk]at he
  obtain rfl:=Option.some.inj he;exact h
 ·rw[if_neg hk]at he
  rw[Ac hi,Option.getD_some]at he hb;have hs:=h.each _ (List.getElem_mem hi);obtain⟨c1,c2,c3⟩:=ht.cut hk;unfold Zz at he
  by_cases hf:fnd l[i].cuts t.cut=true
  ·rw[if_pos hf]at he
   simp only[Option.map_some,Option.some.injEq]at he;subst he;refine⟨fun s Qz=>?_,by rw[List.length_set];exact h.len⟩
   rcases List.mem_or_eq_of_mem_set Qz with Qz | rfl
   ·exact h.each s Qz
   ·exact hs
  ·rw[if_neg hf]at he
   by_cases M7:l[i].cuts.length=32
   ·rw[if_pos M7]at he;cases he
   ·rw[if_neg M7]at he
    simp only[Option.map_some,Option.some.injEq]at he;subst he;refine⟨fun s Qz=>?_,by rw[List.length_set];exact h.len⟩
    rcases List.mem_or_eq_of_mem_set Qz with Qz | rfl
    ·exact h.each s Qz
    ·have X8:=wB l[i].cuts t.cut
     have := hs.len;refine⟨hs.good,hs.big,?_,fun h0=>absurd (hb.trans h0) hk,?_⟩
     ·exact hs.cuts.ins c1 c2 (by rw[c3,hb]) (by simpa using hf)
     ·simp only[List.length_append,List.length_cons,List.length_take,List.length_drop];omega
theorem zao {l:List Sc} {t:Tq} (h:cA l) (ht:iC t) (hl:l.length≠16):cA (l++[⟨t.sub,t.kd,[]⟩]):=by
 refine⟨fun s hs=>?_,by have := h.len;rw[List.length_append,List.length_singleton];omega⟩
 rcases List.mem_append.1 hs with hs | hs
 ·exact h.each s hs
 ·rw[List.mem_singleton.1 hs]
  exact⟨ht.good,ht.big,Nq.nil _,fun _=>rfl,by simp⟩
theorem zib {l l':List Sc} {t:Tq} (h:cA l) (ht:iC t) (he:So l t=some l'):cA l':=by
 unfold So at he;simp only at he
 by_cases hi:l.findIdx t.belongs<l.length
 ·rw[if_pos hi]at he
  exact qwb h ht hi (qfs (qcn hi)) he
 ·rw[if_neg hi]at he
  by_cases hl:l.length=16
  ·rw[if_pos hl]at he;cases he
  ·rw[if_neg hl]at he
   exact qwb (zao h ht hl) ht (by simp) (by simp) he
theorem qa2 (l:List Sc) (a b:List Tq):Mh l (a++b)=(Mh l a).bind fun l'=>Mh l' b:=by
 induction a generalizing l with
 | nil=>rfl
 | cons t r ih =>
  rw[List.cons_append,Mh,Mh]
  cases So l t with
  | none=>rfl
  | some l'=>exact ih l'
theorem qsc (l:List Sc) (a:List Tq) (t:Tq):Mh l (a++[t])=(Mh l a).bind fun l'=>So l' t:=by
 rw[qa2]
 cases Mh l a with
 | none=>rfl
 | some l' =>
  show(So l' t).bind (fun l''=>Mh l'' [])=So l' t
  cases So l' t<;>rfl
theorem znn {F:Fence} {nF:Nat} {ops:Array Oper} {rest:List Oper} {op:Oper} {a:Act} {w:World} {Q:Exit->Act->World->Prop} (Gy:op.guard=none) (ty t:TypeId) (x y:Operand) (ho:op.op=.store ty x y) (cs old:Array Value) (b:Nat)
  (hq:Blk w b old t) (hi:(Tryz.prog.info? ty).map (fun i=>i.size)=some cs.size) (Dn:old.size=cs.size) (h1:∀ v∈cs,v.oneCell'=true)
  (hx:a.eval x=.pointer (some ⟨b,0,none⟩)) (hy:a.eval y=.agg cs)
  (h:∀ W',W'=w.setRow b cs->Blk W' b cs t->(∀ B,B<=b->Below B w W')->w.grownBy W' (some b)->W'.heap.size=w.heap.size->wpListIn F nF Tryz.prog ops Q rest (a.put op.dst undef) W'):wpListIn F nF Tryz.prog ops Q (op::rest) a w:=by
 have hs:(w.setRow b cs).heap.size=w.heap.size:=by simp[World.setRow]
 have hh:=h _ rfl (setRow_heap w b old cs t _ hq) (fun B hB=>⟨rfl,rfl,rfl,Nat.le_of_eq hs.symm,fun k hk=>setRow_other w b k cs (by omega)⟩) ⟨rfl,rfl,rfl,Nat.le_of_eq hs.symm,fun k _ hk=>setRow_other w b k cs (fun e=>hk (by rw[e]))⟩ hs
 refine wpListIn_plain Gy fun K hK=>?_
 unfold Oper.wpIn;refine⟨by simp[Oper.about,ho],?_⟩;rw[Oper.semAt_plain F _ _ (by rw[ho];intro c Iz;cases Iz)];simp only[execOp,ho,hx,hy,Instr.storeAt,Instr.sureAddr,Sem.run_bind,Sem.run_pure,Result.andThen_ok,run_storeVar_row w b t ty old cs hq hi Dn (by rw[Array.all_eq_true_iff_forall_mem];exact h1)];exact hK _ _ hh
theorem zw2 {F:Fence} {nF:Nat} {ops:Array Oper} {rest:List Oper} {op:Oper} {a:Act} {w:World} {Q:Exit->Act->World->Prop} (Gy:op.guard=none) (ty:TypeId) (x:Operand) (ho:op.op=.load ty x) (cs:Array Value) (b t:Nat) (d:TypeDesc)
  (hq:Blk w b cs t) (hu:Tryz.prog.underlying ty=some d) (hd:d.isRow=true) (hi:(Tryz.prog.info? ty).map (fun i=>i.size)=some cs.size) (hx:a.eval x=.pointer (some ⟨b,0,none⟩))
  (h:wpListIn F nF Tryz.prog ops Q rest (a.put op.dst (.agg cs)) w):wpListIn F nF Tryz.prog ops Q (op::rest) a w:=by
 have hl:=run_loadVar_mid (P:=Tryz.prog) w b 0 ty cs.toList d hq.range hu hd (by rw[hi];simp)
 refine wpListIn_plain Gy fun K hK=>?_
 unfold Oper.wpIn;refine⟨by simp[Oper.about,ho],?_⟩;rw[Oper.semAt_plain F _ _ (by rw[ho];intro c Iz;cases Iz)];simp only[execOp,ho,hx,Instr.loadAt,Instr.sureAddr,Sem.run_bind,Sem.run_pure,Result.andThen_ok,hl,Array.toArray_toList];exact hK _ _ h
structure ScW (B D:Nat) (w:World) (l:List Sc) (W:World):Prop where
 v:∃ v,Blk W D #[v] 27/\Oo (D+1) W v l
 ok:cA l
 r0:Blk W B #[.slice none 0 0] 27
 r1:Blk W (B+1) #[.int .i64 0] 48
 bel:Below B w W
 lt:B+2<=D
 sz:D+1<=W.heap.size
theorem vG {W W':World} {b t:Nat} {cs:Array Value} (h:Blk W b cs t) {row:Option Nat} (hg:W.grownBy W' row) (hr:∀ k,row=some k->∀ o,W.heap[k]?=some o->o.isCells=false):Blk W' b cs t :=
 h.kept hg fun e=>by have := hr b e.symm _ h;cases this
theorem ScW.kept {B D:Nat} {w W W':World} {l:List Sc} {row:Option Nat} (h:ScW B D w l W) (hg:W.grownBy W' row) (hr:∀ k,row=some k->B<=k/\∀ o,W.heap[k]?=some o->o.isCells=false):ScW B D w l W':=by
 obtain⟨⟨v,h1,h2⟩,h3,h4,h5,h6,h7,h8⟩:=h
 have I3:∀ k,row=some k->∀ o,W.heap[k]?=some o->o.isCells=false:=fun k e=>(hr k e).2
 refine⟨⟨v,vG h1 hg I3,h2.move ⟨fun b o _ ho hc=>(hg.block b (Array.getElem?_eq_some_iff.1 ho).1 (fun e=>by have := I3 b e.symm o ho;rw[hc]at this;cases this)).trans ho,hg.size⟩⟩,h3,vG h4 hg I3,vG h5 hg I3,h6.trans (Sq hg (fun k e=>(hr k e).1) (by omega)),h7,Nat.le_trans h8 hg.size⟩
structure ScE (B:Nat) (w:World) (W:World):Prop where
 r0:Blk W B #[.slice none 0 0] 27
 r1:Blk W (B+1) #[.int .i64 5] 48
 bel:Below B w W
 sz:B+2<=W.heap.size
theorem ScE.kept {B:Nat} {w W W':World} {row:Option Nat} (h:ScE B w W) (hg:W.grownBy W' row) (hr:∀ k,row=some k->B<=k/\∀ o,W.heap[k]?=some o->o.isCells=false):ScE B w W':=by
 have I3:∀ k,row=some k->∀ o,W.heap[k]?=some o->o.isCells=false:=fun k e=>(hr k e).2
 exact⟨vG h.r0 hg I3,vG h.r1 hg I3,h.bel.trans (Sq hg (fun k e=>(hr k e).1) (by have := h.sz;omega)),Nat.le_trans h.sz hg.size⟩
def Pg (a:Gx):Prop:=a.good=true/\a.parts<=200
theorem zgf (e:Gx) (h:Pg e):e.good=true/\∀ a∈e.args,Pg a:=⟨h.1,fun a ha=>⟨jW h.1 a ha,by have := Z9 ha;have := Xk e;have := h.2;omega⟩⟩
theorem TqX.grown {K:Nat} {W W':World} {t:Tq} {y:Tv} (h:TqX K W t y) (hb:Below K W W'):TqX K W' t y:=h.below hb (Ab _) (Ab _)
theorem qwx {K l:Nat} {W:World} {o':Obj} (hK:K<=l):Below K W (W.putObj l o'):=⟨rfl,rfl,rfl,by simp[World.putObj],fun k hk=>World.putObj_heap_other (by omega)⟩
theorem KpG.grown {K:Nat} {A C:World} {row:Option Nat} (hg:A.grownBy C row) (hK:K<=A.heap.size) (hr:∀ r,row=some r->K<=r/\∀ cs,¬ Blk A r cs 43):KpE K A C :=
 ⟨Sq hg (fun r h=>(hr r h).1) hK,fun r cs hb=>hb.kept hg (fun h=>(hr r h.symm).2 cs hb)⟩
theorem KpG.trans {K:Nat} {A B C:World} (h1:KpE K A B) (h2:KpE K B C):KpE K A C:=⟨h1.1.trans h2.1,fun r cs hb=>h2.2 r cs (h1.2 r cs hb)⟩
theorem KpG.refl (K:Nat) (A:World):KpE K A A:=⟨Below.refl _ _,fun _ _ h=>h⟩
theorem KpG.putObj {K l:Nat} {W:World} {o o':Obj} (hK:K<=l) (hl:W.heap[l]?=some o) (ho:o.isCells=false):KpE K W (W.putObj l o'):=by
 refine KpG.grown (grownBy_putObj' W l o') (by have := (Array.getElem?_eq_some_iff.1 hl).1;omega) (fun r e=>?_);cases e
 refine⟨hK,fun cs hb=>?_⟩;unfold Blk at hb;rw[hl]at hb;cases hb;simp[Obj.isCells]at ho
def mkD (D:Nat):Deferred:={ target:=.collected D,args:=#[] }
def Ni (lo hi:Nat) (W:World) (ds:List Deferred):Prop :=
 ∃ Ds:List Nat,ds=Ds.map mkD/\Ds.Pairwise (· > ·)/\∀ D∈Ds,lo<=D/\D<hi/\W.heap[D]?=some (Obj.deferred (some []))
theorem Ni.nil (lo hi:Nat) (W:World):Ni lo hi W []:=⟨[],rfl,List.Pairwise.nil,fun D h=>by cases h⟩
theorem Ni.cons {lo hi Fj D:Nat} {W:World} {ds:List Deferred} (h:Ni lo hi W ds) (hl:lo<=D) (hh:hi<=D) (kC:D<Fj) (hD:W.heap[D]?=some (Obj.deferred (some []))):Ni lo Fj W (mkD D::ds):=by
 obtain⟨Ds,rfl,h2,h3⟩:=h;refine⟨D::Ds,rfl,List.pairwise_cons.2 ⟨fun D' kC=>?_,h2⟩,fun D' hD''=>?_⟩
 ·have := (h3 D' kC).2.1;omega
 ·rcases List.mem_cons.1 hD'' with rfl | hD''
  ·exact⟨hl,kC,hD⟩
  ·obtain⟨a,b,c⟩:=h3 D' hD'';exact⟨a,by omega,c⟩
theorem Ni.kept {lo hi:Nat} {W W':World} {ds:List Deferred} {row:Option Nat} (h:Ni lo hi W ds) (hg:W.grownBy W' row) (hr:∀ k,row=some k->hi<=k\/∀ o,W.heap[k]?=some o->o.isCells=true):Ni lo hi W' ds:=by
 obtain⟨Ds,h1,h2,h3⟩:=h;refine⟨Ds,h1,h2,fun D hD=>?_⟩;obtain⟨a,b,c⟩:=h3 D hD;refine⟨a,b,(hg.block D (Array.getElem?_eq_some_iff.1 c).1 fun e=>?_).trans c⟩
 rcases hr D e.symm with h | h
 ·omega
 ·have := h _ c;cases this
theorem Ni.mono {lo hi Fj:Nat} {W:World} {ds:List Deferred} (h:Ni lo hi W ds) (hh:hi<=Fj):Ni lo Fj W ds:=by
 obtain⟨Ds,h1,h2,h3⟩:=h;exact⟨Ds,h1,h2,fun D hD=>⟨(h3 D hD).1,Nat.lt_of_lt_of_le (h3 D hD).2.1 hh,(h3 D hD).2.2⟩⟩
structure wG (B:Nat) (W W':World):Prop where
 bel:Below B W W'
 cells:∀ (b:Nat) (o:Obj),W.heap[b]?=some o->o.isCells=true->W'.heap[b]?=some o
theorem wG.refl (B:Nat) (W:World):wG B W W:=⟨Below.refl _ _,fun _ _ h _=>h⟩
theorem quc {B lo hi n:Nat} {P:Program} {fn:Func} {tmps:Array Value} {R:Ending->World->Prop} {W:World} {ds:List Deferred} (h:Ni lo hi W ds) (hB:B<=lo)
  (hQ:∀ W',wG B W W'->LeavesInM Fence.wide n P fn tmps R [] .returning W'):LeavesInM Fence.wide n P fn tmps R ds .returning W:=by
 obtain⟨Ds,rfl,h2,h3⟩:=h
 induction Ds generalizing W with
 | nil=>exact hQ W (wG.refl _ _)
 | cons D Ds ih =>
  obtain⟨a,b,c⟩:=h3 D (by simp);obtain⟨p1,p2⟩:=List.pairwise_cons.1 h2;rw[List.map_cons,LeavesInM];refine⟨by simp,.inl ⟨D,W.putObj D (Obj.deferred none),rfl,run_takeDeferred c,ih (fun W' hs=>hQ W' ⟨(qwx (by omega)).trans hs.bel,fun q o ho hc=>hs.cells q o ?_ hc⟩) p2 fun D' kC=>?_⟩⟩
  ·refine(World.putObj_heap_other fun e=>?_).trans ho
   rw[e,c]at ho;obtain rfl:=Option.some.inj ho;cases hc
  ·obtain⟨a',b',c'⟩:=h3 D' (by simp[kC])
   exact⟨a',b',(World.putObj_heap_other (by have := p1 D' kC;omega)).trans c'⟩
theorem Blk.shut {B b t:Nat} {W W':World} {cs:Array Value} (h:Blk W b cs t) (hs:wG B W W'):Blk W' b cs t:=hs.cells b _ h rfl
structure Rn (K s:Nat) (W W':World):Prop where
 kf:KeepsFrom s W W'
 kp:KpE K W W'
theorem Rn.refl (K s:Nat) (W:World):Rn K s W W:=⟨KeepsFrom.refl _ _,KpG.refl _ _⟩
theorem Rn.trans {K s:Nat} {A B C:World} (h:Rn K s A B) (h':Rn K s B C):Rn K s A C:=⟨h.kf.trans h'.kf,KpG.trans h.kp h'.kp⟩
theorem Rn.grown {K s:Nat} {W W':World} {row:Option Nat} (hg:W.grownBy W' row) (hK:K<=W.heap.size) (hr:∀ r,row=some r->K<=r/\∃ cs t,Blk W r cs t/\t≠43):Rn K s W W':=by
 refine⟨(KeepsOthers.of_grownBy hg fun j o e ho=>?_).from _,KpG.grown hg hK fun r e=>⟨(hr r e).1,fun cs hb=>?_⟩⟩
 ·obtain⟨_,cs,t,hb,_⟩:=hr j e
  unfold Blk at hb;rw[hb]at ho;cases ho;rfl
 ·obtain⟨_,cs',t,Gl,At⟩:=hr r e
  exact At (Gl.ty_ne hb)
theorem Rn.below {K s:Nat} {W W':World} (h:Below W.heap.size W W') (hK:K<=W.heap.size):Rn K s W W':=Rn.grown (Rj h) hK (fun r e=>by cases e)
theorem ScW.turn {B D:Nat} {w W W':World} {l l':List Sc} {v:Value} (h:ScW B D w l W) (hb:Below D W W') (hq:Blk W' D #[v] 27) (ho:Oo (D+1) W' v l') (hk:cA l'):ScW B D w l' W' :=
 ⟨⟨v,hq,ho⟩,hk,h.r0.below hb (by have := h.lt;omega),h.r1.below hb (by have := h.lt;omega),h.bel.trans (hb.mono (by have := h.lt;omega)),h.lt,by have := h.sz;have := hb.size;omega⟩
theorem zw9 {l:List Sc} {i:Nat} {t:Tq} (h:t.kd=0):Sn l i t=some l:=by unfold Sn;rw[if_pos h]
theorem qyp {l:List Sc} {i:Nat} {t:Tq} {c:List Vq} (h:t.kd≠0) (hc:Zz (l[i]?.getD default).cuts t.cut=some c):Sn l i t=some (l.set i { (l[i]?.getD default)with cuts:=c }):=by unfold Sn;rw[if_neg h,hc];rfl
theorem zr5 {l:List Sc} {i:Nat} {t:Tq} (h:t.kd≠0) (hc:Zz (l[i]?.getD default).cuts t.cut=none):Sn l i t=none:=by unfold Sn;rw[if_neg h,hc];rfl
theorem zra {l:List Sc} {i:Nat} (hi:i<l.length):l.set i { (l[i]?.getD default)with cuts:=(l[i]?.getD default).cuts }=l:=by
 have:({ (l[i]?.getD default)with cuts:=(l[i]?.getD default).cuts }:Sc)=l[i]:=by rw[Ac hi];rfl
 rw[this,List.set_getElem_self]
theorem ql0 (W:World):W.grownBy W.drew none:=⟨rfl,rfl,rfl,Ab _,fun _ _ _=>rfl⟩
abbrev qf6 (B:Nat) (W:World):World:=(W.setCell ⟨B,0,none⟩ (.slice none 0 0)).setCell ⟨B+1,0,none⟩ (.int .i64 5)
theorem ScW.err {B D:Nat} {w W:World} {l:List Sc} (h:ScW B D w l W):ScE B w (qf6 B W)/\(∀ K s,K<=B->Rn K s W (qf6 B W))/\(∀ lo hi ds,Ni lo hi W ds->Ni lo hi (qf6 B W) ds):=by
 have Aj:=h.lt;have Dn:=h.sz;have p0:=h.r0.set (i:=0) (.slice none 0 0);have p1:=h.r1.other (b':=B) (i:=0) (by omega) (.slice none 0 0);refine⟨⟨p0.other (by omega) _,p1.set (i:=0) (.int .i64 5),(h.bel.setCell (Ab _) _).setCell (by simp) _,by simp[World.setCell];omega⟩,fun K s hK=>?_,fun lo hi ds hd=>?_⟩
 ·exact(Rn.grown (Fm W B 0 _) (by omega) (fun r e=>by cases e;exact⟨hK,_,_,h.r0,by decide⟩)).trans (Rn.grown (Fm _ (B+1) 0 _) (by simp[World.setCell];omega) (fun r e=>by cases e;exact⟨by omega,_,_,p1,by decide⟩))
 ·refine(hd.kept (Fm W B 0 _) (fun q e=>.inr fun o ho=>?_)).kept (Fm _ (B+1) 0 _) (fun q e=>.inr fun o ho=>?_)
  ·cases e;have h1:=h.r0;unfold Blk at h1;rw[h1]at ho;cases ho;rfl
  ·cases e;have h1:=p1;unfold Blk at h1;rw[h1]at ho;cases ho;rfl
theorem Mo.at {K:Nat} {w w':World} {v:Value} {l:List Sc} (h:Mo K w v l) (hb:Below K w w') (hs:K<=w'.heap.size):Mo w'.heap.size w' v l:=h.below hb (Ab _) hs
theorem Tryz.infoScaleG:(Tryz.prog.info? 46).map (fun i=>(i.zero,i.size,i.bytes))=some (some sv0.agg,11,160):=by kernel_rfl
theorem zrt {w:World} {xb:Nat} {z:Sv} (h:Blk w xb z.cells 46) {i j:Nat} {r:List Value} {u:Value} (hi:[z.cells.toList][i]?=some r) (hj:r[j]?=some u):w.cell? ⟨xb,0+(i*11+j),none⟩=some u:=by
 match i,hi with
 | 0,hi =>
  simp only[List.getElem?_cons_zero,Option.some.injEq]at hi;subst hi;have := h.at (i:=j) (x:=u) (by simpa using hj);rwa[show 0+(0*11+j)=j by omega]
 | i+1,hi=>simp at hi
end Go.Proofs.YtlldjmagbjjeoaaGreatDoor
