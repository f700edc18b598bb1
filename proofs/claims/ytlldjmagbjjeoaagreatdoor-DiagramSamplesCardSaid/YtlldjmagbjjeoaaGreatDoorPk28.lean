/- Contracts and plain laws, several texts in one (DMem, DPoss, DShelf, DSl, DKey, DShelf2). No conditions beyond those stated. -/
import Derived.Shelf.Slices.Turned
import Derived.Shelf.Slices.Clone
import Derived.Shelf.Slices.CompactI
import Derived.Shelf.Slices.Cells
import Derived.Shelf.Small.Wraps
import Derived.Shelf.Strconv.Itoa0
import Derived.Shelf.Strconv.Itoa1
import Derived.Shelf.LaysM
import Derived.Shelf.Strconv.Itoa2
import Derived.Shelf.Strconv.AppendUint10
import Derived.Shelf.Strconv.AppendInt10
import Derived.Test.YtlldjmagbjjeoaaGreatDoorPk27
set_option maxRecDepth 100000
set_option maxHeartbeats 40000000
namespace Go.Proofs.YtlldjmagbjjeoaaGreatDoor
open Go.RowKit
set_option linter.unusedVariables false
structure RO {α:Type} (c T:Nat) (row:α->Value->List Value) (R:α->Value->Nat->World->Prop) (base:Nat) (w:World) (v:Value) (L:List α) (vs:List Value) (F:Nat->Prop):Prop where
 len:vs.length=L.length
 own:Be c T base w v (List.zipWith row L vs)
 rng:∀ b,F b->base<=b/\b<w.heap.size
 nv:∀ b,F b->v.ownBlock≠some b
 dat:∀ (i:Nat) (a:α) (u:Value),L[i]?=some a->vs[i]?=some u->Zed F w (R a u)
section
variable {α:Type} {c T:Nat} {row:α->Value->List Value} {R:α->Value->Nat->World->Prop} {base:Nat} {w w':World} {v:Value} {L:List α} {vs:List Value} {F:Nat->Prop}
theorem RO.nil (base:Nat) (w:World):RO c T row R base w (.slice none 0 0) [] [] (fun _=>False) :=
 ⟨rfl,Be.nil _ _ _ _,fun b h=>h.elim,fun b h=>h.elim,fun i a u h=>(by cases h)⟩
theorem RO.move (h:RO c T row R base w v L vs F) (ha:Agr F w w') (hk:∀ g,v.ownBlock=some g->w'.heap[g]?=w.heap[g]?) (hs:w.heap.size<=w'.heap.size):RO c T row R base w' v L vs F :=
 ⟨h.len,h.own.moveEq hk,fun b hb=>⟨(h.rng b hb).1,Nat.lt_of_lt_of_le (h.rng b hb).2 hs⟩,h.nv,fun i a u h1 h2=>(h.dat i a u h1 h2).move ha⟩
theorem RO.old {B:Nat} (h:RO c T row R base w v L vs F) (hb:Below B w w') (hB:w.heap.size<=B):RO c T row R base w' v L vs F :=
 h.move (Agr.of fun b hF=>hb.block b (by have := (h.rng b hF).2;omega)) (fun g hg=>hb.block g (by have := h.own.lt hg;omega)) hb.size
theorem RO.kept {r:Option Nat} (h:RO c T row R base w v L vs F) (hg:w.grownBy w' r) (hF:∀ b,r=some b->¬ F b) (hv:∀ b,r=some b->v.ownBlock≠some b):RO c T row R base w' v L vs F :=
 h.move (Agr.of fun b hb=>hg.block b (h.rng b hb).2 fun e=>hF b e.symm hb) (fun g E5=>hg.block g (h.own.lt E5) fun e=>hv g e.symm E5) hg.size
theorem qhf {β γ δ:Type} (f:β->γ->δ):∀ (a:List β) (b:List γ) (x:β) (y:γ),a.length=b.length->List.zipWith f (a++[x]) (b++[y])=List.zipWith f a b++[f x y]
 | [],[],x,y,_=>rfl
 | [],_::_,x,y,h=>by cases h
 | _::_,[],x,y,h=>by cases h
 | p::a,q::b,x,y,h=>by
  simp only[List.cons_append,List.zipWith_cons_cons,qhf f a b x y (by simpa using h)]
theorem RO.add {W w5:World} {v' u:Value} {a:α} {G:Nat->Prop} (h:RO c T row R base w v L vs F) (hw:w.grownBy W none) (hz:Zed G W (R a u)) (hG:∀ b,G b->w.heap.size<=b/\b<W.heap.size) (Uz:base<=w.heap.size)
  (hg:W.grownBy w5 v.ownBlock) (Av:Be c T base w5 v' (List.zipWith row L vs++[row a u])) (Bq:∀ g,v'.ownBlock=some g->v.ownBlock=some g\/W.heap.size<=g) :
  RO c T row R base w5 v' (L++[a]) (vs++[u]) (fun b=>F b\/G b):=by
 have Dn:=hg.size;have oP:=hw.size
 have Aj:∀ r,v.ownBlock=some r->r<w.heap.size:=fun r hr=>h.own.lt hr
 have Us:Agr F w w5:=Agr.of fun b hb=>(hg.block b (by have := (h.rng b hb).2;omega) (fun e=>h.nv b hb e.symm)).trans (hw.block b (h.rng b hb).2 (by simp))
 have qeq:Agr G W w5:=Agr.of fun b hb=>hg.block b (hG b hb).2 (fun e=>by have := Aj b e.symm;have := (hG b hb).1;omega)
 refine⟨by simp[h.len],by rw[qhf row L vs a u h.len.symm];exact Av,fun b hb=>?_,fun b hb e=>?_,fun i a' u' h1 h2=>?_⟩
 ·rcases hb with hb | hb
  ·have := h.rng b hb;omega
  ·have := hG b hb;omega
 ·rcases Bq b e with h1 | h1
  ·rcases hb with hb | hb
   ·exact h.nv b hb h1
   ·have := Aj b h1;have := (hG b hb).1;omega
  ·rcases hb with hb | hb
   ·have := (h.rng b hb).2;omega
   ·have := (hG b hb).2;omega
 ·by_cases Cr:i<L.length
  ·rw[List.getElem?_append_left Cr]at h1
   rw[List.getElem?_append_left (by rw[h.len];exact Cr)]at h2
   exact((h.dat i a' u' h1 h2).move Us).mono fun b hb=>.inl hb
  ·have P6:i<(L++[a]).length:=(List.getElem?_eq_some_iff.1 h1).1
   have:i=L.length:=by simp at P6;omega
   subst this;rw[List.getElem?_append_right (Ab _),Nat.sub_self]at h1;rw[List.getElem?_append_right (by rw[h.len];exact Ab _),h.len,Nat.sub_self]at h2;cases h1;cases h2
   exact(hz.move qeq).mono fun b hb=>.inr hb
theorem RO.rows (h:RO c T row R base w v L vs F):Au c (fun i j=>(((List.zipWith row L vs)[i]?.getD [])[j]?).getD undef) w.heap.size w v L.length:=by
 have := h.own.rows;rwa[List.length_zipWith,h.len,Nat.min_self]at this
theorem RO.get (h:RO c T row R base w v L vs F) {i:Nat} {a:α} {u:Value} (h1:L[i]?=some a) (h2:vs[i]?=some u):R a u w.heap.size w:=(h.dat i a u h1 h2).get fun b hb=>(h.rng b hb).2
theorem vI {i:Nat} {a:α} {u:Value} (h1:L[i]?=some a) (h2:vs[i]?=some u):(List.zipWith row L vs)[i]?=some (row a u):=by
 rw[List.getElem?_zipWith,h1,h2]
end
theorem qz4 {base:Nat} {w:World} {v:Value} {l:List Nat} (h:Dt base w v l) {F:Nat->Prop} (hF:∀ b,v.ownBlock=some b->F b):Zed F w fun K W=>Ee K W v l:=by
 intro W K ha hK
 obtain⟨h1,h2⟩:=qa3 h hF W K ha hK;have hn:=Dt.nats (show Dt base W v l from h2);obtain⟨a,cap,hv,h3,h4,h5,h6⟩:=hn;refine⟨a,cap,hv,h3,h4,h5,fun i hi=>?_⟩;obtain⟨b,o,rfl,hb,hc⟩:=h6 i hi;refine⟨b,o,rfl,?_,hc⟩
 rcases h1 with⟨h1,h0⟩ | ⟨g,hg,P9⟩
 ·omega
 ·rw[hv]at hg
  simp only[Value.ownBlock,Option.some.injEq]at hg;omega
def NN (K:Nat) (w:World) (v:Value) (L:List (List Nat)):Prop:=∃ g:Nat->Value,Au 1 (fun i _=>g i) K w v L.length/\∀ i,i<L.length->Ee K w (g i) (L[i]?.getD [])
theorem NN.below {K K' B:Nat} {w w':World} {v:Value} {L:List (List Nat)} (h:NN K w v L) (hb:Below B w w') (hB:K<=B) (hK:K<=K'):NN K' w' v L:=by
 obtain⟨g,h1,h2⟩:=h;exact⟨g,h1.below hb hB hK,fun i hi=>(h2 i hi).below hb hB hK⟩
theorem NN.form {K:Nat} {w:World} {v:Value} {L:List (List Nat)} (h:NN K w v L):∃ a cap,v=.slice a L.length cap/\L.length<=cap/\cap<=maxLen:=by
 obtain⟨g,h1,h2⟩:=h;exact h1.form
abbrev NO:=@RO (List Nat) 1 34 (fun _ u=>[u]) (fun l u K W=>Ee K W u l)
theorem NO.read {base:Nat} {w:World} {v:Value} {L:List (List Nat)} {vs:List Value} {F:Nat->Prop} (h:NO base w v L vs F):NN w.heap.size w v L:=by
 refine⟨fun i=>vs[i]?.getD undef,h.rows.congr fun i hi j hj=>?_,fun i hi=>?_⟩
 ·obtain rfl:j=0:=by omega
  have hv:vs[i]?=some (vs[i]'(by rw[h.len];exact hi)):=Ac _;rw[vI (row:=fun _ u=>[u]) (Ac hi) hv]
  show vs[i]'(by rw[h.len];exact hi)=vs[i]?.getD undef
  rw[hv];rfl
 ·have hv:vs[i]?=some (vs[i]'(by rw[h.len];exact hi)):=Ac _
  have := h.get (Ac hi) hv
  show Ee _ _ (vs[i]?.getD undef) (L[i]?.getD [])
  rw[hv,Ac hi];exact this
def NdX (K:Nat) (w:World) (v:Value) (L:List (Nat × List Int)):Prop:=∃ g:Nat->Value,Au 2 (fun i j=>if j=0 then Z (L[i]?.getD (0,[])).1 else g i) K w v L.length/\∀ i,i<L.length->Re K w (g i) (L[i]?.getD (0,[])).2
theorem NdX.below {K K' B:Nat} {w w':World} {v:Value} {L:List (Nat × List Int)} (h:NdX K w v L) (hb:Below B w w') (hB:K<=B) (hK:K<=K'):NdX K' w' v L:=by
 obtain⟨g,h1,h2⟩:=h;exact⟨g,h1.below hb hB hK,fun i hi=>Au.below (h2 i hi) hb hB hK⟩
theorem NdX.form {K:Nat} {w:World} {v:Value} {L:List (Nat × List Int)} (h:NdX K w v L):∃ a cap,v=.slice a L.length cap/\L.length<=cap/\cap<=maxLen:=by
 obtain⟨g,h1,h2⟩:=h;exact h1.form
structure Dv where
 s:Sl
 n:Sl
 l:Sl
 r:Int
abbrev Dv.cells (x:Dv):Array Value:=#[.slice x.s.a x.s.n x.s.m,.slice x.n.a x.n.n x.n.m,.slice x.l.a x.l.n x.l.m,.int .i64 x.r]
abbrev Dv.agg (x:Dv):Value:=.agg x.cells
structure DgX (K:Nat) (w:World) (x:Dv) (scs:List Sc) (st:DSt) (root:Int):Prop where
 s:Mo K w x.s.val scs
 n:NdX K w x.n.val st.nds
 l:NN K w x.l.val st.lvs
 r:x.r=root
theorem DgX.below {K K' B:Nat} {w w':World} {x:Dv} {scs:List Sc} {st:DSt} {root:Int} (h:DgX K w x scs st root) (hb:Below B w w') (hB:K<=B) (hK:K<=K'):DgX K' w' x scs st root:=⟨h.s.below hb hB hK,h.n.below hb hB hK,h.l.below hb hB hK,h.r⟩
theorem Tryz.infoIntsG:(Tryz.prog.info? 34).map (fun i=>(i.zero,i.size,i.bytes))=some (some (.slice none 0 0),1,24):=by kernel_rfl
theorem wI {w w':World} (h:Below w.heap.size w w'):w.grownBy w' none:=by
 obtain⟨h1,h2,h3,h4,h5⟩:=h;exact⟨h1,h2,h3,h4,fun b hb _=>h5 b hb⟩
def K8 (l:List Sc):Prop:=∀ s∈l,(∀ c∈s.cuts,c.good=true)/\s.cuts.length<=2^38
theorem qhn (K:Nat) (lv:Value) (l:List Sc) (w:World) (hs:Mo K w lv l) (hg:K8 l) (hn:l.length<=2^20) (hK:K<=w.heap.size) :
  Calls Tryz.prog 36 #[lv] w fun e w'=>∃ v vs F,e=.returned v/\NO w.heap.size w' v (l.map Bf) vs F/\Below w.heap.size w w':=by
 obtain⟨la,lc,rfl,_,Jw⟩:=hs.form;obtain⟨gy,Cx,Cd⟩:=hs;obtain⟨n,Fe⟩:=Ae l.length;have HN:=Aa Fe;rw[Fe]at Cx Cd hn ⊢;obtain⟨B,hB⟩:=Ae w.heap.size;have HB:=Aa hB;rw[hB]at hK ⊢;have Zf:=Aa Cx;have Om:=Aa Cd;have HG:=Aa hg;clear hB Fe Cx Cd hg;go_enter Tryz.func36,Tryz.ntmps36
 go_wp2_with fail
 go_loopw [3,8] (fun ov iv wr=>∃ (i:Nat) (vs:List Value) (F:Nat->Prop),i<=n/\iv=.int .i64 i/\NO B wr ov ((l.take i).map Bf) vs F/\Below B w wr) (fun _ iv _=>n-(intOf iv).toNat)
 case atStart=>exact⟨0,[],fun _=>False,Nat.zero_le _,rfl,by rw[List.take_zero];exact RO.nil _ _,Below.refl _ _⟩
 case round =>
  obtain⟨i,vs,F,hi,rfl,Eg,Cs⟩:=hrel;obtain⟨wo,rfl⟩:∃ wo:World,wo=wr:=⟨_,rfl⟩;obtain⟨oa,oc,Is,_,_⟩:=Eg.own.form
  have Cc:(List.zipWith (fun(_:List Nat) (u:Value)=>[u]) ((l.take i).map Bf) vs).length=i:=by
   rw[List.length_zipWith,Eg.len,Nat.min_self,List.length_map,List.length_take,HN.out];omega
  rw[Cc]at Is;subst Is;have aU:=Aa Cc;have Lk:=Aa Eg;have Cm:=Aa Cs
  have xO:B<=wo.heap.size:=by have := Cs.size;have := HB.out;omega
  clear Eg Cs Cc
  by_cases Aj:i<n
  ·obtain⟨b,o,cap,he,_,_,Cj,hc⟩:=Zf.out.pos (by omega)
   simp only[Value.slice.injEq,true_and]at he;obtain⟨rfl,rfl⟩:=he
   have Y2:i<l.length:=by rw[HN.out];exact Aj
   obtain⟨s,hs⟩:=Ae (l[i]?.getD default)
   have Hm:s∈l:=by rw[<- hs,Ac Y2,Option.getD_some];exact List.getElem_mem Y2
   have Eh:l[i]?=some s:=by rw[<- hs,Ac Y2];rfl
   have hx:=Om.out i Aj;rw[hs]at hx;have Ce:=aK (g:=gy) (Km Cm.out (Nat.lt_of_lt_of_le Cj hK) hc) Aj;obtain⟨y,hy⟩:=Ae (gy i);rw[hy]at hx Ce;have Df:Hid (∀ u∈y.cells,u.oneCell'=true):=Aa (by simp[Value.oneCell'])
   have Ea:(l.take (i+1)).map Bf=(l.take i).map Bf++[Bf s]:=by rw[List.take_add_one,Eh];simp
   have Vo:=Aa Ea;have HX:=Aa hx;have Mz:=Aa (HG.out s Hm);clear hc hs Hm Eh hx hy Ea
   go_upto_region 5 with(first
    | (refine wpList_load_mid rfl 46 (.tmp 10) rfl b (o+i*11) rfl y.cells.toList _ Ce Tryz.underlying46 rfl Mc ?_)
    | (refine Iu rfl 46 (.tmp 5) (.tmp 11) rfl y.cells _ Mc rfl Df.out wo.heap.size rfl rfl rfl ?_))
   obtain⟨T,hT⟩:=Ae wo.heap.size;obtain⟨W2,Ax⟩:∃ W,wo.alloc (.cells y.cells 46)=W:=⟨_,rfl⟩
   have b2:Below T wo W2:=by rw[<- Ax,<- hT];exact Af _ _
   have q2:Blk W2 T y.cells 46:=by rw[<- Ax,<- hT];exact Blk.new wo _ _
   have Dw:W2.rangeAt T 0 y.cells.toList:=q2.range;have Az:=b2.size;have Im:=Aa Ax;have HT:=Aa hT;rw[hT]at xO;have Gg:=xM K s y W2 (HX.out.below (Cm.out.trans (b2.mono (by omega))) hK (Ab _)) (by omega) Mz.out.1 Mz.out.2;have Vk:=Aa Gg;have B2:=Aa b2;rw[HT.out];rw[Im.out];clear hT Ax Im q2 b2 Gg Ce Df
   go_wp2_with (first
    | (refine wpList_load_mid rfl 46 (.tmp 5) rfl T 0 rfl y.cells.toList _ Dw Tryz.underlying46 rfl Mc ?_))
   refine Vk.out.mono ?_;rintro e w3 ⟨pv,rfl,Mw,Ak⟩;clear Vk Dw;obtain⟨pa,pc,Sm,_,_⟩:=id Mw.form;obtain⟨pn,Pp⟩:∃ k,(Bf s).length=k:=⟨_,rfl⟩;rw[Pp]at Sm;subst Sm
   have qts:wo.heap.size<=W2.heap.size:=by rw[HT.out];have := B2.out.size;rw[HT.out]at this;exact this
   have b13:Below wo.heap.size wo w3:=by rw[HT.out];exact B2.out.trans (Ak.mono (by rw[<- HT.out];exact qts))
   have b14:Below wo.heap.size wo (w3.alloc (.cells #[.slice pa pn pc] 34)):=b13.alloc b13.size _;have qrn:Dt W2.heap.size (w3.alloc (.cells #[.slice pa pn pc] 34)) (.slice pa pn pc) (Bf s):=Mw.old (Af _ _) (Ab _);have qdp:=Aa qrn;have Yw:=Aa b14;have Tz:=Lk.out.own.old b14 (Ab _);have gU:=Aa Tz;have D6:Hid (Dg 1 [[.slice pa pn pc]]):=Aa (Dg.one rfl fun u hu=>by rw[List.mem_singleton.1 hu];rfl)
   have Pz:Hid (∀ (i:Nat) (r:List Value) (j:Nat) (u:Value),([[.slice pa pn pc]]:List (List Value))[i]?=some r->r[j]?=some u->(w3.alloc (.cells #[.slice pa pn pc] 34)).cell? ⟨w3.heap.size,0+(i*1+j),none⟩=some u):=Aa fun i r j u h1 h2=>by
    have Jo:i=0:=by have := (List.getElem?_eq_some_iff.1 h1).1;simp at this;omega
    subst Jo;cases h1
    have Jb:j=0:=by have := (List.getElem?_eq_some_iff.1 h2).1;simp at this;omega
    subst Jb;cases h2
    exact(Blk.new w3 #[.slice pa pn pc] 34).at rfl
   have Ep:=b13.size
   have jad:B<=w3.heap.size:=by have := HT.out;omega
   have qoq:=Aa Ep;obtain⟨rs,Ih⟩:=Ae (List.zipWith (fun(_:List Nat) (u:Value)=>[u]) ((l.take i).map Bf) vs);have Lw:=Aa Ih;have V5:Hid (Be 1 34 B (w3.alloc (.cells #[.slice pa pn pc] 34)) (.slice oa i oc) rs):=Aa (by rw[<- Ih];exact gU.out);have Hx:Hid (rs.length=i):=Aa (by rw[<- Ih];exact aU.out);clear Ih Tz qrn b14 b13 Ep qts Pp Mw Ak;go_wp2_with (at_builtin;refine Q6 rfl (.tmp 12) (.tmp 15) 29 rfl Tryz.underlying29 Tryz.infoIntsG (by kernel_rfl) (by decide) rfl V5.out (b:=w3.heap.size) (off:=0) (m:=1) (cap:=1) (ms:=[[.slice pa pn pc]]) rfl rfl D6.out Pz.out (by decide) (by rw[Hx.out];simp[maxLen];omega) (by rw[Hx.out];omega) (by simp;omega) ?_;intro g1 cap1 w5 Hh Bo Ie)
   have iT:=RO.add (a:=Bf s) (u:=.slice pa pn pc) (G:=fun b=>(Value.slice pa pn pc).ownBlock=some b) Lk.out (wI Yw.out) (qz4 qdp.out fun b h=>h)
    (fun b hb=>⟨by have := (Or qdp.out hb).1;have := HT.out;have := B2.out.size;omega,cU qdp.out hb⟩) (by have := HT.out;omega) Bo (by rw[Lw.out];exact Hh) (fun g hg=>by
     simp only[Value.ownBlock,Option.some.injEq]at hg;subst hg
     rcases Ie with h | h
     ·exact .inl h
     ·exact .inr (by rw[h];exact Ab _))
   have Aq:Below B w w5:=(Cm.out.trans (Yw.out.mono (by have := HT.out;omega))).grown Bo (by simp;omega) (fun r hr=>(V5.out.low hr));have zB:Hid (NO B w5 (.slice (some ⟨g1,0,none⟩) (rs.length+1) cap1) ((l.take (i+1)).map Bf) (vs++[.slice pa pn pc]) _):=Aa (by rw[Vo.out];exact iT);exact⟨⟨i+1,_,_,by omega,by go_num,zB.out,Aq⟩,by simp[intOf];omega⟩
  ·obtain rfl:i=n:=by omega
   have Ea:l.take i=l:=List.take_of_length_le (by rw[HN.out];exact Ab _);have Eg:=Lk.out;rw[Ea]at Eg;have qkg:=Aa Eg;have Cs:=Cm.out;clear Eg Lk Cm Ea;go_wp2_with fail
   go_ret
   exact⟨_,vs,F,rfl,qkg.out,Cs⟩
end Go.Proofs.YtlldjmagbjjeoaaGreatDoor
namespace Go.Proofs
open Go.Shelf
def Tryz.lays107_ren:Go.Shelf.Ren:=⟨fun | 107=>46 | 108=>82 | n=>n,fun | 28=>34 | 3=>3 | 4=>4 | 0=>0 | n=>n,fun | n=>n⟩
theorem Tryz.lays107:Go.Proofs.Lays.n107 Tryz.prog Tryz.lays107_ren:={
 mixed:=by kernel_rfl
 f107:=Tryz.func46.trans (congrArg some (by kernel_rfl))
 f108:=Tryz.func82.trans (congrArg some (by kernel_rfl))
 t0:=Tryz.underlying0
 a0:=Tryz.isAgg0
 z0:=Tryz.sizeOf0
 v0:=Tryz.zeroValue0
 t3:=Tryz.underlying3
 a3:=Tryz.isAgg3
 z3:=Tryz.sizeOf3
 v3:=Tryz.zeroValue3
 t4:=Tryz.underlying4
 a4:=Tryz.isAgg4
 z4:=Tryz.sizeOf4
 v4:=Tryz.zeroValue4
 t28:=Tryz.underlying34
 a28:=Tryz.isAgg34
 z28:=Tryz.sizeOf34
 v28:=Tryz.zeroValue34 }
open Go.Lib in
theorem Tryz.slices_Contains_int (b off n c:Nat) (zs:List Int) (x:Int) (w:World) (hz:n<=zs.length) (Dr:n<=9223372036854775807) (hc:∀ j,j<zs.length->w.cell? ⟨b,off+j,none⟩=some (.int .i64 (zs.getD j 0))) :
  Calls Tryz.prog 46 #[.slice (some ⟨b,off,none⟩) n c,.int .i64 x] w fun e w'=>e=.returned (.bool ((zs.take n).contains x))/\w'=w:=Any.slices_Contains_int Tryz.lays107 b off n c zs x w hz Dr hc
def Tryz.laysNm215_ren:Go.Shelf.Ren:=⟨fun | 15=>75 | n=>n,fun | 22=>34 | 3=>3 | 4=>4 | n=>n,fun | n=>n⟩
theorem Tryz.laysNm215:Go.Proofs.Lays2.n15 Tryz.prog Tryz.laysNm215_ren:={
 mixed:=by kernel_rfl
 f15:=Tryz.func75.trans (congrArg some (by kernel_rfl))
 t3:=Tryz.underlying3
 a3:=Tryz.isAgg3
 z3:=Tryz.sizeOf3
 v3:=Tryz.zeroValue3
 t4:=Tryz.underlying4
 a4:=Tryz.isAgg4
 z4:=Tryz.sizeOf4
 v4:=Tryz.zeroValue4
 t22:=Tryz.underlying34
 a22:=Tryz.isAgg34
 z22:=Tryz.sizeOf34
 v22:=Tryz.zeroValue34
 i3:=by kernel_rfl }
open Go.RowKit Go.Lib in
theorem Tryz.slices_Clone_int (b off n c:Nat) (zs:List Int) (w:World) (hz:n<=zs.length) (Dr:n*8<=140737488355328) (hc:∀ j,j<zs.length->w.cell? ⟨b,off+j,none⟩=some (.int .i64 (zs.getD j 0))) :
  Calls Tryz.prog 75 #[.slice (some ⟨b,off,none⟩) n c] w fun e w'=>∃ v',e=.returned v'/\w'.ownsRow w.heap.size 3 1 v' n ((zs.take n).map (Value.int .i64))/\v'≠.slice none 0 0/\Below w.heap.size w w':=Any.slices_Clone_int Tryz.laysNm215 b off n c zs w hz Dr hc
def Tryz.laysNm220_ren:Go.Shelf.Ren:=⟨fun | 20=>74 | n=>n,fun | 22=>34 | 3=>3 | 4=>4 | 0=>0 | n=>n,fun | n=>n⟩
theorem Tryz.laysNm220:Go.Proofs.Lays2.n20 Tryz.prog Tryz.laysNm220_ren:={
 mixed:=by kernel_rfl
 f20:=Tryz.func74.trans (congrArg some (by kernel_rfl))
 t0:=Tryz.underlying0
 a0:=Tryz.isAgg0
 z0:=Tryz.sizeOf0
 v0:=Tryz.zeroValue0
 t3:=Tryz.underlying3
 a3:=Tryz.isAgg3
 z3:=Tryz.sizeOf3
 v3:=Tryz.zeroValue3
 t4:=Tryz.underlying4
 a4:=Tryz.isAgg4
 z4:=Tryz.sizeOf4
 v4:=Tryz.zeroValue4
 t22:=Tryz.underlying34
 a22:=Tryz.isAgg34
 z22:=Tryz.sizeOf34
 v22:=Tryz.zeroValue34
 i3:=by kernel_rfl }
open Go.RowKit Go.Lib Go.Sort in
theorem Tryz.slices_Compact_int_cells (b off n c:Nat) (zs:List Int) (w:World) (hz:n<=zs.length) (Dr:n<=9223372036854775807) (zgp:n<=c) (hc:∀ j,j<zs.length->w.cell? ⟨b,off+j,none⟩=some (.int .i64 (zs.getD j 0))) (hf:∀ j,j<n->w.frozen? ⟨b,off+j,none⟩=false) :
  Calls Tryz.prog 74 #[.slice (some ⟨b,off,none⟩) n c] w fun e w'=>e=.returned (.slice (some ⟨b,off,none⟩) (Lib.compact (zs.take n)).length c)/\∃ q,w'=(w.drewN q).setCells b off ((Lib.compact (zs.take n)++List.replicate (n-(Lib.compact (zs.take n)).length) 0).map (Value.int .i64)):=Any.slices_Compact_int_cells Tryz.laysNm220 b off n c zs w hz Dr zgp hc hf
end Go.Proofs
namespace Go.Proofs.YtlldjmagbjjeoaaGreatDoor
open Go.RowKit
set_option linter.unusedVariables false
theorem zpd (l:List Nat) (j:Nat):(l.map fun n:Nat=>(n:Int)).getD j 0=((l[j]?.getD 0:Nat):Int):=by
 rw[List.getD_eq_getElem?_getD,List.getElem?_map];cases l[j]?<;>rfl
theorem zi6 {K:Nat} {w:World} {v:Value} {l:List Nat} (h:Ee K w v l) (h0:0<l.length):∃ b o c,v=.slice (some ⟨b,o,none⟩) l.length c/\∀ j,j<(l.map fun n:Nat=>(n:Int)).length->w.cell? ⟨b,o+j,none⟩=some (.int .i64 ((l.map fun n:Nat=>(n:Int)).getD j 0)):=by
 obtain⟨b,o,c,he,_,_,_,hc⟩:=Ee.pos h h0;exact⟨b,o,c,he,fun j hj=>by rw[zpd];exact hc j (by simpa using hj)⟩
theorem zw5 {K:Nat} {w:World} {v:Value} {l:List Nat} (h:Ee K w v l):l.length<=9223372036854775807:=by
 obtain⟨_,c,_,h1,h2⟩:=h.form;unfold maxLen at h2;omega
theorem zud (K:Nat) (v:Value) (l:List Nat) (c:Nat) (w:World) (h:Ee K w v l) (hc:c∈l):Calls Tryz.prog 46 #[v,.int .i64 c] w fun e w'=>e=.returned (.bool true)/\w'=w:=by
 obtain⟨b,o,cap,rfl,Ba⟩:=zi6 h (List.length_pos_of_mem hc);have Cc:(l.map fun n:Nat=>(n:Int)).length=l.length:=List.length_map ..;have := Tryz.slices_Contains_int b o l.length cap (l.map fun n:Nat=>(n:Int)) (c:Int) w (by rw[Cc];exact Ab _) (zw5 h) Ba;rwa[List.take_of_length_le (by rw[Cc];exact Ab _),List.contains_iff_mem.2 (List.mem_map.2 ⟨c,hc,rfl⟩)]at this
def mJ (l:List UInt8):Nat:=l.foldl (fun a b=>a*10+(b.toNat-48)) 0
theorem zr0 (l:List UInt8) (b:UInt8):mJ (l++[b])=mJ l*10+(b.toNat-48):=by unfold mJ;rw[List.foldl_append];rfl
theorem xS {i:Nat} (h:i<10):(UInt8.ofNat (48+i)).toNat=48+i:=by rw[UInt8.toNat_ofNat'];omega
theorem zt0 (u:Nat) (h:¬ u<10):Lib.decDigits u=Lib.decDigits (u/10)++[UInt8.ofNat (48+u%10)]:=by
 rw[Lib.decDigits,dif_neg h]
theorem eL:∀ (k u:Nat),u<=k->mJ (Lib.decDigits u)=u/\∀ b∈Lib.decDigits u,48<=b.toNat
 | k,u,hk=>by
  by_cases h:u<10
  ·rw[Lib.decDigits_one h]
   refine⟨?_,fun b hb=>?_⟩
   ·show 0*10+((UInt8.ofNat (48+u)).toNat-48)=u
    rw[xS h];omega
   ·rw[List.mem_singleton.1 hb,xS h];omega
  ·match k with
   | 0=>omega
   | k+1 =>
    obtain⟨h1,h2⟩:=eL k (u/10) (by omega);rw[zt0 u h,zr0,h1,xS (Nat.mod_lt _ (by omega))];refine⟨by omega,fun b hb=>?_⟩
    rcases List.mem_append.1 hb with hb | hb
    ·exact h2 b hb
    ·rw[List.mem_singleton.1 hb,xS (Nat.mod_lt _ (by omega))];omega
theorem zf1 {a b:Int} (h:Lib.itoa a=Lib.itoa b):a=b:=by
 have hd:∀ (u:Nat) (r:List UInt8),Lib.decDigits u≠45::r:=fun u r e=>by
  have := (eL u u (Ab _)).2 45 (by rw[e];exact List.mem_cons_self ..);revert this;decide
 unfold Lib.itoa at h
 by_cases ha:a<0<;>by_cases hb:b<0
 ·rw[if_pos ha,if_pos hb]at h
  have e:=congrArg mJ (List.cons.inj h).2;rw[(eL _ _ (Ab _)).1,(eL _ _ (Ab _)).1]at e;omega
 ·rw[if_pos ha,if_neg hb]at h
  exact absurd h.symm (hd _ _)
 ·rw[if_neg ha,if_pos hb]at h
  exact absurd h (hd _ _)
 ·rw[if_neg ha,if_neg hb]at h
  have e:=congrArg mJ h;rw[(eL _ _ (Ab _)).1,(eL _ _ (Ab _)).1]at e;omega
theorem qqh (n:Int):(44:UInt8) ∉ Lib.itoa n:=by
 intro h
 have hd:∀ u:Nat,(44:UInt8) ∉ Lib.decDigits u:=fun u h=>by
  have := (eL u u (Ab _)).2 44 h;revert this;decide
 unfold Lib.itoa at h
 split at h
 ·rcases List.mem_cons.1 h with h | h
  ·revert h;decide
  ·exact hd _ h
 ·exact hd _ h
def Jf (l:List Int):List UInt8:=l.flatMap fun n=>Lib.itoa n++[44]
theorem sE (n:Int) (l:List Int):Jf (n::l)=Lib.itoa n++44::Jf l:=by simp[Jf]
theorem qom (l:List Int) (n:Int):Jf (l++[n])=Jf l++Lib.itoa n++[44]:=by simp[Jf]
theorem qmp:∀ {a b r s:List UInt8},(44:UInt8) ∉ a->(44:UInt8) ∉ b->a++44::r=b++44::s->a=b/\r=s
 | [],[],r,s,_,_,h=>⟨rfl,(List.cons.inj h).2⟩
 | [],y::b,r,s,_,hb,h=>by
  have := (List.cons.inj h).1;exact absurd (by rw[this];exact List.mem_cons_self ..) hb
 | x::a,[],r,s,ha,_,h=>by
  have := (List.cons.inj h).1;exact absurd (by rw[<- this];exact List.mem_cons_self ..) ha
 | x::a,y::b,r,s,ha,hb,h=>by
  obtain⟨h1,h2⟩:=List.cons.inj h;obtain⟨h3,h4⟩:=qmp (fun h=>ha (List.mem_cons_of_mem _ h)) (fun h=>hb (List.mem_cons_of_mem _ h)) h2;exact⟨by rw[h1,h3],h4⟩
theorem ql1:∀ {a b:List Int},Jf a=Jf b->a=b
 | [],[],_=>rfl
 | [],n::b,h=>by rw[sE]at h;have := congrArg List.length h;simp[Jf]at this
 | n::a,[],h=>by rw[sE]at h;have := congrArg List.length h;simp[Jf]at this
 | n::a,m::b,h=>by
  rw[sE,sE]at h;obtain⟨h1,h2⟩:=qmp (qqh n) (qqh m) h;rw[zf1 h1,ql1 h2]
def P7 (x:Nat × List Int):List UInt8:=Jf ((x.1:Int)::x.2)
def Y0 (l:List Nat):List UInt8:=Jf (l.map fun n:Nat=>(n:Int))
theorem qw8 {x y:Nat × List Int} (h:P7 x=P7 y):x=y:=by
 have := ql1 h;obtain⟨h1,h2⟩:=List.cons.inj this;exact Prod.ext (by omega) h2
theorem zax:∀ {a b:List Nat},a.map (fun n:Nat=>(n:Int))=b.map (fun n:Nat=>(n:Int))->a=b
 | [],[],_=>rfl
 | [],m::b,h=>by cases h
 | n::a,[],h=>by cases h
 | n::a,m::b,h=>by
  obtain⟨h1,h2⟩:=List.cons.inj h;have h1:(n:Int)=(m:Int):=h1;rw[zax h2]
  have:n=m:=by omega
  rw[this]
theorem qqm {a b:List Nat} (h:Y0 a=Y0 b):a=b:=zax (ql1 h)
def atKey {α:Type} (key:α->List UInt8) (l:List α) (s:List UInt8):Option Nat:=if l.findIdx (fun x=>key x==s)<l.length then some (l.findIdx fun x=>key x==s)else none
theorem qrr {α:Type} [BEq α] [LawfulBEq α] {key:α->List UInt8} (hk:∀ x y,key x=key y->x=y) (l:List α) (a:α):l.findIdx (fun x=>key x==key a)=l.idxOf a:=by
 unfold List.idxOf
 congr 1
 funext x
 by_cases h:x=a
 ·subst h;simp
 ·have:key x≠key a:=fun e=>h (hk x a e)
  rw[beq_eq_false_iff_ne.2 this,beq_eq_false_iff_ne.2 h]
theorem qyz {α:Type} [BEq α] [LawfulBEq α] {key:α->List UInt8} (hk:∀ x y,key x=key y->x=y) (l:List α) (a:α):atKey key l (key a)=if l.idxOf a<l.length then some (l.idxOf a)else none:=by
 unfold atKey;rw[qrr hk]
theorem qxa {α:Type} [BEq α] [LawfulBEq α] {key:α->List UInt8} (hk:∀ x y,key x=key y->x=y) (l:List α) (a:α) (hn:¬ l.idxOf a<l.length) (s:List UInt8):atKey key (l++[a]) s=if s=key a then some l.length else atKey key l s:=by
 have Vz:a ∉ l:=fun h=>hn (List.idxOf_lt_length_of_mem h)
 unfold atKey
 by_cases hs:s=key a
 ·subst hs
  have e:(l++[a]).findIdx (fun x=>key x==key a)=l.length:=by
   rw[qrr hk,List.idxOf_append,if_neg Vz];simp
  rw[e,if_pos rfl,if_pos (by simp)]
 ·rw[if_neg hs]
  have nZ:(key a==s)=false:=beq_eq_false_iff_ne.2 (fun e=>hs e.symm)
  by_cases h:l.findIdx (fun x=>key x==s)<l.length
  ·have e:(l++[a]).findIdx (fun x=>key x==s)=l.findIdx fun x=>key x==s:=by rw[List.findIdx_append,if_pos h]
   rw[e,if_pos h,if_pos (by simp;omega)]
  ·have e:(l++[a]).findIdx (fun x=>key x==s)=l.length+1:=by
    rw[List.findIdx_append,if_neg h];simp[List.findIdx_cons,nZ];omega
   rw[e,if_neg h,if_neg (by simp)]
end Go.Proofs.YtlldjmagbjjeoaaGreatDoor
namespace Go.Proofs
open Go.Shelf
def Tryz.laysM249_ren:Go.Shelf.Ren:=⟨fun | 249=>118 | 288=>130 | 283=>138 | 284=>139 | 285=>140 | 286=>141 | 129=>151 | 317=>150 | 318=>152 | 319=>153 | 320=>154 | 337=>164 | 338=>165 | n=>n,fun | 37=>22 | 2=>2 | 3=>3 | 53=>117 | 4=>4 | 9=>9 | 171=>180 | 0=>0 | 173=>183 | 212=>195 | 51=>172 | 5=>5 | 20=>20 | 213=>196 | 46=>136 | 232=>214 | 233=>215 | n=>n,fun | 17=>0 | 18=>1 | 19=>2 | n=>n⟩
theorem Tryz.laysM249:Go.Proofs.LaysM.n249 Tryz.prog Tryz.laysM249_ren:={
 mixed:=by kernel_rfl
 f129:=Tryz.func151.trans (congrArg some (by kernel_rfl))
 f249:=Tryz.func118.trans (congrArg some (by kernel_rfl))
 f283:=Tryz.func138.trans (congrArg some (by kernel_rfl))
 f284:=Tryz.func139.trans (congrArg some (by kernel_rfl))
 f285:=Tryz.func140.trans (congrArg some (by kernel_rfl))
 f286:=Tryz.func141.trans (congrArg some (by kernel_rfl))
 f288:=Tryz.func130.trans (congrArg some (by kernel_rfl))
 f317:=Tryz.func150.trans (congrArg some (by kernel_rfl))
 f318:=Tryz.func152.trans (congrArg some (by kernel_rfl))
 f319:=Tryz.func153.trans (congrArg some (by kernel_rfl))
 f320:=Tryz.func154.trans (congrArg some (by kernel_rfl))
 f337:=Tryz.func164.trans (congrArg some (by kernel_rfl))
 f338:=Tryz.func165.trans (congrArg some (by kernel_rfl))
 t0:=Tryz.underlying0
 a0:=Tryz.isAgg0
 z0:=Tryz.sizeOf0
 v0:=Tryz.zeroValue0
 t2:=Tryz.underlying2
 a2:=Tryz.isAgg2
 z2:=Tryz.sizeOf2
 v2:=Tryz.zeroValue2
 t3:=Tryz.underlying3
 a3:=Tryz.isAgg3
 z3:=Tryz.sizeOf3
 v3:=Tryz.zeroValue3
 t4:=Tryz.underlying4
 a4:=Tryz.isAgg4
 z4:=Tryz.sizeOf4
 v4:=Tryz.zeroValue4
 t5:=Tryz.underlying5
 a5:=Tryz.isAgg5
 z5:=Tryz.sizeOf5
 v5:=Tryz.zeroValue5
 t9:=Tryz.underlying9
 a9:=Tryz.isAgg9
 z9:=Tryz.sizeOf9
 v9:=Tryz.zeroValue9
 t20:=Tryz.underlying20
 a20:=Tryz.isAgg20
 z20:=Tryz.sizeOf20
 v20:=Tryz.zeroValue20
 t37:=Tryz.underlying22
 a37:=Tryz.isAgg22
 z37:=Tryz.sizeOf22
 v37:=Tryz.zeroValue22
 t46:=Tryz.underlying136
 a46:=Tryz.isAgg136
 z46:=Tryz.sizeOf136
 v46:=Tryz.zeroValue136
 t51:=Tryz.underlying172
 a51:=Tryz.isAgg172
 z51:=Tryz.sizeOf172
 v51:=Tryz.zeroValue172
 t53:=Tryz.underlying117
 a53:=Tryz.isAgg117
 z53:=Tryz.sizeOf117
 v53:=Tryz.zeroValue117
 t171:=Tryz.underlying180
 a171:=Tryz.isAgg180
 z171:=Tryz.sizeOf180
 v171:=Tryz.zeroValue180
 t173:=Tryz.underlying183
 a173:=Tryz.isAgg183
 z173:=Tryz.sizeOf183
 v173:=Tryz.zeroValue183
 t212:=Tryz.underlying195
 a212:=Tryz.isAgg195
 z212:=Tryz.sizeOf195
 v212:=Tryz.zeroValue195
 t213:=Tryz.underlying196
 a213:=Tryz.isAgg196
 z213:=Tryz.sizeOf196
 t232:=Tryz.underlying214
 a232:=Tryz.isAgg214
 z232:=Tryz.sizeOf214
 v232:=Tryz.zeroValue214
 t233:=Tryz.underlying215
 a233:=Tryz.isAgg215
 z233:=Tryz.sizeOf215
 v233:=Tryz.zeroValue215
 g17:=by kernel_rfl
 g18:=by kernel_rfl
 g19:=by kernel_rfl
 i0:=by kernel_rfl
 i2:=by kernel_rfl
 i3:=by kernel_rfl
 i4:=by kernel_rfl
 i5:=by kernel_rfl
 i9:=by kernel_rfl
 i20:=by kernel_rfl
 i37:=by kernel_rfl
 i46:=by kernel_rfl
 i51:=by kernel_rfl
 i53:=by kernel_rfl
 i171:=by kernel_rfl
 i173:=by kernel_rfl
 i212:=by kernel_rfl
 i232:=by kernel_rfl
 i233:=by kernel_rfl
 m17:=by kernel_rfl
 m18:=by kernel_rfl
 m19:=by kernel_rfl }
open Go.RowKit Go.Sort Go.Lib in
theorem Tryz.internal_strconv_AppendInt_10 (B n : Nat) (i : Int) (h0 : -9223372036854775808 <= i) (h1 : i <= 9223372036854775807) (sv : Value) (xs : List Value) (w : World) (Av : w.ownsRow B 5 1 sv n xs) (gL : B <= w.heap.size) (oF : n + 21 <= 140737488355328) (In : Lib.TabBelow Tryz.prog B w "internal/strconv.uint64pow10" .u64 Lib.pow10Tab) :
  Calls Tryz.prog 118 #[sv,.int .i64 i,.int .i64 10] w fun e w'=>∃ v',e=.returned v'/\w'.ownsRow B 5 1 v' (n+(Lib.itoa i).length) (xs++Lib.byteCells (Lib.itoa i))/\Below B w w'/\Lib.OthersKept 5 none w w':=Any.internal_strconv_AppendInt_10 Tryz.laysM249 B n i h0 h1 sv xs w Av gL oF In
end Go.Proofs
