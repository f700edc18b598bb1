/- Contracts and plain laws, several texts in one (DlReg, DlLess, GStore2, DCmp, DCndW). No conditions beyond those stated. -/
import Derived.Test.YtlldjmagbjjeoaaGreatDoorPk35
set_option maxRecDepth 100000
set_option maxHeartbeats 40000000
namespace Go.Proofs.YtlldjmagbjjeoaaGreatDoor
open Go.RowKit
set_option linter.unusedVariables false
def Zh:List Nat->Nat->Nat
 | [],acc=>acc
 | k::r,acc=>if 300<acc*k then 301 else Zh r (acc*k)
theorem qq0:∀ (l:List (List Nat)) (acc:Nat),acc<=300->(∀ p∈l,p≠[])->(Zh (l.map (·.length)) acc<=300 ↔ acc*Gd l<=300)
 | [],acc,h,_=>by show acc<=300 ↔ acc*1<=300;omega
 | p::l,acc,h,hp=>by
  show(if 300<acc*p.length then 301 else Zh (l.map (·.length)) (acc*p.length))<=300 ↔ acc*(p.length*Gd l)<=300
  rw[<- Nat.mul_assoc]
  have h1:=qct (P:=l) fun q hq=>hp q (List.mem_cons_of_mem _ hq)
  by_cases h2:300<acc*p.length
  ·rw[if_pos h2]
   have := Nat.le_mul_of_pos_right (acc*p.length) h1;omega
  ·rw[if_neg h2]
   exact qq0 l _ (by omega) fun q hq=>hp q (List.mem_cons_of_mem _ hq)
theorem zdq (s:Sc) (h:s.cuts.length<=2^38):(Bf s).length<=2^40:=by
 unfold Bf
 split
 ·refine Nat.le_trans (qtu s _) ?_
  unfold Hd
  split<;>omega
 ·simp
theorem qw1 (K:Nat) (lv:Value) (l:List Sc) (w:World) (hs:Mo K w lv l) (hg:K8 l) (hn:l.length<=2^20) (hK:K<=w.heap.size) :
  Calls Tryz.prog 12 #[lv] w fun e w'=>e=.returned (.int .i64 (Zh ((pcs l).map (·.length)) 1))/\Below w.heap.size w w':=by
 obtain⟨la,lc,rfl,_,Jw⟩:=hs.form;obtain⟨gy,Cx,Cd⟩:=hs;obtain⟨n,Fe⟩:=Ae l.length;have HN:=Aa Fe;rw[Fe]at Cx Cd hn ⊢;obtain⟨B,hB⟩:=Ae w.heap.size;have HB:=Aa hB;rw[hB]at hK ⊢;obtain⟨z,hz⟩:=Ae (Zh ((pcs l).map (·.length)) 1);have HZ:=Aa hz;rw[hz];have Zf:=Aa Cx;have Om:=Aa Cd;have HG:=Aa hg;clear hB Fe Cx Cd hg hz;go_enter Tryz.func12,Tryz.ntmps12
 go_wp2_with fail
 go_loopw [3,8] (fun ov iv wr=>∃ (i acc:Nat),i<=n/\iv=.int .i64 i/\ov=.int .i64 acc/\acc<=300/\Hid (Zh (((pcs l).map (·.length)).drop i) acc=z)/\Below B w wr) (fun _ iv _=>n-(intOf iv).toNat)
 case atStart=>exact⟨0,1,Nat.zero_le _,rfl,rfl,by decide,HZ,Below.refl _ _⟩
 case round =>
  obtain⟨i,acc,hi,rfl,rfl,zd4,HR,Cs⟩:=hrel;obtain⟨wo,rfl⟩:∃ wo:World,wo=wr:=⟨_,rfl⟩;have Cm:=Aa Cs
  have xO:B<=wo.heap.size:=by have := Cs.size;have := HB.out;omega
  clear Cs
  by_cases Aj:i<n
  ·obtain⟨b,o,cap,he,_,_,Cj,hc⟩:=Zf.out.pos (by omega)
   simp only[Value.slice.injEq,true_and]at he;obtain⟨rfl,rfl⟩:=he
   have Y2:i<l.length:=by rw[HN.out];exact Aj
   obtain⟨s,hs⟩:=Ae (l[i]?.getD default)
   have Hm:s∈l:=by rw[<- hs,Ac Y2,Option.getD_some];exact List.getElem_mem Y2
   have Eh:l[i]?=some s:=by rw[<- hs,Ac Y2];rfl
   have hx:=Om.out i Aj;rw[hs]at hx;have Ce:=aK (g:=gy) (Km Cm.out (Nat.lt_of_lt_of_le Cj hK) hc) Aj;obtain⟨y,hy⟩:=Ae (gy i);rw[hy]at hx Ce;have Df:Hid (∀ u∈y.cells,u.oneCell'=true):=Aa (by simp[Value.oneCell'])
   have qqd:((pcs l).map (·.length)).drop i=(Bf s).length::((pcs l).map (·.length)).drop (i+1):=by
    rw[List.drop_eq_getElem_cons (by unfold pcs;simpa using Y2)];unfold pcs;simp only[List.getElem_map];rw[Ac Y2]at Eh;cases Eh;rfl
   have mC:=HR.out;rw[qqd]at mC;have qml:(if 300<acc*(Bf s).length then 301 else Zh (((pcs l).map (·.length)).drop (i+1)) (acc*(Bf s).length))=z:=mC;have Cc:=zdq s (HG.out s Hm).2;have eO:=Aa qml;have HX:=Aa hx;have Mz:=Aa (HG.out s Hm);have aU:=Aa Cc;clear hc hs Hm Eh hx hy qqd mC qml Cc
   go_upto_region 5 with(first
    | (refine wpList_load_mid rfl 46 (.tmp 10) rfl b (o+i*11) rfl y.cells.toList _ Ce Tryz.underlying46 rfl Mc ?_)
    | (refine Iu rfl 46 (.tmp 5) (.tmp 11) rfl y.cells _ Mc rfl Df.out wo.heap.size rfl rfl rfl ?_))
   obtain⟨T,hT⟩:=Ae wo.heap.size;obtain⟨W2,Ax⟩:∃ W,wo.alloc (.cells y.cells 46)=W:=⟨_,rfl⟩
   have b2:Below T wo W2:=by rw[<- Ax,<- hT];exact Af _ _
   have q2:Blk W2 T y.cells 46:=by rw[<- Ax,<- hT];exact Blk.new wo _ _
   have Dw:W2.rangeAt T 0 y.cells.toList:=q2.range;have Az:=b2.size;have Im:=Aa Ax;have HT:=Aa hT;rw[hT]at xO;have Gg:=xM K s y W2 (HX.out.below (Cm.out.trans (b2.mono (by omega))) hK (Ab _)) (by omega) Mz.out.1 Mz.out.2;have Vk:=Aa Gg;have B2:=Aa b2
   have lE:T<=W2.heap.size:=by rw[<- hT];rw[hT];have := b2.size;rw[hT]at this;exact this
   rw[HT.out];rw[Im.out];clear hT Ax Im q2 b2 Gg Ce Df
   go_wp2_with (first
    | (refine wpList_load_mid rfl 46 (.tmp 5) rfl T 0 rfl y.cells.toList _ Dw Tryz.underlying46 rfl Mc ?_))
   refine Vk.out.mono ?_;rintro e w3 ⟨pv,rfl,Mw,Ak⟩;clear Vk Dw;obtain⟨pa,pc,Sm,_,_⟩:=id Mw.form;obtain⟨pn,Pp⟩:∃ k,(Bf s).length=k:=⟨_,rfl⟩;rw[Pp]at Sm eO aU;subst Sm;have En:=aU.out;have Ob:Below B w w3:=Cm.out.trans ((B2.out.trans (Ak.mono lE)).mono (by omega));have cT:=Aa Ob;obtain⟨m,hm⟩:=Ae (acc*pn)
   have zyt:m<=300*2^40:=by rw[<- hm];exact Nat.mul_le_mul zd4 En
   have jb7:IntKind.i64.wrap ((acc:Int)*(pn:Int))=(m:Int):=by rw[<- hm,Int.natCast_mul];exact IntWalk.i64_in _ (by rw[<- Int.natCast_mul,hm];omega)
   rw[hm]at eO;clear hm Pp Mw Ak Ob
   by_cases Dr:300<m
   ·have t0:decide ((300:Int)<(m:Int))=true:=decide_eq_true (by omega)
    have hz:301=z:=by have := eO.out;rwa[if_pos Dr]at this
    have R9:=Aa hz;clear hz Dr;go_wp2_with fail
    go_ret
    exact⟨by rw[<- R9.out];rfl,cT.out⟩
   ·have t0:decide ((300:Int)<(m:Int))=false:=decide_eq_false (by omega)
    have hz:Zh (((pcs l).map (·.length)).drop (i+1)) m=z:=by have := eO.out;rwa[if_neg Dr]at this
    have R9:=Aa hz
    have I6:m<=300:=by omega
    clear hz Dr;go_wp2_with fail
    exact⟨⟨i+1,m,by omega,by go_num,rfl,I6,R9,cT.out⟩,by simp[intOf];omega⟩
  ·obtain rfl:i=n:=by omega
   have Gj:acc=z:=by
    have h:=HR.out;rw[List.drop_eq_nil_of_le (by unfold pcs;simp[HN.out])]at h;exact h
   subst Gj;have Cs:=Cm.out;clear Cm HR HZ;go_wp2_with fail
   go_ret
   exact⟨rfl,Cs⟩
def dZ:Gx:=.mk 5 [97,103,101] v0 []
def Cy (n:Nat):Gx:=.mk 13 [] v0 [dZ,Kv (wV 2 n)]
abbrev Vy:Xv:=⟨5,[97,103,101],0,false,⟨none,0,0⟩,false,⟨none,0,0⟩,0,⟨none,0,0⟩⟩
theorem qww (L:Nat) (V:World):ExN L V dZ Vy:=fun W hw=>ExG.make rfl rfl (by simp[Gx.nm,dZ,maxLen]) (rS _ W) (fun _=>xz) (Au.nil none 0 (Nat.zero_le _) (fun _=>rfl)) fun j a ha=>by cases ha
theorem qoe (n:Nat) (h0:0<n) (hn:n<65536) (w:World):Calls Tryz.prog 13 #[.int .i64 n] w fun e w'=>∃ (b:Nat) (s1 s2:Sl),e=.returned (opX 13 ⟨some ⟨b,0,none⟩,2,2⟩).agg/\w.heap.size<b/\Blk w' b (Cq Vy (Ch 2 false s1 false s2 0)) 43/\VlN w.heap.size w' (wV 2 n) ⟨2,false,s1.val,false,s2.val,0⟩/\Below w.heap.size w w':=by
 obtain⟨W1,Ah⟩:=Ae (w.alloc (.cells xz.cells 43))
 have b1:Below w.heap.size w W1:=by rw[<- Ah];exact Af _ _
 have q1:Blk W1 w.heap.size xz.cells 43:=by rw[<- Ah];exact Blk.new w _ _
 have s1:W1.heap.size=w.heap.size+1:=by rw[<- Ah];simp
 obtain⟨B,hB⟩:=Ae w.heap.size;have HB:=Aa hB;have Dk:Hid (w.alloc (.cells #[.int .u8 0,.string ⟨#[]⟩,.int .u8 0,.bool false,.slice none 0 0,.bool false,.slice none 0 0,.int .i64 0,.slice none 0 0] 43)=W1):=Aa Ah;rw[hB]at b1 q1 s1 ⊢;have Ao:=qnw n W1 h0 hn;clear hB Ah;go_enter Tryz.func13,Tryz.ntmps13
 go_upto_region 1 with fail
 simp only[HB.out];rw[Dk.out];go_wp2_with fail
 refine Ao.mono ?_;rintro e w2 ⟨u,v,rfl,⟨a1,m1,rfl⟩,⟨a2,m2,rfl⟩,hu,hv,Ai,dE,Y7⟩;have Az:=Ai.size
 have Mr:VlN W1.heap.size w2 (wV 2 n) ⟨2,false,.slice a1 1 m1,false,.slice a2 1 m2,0⟩:=fun W hw=>by
  unfold wV;rw[if_pos (.inl rfl)];exact⟨rfl,rfl,rfl,rfl,by rw[if_neg (by omega)];exact yC hu dE hw (Ab _),yC hv Y7 hw (Ab _)⟩
 have b3:Below w2.heap.size w2 (w2.alloc (.cells (Cq Vy (Ch 2 false ⟨a1,1,m1⟩ false ⟨a2,1,m2⟩ 0)) 43)):=Af _ _;have q3:=Blk.new w2 (Cq Vy (Ch 2 false ⟨a1,1,m1⟩ false ⟨a2,1,m2⟩ 0)) 43;have qr2:=Mr.move (An.of b3);have hq:=(q1.below Ai (by omega)).below b3 (by omega)
 have Bd:∀ u∈(opX 13 ⟨some ⟨w2.heap.size,0,none⟩,2,2⟩).cells,u.oneCell'=true:=by simp[Value.oneCell']
 have Th:=Aa qr2;have Hz:=Aa q3;have Do:=Aa (b1.trans ((Ai.mono (by omega)).trans (b3.mono (by omega))));clear Ao q3 b3 Mr qr2 hu hv dE Y7;go_wp2_with (refine Gu rfl 43 43 (.tmp 2) (.tmp 9) rfl (opX 13 ⟨some ⟨w2.heap.size,0,none⟩,2,2⟩).cells _ B hq Bm rfl Bd rfl rfl ?_;intro W5 t1 t2 t3 t4)
 refine bodyPost_ret (Pk rfl _ _ B _ _ t1 rfl Tryz.underlying43 rfl Bm) rfl ?_;exact⟨w2.heap.size,⟨a1,1,m1⟩,⟨a2,1,m2⟩,rfl,by omega,(t3.block _ Hz.out.lt (by simp;omega)).trans Hz.out,(Th.out.move (An.put t3 (by omega))).mono (by omega),Do.out.trans (t2 B (Ab _))⟩
theorem qzs {n b:Nat} {s1 s2:Sl} {L:Nat} {w':World} (hb:L<=b) (hq:Blk w' b (Cq Vy (Ch 2 false s1 false s2 0)) 43) (hv:VlN L w' (wV 2 n) ⟨2,false,s1.val,false,s2.val,0⟩):ExN L w' (Cy n) (opX 13 ⟨some ⟨b,0,none⟩,2,2⟩):=I9 hq hb (qww _ _) (tJ hv)
theorem zui (n:Nat) (h0:0<n) (hn:n<65536) (w:World):Calls Tryz.prog 13 #[.int .i64 n] w fun e w'=>∃ X:Xv,e=.returned X.agg/\ExN w.heap.size w' (Cy n) X/\Below w.heap.size w w' :=
 (qoe n h0 hn w).mono (by rintro e w' ⟨b,s1,s2,rfl,hb,hq,hv,Cs⟩;exact⟨_,rfl,qzs (Nat.le_of_lt hb) hq hv,Cs⟩)
theorem eH {op:Oper} {a:Act} {w:World} {K:Act->World->Prop} {Q:Exit->Act->World->Prop} (ty t:TypeId) (x y:Operand) (ho:op.op=.store ty x y) (cs old:Array Value) (b:Nat)
  (hq:Blk w b old t) (hi:(Tryz.prog.info? ty).map (fun i=>i.size)=some cs.size) (Dn:old.size=cs.size) (h1:∀ v∈cs,v.oneCell'=true)
  (hx:a.eval x=.pointer (some ⟨b,0,none⟩)) (hy:a.eval y=.agg cs)
  (h:∀ W',Blk W' b cs t->(∀ B,B<=b->Below B w W')->w.grownBy W' (some b)->W'.heap.size=w.heap.size->K (a.put op.dst undef) W'):op.wp Tryz.prog a w K Q:=by
 have hs:(w.setRow b cs).heap.size=w.heap.size:=by simp[World.setRow]
 refine wp_store_row ty x y ho b cs hx hy t old hq hi Dn (by rw[Array.all_eq_true_iff_forall_mem];exact h1) ?_;exact h _ (setRow_heap w b old cs t _ hq) (fun B hB=>⟨rfl,rfl,rfl,Nat.le_of_eq hs.symm,fun k hk=>setRow_other w b k cs (by omega)⟩) ⟨rfl,rfl,rfl,Nat.le_of_eq hs.symm,fun k _ hk=>setRow_other w b k cs (fun e=>hk (by rw[e]))⟩ hs
theorem qu7:(Tryz.prog.info? 91).map (fun i=>(i.zero,i.size,i.bytes))=some (some .nilFunc,1,8):=by kernel_rfl
theorem qwz {g:Nat->Xv} {w:World} {b o k n:Nat} (hc:∀ i,i<n->∀ j,j<9->w.cell? ⟨b,o+(i*9+j),none⟩=some ((g i).cell j)) (hk:k<n):w.rangeAt b (o+k*9) (g k).cells.toList:=by
 intro j v hj
 have O5:j<9:=(List.getElem?_eq_some_iff.1 hj).1;have := qon (g k) O5;rw[hj,Option.getD_some]at this;rw[this,Nat.add_assoc];exact hc k hk j O5
def oO (bb:Nat) (sv pv:Sl) (scs:List Sc) (gv:Nat->Value) (e:Gx):Prop :=
 ∀ (x:Xv) (w:World),BC bb sv pv scs gv w.heap.size w->ExG w.heap.size w e x →
  Calls Tryz.prog 37 #[.pointer (some ⟨bb,0,none⟩),x.agg] w fun en w'=>∃ u,en=.returned u/\Zed (Btw w.heap.size w'.heap.size) w' (Ty (Cu (pcs scs)) (fun cs=>evG scs cs e) u)/\Below w.heap.size w w'
structure nN (scs:List Sc) (es:List Gx) (lb T k:Nat) (ca:Option Addr) (cm:Nat) (vs:List Value) (w:World):Prop where
 box:Blk w lb #[.slice ca k cm] 87
 own:Be 1 91 T w (.slice ca k cm) (vs.map fun u=>[u])
 len:vs.length=k
 dat:∀ i,i<k->Zed (Frz T w.heap.size (.slice ca k cm)) w (Ty (Cu (pcs scs)) (fun cs=>evG scs cs (es[i]?.getD default)) (vs[i]?.getD undef))
theorem znz (K bb xb lb pb:Nat) (sv pv:Sl) (scs:List Sc) (gv:Nat->Value) (e:Gx) (x:Xv) (k:Nat) (w:World) (Qi:BC bb sv pv scs gv K w) (he:ExG K w e x) (qx:Blk w xb x.cells 43) (ql:Blk w lb #[.slice none 0 0] 87)
  (qp:Blk w pb #[.pointer (some ⟨bb,0,none⟩)] 118) (hK:K<=lb) (ih:∀ a∈e.args,oO bb sv pv scs gv a) (iA:e.args.length<=2^20) :
  Calls Tryz.prog 67 #[.int .i64 k,.pointer (some ⟨xb,0,none⟩),.pointer (some ⟨lb,0,none⟩),.pointer (some ⟨pb,0,none⟩)] w fun en w' =>
   (e.args.length≠k->en=.returned (.bool false)/\w'=w)/\(e.args.length=k->en=.returned (.bool true)/\Below K w w'/\w.heap.size<=w'.heap.size/\(∀ b,b<w.heap.size->b≠lb->w'.heap[b]?=w.heap[b]?)/\∃ ca cm vs,nN scs e.args lb w.heap.size k ca cm vs w'):=by
 obtain⟨h1,h2,h3,hv,g,hr,Jz⟩:=he.open;obtain⟨a8,m8,h8,uS,eV⟩:=hr.form;obtain⟨q,hq⟩:=Ae e.args.length;rw[hq]at h8 uS hr iA ⊢
 have c8:w.cell? ⟨xb,8,none⟩=some (.slice a8 q m8):=by rw[<- h8];exact qx.at rfl
 have Pq:xb≠lb:=fun e=>by subst e;exact absurd (qx.ty_ne ql) (by decide)
 have En:pb≠lb:=fun e=>by subst e;exact absurd (qp.ty_ne ql) (by decide)
 obtain⟨T,hT⟩:=Ae w.heap.size
 have jbo:lb<T:=by rw[<- hT];exact ql.lt
 have zsp:pb<T:=by rw[<- hT];exact qp.lt
 have HT:=Aa hT;have HR:Hid (Au 9 (fun i j=>(g i).cell j) K w (.slice a8 q m8) q):=Aa (by rw[<- h8];exact hr)
 have HA:Hid (∀ j,j<q->ExG K w (Dm e j) (g j)/\oO bb sv pv scs gv (Dm e j)/\e.args[j]?=some (Dm e j)):=Aa fun j hj=>by
  have e1:=sZ (e:=e) (by rw[hq];exact hj);exact⟨Jz j _ e1,ih _ (List.mem_of_getElem? e1),e1⟩
 have aL:=Aa Qi;have HQ:=Aa hq;have Lg:=Aa ql;have zvv:=Aa qp;rw[hT];clear h1 h2 h3 hv hr Jz h8 he Qi hq ih hT qx ql qp;go_enter Tryz.func67,Tryz.ntmps67
 by_cases fD:q=k
 ·subst fD
  have At:((q:Int) != (q:Int))=false:=by simp
  unfold maxLen at eV;go_wp2_with fail
  go_loopw [16] (fun iv wr=>∃ (j:Nat) (vs:List Value) (ca:Option Addr) (cm:Nat),j<=q/\iv=.int .i64 j/\nN scs e.args lb T j ca cm vs wr/\Below K w wr/\T<=wr.heap.size/\Hid (∀ b,b<T->b≠lb->wr.heap[b]?=w.heap[b]?)) (fun iv _=>q-(intOf iv).toNat)
  case atStart=>exact⟨0,[],none,0,Nat.zero_le _,rfl,⟨Lg.out,Be.nil _ _ _ _,rfl,fun i hi=>absurd hi (Nat.not_lt_zero i)⟩,Below.refl _ _,by rw[HT.out];exact Ab _,Aa fun b _ _=>rfl⟩
  case round =>
   obtain⟨j,vs,ca,cm,hj,rfl,Fb,Bb,Fh,L9⟩:=hrel;obtain⟨wo,rfl⟩:∃ wo:World,wo=wr:=⟨_,rfl⟩;have Ju:=Aa Fb;have Ej:=Aa Bb
   by_cases Aj:j<q
   ·obtain⟨b,o,cap,he,_,_,Cj,hc⟩:=HR.out.pos (by omega)
    simp only[Value.slice.injEq,true_and]at he;obtain⟨rfl,rfl⟩:=he;have Ce:=qwz (Km Bb Cj hc) Aj;obtain⟨ae,acn,aat⟩:=HA.out j Aj;obtain⟨y,hy⟩:=Ae (g j);rw[hy]at Ce ae;have Df:Hid (∀ u∈y.cells,u.oneCell'=true):=Aa (by simp[Value.oneCell']);have J7:wo.heap[pb]?=w.heap[pb]? := L9.out pb zsp En
    have qp:=show Blk wo pb #[.pointer (some ⟨bb,0,none⟩)] 118 from J7.trans zvv.out
    have zg6:=Aa acn;have yP:=Aa aat;have qjl:=Aa ae;have zgx:=Aa qp;clear hc Fb Bb hy ae acn aat J7 qp
    go_upto_region 6 with(first
     | (refine wpList_load_mid rfl 43 (.tmp 18) rfl b (o+j*9) rfl y.cells.toList _ Ce Tryz.underlying43 rfl Xh ?_)
     | (refine Iu rfl 43 (.tmp 7) (.tmp 19) rfl y.cells _ Xh rfl Df.out wo.heap.size rfl rfl rfl ?_))
    obtain⟨A0,Kt⟩:=Ae wo.heap.size;obtain⟨W2,Ax⟩:∃ W,wo.alloc (.cells y.cells 43)=W:=⟨_,rfl⟩
    have b2:Below A0 wo W2:=by rw[<- Ax,<- Kt];exact Af _ _
    have q2:Blk W2 A0 y.cells 43:=by rw[<- Ax,<- Kt];exact Blk.new wo _ _
    have s2:W2.heap.size=A0+1:=by rw[<- Ax,<- Kt];simp
    rw[Kt];rw[Ax]
    have jX:T<=A0:=by omega
    have zyu:K<=T:=by omega
    have bw2:Below K w W2:=Ej.out.trans (b2.mono (by omega));have bR:Blk W2 lb #[.slice ca j cm] 87:=Ju.out.box.below b2 (by omega);have Qg:=zgx.out.below b2 (by omega);have qS:(fun W'=>Below W2.heap.size W2 W') W2.drew:=Er (Below.refl _ _);have Dj:=zg6.out y W2.drew (aL.out.below (bw2.trans (qS.mono (by omega))) (Ab _) (by show K<=W2.heap.size;omega)) (qjl.out.below (bw2.trans (qS.mono (by omega))) (Ab _) (by show K<=W2.heap.size;omega));have Gm:=Aa Dj;have S2:=Aa s2;have Bw:=Aa q2;have lZ:=Aa bR;have t6:=Aa Qg;have Bz:=Aa b2;have jC:=Aa Kt;clear Dj Ax bR Qg b2 Kt s2 Ce Df;refine Fz (fun W'=>Below W2.heap.size W2 W') [5,6] (by kernel_rfl) ?_;refine Nu [6,5] (i:=0) (v:=.slice ca j cm) rfl (by kernel_rfl) (by kernel_rfl) (by kernel_rfl) (by kernel_rfl) (by kernel_rfl) (by kernel_rfl) (fun _ _ _ h=>h) (.inl ⟨by kernel_rfl,fun W' hS=>by have u0:=(lZ.out.below hS lZ.out.lt).one.1;go_simp⟩) qS ?_;refine Nu [6,5,4,3] (i:=1) (v:=.pointer (some ⟨bb,0,none⟩)) rfl (by kernel_rfl) (by kernel_rfl) (by kernel_rfl) (by kernel_rfl) (by kernel_rfl) (by kernel_rfl) (fun _ _ _ h=>h) (.inl ⟨by kernel_rfl,fun W' hS=>by have u0:=(t6.out.below hS t6.out.lt).one.1;go_simp⟩) qS ?_;refine Nu [6,5,4,3] (i:=2) (v:=y.agg) rfl (by kernel_rfl) (by kernel_rfl) (by kernel_rfl) (by kernel_rfl) (by kernel_rfl) (by kernel_rfl) (fun _ _ _ h=>h) (yieldsIf_load_mid (by kernel_rfl) 43 (.tmp 7) rfl A0 0 rfl y.cells.toList _ (fun W' hS=>(Bw.out.below hS Bw.out.lt).range) Tryz.underlying43 rfl Xh) qS ?_;refine Ap (i:=3) rfl ?_;go_simp
    refine Gm.out.mono ?_;rintro en w3 ⟨u,rfl,Od,Ak⟩;have Ak:Below W2.heap.size W2.drew w3:=Ak;have qS3:Below W2.heap.size W2 w3:=qS.trans Ak;refine⟨qS3,?_⟩
    obtain⟨gg,caps,rfl,_,_⟩:=Od.get fun b hb=>hb.2
    obtain⟨u,hu⟩:∃ u:Value,u=.func (.func gg) #[] caps:=⟨_,rfl⟩;have Ep:=qS3.size
    have Az:W2.heap.size<=A0+1/\A0+1<=W2.heap.size:=by have := S2.out;omega
    have bA:Below A0 wo w3:=Bz.out.trans (qS3.mono (by omega));have qsv:=Ju.out.own.old bA (by rw[jC.out];exact Ab _);have Al:Below w3.heap.size w3 (w3.alloc (.cells #[.func (.func gg) #[] caps] 91)):=Af _ _;have uJ:Hid (Be 1 91 T (w3.alloc (.cells #[.func (.func gg) #[] caps] 91)) (.slice ca j cm) (vs.map fun u=>[u])):=Aa (qsv.old Al (Ab _));obtain⟨RS,Gz⟩:=Ae (vs.map (fun u:Value=>[u]));have Hx:Hid (RS.length=j):=Aa (by rw[<- Gz,List.length_map];exact Ju.out.len);rw[Gz]at uJ;have Lw:=Aa Gz;have D6:Hid (Dg 1 [[.func (.func gg) #[] caps]]):=Aa (Dg.one rfl fun u hu=>by rw[List.mem_singleton.1 hu];rfl)
    have Pz:Hid (∀ (i:Nat) (r:List Value) (jj:Nat) (u:Value),([[.func (.func gg) #[] caps]]:List (List Value))[i]?=some r->r[jj]?=some u->(w3.alloc (.cells #[.func (.func gg) #[] caps] 91)).cell? ⟨w3.heap.size,0+(i*1+jj),none⟩=some u):=Aa fun i r jj u h1 h2=>by
     have Jo:i=0:=by have := (List.getElem?_eq_some_iff.1 h1).1;simp at this;omega
     subst Jo;cases h1
     have Jb:jj=0:=by have := (List.getElem?_eq_some_iff.1 h2).1;simp at this;omega
     subst Jb;cases h2
     exact(Blk.new w3 #[.func (.func gg) #[] caps] 91).at rfl
    have G4:=Aa Od;have tO:=Aa bA;have qx7:=Aa qS3
    have E0:T<=w3.heap.size:=by omega
    clear Gz Od bA qsv Al qS3 Ak qS hu;have qS4:Below W2.heap.size W2 (w3.alloc (.cells #[.func (.func gg) #[] caps] 91)):=qx7.out.alloc qx7.out.size _;refine Ap (i:=4) rfl ?_;go_simp
    refine Ap (i:=5) rfl ?_;refine pV (.tmp 20) (.tmp 24) 87 rfl Tryz.underlying87 qu7 (by kernel_rfl) (by decide) (by simp[Act.eval]) uJ.out (b:=w3.heap.size) (off:=0) (m:=1) (cap:=1) (ms:=[[.func (.func gg) #[] caps]]) (by simp[Act.eval]) rfl D6.out Pz.out (by decide) (by rw[Hx.out];simp[maxLen];omega) (by rw[Hx.out];omega) (by simp;omega) ?_;intro g1 cap1 w5 Hh Bo Ie
    refine⟨fun h=>absurd h (by decide),?_⟩;have qn6:Blk w3 lb #[.slice ca j cm] 87:=Ju.out.box.below tO.out (by omega)
    have Hv:∀ r,(Value.slice ca j cm).ownBlock=some r->T<=r:=fun r hr=>Ju.out.own.low hr
    have Aj:∀ r,(Value.slice ca j cm).ownBlock=some r->r<A0:=fun r hr=>by have := Ju.out.own.lt hr;rw[jC.out]at this;exact this
    have qar:Blk w5 lb #[.slice ca j cm] 87:=(qn6.alloc _).kept Bo (fun e=>by have := Hv lb e.symm;omega);have u5:=qar.one.1;have f5:=qar.one.2;refine Ap (i:=6) rfl ?_;go_simp
    refine Eo (by kernel_rfl) ?_ _;go_simp
    have cS:=Aa Bo;have V9:=Aa Ie;have Pm:=Aa Hv;have Tr:=Aa Aj;have V5:=Aa Hh;have zfy:=Aa qar;clear Bo Ie Hv Aj Hh qar qn6 u5 f5 qS4
    apply (show ∀ (a:Act) (w:World),_->_ from by assumption)
    go_wp2_with fail
    have Bo:=cS.out;have Ie:=V9.out;have lD:=Bo.size;rw[World.size_alloc]at lD
    have wS:T<=g1:=by
     rcases Ie with h | h
     ·exact Pm.out g1 h
     ·rw[World.size_alloc]at h;omega
    have gZ:Below wo.heap.size wo (w3.alloc (.cells #[.func (.func gg) #[] caps] 91)):=by rw[jC.out];exact tO.out.alloc (by omega) _
    have Nt:(w5.setCell ⟨lb,0,none⟩ (.slice (some ⟨g1,0,none⟩) (RS.length+1) cap1)).heap.size=w5.heap.size:=by simp[World.setCell]
    have Kk:∀ b,b≠lb->(w5.setCell ⟨lb,0,none⟩ (.slice (some ⟨g1,0,none⟩) (RS.length+1) cap1)).heap[b]?=w5.heap[b]? := fun b hb=>Below.heap_setCell _ _ _ _ hb
    have iE:∀ R,Zed (Frz T w5.heap.size (.slice (some ⟨g1,0,none⟩) (RS.length+1) cap1)) w5 R->Zed (Frz T (w5.setCell ⟨lb,0,none⟩ (.slice (some ⟨g1,0,none⟩) (RS.length+1) cap1)).heap.size (.slice (some ⟨g1,0,none⟩) (RS.length+1) cap1)) (w5.setCell ⟨lb,0,none⟩ (.slice (some ⟨g1,0,none⟩) (RS.length+1) cap1)) R:=fun R h=>by
     rw[Nt];exact h.move (Agr.of fun b hb=>Kk b (by have := hb.1;omega))
    have Cj:Below K w (w5.setCell ⟨lb,0,none⟩ (.slice (some ⟨g1,0,none⟩) (RS.length+1) cap1)):=((Ej.out.trans (gZ.mono (by omega))).grown Bo (by simp;omega) (fun r hr=>by have := Pm.out r hr;omega)).setCell (p:=⟨lb,0,none⟩) hK _
    have Uk:∀ b,b<T->b≠lb->(w5.setCell ⟨lb,0,none⟩ (.slice (some ⟨g1,0,none⟩) (RS.length+1) cap1)).heap[b]?=w.heap[b]? := fun b hb At =>
     (Kk b At).trans ((Bo.block b (by simp;omega) (fun e=>by have := Pm.out b e.symm;omega)).trans ((gZ.block b (by omega)).trans (L9.out b hb At)))
    have qvw:nN scs e.args lb T (RS.length+1) (some ⟨g1,0,none⟩) cap1 (vs++[.func (.func gg) #[] caps]) (w5.setCell ⟨lb,0,none⟩ (.slice (some ⟨g1,0,none⟩) (RS.length+1) cap1)):=by
     refine⟨zfy.out.set (i:=0) _,?_,by rw[List.length_append,Ju.out.len,Hx.out];rfl,fun i hi=>?_⟩
     ·rw[List.map_append,Lw.out]
      exact V5.out.moveEq fun q hq=>Kk q (by simp only[Value.ownBlock,Option.some.injEq]at hq;omega)
     ·by_cases Zi:i=j
      ·subst Zi
       refine iE _ ?_;rw[List.getElem?_append_right (by rw[Ju.out.len];exact Ab _),Ju.out.len,Nat.sub_self,yP.out];exact qj1 Bo Ie rfl (lo':=W2.heap.size) (hi:=w3.heap.size) (by omega) (fun r hr=>by have := Tr.out r hr;omega) (by simp) (G4.out.move (bH ((Below.refl w3.heap.size w3).alloc (Ab _) _) fun b hb=>hb.2))
      ·have oZ:i<j:=by have := Hx.out;omega
       refine iE _ ?_;rw[List.getElem?_append_left (by rw[Ju.out.len];exact oZ)];exact xY Bo Ie rfl gZ (Ju.out.dat i oZ)
    rw[Hx.out]at qvw Cj Uk Nt ⊢;exact⟨⟨j+1,vs++[.func (.func gg) #[] caps],_,_,by omega,by go_num,qvw,Cj,by rw[Nt];omega,Aa Uk⟩,by simp[intOf];omega⟩
   ·obtain rfl:j=q:=by omega
    clear Fb Bb;go_wp2_with fail
    go_ret
    exact⟨rfl,Ej.out,Fh,L9.out,ca,cm,vs,Ju.out⟩
 ·have At:((q:Int) != (k:Int))=true:=by simp;omega
  have hk:¬ (q=k):=fD;go_wp2_with fail
  go_ret
  exact⟨fun _=>⟨rfl,rfl⟩,fun h=>absurd h fD⟩
theorem zsw {l:List Sc} {e:Gx} (h:(Lp e [] []).2=0) (cs:List Nat):evG l cs e=(Lp e [] []).1:=by rw[qjp,if_pos h]
theorem qce {l:List Sc} {e:Gx} (h:¬ (Lp e [] []).2=0) (hc:e.composed=true) (cs:List Nat):evG l cs e=A7 e.op (fun k=>(e.args.map (evG l cs))[k]?.getD false):=by rw[qjp,if_neg h,if_pos hc]
theorem sW {l:List Sc} {e:Gx} (h:¬ (Lp e [] []).2=0) (hc:e.composed=false) (cs:List Nat):evG l cs e=evT l cs e:=by rw[qjp,if_neg h,if_neg (by rw[hc];simp)]
theorem aS (l:List Sc) (cs:List Nat) {es:List Gx} {k:Nat} (h:k<es.length):(es.map (evG l cs))[k]?.getD false=evG l cs (es[k]?.getD default):=by
 rw[List.getElem?_map,Ac h];rfl
theorem nN.cbox {scs:List Sc} {es:List Gx} {lb T T0 n:Nat} {ca:Option Addr} {cm:Nat} {vs:List Value} {w:World} (h:nN scs es lb T n ca cm vs w) (hT:T0<=T) (hl:T0<=lb) :
  Zed (Btw T0 w.heap.size) w fun K W=>gK (Cu (pcs scs)) lb n (fun i cs=>evG scs cs (es[i]?.getD default)) K W:=by
 intro W K ha hK
 have Aj:=h.box.lt;refine⟨ca,cm,ha lb _ ⟨hl,Aj⟩ h.box rfl,hK lb ⟨hl,Aj⟩,fun i=>vs[i]?.getD undef,?_,fun i hi=>?_⟩
 ·have := Be.zed h.own (F:=Btw T0 w.heap.size) (fun b hb=>⟨by have := h.own.low hb;omega,h.own.lt hb⟩) W K ha hK
  rw[List.length_map,h.len]at this
  refine this.congr fun i hi j hj=>?_
  obtain rfl:j=0:=by omega
  rw[List.getElem?_map]
  cases hv:vs[i]? with
  | none=>have := List.getElem?_eq_none_iff.1 hv;rw[h.len]at this;omega
  | some v=>show v=vs[i]?.getD undef;rw[hv];rfl
 ·exact((h.dat i hi).mono fun b hb=>(⟨by have := hb.1;omega,hb.2.1⟩:Btw T0 w.heap.size b)) W K ha hK
theorem zmh (bb:Nat) (sv pv:Sl) (scs:List Sc) (gv:Nat->Value) (e:Gx) (Ay:kH scs) (Tm:scs.length<=2^20) (hg:e.good=true) (iA:e.args.length<=2^20) (ih:∀ a∈e.args,oO bb sv pv scs gv a):oO bb sv pv scs gv e:=by
 intro x w Qi he
 have Dc:=he.open.1;obtain⟨W1,Ah⟩:=Ae ((w.alloc (.cells #[.pointer (some ⟨bb,0,none⟩)] 118)).alloc (.cells x.cells 43))
 have b1:Below w.heap.size w W1:=by rw[<- Ah];exact(Af _ _).alloc (by simp) _
 have q0:Blk W1 w.heap.size #[.pointer (some ⟨bb,0,none⟩)] 118:=by rw[<- Ah];exact(Blk.new w _ _).alloc _
 have q1:Blk W1 (w.heap.size+1) x.cells 43:=by
  rw[<- Ah];have := Blk.new (w.alloc (.cells #[.pointer (some ⟨bb,0,none⟩)] 118)) x.cells 43;rwa[World.size_alloc]at this
 have s1:W1.heap.size=w.heap.size+2:=by rw[<- Ah];simp
 obtain⟨T,hT⟩:=Ae w.heap.size;have HT:=Aa hT;have HW:=Aa Ah;dsimp only[Xv.cells]at HW;rw[hT]at b1 q0 q1 s1 Qi he ⊢;have fJ:=zaf W1.heap.size e x [] (.slice none 0 0) [] (.slice none 0 0) W1 (he.below b1 (Ab _) (by omega)) hg ⟨fun _=>⟨xz,0,⟨none,0,0⟩⟩,Au.nil none 0 (Nat.zero_le _) (fun _=>rfl),fun i hi=>absurd hi (Nat.not_lt_zero i)⟩ (Au.nil none 0 (Nat.zero_le _) (fun _=>rfl)) (Ab _) (fun s hs=>by cases hs) (fun s hs=>by cases hs);obtain⟨r,hr⟩:=Ae (Lp e [] []);rw[hr]at fJ;have fO:=Aa fJ;have Ml:=Aa hr;have aL:=Aa Qi;have HE:=Aa he;have Bi:=Aa b1;have Wf:=Aa q0;have Bc:=Aa q1;have S1:=Aa s1;have Ok:W1.rangeAt (T+1) 0 x.cells.toList:=q1.range;have aJ:=Aa Dc;have M0:=Aa ih;have zat:=Aa Ay;dsimp only[Xv.agg,Xv.cells]at fO;dsimp only[Xv.agg];clear Qi he hT Ah b1 q0 q1 s1 fJ hr Dc ih Ay;go_enter Tryz.func37,Tryz.ntmps37
 go_upto_region 1 with fail
 simp only[HT.out];rw[HW.out];go_wp2_with (refine wpList_load_mid rfl 43 (.tmp 3) rfl (T+1) 0 rfl x.cells.toList _ Ok Tryz.underlying43 rfl Xh ?_)
 refine fO.out.mono ?_;clear fO Ok;rintro en w2 ⟨rfl,Ai⟩;obtain⟨r1,r2⟩:=r;dsimp only at Ml ⊢
 have Az:T+2<=w2.heap.size:=by have := Ai.size;have := S1.out;omega
 have bT2:Below T w w2:=Bi.out.trans (Ai.mono (by have := S1.out;omega));have zno:=Aa bT2;have Bz:=Aa Ai
 by_cases hz:r2=0
 ·subst hz
  clear bT2 Ai;go_wp2_with fail
  go_ret
  refine⟨_,rfl,fun W K ha hK=>?_,zno.out.alloc (by omega) _⟩;have hq:=Blk.new w2 #[.bool r1] 4;have Aj:Btw T (w2.alloc (.cells #[.bool r1] 4)).heap.size w2.heap.size:=⟨by omega,by simp⟩;have := zl4 (Cu (pcs scs)) K w2.heap.size r1 W (ha _ _ Aj hq rfl) (hK _ Aj)
  have e1:(fun cs=>evG scs cs e)=fun _=>r1:=by
   funext cs
   rw[zsw (by rw[Ml.out]),Ml.out]
  rw[e1];exact this
 ·have At:(r2==0)=false:=by simpa using hz
  obtain⟨L,hL⟩:=Ae w2.heap.size;obtain⟨W4,Fc⟩:=Ae ((w2.alloc (.cells #[.bool r1] 4)).alloc (.cells #[.slice none 0 0] 87))
  have b4:Below L w2 W4:=by rw[<- Fc,<- hL];exact(Af _ _).alloc (by simp) _
  have ql:Blk W4 (L+1) #[.slice none 0 0] 87:=by
   rw[<- Fc,<- hL];have := Blk.new (w2.alloc (.cells #[.bool r1] 4)) #[.slice none 0 0] 87;rwa[World.size_alloc]at this
  have s4:W4.heap.size=L+2:=by rw[<- Fc,<- hL];simp
  have zha:T+2<=L:=by omega
  have bT4:Below T w W4:=bT2.trans (b4.mono (by omega));have b14:Below W1.heap.size W1 W4:=Ai.trans (b4.mono (by have := Ai.size;omega));have q0:=Wf.out.below b14 Wf.out.lt;have q1:=Bc.out.below b14 Bc.out.lt;have R1:Hid (¬ (Lp e [] []).2=0):=Aa (by rw[Ml.out];exact hz);have lH:=Aa Fc;have HL:=Aa hL;have S4:=Aa s4;have zyq:=Aa q0;have qg0:=Aa q1;have Lg:=Aa ql;have Ei:=Aa bT4;have Yq:W4.rangeAt (T+1) 0 x.cells.toList:=q1.range;have c0:W4.cell? ⟨T+1,0,none⟩=some (.int .u8 x.op):=q1.at rfl;have p0:W4.cell? ⟨T,0,none⟩=some (.pointer (some ⟨bb,0,none⟩)):=q0.at rfl;have Gv:Hid (Calls Tryz.prog 72 #[.pointer (some ⟨bb,0,none⟩),x.agg] W4 fun en w'=>∃ u,en=.returned u/\Zed (Btw T w'.heap.size) w' (Ty (Cu (pcs scs)) (fun cs=>evT scs cs e) u)/\Below T w w'):=Aa ((zrb bb sv pv scs gv e x W4 (aL.out.below bT4 (Ab _) (by omega)) zat.out (HE.out.below bT4 (Ab _) (by omega)) hg Tm).mono fun en w' ⟨u,h1,h2,h3⟩=>⟨u,h1,h2.mono fun b hb=>⟨by have := hb.1;omega,hb.2⟩,bT4.trans (h3.mono (by omega))⟩)
  have zX:∀ k:Nat,Hid (Calls Tryz.prog 67 #[.int .i64 k,.pointer (some ⟨T+1,0,none⟩),.pointer (some ⟨L+1,0,none⟩),.pointer (some ⟨T,0,none⟩)] W4 fun en w' =>
   (e.args.length≠k->en=.returned (.bool false)/\w'=W4)/\(e.args.length=k->en=.returned (.bool true)/\Below T W4 w'/\W4.heap.size<=w'.heap.size/\(∀ b,b<W4.heap.size->b≠L+1->w'.heap[b]?=W4.heap[b]?)/\∃ ca cm vs,nN scs e.args (L+1) W4.heap.size k ca cm vs w')):=fun k =>
   Aa (znz T bb (T+1) (L+1) T sv pv scs gv e x k W4 (aL.out.below bT4 (Ab _) (Ab _)) (HE.out.below bT4 (Ab _) (Ab _)) q1 ql q0 (by omega) M0.out iA)
  have qaz:=Aa zha;clear bT2 Ai Fc hL b4 ql s4 bT4 b14 q0 q1 hz
  go_upto_region 6 with fail
  simp only[HL.out];rw[lH.out]
  have zfs:x.op=15\/x.op=16\/x.op=17\/x.op=18\/(x.op≠15/\x.op≠16/\x.op≠17/\x.op≠18):=by omega
  have iK:=zX 2;have kI:=zX 1;have kK:=zX 3;have qdc:Hid (x.agg=.agg #[.int .u8 x.op,S x.nm,.int .u8 x.kd,.bool x.b3,.slice x.s4.a x.s4.n x.s4.m,.bool x.b5,.slice x.s6.a x.s6.n x.s6.m,.int .i64 x.i7,.slice x.s8.a x.s8.n x.s8.m]):=Aa rfl;clear zX
  rcases zfs with ho | ho | ho | ho | ho
  ·have Se:e.op=15:=by rw[<- aJ.out];exact ho
   have Uh:=Aa Se;rw[ho]at c0;clear Se ho;go_wp2_with fail
   refine iK.out.mono ?_;clear kI iK kK;rintro en w5 ⟨hA,hB⟩
   by_cases hn:e.args.length=2
   ·obtain⟨rfl,b5,s5,_,ca,cm,vs,Fb⟩:=hB hn
    have Hf:=Aa b5;have Ju:=Aa Fb;have HN:=Aa hn;clear hA hB b5 Fb hn Yq c0 p0;go_wp2_with fail
    go_ret
    refine⟨_,rfl,?_,Ei.out.trans Hf.out⟩
    have e1:(fun cs=>evG scs cs e)=fun cs=>evG scs cs (e.args[0]?.getD default) && evG scs cs (e.args[1]?.getD default):=by
     funext cs
     rw[qce R1.out (by simp[Gx.composed,Uh.out,HN.out]) cs,Uh.out];unfold A7;rw[if_pos rfl];simp only[aS scs cs (show 0<e.args.length by rw[HN.out];omega),aS scs cs (show 1<e.args.length by rw[HN.out];omega)]
    rw[e1]
    exact(Ju.out.cbox (T0:=T) (by have := S4.out;omega) (by have := qaz.out;omega)).imp fun K W h=>zwz _ K (L+1) (fun i cs=>evG scs cs (e.args[i]?.getD default)) W h
   ·obtain⟨rfl,rfl⟩:=hA hn
    have Fb:e.composed=false:=by simp[Gx.composed,Uh.out,hn]
    clear hA hB hn;go_wp2_with (refine wpList_load_mid rfl 43 (.tmp 3) rfl (T+1) 0 rfl x.cells.toList _ Yq Tryz.underlying43 rfl Xh ?_)
    refine Gv.out.mono ?_;clear Gv;rintro en w5 ⟨u,rfl,Pt,Aq⟩;go_wp2_with fail
    go_ret
    have e1:(fun cs=>evG scs cs e)=fun cs=>evT scs cs e:=funext fun cs=>sW R1.out Fb cs
    rw[e1];exact⟨u,rfl,Pt,Aq⟩
  ·have Se:e.op=16:=by rw[<- aJ.out];exact ho
   have Uh:=Aa Se;rw[ho]at c0;clear Se ho;go_wp2_with fail
   refine iK.out.mono ?_;clear kI iK kK;rintro en w5 ⟨hA,hB⟩
   by_cases hn:e.args.length=2
   ·obtain⟨rfl,b5,s5,_,ca,cm,vs,Fb⟩:=hB hn
    have Hf:=Aa b5;have Ju:=Aa Fb;have HN:=Aa hn;clear hA hB b5 Fb hn Yq c0 p0;go_wp2_with fail
    go_ret
    refine⟨_,rfl,?_,Ei.out.trans Hf.out⟩
    have e1:(fun cs=>evG scs cs e)=fun cs=>evG scs cs (e.args[0]?.getD default) || evG scs cs (e.args[1]?.getD default):=by
     funext cs
     rw[qce R1.out (by simp[Gx.composed,Uh.out,HN.out]) cs,Uh.out];unfold A7;rw[if_neg (by decide),if_pos rfl];simp only[aS scs cs (show 0<e.args.length by rw[HN.out];omega),aS scs cs (show 1<e.args.length by rw[HN.out];omega)]
    rw[e1]
    exact(Ju.out.cbox (T0:=T) (by have := S4.out;omega) (by have := qaz.out;omega)).imp fun K W h=>zrc _ K (L+1) (fun i cs=>evG scs cs (e.args[i]?.getD default)) W h
   ·obtain⟨rfl,rfl⟩:=hA hn
    have Fb:e.composed=false:=by simp[Gx.composed,Uh.out,hn]
    clear hA hB hn;go_wp2_with (refine wpList_load_mid rfl 43 (.tmp 3) rfl (T+1) 0 rfl x.cells.toList _ Yq Tryz.underlying43 rfl Xh ?_)
    refine Gv.out.mono ?_;clear Gv;rintro en w5 ⟨u,rfl,Pt,Aq⟩;go_wp2_with fail
    go_ret
    have e1:(fun cs=>evG scs cs e)=fun cs=>evT scs cs e:=funext fun cs=>sW R1.out Fb cs
    rw[e1];exact⟨u,rfl,Pt,Aq⟩
  ·have Se:e.op=17:=by rw[<- aJ.out];exact ho
   have Uh:=Aa Se;rw[ho]at c0;clear Se ho;go_wp2_with fail
   refine kI.out.mono ?_;clear kI iK kK;rintro en w5 ⟨hA,hB⟩
   by_cases hn:e.args.length=1
   ·obtain⟨rfl,b5,s5,_,ca,cm,vs,Fb⟩:=hB hn
    have Hf:=Aa b5;have Ju:=Aa Fb;have HN:=Aa hn;clear hA hB b5 Fb hn Yq c0 p0;go_wp2_with fail
    go_ret
    refine⟨_,rfl,?_,Ei.out.trans Hf.out⟩
    have e1:(fun cs=>evG scs cs e)=fun cs => !evG scs cs (e.args[0]?.getD default):=by
     funext cs
     rw[qce R1.out (by simp[Gx.composed,Uh.out,HN.out]) cs,Uh.out];unfold A7;rw[if_neg (by decide),if_neg (by decide),if_pos rfl];simp only[aS scs cs (show 0<e.args.length by rw[HN.out];omega)]
    rw[e1]
    exact(Ju.out.cbox (T0:=T) (by have := S4.out;omega) (by have := qaz.out;omega)).imp fun K W h=>zvb _ K (L+1) (fun i cs=>evG scs cs (e.args[i]?.getD default)) W h
   ·obtain⟨rfl,rfl⟩:=hA hn
    have Fb:e.composed=false:=by simp[Gx.composed,Uh.out,hn]
    clear hA hB hn;go_wp2_with (refine wpList_load_mid rfl 43 (.tmp 3) rfl (T+1) 0 rfl x.cells.toList _ Yq Tryz.underlying43 rfl Xh ?_)
    refine Gv.out.mono ?_;clear Gv;rintro en w5 ⟨u,rfl,Pt,Aq⟩;go_wp2_with fail
    go_ret
    have e1:(fun cs=>evG scs cs e)=fun cs=>evT scs cs e:=funext fun cs=>sW R1.out Fb cs
    rw[e1];exact⟨u,rfl,Pt,Aq⟩
  ·have Se:e.op=18:=by rw[<- aJ.out];exact ho
   have Uh:=Aa Se;rw[ho]at c0;clear Se ho;go_wp2_with fail
   refine kK.out.mono ?_;clear kI iK kK;rintro en w5 ⟨hA,hB⟩
   by_cases hn:e.args.length=3
   ·obtain⟨rfl,b5,s5,_,ca,cm,vs,Fb⟩:=hB hn
    have Hf:=Aa b5;have Ju:=Aa Fb;have HN:=Aa hn;clear hA hB b5 Fb hn Yq c0 p0;go_wp2_with fail
    go_ret
    refine⟨_,rfl,?_,Ei.out.trans Hf.out⟩
    have e1:(fun cs=>evG scs cs e)=fun cs=>if evG scs cs (e.args[0]?.getD default)then evG scs cs (e.args[1]?.getD default)else evG scs cs (e.args[2]?.getD default):=by
     funext cs
     rw[qce R1.out (by simp[Gx.composed,Uh.out,HN.out]) cs,Uh.out];unfold A7;rw[if_neg (by decide),if_neg (by decide),if_neg (by decide)];simp only[aS scs cs (show 0<e.args.length by rw[HN.out];omega),aS scs cs (show 1<e.args.length by rw[HN.out];omega),aS scs cs (show 2<e.args.length by rw[HN.out];omega)]
    rw[e1]
    exact(Ju.out.cbox (T0:=T) (by have := S4.out;omega) (by have := qaz.out;omega)).imp fun K W h=>zsz _ K (L+1) (fun i cs=>evG scs cs (e.args[i]?.getD default)) W h
   ·obtain⟨rfl,rfl⟩:=hA hn
    have Fb:e.composed=false:=by simp[Gx.composed,Uh.out,hn]
    clear hA hB hn;go_wp2_with (refine wpList_load_mid rfl 43 (.tmp 3) rfl (T+1) 0 rfl x.cells.toList _ Yq Tryz.underlying43 rfl Xh ?_)
    refine Gv.out.mono ?_;clear Gv;rintro en w5 ⟨u,rfl,Pt,Aq⟩;go_wp2_with fail
    go_ret
    have e1:(fun cs=>evG scs cs e)=fun cs=>evT scs cs e:=funext fun cs=>sW R1.out Fb cs
    rw[e1];exact⟨u,rfl,Pt,Aq⟩
  ·have Se:e.op≠15/\e.op≠16/\e.op≠17/\e.op≠18:=by rw[<- aJ.out];exact ho
   have Fb:e.composed=false:=by simp[Gx.composed,Se.1,Se.2.1,Se.2.2.1,Se.2.2.2]
   have o1:(x.op==15)=false:=by simpa using ho.1
   have o2:(x.op==16)=false:=by simpa using ho.2.1
   have o3:(x.op==17)=false:=by simpa using ho.2.2.1
   have o4:(x.op==18)=false:=by simpa using ho.2.2.2
   clear Se ho kI iK kK;go_wp2_with (refine wpList_load_mid rfl 43 (.tmp 3) rfl (T+1) 0 rfl x.cells.toList _ Yq Tryz.underlying43 rfl Xh ?_)
   refine Gv.out.mono ?_;clear Gv;rintro en w5 ⟨u,rfl,Pt,Aq⟩;go_wp2_with fail
   go_ret
   have e1:(fun cs=>evG scs cs e)=fun cs=>evT scs cs e:=funext fun cs=>sW R1.out Fb cs
   rw[e1];exact⟨u,rfl,Pt,Aq⟩
theorem ziv (bb:Nat) (sv pv:Sl) (scs:List Sc) (gv:Nat->Value) (Ay:kH scs) (Tm:scs.length<=2^20) (m:Nat):∀ (e:Gx),e.parts<=m->e.parts<=2^20->e.good=true->oO bb sv pv scs gv e:=by
 induction m with
 | zero=>intro e hm;cases e;rw[S7]at hm;omega
 | succ m ih =>
  intro e hm Dr hg
  have h0:=Xk e
  have hl:∀ l:List Gx,l.length<=Fu l:=by
   intro l
   induction l with
   | nil=>simp[Fu]
   | cons a r ih=>have h1:=Xk a;rw[Fu,List.length_cons];omega
  have Qj:=hl e.args
  refine zmh bb sv pv scs gv e Ay Tm hg (by omega) fun a ha=>?_
  have hp:=Z9 ha;exact ih a (by omega) (by omega) (jW hg a ha)
end Go.Proofs.YtlldjmagbjjeoaaGreatDoor
