/- Contracts and plain laws, several texts in one (GSized, OWalk, GWalk, GIns0). No conditions beyond those stated. -/
import Derived.Sort.QuietIn
import Derived.Laws.CopyRow
import Derived.Lib.AppendZerosOnto
import Derived.Lib.Overlaps
import Derived.Laws.Externs
import Derived.Laws.IdiomCopy
import Derived.Test.YtlldjmagbjjeoaaGreatDoorPk16
set_option maxRecDepth 100000
set_option maxHeartbeats 40000000
namespace Go.Proofs.YtlldjmagbjjeoaaGreatDoor
open Go.RowKit
set_option linter.unusedVariables false
theorem zmk (e:Gx):e.depth=Tj e.args+1:=by cases e;rw[Gx.depth];rfl
theorem zj7 {es:List Gx} {e:Gx} (h:e∈es):e.depth<=Tj es:=by
 induction es with
 | nil=>cases h
 | cons x r ih =>
  rw[Tj]
  rcases List.mem_cons.1 h with rfl | h
  ·omega
  ·have := ih h;omega
theorem zp5 {es:List Gx} {n:Nat} (h:∀ e∈es,e.depth<=n):Tj es<=n:=by
 induction es with
 | nil=>simp[Tj]
 | cons x r ih =>
  rw[Tj];have h1:=h x (by simp)
  have h2:=ih fun e he=>h e (List.mem_cons_of_mem _ he)
  omega
theorem qp4 (a b:List Gx):Fu (a++b)=Fu a+Fu b:=by
 induction a with
 | nil=>simp[Fu]
 | cons x r ih=>rw[List.cons_append,Fu,Fu,ih];omega
theorem qpb (es:List Gx) (k:Nat) (e:Gx) (h:es[k]?=some e):Fu (es.take (k+1))=Fu (es.take k)+e.parts:=by
 have hk:=(List.getElem?_eq_some_iff.1 h).1
 have:es[k]=e:=by rw[Ac hk]at h;exact Option.some.inj h
 rw[List.take_succ_eq_append_getElem hk,qp4,this];simp[Fu]
theorem zva (es:List Gx) (k:Nat):Fu (es.take k)<=Fu es:=by
 conv=>rhs;rw[<- List.take_append_drop k es,qp4]
 omega
def Yd (p d:Nat) (e:Gx):Bool:=decide (p+e.parts<=200) && decide (d+e.depth<=25)
structure qrm (bp p d:Nat) (e:Gx) (W:World) (en:Ending) (W':World):Prop where
 en:en=.returned (.bool (Yd p d e))
 gr:W.grownBy W' (some bp)
 ct:Yd p d e=true->Blk W' bp #[Z (p+e.parts)] 3
theorem qua {ops:Array Oper} {rest:List Oper} {o:Oper} {a:Act} {w:World} {Q:Exit->Act->World->Prop} (Gy:o.guard=none) (ty t:TypeId) (x y:Operand) (ho:o.op=.store ty x y) (v old:Value) (g:Nat)
  (hq:Blk w g #[old] t) (hi:(Tryz.prog.info? ty).map (fun i=>i.size)=some 1) (h1:v.oneCell'=true) (hx:a.eval x=.pointer (some ⟨g,0,none⟩)) (hy:a.eval y=v)
  (h:∀ W',Blk W' g #[v] t->(∀ B,B<=g->Below B w W')->w.grownBy W' (some g)->W'.heap.size=w.heap.size->wpList Tryz.prog ops Q rest (a.put o.dst undef) W'):wpList Tryz.prog ops Q (o::rest) a w:=by
 subst hy;refine wpList_store_one Gy ty x y ho g hx h1 t old hq hi ?_
 have hs:(w.setRow g #[a.eval y]).heap.size=w.heap.size:=by simp[World.setRow]
 exact h _ (setRow_heap w g #[old] #[a.eval y] t _ hq) (fun B hB=>⟨rfl,rfl,rfl,Nat.le_of_eq hs.symm,fun k hk=>setRow_other w g k _ (by omega)⟩) ⟨rfl,rfl,rfl,Nat.le_of_eq hs.symm,fun k _ hk=>setRow_other w g k _ (fun e=>hk (by rw[e]))⟩ hs
theorem Xm {w w' w'':World} {r:Option Nat} (h:w.grownBy w' r) (h':w'.grownBy w'' r):w.grownBy w'' r :=
 ⟨h'.os.trans h.os,h'.tape.trans h.tape,h'.output.trans h.output,Nat.le_trans h.size h'.size,fun k hk hr=>(h'.block k (Nat.lt_of_lt_of_le hk h.size) hr).trans (h.block k hk hr)⟩
theorem oG {w w':World} {r:Option Nat} (h:w.grownBy w' none):w.grownBy w' r:=⟨h.os,h.tape,h.output,h.size,fun k hk _=>h.block k hk (by simp)⟩
theorem kR {w w':World} {K bp:Nat} (h:w.grownBy w' (some bp)) (hK:K<=w.heap.size) (hb:K<=bp):Below K w w':=⟨h.os,h.tape,h.output,h.size,fun k hk=>h.block k (by omega) (fun e=>by simp at e;omega)⟩
abbrev szF (bp bf:Nat):Value:=.func (.func 54) #[] #[.pointer (some ⟨bp,0,none⟩),.pointer (some ⟨bf,0,none⟩)]
theorem zo1 (K bp bf tf:Nat) (m:Nat):∀ (e:Gx),e.parts<=m->∀ (p d:Nat) (x:Xv) (W:World),ExG K W e x->K<=bp->bp<bf->p<=200->d<=25->Blk W bp #[Z p] 3->Blk W bf #[szF bp bf] tf →
   Calls Tryz.prog 54 #[x.agg,.int .i64 d,.pointer (some ⟨bp,0,none⟩),.pointer (some ⟨bf,0,none⟩)] W (qrm bp p d e W):=by
 induction m with
 | zero=>intro e hm;cases e;rw[S7]at hm;omega
 | succ m ih =>
  intro e hm p d x W h hK gY hp hd qp qf
  have qqp:=qp.lt;have Xd:=qf.lt;obtain⟨_,_,_,_,g,hg,Eh⟩:=h.open;obtain⟨va,vcap,h8,Mr,Mn⟩:=hg.form;obtain⟨xop,xnm,kd,b3,⟨a4,n4,m4⟩,b5,⟨a6,n6,m6⟩,i7,⟨a8,n8,m8⟩⟩:=x;simp only[Sl.val,Value.slice.injEq]at h8;obtain⟨rfl,rfl,rfl⟩:=h8
  have Mz:Hid (∀ (k:Nat) (a:Gx),e.args[k]?=some a->ExG K W a (g k)/\a.parts<=m):=Aa fun k a ha=>⟨Eh k a ha,by
   have h1:=Z9 (List.mem_of_getElem? ha)
   rw[Xk]at hm;omega⟩
  have Y1:=Aa hg;have M0:=Aa ih;have Nk:=Xk e;have zb9:=zmk e
  have HP:Hid (∀ r W',Yd p d e=r->W.grownBy W' (some bp)->(r=true->Blk W' bp #[Z (p+e.parts)] 3)->qrm bp p d e W (.returned (.bool r)) W'):=Aa fun r W' h1 h2 h3=>⟨by rw[h1],h2,fun h=>h3 (by rw[<- h1];exact h)⟩
  have qi9:=Aa Nk;have qlm:=Aa zb9;have c0:W.cell? ⟨bp,0,none⟩=some (.int .i64 (p:Int)):=qp.one.1;have fr0:=qp.one.2
  have hZ:Z (p+1)=.int .i64 ((p:Int)+1):=by simp[Z]
  have Ma:bp<W.heap.size:=qp.lt;have e7:W.grownBy ((W.setCell ⟨bp,0,none⟩ (Z (p+1))).alloc (.cells (⟨xop,xnm,kd,b3,⟨a4,n4,m4⟩,b5,⟨a6,n6,m6⟩,i7,⟨a8,e.args.length,m8⟩⟩:Xv).cells 43)) (some bp):=Xm (Fm _ _ _ _) (World.grownBy_alloc _ _ _);have qp1:Blk ((W.setCell ⟨bp,0,none⟩ (Z (p+1))).alloc (.cells (⟨xop,xnm,kd,b3,⟨a4,n4,m4⟩,b5,⟨a6,n6,m6⟩,i7,⟨a8,e.args.length,m8⟩⟩:Xv).cells 43)) bp #[Z (p+1)] 3:=(qp.set (Z (p+1))).alloc _;have qf1:Blk ((W.setCell ⟨bp,0,none⟩ (Z (p+1))).alloc (.cells (⟨xop,xnm,kd,b3,⟨a4,n4,m4⟩,b5,⟨a6,n6,m6⟩,i7,⟨a8,e.args.length,m8⟩⟩:Xv).cells 43)) bf #[szF bp bf] tf:=(qf.other (by omega) _).alloc _
  have qx1:Blk ((W.setCell ⟨bp,0,none⟩ (Z (p+1))).alloc (.cells (⟨xop,xnm,kd,b3,⟨a4,n4,m4⟩,b5,⟨a6,n6,m6⟩,i7,⟨a8,e.args.length,m8⟩⟩:Xv).cells 43)) W.heap.size (⟨xop,xnm,kd,b3,⟨a4,n4,m4⟩,b5,⟨a6,n6,m6⟩,i7,⟨a8,e.args.length,m8⟩⟩:Xv).cells 43:=by
   have := Blk.new (W.setCell ⟨bp,0,none⟩ (Z (p+1))) (⟨xop,xnm,kd,b3,⟨a4,n4,m4⟩,b5,⟨a6,n6,m6⟩,i7,⟨a8,e.args.length,m8⟩⟩:Xv).cells 43;rwa[show(W.setCell ⟨bp,0,none⟩ (Z (p+1))).heap.size=W.heap.size by simp[World.setCell]]at this
  obtain⟨W1,Ah⟩:=Ae ((W.setCell ⟨bp,0,none⟩ (Z (p+1))).alloc (.cells (⟨xop,xnm,kd,b3,⟨a4,n4,m4⟩,b5,⟨a6,n6,m6⟩,i7,⟨a8,e.args.length,m8⟩⟩:Xv).cells 43));rw[Ah]at e7 qp1 qf1 qx1;rw[hZ]at Ah;dsimp only[Xv.cells]at Ah;have Dk:=Aa Ah
  have Pp:((p:Int)+1)=((p+1:Nat):Int):=by omega
  unfold maxLen at Mn;clear h Eh hg ih Nk zb9 hm Ah Pp hZ;go_enter Tryz.func54,Tryz.ntmps54
  go_upto_region 2 with fail
  rw[Dk.out];clear c0 fr0;have c1:W1.cell? ⟨bp,0,none⟩=some (.int .i64 ((p+1:Nat):Int)):=qp1.one.1;obtain⟨q,hq⟩:=Ae (p+1);rw[hq]at c1 qp1;have HQ:=Aa hq
  by_cases mQ:200<q
  ·have hf:Yd p d e=false:=by unfold Yd;have := Xk e;simp;omega
   have hx:=HP.out false W1 hf e7 (fun h=>by cases h)
   have ht:decide ((200:Int)<(q:Int))=true:=by simp;omega
   clear hf hq mQ;go_wp2_with fail
   go_ret
   exact hx
  ·have ht:decide ((200:Int)<(q:Int))=false:=by simp;omega
   by_cases h24:24<d
   ·have hf:Yd p d e=false:=by unfold Yd;have := qlm.out;simp;omega
    have hx:=HP.out false W1 hf e7 (fun h=>by cases h)
    have O4:decide ((24:Int)<(d:Int))=true:=by simp;omega
    clear hf hq mQ h24;go_wp2_with fail
    go_ret
    exact hx
   ·have O4:decide ((24:Int)<(d:Int))=false:=by simp;omega
    have Lg:Hid (q<=200):=Aa (by omega);clear hq mQ;obtain⟨d0,d1,d2,d3,d4,d5,d6,d7,d8⟩:=qx1.nine;go_wp2_with fail
    clear d0 d1 d2 d3 d4 d5 d6 d7 d8 c1;go_loopw [20] (fun i wr=>∃ (k:Nat),k<=e.args.length/\i=.int .i64 k/\Blk wr bp #[Z (q+Fu (e.args.take k))] 3/\Blk wr bf #[szF bp bf] tf/\W.grownBy wr (some bp)/\q+Fu (e.args.take k)<=200/\Hid (∀ (j:Nat) (a:Gx),j<k->e.args[j]?=some a->d+1+a.depth<=25)) (fun i _=>e.args.length-(intOf i).toNat)
    case atStart=>exact⟨0,Nat.zero_le _,rfl,by simpa [Fu] using qp1,qf1,e7,by have := Lg.out;simp[Fu];omega,Aa fun j a hj=>absurd hj (Nat.not_lt_zero j)⟩
    case round =>
     obtain⟨k,hk,rfl,rp,rf,Jz,Li,HD⟩:=hrel
     by_cases Aj:k<e.args.length
     ·obtain⟨b,o,cap,he,_,Fl,Cj,hc⟩:=Y1.out.pos (by omega)
      simp only[Sl.val,Value.slice.injEq,true_and]at he;obtain⟨rfl,rfl⟩:=he;have Bb:Below K W wr:=kR Jz (by omega) hK;obtain⟨k0,k1,k2,k3,k4,k5,k6,k7,k8⟩:=N3 (Km Bb Cj hc) Aj;obtain⟨ek,Ly⟩:∃ ek,e.args[k]?=some ek:=⟨_,Ac Aj⟩;obtain⟨Ya,Vj⟩:=Mz.out k ek Ly;obtain⟨y,hy⟩:=Ae (g k);rw[hy]at Ya k0 k1 k2 k3 k4 k5 k6 k7 k8;have Fh:=Jz.size;obtain⟨c,zG⟩:=Ae (q+Fu (e.args.take k));rw[zG]at rp Li;have Ao:=M0.out ek Vj c (d+1) y (wr.alloc (.cells y.cells 43)) (Ya.below (Bb.alloc (by omega) _) (Ab _) (Ab _)) hK gY Li (by omega) (rp.alloc _) (rf.alloc _)
      have Gr:(((d+1:Nat)):Int)=(d:Int)+1:=by omega
      rw[Gr]at Ao;have f0:wr.cell? ⟨bf,0,none⟩=some (szF bp bf):=rf.one.1;have zmt:=rf.lt;have nV:Hid (Fu (e.args.take (k+1))=Fu (e.args.take k)+ek.parts):=Aa (qpb e.args k ek Ly);have Ja:Hid (Fu (e.args.take k)+ek.parts<=Fu e.args):=Aa (by rw[<- qpb e.args k ek Ly];exact zva _ _);have kU:Hid (ek.depth<=Tj e.args):=Aa (zj7 (List.mem_of_getElem? Ly));have eT:=Aa Ly;have xK:=Aa zG;clear Ly hc hy Ya Vj Gr zG;go_wp2_with fail
      refine Ao.mono ?_;rintro en W6 ⟨rfl,Hn,iD⟩;clear Ao k0 k1 k2 k3 k4 k5 k6 k7 k8 f0;have zcf:W.grownBy W6 (some bp):=Xm (Xm Jz (World.grownBy_alloc wr _ _)) Hn;have rf6:Blk W6 bf #[szF bp bf] tf:=(rf.alloc _).kept Hn (by simp;omega);obtain⟨r,hr⟩:=Ae (Yd c (d+1) ek);rw[hr]at iD ⊢;have HR:=Aa hr;clear hr
      cases r with
      | false =>
       have hx:=HP.out false W6 (by
        have h1:=HR.out;unfold Yd at h1 ⊢;have h2:=qi9.out;have h3:=qlm.out;have h4:=Ja.out;have h5:=kU.out;have h6:=xK.out;have h7:=HQ.out;simp at h1 ⊢
        omega) zcf (fun h=>by cases h)
       clear iD;go_wp2_with fail
       go_ret
       exact hx
      | true =>
       have Bk:=iD rfl
       have qf8:c+ek.parts<=200/\d+1+ek.depth<=25:=by
        have h1:=HR.out;unfold Yd at h1
        simpa using h1
       have fD:q+Fu (e.args.take (k+1))=c+ek.parts:=by have := nV.out;have := xK.out;omega
       have Uq:Hid (∀ (j:Nat) (a:Gx),j<k+1->e.args[j]?=some a->d+1+a.depth<=25):=Aa fun j a hj ha=>by
        by_cases Sb:j=k
        ·subst Sb
         have h1:=eT.out;rw[ha]at h1;obtain rfl:=Option.some.inj h1;exact qf8.2
        ·exact HD.out j a (by omega) ha
       have Ct:Blk W6 bp #[Z (q+Fu (e.args.take (k+1)))] 3:=by rw[fD];exact Bk
       have Bt:q+Fu (e.args.take (k+1))<=200:=by rw[fD];exact qf8.1
       clear iD Bk qf8 fD;go_wp2_with fail
       exact⟨⟨k+1,by omega,by go_num,Ct,rf6,zcf,Bt,Uq⟩,by simp[intOf];omega⟩
     ·obtain rfl:k=e.args.length:=by omega
      rw[List.take_length]at rp Li
      have hx:=HP.out true wr (by
       unfold Yd;have h2:=qi9.out;have h3:=qlm.out;have h7:=HQ.out
       have h8:Tj e.args<=24-d:=zp5 fun a ha=>by
        obtain⟨j,hj,rfl⟩:=List.mem_iff_getElem.1 ha;have := HD.out j _ hj (Ac hj);omega
       simp
       omega) Jz (fun _=>by
        have h2:=qi9.out;have h7:=HQ.out
        rw[show p+e.parts=q+Fu e.args by omega];exact rp)
      go_wp2_with fail
      go_ret
      exact hx
theorem qxe (K:Nat) (e:Gx) (x:Xv) (w:World) (h:ExG K w e x) (hK:K<=w.heap.size):Calls Tryz.prog 28 #[x.agg] w fun en w'=>en=.returned (.bool (Tf e))/\Below w.heap.size w w':=by
 have Yn:Tf e=Yd 0 1 e:=by unfold Tf Yd;congr 1<;>(rw[Bool.eq_iff_iff];simp;try omega)
 rw[Yn];have HX:=Aa h;obtain⟨xop,xnm,kd,b3,⟨a4,n4,m4⟩,b5,⟨a6,n6,m6⟩,i7,⟨a8,n8,m8⟩⟩:=x;clear h;go_enter Tryz.func28,Tryz.ntmps28
 have qj2:(Tryz.prog.info? 106).map (fun i=>i.size)=some 1:=by kernel_rfl
 go_upto_region 3 with fail
 obtain⟨W1,Ah⟩:=Ae (((w.alloc (.cells (⟨xop,xnm,kd,b3,⟨a4,n4,m4⟩,b5,⟨a6,n6,m6⟩,i7,⟨a8,n8,m8⟩⟩:Xv).cells 43)).alloc (.cells #[.int .i64 0] 3)).alloc (.cells #[.nilFunc] 106));rw[Ah]
 have q0:Blk W1 w.heap.size (⟨xop,xnm,kd,b3,⟨a4,n4,m4⟩,b5,⟨a6,n6,m6⟩,i7,⟨a8,n8,m8⟩⟩:Xv).cells 43:=by rw[<- Ah];exact((Blk.new w _ _).alloc _).alloc _
 have q1:Blk W1 (w.heap.size+1) #[Z 0] 3:=by
  rw[<- Ah];have := Blk.new (w.alloc (.cells (⟨xop,xnm,kd,b3,⟨a4,n4,m4⟩,b5,⟨a6,n6,m6⟩,i7,⟨a8,n8,m8⟩⟩:Xv).cells 43)) #[Z 0] 3;rw[World.size_alloc]at this;exact this.alloc _
 have q2:Blk W1 (w.heap.size+1+1) #[.nilFunc] 106:=by
  rw[<- Ah];have := Blk.new ((w.alloc (.cells (⟨xop,xnm,kd,b3,⟨a4,n4,m4⟩,b5,⟨a6,n6,m6⟩,i7,⟨a8,n8,m8⟩⟩:Xv).cells 43)).alloc (.cells #[.int .i64 0] 3)) #[.nilFunc] 106;rwa[World.size_alloc,World.size_alloc]at this
 have b1:Below w.heap.size w W1:=by rw[<- Ah];exact((Af _ _).alloc (by simp) _).alloc (by simp;omega) _
 clear Ah
 iterate 4 go_step
 refine qua rfl 106 106 (.tmp 4) (.tmp 5) rfl (szF (w.heap.size+1) (w.heap.size+1+1)) .nilFunc (w.heap.size+1+1) q2 qj2 rfl rfl rfl ?_;intro W2 t1 t2 t3 t4
 have b2:Below w.heap.size w W2:=b1.trans (t2 _ (by omega));have p0:=q0.kept t3 (by simp;omega);have p1:=q1.kept t3 (by simp);obtain⟨d0,d1,d2,d3,d4,d5,d6,d7,d8⟩:=p0.nine;have f0:=t1.one.1;have hc:=zo1 w.heap.size (w.heap.size+1) (w.heap.size+1+1) 106 e.parts e (Ab _) 0 1 _ W2 (HX.out.below b2 hK hK) (by omega) (by omega) (by omega) (by omega) p1 t1;go_wp2_with fail
 refine hc.mono ?_;rintro en w3 ⟨rfl,nE,_⟩;have Ak:Below w.heap.size w w3:=b2.trans (kR nE b2.size (by omega));clear d0 d1 d2 d3 d4 d5 d6 d7 d8 f0 hc;go_wp2_with fail
 go_ret
 exact⟨rfl,Ak⟩
attribute [local go_sem] Oper.semAt_some
def Xv.enc (x:Xv):Array Value:=#[x.agg]
def Xv.key (x:Xv):Int × Str:=(x.op,x.nm)
def KpE (K:Nat) (W W':World):Prop:=Below K W W'/\∀ r cs,Blk W r cs 43->Blk W' r cs 43
theorem zp9 {F:Fence} (hd:F.depth=none) (k:Nat):F.room k:=fun d h=>by rw[hd]at h;cases h
theorem RoundIn.anyDepth {F:Fence} (hd:F.depth=none) {m m':Nat} {P:Program} {l:Nat} {f:FuncId} {tmps:Array Value} {assign body:Code} {w:World} {R:Ending->World->Prop}
  (h:RoundIn F m P l f tmps assign body w R):RoundIn F m' P l f tmps assign body w R:=⟨h.1,fun c cs _=>h.2 c cs (zp9 hd _)⟩
theorem YieldAt.anyDepth {F:Fence} (hd:F.depth=none) {m:Nat} (m':Nat) {P:Program} {l:Nat} {args:Array Value} {W:World} {R:Ending->World->Prop} (h:YieldAt F m P l args W R):YieldAt F m' P l args W R:=by
 obtain⟨fn,tmps,assign,body,hy,hR⟩:=h;exact⟨fn,tmps,assign,body,hy,RoundIn.anyDepth hd hR⟩
attribute [local go_sem] Oper.semAt_some
abbrev El:=Tq × Tv
def qbj (x:El):Array Value:=#[x.2.agg]
def Sa (e:Gx):List Tq:=e.tests.map Ec
def tsL (l:List Gx):List Tq:=(Nj l).map Ec
theorem zce (a b:List Gx):Nj (a++b)=Nj a++Nj b:=by
 induction a with
 | nil=>simp[Nj]
 | cons x r ih=>rw[List.cons_append,Nj,Nj,ih,List.append_assoc]
theorem zum (e:Gx):Nj [e]=e.tests:=by simp[Nj]
theorem qw2 (es:List Gx) (k:Nat) (e:Gx) (h:es[k]?=some e):tsL (es.take (k+1))=tsL (es.take k)++Sa e:=by
 have hk:=(List.getElem?_eq_some_iff.1 h).1
 have:es[k]=e:=by rw[Ac hk]at h;exact Option.some.inj h
 unfold tsL Sa;rw[List.take_succ_eq_append_getElem hk,zce,this,zum,List.map_append]
theorem qy3 (es:List Gx) (k:Nat) (e:Gx) (h:es[k]?=some e):tsL es=tsL (es.take k)++(Sa e++tsL (es.drop (k+1))):=by
 have hk:=(List.getElem?_eq_some_iff.1 h).1
 have h0:es[k]=e:=by rw[Ac hk]at h;exact Option.some.inj h
 have h1:es=es.take k++(es[k]::es.drop (k+1)):=by rw[<- List.drop_eq_getElem_cons hk,List.take_append_drop]
 conv=>lhs;rw[h1,h0]
 unfold tsL Sa;rw[zce,Nj,List.map_append,List.map_append]
theorem ze0 (e:Gx):e.tests=if e.settled then []else if e.composed then Nj e.args else [e]:=by cases e;rw[Gx.tests];rfl
def qgy (K:Nat) (J Jx:List El->World->Prop) (pre:List El) (ts:List Tq) (W:World) (en:Ending) (W':World):Prop :=
 (en=.returned (.bool true)/\∃ xs:List El,xs.map Prod.fst=ts/\J (pre++xs) W'/\Below K W W'/\W.heap.size<=W'.heap.size) ∨
 (en=.returned (.bool false)/\∃ (xs:List El) (rest:List Tq),xs.map Prod.fst++rest=ts/\Jx (pre++xs) W')
theorem Rj {w w':World} (h:Below w.heap.size w w'):w.grownBy w' none:=⟨h.os,h.tape,h.output,h.size,fun k hk _=>h.block k hk⟩
theorem zi5 (l K:Nat) (P:Gx->Prop) (hP:∀ e,P e->e.good=true/\∀ a∈e.args,P a) (J Jx:List El->World->Prop) (hJ:∀ s A B,J s A->A.grownBy B none->J s B)
  (hY:∀ m pre x W,J pre W->TqX K W x.1 x.2/\(∃ a,P a/\x.1=Ec a)->YieldAt Fence.wide m Tryz.prog l (qbj x) W fun e W'=>(e=.returned (.bool true)/\J (pre++[x]) W'/\KpE K W W')\/(e=.returned (.bool false)/\Jx (pre++[x]) W'/\KpE K W W')) :
  ∀ (m:Nat) (e:Gx),e.parts<=m->∀ (n:Nat) (x:Xv) (pre:List El) (W:World),ExG K W e x->P e->K<=W.heap.size->J pre W →
   CallsIn Fence.wide n Tryz.prog 56 #[x.agg,.func (.yield l) #[] #[]] W (qgy K J Jx pre (Sa e) W):=by
 intro m
 induction m with
 | zero=>intro e hm;cases e;rw[S7]at hm;omega
 | succ m ih =>
  intro e hm n x pre W h hp hK hj
  have Pn:=(hP e hp).1;obtain⟨W1,Ah⟩:=Ae (W.alloc (.cells x.cells 43))
  have Bp:Below K W W1:=Ah ▸ (Below.refl K W).alloc hK _
  have zpz:Below W.heap.size W W1:=Ah ▸ (Below.refl _ W).alloc (Ab _) _
  have Cp:W1.heap.size=W.heap.size+1:=by rw[<- Ah];simp
  have q1:Blk W1 W.heap.size x.cells 43:=Ah ▸ Blk.new W _ _
  have Nx:=qwh K e x W1 (h.below Bp (Ab _) (Ab _)) Pn (by omega);have HX:=Aa h;have HP:=Aa hp;have Ko:=Aa hP;have HJ:=Aa hJ;have HY:=Aa hY;have HM:=Aa hm;have M0:=Aa ih;have HG:=Aa Pn;have qfo:=Aa hj;have HT:=Aa (ze0 e);obtain⟨cs,De⟩:∃ c,e.settled=c:=⟨_,rfl⟩;obtain⟨cc,Em⟩:∃ c,e.composed=c:=⟨_,rfl⟩;rw[De]at Nx;rw[De,Em]at HT;have Kj:=Aa Em;obtain⟨x',D8⟩:∃ x':Xv,x'=x:=⟨_,rfl⟩;rw[<- D8]at HX;obtain⟨xop,xnm,kd,b3,⟨a4,n4,m4⟩,b5,⟨a6,n6,m6⟩,i7,⟨a8,n8,m8⟩⟩:=x;have qkw:=Aa D8;have Dk:=Aa Ah;rw[<- Ah]at Nx;dsimp only[Xv.cells,Xv.agg]at Nx;clear Ah h hp hP hJ hY hm ih Pn hj De Em D8;refine callsIn_of_wp Tryz.func56 rfl trivial ?_;simp only[Tryz.ntmps56,List.size_toArray,List.length_cons,List.length_nil,Nat.reduceAdd,Nat.reduceSub,Array.replicate_succ,Array.replicate_zero,List.push_toArray,List.append_toArray,List.nil_append,List.cons_append];gi_wp2_with fail
  refine⟨trivial,Yv,(callsIn_wide.2 Nx).mono ?_⟩;clear Nx;rintro en W2 ⟨rfl,Ai⟩;rw[show W.alloc (.cells #[.int .u8 xop,S xnm,.int .u8 kd,.bool b3,.slice a4 n4 m4,.bool b5,.slice a6 n6 m6,.int .i64 i7,.slice a8 n8 m8] 43)=W1 from Dk.out]at Ai;have Ak:Below W.heap.size W W2:=zpz.trans (Ai.mono (by omega));have vB:Below K W W2:=Ak.mono hK;have Az:=Ai.size;have q2:=q1.below Ai (by omega)
  cases cs with
  | true =>
   gi_wp2_with fail
   go_ret
   exact .inl ⟨rfl,[],by unfold Sa;rw[HT.out];rfl,by rw[List.append_nil];exact HJ.out _ _ _ qfo.out (Rj Ak),vB,by omega⟩
  | false =>
   obtain⟨d0,d1,d2,d3,d4,d5,d6,d7,d8⟩:=q2.nine;have dA:=qr4 K e x' W2 (HX.out.below vB (Ab _) (Ab _));rw[Kj.out]at dA;rw[qkw.out]at dA;dsimp only[Xv.cells,Xv.agg]at dA;gi_wp2_with fail
   refine⟨trivial,Yv,(callsIn_wide.2 dA).mono ?_⟩;clear dA d0 d1 d2 d3 d4 d5 d6 d7 d8;rintro en W3 ⟨rfl,Al⟩;have Aq:Below W.heap.size W W3:=Ak.trans (Al.mono (by omega));have zbf:Below K W W3:=Aq.mono hK;have Ep:=Al.size;have q3:=q2.below Al (by omega);obtain⟨d0,d1,d2,d3,d4,d5,d6,d7,d8⟩:=q3.nine
   cases cc with
   | false =>
    have bG:=qoi K e x' W3 (HX.out.below zbf (Ab _) (Ab _)) HG.out (by omega);rw[qkw.out]at bG;dsimp only[Xv.cells,Xv.agg]at bG;gi_wp2_with fail
    refine⟨trivial,Yv,(callsIn_wide.2 bG).mono ?_⟩;clear bG d0 d1 d2 d3 d4 d5 d6 d7 d8;rintro en W4 ⟨y,rfl,zhh,Bk⟩;have Ct:Below W.heap.size W W4:=Aq.trans (Bk.mono (by omega));have wF:J pre W4:=HJ.out _ _ _ qfo.out (Rj Ct);obtain⟨fn,tmps,assign,body,lL,hR⟩:=HY.out (n-1) pre (Ec e,y) W4 wF ⟨zhh,e,HP.out,rfl⟩;unfold qbj at lL;dsimp only at lL;gi_wp2_with fail
    refine⟨Yv,hR.mono ?_⟩;clear hR lL;have Pa:Hid (Sa e=[Ec e]):=Aa (by unfold Sa;rw[HT.out];rfl);rintro en W5 (⟨rfl,qhc,Rt⟩ | ⟨rfl,qhc,Rt⟩)
    ·gi_wp2_with fail
     go_ret
     exact .inl ⟨rfl,[(Ec e,y)],by rw[Pa.out];rfl,qhc,(Ct.mono hK).trans Rt.1,Nat.le_trans Ct.size Rt.1.size⟩
    ·gi_wp2_with fail
     go_ret
     exact .inr ⟨rfl,[(Ec e,y)],[],by rw[Pa.out];rfl,qhc⟩
   | true =>
    have Pa:Hid (Sa e=tsL e.args):=Aa (by unfold Sa tsL;rw[HT.out];rfl);obtain⟨_,_,_,_,g,hg,Eh⟩:=HX.out.open;rw[qkw.out]at hg;obtain⟨va,vcap,h8,Mr,Mn⟩:=hg.form;simp only[Sl.val,Value.slice.injEq]at h8;obtain⟨rfl,rfl,rfl⟩:=h8
    have Mz:Hid (∀ (k:Nat) (a:Gx),e.args[k]?=some a->ExG K W a (g k)/\a.parts<=m/\P a):=Aa fun k a ha=>⟨Eh k a ha,by
     have h1:=Z9 (List.mem_of_getElem? ha);have h2:=HM.out
     rw[Xk]at h2;omega,(Ko.out e HP.out).2 a (List.mem_of_getElem? ha)⟩
    have Y1:=Aa hg;unfold maxLen at Mn;clear Eh hg;gi_wp2_with fail
    clear d0 d1 d2 d3 d4 d5 d6 d7 d8;gi_loopw [19] (fun i wr=>∃ (k:Nat) (xs:List El),k<=e.args.length/\i=.int .i64 k/\xs.map Prod.fst=tsL (e.args.take k)/\J (pre++xs) wr/\Below K W wr/\W.heap.size<=wr.heap.size) (fun i _=>e.args.length-(intOf i).toNat)
    case atStart=>exact⟨0,[],Nat.zero_le _,rfl,by simp[tsL,Nj],by rw[List.append_nil];exact HJ.out _ _ _ qfo.out (Rj Aq),zbf,by omega⟩
    case round =>
     obtain⟨k,xs,hk,rfl,Sx,qpe,Bb,Fh⟩:=hrel
     by_cases Aj:k<e.args.length
     ·obtain⟨b,o,cap,he,_,Fl,Cj,hc⟩:=Y1.out.pos (by omega)
      simp only[Sl.val,Value.slice.injEq,true_and]at he;obtain⟨rfl,rfl⟩:=he;obtain⟨k0,k1,k2,k3,k4,k5,k6,k7,k8⟩:=N3 (Km Bb Cj hc) Aj;obtain⟨ek,Ly⟩:∃ ek,e.args[k]?=some ek:=⟨_,Ac Aj⟩;obtain⟨hq,Vj,Pv⟩:=Mz.out k ek Ly;obtain⟨y,hy⟩:=Ae (g k);rw[hy]at hq k0 k1 k2 k3 k4 k5 k6 k7 k8;have Gq:Below K W (wr.alloc (.cells y.cells 43)):=Bb.alloc (by omega) _;have Ao:=M0.out ek Vj (n-1) y (pre++xs) (wr.alloc (.cells y.cells 43)) (hq.below Gq (Ab _) (Ab _)) Pv (by simp;omega) (HJ.out _ _ _ qpe (World.grownBy_alloc wr _ none));have Vi:Hid (tsL (e.args.take (k+1))=tsL (e.args.take k)++Sa ek):=Aa (qw2 e.args k ek Ly);have Rb:Hid (tsL e.args=tsL (e.args.take k)++(Sa ek++tsL (e.args.drop (k+1)))):=Aa (qy3 e.args k ek Ly);have Pf:=Aa Sx;clear Ly hc Sx hy hq Vj Pv;gi_wp2_with fail
      refine⟨trivial,Yv,Ao.mono ?_⟩;clear Ao;unfold qgy;rintro en W6 (⟨rfl,ys,Xz,fH,Bk,Nt⟩ | ⟨rfl,ys,rest,Xz,fH⟩)
      ·simp only[World.size_alloc]at Nt
       have lO:=Aa Xz;clear Xz;gi_wp2_with fail
       refine⟨⟨k+1,xs++ys,by omega,by go_num,?_,?_,Gq.trans Bk,by omega⟩,by simp[intOf];omega⟩
       ·rw[List.map_append,Pf.out,lO.out,Vi.out]
       ·rw[<- List.append_assoc];exact fH
      ·have lO:=Aa Xz
       clear Xz;gi_wp2_with fail
       go_ret
       refine .inr ⟨rfl,xs++ys,rest++tsL (e.args.drop (k+1)),?_,by rw[<- List.append_assoc];exact fH⟩;rw[Pa.out,Rb.out,List.map_append,Pf.out,<- lO.out];simp
     ·obtain rfl:k=e.args.length:=by omega
      rw[List.take_length]at Sx;have Pf:=Aa Sx;clear Sx;gi_wp2_with fail
      go_ret
      exact .inl ⟨rfl,xs,by rw[Pf.out,Pa.out],qpe,Bb,Fh⟩
theorem znw (K Bx:Nat) (P:Gx->Prop) (hP:∀ e,P e->e.good=true/\∀ a∈e.args,P a) (e:Gx) (x:Xv) :
  qe3 (α:=El) Tryz.prog 55 (fun i=>#[]++#[.func (.yield i) #[] #[]]++#[.pointer (some ⟨Bx,0,none⟩)]) qbj (fun pre x W=>TqX K W x.1 x.2/\∃ a,P a/\x.1=Ec a) (fun A B=>A.grownBy B none) (KpE K)
   (fun xs W=>xs.map Prod.fst=Sa e) (fun xs W=>∃ rest,xs.map Prod.fst++rest=Sa e) (fun W=>K<=W.heap.size/\Blk W Bx x.cells 43/\ExG K W e x/\P e):=by
 rintro n i J Jx W ⟨hK,hq,hx,hp⟩ hJ zv1 hY h0;have hw:=zi5 i K P hP J Jx hJ (fun m pre x W hj hl=>YieldAt.anyDepth rfl m (hY pre x W hj hl)) _ e (Ab _) (n-1) x [] W hx hp hK h0;obtain⟨d0,d1,d2,d3,d4,d5,d6,d7,d8⟩:=hq.nine;dsimp only[Xv.agg,Xv.cells]at hw;clear hY hq hx hP;refine callsIn_of_wp Tryz.func55 rfl trivial ?_;simp only[Tryz.ntmps55,List.size_toArray,List.length_cons,List.length_nil,Nat.reduceAdd,Nat.reduceSub,Array.replicate_succ,Array.replicate_zero,List.push_toArray,List.append_toArray,List.nil_append,List.cons_append];gi_wp2_with fail
 refine⟨trivial,Yv,hw.mono ?_⟩;clear hw;unfold qgy;rintro en W3 (⟨rfl,ys,Xz,F8,_,_⟩ | ⟨rfl,ys,rest,Xz,F8⟩)
 ·gi_wp2_with fail
  go_end0
  exact⟨⟨_,rfl⟩,.inl ⟨ys,Xz,by simpa using F8⟩⟩
 ·gi_wp2_with fail
  go_end0
  exact⟨⟨_,rfl⟩,.inr ⟨ys,⟨rest,Xz⟩,by simpa using F8⟩⟩
theorem zv2 (x:Xv) (w:World):Calls Tryz.prog 29 #[x.agg] w fun e w'=>e=.returned (.func (.func 55) #[] #[.pointer (some ⟨w.heap.size,0,none⟩)])/\w.alloc (.cells x.cells 43)=w':=by
 go_enter Tryz.func29,Tryz.ntmps29
 go_wp2_with fail
 go_ret
 exact⟨rfl,rfl⟩
theorem qai (w:World) (dT sT ty elem c:Nat) (g o dLen dCap:Nat) (a:Addr) (sLen sCap:Nat) (cur:Array Value) (t:TypeId) (cs:List Value)
  (hu:Tryz.prog.underlying dT=some (.slice elem)) (hs:(Tryz.prog.info? elem).map (fun i=>i.size)=some c)
  (hg:w.heap[g]?=some (.cells cur t (0,0))) (hn:cs.length=Nat.min sLen dLen*c)
  (wZ:∀ j v,cs[j]?=some v->w.cell? (a.add j)=some v) (Yn:o+cs.length<=cur.size) (h1:∀ v∈cs,v.oneCell'=true) :
  (Builtin.copy_ #[dT,sT] ty #[.slice (some ⟨g,o,none⟩) dLen dCap,.slice (some a) sLen sCap]).run Tryz.prog w =
   .ok (goInt (Nat.min sLen dLen)) (w.setRow g (cur.toList.take o++cs++cur.toList.drop (o+cs.length)).toArray):=by
 have hl:=run_loadCells_list (P:=Tryz.prog) w a cs wZ;have Ls:=run_storeCells_at Tryz.prog g o t cs 0 cur w hg (by simpa using Yn) h1
 cases hq:Tryz.prog.info? elem with
 | none=>simp[hq]at hs
 | some i =>
  have hi:i.size=c:=by simpa [hq] using hs
  simp[Builtin.copy_,run_underlying hu,Builtin.lenOf,Builtin.firstCells,sizeOf,typeInfo,hq,hi,<- hn,hl,Ls]
theorem o5 (w:World) {o:Oper} {a:Act} {K:Act->World->Prop} {Q:Exit->Act->World->Prop} (d s:Operand) (t t':TypeId)
  (ho:o.op=.call { callee:=.builtin .copy,args:=#[d,s],argTypes:=#[t,t'] }) (v u:Value) (hd:a.eval d=v) (hs:a.eval s=u) {v':Value} {w':World}
  (hr:(Builtin.copy_ #[t,t'] o.type #[v,u]).run Tryz.prog w=.ok v' w') (h:K (a.put o.dst v') w'):o.wp Tryz.prog a w K Q:=by
 unfold Oper.wp execOp;simp only[ho,resolve,invoke,builtin,Sem.run_bind,Sem.run_pure,Result.andThen_ok,List.map_toArray,List.map_cons,List.map_nil,hd,hs,hr];exact h
theorem zhl (w:World) {o:Oper} {a:Act} {K:Act->World->Prop} {Q:Exit->Act->World->Prop} (s x:Operand) (t t':TypeId)
  (ho:o.op=.call { callee:=.builtin .append,args:=#[s,x],argTypes:=#[t,t'] }) (v u:Value) (hs:a.eval s=v) (hx:a.eval x=u) {v':Value} {w':World}
  (hr:(Builtin.append_ #[t,t'] o.type #[v,u]).run Tryz.prog w=.ok v' w') (h:K (a.put o.dst v') w'):o.wp Tryz.prog a w K Q:=by
 unfold Oper.wp execOp;simp only[ho,resolve,invoke,builtin,Sem.run_bind,Sem.run_pure,Result.andThen_ok,List.map_toArray,List.map_cons,List.map_nil,hs,hx,hr];exact h
theorem zuc {ROW fl r:List Value} {c n i:Nat} (hR:ROW.take (i*c)=fl.take (i*c)) (Ut:fl.length=n*c) (hi:i<=n) (hr:r.length=c) {cur1 cur2:List Value} (Cc:(n+1)*c<=ROW.length)
  (h1:cur1=ROW.take (i*c)++r++ROW.drop (i*c+r.length)) (h2:cur2=cur1.take ((i+1)*c)++fl.drop (i*c)++cur1.drop ((i+1)*c+(fl.drop (i*c)).length)) :
  cur2.take ((n+1)*c)=fl.take (i*c)++(r++fl.drop (i*c)):=by
 have ztn:i*c<=n*c:=Nat.mul_le_mul_right _ hi;have e1:(i+1)*c=i*c+c:=Nat.succ_mul _ _;have e2:(n+1)*c=n*c+c:=Nat.succ_mul _ _
 have hd:(fl.drop (i*c)).length=n*c-i*c:=by rw[List.length_drop,Ut]
 have hl:(fl.take (i*c)).length=i*c:=by rw[List.length_take];omega
 have t1:cur1.take ((i+1)*c)=fl.take (i*c)++r:=by
  rw[h1,hR,List.take_append_of_le_length (by rw[List.length_append,hl];omega),List.take_of_length_le (by rw[List.length_append,hl];omega)]
 rw[h2,t1,List.append_assoc,List.append_assoc,<- List.append_assoc r,<- List.append_assoc];rw[List.take_append_of_le_length (by simp only[List.length_append];omega),List.take_of_length_le (by simp only[List.length_append];omega)]
theorem zep {c:Nat} {rs:List (List Value)} (h:Dg c rs) (i:Nat):(rs.take i).flatten=rs.flatten.take (i*c):=by
 induction rs generalizing i with
 | nil=>simp
 | cons r t ih =>
  cases i with
  | zero=>simp
  | succ i =>
   have hr:=(h r (by simp)).1;rw[List.take_succ_cons,List.flatten_cons,List.flatten_cons,ih (fun x hx=>h x (List.mem_cons_of_mem _ hx)),List.take_append,hr,Nat.succ_mul,List.take_of_length_le (l:=r) (by omega)]
   congr 2;omega
theorem zn8 {c:Nat} {rs:List (List Value)} (h:Dg c rs) (i:Nat):(rs.drop i).flatten=rs.flatten.drop (i*c):=by
 induction rs generalizing i with
 | nil=>simp
 | cons r t ih =>
  cases i with
  | zero=>simp
  | succ i =>
   have hr:=(h r (by simp)).1;rw[List.drop_succ_cons,List.flatten_cons,ih (fun x hx=>h x (List.mem_cons_of_mem _ hx)),List.drop_append,hr,Nat.succ_mul,List.drop_of_length_le (l:=r) (by omega)];simp
theorem Dg.take {c:Nat} {rs:List (List Value)} (h:Dg c rs) (i:Nat):Dg c (rs.take i):=fun r hr=>h r (List.mem_of_mem_take hr)
theorem Dg.drop {c:Nat} {rs:List (List Value)} (h:Dg c rs) (i:Nat):Dg c (rs.drop i):=fun r hr=>h r (List.mem_of_mem_drop hr)
def Tt (rs:List (List Value)) (i:Nat) (r:List Value):List (List Value):=rs.take i++r::rs.drop i
theorem qcu {c:Nat} {rs:List (List Value)} (h:Dg c rs) {i:Nat} {r:List Value} (hr:Dg c [r]):Dg c (Tt rs i r):=by
 unfold Tt
 exact(h.take i).append (fun x hx=>by
  rcases List.mem_cons.1 hx with rfl | hx
  ·exact hr _ (by simp)
  ·exact h.drop i _ hx)
theorem qtj {rs:List (List Value)} {i:Nat} {r:List Value} (hi:i<=rs.length):(Tt rs i r).length=rs.length+1:=by
 unfold Tt;rw[List.length_append,List.length_cons,List.length_take,List.length_drop];omega
theorem qoy {c:Nat} {rs:List (List Value)} (h:Dg c rs) (i:Nat) (r:List Value):(Tt rs i r).flatten=rs.flatten.take (i*c)++(r++rs.flatten.drop (i*c)):=by
 unfold Tt;rw[List.flatten_append,List.flatten_cons,zep h,zn8 h]
theorem zdn {cur fl r:List Value} {c n i:Nat} (hc:cur.take (n*c)=fl) (Ut:fl.length=n*c) (hi:i<=n) (hr:r.length=c) {cur1 cur2:List Value}
  (h1:cur1=cur.take ((i+1)*c)++fl.drop (i*c)++cur.drop ((i+1)*c+(fl.drop (i*c)).length)) (h2:cur2=cur1.take (i*c)++r++cur1.drop (i*c+r.length)) (Cc:(n+1)*c<=cur.length) :
  cur2.take ((n+1)*c)=fl.take (i*c)++(r++fl.drop (i*c)):=by
 have ztn:i*c<=n*c:=Nat.mul_le_mul_right _ hi;have e1:(i+1)*c=i*c+c:=Nat.succ_mul _ _;have e2:(n+1)*c=n*c+c:=Nat.succ_mul _ _
 have hd:(fl.drop (i*c)).length=n*c-i*c:=by rw[List.length_drop,Ut]
 have ht:(cur.take ((i+1)*c)).length=i*c+c:=by rw[List.length_take];omega
 have t1:cur1.take (i*c)=fl.take (i*c):=by
  rw[h1,List.append_assoc,List.take_append_of_le_length (by omega),List.take_take,<- hc,List.take_take]
  congr 1;omega
 have t2:cur1.drop (i*c+r.length)=fl.drop (i*c)++cur.drop ((i+1)*c+(fl.drop (i*c)).length):=by
  rw[h1,List.append_assoc,hr,<- ht,List.drop_left]
 rw[h2,t1,t2]
 have hl:(fl.take (i*c)).length=i*c:=by rw[List.length_take];omega
 rw[show fl.take (i*c)++r++(fl.drop (i*c)++cur.drop ((i+1)*c+(fl.drop (i*c)).length))=(fl.take (i*c)++(r++fl.drop (i*c)))++cur.drop ((i+1)*c+(fl.drop (i*c)).length)by simp];rw[List.take_append_of_le_length (by simp only[List.length_append];omega),List.take_of_length_le (by simp only[List.length_append];omega)]
end Go.Proofs.YtlldjmagbjjeoaaGreatDoor
