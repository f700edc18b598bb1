/- Contracts and plain laws, several texts in one (DTakeX, NW2, GStore, NW3). No conditions beyond those stated. -/
import Derived.Laws.Tables
import Derived.Test.YtlldjmagbjjeoaaGreatDoorPk3
set_option maxRecDepth 100000
set_option maxHeartbeats 40000000
namespace Go.Proofs.YtlldjmagbjjeoaaGreatDoor
open Go.RowKit
set_option linter.unusedVariables false
section
variable {P:Program} {ops:Array Oper} {Q:Exit->Act->World->Prop} {md:Region.Mode} {S:World->Prop} {D:List Nat}
theorem qqe {i:Nat} {oi:Oper} {v:Value} {fuel:Nat} {listed:Array Bool} {a:Act} {w:World} (d:Option Tmp) (hi:ops[i]?=some oi) (hd:oi.dst=d)
  (hs:Region.noSelect ops=true) (hf:Region.free md ops listed i=true) (hr:(Region.ready md ops listed).contains i=true) (hm:R4 md ops D i=true) (ho:V7 D listed=true)
  (hQ:∀ c a w,Q (.panic c) (a.put d v) w->Q (.panic c) a w) (hy:YieldsIf P ops S oi v a) (hS:S w)
  (h:By P md ops Q S D fuel (listed.setIfInBounds i true) (a.put d v) w):By P md ops Q S D (fuel+1) listed a w:=by
 subst hd;exact qgr hi hs hf hr hm ho hQ hy hS h
end
section
variable {P:Program} {ops:Array Oper} {Q:Exit->Act->World->Prop} {md:Region.Mode} {S:World->Prop} {D:List Nat}
theorem Dx {i:Nat} {oi:Oper} {v:Value} {fuel:Nat} {listed:Array Bool} {a:Act} {w:World} (d:Option Tmp) (hi:ops[i]?=some oi) (hd:oi.dst=d) (hy:YieldsIf P ops S oi v a) (hS:S w)
  (h:By P md ops Q S D fuel (listed.setIfInBounds i true) (a.put d v) w) (hs:Region.noSelect ops=true:=by kernel_rfl) (hf:Region.free md ops listed i=true:=by kernel_rfl) (hr:(Region.ready md ops listed).contains i=true:=by kernel_rfl) (hm:R4 md ops D i=true:=by kernel_rfl) (ho:V7 D listed=true:=by kernel_rfl) (hQ:∀ c a w,Q (.panic c) (a.put d v) w->Q (.panic c) a w:=by exact fun _ _ _ h=>h):By P md ops Q S D (fuel+1) listed a w:=qqe d hi hd hs hf hr hm ho hQ hy hS h
theorem Aw {i:Nat} {oi:Oper} {v:Value} {fuel:Nat} {listed:Array Bool} {a:Act} {w:World} (d:Option Tmp) (hi:ops[i]?=some oi) (hd:oi.dst=d) (hS:S w)
  (h:By P md ops Q S D fuel (listed.setIfInBounds i true) (a.put d v) w) (hs:Region.noSelect ops=true:=by kernel_rfl) (hf:Region.free md ops listed i=true:=by kernel_rfl) (hr:(Region.ready md ops listed).contains i=true:=by kernel_rfl) (hm:R4 md ops D i=true:=by kernel_rfl) (ho:V7 D listed=true:=by kernel_rfl) (hy:YieldsIf P ops S oi v a:=by exact .inl ⟨by kernel_rfl,fun W' hS=>by go_simp⟩) (hQ:∀ c a w,Q (.panic c) (a.put d v) w->Q (.panic c) a w:=by exact fun _ _ _ h=>h):By P md ops Q S D (fuel+1) listed a w:=qqe d hi hd hs hf hr hm ho hQ hy hS h
end
def Fa (l:List Nat):Array Value:=(l.map fun n:Nat=>(.int .u32 (n:Int):Value)).toArray
def Rk (l:List Nat):Array Value:=(l.map fun n:Nat=>(.int .u16 (n:Int):Value)).toArray
theorem rG {l:List Nat} {i d:Nat} (h:l[i]?=some d):(Fa l)[i]?=some (.int .u32 (d:Int)):=by simp[Fa,h]
theorem qcp {l:List Nat} {i d:Nat} (h:l[i]?=some d):(Rk l)[i]?=some (.int .u16 (d:Int)):=by simp[Rk,h]
theorem qbb (l:List Nat) (i x:Nat):(Fa l).setIfInBounds i (.int .u32 (x:Int))=Fa (l.set i x):=by
 unfold Fa;rw[List.setIfInBounds_toArray,List.map_set]
theorem qtn (l:List Nat) (i x:Nat):(Rk l).setIfInBounds i (.int .u16 (x:Int))=Rk (l.set i x):=by
 unfold Rk;rw[List.setIfInBounds_toArray,List.map_set]
theorem qhz (z:Value) (n:Nat):madeCells #[z] (n*1)=(List.replicate n z).toArray:=by
 apply Array.ext_getElem?
 intro k
 by_cases hk:k<n
 ·simp[madeCells,hk,Nat.mod_one]
 ·rw[Array.getElem?_eq_none (by simp[madeCells];omega),Array.getElem?_eq_none (by simp;omega)]
theorem fC (n:Nat) (hn:n<=2^38) (w:World):(Instr.makeSlice 160 (.int .i64 n) (.int .i64 n)).run Tryz.prog w=.ok (.slice (some ⟨w.heap.size,0,none⟩) n n) (w.alloc (.cells (Fa (List.replicate n 0)) 172)):=by
 obtain⟨i0,hi,Cz,Gb,Ft⟩:=info_parts Tryz.infoU32;have h:=run_make (P:=Tryz.prog) w 160 172 i0 _ Tryz.underlying160 hi Cz .i64 .i64 n n (by omega) (Int.le_refl _) (by rw[Ft];omega) (by omega);rw[Gb,Int.toNat_natCast]at h;rw[h];have := qhz (.int .u32 0) n;simp only[Value.cells]at this ⊢;rw[this];simp[Fa]
theorem zsh (n:Nat) (hn:n<=2^38) (w:World):(Instr.makeSlice 35 (.int .i64 n) (.int .i64 n)).run Tryz.prog w=.ok (.slice (some ⟨w.heap.size,0,none⟩) n n) (w.alloc (.cells (Rk (List.replicate n 0)) 132)):=by
 obtain⟨i0,hi,Cz,Gb,Ft⟩:=info_parts Tryz.infoU16;have h:=run_make (P:=Tryz.prog) w 35 132 i0 _ Tryz.underlying35 hi Cz .i64 .i64 n n (by omega) (Int.le_refl _) (by rw[Ft];omega) (by omega);rw[Gb,Int.toNat_natCast]at h;rw[h];have := qhz (.int .u16 0) n;simp only[Value.cells]at this ⊢;rw[this];simp[Rk]
def pkW (l:List Nat) (j:Nat):Nat:=l[2*j]?.getD 0+65536*l[2*j+1]?.getD 0
def Jn (m:Nat) (l:List Nat):List Nat:=(List.range m).map (pkW l)
theorem R5 {m j:Nat} (l:List Nat) (h:j<m):(Jn m l)[j]?=some (pkW l j):=by simp[Jn,h]
theorem P5 (m:Nat) (l:List Nat):(Jn m l).length=m:=by simp[Jn]
theorem qd9 (m:Nat):Jn m []=List.replicate m 0:=by
 apply List.ext_getElem?
 intro k
 by_cases hk:k<m
 ·rw[R5 _ hk];simp[pkW,hk]
 ·rw[List.getElem?_eq_none (by rw[P5];omega),List.getElem?_eq_none (by simp;omega)]
theorem cK {l:List Nat} {i x:Nat} (h:l[i]?=some x) (k:Nat):(l.take (i+1))[k]?.getD 0=if k=i then x else(l.take i)[k]?.getD 0:=by
 by_cases hk:k=i
 ·subst hk;rw[if_pos rfl,List.getElem?_take_of_lt (by omega),h];rfl
 ·rw[if_neg hk]
  by_cases Mp:k<i
  ·rw[List.getElem?_take_of_lt (by omega),List.getElem?_take_of_lt Mp]
  ·rw[List.getElem?_take_eq_none (by omega),List.getElem?_take_eq_none (by omega)]
theorem qv8 {l:List Nat} {m j x:Nat} (h:l[2*j]?=some x) (hj:j<m):Jn m (l.take (2*j+1))=(Jn m (l.take (2*j))).set j x/\pkW (l.take (2*j)) j=0:=by
 constructor
 ·apply List.ext_getElem?
  intro k
  by_cases hk:k<m
  ·by_cases e:j=k
   ·subst e
    rw[R5 _ hk,List.getElem?_set_self (by rw[P5];exact hk)];unfold pkW;rw[cK h,cK h,if_pos rfl,if_neg (by omega),List.getElem?_take_eq_none (by omega)];rfl
   ·rw[R5 _ hk,List.getElem?_set_ne e,R5 _ hk]
    unfold pkW;rw[cK h,cK h,if_neg (by omega),if_neg (by omega)]
  ·rw[List.getElem?_eq_none (by rw[P5];omega),List.getElem?_eq_none (by rw[List.length_set,P5];omega)]
 ·unfold pkW
  rw[List.getElem?_take_eq_none (by omega),List.getElem?_take_eq_none (by omega)];rfl
theorem zw4 {l:List Nat} {m j x:Nat} (h:l[2*j+1]?=some x) (hj:j<m):Jn m (l.take (2*j+1+1))=(Jn m (l.take (2*j+1))).set j (pkW (l.take (2*j+1)) j+65536*x)/\pkW (l.take (2*j+1)) j=l[2*j]?.getD 0:=by
 have h0:pkW (l.take (2*j+1)) j=l[2*j]?.getD 0:=by
  unfold pkW;rw[List.getElem?_take_of_lt (by omega),List.getElem?_take_eq_none (by omega)];rfl
 refine⟨?_,h0⟩
 apply List.ext_getElem?
 intro k
 by_cases hk:k<m
 ·by_cases e:j=k
  ·subst e
   rw[R5 _ hk,List.getElem?_set_self (by rw[P5];exact hk),h0];unfold pkW;rw[cK h,cK h,if_neg (by omega),if_pos rfl,List.getElem?_take_of_lt (by omega)]
  ·rw[R5 _ hk,List.getElem?_set_ne e,R5 _ hk]
   unfold pkW;rw[cK h,cK h,if_neg (by omega),if_neg (by omega)]
 ·rw[List.getElem?_eq_none (by rw[P5];omega),List.getElem?_eq_none (by rw[List.length_set,P5];omega)]
theorem qwg:∀ (l:List Nat) (m:Nat),l.length<=2*m->bv Ag (Jn m l)=As l
 | [],m,_=>by rw[qd9,vY];rfl
 | [x],0,h=>by simp at h
 | [x],m+1,_=>by
  have e:Jn (m+1) [x]=x::Jn m []:=by
   unfold Jn;rw[List.range_succ_eq_map,List.map_cons,List.map_map]
   congr 1
  rw[e,bv,qd9,vY];simp[As]
 | x::y::r,0,h=>by simp at h
 | x::y::r,m+1,h=>by
  have e:Jn (m+1) (x::y::r)=(x+65536*y)::Jn m r:=by
   unfold Jn;rw[List.range_succ_eq_map,List.map_cons,List.map_map]
   congr 1
  rw[e,bv,qwg r m (by simp at h;omega),As,As];unfold Ag;omega
theorem zpm (K:Nat) (v:Value) (l:List Nat) (w:World) (h:Lm K w v l) (hK:K<=w.heap.size) (hl:l.length<=2^30) :
  Calls Tryz.prog 123 #[v] w fun e w'=>e=.returned (.slice (some ⟨w.heap.size,0,none⟩) ((l.length+1)/2) ((l.length+1)/2))/\Blk w' w.heap.size (Fa (Jn ((l.length+1)/2) l)) 172/\Below w.heap.size w w'/\w'.heap.size=w.heap.size+1:=by
 obtain⟨a,c,rfl,Uy,Fl⟩:=h.form;unfold maxLen at Fl;obtain⟨n,hn⟩:=Ae l.length;obtain⟨m,hm⟩:=Ae ((n+1)/2);obtain⟨B,hB⟩:=Ae w.heap.size;rw[hn]at Uy hl ⊢;rw[hm]
 have zd3:m<=2^38:=by omega
 have hq:Int.tdiv ((n:Int)+1) 2=(m:Int):=by rw[Int.tdiv_eq_ediv_of_nonneg (by omega)];omega
 have Fs:=fC m zd3 w;obtain⟨W1,Ah⟩:∃ W,w.alloc (.cells (Fa (List.replicate m 0)) 172)=W:=⟨_,rfl⟩
 have b1:Below B w W1:=by rw[<- Ah,<- hB];exact Af _ _
 have q1:Blk W1 B (Fa (Jn m (l.take 0))) 172:=by rw[<- Ah,<- hB,List.take_zero,qd9];exact Blk.new w _ _
 have s1:W1.heap.size=B+1:=by rw[<- Ah,<- hB];simp
 have cD:∀ i x:Nat,l[i]?=some x->∃ b o,a=some ⟨b,o,none⟩/\b<B/\w.cell? ⟨b,o+i,none⟩=some (.int .u16 (x:Int))/\x<65536:=fun i x hx=>by
  have hi:=(List.getElem?_eq_some_iff.1 hx).1;obtain⟨b,o,cap,he,_,_,hb,hc⟩:=h.pos (by omega);simp only[Value.slice.injEq]at he;refine⟨b,o,he.1,by omega,?_,h.2 x (List.mem_of_getElem? hx)⟩;have := hc i hi;rw[hx,Option.getD_some]at this;exact this
 have qmj:=Aa cD;have HN:=Aa hn;have HM:=Aa hm;have HB:=Aa hB;have Dk:=Aa Ah;have Bi:=Aa b1;have Bc:=Aa q1;have S1:=Aa s1;rw[hB];rw[hB]at Fs;clear h hn hm hB Ah b1 q1 s1 cD;go_enter Tryz.func123,Tryz.ntmps123
 go_upto_region 3 with fail
 go_wp2_with fail
 try rw[Dk.out]
 go_loopw [13] (fun iv wr=>∃ i:Nat,i<=n/\iv=.int .i64 i/\Hid (Blk wr B (Fa (Jn m (l.take i))) 172)/\Hid (Below B w wr)/\Hid (wr.heap.size=B+1)) (fun iv _=>n-(intOf iv).toNat)
 case atStart=>exact⟨0,Nat.zero_le _,rfl,Bc,Bi,S1⟩
 case round =>
  obtain⟨i,hi,rfl,HQ,Ej,SR⟩:=hrel;obtain⟨wo,rfl⟩:∃ wo:World,wo=wr:=⟨_,rfl⟩
  by_cases Aj:i<n
  ·obtain⟨x,hx⟩:∃ x,l[i]?=some x:=⟨_,Ac (by rw[HN.out];exact Aj)⟩
   obtain⟨b,o,rfl,uQ,hc,zkj⟩:=qmj.out i x hx;have e0:wo.cell? ⟨b,o+i,none⟩=some (.int .u16 (x:Int)):=(Ej.out.cell (p:=⟨b,o+i,none⟩) uQ).trans hc;have HX:=Aa hx;clear hc hx;obtain⟨j,hj⟩:=Ae (i/2)
   have bP:j<m:=by have := HM.out;omega
   have jQ:Int.tdiv (i:Int) 2=(j:Int):=by rw[Int.tdiv_eq_ediv_of_nonneg (by omega)];omega
   obtain⟨y,hy⟩:=Ae (pkW (l.take i) j);have e1:wo.drew.cell? ⟨B,j,none⟩=some (.int .u32 (y:Int)):=(show Blk wo.drew B (Fa (Jn m (l.take i))) 172 from HQ.out).at (rG (by rw[R5 _ bP,hy]));have Xw:=Aa e1;have zc7:IntKind.i64.wrap (j:Int)=j:=Su (by omega) (by omega);have qD:IntKind.u32.wrap (x:Int)=x:=Ze (by omega);have bL:IntKind.i64.wrap 0=0:=Su (by omega) (by omega);have jap:IntKind.i64.wrap 16=16:=Su (by omega) (by omega);have Kw:IntKind.i64.wrap 1=1:=Su (by omega) (by omega);have HY:=Aa hy;clear hy e1
   go_upto_region 5 with fail
   have e1:=Xw.out;have f1:wo.drew.frozen? ⟨B,j,none⟩=false:=(show Blk wo.drew B (Fa (Jn m (l.take i))) 172 from HQ.out).free j
   rcases (show i%2=0\/i%2=1 by omega)with he | he
   ·have Dw:(i:Int)%2=0:=by omega
    have hr:Int.tmod (i:Int) 2=0:=by rw[Int.tmod_eq_emod_of_nonneg (by omega)];exact Dw
    have Vt:y=0:=by
     have := (qv8 (l:=l) (m:=m) (j:=j) (x:=x) (by rw[show 2*j=i by omega];exact HX.out) bP).2;rw[show 2*j=i by omega,HY.out]at this;exact this
    have lN:bits BinOp.or IntKind.u32 (y:Int) (x:Int)=(x:Int):=by
     rw[u32_or_nat y x (by omega) (by omega),Vt,Nat.zero_or]
    have Nx:Jn m (l.take (i+1))=(Jn m (l.take i)).set j x:=by
     have := (qv8 (l:=l) (m:=m) (j:=j) (x:=x) (by rw[show 2*j=i by omega];exact HX.out) bP).1;rw[show 2*j=i by omega]at this;exact this
    have qh7:=Aa Nx;clear Nx Vt hj
    have Dz:Blk (wo.drew.setCell ⟨B,j,none⟩ (.int .u32 ((x:Nat):Int))) B (Fa (Jn m (l.take (i+1)))) 172:=by
     have h0:=(show Blk wo.drew B (Fa (Jn m (l.take i))) 172 from HQ.out).set (i:=j) (.int .u32 ((x:Nat):Int));rw[qbb]at h0;rw[qh7.out];exact h0
    have Ai:Below B w (wo.drew.setCell ⟨B,j,none⟩ (.int .u32 ((x:Nat):Int))):=(Er Ej.out).setCell (p:=⟨B,j,none⟩) (Ab _) _
    have Az:(wo.drew.setCell ⟨B,j,none⟩ (.int .u32 ((x:Nat):Int))).heap.size=B+1:=by
     have := SR.out;simp[World.setCell];exact this
    have Bw:=Aa Dz;have Bz:=Aa Ai;have Si:=Aa Az;clear Dz Ai Az;go_region
    go_wp2_with fail
    exact⟨⟨i+1,by omega,by go_num,Bw,Bz,Si⟩,by simp[intOf];omega⟩
   ·have Dw:(i:Int)%2=1:=by omega
    have hr:Int.tmod (i:Int) 2=1:=by rw[Int.tmod_eq_emod_of_nonneg (by omega)];exact Dw
    have P6:2*j+1=i:=by omega
    have Ye:=zw4 (l:=l) (m:=m) (j:=j) (x:=x) (by rw[P6];exact HX.out) bP;rw[P6]at Ye;obtain⟨Nx,qdl⟩:=Ye;rw[HY.out]at Nx qdl
    have i6:y<65536:=by
     have h2:2*j<l.length:=by rw[HN.out];omega
     rw[Ac h2,Option.getD_some]at qdl;obtain⟨_,_,_,_,_,h6⟩:=qmj.out (2*j) _ (Ac h2);omega
    obtain⟨z,hz⟩:=Ae (65536*x)
    have Gb:(x:Int)*65536=(z:Int):=by omega
    have zvx:IntKind.u32.wrap (z:Int)=z:=Ze (by omega)
    have lN:bits BinOp.or IntKind.u32 (y:Int) (z:Int)=((y+65536*x:Nat):Int):=by
     rw[u32_or_nat y z (by omega) (by omega)];have := Nat.two_pow_add_eq_or_of_lt (i:=16) i6 x;rw[<- hz,Nat.or_comm,show(65536:Nat)=2^16 from rfl,<- this,Nat.add_comm]
    have qh7:=Aa Nx;clear Nx qdl hj P6 hz i6;have zz0:((y+65536*x:Nat):Int)=((y+65536*x:Nat):Int):=rfl
    have Dz:Blk (wo.drew.setCell ⟨B,j,none⟩ (.int .u32 ((y+65536*x:Nat):Int))) B (Fa (Jn m (l.take (i+1)))) 172:=by
     have h0:=(show Blk wo.drew B (Fa (Jn m (l.take i))) 172 from HQ.out).set (i:=j) (.int .u32 ((y+65536*x:Nat):Int));rw[qbb]at h0;rw[qh7.out];exact h0
    have Ai:Below B w (wo.drew.setCell ⟨B,j,none⟩ (.int .u32 ((y+65536*x:Nat):Int))):=(Er Ej.out).setCell (p:=⟨B,j,none⟩) (Ab _) _
    have Az:(wo.drew.setCell ⟨B,j,none⟩ (.int .u32 ((y+65536*x:Nat):Int))).heap.size=B+1:=by
     have := SR.out;simp[World.setCell];exact this
    have Bw:=Aa Dz;have Bz:=Aa Ai;have Si:=Aa Az;clear Dz Ai Az;go_region
    go_wp2_with fail
    exact⟨⟨i+1,by omega,by go_num,Bw,Bz,Si⟩,by simp[intOf];omega⟩
  ·obtain rfl:n=i:=by omega
   have Gj:l.take n=l:=List.take_of_length_le (by rw[HN.out];exact Ab _);have hq:=HQ.out;rw[Gj]at hq;have Zb:=Aa hq;clear hq Gj;go_wp2_with fail
   go_ret
   exact⟨rfl,Zb.out,Ej.out,SR.out⟩
theorem Iu {ops:Array Oper} {rest:List Oper} {op:Oper} {a:Act} {w:World} {Q:Exit->Act->World->Prop} (Gy:op.guard=none) (ty:TypeId) (x y:Operand) (ho:op.op=.store ty x y) (cs old:Array Value)
  (hi:(Tryz.prog.info? ty).map (fun i=>i.size)=some cs.size) (Dn:old.size=cs.size) (h1:∀ v∈cs,v.oneCell'=true) (b:Nat) (hb:b=w.heap.size)
  (hx:a.eval x=.pointer (some ⟨b,0,none⟩)) (hy:a.eval y=.agg cs)
  (h:wpList Tryz.prog ops Q rest (a.put op.dst undef) (w.alloc (.cells cs ty))):wpList Tryz.prog ops Q (op::rest) a (w.alloc (.cells old ty)):=by
 subst hb;refine wpList_store_row Gy ty x y ho w.heap.size cs hx hy ty old (World.alloc_heap_new w _) hi Dn (by rw[Array.all_eq_true_iff_forall_mem];exact h1) ?_;rw[World.setRow_alloc_new];exact h
theorem Gu {ops:Array Oper} {rest:List Oper} {op:Oper} {a:Act} {w:World} {Q:Exit->Act->World->Prop} (Gy:op.guard=none) (ty t:TypeId) (x y:Operand) (ho:op.op=.store ty x y) (cs old:Array Value) (b:Nat)
  (hq:Blk w b old t) (hi:(Tryz.prog.info? ty).map (fun i=>i.size)=some cs.size) (Dn:old.size=cs.size) (h1:∀ v∈cs,v.oneCell'=true)
  (hx:a.eval x=.pointer (some ⟨b,0,none⟩)) (hy:a.eval y=.agg cs)
  (h:∀ W',Blk W' b cs t->(∀ B,B<=b->Below B w W')->w.grownBy W' (some b)->W'.heap.size=w.heap.size->wpList Tryz.prog ops Q rest (a.put op.dst undef) W'):wpList Tryz.prog ops Q (op::rest) a w:=by
 refine wpList_store_row Gy ty x y ho b cs hx hy t old hq hi Dn (by rw[Array.all_eq_true_iff_forall_mem];exact h1) ?_
 have hs:(w.setRow b cs).heap.size=w.heap.size:=by simp[World.setRow]
 exact h _ (setRow_heap w b old cs t _ hq) (fun B hB=>⟨rfl,rfl,rfl,Nat.le_of_eq hs.symm,fun k hk=>setRow_other w b k cs (by omega)⟩) ⟨rfl,rfl,rfl,Nat.le_of_eq hs.symm,fun k _ hk=>setRow_other w b k cs (fun e=>hk (by rw[e]))⟩ hs
theorem zji {fn:Func} {t:Tmp} {ty:TypeId} (h:fn.results=#[.cell t ty]) (tmps:Array Value) (P:Program) (w:World) (b o:Nat) (cs:List Value) (d:TypeDesc) (hc:w.rangeAt b o cs) (ht:tmps.getD t undef=.pointer (some ⟨b,o,none⟩))
  (hu:P.underlying ty=some d) (hd:d.isRow=true) (hi:(P.info? ty).map (·.size)=some cs.length):(results fn tmps).run P w=.ok (.agg cs.toArray) w:=by
 have hl:=run_loadVar_mid (P:=P) w b o ty cs d hc hu hd hi
 have Ua:tmps[t]?.getD undef=.pointer (some ⟨b,o,none⟩):=by simpa using ht
 simp[results,h,Ua,asAddr,hl]
theorem Blk.range {w:World} {b t:Nat} {cs:Array Value} (h:Blk w b cs t):w.rangeAt b 0 cs.toList:=by
 intro j v hj
 rw[Nat.zero_add];exact h.at (by simpa using hj)
theorem Pk {fn:Func} {t:Tmp} {ty:TypeId} (h:fn.results=#[.cell t ty]) (tmps:Array Value) (w:World) (b:Nat) (cs:Array Value) (d:TypeDesc) (hc:Blk w b cs ty) (ht:tmps.getD t undef=.pointer (some ⟨b,0,none⟩))
  (hu:Tryz.prog.underlying ty=some d) (hd:d.isRow=true) (hi:(Tryz.prog.info? ty).map (fun i=>i.size)=some cs.size):(results fn tmps).run Tryz.prog w=.ok (.agg cs) w:=by
 have := zji h tmps Tryz.prog w b 0 cs.toList d hc.range ht hu hd (by rw[hi];simp)
 simpa using this
theorem jZ:(Tryz.prog.info? 37).map (fun i=>i.size)=some 2:=by kernel_rfl
def unW (l:List Nat) (p j:Nat):Nat:=if j<p then(if j%2=0 then l[j/2]?.getD 0%65536 else l[j/2]?.getD 0/65536)else 0
def unL (m:Nat) (l:List Nat) (p:Nat):List Nat:=(List.range m).map (unW l p)
theorem Q9 (m:Nat) (l:List Nat) (p:Nat):(unL m l p).length=m:=by simp[unL]
theorem bZ {m j:Nat} (l:List Nat) (p:Nat) (h:j<m):(unL m l p)[j]?=some (unW l p j):=by simp[unL,h]
theorem zc5 (m:Nat) (l:List Nat):unL m l 0=List.replicate m 0:=by
 apply List.ext_getElem?
 intro k
 by_cases hk:k<m
 ·rw[bZ _ _ hk];simp[unW,hk]
 ·rw[List.getElem?_eq_none (by rw[Q9];omega),List.getElem?_eq_none (by simp;omega)]
theorem qwq {m p:Nat} (l:List Nat) (hp:p<m):unL m l (p+1)=(unL m l p).set p (if p%2=0 then l[p/2]?.getD 0%65536 else l[p/2]?.getD 0/65536):=by
 apply List.ext_getElem?
 intro k
 by_cases hk:k<m
 ·by_cases e:p=k
  ·subst e
   rw[bZ _ _ hk,List.getElem?_set_self (by rw[Q9];exact hk)];unfold unW;rw[if_pos (by omega)]
  ·rw[bZ _ _ hk,List.getElem?_set_ne e,bZ _ _ hk]
   unfold unW
   by_cases h1:k<p
   ·rw[if_pos h1,if_pos (by omega)]
   ·rw[if_neg h1,if_neg (by omega)]
 ·rw[List.getElem?_eq_none (by rw[Q9];omega),List.getElem?_eq_none (by rw[List.length_set,Q9];omega)]
theorem qwn:∀ (l:List Nat),(∀ d∈l,d<Ag)->As (unL (2*l.length) l (2*l.length))=bv Ag l
 | [],_=>rfl
 | x::r,h=>by
  have e:unL (2*(x::r).length) (x::r) (2*(x::r).length)=x%65536::x/65536::unL (2*r.length) r (2*r.length):=by
   unfold unL;rw[show 2*(x::r).length=2*r.length+1+1 by simp;omega,List.range_succ_eq_map,List.map_cons,List.map_map,List.range_succ_eq_map,List.map_cons,List.map_map]
   congr 1
   congr 1
   apply List.map_congr_left
   intro k hk
   simp only[Function.comp,unW];have Jk:=List.mem_range.1 hk;rw[if_pos (by omega),if_pos Jk,show(k+1+1)%2=k%2 by omega,show(k+1+1)/2=k/2+1 by omega,List.getElem?_cons_succ]
  rw[e,As,As,qwn r fun d hd=>h d (List.mem_cons_of_mem _ hd),bv];have h1:x%65536+65536*(x/65536)=x:=Nat.mod_add_div x 65536;unfold Ag;omega
theorem qnv:∀ (l r:List Nat),As (l++r)=As l+65536^l.length*As r
 | [],r=>by simp[As]
 | x::l,r=>by
  rw[List.cons_append,As,As,qnv l r,List.length_cons,Nat.pow_succ,Nat.mul_add,Nat.mul_comm (65536^l.length) 65536,Nat.mul_assoc];omega
def Ln (K:Nat) (w:World) (v:Value) (n:Nat):Prop:=∃ l,Lm K w v l/\Hr l/\As l=n
theorem Ln.below {K K' B:Nat} {w w':World} {v:Value} {n:Nat} (h:Ln K w v n) (hb:Below B w w') (hB:K<=B) (hK:K<=K'):Ln K' w' v n:=by
 obtain⟨l,h1,h2⟩:=h;exact⟨l,h1.below hb hB hK,h2⟩
theorem qyn {K b k c:Nat} {w:World} {l:List Nat} {t:TypeId} (hq:Blk w b (Rk l) t) (hb:b<K) (hk:k<=l.length) (hc:k<=c) (Fl:c<=maxLen) (Aj:∀ d∈l,d<65536):Lm K w (.slice (some ⟨b,0,none⟩) k c) (l.take k):=by
 have hl:(l.take k).length=k:=by rw[List.length_take];omega
 refine⟨?_,fun d hd=>Aj d (List.mem_of_mem_take hd)⟩
 have:Au 1 (fun i _=>D16 ((l.take k)[i]?.getD 0)) K w (.slice (some ⟨b,0,none⟩) (l.take k).length c) (l.take k).length:=by
  refine Au.mk_cells (by omega) Fl hb fun i hi j hj=>?_
  obtain rfl:j=0:=by omega
  rw[hl]at hi;have hd:=Ac (show i<l.length by omega);rw[List.getElem?_take_of_lt hi,hd,Option.getD_some];have := hq.at (qcp hd)
  simpa using this
 rwa[hl]at this ⊢
theorem wO (K:Nat) (g:Bool) (v:Value) (l:List Nat) (w:World) (h:Ws K w v l) (hK:K<=w.heap.size) (mG:l.length<=2^30) :
  Calls Tryz.prog 136 #[.bool g,v] w fun e w'=>∃ v',e=.returned (.agg #[.bool (g && decide (0<bv Ag l)),v'])/\Ln w'.heap.size w' v' (bv Ag l)/\Below w.heap.size w w'/\Bj w.heap.size v':=by
 obtain⟨W1,Ah⟩:∃ W,w.alloc (.cells #[.bool false,.slice none 0 0] 37)=W:=⟨_,rfl⟩;obtain⟨B,hB⟩:=Ae w.heap.size
 have b1:Below B w W1:=by rw[<- Ah,<- hB];exact Af _ _
 have q1:Blk W1 B #[.bool false,.slice none 0 0] 37:=by rw[<- Ah,<- hB];exact Blk.new w _ _
 have s1:W1.heap.size=B+1:=by rw[<- Ah,<- hB];simp
 rw[hB]at hK ⊢;obtain⟨a,c,rfl,Uy,Fl⟩:=h.form;have Kw:=h.below b1 hK hK;have ht:=zaj B a l.length c l W1 Kw;obtain⟨n,hn⟩:=Ae l.length;rw[hn]at ht Uy mG ⊢;unfold maxLen at Fl;have HN:=Aa hn;have HB:=Aa hB;have Dk:=Aa Ah;have qpg:=Aa Kw;have Bi:=Aa b1;have Bc:=Aa q1;have HT:=Aa ht;have S1:=Aa s1;obtain⟨N,qj5⟩:=Ae (bv Ag l);rw[qj5];have Xt:=Aa qj5;obtain⟨gz,Oj⟩:∃ z,(g && decide (0<N))=z:=⟨_,rfl⟩;rw[Oj];have rQ:=Aa Oj;clear h hn hB Ah Kw b1 q1 ht s1 qj5 Oj;go_enter Tryz.func136,Tryz.ntmps136
 go_upto_region 1 with fail
 simp only[HB.out];rw[Dk.out];go_wp2_with fail
 refine HT.out.mono ?_;rintro e w2 ⟨k,dR,rfl,Ea,Oi,rfl⟩;have Vo:=Aa Ea;have Xi:=Aa Oi;clear HT Ea Oi
 cases k with
 | zero =>
  have mL:N=0:=by have := Xi.out;rw[Xt.out]at this;rw[<- this];rfl
  subst mL
  have Oj:gz=false:=by rw[<- rQ.out];simp
  subst Oj
  have Bd:∀ u∈(#[.bool false,.slice none 0 0]:Array Value),u.oneCell'=true:=by simp[Value.oneCell']
  have Df:=Aa Bd;clear Bd;go_wp2_with (refine Gu rfl 37 37 (.tmp 4) (.tmp 13) rfl #[.bool false,.slice none 0 0] _ B Bc.out jZ rfl Df.out rfl rfl ?_;intro W9 t1 t2 t3 t4)
  refine bodyPost_ret (Pk rfl _ _ B _ _ t1 rfl Tryz.underlying37 rfl jZ) rfl ?_;exact⟨_,rfl,⟨[],Lm.nil _ _,Hr.nil,rfl⟩,Bi.out.trans (t2 B (Ab _)),Bj.nil _ _ _⟩
 | succ k =>
  obtain⟨p,hp⟩:=Ae (k+1)
  have aT:0<p:=by omega
  rw[hp]at dR Vo Xi ⊢;clear hp;obtain⟨b,o,cap,he,_,_,uQ,Ba⟩:=qpg.out.at (by rw[HN.out];omega);rw[HN.out]at he;simp only[Value.slice.injEq,true_and]at he;obtain⟨rfl,rfl⟩:=he;obtain⟨L,hL⟩:=Ae (l.take p)
  have qdn:L.length=p:=by rw[<- hL,List.length_take];have := HN.out;omega
  have qmr:∀ i d:Nat,L[i]?=some d->W1.cell? ⟨b,o+i,none⟩=some (.int .u32 (d:Int)):=fun i d hd=>by
   have hi:=(List.getElem?_eq_some_iff.1 hd).1;rw[<- hL,List.getElem?_take_of_lt (by omega)]at hd;exact Ba i d hd
  have qrg:∀ d∈L,d<Ag:=fun d hd=>qpg.out.lt d (by rw[<- hL]at hd;exact List.mem_of_mem_take hd)
  rw[hL,Xt.out]at Xi;rw[hL]at Vo;obtain⟨m,hm⟩:=Ae (2*p)
  have Nw:(2:Int)*(p:Int)=(m:Int):=by omega
  have Fs:=zsh m (by omega) W1;rw[S1.out]at Fs;obtain⟨W2,Ax⟩:∃ W,W1.alloc (.cells (Rk (List.replicate m 0)) 132)=W:=⟨_,rfl⟩
  have b2:Below (B+1) W1 W2:=by rw[<- Ax,<- S1.out];exact Af _ _
  have q2:Blk W2 (B+1) (Rk (unL m L (2*0))) 132:=by rw[<- Ax,<- S1.out,Nat.mul_zero,zc5];exact Blk.new W1 _ _
  have s2:W2.heap.size=B+2:=by rw[<- Ax];simp[S1.out]
  have Im:=Aa Ax;have Bz:=Aa b2;have Bw:=Aa q2;have HL:=Aa hL;have K7:=Aa qdn;have Hl:=Aa qmr;have Tr:=Aa qrg;have HM:=Aa hm;have S2:=Aa s2;have qq5:IntKind.i64.wrap (m:Int)=m:=Su (by omega) (by omega);clear Ba hL qdn qmr qrg Ax b2 q2 hm s2
  go_upto_region 5 with fail
  try rw[Im.out]
  go_wp2_with fail
  go_loopw [20] (fun iv wr=>∃ i:Nat,i<=p/\iv=.int .i64 i/\Hid (Blk wr (B+1) (Rk (unL m L (2*i))) 132)/\Hid (Below (B+1) W1 wr)/\Hid (wr.heap.size=B+2)) (fun iv _=>p-(intOf iv).toNat)
  case atStart=>exact⟨0,Nat.zero_le _,rfl,Bw,Bz,S2⟩
  case round =>
   obtain⟨i,hi,rfl,HQ,Ej,SR⟩:=hrel;obtain⟨wo,rfl⟩:∃ wo:World,wo=wr:=⟨_,rfl⟩
   by_cases Aj:i<p
   ·obtain⟨d,hd⟩:∃ d,L[i]?=some d:=⟨_,Ac (by rw[K7.out];exact Aj)⟩
    have e0:wo.cell? ⟨b,o+i,none⟩=some (.int .u32 (d:Int)):=(Ej.out.cell (p:=⟨b,o+i,none⟩) (show b<B+1 by omega)).trans (Hl.out i d hd);have M2:=Tr.out d (List.mem_of_getElem? hd);obtain⟨j,hj⟩:=Ae (2*i)
    have ztc:(2:Int)*(i:Int)=(j:Int):=by omega
    have bP:j<m:=by have := HM.out;omega
    have qm1:j+1<m:=by have := HM.out;omega
    have zc7:IntKind.i64.wrap (j:Int)=j:=Su (by omega) (by omega);have zyf:IntKind.i64.wrap ((j:Int)+1)=(j:Int)+1:=Su (by omega) (by omega);obtain⟨x,hx⟩:=Ae (d%65536);obtain⟨y,hy⟩:=Ae (d/65536)
    have zkj:x<65536:=by omega
    have i6:y<65536:=by unfold Ag at M2;omega
    have qD:IntKind.u16.wrap (d:Int)=(x:Int):=by simp[IntKind.wrap,IntKind.bits,IntKind.signed];omega
    have qvq:(d:Int)/65536=(y:Int):=by omega
    have jK:IntKind.u16.wrap (y:Int)=(y:Int):=zqz i6;have Lv:=HQ.out.at (i:=j) (qcp (bZ L (2*i) bP));have Ge:=HQ.out.free j;have HD:=Aa hd;have HJ:=Aa hj;have HX:=Aa hx;have HY:=Aa hy;clear hd hj hx hy
    go_upto_region 9 with fail
    obtain⟨Wx,tN⟩:∃ W,wo.setCell ⟨B+1,j,none⟩ (.int .u16 (x:Int))=W:=⟨_,rfl⟩;rw[tN]
    have qns:Blk wo (B+1) (Rk (unL m L j)) 132:=by have := HQ.out;rw[HJ.out]at this;exact this
    have Kc:j/2=i:=by have := HJ.out;omega
    have iS:Blk Wx (B+1) (Rk (unL m L (j+1))) 132:=by
     rw[<- tN,qwq L bP,if_pos (by have := HJ.out;omega),Kc,HD.out,Option.getD_some,HX.out,<- qtn];exact qns.set _
    have Bg:Below (B+1) W1 Wx:=by rw[<- tN];exact Ej.out.setCell (p:=⟨B+1,j,none⟩) (Ab _) _
    have O3:Wx.heap.size=B+2:=by rw[<- tN];simp[World.setCell];exact SR.out
    have Dz:=iS.at (i:=j+1) (qcp (bZ L (j+1) qm1));have Cw:=iS.free (j+1)
    have qm5:Blk (Wx.setCell ⟨B+1,j+1,none⟩ (.int .u16 (y:Int))) (B+1) (Rk (unL m L (2*(i+1)))) 132:=by
     rw[show 2*(i+1)=j+1+1 by have := HJ.out;omega,qwq L qm1,if_neg (by have := HJ.out;omega),show(j+1)/2=i by have := HJ.out;omega,HD.out,Option.getD_some,HY.out,<- qtn];exact iS.set _
    have zdt:=Aa qm5;have wP:=Aa (Bg.setCell (p:=⟨B+1,j+1,none⟩) (Ab _) (.int .u16 (y:Int)));have qcj:Hid ((Wx.setCell ⟨B+1,j+1,none⟩ (.int .u16 (y:Int))).heap.size=B+2):=Aa (by simp[World.setCell];exact O3);clear tN iS Bg O3 qm5 Lv Ge e0 qns Kc;go_wp2_with fail
    exact⟨⟨i+1,by omega,by go_num,zdt,wP,qcj⟩,by simp[intOf];omega⟩
   ·obtain rfl:p=i:=by omega
    have qjo:Blk wo (B+1) (Rk (unL m L m)) 132:=by have := HQ.out;rw[HM.out]at this;exact this
    have Hg:As (unL m L m)=N:=by
     have := qwn L Tr.out;rw[K7.out,HM.out]at this;rw[this];exact Xi.out
    have Sy:∀ d∈unL m L m,d<65536:=fun d hd=>by
     obtain⟨j,_,rfl⟩:=List.mem_map.1 hd;unfold unW
     split
     ·split
      ·omega
      ·have:L[j/2]?.getD 0<Ag:=by
        cases h:L[j/2]? with
        | none=>simp
        | some d=>exact Tr.out d (List.mem_of_getElem? h)
       unfold Ag at this;omega
     ·omega
    obtain⟨q,hq⟩:∃ q,p=q+1:=⟨p-1,by omega⟩;obtain⟨d,hd⟩:∃ d,L[q]?=some d:=⟨_,Ac (by rw[K7.out];omega)⟩
    have Gp:d≠0:=by
     rcases Vo.out with h | h
     ·rw[h]at hd;cases hd
     ·rw[List.getLast?_eq_getElem?,K7.out,hq,Nat.add_sub_cancel,hd,Option.getD_some]at h
      exact h
    have M2:=Tr.out d (List.mem_of_getElem? hd)
    have Wg:m=2*q+1+1:=by have := HM.out;omega
    have aM:(unL m L m)[2*q+1]?=some (d/65536):=by
     rw[bZ _ _ (by omega)];unfold unW;rw[if_pos (by omega),if_neg (by omega),show(2*q+1)/2=q by omega,hd];rfl
    have vQ:(unL m L m)[2*q]?=some (d%65536):=by
     rw[bZ _ _ (by omega)];unfold unW;rw[if_pos (by omega),if_pos (by omega),show 2*q/2=q by omega,hd];rfl
    have mL:decide (0<N)=true:=by
     have h1:=vM (b:=Ag) (by decide) Vo.out
     have h2:L≠[]:=fun e=>by rw[e]at hd;cases hd
     have h3:bv Ag L≠0:=fun e=>h2 (h1.1 e)
     rw[Xi.out]at h3;exact decide_eq_true (by omega)
    have Oj:g=gz:=by rw[<- rQ.out,mL,Bool.and_true]
    subst Oj;obtain⟨y,hy⟩:=Ae (d/65536)
    have e0:wo.cell? ⟨B+1,2*q+1,none⟩=some (.int .u16 (y:Int)):=by rw[<- hy];exact qjo.at (qcp aM)
    have oH:=(Bc.out.below Ej.out (by omega)).below (Below.refl (B+1) wo) (by omega);have Zb:=Aa qjo;have E8:=Aa oH;have Nl:=Aa Hg;have jB:=Aa Sy;have HY:=Aa hy;have sR:=Aa aM;have zhe:=Aa vQ;have aA:=Aa Gp
    have D7:(m:Int)-1=((2*q+1:Nat):Int):=by omega
    have qch:m<=2^38:=by omega
    clear qjo oH Hg Sy aM vQ Gp hd hy mL hi Aj;obtain⟨j,hj⟩:=Ae (2*q+1);rw[hj]at D7 e0 Wg
    have bP:j<m:=by omega
    have HJ:=Aa hj;have qq7:=Aa Wg;clear hj Wg hq
    by_cases Vt:y=0
    ·have zez:((y:Int)==0)=true:=by simp;omega
     have Bd:∀ u∈(#[.bool g,.slice (some ⟨B+1,0,none⟩) j m]:Array Value),u.oneCell'=true:=by simp[Value.oneCell']
     have Df:=Aa Bd;have cB:=Aa Vt;clear Bd Vt;go_wp2_with (refine Gu rfl 37 37 (.tmp 4) (.tmp 54) rfl #[.bool g,.slice (some ⟨B+1,0,none⟩) j m] _ B E8.out jZ rfl Df.out rfl rfl ?_;intro W9 t1 t2 t3 t4)
     refine bodyPost_ret (Pk rfl _ _ B _ _ t1 rfl Tryz.underlying37 rfl jZ) rfl ?_;have xW:=t4;rw[SR.out]at xW;have Po:Blk W9 (B+1) (Rk (unL m L m)) 132:=Zb.out.kept t3 (by simp)
     have Ea:(unL m L m).take j=(unL m L m).take (2*q)++[d%65536]:=by
      rw[<- HJ.out,List.take_add_one,zhe.out];rfl
     refine⟨_,rfl,⟨(unL m L m).take j,qyn Po (by omega) (by rw[Q9];omega) (by omega) (by unfold maxLen;omega) jB.out,?_,?_⟩,Bi.out.trans ((Ej.out.mono (by omega)).trans (t2 B (Ab _))),Bj.at (by omega)⟩
     ·right
      rw[Ea,List.getLast?_append,List.getLast?_singleton];have h1:=aA.out;have h2:=HY.out;have h3:=cB.out
      show d%65536≠0
      omega
     ·have h1:=Nl.out
      have h2:unL m L m=(unL m L m).take j++[y]:=by
       have h3:=List.take_append_drop j (unL m L m)
       have h4:(unL m L m).drop j=[y]:=by
        have h5:(unL m L m)[j]?=some y:=by rw[<- HJ.out,<- HY.out];exact sR.out
        obtain⟨h6,h7⟩:=List.getElem?_eq_some_iff.1 h5;rw[List.drop_eq_getElem_cons h6,h7,List.drop_of_length_le (by rw[Q9];have := qq7.out;omega)]
       rw[<- h4,h3]
      rw[h2,qnv,cB.out]at h1
      simpa [As] using h1
    ·have zez:((y:Int)==0)=false:=by simp;omega
     have Bd:∀ u∈(#[.bool g,.slice (some ⟨B+1,0,none⟩) m m]:Array Value),u.oneCell'=true:=by simp[Value.oneCell']
     have Df:=Aa Bd;have cB:=Aa Vt;clear Bd Vt;go_wp2_with (refine Gu rfl 37 37 (.tmp 4) (.tmp 54) rfl #[.bool g,.slice (some ⟨B+1,0,none⟩) m m] _ B E8.out jZ rfl Df.out rfl rfl ?_;intro W9 t1 t2 t3 t4)
     refine bodyPost_ret (Pk rfl _ _ B _ _ t1 rfl Tryz.underlying37 rfl jZ) rfl ?_;have xW:=t4;rw[SR.out]at xW;have Po:Blk W9 (B+1) (Rk (unL m L m)) 132:=Zb.out.kept t3 (by simp);have Ea:(unL m L m).take m=unL m L m:=List.take_of_length_le (by rw[Q9];exact Ab _);have Jw:=qyn (K:=W9.heap.size) (k:=m) (c:=m) Po (by omega) (by rw[Q9];exact Ab _) (Ab _) (by unfold maxLen;omega) jB.out;rw[Ea]at Jw;refine⟨_,rfl,⟨unL m L m,Jw,?_,Nl.out⟩,Bi.out.trans ((Ej.out.mono (by omega)).trans (t2 B (Ab _))),Bj.at (by omega)⟩;right;have h5:=sR.out;have h6:=HJ.out;have h7:=qq7.out;rw[List.getLast?_eq_getElem?,Q9,show m-1=2*q+1 by omega,h5,Option.getD_some,HY.out];exact cB.out
end Go.Proofs.YtlldjmagbjjeoaaGreatDoor
