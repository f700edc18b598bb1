/- Contracts and plain laws, several texts in one (ORC, GFr3, NWord, NW1, GCond, GTime). No conditions beyond those stated. -/
import Derived.Test.YtlldjmagbjjeoaaGreatDoorPk2
set_option maxRecDepth 100000
set_option maxHeartbeats 40000000
namespace Go.Proofs.YtlldjmagbjjeoaaGreatDoor
open Go.RowKit
set_option linter.unusedVariables false
section
variable {P:Program} {ops:Array Oper} {Q:Exit->Act->World->Prop} {md:Region.Mode} {S:World->Prop} {D:List Nat}
theorem zi0 {C:List Nat} (qmd:∀ j∈D,j∈C) {i:Nat} {oi:Oper} {v:Value} (hi:ops[i]?=some oi) (cJ:∀ (j:Nat) (o:Oper) cs b,ops[j]?=some o->o.op≠.select cs b)
  (hQ:∀ c a w,Q (.panic c) (a.put oi.dst v) w->Q (.panic c) a w)
  (hD:∀ j oj,ops[j]?=some oj->j∈C->∃ e∈oj.after,Region.binds md e=true/\(e.on=i\/e.on∈C)) :
  ∀ (fuel:Nat) (listed:Array Bool) (a:Act) (w:World),
   (∀ j oj,ops[j]?=some oj->j≠i->listed.getD j true=false->(∀ e∈oj.after,Region.binds md e=true->e.on≠i)->oi.apart ops oj=true) →
   (∀ j∈C,listed.getD j false=false) →
   i∈Region.ready md ops listed->YieldsIf P ops S oi v a->S w →
   By P md ops Q S D fuel (listed.setIfInBounds i true) (a.put oi.dst v) w->By P md ops Q S D (fuel+1) listed a w:=by
 intro fuel
 induction fuel with
 | zero =>
  intro listed a w _ _ hr hy hS H
  refine⟨fun h=>(by rw[h]at hr;cases hr),fun j hj=>?_⟩
  by_cases Kc:j=i
  ·subst Kc;exact hy.wpOp hi hS ⟨fun _=>hS,H⟩
  ·have := ready_mono hj Kc
   rw[H.1]at this;cases this
 | succ fuel ih =>
  intro listed a w bX N2 hr hy hS H
  refine⟨fun h=>(by rw[h]at hr;cases hr),fun j hj=>?_⟩
  by_cases Kc:j=i
  ·subst Kc;exact hy.wpOp hi hS ⟨fun _=>hS,H⟩
  ·have h1:=H.2 j (ready_mono hj Kc)
   obtain⟨aZ,oj,Pw,Ht⟩:=mem_ready.1 hj
   have rU:∀ k,listed.getD k false=true->listed.getD k true=true:=fun k hk=>by
    rcases Nat.lt_or_ge k listed.size with h' | h'
    ·simpa [h'] using hk
    ·simp[Array.getElem?_eq_none h']
   have S0:∀ e∈oj.after,Region.binds md e=true->e.on≠i:=fun e he hb A2=>by
    have h1:=Ht e he hb;have h0:=(mem_ready.1 hr).1;rw[A2]at h1;have := rU _ h1;rw[h0]at this;cases this
   have qqc:j ∉ C:=fun Wy=>by
    obtain⟨e,he,hb,h⟩:=hD j oj Pw Wy
    rcases h with h | h
    ·exact S0 e he hb h
    ·have h1:=Ht e he hb
     rw[N2 _ h]at h1;cases h1
   have h2:=wpOp_putIf Pw (bX j oj Pw Kc aZ S0) (fun cs b=>cJ i oi cs b hi) (fun cs b=>cJ j oj cs b Pw) hQ hy h1
   have uB:∀ k ok,ops[k]?=some ok->k≠i->(listed.setIfInBounds j true).getD k true=false →
     (∀ e∈ok.after,Region.binds md e=true->e.on≠i)->oi.apart ops ok=true:=fun k ok hk Mp Sy Eg=>by
    refine bX k ok hk Mp ?_ Eg
    by_cases Sb:j=k
    ·subst Sb;exact aZ
    ·rw[getD_set_ne true Sb]at Sy;exact Sy
   have Wy:j ∉ D:=fun h=>qqc (qmd j h)
   have qjy:∀ k∈C,(listed.setIfInBounds j true).getD k false=false:=fun k hk=>by
    have At:j≠k:=fun e=>qqc (e ▸ hk)
    have := N2 k hk;rw[Array.getD_eq_getD_getElem?]at this ⊢;rw[Array.getElem?_setIfInBounds_ne At];exact this
   refine wpOp_mono (fun a' w' h3=>⟨fun _=>h3.2.1 Wy,ih (listed.setIfInBounds j true) a' w' uB qjy (ready_mono hr (Ne.symm Kc)) h3.1 (h3.2.1 Wy) ?_⟩) h2;rw[Array.setIfInBounds_comm _ _ Kc];exact h3.2.2
theorem Nu (C:List Nat) {i:Nat} {oi:Oper} {v:Value} {fuel:Nat} {listed:Array Bool} {a:Act} {w:World} (hi:ops[i]?=some oi)
  (hs:Region.noSelect ops=true) (hf:Region.free md ops listed i=true) (hr:(Region.ready md ops listed).contains i=true) (hm:R4 md ops C i=true) (ho:V7 C listed=true) (qmd:(D.all fun j=>C.contains j)=true)
  (hQ:∀ c a w,Q (.panic c) (a.put oi.dst v) w->Q (.panic c) a w) (hy:YieldsIf P ops S oi v a) (hS:S w)
  (h:By P md ops Q S D fuel (listed.setIfInBounds i true) (a.put oi.dst v) w):By P md ops Q S D (fuel+1) listed a w:=by
 refine zi0 (C:=C) (fun j hj=>by simpa using List.all_eq_true.1 qmd j hj) hi (Region.noSelect_spec hs) hQ ?_ fuel listed a w (Region.free_spec hi hf) ?_ (by simpa using hr) hy hS h
 ·intro j oj Pw Wy
  unfold R4 at hm;rw[List.all_eq_true]at hm;have := hm j Wy;simp only[Pw,Array.any_eq_true']at this;obtain⟨e,he,hb⟩:=this;simp only[Bool.and_eq_true,Bool.or_eq_true,beq_iff_eq,List.contains_iff_mem]at hb;exact⟨e,he,hb.1,hb.2⟩
 ·intro j hj
  unfold V7 at ho;rw[List.all_eq_true]at ho
  simpa using ho j hj
theorem mP {i j:Nat} {o o':Oper} {fuel:Nat} {listed:Array Bool} {a:Act} {w:World} (hr:Region.ready md ops listed=[i,j]) (ho:ops[i]?=some o) (G6:ops[j]?=some o')
  (hw:Region.wanted o (yielded ops a.tmps)=true) (zwi:Region.wanted o' (yielded ops a.tmps)=true)
  (h:o.wp P a w (fun a' w'=>(i ∉ D->S w')/\By P md ops Q S D fuel (listed.setIfInBounds i true) a' w') Q)
  (h':o'.wp P a w (fun a' w'=>(j ∉ D->S w')/\By P md ops Q S D fuel (listed.setIfInBounds j true) a' w') Q):By P md ops Q S D (fuel+1) listed a w :=
 ⟨fun h0=>by rw[hr]at h0;simp at h0,fun k hk=>by
  rw[hr]at hk;simp only[List.mem_cons,List.not_mem_nil,or_false]at hk
  rcases hk with rfl | rfl
  ·exact qbc ho hw h
  ·exact qbc G6 zwi h'⟩
end
theorem zgh (w:World) (c0 c1 c2 c3 c4:Array Value) (t0 t1 t2 t3 t4:TypeId) {W:World} (h:((((w.alloc (.cells c0 t0)).alloc (.cells c1 t1)).alloc (.cells c2 t2)).alloc (.cells c3 t3)).alloc (.cells c4 t4)=W) :
  Below w.heap.size w W/\Blk W w.heap.size c0 t0/\Blk W (w.heap.size+1) c1 t1/\Blk W (w.heap.size+2) c2 t2/\Blk W (w.heap.size+3) c3 t3/\Blk W (w.heap.size+4) c4 t4/\W.heap.size=w.heap.size+5:=by
 obtain⟨h1,h2,h3,h4,h5,h6⟩:=eG w c0 c1 c2 c3 t0 t1 t2 t3 rfl;subst h;have q4:=Blk.new ((((w.alloc (.cells c0 t0)).alloc (.cells c1 t1)).alloc (.cells c2 t2)).alloc (.cells c3 t3)) c4 t4;rw[h6]at q4;exact⟨h1.alloc (by omega) _,h2.alloc _,h3.alloc _,h4.alloc _,h5.alloc _,q4,by rw[World.size_alloc,h6]⟩
theorem Wd.set2 {q:IntKind} {K r L:Nat} {w:World} {v x y:Value} {n:Nat} (h:Wd q K w v n) (hn:Bj L v) (hr:r<L):Wd q K ((w.setCell ⟨r,0,none⟩ x).setCell ⟨r,1,none⟩ y) v n:=(h.set hn hr).set hn hr
theorem zty {B:Nat} {w w':World} (h:Below B w w') {r:Nat} (hr:B<=r) (x y:Value):Below B w ((w'.setCell ⟨r,0,none⟩ x).setCell ⟨r,1,none⟩ y):=(h.setCell (p:=⟨r,0,none⟩) hr x).setCell (p:=⟨r,1,none⟩) hr y
def bv (b:Nat):List Nat->Nat
 | []=>0
 | x::r=>x+b*bv b r
section
variable {b:Nat}
theorem qjd:∀ (l r:List Nat),bv b (l++r)=bv b l+b^l.length*bv b r
 | [],r=>by simp[bv]
 | x::l,r=>by
  rw[List.cons_append,bv,bv,qjd l r,List.length_cons,Nat.pow_succ,Nat.mul_add,Nat.mul_comm (b^l.length) b,Nat.mul_assoc];omega
theorem A5 (l:List Nat) (x:Nat):bv b (l++[x])=bv b l+b^l.length*x:=by rw[qjd];simp[bv]
theorem Nd:∀ (l:List Nat),(∀ x∈l,x<b)->bv b l<b^l.length
 | [],_=>by simp[bv]
 | x::l,h=>by
  have h1:=Nd l fun y hy=>h y (List.mem_cons_of_mem _ hy)
  have h2:=h x (List.mem_cons_self ..);rw[bv,List.length_cons,Nat.pow_succ,Nat.mul_comm _ b];have h3:b*(bv b l+1)<=b*b^l.length:=Nat.mul_le_mul_left _ h1;rw[Nat.mul_add,Nat.mul_one]at h3;omega
theorem Vd {l:List Nat} {i x:Nat} (h:l[i]?=some x):bv b (l.take (i+1))=bv b (l.take i)+b^i*x:=by
 have hi:=(List.getElem?_eq_some_iff.1 h).1
 have:l.take (i+1)=l.take i++[x]:=by rw[List.take_add_one,h];rfl
 rw[this,A5,List.length_take,Nat.min_eq_left (by omega)]
theorem qmf {l:List Nat} {i x:Nat} (h:l[i]?=some x):bv b (l.drop i)=x+b*bv b (l.drop (i+1)):=by
 obtain⟨hi,rfl⟩:=List.getElem?_eq_some_iff.1 h;rw[List.drop_eq_getElem_cons hi,bv]
theorem qjs (l:List Nat) (i:Nat) (hi:i<=l.length):bv b l=bv b (l.take i)+b^i*bv b (l.drop i):=by
 have := qjd (b:=b) (l.take i) (l.drop i);rw[List.take_append_drop,List.length_take,Nat.min_eq_left hi]at this;exact this
theorem vY:∀ n:Nat,bv b (List.replicate n 0)=0
 | 0=>rfl
 | n+1=>by rw[List.replicate_succ,bv,vY n];simp
theorem zY {l:List Nat} {i x y:Nat} (h:l[i]?=some x):bv b (l.set i y)+b^i*x=bv b l+b^i*y:=by
 induction l generalizing i with
 | nil=>cases h
 | cons a l ih =>
  cases i with
  | zero =>
   cases h
   simp[bv];omega
  | succ i =>
   have := ih (i:=i) h;rw[List.set_cons_succ,bv,bv,Nat.pow_succ]
   have h2:b*(bv b (l.set i y)+b^i*x)=b*(bv b l+b^i*y):=by rw[this]
   rw[Nat.mul_add,Nat.mul_add,<- Nat.mul_assoc,<- Nat.mul_assoc,Nat.mul_comm b (b^i)]at h2;omega
def Hr (l:List Nat):Prop:=l=[]\/l.getLast?.getD 0≠0
theorem kF {l:List Nat} (h:Hr l) (h0:l≠[]):b^(l.length-1)<=bv b l:=by
 obtain⟨r,x,rfl⟩:∃ r x,l=r++[x]:=⟨l.dropLast,l.getLast h0,(List.dropLast_concat_getLast h0).symm⟩
 have hx:x≠0:=by
  rcases h with h | h
  ·exact absurd h h0
  ·simpa using h
 rw[A5,List.length_append];simp only[List.length_cons,List.length_nil,Nat.zero_add,Nat.add_sub_cancel]
 have:b^r.length*1<=b^r.length*x:=Nat.mul_le_mul_left _ (by omega)
 omega
theorem oN {l r:List Nat} (hb:1<b) (hl:∀ x∈l,x<b) (hr:Hr r) (h:l.length<r.length):bv b l<bv b r:=by
 have h1:=Nd l hl;have h2:=kF (b:=b) hr (by intro e;rw[e]at h;simp at h);have h3:b^l.length<=b^(r.length-1):=Nat.pow_le_pow_right (by omega) (by omega);omega
theorem qrq {l r:List Nat} (hl:∀ x∈l,x<b) (Cc:l.length=r.length) {i x y:Nat} (hx:l[i]?=some x) (hy:r[i]?=some y) (Aj:x<y) (hs:l.drop (i+1)=r.drop (i+1)):bv b l<bv b r:=by
 have hi:=(List.getElem?_eq_some_iff.1 hx).1;rw[qjs l i (by omega),qjs r i (by omega),qmf hx,qmf hy,hs]
 have h1:bv b (l.take i)<b^i:=by
  have := Nd (l.take i) fun x hx=>hl x (List.mem_of_mem_take hx)
  rwa[List.length_take,Nat.min_eq_left (by omega)]at this
 have h2:b^i*(x+b*bv b (r.drop (i+1))+1)<=b^i*(y+b*bv b (r.drop (i+1))):=Nat.mul_le_mul_left _ (by omega);rw[Nat.mul_add,Nat.mul_one]at h2;omega
theorem zas:∀ {l r:List Nat},(∀ x∈l,x<b)->(∀ x∈r,x<b)->l.length=r.length->bv b l=bv b r->l=r
 | [],[],_,_,_,_=>rfl
 | [],_::_,_,_,h,_=>by cases h
 | _::_,[],_,_,h,_=>by cases h
 | x::l,y::r,hl,hr,Cc,h=>by
  have h1:=hl x (List.mem_cons_self ..);have h2:=hr y (List.mem_cons_self ..);rw[bv,bv]at h
  have e1:(x+b*bv b l)%b=x:=by rw[Nat.add_mul_mod_self_left,Nat.mod_eq_of_lt h1]
  have e2:(y+b*bv b r)%b=y:=by rw[Nat.add_mul_mod_self_left,Nat.mod_eq_of_lt h2]
  have e:x=y:=by rw[<- e1,<- e2,h]
  subst e
  have e3:bv b l=bv b r:=by
   have:b*bv b l=b*bv b r:=by omega
   exact Nat.eq_of_mul_eq_mul_left (by omega) this
  rw[zas (fun z hz=>hl z (List.mem_cons_of_mem _ hz)) (fun z hz=>hr z (List.mem_cons_of_mem _ hz)) (by simpa using Cc) e3]
theorem zj8 {l r:List Nat} (hb:1<b) (hl:∀ x∈l,x<b) (hr:∀ x∈r,x<b) (tl:Hr l) (tr:Hr r) (h:bv b l=bv b r):l=r:=by
 refine zas hl hr ?_ h
 rcases Nat.lt_trichotomy l.length r.length with h1 | h1 | h1
 ·have := oN hb hl tr h1;omega
 ·exact h1
 ·have := oN hb hr tl h1;omega
theorem vM {l:List Nat} (hb:1<b) (tl:Hr l):bv b l=0 ↔ l=[]:=by
 constructor
 ·intro h
  by_cases h0:l=[]
  ·exact h0
  ·have := kF (b:=b) tl h0
   have h2:0<b^(l.length-1):=Nat.pow_pos (by omega);omega
 ·rintro rfl;rfl
theorem qsq {l:List Nat} {c A B x y s i:Nat} (hi:l.length=i) (h:bv b l+b^i*c=A+B) (hs:s=x+y+c):bv b (l++[s%b])+b^(i+1)*(s/b)=(A+b^i*x)+(B+b^i*y):=by
 rw[A5,hi,Nat.pow_succ,Nat.mul_assoc]
 have h1:b^i*(s%b)+b^i*(b*(s/b))=b^i*s:=by rw[<- Nat.mul_add,Nat.mod_add_div]
 have h2:b^i*s=b^i*x+b^i*y+b^i*c:=by rw[hs,Nat.mul_add,Nat.mul_add]
 omega
theorem qob {l:List Nat} {c c' A B x y d i:Nat} (hi:l.length=i) (h:bv b l+B=A+b^i*c) (hd:d+y+c=x+b*c'):bv b (l++[d])+(B+b^i*y)=(A+b^i*x)+b^(i+1)*c':=by
 rw[A5,hi,Nat.pow_succ,Nat.mul_assoc]
 have h1:b^i*(d+y+c)=b^i*(x+b*c'):=by rw[hd]
 rw[Nat.mul_add,Nat.mul_add,Nat.mul_add]at h1;omega
theorem zia {W:List Nat} {k old x y c s T:Nat} (hw:W[k]?=some old) (h:bv b W+b^k*c=T) (hs:s=x*y+old+c):bv b (W.set k (s%b))+b^(k+1)*(s/b)=T+b^k*(x*y):=by
 have h1:=zY (b:=b) (y:=s%b) hw;rw[Nat.pow_succ,Nat.mul_assoc]
 have h2:b^k*(s%b)+b^k*(b*(s/b))=b^k*s:=by rw[<- Nat.mul_add,Nat.mod_add_div]
 have h3:b^k*s=b^k*(x*y)+b^k*old+b^k*c:=by rw[hs,Nat.mul_add,Nat.mul_add]
 omega
theorem zmd {a q:List Nat} {i x d r:Nat} (hx:a[i]?=some x) (h:bv b (a.drop (i+1))=bv b q*d+r):bv b (a.drop i)=bv b ((r*b+x)/d::q)*d+(r*b+x)%d:=by
 rw[qmf hx,h,bv,Nat.add_mul];have h1:d*((r*b+x)/d)+(r*b+x)%d=r*b+x:=Nat.div_add_mod _ _
 have h2:b*(bv b q*d+r)=b*bv b q*d+r*b:=by rw[Nat.mul_add,Nat.mul_assoc,Nat.mul_comm b r]
 rw[h2,Nat.mul_comm ((r*b+x)/d) d];omega
end
theorem zqz {x:Nat} (h:x<65536):IntKind.u16.wrap (x:Int)=x:=by simp[IntKind.wrap,IntKind.bits,IntKind.signed];omega
theorem Ze {x:Nat} (h:x<4294967296):IntKind.u32.wrap (x:Int)=x:=by simp[IntKind.wrap,IntKind.bits,IntKind.signed];omega
theorem Cg {x:Nat} (h:x<18446744073709551616):IntKind.u64.wrap (x:Int)=x:=by simp[IntKind.wrap,IntKind.bits,IntKind.signed];omega
theorem Su {x:Int} (h : -9223372036854775808<=x) (h2:x<9223372036854775808):IntKind.i64.wrap x=x:=by simp[IntKind.wrap,IntKind.bits,IntKind.signed];split<;>omega
abbrev Ag:Nat:=4294967296
structure Ws (K:Nat) (w:World) (v:Value) (l:List Nat):Prop where
 row:Au 1 (fun i _=>.int .u32 ((l[i]?.getD 0:Nat):Int)) K w v l.length
 lt:∀ d∈l,d<Ag
theorem Ws.below {K K' B:Nat} {w w':World} {v:Value} {l:List Nat} (h:Ws K w v l) (hb:Below B w w') (hB:K<=B) (hK:K<=K'):Ws K' w' v l:=⟨h.row.below hb hB hK,h.lt⟩
theorem Ws.form {K:Nat} {w:World} {v:Value} {l:List Nat} (h:Ws K w v l):∃ a cap,v=.slice a l.length cap/\l.length<=cap/\cap<=maxLen:=h.row.form
theorem Ws.at {K:Nat} {w:World} {v:Value} {l:List Nat} (h:Ws K w v l) (hl:0<l.length):∃ b o cap,v=.slice (some ⟨b,o,none⟩) l.length cap/\l.length<=cap/\cap<=maxLen/\b<K/\∀ i d:Nat,l[i]?=some d->w.cell? ⟨b,o+i,none⟩=some (.int .u32 (d:Int)):=by
 obtain⟨b,o,cap,h1,h2,h3,h4,h5⟩:=h.row.pos hl;refine⟨b,o,cap,h1,h2,h3,h4,fun i d hd=>?_⟩;have hi:=(List.getElem?_eq_some_iff.1 hd).1;have := h5 i hi 0 (by omega);rw[hd,Option.getD_some]at this
 simpa using this
theorem Ws.mk' {K b o cap:Nat} {w:World} {l:List Nat} (hl:l.length<=cap) (hm:cap<=maxLen) (hb:b<K) (hc:∀ i d:Nat,l[i]?=some d->w.cell? ⟨b,o+i,none⟩=some (.int .u32 (d:Int))) (Aj:∀ d∈l,d<Ag):Ws K w (.slice (some ⟨b,o,none⟩) l.length cap) l:=by
 refine⟨Au.mk_cells hl hm hb fun i hi j hj=>?_,Aj⟩
 obtain rfl:j=0:=by omega
 have hd:=Ac hi;rw[hd,Option.getD_some,Nat.mul_one,Nat.add_zero];exact hc i _ hd
theorem Ws.nil (K:Nat) (w:World) (a:Option Addr) (cap:Nat) (hm:cap<=maxLen) (hz:a=none->cap=0):Ws K w (.slice a 0 cap) []:=⟨Au.nil a cap hm hz,fun d h=>by cases h⟩
theorem Ws.take {K n c:Nat} {w:World} {a:Option Addr} {l:List Nat} (h:Ws K w (.slice a n c) l) {k:Nat} (hk:k<=l.length):Ws K w (.slice a k c) (l.take k):=by
 obtain⟨a',cap,he,h1,h2,h3,h4⟩:=h.row;simp only[Value.slice.injEq]at he;obtain⟨rfl,rfl,rfl⟩:=he
 have hl:(l.take k).length=k:=by rw[List.length_take];omega
 refine⟨⟨a,c,by rw[hl],by rw[hl];omega,h2,h3,fun i hi=>?_⟩,fun d hd=>h.lt d (List.mem_of_mem_take hd)⟩;rw[hl]at hi;obtain⟨b,o,e1,e2,e3⟩:=h4 i (by omega);refine⟨b,o,e1,e2,fun j hj=>?_⟩;rw[e3 j hj]
 show _=some (Value.int .u32 (((l.take k)[i]?.getD 0:Nat):Int))
 rw[List.getElem?_take_of_lt hi]
def Bn (K:Nat) (w:World) (v:Value) (n:Nat):Prop:=∃ l,Ws K w v l/\Hr l/\bv Ag l=n
theorem Bn.below {K K' B:Nat} {w w':World} {v:Value} {n:Nat} (h:Bn K w v n) (hb:Below B w w') (hB:K<=B) (hK:K<=K'):Bn K' w' v n:=by
 obtain⟨l,h1,h2⟩:=h;exact⟨l,h1.below hb hB hK,h2⟩
theorem Hr.nil:Hr []:=.inl rfl
theorem zgb {l:List Nat} {k d:Nat} (hd:l[k]?=some d) (h0:d≠0):Hr (l.take (k+1)):=by
 right;rw[List.take_add_one,hd]
 simpa using h0
def qo6:Value->Nat
 | .slice _ n _=>n
 | _=>0
theorem zaj (K:Nat) (a:Option Addr) (n c:Nat) (l:List Nat) (w:World) (h:Ws K w (.slice a n c) l) :
  Calls Tryz.prog 142 #[.slice a n c] w fun e w'=>∃ k,k<=l.length/\e=.returned (.slice a k c)/\Hr (l.take k)/\bv Ag (l.take k)=bv Ag l/\w=w':=by
 obtain⟨_,_,he,Ro,Fl⟩:=h.form;simp only[Value.slice.injEq]at he;obtain⟨ha,hn,rfl⟩:=he;subst hn;clear ha;unfold maxLen at Fl;obtain⟨n,hn⟩:=Ae l.length;rw[hn]at Ro h ⊢;have HN:=Aa hn;have HW:=Aa h;clear h hn;go_enter Tryz.func142,Tryz.ntmps142
 go_wp2_with fail
 go_loop [0] (fun v=>∃ k,k<=n/\v=.slice a k c/\Hid (bv Ag (l.take k)=bv Ag l)) (fun v=>qo6 v)
 case atStart=>exact⟨n,Ab _,rfl,Aa (by rw[List.take_of_length_le (by rw[HN.out];exact Ab _)])⟩
 case round =>
  obtain⟨k,hk,rfl,HV⟩:=hrel
  cases k with
  | zero =>
   go_wp2_with fail
   go_ret
   exact⟨0,Nat.zero_le _,rfl,Hr.nil,HV.out,rfl⟩
  | succ k =>
   have xL:0<l.length:=by rw[HN.out];omega
   have Gs:=HW.out;rw[<- HN.out]at Gs;obtain⟨b,o,cap,he,_,_,_,Ba⟩:=Gs.at xL;simp only[Value.slice.injEq,true_and]at he;obtain⟨rfl,rfl⟩:=he;obtain⟨d,hd⟩:∃ d,l[k]?=some d:=⟨_,Ac (by rw[HN.out];omega)⟩;have e0:=Ba k d hd;have HD:=Aa hd;clear Ba hd Gs xL
   by_cases h0:d=0
   ·subst h0
    have Yb:Hid (bv Ag (l.take k)=bv Ag l):=Aa (by have := HV.out;rw[Vd HD.out]at this;omega);go_wp2_with fail
    go_round
    case rel=>exact⟨k,by omega,rfl,Yb⟩
    case measure=>simp[qo6]
   ·have hx:((d:Int)==0)=false:=by simp;omega
    go_wp2_with fail
    go_ret
    exact⟨k+1,hk,rfl,zgb HD.out h0,HV.out,rfl⟩
theorem Yr (K:Nat) (v:Value) (l:List Nat) (w:World) (h:Ws K w v l):Calls Tryz.prog 142 #[v] w fun e w'=>∃ a n c k,v=.slice a n c/\e=.returned (.slice a k c)/\Bn K w' (.slice a k c) (bv Ag l)/\w=w':=by
 obtain⟨a,c,rfl,_⟩:=h.form;refine(zaj K a _ c l w h).mono ?_;rintro e w' ⟨k,hk,rfl,ht,hv,rfl⟩;exact⟨a,_,c,k,rfl,rfl,⟨_,h.take hk,ht,hv⟩,rfl⟩
theorem qm2 {w wr:World} {k:Nat} (h:wr=w.drewN k) (a b:Nat):∃ k,(wr.drewN a).drewN b=w.drewN k:=⟨k+(a+b),by rw[h,Xc,Xc]⟩
def My (m n:Nat):Int:=if m<n then -1 else if n<m then 1 else 0
theorem qjx {m n:Nat} (h:m<n):My m n = -1:=if_pos h
theorem qoj {m n:Nat} (h:n<m):My m n=1:=by unfold My;rw[if_neg (by omega),if_pos h]
theorem znh (m:Nat):My m m=0:=by unfold My;rw[if_neg (by omega),if_neg (by omega)]
theorem uG (K:Nat) (u v:Value) (m n:Nat) (w:World) (hu:Bn K w u m) (hv:Bn K w v n):Calls Tryz.prog 122 #[u,v] w fun e w'=>e=.returned (.int .i64 (My m n))/\∃ k,w'=w.drewN k:=by
 obtain⟨l,hl,tl,rfl⟩:=hu;obtain⟨r,hr,tr,rfl⟩:=hv;obtain⟨ua,uc,rfl,Ew,Ha⟩:=hl.form;obtain⟨va,vc,rfl,Bu,Bs⟩:=hr.form;unfold maxLen at Ha Bs;obtain⟨x,hx⟩:=Ae (My (bv Ag l) (bv Ag r));rw[hx];obtain⟨p,hp⟩:=Ae l.length;obtain⟨q,hq⟩:=Ae r.length;rw[hp]at Ew ⊢;rw[hq]at Bu ⊢;have HX:=Aa hx;have HP:=Aa hp;have HQ:=Aa hq;have HL:=Aa hl;have HR:=Aa hr;have TL:=Aa tl;have TR:=Aa tr;clear hx hp hq hl hr tl tr
 by_cases Mx:p=q
 ·subst Mx
  have e1:((p:Int) != (p:Int))=false:=by simp
  go_enter Tryz.func122,Tryz.ntmps122
  go_wp2_with fail
  go_loopw [5] (fun iv wr=>∃ (i k:Nat),i<=p/\iv=.int .i64 ((i:Int)-1)/\Hid (l.drop i=r.drop i)/\Hid (wr=w.drewN k)) (fun iv _=>(intOf iv+1).toNat)
  case atStart=>exact⟨p,0,Ab _,rfl,Aa (by rw[List.drop_of_length_le (by rw[HP.out];exact Ab _),List.drop_of_length_le (by rw[HQ.out];exact Ab _)]),Aa rfl⟩
  case round =>
   obtain⟨i,k,hi,rfl,HD,HK⟩:=hrel
   cases i with
   | zero =>
    have F5:x=0:=by
     have := HD.out;rw[List.drop_zero,List.drop_zero]at this;rw[<- HX.out,this,znh]
    subst F5;go_wp2_with fail
    go_ret
    exact⟨rfl,k,HK.out⟩
   | succ i =>
    have dH:(((i+1:Nat):Int)-1)=(i:Int):=by omega
    rw[dH]
    have Q7:i<p:=by omega
    obtain⟨b,o,cap,he,_,_,_,Ba⟩:=HL.out.at (by rw[HP.out];omega);rw[HP.out]at he;simp only[Value.slice.injEq,true_and]at he;obtain⟨rfl,rfl⟩:=he;obtain⟨b2,o2,cap2,he,_,_,_,cX⟩:=HR.out.at (by rw[HQ.out];omega);rw[HQ.out]at he;simp only[Value.slice.injEq,true_and]at he;obtain⟨rfl,rfl⟩:=he;obtain⟨d,hd⟩:∃ d,l[i]?=some d:=⟨_,Ac (by rw[HP.out];omega)⟩;obtain⟨g,hg⟩:∃ g,r[i]?=some g:=⟨_,Ac (by rw[HQ.out];omega)⟩;have M3:=HK.out
    have e2:wr.cell? ⟨b,o+i,none⟩=some (.int .u32 (d:Int)):=by rw[M3];exact Ba i d hd
    have e3:wr.cell? ⟨b2,o2+i,none⟩=some (.int .u32 (g:Int)):=by rw[M3];exact cX i g hg
    have kD:=Aa hd;have Y1:=Aa hg;clear Ba cX hd hg dH M3
    by_cases Fo:d=g
    ·subst Fo
     have e4:((d:Int) != (d:Int))=false:=by simp
     have pD:Hid (l.drop i=r.drop i):=Aa (by
      obtain⟨h1,e1⟩:=List.getElem?_eq_some_iff.1 kD.out;obtain⟨h2,e2⟩:=List.getElem?_eq_some_iff.1 Y1.out
      rw[List.drop_eq_getElem_cons h1,List.drop_eq_getElem_cons h2,e1,e2,HD.out])
     go_upto_region 8 with fail
     go_quiet (fail)
     go_wp2_with fail
     exact⟨⟨i,_,by omega,rfl,pD,Aa (by rw[HK.out];exact Xc _ _ _)⟩,by simp[intOf]⟩
    ·have e4:((d:Int) != (g:Int))=true:=by simp;omega
     by_cases Aj:d<g
     ·have e5:decide ((d:Int)<(g:Int))=true:=by simp;omega
      have Ck:x = -1:=by
       rw[<- HX.out];exact qjx (qrq HL.out.lt (by rw[HP.out,HQ.out]) kD.out Y1.out Aj HD.out)
      subst Ck
      go_upto_region 8 with fail
      go_quiet (fail)
      go_upto_region 9 with fail
      go_quiet (fail)
      go_wp2_with fail
      go_ret
      exact⟨rfl,qm2 HK.out _ _⟩
     ·have e5:decide ((d:Int)<(g:Int))=false:=by simp;omega
      have Ck:x=1:=by
       rw[<- HX.out];exact qoj (qrq HR.out.lt (by rw[HP.out,HQ.out]) Y1.out kD.out (by omega) HD.out.symm)
      subst Ck
      go_upto_region 8 with fail
      go_quiet (fail)
      go_upto_region 9 with fail
      go_quiet (fail)
      go_wp2_with fail
      go_ret
      exact⟨rfl,qm2 HK.out _ _⟩
 ·have e1:((p:Int) != (q:Int))=true:=by simp;omega
  by_cases Aj:p<q
  ·have e2:decide ((p:Int)<(q:Int))=true:=by simp;omega
   have Ck:x = -1:=by
    rw[<- HX.out];exact qjx (oN (by decide) HL.out.lt TR.out (by rw[HP.out,HQ.out];exact Aj))
   subst Ck;go_enter Tryz.func122,Tryz.ntmps122
   go_wp2_with fail
   go_ret
   exact⟨rfl,0,rfl⟩
  ·have e2:decide ((p:Int)<(q:Int))=false:=by simp;omega
   have Ck:x=1:=by
    rw[<- HX.out];exact qoj (oN (by decide) HR.out.lt TL.out (by rw[HP.out,HQ.out];omega))
   subst Ck;go_enter Tryz.func122,Tryz.ntmps122
   go_wp2_with fail
   go_ret
   exact⟨rfl,0,rfl⟩
structure Vq where
 kd:Int
 g1:Bool
 l1:List Nat
 g2:Bool
 l2:List Nat
 i:Int
deriving DecidableEq,Inhabited
def v0:Vq:=⟨0,false,[],false,[],0⟩
def As:List Nat->Nat
 | []=>0
 | d::r=>d+65536*As r
def Vq.fr (v:Vq):Bool:=v.kd==2 || v.kd==3
def wOk (m:Nat) (g:Bool) (l:List Nat):Bool:=if l.length=0 then !g else decide (l.length<=m) && l[l.length-1]?.getD 0 != 0
def frOk (g1:Bool) (l1:List Nat) (g2:Bool) (l2:List Nat):Bool :=
 decide (l1.length<=256) && decide (l2.length<=256) && wOk 1024 g1 l1 && wOk 1024 g2 l2 && !g2 && l2.length != 0 && Nat.gcd (As l1) (As l2)==1
def Vq.ok (v:Vq):Bool :=
 if v.fr then v.i==0 && frOk v.g1 v.l1 v.g2 v.l2
 else if v.kd==1\/v.kd==4\/v.kd==5\/v.kd==6 then
  v.l1.length==0 && v.l2.length==0 && !v.g1 && !v.g2 && (if v.kd==1 then decide (0<=v.i) && decide (v.i<=1)else if v.kd==4 then decide (0<=v.i) && decide (v.i<65536)else decide (-1048576<=v.i) && decide (v.i<=1048576))
 else false
def Vq.top (v:Vq):Int:=if v.fr then(if v.g1 then -(As v.l1:Int)else As v.l1)else v.i
def Vq.bot (v:Vq):Int:=if v.fr then As v.l2 else 1
def Lz (a b:Int):Int:=if a<b then -1 else if b<a then 1 else 0
def Te (a b:Vq):Int:=Lz (a.top*b.bot) (b.top*a.bot)
def vle (a b:Vq):Bool:=decide (a.top*b.bot<=b.top*a.bot)
def veq (a b:Vq):Bool:=decide (a.top*b.bot=b.top*a.bot)
def vlt (a b:Vq):Prop:=a.top*b.bot<b.top*a.bot
def Vq.good (v:Vq):Bool:=decide (v.l1.length<=64) && decide (v.l2.length<=64)
inductive Gx where
 | mk (op:Int) (nm:Str) (v:Vq) (args:List Gx)
deriving Inhabited
def Gx.op:Gx->Int | .mk o _ _ _=>o
def Gx.nm:Gx->Str | .mk _ n _ _=>n
def Gx.v:Gx->Vq | .mk _ _ v _=>v
def Gx.args:Gx->List Gx | .mk _ _ _ es=>es
mutual
def Gx.parts:Gx->Nat
 | .mk _ _ _ es=>Fu es+1
def Fu:List Gx->Nat
 | []=>0
 | e::r=>e.parts+Fu r
end
mutual
def Gx.depth:Gx->Nat
 | .mk _ _ _ es=>Tj es+1
def Tj:List Gx->Nat
 | []=>0
 | e::r=>max e.depth (Tj r)
end
mutual
def Qy:Gx->Gx->Bool
 | .mk o n v es,.mk o' n' v' es'=>o==o' && n==n' && v==v' && Ry es es'
def Ry:List Gx->List Gx->Bool
 | [],[]=>true
 | a::r,b::s=>Qy a b && Ry r s
 | _,_=>false
end
mutual
theorem qas:∀ a b:Gx,Qy a b=true ↔ a=b
 | .mk o n v es,.mk o' n' v' es'=>by
  have := zJ es es';rw[Qy];simp[this,and_assoc]
theorem zJ:∀ a b:List Gx,Ry a b=true ↔ a=b
 | [],[]=>by simp[Ry]
 | [],b::s=>by simp[Ry]
 | a::r,[]=>by simp[Ry]
 | a::r,b::s=>by
  have h1:=qas a b;have h2:=zJ r s;rw[Ry];simp[h1,h2]
end
mutual
def Gx.good:Gx->Bool
 | .mk _ _ v es=>v.good && O0 es
def O0:List Gx->Bool
 | []=>true
 | e::r=>e.good && O0 r
end
def Gx.settled (e:Gx):Bool:=e.op==1 && e.v.kd==1 && e.v.ok
def Gx.composed (e:Gx):Bool:=(e.op==15 || e.op==16) && e.args.length==2 || e.op==17 && e.args.length==1 || e.op==18 && e.args.length==3
mutual
def Gx.tests:Gx->List Gx
 | .mk o n v es=>if(Gx.mk o n v es).settled then []else if(Gx.mk o n v es).composed then Nj es else [.mk o n v es]
def Nj:List Gx->List Gx
 | []=>[]
 | e::r=>e.tests++Nj r
end
structure Tq where
 sub:Gx
 kd:Int
 cut:Vq
 op:Int
 snd:Bool
deriving Inhabited
def Mq (c s:Gx):Bool:=c.op==1 && s.op != 1 && c.v.kd != 1 && c.v.ok
def Ec (e:Gx):Tq :=
 if(e.op==13 || e.op==14) && e.args.length==2 then
  if Mq (e.args[0]?.getD default) (e.args[1]?.getD default)then⟨e.args[1]?.getD default,(e.args[0]?.getD default).v.kd,(e.args[0]?.getD default).v,e.op,true⟩
  else if Mq (e.args[1]?.getD default) (e.args[0]?.getD default)then⟨e.args[0]?.getD default,(e.args[1]?.getD default).v.kd,(e.args[1]?.getD default).v,e.op,false⟩
  else⟨e,0,v0,0,false⟩
 else⟨e,0,v0,0,false⟩
structure Sc where
 e:Gx
 kd:Int
 cuts:List Vq
deriving Inhabited
def Tq.belongs (t:Tq) (s:Sc):Bool:=t.kd==s.kd && Qy t.sub s.e
def Eu (l:List Vq) (v:Vq):Nat:=l.findIdx fun c=>vle v c
def fnd (l:List Vq) (v:Vq):Bool:=decide (Eu l v<l.length) && veq (l[Eu l v]?.getD v0) v
def Zz (l:List Vq) (v:Vq):Option (List Vq):=if fnd l v then some l else if l.length=32 then none else some (l.take (Eu l v)++v::l.drop (Eu l v))
def Sn (l:List Sc) (i:Nat) (t:Tq):Option (List Sc) :=
 if t.kd=0 then some l else(Zz (l[i]?.getD default).cuts t.cut).map fun c=>l.set i { (l[i]?.getD default)with cuts:=c }
def So (l:List Sc) (t:Tq):Option (List Sc) :=
 let i:=l.findIdx t.belongs
 if i<l.length then Sn l i t
 else if l.length=16 then none
 else Sn (l++[⟨t.sub,t.kd,[]⟩]) l.length t
def Mh:List Sc->List Tq->Option (List Sc)
 | l,[]=>some l
 | l,t::r=>(So l t).bind fun l'=>Mh l' r
def Tf (e:Gx):Bool:=decide (e.parts<=200) && decide (e.depth<=24)
def Oc (l:List Gx):List Sc × Int :=
 if l.all Tf then
  match Mh [] ((Nj l).map Ec)with
  | none=>([],5)
  | some s=>(s,0)
 else([],2)
abbrev D16 (n:Nat):Value:=.int .u16 (n:Int)
def Lm (K:Nat) (w:World) (v:Value) (l:List Nat):Prop:=Au 1 (fun i _=>D16 (l[i]?.getD 0)) K w v l.length/\∀ d∈l,d<65536
theorem Lm.below {K K' B:Nat} {w w':World} {v:Value} {l:List Nat} (h:Lm K w v l) (hb:Below B w w') (hB:K<=B) (hK:K<=K'):Lm K' w' v l:=⟨h.1.below hb hB hK,h.2⟩
theorem Lm.form {K:Nat} {w:World} {v:Value} {l:List Nat} (h:Lm K w v l):∃ a cap,v=.slice a l.length cap/\l.length<=cap/\cap<=maxLen:=h.1.form
theorem Lm.pos {K:Nat} {w:World} {v:Value} {l:List Nat} (h:Lm K w v l) (hn:0<l.length):∃ b o cap,v=.slice (some ⟨b,o,none⟩) l.length cap/\l.length<=cap/\cap<=maxLen/\b<K ∧
  ∀ i,i<l.length->w.cell? ⟨b,o+i,none⟩=some (D16 (l[i]?.getD 0)):=by
 obtain⟨b,o,cap,h1,h2,h3,h4,h5⟩:=h.1.pos hn;exact⟨b,o,cap,h1,h2,h3,h4,fun i hi=>by simpa using h5 i hi 0 (by omega)⟩
theorem Lm.nil (K:Nat) (w:World):Lm K w (.slice none 0 0) []:=⟨Au.nil none 0 (by simp[maxLen]) (fun _=>rfl),fun d h=>by cases h⟩
theorem Lm.wd {K m:Nat} {g:Bool} {w:World} {v:Value} {l:List Nat} (h:Lm K w v l) (h1:l.length<=1) (h2:wOk m g l=true):Wd .u16 K w v (As l):=by
 match l,h1 with
 | [],_=>obtain⟨a,c,rfl,_,hc⟩:=h.form;exact .inl ⟨rfl,a,c,rfl,hc⟩
 | [d],_ =>
  obtain⟨b,o,c,rfl,hn,hm,hb,hc⟩:=h.pos (by simp)
  have hd:d≠0:=by
   unfold wOk at h2
   have h3:1<=m/\¬ d=0:=by simpa using h2
   exact h3.2
  have Iq:=hc 0 (by simp);refine .inr ⟨by unfold As As;omega,b,o,c,rfl,by simpa using hn,hm,hb,?_⟩
  simpa [As] using Iq
theorem qo0 (d:Nat):As [d]=d:=by simp[As]
theorem zqa {l m:List Nat} (h:l.length≠m.length):(l==m)=false:=beq_eq_false_iff_ne.2 fun e=>h (by rw[e])
theorem zu2 (K:Nat) (u v:Value) (l m:List Nat) (w:World) (hu:Lm K w u l) (hv:Lm K w v m) :
  Calls Tryz.prog 116 #[u,v] w fun e w'=>e=.returned (.bool (l==m))/\∃ n,w'=w.drewN n:=by
 obtain⟨ua,ucap,rfl,Ew,Ha⟩:=id hu.form;obtain⟨va,vcap,rfl,Bu,Bs⟩:=id hv.form;unfold maxLen at Bs Ha
 by_cases At:l.length=m.length
 case neg =>
  have HE:=Aa (zqa At)
  have qgf:¬ ((l.length:Int)=(m.length:Int)):=by omega
  go_enter Tryz.func116,Tryz.ntmps116
  go_wp2_with fail
  go_ret
  exact⟨by rw[HE.out];rfl,0,rfl⟩
 case pos =>
 obtain⟨q,hq⟩:=Ae l.length
 have Wi:m.length=q:=by rw[<- At,hq]
 have HU:=Aa hu;have HV:=Aa hv;rw[hq]at Ew ⊢;rw[Wi]at Bu ⊢;have HM:=Aa hq;have HL:=Aa Wi;clear hq Wi At hu hv
 have qbp:((q:Int) != (q:Int))=false:=by simp
 go_enter Tryz.func116,Tryz.ntmps116
 go_wp2_with fail
 go_loopw [13] (fun i wr=>∃ k n:Nat,k<=q/\i=.int .i64 k/\wr=w.drewN n/\Hid (∀ i,i<k->l[i]?.getD 0=m[i]?.getD 0)) (fun i _=>q-(intOf i).toNat)
 case atStart=>exact⟨0,0,Nat.zero_le _,rfl,rfl,Aa fun i hi=>absurd hi (Nat.not_lt_zero i)⟩
 case round =>
  obtain⟨k,n,hk,rfl,rfl,Ld⟩:=hrel
  by_cases Aj:k<q
  ·obtain⟨b,o,cap,he,_,_,Cj,hc⟩:=HV.out.pos (by rw[HL.out];omega)
   simp only[Value.slice.injEq]at he;obtain⟨rfl,_,rfl⟩:=he;have c0:=hc k (by rw[HL.out];exact Aj);obtain⟨b',o',cap',he,_,_,qis,Iz⟩:=HU.out.pos (by rw[HM.out];omega);simp only[Value.slice.injEq]at he;obtain⟨rfl,_,rfl⟩:=he;have c1:=Iz k (by rw[HM.out];exact Aj);have Rw:Hid (l[k]?.getD 0≠m[k]?.getD 0->(l==m)=false):=Aa zaq
   have Ui:Hid (l[k]?.getD 0=m[k]?.getD 0->∀ i,i<k+1->l[i]?.getD 0=m[i]?.getD 0):=Aa fun he i hi=>by
    by_cases h:i=k
    ·subst h;exact he
    ·exact Ld.out i (by omega)
   obtain⟨x,hx⟩:=Ae (l[k]?.getD 0);obtain⟨y,hy⟩:=Ae (m[k]?.getD 0);rw[hx]at c1 Rw Ui;rw[hy]at c0 Rw Ui;clear hx hy hc Iz
   by_cases Li:x=y
   ·have HE:=Aa (Ui.out Li)
    have Bp:((x:Int) != (y:Int))=false:=by rw[Li];simp
    clear Li
    go_upto_region 6 with fail
    go_quiet (fail)
    go_wp2_with fail
    exact⟨⟨k+1,_,by omega,by go_num,by first | rfl | exact Xc _ _ _,HE⟩,by simp[intOf];omega⟩
   ·have HE:=Aa (Rw.out Li)
    have Bp:((x:Int) != (y:Int))=true:=by simp;omega
    clear Li
    go_upto_region 6 with fail
    go_quiet (fail)
    go_wp2_with fail
    go_ret
    exact⟨by rw[HE.out];rfl,_,by first | rfl | exact Xc _ _ _⟩
  ·obtain rfl:q=k:=by omega
   have HE:Hid ((l==m)=true):=Aa (qsh (by rw[HM.out,HL.out]) (fun i hi=>Ld.out i (by have := HM.out;omega)));go_wp2_with fail
   go_ret
   exact⟨by rw[HE.out];rfl,_,by first | rfl | exact Xc _ _ _⟩
theorem qw5 (K:Nat) (g g':Bool) (u v:Value) (l l':List Nat) (w:World) (hu:Lm K w u l) (hv:Lm K w v l') (hK:K<=w.heap.size):Calls Tryz.prog 88 #[.agg #[.bool g,u],.agg #[.bool g',v]] w fun e w'=>e=.returned (.bool (g==g' && l==l'))/\Below w.heap.size w w':=by
 have b1:Below w.heap.size w ((w.alloc (.cells #[.bool g,u] 37)).alloc (.cells #[.bool g',v] 37)):=(Af _ _).alloc (by simp) _;have hc:=zu2 K u v l l' _ (hu.below b1 hK (Ab _)) (hv.below b1 hK (Ab _));obtain⟨ua,uc,rfl,_⟩:=hu.form;obtain⟨va,vc,rfl,_⟩:=hv.form;obtain⟨r,hr⟩:=Ae ((l==l'));rw[hr]at hc ⊢;clear hr;cases g<;>cases g'
 all_goals
  go_enter Tryz.func88,Tryz.ntmps88
  go_wp2_with fail
 all_goals try (
  refine hc.mono ?_;rintro e w2 ⟨rfl,k,rfl⟩;go_wp2_with fail
  go_ret
  exact⟨rfl,Gn b1 k⟩)
 all_goals
  go_ret
  exact⟨rfl,b1⟩
theorem qt4 (K:Nat) (g1 g2 h1 h2:Bool) (u v x y:Value) (m n p q:List Nat) (w:World) (hu:Lm K w u m) (hv:Lm K w v n) (hx:Lm K w x p) (hy:Lm K w y q) (hK:K<=w.heap.size) :
  Calls Tryz.prog 51 #[.agg #[.bool g1,u,.bool g2,v],.agg #[.bool h1,x,.bool h2,y]] w fun e w'=>e=.returned (.bool ((g1==h1 && m==p) && (g2==h2 && n==q)))/\Below w.heap.size w w':=by
 obtain⟨W1,Ah⟩:=Ae ((w.alloc (.cells #[.bool g1,u,.bool g2,v] 39)).alloc (.cells #[.bool h1,x,.bool h2,y] 39))
 have b1:Below w.heap.size w W1:=by rw[<- Ah];exact(Af _ _).alloc (by simp) _
 have q0:Blk W1 w.heap.size #[.bool g1,u,.bool g2,v] 39:=by rw[<- Ah];exact(Blk.new w _ _).alloc _
 have q1:Blk W1 (w.heap.size+1) #[.bool h1,x,.bool h2,y] 39:=by
  rw[<- Ah];have := Blk.new (w.alloc (.cells #[.bool g1,u,.bool g2,v] 39)) #[.bool h1,x,.bool h2,y] 39;rwa[World.size_alloc]at this
 have s1:W1.heap.size=w.heap.size+2:=by rw[<- Ah];simp
 obtain⟨B,hB⟩:=Ae w.heap.size;have HB:=Aa hB;have HW:=Aa Ah;rw[hB]at hK b1 q0 q1 s1 ⊢;have hc:=qw5 B g1 h1 u x m p W1 (hu.below b1 hK hK) (hx.below b1 hK hK) (by omega)
 have Ii:∀ W,Below B w W->Calls Tryz.prog 88 #[.agg #[.bool g2,v],.agg #[.bool h2,y]] W fun e w'=>e=.returned (.bool (g2==h2 && n==q))/\Below W.heap.size W w':=fun W hb=>qw5 W.heap.size g2 h2 v y n q W (hv.below hb hK (by have := hb.size;rw[hB]at this;omega)) (hy.below hb hK (by have := hb.size;rw[hB]at this;omega)) (Ab _)
 obtain⟨ua,uc,rfl,_⟩:=hu.form;obtain⟨va,vc,rfl,_⟩:=hv.form;obtain⟨xa,xc,rfl,_⟩:=hx.form;obtain⟨ya,yc,rfl,_⟩:=hy.form;clear hB Ah;obtain⟨r1,Jd⟩:∃ r,(g1==h1 && m==p)=r:=⟨_,rfl⟩;obtain⟨r2,Dw⟩:∃ r,(g2==h2 && n==q)=r:=⟨_,rfl⟩;simp only[Jd]at hc;simp only[Dw]at Ii;rw[Jd,Dw];clear Jd Dw;obtain⟨c0,c1,c2,c3⟩:=q0.four;obtain⟨d0,d1,d2,d3⟩:=q1.four;go_enter Tryz.func51,Tryz.ntmps51
 go_upto_region 1 with fail
 simp only[HB.out];rw[HW.out];go_wp2_with fail
 refine hc.mono ?_;rintro e w2 ⟨rfl,Ai⟩;clear c0 c1 c2 c3 d0 d1 d2 d3 hc;have b2:Below B w w2:=b1.trans (Ai.mono (by omega));have q0:=q0.below Ai q0.lt;have q1:=q1.below Ai q1.lt;obtain⟨c0,c1,c2,c3⟩:=q0.four;obtain⟨d0,d1,d2,d3⟩:=q1.four;have Ii:=Ii w2 b2;have s2:=Ai.size
 cases r1 with
 | false =>
  go_wp2_with fail
  go_ret
  exact⟨rfl,b2⟩
 | true =>
  go_wp2_with fail
  refine Ii.mono ?_;rintro e w3 ⟨rfl,Ak⟩;go_wp2_with fail
  go_ret
  exact⟨rfl,b2.trans (Ak.mono (by omega))⟩
structure Vv where
 kd:Int
 b1:Bool
 s1:Value
 b2:Bool
 s2:Value
 i:Int
abbrev Vv.agg (x:Vv):Value:=.agg #[.int .u8 x.kd,.bool x.b1,x.s1,.bool x.b2,x.s2,.int .i64 x.i]
abbrev Vv.cells (x:Vv):Array Value:=#[.int .u8 x.kd,.bool x.b1,x.s1,.bool x.b2,x.s2,.int .i64 x.i]
structure VlX (K:Nat) (w:World) (v:Vq) (x:Vv):Prop where
 kd:x.kd=v.kd
 b1:x.b1=v.g1
 b2:x.b2=v.g2
 i:x.i=v.i
 n:Lm K w x.s1 v.l1
 d:Lm K w x.s2 v.l2
theorem VlX.below {K K' B:Nat} {w w':World} {v:Vq} {x:Vv} (h:VlX K w v x) (hb:Below B w w') (hB:K<=B) (hK:K<=K'):VlX K' w' v x:=⟨h.kd,h.b1,h.b2,h.i,h.n.below hb hB hK,h.d.below hb hB hK⟩
theorem Blk.six {w:World} {b t:Nat} {x0 x1 x2 x3 x4 x5:Value} (h:Blk w b #[x0,x1,x2,x3,x4,x5] t):w.cell? ⟨b,0,none⟩=some x0/\w.cell? ⟨b,1,none⟩=some x1/\w.cell? ⟨b,2,none⟩=some x2 ∧
  w.cell? ⟨b,3,none⟩=some x3/\w.cell? ⟨b,4,none⟩=some x4/\w.cell? ⟨b,5,none⟩=some x5:=⟨h.at rfl,h.at rfl,h.at rfl,h.at rfl,h.at rfl,h.at rfl⟩
theorem Vq.short {v:Vq} (h:v.good=true):v.l1.length<=64/\v.l2.length<=64:=by
 unfold Vq.good at h
 simpa using h
end Go.Proofs.YtlldjmagbjjeoaaGreatDoor
