/- Contracts and plain laws, several texts in one (GMadeT, GMadeU, GScaS, DSpec, DSpec2, DBfs). No conditions beyond those stated. -/
import Derived.Test.YtlldjmagbjjeoaaGreatDoorPk25
set_option maxRecDepth 100000
set_option maxHeartbeats 40000000
namespace Go.Proofs.YtlldjmagbjjeoaaGreatDoor
open Go.RowKit
set_option linter.unusedVariables false
theorem qvg (k:Nat):Fq (k%12)=Fq k:=by unfold Fq;rw[Nat.mod_mod]
theorem qbe (k:Nat):Di (k%12)=Di k:=by unfold Di;rw[Nat.mod_mod]
theorem qqa {k k':Nat} (h:k<12) (h':k'<12) (e:Fq k=Fq k'):k=k':=by
 unfold Fq at e;rw[Nat.mod_eq_of_lt h,Nat.mod_eq_of_lt h']at e
 have e2:UInt8.ofNat (48+k)=UInt8.ofNat (48+k'):=by injection e with _ e1;injection e1 with _ e1;injection e1
 have e3:=congrArg UInt8.toNat e2;simp only[UInt8.toNat_ofNat']at e3;omega
def ScM (s:Sc):Prop:=∃ k,k<12/\s.e=Fq k/\((Di k=1/\s.kd=0/\s.cuts=[])\/(Di k≠1/\s.kd=Di k/\Nq s.kd s.cuts/\∀ c∈s.cuts,∃ n,n<8/\c=wV (Di k) n))
def TqM (t:Tq):Prop:=∃ k,k<12/\t.sub=Fq k/\((Di k=1/\t.kd=0)\/(Di k≠1/\t.kd=Di k/\∃ n,n<8/\t.cut=wV (Di k) n))
structure LM (l:List Sc):Prop where
 each:∀ s∈l,ScM s
 nodup:(l.map (·.e)).Nodup
def Has (l:List Sc) (t:Tq):Prop:=∃ (i:Nat) (s:Sc),l[i]?=some s/\t.belongs s=true/\(t.kd≠0->∃ c∈s.cuts,tw c=tw t.cut)
theorem qbk {t:Tq} {s:Sc}:t.belongs s=true ↔ t.kd=s.kd/\t.sub=s.e:=by
 unfold Tq.belongs;rw[Bool.and_eq_true,beq_iff_eq,qas]
theorem zf7 {t:Tq} {s:Sc} (ht:TqM t) (hs:ScM s) (h:t.sub=s.e):t.belongs s=true:=by
 obtain⟨k,hk,e,h1⟩:=ht;obtain⟨k',Ji,e',h2⟩:=hs
 have:k=k':=qqa hk Ji (by rw[<- e,<- e',h])
 subst this;refine qbk.2 ⟨?_,h⟩
 rcases h1 with h1 | h1<;>rcases h2 with h2 | h2
 ·rw[h1.2,h2.2.1]
 ·exact absurd h1.1 h2.1
 ·exact absurd h2.1 h1.1
 ·rw[h1.2.1,h2.2.1]
theorem LM.len {l:List Sc} (h:LM l):l.length<=12:=by
 have := List.Nodup.length_le_of_subset h.nodup (l₂:=(List.range 12).map Fq) (fun e he=>by
  obtain⟨s,hs,rfl⟩:=List.mem_map.1 he;obtain⟨k,hk,e,_⟩:=h.each s hs
  exact List.mem_map.2 ⟨k,List.mem_range.2 hk,e.symm⟩)
 simpa using this
theorem fW {k:Nat} (h:Di k≠1):2<=Di k/\Di k<=6:=by have := wT k;omega
theorem zbt {k:Nat} {kd:Int} {l:List Vq} (hk:Di k≠1) (h:Nq kd l) (hc:∀ c∈l,∃ n,n<8/\c=wV (Di k) n):l.length<=8:=by
 have hf:∀ c∈l,Uu c/\∃ n:Nat,n<8/\tw c=2*n:=fun c Ba=>by
  obtain⟨n,hn,rfl⟩:=hc c Ba;have := fY (Di k) n (fW hk) hn;exact⟨this.2.2.2.1,n,hn,this.2.2.2.2⟩
 have hn:(l.map fun c=>(tw c).toNat/2).Nodup:=by
  rw[List.Nodup,List.pairwise_map];refine List.Pairwise.imp_of_mem ?_ h.inc;intro a b ha hb qbo e
  obtain⟨Z1,n,hn,ea⟩:=hf a ha;obtain⟨Bp,m,hm,eb⟩:=hf b hb;rw[zb6 Z1 Bp]at qbo;omega
 have := List.Nodup.length_le_of_subset hn (l₂:=List.range 8) (fun e he=>by
  obtain⟨c,Ba,rfl⟩:=List.mem_map.1 he;obtain⟨_,n,hn,ec⟩:=hf c Ba
  exact List.mem_range.2 (by omega))
 simpa using this
theorem zl7 {l:List Sc} {i:Nat} {s:Sc} {t:Tq} (h:ScM s) (ht:TqM t) (hi:l[i]?=some s) (hb:t.belongs s=true) :
  ∃ cuts,Sn l i t=some (l.set i { s with cuts:=cuts })/\(∀ c∈s.cuts,c∈cuts)/\ScM { s with cuts:=cuts }/\(t.kd≠0->∃ c∈cuts,tw c=tw t.cut):=by
 have hd:l[i]?.getD default=s:=by rw[hi];rfl
 obtain⟨bk,bs⟩:=qbk.1 hb;unfold Sn;rw[hd]
 by_cases h0:t.kd=0
 ·rw[if_pos h0]
  refine⟨s.cuts,?_,fun c hc=>hc,h,fun hn=>absurd h0 hn⟩
  congr 1
  symm
  obtain⟨Aj,e⟩:=List.getElem?_eq_some_iff.1 hi
  have:s=l[i]:=e.symm
  show l.set i s=l
  rw[this,List.set_getElem_self]
 ·rw[if_neg h0]
  obtain⟨k,hk,es,hs⟩:=h;obtain⟨k',Ji,et,qnt⟩:=ht
  have:k'=k:=qqa Ji hk (by rw[<- et,<- es,bs])
  subst this
  have h1:Di k'≠1:=fun e=>by
   rcases qnt with h | h
   ·exact h0 h.2
   ·exact h.1 e
  obtain⟨Cp,Az,Ep,Fi⟩:=hs.resolve_left fun h=>h1 h.1
  obtain⟨Nf,O4,n,hn,quv⟩:=qnt.resolve_left fun h=>h1 h.1
  obtain⟨w1,w2,w3,w4,w5⟩:=fY (Di k') n (fW h1) hn;rw[<- quv]at w1 w2 w3 w4 w5;have Cc:=zbt h1 Ep Fi
  have pL:∀ c∈s.cuts,Uu c:=fun c hc=>by
   obtain⟨m,hm,rfl⟩:=Fi c hc;exact(fY (Di k') m (fW h1) hm).2.2.2.1
  unfold Zz
  by_cases hf:fnd s.cuts t.cut=true
  ·rw[if_pos hf]
   refine⟨s.cuts,rfl,fun c hc=>hc,⟨k',hk,es,.inr ⟨Cp,Az,Ep,Fi⟩⟩,fun _=>?_⟩;unfold fnd at hf;simp only[Bool.and_eq_true,decide_eq_true_eq]at hf;obtain⟨f1,f2⟩:=hf;rw[znx (rL pL f1) w4,decide_eq_true_eq,Ac f1]at f2;exact⟨_,List.getElem_mem f1,f2⟩
  ·have A4:fnd s.cuts t.cut=false:=by simpa using hf
   rw[if_neg hf,if_neg (by omega)];refine⟨_,rfl,fun c hc=>?_,⟨k',hk,es,.inr ⟨Cp,Az,Ep.ins w3 w2 (by rw[w1,Az]) A4,fun c hc=>?_⟩⟩,fun _=>⟨t.cut,List.mem_append_right _ (List.mem_cons_self ..),rfl⟩⟩
   ·rw[<- List.take_append_drop (Eu s.cuts t.cut) s.cuts]at hc
    rcases List.mem_append.1 hc with hc | hc
    ·exact List.mem_append_left _ hc
    ·exact List.mem_append_right _ (List.mem_cons_of_mem _ hc)
   ·rcases List.mem_append.1 hc with hc | hc
    ·exact Fi c (List.mem_of_mem_take hc)
    ·rcases List.mem_cons.1 hc with rfl | hc
     ·exact⟨n,hn,quv⟩
     ·exact Fi c (List.mem_of_mem_drop hc)
def Uw (l:List Sc):Prop:=∀ s∈l,s.kd≠0->s.cuts≠[]
theorem zxc {l:List Sc} {i:Nat} {s:Sc} {cuts:List Vq} (h:LM l) (hi:l[i]?=some s) (hs:ScM { s with cuts:=cuts }):LM (l.set i { s with cuts:=cuts }):=by
 refine⟨fun a ha=>?_,?_⟩
 ·rcases List.mem_or_eq_of_mem_set ha with ha | rfl
  ·exact h.each a ha
  ·exact hs
 ·rw[List.map_set]
  have:(l.map (·.e)).set i s.e=l.map (·.e):=by
   obtain⟨Aj,e⟩:=List.getElem?_eq_some_iff.1 hi
   have e2:(l.map (·.e))[i]'(by simpa using Aj)=s.e:=by rw[List.getElem_map,e]
   rw[<- e2,List.set_getElem_self]
  show((l.map (·.e)).set i s.e).Nodup
  rw[this];exact h.nodup
theorem zhm {l:List Sc} {i:Nat} {s:Sc} {cuts:List Vq} (hi:l[i]?=some s) (hc:∀ c∈s.cuts,c∈cuts) {t:Tq} (h:Has l t):Has (l.set i { s with cuts:=cuts }) t:=by
 obtain⟨j,r,hj,hb,hr⟩:=h
 by_cases e:i=j
 ·subst e
  rw[hi]at hj;obtain rfl:=Option.some.inj hj;refine⟨i,{ s with cuts:=cuts },?_,hb,fun h0=>?_⟩
  ·rw[List.getElem?_set];simp[(List.getElem?_eq_some_iff.1 hi).1]
  ·obtain⟨c,h1,h2⟩:=hr h0
   exact⟨c,hc c h1,h2⟩
 ·exact⟨j,r,by rw[List.getElem?_set,if_neg e];exact hj,hb,hr⟩
theorem znb {l:List Sc} {t:Tq} (h:LM l) (ht:TqM t) (hf:Uw l):∃ l',So l t=some l'/\LM l'/\Uw l'/\Has l' t/\∀ t',Has l t'->Has l' t':=by
 have Cc:=h.len
 have fin:∀ (l0:List Sc) (i:Nat) (s:Sc),LM l0->l0[i]?=some s->t.belongs s=true->(∀ j r,l0[j]?=some r->j≠i->r.kd≠0->r.cuts≠[]) →
   ∃ l',Sn l0 i t=some l'/\LM l'/\Uw l'/\Has l' t/\∀ t',Has l0 t'->Has l' t':=by
  intro l0 i s h0 hi hb qll
  obtain⟨cuts,h1,h2,h3,h4⟩:=zl7 (h0.each s (List.mem_of_getElem? hi)) ht hi hb;have Aj:=(List.getElem?_eq_some_iff.1 hi).1;refine⟨_,h1,zxc h0 hi h3,?_,⟨i,{ s with cuts:=cuts },by rw[List.getElem?_set];simp[Aj],hb,h4⟩,fun t' h=>zhm hi h2 h⟩;intro r hr hk
  obtain⟨j,hj⟩:=List.mem_iff_getElem?.1 hr;rw[List.getElem?_set]at hj
  by_cases e:i=j
  ·rw[if_pos e,if_pos Aj]at hj
   obtain rfl:=Option.some.inj hj
   have Ji:t.kd≠0:=by rw[(qbk.1 hb).1];exact hk
   obtain⟨c,hc,_⟩:=h4 Ji
   exact fun e=>by simp only at e;rw[e]at hc;cases hc
  ·rw[if_neg e]at hj
   exact qll j r hj (fun e'=>e e'.symm) hk
 unfold So;simp only
 by_cases hi:l.findIdx t.belongs<l.length
 ·rw[if_pos hi]
  have hb:=qcn hi
  have hg:l[l.findIdx t.belongs]?=some (l[l.findIdx t.belongs]?.getD default):=by rw[Ac hi];rfl
  exact fin l _ _ h hg hb fun j r hj _=>hf r (List.mem_of_getElem? hj)
 ·rw[if_neg hi,if_neg (by omega)]
  have Qu:ScM ⟨t.sub,t.kd,[]⟩:=by
   obtain⟨k,hk,e,h1⟩:=ht;refine⟨k,hk,e,?_⟩
   rcases h1 with h1 | h1
   ·exact .inl ⟨h1.1,h1.2,rfl⟩
   ·exact .inr ⟨h1.1,h1.2.1,Nq.nil _,fun c hc=>by cases hc⟩
  have Eg:t.sub ∉ l.map (·.e):=fun hm=>by
   obtain⟨s,hs,e⟩:=List.mem_map.1 hm;have := zf7 ht (h.each s hs) e.symm;exact hi (List.findIdx_lt_length_of_exists ⟨s,hs,this⟩)
  have hl:LM (l++[⟨t.sub,t.kd,[]⟩]):=by
   refine⟨fun s hs=>?_,?_⟩
   ·rcases List.mem_append.1 hs with hs | hs
    ·exact h.each s hs
    ·rw[List.mem_singleton.1 hs];exact Qu
   ·rw[List.map_append,List.nodup_append]
    exact⟨h.nodup,by simp,fun a ha b hb e=>by simp at hb;subst hb;subst e;exact Eg ha⟩
  obtain⟨l',h1,h2,h3,h4,h5⟩:=fin (l++[⟨t.sub,t.kd,[]⟩]) l.length ⟨t.sub,t.kd,[]⟩ hl (by simp) (qbk.2 ⟨rfl,rfl⟩) (fun j r hj At hk=>by
   have Aj:=(List.getElem?_eq_some_iff.1 hj).1;simp only[List.length_append,List.length_singleton]at Aj;rw[List.getElem?_append_left (by omega)]at hj
   exact hf r (List.mem_of_getElem? hj) hk)
  refine⟨l',h1,h2,h3,h4,fun t' Ua=>h5 t' ?_⟩;obtain⟨i,s,hi,hb⟩:=Ua;exact⟨i,s,by rw[List.getElem?_append_left (List.getElem?_eq_some_iff.1 hi).1];exact hi,hb⟩
theorem qmh:∀ (ts:List Tq) (l:List Sc),LM l->Uw l->(∀ t∈ts,TqM t)->∃ l',Mh l ts=some l'/\LM l'/\Uw l'/\(∀ t∈ts,Has l' t)/\∀ t',Has l t'->Has l' t'
 | [],l,h,hf,_=>⟨l,rfl,h,hf,fun t h=>(by cases h),fun t' h=>h⟩
 | t::r,l,h,hf,ht=>by
  obtain⟨l1,e1,h1,f1,a1,m1⟩:=znb h (ht t (List.mem_cons_self ..)) hf
  obtain⟨l2,e2,h2,f2,a2,m2⟩:=qmh r l1 h1 f1 fun x hx=>ht x (List.mem_cons_of_mem _ hx)
  refine⟨l2,by rw[Mh,e1];exact e2,h2,f2,fun x hx=>?_,fun t' h'=>m2 t' (m1 t' h')⟩
  rcases List.mem_cons.1 hx with rfl | hx
  ·exact m2 _ a1
  ·exact a2 x hx
theorem zqp:iN.settled=true:=by kernel_rfl
theorem zdc (k:Nat):(Fq k).settled=false:=by simp[Fq,Gx.settled,Gx.op]
theorem zn4 (k:Nat):(Fq k).composed=false:=by simp[Fq,Gx.composed,Gx.op]
theorem zrl (x n:Nat):(Lc x n).settled=false:=by unfold Lc;by_cases h:x%4<2<;>simp[h,Gx.settled,Gx.op]
theorem zwh (x n:Nat):(Lc x n).composed=false:=by unfold Lc;by_cases h:x%4<2<;>simp[h,Gx.composed,Gx.op]
theorem lF (e:Gx):e.tests=if e.settled then []else if e.composed then Nj e.args else [e]:=by
 cases e;rw[Gx.tests];rfl
theorem zjt (k:Nat):Ec (Fq k)=⟨Fq k,0,v0,0,false⟩:=by simp[Ec,Fq,Gx.op]
theorem zss (x n:Nat) (hk:Di (x/3)≠1) (hn:n<8):Ec (Lc x n)=⟨Fq (x/3),Di (x/3),wV (Di (x/3)) n,if x%4<2 then 13 else 14,x%2 != 0⟩:=by
 obtain⟨w1,w2,_⟩:=fY (Di (x/3)) n (fW hk) hn
 have Dc:(Lc x n).op=if x%4<2 then 13 else 14:=rfl
 have Jv:∀ v,Mq (Fq (x/3)) (Kv v)=false:=fun v=>by simp[Mq,Fq,Gx.op]
 have Ii:Mq (Kv (wV (Di (x/3)) n)) (Fq (x/3))=true:=by
  simp[Mq,Fq,Kv,Gx.op,Gx.v,w1,w2,hk]
 have hv:∀ v,(Kv v).v=v:=fun v=>rfl
 unfold Ec
 by_cases h2:x%2=0
 ·have ha:(Lc x n).args=[Fq (x/3),Kv (wV (Di (x/3)) n)]:=by simp[Lc,Gx.args,h2]
  rw[ha,Dc]
  by_cases h4:x%4<2<;>simp[h4,Jv,Ii,h2,hv,w1]
 ·have ha:(Lc x n).args=[Kv (wV (Di (x/3)) n),Fq (x/3)]:=by simp[Lc,Gx.args,h2]
  rw[ha,Dc]
  have h3:x%2=1:=by omega
  by_cases h4:x%4<2<;>simp[h4,Ii,h3,hv,w1]
theorem zwf {e:Gx} (h:Md e):∀ t∈e.tests,TqM (Ec t):=by
 induction h with
 | tru=>rw[lF,zqp];intro t ht;cases ht
 | sub k hk =>
  rw[lF,zdc,zn4];intro t ht
  obtain rfl:=List.mem_singleton.1 ht;rw[zjt];exact⟨k%12,Nat.mod_lt _ (by omega),(qvg k).symm,.inl ⟨by rw[qbe];exact hk,rfl⟩⟩
 | tst x n hk hn =>
  rw[lF,zrl,zwh];intro t ht
  obtain rfl:=List.mem_singleton.1 ht;rw[zss x n hk hn];exact⟨x/3%12,Nat.mod_lt _ (by omega),(qvg _).symm,.inr ⟨by rw[qbe];exact hk,(qbe _).symm,n,hn,by rw[qbe]⟩⟩
 | no a _ ih =>
  rw[lF,if_neg (by simp[Gx.settled,Gx.op]),if_pos (by simp[Gx.composed,Gx.op,Gx.args])];intro t ht
  simp only[Gx.args,Nj,List.append_nil]at ht;exact ih t ht
 | two o a b ho _ _ i1 i2 =>
  rw[lF,if_neg (by rcases ho with rfl | rfl<;>simp[Gx.settled,Gx.op]),if_pos (by rcases ho with rfl | rfl<;>simp[Gx.composed,Gx.op,Gx.args])];intro t ht
  simp only[Gx.args,Nj,List.append_nil,List.mem_append]at ht
  rcases ht with ht | ht
  ·exact i1 t ht
  ·exact i2 t ht
 | ite a b c _ _ _ i1 i2 i3 =>
  rw[lF,if_neg (by simp[Gx.settled,Gx.op]),if_pos (by simp[Gx.composed,Gx.op,Gx.args])];intro t ht
  simp only[Gx.args,Nj,List.append_nil,List.mem_append]at ht
  rcases ht with ht | ht | ht
  ·exact i1 t ht
  ·exact i2 t ht
  ·exact i3 t ht
theorem qp7 {es:List Gx} {t:Gx}:t∈Nj es ↔ ∃ e∈es,t∈e.tests:=by
 induction es with
 | nil=>simp[Nj]
 | cons e r ih=>simp[Nj,ih]
theorem zj6 {es:List Gx} (h:∀ e∈es,Md e) (hf:∀ e∈es,Tf e=true):∃ l,Oc es=(l,0)/\LM l/\Uw l/\∀ e∈es,∀ t∈e.tests,Has l (Ec t):=by
 obtain⟨l,h1,h2,h3,h4,_⟩:=qmh ((Nj es).map Ec) [] ⟨fun s hs=>(by cases hs),by simp⟩ (fun s hs=>by cases hs) (fun t ht=>by
  obtain⟨x,hx,rfl⟩:=List.mem_map.1 ht;obtain⟨e,he,Mf⟩:=qp7.1 hx
  exact zwf (h e he) x Mf)
 refine⟨l,?_,h2,h3,fun e he t ht=>h4 _ (List.mem_map.2 ⟨t,qp7.2 ⟨e,he,ht⟩,rfl⟩)⟩;unfold Oc;rw[if_pos (List.all_eq_true.2 hf),h1]
def zyr (o:Int):Bool:=o==15 || o==16 || o==17 || o==18
theorem sU {s:Sc} (h:ScM s) (hf:s.kd≠0->s.cuts≠[]):s.okB=true:=by
 obtain⟨k,hk,e,h1 | ⟨h1,h2,h3,h4⟩⟩:=h
 ·unfold Sc.okB;rw[if_pos h1.2.1,h1.2.2];rfl
 ·have A8:=fW h1
  have h0:s.kd≠0:=by omega
  have hn:=hf h0;have Cc:=zbt h1 h3 h4
  have At:1<=s.cuts.length:=by
   cases hc:s.cuts with
   | nil=>exact absurd hc hn
   | cons a b=>simp
  have pL:∀ c∈s.cuts,Uu c:=fun c hc=>by
   obtain⟨m,hm,rfl⟩:=h4 c hc;exact(fY (Di k) m A8 hm).2.2.2.1
  refine zbv h0 (by omega) (by omega) (by omega) (by omega) fun j hj=>?_
  unfold Vx;obtain⟨g1,g2,g3⟩:=h3.at hj;rw[g2,g3];simp only[beq_self_eq_true,Bool.true_and,Bool.or_eq_true,beq_iff_eq,Bool.not_eq_true']
  by_cases Jb:j=0
  ·exact .inl Jb
  ·refine .inr ?_
   rw[zm8 (rL pL hj) (rL pL (by omega)),decide_eq_false_iff_not];have := zj4 pL h3.inc (by omega:j-1<j) hj;omega
theorem quy {s:Sc} (h:ScM s):∀ c∈s.cuts,Uu c/\c.good=true:=fun c hc=>by
 obtain⟨k,hk,e,h1 | ⟨h1,h2,h3,h4⟩⟩:=h
 ·rw[h1.2.2]at hc;cases hc
 ·obtain⟨m,hm,rfl⟩:=h4 c hc
  have := fY (Di k) m (fW h1) hm;exact⟨this.2.2.2.1,this.2.2.1⟩
theorem qva {s:Sc} (hs:ScM s) (hf:s.kd≠0->s.cuts≠[]):2<=(Bf s).length:=by
 have Ay:=sU hs hf;obtain⟨k,hk,e,h1 | h1⟩:=hs
 ·obtain⟨se,skd,scuts⟩:=s
  obtain⟨_,h2,h3⟩:=h1;dsimp only at h2 h3;subst h2 h3;unfold Bf;rw[if_pos Ay]
  show 2<=((List.range 2).filter fun c:Nat=>Sc.poss ⟨se,0,[]⟩ (c:Int)).length
  have e0:Sc.poss ⟨se,0,[]⟩ ((0:Nat):Int)=true:=by simp[Sc.poss,Hd,Tl,Ky]
  have e1:Sc.poss ⟨se,0,[]⟩ ((1:Nat):Int)=true:=by simp[Sc.poss,Hd,Tl,Ky]
  rw[show List.range 2=[0,1]from rfl,List.filter_cons_of_pos (p:=fun c:Nat=>Sc.poss ⟨se,0,[]⟩ (c:Int)) e0,List.filter_cons_of_pos (p:=fun c:Nat=>Sc.poss ⟨se,0,[]⟩ (c:Int)) e1];simp
 ·obtain⟨h1,h2,h3,h4⟩:=h1
  have A8:=fW h1
  have h0:s.kd≠0:=by omega
  have hn:1<=s.cuts.length:=by
   have := hf h0
   cases hc:s.cuts with
   | nil=>exact absurd hc this
   | cons a b=>simp
  have jU:Hd s.kd s.cuts.length=2*s.cuts.length+1:=by unfold Hd;rw[if_neg h0]
  have p1:s.poss ((1:Nat):Int)=true:=by
   unfold Sc.poss;rw[jU]
   have:Tl s.kd s.cuts ((1:Nat):Int).toNat=true:=by unfold Tl;simp
   rw[this];simp only[Bool.and_true,Bool.and_eq_true,decide_eq_true_eq];omega
  have p2:s.poss ((2*s.cuts.length:Nat):Int)=true:=by
   unfold Sc.poss;rw[jU]
   have hp:Tl s.kd s.cuts (((2*s.cuts.length:Nat):Int)).toNat=true:=by
    unfold Tl;rw[show(((2*s.cuts.length:Nat):Int)).toNat=2*s.cuts.length by omega]
    have aM:(s.cuts[s.cuts.length-1]?.getD v0).i<=8:=by
     rw[Ac (by omega),Option.getD_some];obtain⟨m,hm,he⟩:=h4 _ (List.getElem_mem (by omega:s.cuts.length-1<s.cuts.length));rw[he];unfold wV
     split
     ·show(0:Int)<=8;omega
     ·show((m:Nat):Int)<=8;omega
    have Ny:65536<=hiS s.kd s.cuts (2*s.cuts.length):=by
     unfold hiS;rw[if_neg (by omega)]
     split<;>omega
    have Kx:loS s.kd s.cuts (2*s.cuts.length)<=8:=by
     unfold loS;rw[if_pos (by omega),show 2*s.cuts.length/2-1=s.cuts.length-1 by omega];exact aM
    simp only[Bool.or_eq_true,decide_eq_true_eq];exact .inr (by omega)
   rw[hp];simp only[Bool.and_true,Bool.and_eq_true,decide_eq_true_eq];omega
  have := List.Nodup.length_le_of_subset (l₁:=[1,2*s.cuts.length]) (l₂:=Bf s) (by simp;omega) (fun c hc=>by
   unfold Bf;rw[if_pos Ay];unfold Vl;simp only[List.mem_cons,List.not_mem_nil,or_false]at hc
   rcases hc with rfl | rfl
   ·exact List.mem_filter.2 ⟨List.mem_range.2 (by omega),p1⟩
   ·exact List.mem_filter.2 ⟨List.mem_range.2 (by omega),p2⟩)
  simpa using this
structure DSt where
 nds:List (Nat × List Int)
 lvs:List (List Nat)
def DSt.no:DSt:=⟨[],[]⟩
def Zv (st:DSt) (l:List Nat):Int × DSt :=
 if st.lvs.idxOf l<st.lvs.length then(-1-(st.lvs.idxOf l:Int),st)else(-1-(st.lvs.length:Int),⟨st.nds,st.lvs++[l]⟩)
def aP (st:DSt) (sc:Nat) (nx:List Int):Int × DSt :=
 if st.nds.idxOf (sc,nx)<st.nds.length then((st.nds.idxOf (sc,nx):Int),st)else((st.nds.length:Int),⟨st.nds++[(sc,nx)],st.lvs⟩)
def J9 (nx:List Int):Bool:=nx.all fun t=>t==nx.headD 0
def shut (sc:Nat) (nx:List Int) (st:DSt):Int × DSt:=if J9 nx=true then(nx.headD 0,st)else aP st sc nx
def Hp (f:Nat->DSt->Int × DSt):List Nat->DSt->List Int × DSt
 | [],st=>([],st)
 | c::r,st=>((f c st).1::(Hp f r (f c st).2).1,(Hp f r (f c st).2).2)
def tgt (lf:List Nat->List Nat):List (List Nat)->Nat->List Nat->DSt->Int × DSt
 | [],_,pre,st=>Zv st (lf pre)
 | p::ps,sc,pre,st=>shut sc (Hp (fun c s=>tgt lf ps (sc+1) (pre++[c]) s) p st).1 (Hp (fun c s=>tgt lf ps (sc+1) (pre++[c]) s) p st).2
theorem qpv (f:Nat->DSt->Int × DSt):∀ (a b:List Nat) (st:DSt),Hp f (a++b) st=((Hp f a st).1++(Hp f b (Hp f a st).2).1,(Hp f b (Hp f a st).2).2)
 | [],b,st=>rfl
 | c::r,b,st=>by rw[List.cons_append,Hp,qpv f r b];rfl
theorem zcz (f:Nat->DSt->Int × DSt) (a:List Nat) (c:Nat) (st:DSt):Hp f (a++[c]) st=((Hp f a st).1++[(f c (Hp f a st).2).1],(f c (Hp f a st).2).2):=by rw[qpv];rfl
theorem oS (f:Nat->DSt->Int × DSt):∀ (a:List Nat) (st:DSt),(Hp f a st).1.length=a.length
 | [],st=>rfl
 | c::r,st=>by rw[Hp,List.length_cons,List.length_cons,oS f r]
structure Ext (a b:DSt):Prop where
 nds:∀ (i:Nat) x,a.nds[i]?=some x->b.nds[i]?=some x
 lvs:∀ (i:Nat) x,a.lvs[i]?=some x->b.lvs[i]?=some x
theorem Ext.refl (a:DSt):Ext a a:=⟨fun _ _ h=>h,fun _ _ h=>h⟩
theorem Ext.trans {a b c:DSt} (h:Ext a b) (h':Ext b c):Ext a c:=⟨fun i x e=>h'.nds i x (h.nds i x e),fun i x e=>h'.lvs i x (h.lvs i x e)⟩
def TOk (st:DSt) (sc:Nat) (t:Int):Prop:=(∃ n:Nat,t = -1-(n:Int)/\n<st.lvs.length)\/(∃ (n:Nat) (x:Nat × List Int),t=(n:Int)/\st.nds[n]?=some x/\sc<=x.1)
theorem TOk.mono {st st':DSt} {sc sc':Nat} {t:Int} (h:TOk st sc t) (he:Ext st st') (hs:sc'<=sc):TOk st' sc' t:=by
 rcases h with⟨n,e,hn⟩ | ⟨n,x,e,hn,hx⟩
 ·exact .inl ⟨n,e,(List.getElem?_eq_some_iff.1 (he.lvs n _ (Ac hn))).1⟩
 ·exact .inr ⟨n,x,e,he.nds n x hn,by omega⟩
def Cu (P:List (List Nat)) (cs:List Nat):Prop:=cs.length=P.length/\∀ (i:Nat) (c:Nat),cs[i]?=some c->∃ p,P[i]?=some p/\c∈p
theorem Cu.nil:Cu [] []:=⟨rfl,fun i c h=>by cases h⟩
theorem Cu.cons {p:List Nat} {P:List (List Nat)} {c:Nat} {cs:List Nat} (hc:c∈p) (h:Cu P cs):Cu (p::P) (c::cs):=by
 refine⟨by simp[h.1],fun i d hd=>?_⟩
 rcases i with _ | i
 ·cases hd;exact⟨p,rfl,hc⟩
 ·exact h.2 i d hd
theorem Cu.open {p:List Nat} {P:List (List Nat)} {cs:List Nat} (h:Cu (p::P) cs):∃ c r,cs=c::r/\c∈p/\Cu P r:=by
 obtain⟨h1,h2⟩:=h
 cases cs with
 | nil=>cases h1
 | cons c r =>
  refine⟨c,r,rfl,?_,by simpa using h1,fun i d hd=>h2 (i+1) d hd⟩;obtain⟨q,hq,hc⟩:=h2 0 c rfl;cases hq;exact hc
theorem Cu.append {P Q:List (List Nat)} {a b:List Nat} (h:Cu P a) (h':Cu Q b):Cu (P++Q) (a++b):=by
 refine⟨by simp[h.1,h'.1],fun i c hc=>?_⟩
 rcases Nat.lt_or_ge i a.length with hl | hl
 ·rw[List.getElem?_append_left hl]at hc
  obtain⟨p,hp,hm⟩:=h.2 i c hc;exact⟨p,by rw[List.getElem?_append_left (by rw[<- h.1];exact hl)];exact hp,hm⟩
 ·rw[List.getElem?_append_right hl]at hc
  obtain⟨p,hp,hm⟩:=h'.2 _ c hc;exact⟨p,by rw[List.getElem?_append_right (by rw[<- h.1];exact hl),<- h.1];exact hp,hm⟩
inductive Lu (P:List (List Nat)) (st:DSt) (cs:List Nat):Int->List Nat->Prop
 | leaf (n:Nat) (l:List Nat):st.lvs[n]?=some l->Lu P st cs (-1-(n:Int)) l
 | node (n sc:Nat) (nx:List Int) (t:Int) (l:List Nat):st.nds[n]?=some (sc,nx)->nx[(P[sc]?.getD []).idxOf (cs[sc]?.getD 0)]?=some t->Lu P st cs t l->Lu P st cs (n:Int) l
theorem Lu.ext {P:List (List Nat)} {st st':DSt} {cs:List Nat} {t:Int} {l:List Nat} (h:Lu P st cs t l) (he:Ext st st'):Lu P st' cs t l:=by
 induction h with
 | leaf n l h=>exact .leaf n l (he.lvs n l h)
 | node n sc nx t l h1 h2 _ ih=>exact .node n sc nx t l (he.nds n _ h1) h2 ih
inductive Reach (st:DSt):Int->Int->Prop
 | refl (t:Int):Reach st t t
 | step (n sc:Nat) (nx:List Int) (t u:Int):st.nds[n]?=some (sc,nx)->t∈nx->Reach st t u->Reach st (n:Int) u
theorem Reach.ext {st st':DSt} {t u:Int} (h:Reach st t u) (he:Ext st st'):Reach st' t u:=by
 induction h with
 | refl t=>exact .refl t
 | step n sc nx t u h1 h2 _ ih=>exact .step n sc nx t u (he.nds n _ h1) h2 ih
def New (a b:DSt) (t:Int):Prop:=(∃ n:Nat,t = -1-(n:Int)/\a.lvs.length<=n/\n<b.lvs.length)\/(∃ n:Nat,t=(n:Int)/\a.nds.length<=n/\n<b.nds.length)
theorem New.not (a:DSt) (t:Int):¬ New a a t:=by
 rintro(⟨n,_,h1,h2⟩ | ⟨n,_,h1,h2⟩)<;>omega
theorem New.split {a b c:DSt} {t:Int} (h:New a c t):New a b t\/New b c t:=by
 rcases h with⟨n,e,h1,h2⟩ | ⟨n,e,h1,h2⟩
 ·rcases Nat.lt_or_ge n b.lvs.length with h | h
  ·exact .inl (.inl ⟨n,e,h1,h⟩)
  ·exact .inr (.inl ⟨n,e,h,h2⟩)
 ·rcases Nat.lt_or_ge n b.nds.length with h | h
  ·exact .inl (.inr ⟨n,e,h1,h⟩)
  ·exact .inr (.inr ⟨n,e,h,h2⟩)
structure WF (P:List (List Nat)) (lf:List Nat->List Nat) (st:DSt):Prop where
 node:∀ (n sc:Nat) (nx:List Int),st.nds[n]?=some (sc,nx)->sc<P.length/\nx.length=(P[sc]?.getD []).length/\J9 nx=false/\∀ t∈nx,TOk st (sc+1) t
 leaf:∀ (n:Nat) (l:List Nat),st.lvs[n]?=some l->∃ cs,Cu P cs/\l=lf cs
 nnd:st.nds.Nodup
 lnd:st.lvs.Nodup
theorem WF.no (P:List (List Nat)) (lf:List Nat->List Nat):WF P lf DSt.no:=⟨fun n sc nx h=>(by cases h),fun n l h=>(by cases h),List.nodup_nil,List.nodup_nil⟩
structure zL (P:List (List Nat)) (lf:List Nat->List Nat) (sc:Nat) (pre:List Nat) (Q:List (List Nat)) (st:DSt) (r:Int × DSt):Prop where
 wf:WF P lf r.2
 ext:Ext st r.2
 tok:TOk r.2 sc r.1
 ev:∀ cs,Cu Q cs->Lu P r.2 (pre++cs) r.1 (lf (pre++cs))
 new:∀ u,New st r.2 u->Reach r.2 r.1 u
theorem xA {α:Type} [BEq α] [LawfulBEq α] {l:List α} {a:α} (h:l.idxOf a<l.length):l[l.idxOf a]?=some a:=by
 rw[Ac h];exact congrArg some (List.getElem_idxOf h)
theorem zd9 {P:List (List Nat)} {lf:List Nat->List Nat} {st:DSt} {pre:List Nat} (sc:Nat) (h:WF P lf st) (hp:Cu P pre):zL P lf sc pre [] st (Zv st (lf pre)):=by
 unfold Zv
 by_cases hi:st.lvs.idxOf (lf pre)<st.lvs.length
 ·rw[if_pos hi]
  refine⟨h,Ext.refl _,.inl ⟨_,rfl,hi⟩,fun cs hc=>?_,fun u hu=>?_⟩
  ·obtain rfl:cs=[]:=List.length_eq_zero_iff.1 hc.1
   rw[List.append_nil];exact .leaf _ _ (xA hi)
  ·exact absurd hu (New.not st u)
 ·rw[if_neg hi]
  have bK:Ext st ⟨st.nds,st.lvs++[lf pre]⟩:=⟨fun _ _ h=>h,fun i x hx=>by show(st.lvs++[lf pre])[i]?=_;rw[List.getElem?_append_left (List.getElem?_eq_some_iff.1 hx).1];exact hx⟩
  have Qu:(st.lvs++[lf pre])[st.lvs.length]?=some (lf pre):=by simp
  refine⟨⟨fun n s nx hn=>?_,fun n l hl=>?_,h.nnd,?_⟩,bK,.inl ⟨_,rfl,by show st.lvs.length<(st.lvs++[lf pre]).length;simp⟩,fun cs hc=>?_,fun u hu=>?_⟩
  ·obtain⟨h1,h2,h3,h4⟩:=h.node n s nx hn
   exact⟨h1,h2,h3,fun t ht=>(h4 t ht).mono bK (Ab _)⟩
  ·have hl:(st.lvs++[lf pre])[n]?=some l:=hl
   rcases Nat.lt_or_ge n st.lvs.length with Aj | Of
   ·rw[List.getElem?_append_left Aj]at hl;exact h.leaf n l hl
   ·rw[List.getElem?_append_right Of]at hl
    have:n-st.lvs.length=0:=by
     have := (List.getElem?_eq_some_iff.1 hl).1;simp at this;omega
    rw[this]at hl;cases hl
    exact⟨pre,hp,rfl⟩
  ·show(st.lvs++[lf pre]).Nodup
   rw[List.nodup_append];refine⟨h.lnd,by simp,fun a ha b hb=>?_⟩;simp only[List.mem_singleton]at hb;subst hb;rintro rfl;exact hi (List.idxOf_lt_length_of_mem ha)
  ·obtain rfl:cs=[]:=List.length_eq_zero_iff.1 hc.1
   rw[List.append_nil];exact .leaf _ _ Qu
  ·rcases hu with⟨n,rfl,h1,h2⟩ | ⟨n,rfl,h1,h2⟩
   ·have h2:n<(st.lvs++[lf pre]).length:=h2
    have:n=st.lvs.length:=by simp at h2;omega
    subst this;exact .refl _
   ·have h2:n<st.nds.length:=h2
    omega
structure qik (P:List (List Nat)) (lf:List Nat->List Nat) (sc:Nat) (pre:List Nat) (Q:List (List Nat)) (p:List Nat) (st:DSt) (r:List Int × DSt):Prop where
 wf:WF P lf r.2
 ext:Ext st r.2
 each:∀ (j c:Nat) (t:Int),p[j]?=some c->r.1[j]?=some t->TOk r.2 sc t/\∀ cs,Cu Q cs->Lu P r.2 (pre++[c]++cs) t (lf (pre++[c]++cs))
 new:∀ u,New st r.2 u->∃ t∈r.1,Reach r.2 t u
theorem qk3 {P:List (List Nat)} {lf:List Nat->List Nat} {sc:Nat} {pre:List Nat} {Q:List (List Nat)} {f:Nat->DSt->Int × DSt} :
  ∀ (p:List Nat) (st:DSt),WF P lf st->(∀ c∈p,∀ s,WF P lf s->zL P lf sc (pre++[c]) Q s (f c s))->qik P lf sc pre Q p st (Hp f p st)
 | [],st,h,_=>⟨h,Ext.refl _,fun j c t hj=>(by cases hj),fun u hu=>absurd hu (New.not st u)⟩
 | c::p,st,h,hf=>by
  have h1:=hf c (List.mem_cons_self ..) st h
  have h2:=qk3 p (f c st).2 h1.wf fun c' hc s hs=>hf c' (List.mem_cons_of_mem _ hc) s hs
  refine⟨h2.wf,h1.ext.trans h2.ext,fun j c' t hj ht=>?_,fun u hu=>?_⟩
  ·rcases j with _ | j
   ·cases hj;cases ht
    exact⟨h1.tok.mono h2.ext (Ab _),fun cs hc=>(h1.ev cs hc).ext h2.ext⟩
   ·exact h2.each j c' t hj ht
  ·rcases New.split (b:=(f c st).2) hu with hu | hu
   ·exact⟨_,List.mem_cons_self ..,(h1.new u hu).ext h2.ext⟩
   ·obtain⟨t,ht,hr⟩:=h2.new u hu
    exact⟨t,List.mem_cons_of_mem _ ht,hr⟩
theorem qb9 {nx:List Int} (h:J9 nx=true) {t:Int} (ht:t∈nx):t=nx.headD 0:=by
 unfold J9 at h
 simpa using List.all_eq_true.1 h t ht
theorem zgt {P:List (List Nat)} {lf:List Nat->List Nat} {sc:Nat} {pre p:List Nat} {Q:List (List Nat)} {st:DSt} {r:List Int × DSt} (h:qik P lf (sc+1) pre Q p st r) (hl:r.1.length=p.length) (hP:P[sc]?=some p) (hn:p.Nodup) (h0:p≠[]) (nG:pre.length=sc) :
  zL P lf sc pre (p::Q) st (shut sc r.1 r.2):=by
 obtain⟨nx,st'⟩:=r;have hl:nx.length=p.length:=hl;have En:0<p.length:=List.length_pos_iff.2 h0
 have Bq:∀ (c:Nat),c∈p->∃ t,nx[p.idxOf c]?=some t/\p[p.idxOf c]?=some c:=fun c hc=>by
  have hi:=List.idxOf_lt_length_of_mem hc;exact⟨nx[p.idxOf c]'(by omega),Ac _,xA hi⟩
 have Tn:∀ t∈nx,∃ (j c:Nat),p[j]?=some c/\nx[j]?=some t:=fun t ht=>by
  obtain⟨j,hj,rfl⟩:=List.getElem_of_mem ht;exact⟨j,p[j]'(by omega),Ac _,Ac _⟩
 have T7:∀ (c:Nat) (cs:List Nat),pre++c::cs=pre++[c]++cs:=fun c cs=>by simp
 have Cd:sc<P.length:=(List.getElem?_eq_some_iff.1 hP).1
 have qv4:∀ (st'':DSt) (n:Nat),Ext st' st''->st''.nds[n]?=some (sc,nx)->∀ cs,Cu (p::Q) cs->Lu P st'' (pre++cs) (n:Int) (lf (pre++cs)):=fun st'' n he Fe cs De=>by
  obtain⟨c,cs',rfl,hc,qdr⟩:=De.open;obtain⟨t,ht,Pj⟩:=Bq c hc
  have hg:(pre++c::cs')[sc]?=some c:=by rw[List.getElem?_append_right (by omega),nG,Nat.sub_self];rfl
  refine .node n sc nx t _ Fe ?_ ?_
  ·rw[hP,hg];exact ht
  ·rw[T7]
   exact((h.each _ c t Pj ht).2 cs' qdr).ext he
 have qyc:∀ (st'':DSt) (n:Nat),Ext st' st''->st''.nds[n]?=some (sc,nx)->∀ u,New st st' u->Reach st'' (n:Int) u:=fun st'' n he Fe u hu=>by
  obtain⟨t,ht,hr⟩:=h.new u hu;exact .step n sc nx t u Fe ht (hr.ext he)
 unfold shut
 by_cases ha:J9 nx=true
 ·rw[if_pos ha]
  have hd:nx.headD 0∈nx:=by
   cases nx with
   | nil=>simp at hl;omega
   | cons a b=>exact List.mem_cons_self ..
  refine⟨h.wf,h.ext,?_,fun cs De=>?_,fun u hu=>?_⟩
  ·obtain⟨j,c,hj,ht⟩:=Tn _ hd
   exact(h.each j c _ hj ht).1.mono (Ext.refl _) (Nat.le_succ _)
  ·obtain⟨c,cs',rfl,hc,qdr⟩:=De.open
   obtain⟨t,ht,Pj⟩:=Bq c hc;have e:=qb9 ha (List.mem_of_getElem? ht);rw[T7];have := (h.each _ c t Pj ht).2 cs' qdr;rw[e]at this;exact this
  ·obtain⟨t,ht,hr⟩:=h.new u hu
   rw[qb9 ha ht]at hr;exact hr
 ·rw[if_neg ha]
  have zgv:J9 nx=false:=by simpa using ha
  unfold aP
  by_cases hi:st'.nds.idxOf (sc,nx)<st'.nds.length
  ·have Fj:(sc,nx)∈st'.nds:=List.mem_of_getElem? (xA hi)
   rw[if_pos hi];have Fe:=xA hi;exact⟨h.wf,h.ext,.inr ⟨_,_,rfl,Fe,Ab _⟩,qv4 st' _ (Ext.refl _) Fe,qyc st' _ (Ext.refl _) Fe⟩
  ·rw[if_neg hi]
   have bK:Ext st' ⟨st'.nds++[(sc,nx)],st'.lvs⟩:=⟨fun i x hx=>by show(st'.nds++[(sc,nx)])[i]?=_;rw[List.getElem?_append_left (List.getElem?_eq_some_iff.1 hx).1];exact hx,fun _ _ h=>h⟩
   have Qu:(st'.nds++[(sc,nx)])[st'.nds.length]?=some (sc,nx):=by simp
   refine⟨⟨fun n s nx' Fe=>?_,h.wf.leaf,?_,h.wf.lnd⟩,h.ext.trans bK,.inr ⟨_,_,rfl,Qu,Ab _⟩,qv4 _ _ bK Qu,fun u hu=>?_⟩
   ·have Fe:(st'.nds++[(sc,nx)])[n]?=some (s,nx'):=Fe
    rcases Nat.lt_or_ge n st'.nds.length with Aj | Of
    ·rw[List.getElem?_append_left Aj]at Fe
     obtain⟨h1,h2,h3,h4⟩:=h.wf.node n s nx' Fe;exact⟨h1,h2,h3,fun t ht=>(h4 t ht).mono bK (Ab _)⟩
    ·rw[List.getElem?_append_right Of]at Fe
     have:n-st'.nds.length=0:=by
      have := (List.getElem?_eq_some_iff.1 Fe).1;simp at this;omega
     rw[this]at Fe;cases Fe
     refine⟨Cd,by rw[hP];exact hl,zgv,fun t ht=>?_⟩;obtain⟨j,c,hj,zp0⟩:=Tn t ht;exact(h.each j c t hj zp0).1.mono bK (Ab _)
   ·show(st'.nds++[(sc,nx)]).Nodup
    rw[List.nodup_append];refine⟨h.wf.nnd,by simp,fun a ha b hb=>?_⟩;simp only[List.mem_singleton]at hb;subst hb;rintro rfl;exact hi (List.idxOf_lt_length_of_mem ha)
   ·rcases New.split (b:=st') hu with hu | hu
    ·exact qyc _ _ bK Qu u hu
    ·rcases hu with⟨n,rfl,h1,h2⟩ | ⟨n,rfl,h1,h2⟩
     ·have h2:n<st'.lvs.length:=h2
      omega
     ·have h2:n<(st'.nds++[(sc,nx)]).length:=h2
      have:n=st'.nds.length:=by simp at h2;omega
      subst this;exact .refl _
theorem qi6 {P:List (List Nat)} {lf:List Nat->List Nat} (hP:∀ p∈P,p.Nodup/\p≠[]):∀ (ps:List (List Nat)) (sc:Nat) (pre:List Nat) (st:DSt),P.drop sc=ps->Cu (P.take sc) pre->sc<=P.length->WF P lf st->zL P lf sc pre ps st (tgt lf ps sc pre st)
 | [],sc,pre,st,hd,hc,hs,h=>by
  have hl:P.length<=sc:=by
   have := congrArg List.length hd;simp at this;omega
  rw[List.take_of_length_le hl]at hc;exact zd9 sc h hc
 | p::ps,sc,pre,st,hd,hc,hs,h=>by
  have Aj:sc<P.length:=by
   rcases Nat.lt_or_ge sc P.length with h | h
   ·exact h
   ·rw[List.drop_of_length_le h]at hd;cases hd
  have hp:P[sc]?=some p:=by
   have := congrArg (·[0]?) hd
   simpa using this
  have Yh:P.drop (sc+1)=ps:=by
   have := congrArg List.tail hd
   simpa using this
  have nG:pre.length=sc:=by rw[hc.1,List.length_take];omega
  obtain⟨n1,n2⟩:=hP p (List.mem_of_getElem? hp);refine zgt (qk3 p st h fun c Fl s Qz=>?_) (oS _ p st) hp n1 n2 nG;refine qi6 hP ps (sc+1) (pre++[c]) s Yh ?_ Aj Qz
  have:P.take (sc+1)=P.take sc++[p]:=by rw[List.take_add_one,hp];rfl
  rw[this];exact hc.append (Cu.cons Fl Cu.nil)
structure eN (P:List (List Nat)) (lf:List Nat->List Nat) (st:DSt) (root:Int):Prop where
 wf:WF P lf st
 tok:TOk st 0 root
 ev:∀ cs,Cu P cs->Lu P st cs root (lf cs)
 all:∀ u,New DSt.no st u->Reach st root u
theorem qgk {P:List (List Nat)} {lf:List Nat->List Nat} (hP:∀ p∈P,p.Nodup/\p≠[]):eN P lf (tgt lf P 0 [] DSt.no).2 (tgt lf P 0 [] DSt.no).1:=by
 have h:=qi6 hP P 0 [] DSt.no rfl Cu.nil (Nat.zero_le _) (WF.no P lf);exact⟨h.wf,h.tok,fun cs hc=>by simpa using h.ev cs hc,h.new⟩
section
variable {P:List (List Nat)} {lf:List Nat->List Nat} {st:DSt} {root:Int}
theorem Lu.reach {cs:List Nat} {t:Int} {l:List Nat} (h:Lu P st cs t l):∃ n:Nat,Reach st t (-1-(n:Int))/\st.lvs[n]?=some l:=by
 induction h with
 | leaf n l h=>exact⟨n,.refl _,h⟩
 | node n sc nx t l h1 h2 _ ih =>
  obtain⟨k,hk,hl⟩:=ih;exact⟨k,.step n sc nx t _ h1 (List.mem_of_getElem? h2) hk,hl⟩
def Tx (st:DSt) (W:List Nat->Bool) (t:Int):Prop:=∃ (n:Nat) (l:List Nat),Reach st t (-1-(n:Int))/\st.lvs[n]?=some l/\W l=true
theorem eN.gets (h:eN P lf st root) (W:List Nat->Bool):Tx st W root ↔ ∃ l∈st.lvs,W l=true:=by
 constructor
 ·rintro⟨n,l,_,hl,hw⟩
  exact⟨l,List.mem_of_getElem? hl,hw⟩
 ·rintro⟨l,hl,hw⟩
  obtain⟨n,hn,rfl⟩:=List.getElem_of_mem hl;exact⟨n,_,h.all _ (.inl ⟨n,rfl,Nat.zero_le _,hn⟩),Ac hn,hw⟩
theorem eN.leaves (h:eN P lf st root) (W:List Nat->Bool):(∃ l∈st.lvs,W l=true) ↔ ∃ cs,Cu P cs/\W (lf cs)=true:=by
 constructor
 ·rintro⟨l,hl,hw⟩
  obtain⟨n,hn,rfl⟩:=List.getElem_of_mem hl;obtain⟨cs,hc,e⟩:=h.wf.leaf n _ (Ac hn);exact⟨cs,hc,by rw[<- e];exact hw⟩
 ·rintro⟨cs,hc,hw⟩
  obtain⟨n,_,hl⟩:=(h.ev cs hc).reach;exact⟨_,List.mem_of_getElem? hl,hw⟩
theorem qwf {W:List Nat->Bool} {n:Nat}:Tx st W (-1-(n:Int)) ↔ ∃ l,st.lvs[n]?=some l/\W l=true:=by
 constructor
 ·rintro⟨m,l,hr,hl,hw⟩
  generalize e:(-1-(n:Int))=t at hr
  generalize e2:(-1-(m:Int))=u at hr
  cases hr with
  | refl =>
   have:m=n:=by omega
   subst this;exact⟨l,hl,hw⟩
  | step k=>omega
 ·rintro⟨l,hl,hw⟩
  exact⟨n,l,.refl _,hl,hw⟩
theorem qyk {W:List Nat->Bool} {n sc:Nat} {nx:List Int} (hn:st.nds[n]?=some (sc,nx)):Tx st W (n:Int) ↔ ∃ t∈nx,Tx st W t:=by
 constructor
 ·rintro⟨m,l,hr,hl,hw⟩
  generalize e:(n:Int)=t at hr
  generalize e2:(-1-(m:Int))=u at hr
  cases hr with
  | refl=>omega
  | step k sc' nx' t' u' h1 h2 h3 =>
   have:k=n:=by omega
   subst this;rw[hn]at h1;cases h1
   exact⟨t',h2,m,l,by rw[e2];exact h3,hl,hw⟩
 ·rintro⟨t,ht,m,l,hr,hl,hw⟩
  exact⟨m,l,.step n sc nx t _ hn ht hr,hl,hw⟩
def tsc (P:List (List Nat)) (st:DSt) (t:Int):Nat:=if t<0 then P.length else((st.nds[t.toNat]?).map (·.1)).getD P.length
theorem o8 {n sc:Nat} {nx:List Int} (hn:st.nds[n]?=some (sc,nx)):tsc P st (n:Int)=sc:=by
 unfold tsc;rw[if_neg (by omega),Int.toNat_natCast,hn];rfl
theorem qgz (n:Nat):tsc P st (-1-(n:Int))=P.length:=by unfold tsc;rw[if_pos (by omega)]
def iM (P:List (List Nat)) (st:DSt) (root t:Int) (cells:List Nat):Prop:=∀ cs l,(∀ i,i<tsc P st t->cs[i]?.getD 0=cells[i]?.getD 0)->Lu P st cs t l->Lu P st cs root l
theorem iM.start (cells:List Nat):iM P st root root cells:=fun _ _ _ h=>h
theorem iM.step {t:Int} {n sc i c:Nat} {nx:List Int} {cells:List Nat} (h:iM P st root (n:Int) cells) (hn:st.nds[n]?=some (sc,nx)) (ht:nx[i]?=some t) (hs:sc<tsc P st t) (hc:(P[sc]?.getD [])[i]?=some c) (Ru:(P[sc]?.getD []).Nodup) (hl:sc<cells.length):iM P st root t (cells.set sc c):=by
 intro cs l ha he
 refine h cs l (fun j hj=>?_) ?_
 ·rw[o8 hn]at hj
  rw[ha j (by omega),List.getElem?_set_ne (by omega)]
 ·refine .node n sc nx t l hn ?_ he
  have e:cs[sc]?.getD 0=c:=by rw[ha sc hs,List.getElem?_set_self hl];rfl
  obtain⟨Aj,xD⟩:=List.getElem?_eq_some_iff.1 hc;rw[e,<- xD,Ru.idxOf_getElem i Aj];exact ht
theorem Cu.set {cells:List Nat} {sc c:Nat} {p:List Nat} (h:Cu P cells) (hp:P[sc]?=some p) (hc:c∈p):Cu P (cells.set sc c):=by
 refine⟨by rw[List.length_set,h.1],fun i d hd=>?_⟩
 by_cases e:sc=i
 ·subst e
  rw[List.getElem?_set_self (by rw[h.1];exact(List.getElem?_eq_some_iff.1 hp).1)]at hd;cases hd
  exact⟨p,hp,hc⟩
 ·rw[List.getElem?_set_ne e]at hd
  exact h.2 i d hd
end
def Gd:List (List Nat)->Nat
 | []=>1
 | p::ps=>p.length*Gd ps
theorem qct {P:List (List Nat)} (h:∀ p∈P,p≠[]):1<=Gd P:=by
 induction P with
 | nil=>exact Ab _
 | cons p P ih =>
  have h1:=ih fun q hq=>h q (List.mem_cons_of_mem _ hq)
  have h2:1<=p.length:=List.length_pos_iff.2 (h p (List.mem_cons_self ..));exact Nat.mul_le_mul h2 h1
theorem qfe {f:Nat->DSt->Int × DSt} {k:Nat} (hf:∀ c s,(f c s).2.nds.length+1<=s.nds.length+k/\(f c s).2.lvs.length<=s.lvs.length+k):∀ (p:List Nat) (st:DSt),(Hp f p st).2.nds.length+p.length<=st.nds.length+p.length*k/\(Hp f p st).2.lvs.length<=st.lvs.length+p.length*k
 | [],st=>by simp[Hp]
 | c::p,st=>by
  have h1:=hf c st;have h2:=qfe hf p (f c st).2;rw[Hp];simp only[List.length_cons,Nat.add_mul,Nat.one_mul];omega
theorem qgb (lf:List Nat->List Nat):∀ (ps:List (List Nat)) (sc:Nat) (pre:List Nat) (st:DSt),(∀ p∈ps,p≠[])->(tgt lf ps sc pre st).2.nds.length+1<=st.nds.length+Gd ps/\(tgt lf ps sc pre st).2.lvs.length<=st.lvs.length+Gd ps
 | [],sc,pre,st,_=>by
  rw[tgt];unfold Zv
  split<;>simp[Gd]
 | p::ps,sc,pre,st,h=>by
  have hp:1<=p.length:=List.length_pos_iff.2 (h p (List.mem_cons_self ..));have hm:=qfe (k:=Gd ps) (f:=fun c s=>tgt lf ps (sc+1) (pre++[c]) s) (fun c s=>qgb lf ps (sc+1) (pre++[c]) s fun q hq=>h q (List.mem_cons_of_mem _ hq)) p st;have Cc:=oS (fun c s=>tgt lf ps (sc+1) (pre++[c]) s) p st;rw[tgt]
  generalize Hp (fun c s=>tgt lf ps (sc+1) (pre++[c]) s) p st=r at hm Cc ⊢
  show _<=_+p.length*Gd ps/\_<=_+p.length*Gd ps
  unfold shut
  by_cases ha:J9 r.1=true
  ·rw[if_pos ha]
   refine⟨?_,hm.2⟩
   show r.2.nds.length+1<=_
   omega
  ·rw[if_neg ha]
   have h2:2<=p.length:=by
    rcases Nat.lt_or_ge p.length 2 with h | h
    ·exfalso
     apply ha
     obtain⟨x,hx⟩:∃ x,r.1=[x]:=by
      match hr:r.1,Cc with
      | [x],_=>exact⟨x,rfl⟩
      | [],hl=>simp at hl;omega
      | a::b::c,hl=>simp at hl;omega
     rw[hx];simp[J9]
    ·exact h
   unfold aP
   split
   ·refine⟨?_,hm.2⟩
    show r.2.nds.length+1<=_
    omega
   ·refine⟨?_,hm.2⟩
    show(r.2.nds++[(sc,r.1)]).length+1<=_
    simp only[List.length_append,List.length_cons,List.length_nil];omega
section
variable (st:DSt)
end
section
variable {st:DSt} {root:Int} {vn vl:List Nat} {todo:List Int}
end
end Go.Proofs.YtlldjmagbjjeoaaGreatDoor
