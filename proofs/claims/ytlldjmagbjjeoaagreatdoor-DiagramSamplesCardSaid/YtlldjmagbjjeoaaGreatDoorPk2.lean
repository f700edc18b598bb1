/- Contracts and plain laws, several texts in one (ORF, ORow, GColl, GLong, GWhole, GWhole2, GAdd, GFrac, GFCmp). No conditions beyond those stated. -/
import Derived.RangeFuncBound
import Derived.RangeFuncCalls
import Derived.RangeFuncLeaves
import Derived.Shelf.RegionOpen
import Derived.OwnWalkIn
import Derived.TacticsInMore
import Derived.LoopNIn
import Derived.LoopIn
import Derived.OrdersHeld
import Derived.Deep.Upon
import Derived.Great.BuildSlice
import Derived.Test.YtlldjmagbjjeoaaGreatDoorPk1
set_option maxRecDepth 100000
set_option maxHeartbeats 40000000
namespace Go.Proofs.YtlldjmagbjjeoaaGreatDoor
open Go.RowKit
set_option linter.unusedVariables false
def qe3 {α:Type} (P:Program) (gf:Nat) (mk:Nat->Array Value) (encs:α->Array Value) (Xp:List α->α->World->Prop) (St Kp:World->World->Prop) (S Sp:List α->World->Prop) (Pre:World->Prop):Prop :=
 ∀ (n l:Nat) (J Jx:List α->World->Prop) (W:World),Pre W->(∀ s A B,J s A->St A B->J s B)->(∀ s A B,Jx s A->St A B->Jx s B) →
  (∀ pre x W1,J pre W1->Xp pre x W1->YieldAt Fence.wide (n-1) P l (encs x) W1 fun e W' =>
   (e=.returned (.bool true)/\J (pre++[x]) W'/\Kp W1 W')\/(e=.returned (.bool false)/\Jx (pre++[x]) W'/\Kp W1 W')) →
  J [] W →
  CallsIn Fence.wide n P gf (mk l) W fun e W'=>(∃ v,e=.returned v)/\((∃ xs,S xs W'/\J xs W')\/(∃ pre,Sp pre W'/\Jx pre W'))
def zid {α:Type} (B:Nat) (Kp:World->World->Prop) (I:List α->World->Prop) (Ix:Code->List α->World->Prop) (xs:List α) (W:World):Exit->Act->World->Prop
 | .normal,_,W'=>KeepsFrom B W W'/\Kp W W'/\I xs W'
 | .ret,_,W'=>KeepsFrom B W W'/\Kp W W'/\Ix .ret xs W'
 | .exit id,_,W'=>KeepsFrom B W W'/\Kp W W'/\Ix (.exit id) xs W'
 | .goto t,_,W'=>KeepsFrom B W W'/\Kp W W'/\Ix (.goto t) xs W'
 | .panic _,_,_=>False
 | .outgrown,_,_=>False
def vJ (B:Nat) (K:World->Prop):Prop:=∀ (W:World) (l:Nat) (o o':Obj),K W->B<=l->W.heap[l]?=some o->o.isCells=false->K (W.putObj l o')
theorem Yv {n:Nat} (h:Fence.wide.depth.isSome=true):1<=n:=by simp[Fence.wide]at h
theorem qp9 {P:Program} {α:Type} {g:Operand} {ps:Array Tmp} {assign body:Code} {Q:Exit->Act->World->Prop} {a:Act} {w:World} {n gf:Nat} {fi lb:Array Value}
  (hg:a.eval g=.func (.func gf) fi lb) (eg:∀ args w,(callFunc gf args).run P w=.ok (.enter gf args) w)
  {encs:α->Array Value} {Xp:List α->α->World->Prop} {St Kp:World->World->Prop} {S Sp:List α->World->Prop} {Pre:World->Prop}
  (zls:qe3 P gf (fun l=>fi++#[.func (.yield l) #[] #[]]++lb) encs Xp St Kp S Sp Pre)
  (D4:∀ x,(encs x).size=ps.size)
  (I:List α->World->Prop) (Ix:Code->List α->World->Prop) (A1:List α->α->Act->World->Prop)
  (hSt:∀ A B,w.heap.size<=A.heap.size->St A B->KeepsFrom w.heap.size A B)
  (hI:∀ s,vJ w.heap.size (I s)) (hIx:∀ c s,vJ w.heap.size (Ix c s)) (hA:∀ s x a1,vJ w.heap.size (A1 s x a1))
  (hS:∀ s,vJ w.heap.size (S s)) (hSp:∀ s,vJ w.heap.size (Sp s))
  (hISt:∀ s A B,I s A->St A B->I s B) (hIxSt:∀ c s A B,Ix c s A->St A B->Ix c s B)
  (hKt:∀ A B C,Kp A B->Kp B C->Kp A C) (hKb:∀ (W:World) (l:Nat) (o o':Obj),w.heap.size<=l->W.heap[l]?=some o->o.isCells=false->Kp W (W.putObj l o'))
  (h0:∀ o o',I [] ((w.alloc o).alloc o')) (hPre:∀ o o',Pre ((w.alloc o).alloc o'))
  (hassign:∀ (l:Nat) (pre:List α) (x:α) (W:World),I pre W->Xp pre x W->w.heap.size+1<W.heap.size →
   assign.wpIn (Fence.wide.inRound l) (n-1-1) P (Exit.then (fun a1 W1=>KeepsFrom w.heap.size W W1/\Kp W W1/\A1 pre x a1 W1) (fun _ _ _=>False)) { tmps:=(ps.zip (encs x)).foldl (fun t (p,v)=>t.setIfInBounds p v) a.tmps,defers:=[] } W)
  (hbody:∀ (l:Nat) (pre:List α) (x:α) (a1:Act) (W:World),A1 pre x a1 W->body.wpIn (Fence.wide.inRound l) (n-1-1) P (zid w.heap.size Kp I Ix (pre++[x]) W) a1 W)
  (hdone:∀ (D:Nat) (xs:List α) (W:World),w.heap.size<=D->S xs W->I xs W->W.heap[D]?=some (.deferred (some []))->Q .normal { a with defers:={ target:=.collected D,args:=#[] }::a.defers } W)
  (hstop:∀ (D:Nat) (c:Code) (pre:List α) (W:World),w.heap.size<=D->Sp pre W->Ix c pre W->W.heap[D]?=some (.deferred (some []))->c.wpIn Fence.wide n P Q { a with defers:={ target:=.collected D,args:=#[] }::a.defers } W) :
  (Code.rangeFunc g ps assign body).wpIn Fence.wide n P Q a w:=by
 refine wpIn_rangeFunc fun fn _=>?_
 obtain⟨B,hB⟩:=Ae w.heap.size
 obtain⟨rc,Rx⟩:∃ rc:LoopState->Option Code->Loop,rc=fun st pe=>{ state:=st,pending:=pe,fn,tmps:=a.tmps,params:=ps,assign,body,defers:=B }:=⟨_,rfl⟩
 let bk (st:LoopState) (pe:Option Code) (W:World):Prop:=W.heap[B+1]?=some (.loop (rc st pe))/\W.heap[B]?=some (.deferred (some []))
 have zS:∀ {st pe} {A C:World},KeepsFrom B A C->bk st pe A->bk st pe C:=fun hk hb=>⟨hk.same _ _ (by omega) hb.1 rfl,hk.same _ _ (Ab _) hb.2 rfl⟩
 have qt3:∀ {st pe} {st' pe'} {A:World},bk st pe A->bk st' pe' (A.putObj (B+1) (.loop (rc st' pe'))):=fun hb =>
  ⟨World.putObj_heap_same (Array.getElem?_eq_some_iff.1 hb.1).1,(World.putObj_heap_other (by omega)).trans hb.2⟩
 obtain⟨W1,Ah⟩:=Ae ((w.alloc (.deferred (some []))).alloc (.loop (rc .ready none)))
 have zo0:bk .ready none W1:=by
  subst hB Ah;constructor
  ·have := World.alloc_heap_new (w.alloc (.deferred (some []))) (.loop (rc .ready none));rwa[World.size_alloc]at this
  ·exact(Below.heap_alloc _ _ _ (by simp)).trans (World.alloc_heap_new w _)
 have Gf:(resolve a.eval (rangeCall g (B+1)) 0).run P W1=.ok { target:=.fn (.func gf) lb,args:=fi++#[.func (.yield (B+1)) #[] #[]] } W1:=by
  simp only[resolve,hg];simp[go_sem]
 have N2:(invoke (.fn (.func gf) lb) (fi++#[.func (.yield (B+1)) #[] #[]])).run P W1=.ok (.enter gf (fi++#[.func (.yield (B+1)) #[] #[]]++lb)) W1:=by
  simp[invoke,go_sem,eg]
 refine⟨B+1,[{ target:=.collected B,args:=#[] }],W1,_,W1,gf,_,W1,?_,Gf,fun _ _=>trivial,N2,Yv,?_⟩
 ·rw[<- Ah,Rx,<- hB];exact run_enterLoop_outer _ _ _ _ _
 refine(zls (n-1) (B+1) (fun pre W=>I pre W/\bk .ready none W) (fun pre W=>∃ c,Ix c pre W/\bk .done (some c) W) W1 (Ah ▸ hPre _ _) ?_ ?_ ?_ ⟨Ah ▸ h0 _ _,zo0⟩).mono ?_
 ·rintro s A C ⟨hi,hb⟩ Ls
  have Dn:w.heap.size<=A.heap.size:=by have := (Array.getElem?_eq_some_iff.1 hb.2).1;omega
  exact⟨hISt s A C hi Ls,zS (hB ▸ hSt A C Dn Ls) hb⟩
 ·rintro s A C ⟨c,hi,hb⟩ Ls
  have Dn:w.heap.size<=A.heap.size:=by have := (Array.getElem?_eq_some_iff.1 hb.2).1;omega
  exact⟨c,hIxSt c s A C hi Ls,zS (hB ▸ hSt A C Dn Ls) hb⟩
 ·-- one round
  rintro pre x W ⟨hi,hb⟩ hx
  have Aj:w.heap.size+1<W.heap.size:=by have := (Array.getElem?_eq_some_iff.1 hb.1).1;omega
  have hy:=run_yield (P:=P) (args:=encs x) hb.1 (by rw[Rx];exact D4 x);refine⟨_,_,_,_,hy,roundIn_of_wpIn trivial ?_⟩;have zly:=hassign (B+1) pre x W hi hx Aj;rw[show(rc .ready none).tmps=a.tmps by rw[Rx],show(rc .ready none).params=ps by rw[Rx],show(rc .ready none).assign=assign by rw[Rx],show(rc .ready none).body=body by rw[Rx]];refine wpIn_mono zly ?_;rintro e a1 W2 hp
  cases e with
  | normal =>
   obtain⟨Jk,zl8,Z1⟩:=hp;rw[hB]at Jk;have Ai:=zS Jk hb;refine⟨_,run_beginRound Ai.1 (by rw[Rx]),?_⟩
   have qca:({ rc .ready none with state:=.busy }:Loop)=rc .busy none:=by rw[Rx]
   rw[qca];have Ak:bk .busy none (W2.putObj (B+1) (.loop (rc .busy none))):=qt3 Ai;have zwu:Kp W (W2.putObj (B+1) (.loop (rc .busy none))):=hKt _ _ _ zl8 (hKb _ _ _ _ (by omega) Ai.1 rfl);refine wpIn_mono (hbody (B+1) pre x a1 _ (hA _ _ _ _ _ _ _ Z1 (by omega) Ai.1 rfl)) ?_;rintro e a3 W3 hp
   have fin:∀ (jump:Option Code),KeepsFrom w.heap.size (W2.putObj (B+1) (.loop (rc .busy none))) W3->Kp (W2.putObj (B+1) (.loop (rc .busy none))) W3 →
     (Instr.endRound (B+1) jump).run P W3=.ok (.bool jump.isNone) (W3.putObj (B+1) (.loop (rc (if jump.isNone then .ready else .done) jump))) ∧
     bk .busy none W3/\bk (if jump.isNone then .ready else .done) jump (W3.putObj (B+1) (.loop (rc (if jump.isNone then .ready else .done) jump)))/\Kp W (W3.putObj (B+1) (.loop (rc (if jump.isNone then .ready else .done) jump))):=fun jump Iy Uk=>by
    rw[hB]at Iy;have Al:=zS Iy Ak;have hr:=run_endRound (P:=P) jump Al.1
    have he:({ rc .busy none with state:=if jump.isNone then .ready else .done,pending:=jump }:Loop)=rc (if jump.isNone then .ready else .done) jump:=by rw[Rx]
    rw[he]at hr;exact⟨hr,Al,qt3 Al,hKt _ _ _ (hKt _ _ _ zwu Uk) (hKb _ _ _ _ (by omega) Al.1 rfl)⟩
   cases e with
   | normal =>
    obtain⟨Iy,Uk,Ub⟩:=hp;obtain⟨hr,Al,Aq,dW⟩:=fin none Iy Uk;exact⟨_,_,hr,.inl ⟨rfl,⟨hI _ _ _ _ _ Ub (by omega) Al.1 rfl,Aq⟩,dW⟩⟩
   | ret =>
    obtain⟨Iy,Uk,Ub⟩:=hp;obtain⟨hr,Al,Aq,dW⟩:=fin (some .ret) Iy Uk;exact⟨_,_,hr,.inr ⟨rfl,⟨.ret,hIx _ _ _ _ _ _ Ub (by omega) Al.1 rfl,Aq⟩,dW⟩⟩
   | exit id =>
    obtain⟨Iy,Uk,Ub⟩:=hp;obtain⟨hr,Al,Aq,dW⟩:=fin (some (.exit id)) Iy Uk;exact⟨_,_,hr,.inr ⟨rfl,⟨.exit id,hIx _ _ _ _ _ _ Ub (by omega) Al.1 rfl,Aq⟩,dW⟩⟩
   | goto t =>
    obtain⟨Iy,Uk,Ub⟩:=hp;obtain⟨hr,Al,Aq,dW⟩:=fin (some (.goto t)) Iy Uk;exact⟨_,_,hr,.inr ⟨rfl,⟨.goto t,hIx _ _ _ _ _ _ Ub (by omega) Al.1 rfl,Aq⟩,dW⟩⟩
   | panic ch=>exact hp.elim
   | outgrown=>exact hp.elim
  | exit id=>exact hp.elim
  | ret=>exact hp.elim
  | goto t=>exact hp.elim
  | panic ch=>exact hp.elim
  | outgrown=>exact hp.elim
 ·-- behind the iterator
  have qca:∀ st,st≠LoopState.busy->∀ pe,(rc st pe).state≠.busy:=fun st h pe=>by rw[Rx];exact h
  have Nk:∀ st pe,(rc st pe).pending=pe:=fun st pe=>by rw[Rx]
  rintro e W2 ⟨⟨v,rfl⟩,(⟨xs,hs,hi,hb⟩ | ⟨pre,hs,c,hi,hb⟩)⟩
  ·have hr:=run_endLoop (P:=P) hb.1 (qca _ (by simp) _)
   rw[Nk]at hr;exact⟨none,_,hr,hdone B xs _ (by omega) (hS _ _ _ _ _ hs (by omega) hb.1 rfl) (hI _ _ _ _ _ hi (by omega) hb.1 rfl) ((World.putObj_heap_other (by omega)).trans hb.2)⟩
  ·have hr:=run_endLoop (P:=P) hb.1 (qca _ (by simp) _)
   rw[Nk]at hr;exact⟨some c,_,hr,hstop B c pre _ (by omega) (hSp _ _ _ _ _ hs (by omega) hb.1 rfl) (hIx _ _ _ _ _ _ hi (by omega) hb.1 rfl) ((World.putObj_heap_other (by omega)).trans hb.2)⟩
section
variable {P:Program} {ops:Array Oper} {Q:Exit->Act->World->Prop} {md:Region.Mode}
theorem zgm {row:String} {args:Array Value} {w:World} {R:Value->World->Prop} {n:Nat} (h:Rows P row args w R):RowsIn Fence.wide n P row args w R:=by
 exact fun c cs _=>let ⟨v,w',r,s⟩:=h c cs;⟨v,w',r,stepsIn_wide.2 s⟩
theorem zvn {l n:Nat} {o:Oper} {a:Act} {w:World} {K:Act->World->Prop} (hd:∀ c,o.op≠.defer c) (h:o.wp P a w K Q):o.wpIn (Fence.wide.inRound l) n P a w K Q:=by
 refine⟨fun _ _=>trivial,?_⟩;rw[show(Fence.wide.inRound l).round=some l from rfl,Oper.semAt_some l _ _ hd];unfold Oper.wp at h
 generalize (execOp a.eval o).run P w=r at h
 cases r with
 | ok x w' =>
  cases x<;>simp only[Oper.upon,Oper.uponIn]at h ⊢ <;> try exact h
  case enter f args =>
   exact⟨Yv,(CallsIn.inRound l (callsIn_wide.2 h)).mono fun e w'' he=>by cases e<;>exact he⟩
  case row row args=>exact⟨Yv,zgm h⟩
 | halt x w'=>cases x<;>simp only[Oper.upon,Oper.uponIn]at h ⊢ <;> exact h
def pJ (ops:Array Oper):Bool:=ops.toList.all fun o=>match o.op with | .defer _=>false | _=>true
theorem zvw {i:Nat} {o:Oper} (h:pJ ops=true) (hi:ops[i]?=some o):∀ c,o.op≠.defer c:=by
 intro c hc
 unfold pJ at h;rw[List.all_eq_true]at h;have := h o (Array.mem_toList_iff.2 (Array.mem_of_getElem? hi));simp[hc]at this
theorem zp2 {l n i:Nat} {a:Act} {w:World} {K:Act->World->Prop} (hd:pJ ops=true) (hQ:¬ LetsOut Q) (h:wpOp P ops Q i K a w):wpOpIn (Fence.wide.inRound l) n P ops Q i K a w:=by
 unfold wpOp at h;unfold wpOpIn
 cases ho:ops[i]? with
 | none=>simpa [ho] using h
 | some o =>
  simp only[ho]at h ⊢
  split
  ·rename_i hw
   rw[if_pos hw]at h;exact zvn (zvw hd ho) (h.resolve_right fun h'=>hQ h'.2)
  ·rename_i hw
   rw[if_neg hw]at h;exact⟨fun _ _=>trivial,h⟩
theorem qro {l n:Nat} (hd:pJ ops=true) (hQ:¬ LetsOut Q):∀ (fuel:Nat) (listed:Array Bool) (a:Act) (w:World),wpAny P md ops Q fuel listed a w->wpAnyIn (Fence.wide.inRound l) n P md ops Q fuel listed a w
 | 0,_,_,_,h=>h
 | fuel+1,_,_,_,h=>⟨h.1,fun i hi=>wpOpIn_mono (fun a' w' h'=>qro hd hQ fuel _ a' w' h') (zp2 hd hQ (h.2 i hi))⟩
theorem qbc {i:Nat} {o:Oper} {a:Act} {w:World} {K:Act->World->Prop} (ho:ops[i]?=some o) (hw:Region.wanted o (yielded ops a.tmps)=true) (h:o.wp P a w K Q):wpOp P ops Q i K a w:=by
 unfold wpOp;simp only[ho,hw,if_true];exact .inl h
def By (P:Program) (md:Region.Mode) (ops:Array Oper) (Q:Exit->Act->World->Prop) (S:World->Prop) (D:List Nat):Nat->Array Bool->Act->World->Prop
 | 0,listed,a,w=>Region.ready md ops listed=[]/\Q .normal a w
 | fuel+1,listed,a,w =>
  (Region.ready md ops listed=[]->Q .normal a w) ∧
  ∀ i∈Region.ready md ops listed,wpOp P ops Q i (fun a' w'=>(i ∉ D->S w')/\By P md ops Q S D fuel (listed.setIfInBounds i true) a' w') a w
variable {S:World->Prop} {D:List Nat}
theorem qlk:∀ (fuel:Nat) (listed:Array Bool) (a:Act) (w:World),By P md ops Q S D fuel listed a w->wpAny P md ops Q fuel listed a w
 | 0,_,_,_,h=>h
 | fuel+1,_,_,_,h=>⟨h.1,fun i hi=>wpOp_mono (fun a' w' h'=>qlk fuel _ a' w' h'.2) (h.2 i hi)⟩
theorem zgs {i:Nat} {oi:Oper} {v:Value} (hi:ops[i]?=some oi) (cJ:∀ (j:Nat) (o:Oper) cs b,ops[j]?=some o->o.op≠.select cs b)
  (hQ:∀ c a w,Q (.panic c) (a.put oi.dst v) w->Q (.panic c) a w)
  (hD:∀ j oj,ops[j]?=some oj->j∈D->∃ e∈oj.after,Region.binds md e=true/\(e.on=i\/e.on∈D)) :
  ∀ (fuel:Nat) (listed:Array Bool) (a:Act) (w:World),
   (∀ j oj,ops[j]?=some oj->j≠i->listed.getD j true=false->(∀ e∈oj.after,Region.binds md e=true->e.on≠i)->oi.apart ops oj=true) →
   (∀ j∈D,listed.getD j false=false) →
   i∈Region.ready md ops listed->YieldsIf P ops S oi v a->S w →
   By P md ops Q S D fuel (listed.setIfInBounds i true) (a.put oi.dst v) w->By P md ops Q S D (fuel+1) listed a w:=by
 intro fuel
 induction fuel with
 | zero =>
  intro listed a w _ _ hr hy hS H
  refine⟨fun h=>(by rw[h]at hr;cases hr),fun j hj=>?_⟩
  by_cases Kc:j=i
  ·subst Kc;exact hy.wpOp hi hS ⟨fun _=>hS,H⟩
  ·have := ready_mono hj Kc
   rw[H.1]at this;cases this
 | succ fuel ih =>
  intro listed a w bX N2 hr hy hS H
  refine⟨fun h=>(by rw[h]at hr;cases hr),fun j hj=>?_⟩
  by_cases Kc:j=i
  ·subst Kc;exact hy.wpOp hi hS ⟨fun _=>hS,H⟩
  ·have h1:=H.2 j (ready_mono hj Kc)
   obtain⟨aZ,oj,Pw,Ht⟩:=mem_ready.1 hj
   have rU:∀ k,listed.getD k false=true->listed.getD k true=true:=fun k hk=>by
    rcases Nat.lt_or_ge k listed.size with h' | h'
    ·simpa [h'] using hk
    ·simp[Array.getElem?_eq_none h']
   have S0:∀ e∈oj.after,Region.binds md e=true->e.on≠i:=fun e he hb A2=>by
    have h1:=Ht e he hb;have h0:=(mem_ready.1 hr).1;rw[A2]at h1;have := rU _ h1;rw[h0]at this;cases this
   have Wy:j ∉ D:=fun Wy=>by
    obtain⟨e,he,hb,h⟩:=hD j oj Pw Wy
    rcases h with h | h
    ·exact S0 e he hb h
    ·have h1:=Ht e he hb
     rw[N2 _ h]at h1;cases h1
   have h2:=wpOp_putIf Pw (bX j oj Pw Kc aZ S0) (fun cs b=>cJ i oi cs b hi) (fun cs b=>cJ j oj cs b Pw) hQ hy h1
   have uB:∀ k ok,ops[k]?=some ok->k≠i->(listed.setIfInBounds j true).getD k true=false →
     (∀ e∈ok.after,Region.binds md e=true->e.on≠i)->oi.apart ops ok=true:=fun k ok hk Mp Sy Eg=>by
    refine bX k ok hk Mp ?_ Eg
    by_cases Sb:j=k
    ·subst Sb;exact aZ
    ·rw[getD_set_ne true Sb]at Sy;exact Sy
   have qjy:∀ k∈D,(listed.setIfInBounds j true).getD k false=false:=fun k hk=>by
    have At:j≠k:=fun e=>Wy (e ▸ hk)
    have := N2 k hk;rw[Array.getD_eq_getD_getElem?]at this ⊢;rw[Array.getElem?_setIfInBounds_ne At];exact this
   refine wpOp_mono (fun a' w' h3=>⟨fun _=>h3.2.1 Wy,ih (listed.setIfInBounds j true) a' w' uB qjy (ready_mono hr (Ne.symm Kc)) h3.1 (h3.2.1 Wy) ?_⟩) h2;rw[Array.setIfInBounds_comm _ _ Kc];exact h3.2.2
def R4 (md:Region.Mode) (ops:Array Oper) (D:List Nat) (i:Nat):Bool :=
 D.all fun j=>match ops[j]? with
  | none=>true
  | some o=>o.after.any fun e=>Region.binds md e && (e.on==i || D.contains e.on)
def V7 (D:List Nat) (listed:Array Bool):Bool:=D.all fun j => !listed.getD j false
theorem qgr {i:Nat} {oi:Oper} {v:Value} {fuel:Nat} {listed:Array Bool} {a:Act} {w:World} (hi:ops[i]?=some oi)
  (hs:Region.noSelect ops=true) (hf:Region.free md ops listed i=true) (hr:(Region.ready md ops listed).contains i=true) (hm:R4 md ops D i=true) (ho:V7 D listed=true)
  (hQ:∀ c a w,Q (.panic c) (a.put oi.dst v) w->Q (.panic c) a w) (hy:YieldsIf P ops S oi v a) (hS:S w)
  (h:By P md ops Q S D fuel (listed.setIfInBounds i true) (a.put oi.dst v) w):By P md ops Q S D (fuel+1) listed a w:=by
 refine zgs hi (Region.noSelect_spec hs) hQ ?_ fuel listed a w (Region.free_spec hi hf) ?_ (by simpa using hr) hy hS h
 ·intro j oj Pw Wy
  unfold R4 at hm;rw[List.all_eq_true]at hm;have := hm j Wy;simp only[Pw,Array.any_eq_true']at this;obtain⟨e,he,hb⟩:=this;simp only[Bool.and_eq_true,Bool.or_eq_true,beq_iff_eq,List.contains_iff_mem]at hb;exact⟨e,he,hb.1,hb.2⟩
 ·intro j hj
  unfold V7 at ho;rw[List.all_eq_true]at ho
  simpa using ho j hj
theorem Q5 {i:Nat} {o:Oper} {fuel:Nat} {listed:Array Bool} {a:Act} {w:World} (hr:Region.ready md ops listed=[i]) (ho:ops[i]?=some o) (hw:Region.wanted o (yielded ops a.tmps)=true)
  (h:o.wp P a w (fun a' w'=>(i ∉ D->S w')/\By P md ops Q S D fuel (listed.setIfInBounds i true) a' w') Q):By P md ops Q S D (fuel+1) listed a w :=
 ⟨fun h0=>by rw[hr]at h0;simp at h0,fun j hj=>by
  rw[hr]at hj
  obtain rfl:j=i:=by simpa using hj
  exact qbc ho hw h⟩
theorem Eo {listed:Array Bool} {a:Act} {w:World} (hr:Region.ready md ops listed=[]) (h:Q .normal a w):∀ fuel,By P md ops Q S D fuel listed a w
 | 0=>⟨hr,h⟩
 | _+1=>⟨fun _=>h,by rw[hr];simp⟩
theorem qi2 {l n id:Nat} {a:Act} {w:World} (S:World->Prop) (D:List Nat) (hm:P.follows .mixedOrders=true) (hd:pJ ops=true) (hQ:¬ LetsOut Q)
  (h:By P .any ops Q S D ops.size (Array.replicate ops.size false) a w.drew):(Code.region id ops true).wpIn (Fence.wide.inRound l) n P Q a w :=
 wpIn_region_any hm (qro hd hQ _ _ _ _ (qlk _ _ _ _ h))
theorem Fz {id:Nat} {a:Act} {w:World} (S:World->Prop) (D:List Nat) (hm:P.follows .mixedOrders=true)
  (h:By P .any ops Q S D ops.size (Array.replicate ops.size false) a w.drew):(Code.region id ops true).wp P Q a w :=
 wp_region_any hm (qlk _ _ _ _ h)
end
section
variable {P:Program} {ops:Array Oper} {Q:Exit->Act->World->Prop} {md:Region.Mode} {S:World->Prop} {D:List Nat}
theorem Ar {i:Nat} {oi:Oper} {v:Value} {fuel:Nat} {listed:Array Bool} {a:Act} {w:World} (hi:ops[i]?=some oi) (hy:YieldsIf P ops S oi v a) (hS:S w)
  (h:By P md ops Q S D fuel (listed.setIfInBounds i true) (a.put oi.dst v) w) (hs:Region.noSelect ops=true:=by kernel_rfl) (hf:Region.free md ops listed i=true:=by kernel_rfl) (hr:(Region.ready md ops listed).contains i=true:=by kernel_rfl) (hm:R4 md ops D i=true:=by kernel_rfl) (ho:V7 D listed=true:=by kernel_rfl) (hQ:∀ c a w,Q (.panic c) (a.put oi.dst v) w->Q (.panic c) a w:=by exact fun _ _ _ h=>h):By P md ops Q S D (fuel+1) listed a w:=qgr hi hs hf hr hm ho hQ hy hS h
theorem Am {i:Nat} {oi:Oper} {v:Value} {fuel:Nat} {listed:Array Bool} {a:Act} {w:World} (hi:ops[i]?=some oi) (hS:S w)
  (h:By P md ops Q S D fuel (listed.setIfInBounds i true) (a.put oi.dst v) w) (hs:Region.noSelect ops=true:=by kernel_rfl) (hf:Region.free md ops listed i=true:=by kernel_rfl) (hr:(Region.ready md ops listed).contains i=true:=by kernel_rfl) (hm:R4 md ops D i=true:=by kernel_rfl) (ho:V7 D listed=true:=by kernel_rfl) (hy:YieldsIf P ops S oi v a:=by exact .inl ⟨by kernel_rfl,fun W' hS=>by go_simp⟩) (hQ:∀ c a w,Q (.panic c) (a.put oi.dst v) w->Q (.panic c) a w:=by exact fun _ _ _ h=>h):By P md ops Q S D (fuel+1) listed a w:=qgr hi hs hf hr hm ho hQ hy hS h
theorem Ap {i:Nat} {o:Oper} {fuel:Nat} {listed:Array Bool} {a:Act} {w:World} (ho:ops[i]?=some o)
  (h:o.wp P a w (fun a' w'=>(i ∉ D->S w')/\By P md ops Q S D fuel (listed.setIfInBounds i true) a' w') Q) (hr:Region.ready md ops listed=[i]:=by kernel_rfl) (hw:Region.wanted o (yielded ops a.tmps)=true:=by kernel_rfl):By P md ops Q S D (fuel+1) listed a w:=Q5 hr ho hw h
end
theorem cY (b o q:Nat):(Addr.add ⟨b,o,none⟩ q)=⟨b,o+q,none⟩:=by
 rw[Addr.add]
 by_cases h0:q=0
 ·subst h0;simp
 ·simp[h0]
def Dg (c:Nat) (rs:List (List Value)):Prop:=∀ r∈rs,r.length=c/\∀ u∈r,u.oneCell'=true
theorem Dg.append {c:Nat} {rs ms:List (List Value)} (h:Dg c rs) (h':Dg c ms):Dg c (rs++ms):=fun r hr=>by
 rcases List.mem_append.1 hr with hr | hr
 ·exact h r hr
 ·exact h' r hr
theorem Dg.nil (c:Nat):Dg c []:=fun r hr=>by simp at hr
theorem Dg.one {c:Nat} {r:List Value} (h:r.length=c) (h1:∀ u∈r,u.oneCell'=true):Dg c [r]:=fun r' hr=>by
 rw[List.mem_singleton.1 hr];exact⟨h,h1⟩
theorem C3 {c:Nat} {rs:List (List Value)} (h:Dg c rs):rs.flatten.length=rs.length*c:=by
 induction rs with
 | nil=>simp
 | cons r t ih =>
  rw[List.flatten_cons,List.length_append,ih fun x hx=>h x (List.mem_cons_of_mem _ hx),(h r (by simp)).1,List.length_cons,Nat.succ_mul];omega
theorem zbs {c:Nat} {rs:List (List Value)} (h:Dg c rs) {i j:Nat} {r:List Value} (hi:rs[i]?=some r) (hj:j<c):rs.flatten[i*c+j]?=r[j]? := by
 induction rs generalizing i with
 | nil=>simp at hi
 | cons x t ih =>
  have hx:=(h x (by simp)).1
  cases i with
  | zero =>
   simp only[List.getElem?_cons_zero,Option.some.injEq]at hi;subst hi;rw[List.flatten_cons,Nat.zero_mul,Nat.zero_add,List.getElem?_append_left (by omega)]
  | succ i =>
   rw[List.flatten_cons,List.getElem?_append_right (by rw[hx,Nat.succ_mul];omega),hx,show(i+1)*c+j-c=i*c+j by rw[Nat.succ_mul];omega];exact ih (fun r hr=>h r (List.mem_cons_of_mem _ hr)) (by simpa using hi)
theorem zsv {c k i:Nat} {rs:List (List Value)} {u:Value} (h:Dg c rs) (hc:0<c) (hk:rs.flatten[k]?=some u):∃ i j r,k=i*c+j/\j<c/\rs[i]?=some r/\r[j]?=some u:=by
 have Hc:=(List.getElem?_eq_some_iff.1 hk).1;rw[C3 h]at Hc;have h1:k/c<rs.length:=Nat.div_lt_of_lt_mul (by rw[Nat.mul_comm];exact Hc)
 have h2:k=k/c*c+k%c:=by rw[Nat.mul_comm];exact(Nat.div_add_mod k c).symm
 refine⟨k/c,k%c,_,h2,Nat.mod_lt _ hc,Ac h1,?_⟩;rw[<- zbs h (Ac h1) (Nat.mod_lt _ hc),<- h2];exact hk
def Be (c T base:Nat) (w:World) (v:Value) (rs:List (List Value)):Prop:=w.ownsRow base T c v rs.length rs.flatten/\Dg c rs
theorem Be.nil (c T base:Nat) (w:World):Be c T base w (.slice none 0 0) []:=⟨World.ownsRow_nil w base T c,Dg.nil c⟩
section
variable {c T base:Nat} {w w':World} {v:Value} {rs:List (List Value)}
theorem Be.old {B:Nat} (h:Be c T base w v rs) (hb:Below B w w') (hB:w.heap.size<=B):Be c T base w' v rs:=⟨qy5 h.1 hb hB,h.2⟩
theorem Be.kept {row:Option Nat} (h:Be c T base w v rs) (hg:w.grownBy w' row) (At:v.ownBlock=none\/v.ownBlock≠row):Be c T base w' v rs:=⟨World.ownsRow.kept h.1 hg At,h.2⟩
theorem Be.mono {base':Nat} (h:Be c T base w v rs) (hb:base'<=base):Be c T base' w v rs:=⟨qv5 h.1 hb,h.2⟩
theorem Be.form (h:Be c T base w v rs):∃ a n,v=.slice a rs.length n/\rs.length<=n/\n<=maxLen:=pK h.1
theorem Be.low (h:Be c T base w v rs) {r:Nat} (hr:v.ownBlock=some r):base<=r:=(Or h.1 hr).1
theorem Be.lt (h:Be c T base w v rs) {r:Nat} (hr:v.ownBlock=some r):r<w.heap.size:=cU h.1 hr
theorem Be.rows (h:Be c T base w v rs):Au c (fun i j=>((rs[i]?.getD [])[j]?).getD undef) w.heap.size w v rs.length:=by
 rcases h.1.2 with⟨rfl,h0⟩ | ⟨g,cap,cur,rfl,hb,hg,hn,hm,hs,ht⟩
 ·have hr:rs=[]:=List.eq_nil_of_length_eq_zero h0
  subst hr;exact Au.nil none 0 (Nat.zero_le _) (fun _=>rfl)
 ·refine Au.mk_cells hn hm (Array.getElem?_eq_some_iff.1 hg).1 fun i hi j hj=>?_
  have h1:=zbs h.2 (Ac hi) hj;have hl:(rs[i]).length=c:=(h.2 _ (List.getElem_mem hi)).1;rw[Ac (show j<(rs[i]).length by omega)]at h1;have := World.ownsRow.cells h.1 (g:=g) rfl (i*c+j) _ h1;rw[Ac hi,Option.getD_some,Ac (show j<(rs[i]).length by omega),Option.getD_some];rw[Addr.add]at this
  by_cases h0:i*c+j=0
  ·rw[h0]at this ⊢;simpa using this
  ·rw[if_neg h0]at this;simpa using this
theorem Be.lit {W:World} {b:Nat} {cs:Array Value} (hq:Blk W b cs T) (hb:base<=b) (Ay:Dg c rs) (De:cs.toList=rs.flatten) (hm:rs.length<=maxLen):Be c T base W (.slice (some ⟨b,0,none⟩) rs.length rs.length) rs:=by
 have Dn:cs.size=rs.length*c:=by rw[<- Array.length_toList,De,C3 Ay]
 refine⟨⟨C3 Ay,.inr ⟨b,rs.length,cs,rfl,hb,hq,Ab _,hm,Dn,?_⟩⟩,Ay⟩;rw[<- De,List.take_of_length_le (by rw[Array.length_toList,Dn];exact Ab _)]
theorem Blk.ty_ne {W:World} {b t t':Nat} {cs cs':Array Value} (h:Blk W b cs t) (h':Blk W b cs' t'):t=t':=by
 unfold Blk at h h';rw[h]at h';simp only[Option.some.injEq,Obj.cells.injEq]at h';exact h'.2.1
theorem Be.blk {g:Nat} (h:Be c T base w v rs) (hg:v.ownBlock=some g):∃ cur,Blk w g cur T:=by
 rcases h.1.2 with⟨rfl,_⟩ | ⟨g',cap',cur,rfl,_,hb,_⟩
 ·cases hg
 ·obtain rfl:g'=g:=by simpa [Value.ownBlock] using hg
  exact⟨cur,hb⟩
theorem qae {c' T' base':Nat} {rs':List (List Value)} {v':Value} {g:Nat} (h:Be c T base w v rs) (h':Be c' T' base' w v' rs') (hT:T≠T') (hg:v.ownBlock=some g):v'.ownBlock≠some g:=fun e=>by
 obtain⟨_,h1⟩:=h.blk hg;obtain⟨_,h2⟩:=h'.blk e;exact hT (h1.ty_ne h2)
theorem pV {o:Oper} {a:Act} {K:Act->World->Prop} {Q:Exit->Act->World->Prop} (s x:Operand) (t:TypeId)
  (ho:o.op=.call { callee:=.builtin .append,args:=#[s,x],argTypes:=#[t,t] }) (ht:Tryz.prog.underlying t=some (.slice T)) {zero:Value} {bytes:Nat}
  (hi:(Tryz.prog.info? T).map (fun i=>(i.zero,i.size,i.bytes))=some (some zero,c,bytes)) (Vb:zero.cells.size=c) (hc:0<c)
  (hs:a.eval s=v) (Av:Be c T base w v rs) {b off m cap:Nat} {ms:List (List Value)} (hx:a.eval x=.slice (some ⟨b,off,none⟩) m cap) (cH:ms.length=m) (Ay:Dg c ms)
  (Gw:∀ i r j u,ms[i]?=some r->r[j]?=some u->w.cell? ⟨b,off+(i*c+j),none⟩=some u) (hm:0<m) (qY:rs.length+m<=maxLen) (qhg:(rs.length+m)*bytes<=140737488355328) (Uz:base<=w.heap.size)
  (h:∀ g cap w',Be c T base w' (.slice (some ⟨g,0,none⟩) (rs.length+m) cap) (rs++ms)->w.grownBy w' v.ownBlock->(v.ownBlock=some g\/g=w.heap.size)->K (a.put o.dst (.slice (some ⟨g,0,none⟩) (rs.length+m) cap)) w'):o.wp Tryz.prog a w K Q:=by
 obtain⟨i0,hi,Cz,Gb,Ft⟩:=info_parts hi
 refine wp_append_lies w s x t ho base T i0 zero c bytes ht hi Cz Gb Ft Vb hc v rs.length rs.flatten hs Av.1 ⟨b,off,none⟩ m cap ms.flatten hx (by rw[C3 Ay,cH])
  (fun k u hk=>by
   obtain⟨i,j,r,rfl,hj,hr,hu⟩:=zsv (i:=0) Ay hc hk;have := Gw i r j u hr hu
   rw[cY];exact this)
  (fun u hu=>by obtain⟨r,hr,zej⟩:=List.mem_flatten.1 hu;exact(Ay r hr).2 u zej) hm qY qhg Uz _ rfl fun g cap w' h1 h2 h3 h4=>h g cap w' ⟨?_,Av.2.append Ay⟩ h2 h3
 rw[List.length_append,List.flatten_append,cH];exact h1
theorem Q6 {ops:Array Oper} {rest:List Oper} {o:Oper} {a:Act} {Q:Exit->Act->World->Prop} (Gy:o.guard=none) (s x:Operand) (t:TypeId)
  (ho:o.op=.call { callee:=.builtin .append,args:=#[s,x],argTypes:=#[t,t] }) (ht:Tryz.prog.underlying t=some (.slice T)) {zero:Value} {bytes:Nat}
  (hi:(Tryz.prog.info? T).map (fun i=>(i.zero,i.size,i.bytes))=some (some zero,c,bytes)) (Vb:zero.cells.size=c) (hc:0<c)
  (hs:a.eval s=v) (Av:Be c T base w v rs) {b off m cap:Nat} {ms:List (List Value)} (hx:a.eval x=.slice (some ⟨b,off,none⟩) m cap) (cH:ms.length=m) (Ay:Dg c ms)
  (Gw:∀ i r j u,ms[i]?=some r->r[j]?=some u->w.cell? ⟨b,off+(i*c+j),none⟩=some u) (hm:0<m) (qY:rs.length+m<=maxLen) (qhg:(rs.length+m)*bytes<=140737488355328) (Uz:base<=w.heap.size)
  (h:∀ g cap w',Be c T base w' (.slice (some ⟨g,0,none⟩) (rs.length+m) cap) (rs++ms)->w.grownBy w' v.ownBlock->(v.ownBlock=some g\/g=w.heap.size)->wpList Tryz.prog ops Q rest (a.put o.dst (.slice (some ⟨g,0,none⟩) (rs.length+m) cap)) w'):wpList Tryz.prog ops Q (o::rest) a w :=
 wpList_plain Gy fun _ hK=>pV s x t ho ht hi Vb hc hs Av hx cH Ay Gw hm qY qhg Uz fun g cap w' h1 h2 h3=>hK _ _ (h g cap w' h1 h2 h3)
end
def Qt (l:List Nat):List (List Value):=l.map fun x:Nat=>[.int .u32 (x:Int)]
theorem qy6 (P:Nat) (w:World) :
  Calls Tryz.prog 160 #[.pointer (some ⟨P,0,none⟩)] w fun e w'=>e=.returned (.func (.func 169) #[] #[.pointer (some ⟨w.heap.size+1,0,none⟩),.pointer (some ⟨w.heap.size,0,none⟩)]) ∧
   w'=(w.alloc (.cells #[.pointer (some ⟨P,0,none⟩)] 205)).alloc (.cells #[.int .u64 0] 117):=by
 go_enter Tryz.func160,Tryz.ntmps160
 go_wp2_with fail
 go_ret
 exact⟨by simp,by simp⟩
def lK (base Cb Xb Pb:Nat) (l:List Nat) (c:Nat) (W:World):Prop :=
 Blk W Cb #[.int .u64 c] 117/\Blk W Xb #[.pointer (some ⟨Pb,0,none⟩)] 205/\∃ v,Blk W Pb #[v] 160/\Be 1 172 base W v (Qt l)
theorem Tryz.infoU32G:(Tryz.prog.info? 172).map (fun i=>(i.zero,i.size,i.bytes))=some (some (.int .u32 0),1,4):=by kernel_rfl
theorem zlc (l:List Nat):Dg 1 (Qt l):=fun r hr=>by
 obtain⟨x,_,rfl⟩:=List.mem_map.1 hr;exact⟨rfl,fun u hu=>by rw[List.mem_singleton.1 hu];rfl⟩
theorem yB (base Cb Xb Pb:Nat) (l:List Nat) (c s:Nat) (w:World) (h:lK base Cb Xb Pb l c w) (hb:base<=w.heap.size) (hs:s+c<2^64) (hl:l.length<2^30) :
  Calls Tryz.prog 169 #[.int .u64 s,.pointer (some ⟨Cb,0,none⟩),.pointer (some ⟨Xb,0,none⟩)] w fun e w'=>e=.returned (.tuple #[])/\lK base Cb Xb Pb (l++[(s+c)%2^32]) ((s+c)/2^32) w' ∧
   w.heap.size<=w'.heap.size/\Below (min base (min Cb Pb)) w w':=by
 obtain⟨qc,qx,v,qp,ho⟩:=h;obtain⟨t,ht⟩:=Ae (s+c)
 have Kw:IntKind.u64.wrap ((s:Int)+(c:Int))=(t:Int):=by rw[IntKind.wrap_u64];omega
 rw[ht]at hs ⊢;obtain⟨d,hd⟩:=Ae (t%2^32);obtain⟨cy,qqt⟩:=Ae (t/2^32);rw[hd,qqt]
 have Gs:IntKind.u32.wrap (t:Int)=(d:Int):=by rw[IntKind.wrap_u32];omega
 have Hk:(t:Int)/4294967296=(cy:Int):=by omega
 clear ht hd qqt;have c0:=qc.one.1;go_enter Tryz.func169,Tryz.ntmps169
 go_upto_region 1 with fail
 have lX:=qx.lt;have lP:=qp.lt;refine Fz (fun W'=>Blk W' Xb #[.pointer (some ⟨Pb,0,none⟩)] 205/\Blk W' Pb #[v] 160) [9] (by kernel_rfl) ?_;have qS:(fun W'=>Blk W' Xb #[.pointer (some ⟨Pb,0,none⟩)] 205/\Blk W' Pb #[v] 160) w.drew:=⟨qx,qp⟩;refine Ar (i:=0) (v:=.pointer (some ⟨Pb,0,none⟩)) rfl (.inl ⟨by kernel_rfl,fun W' hS=>by have u0:=hS.1.one.1;go_simp⟩) qS ?_;refine Ar (i:=1) (v:=.pointer (some ⟨Pb,0,none⟩)) rfl (.inl ⟨by kernel_rfl,fun W' hS=>by have u0:=hS.1.one.1;go_simp⟩) qS ?_;refine Am (i:=2) (v:=.pointer (some ⟨Pb,0,none⟩)) rfl qS ?_;refine Ar (i:=3) (v:=v) rfl (.inl ⟨by kernel_rfl,fun W' hS=>by have u0:=hS.2.one.1;go_simp⟩) qS ?_;refine Am (i:=4) (v:=.int .u64 (t:Int)) rfl qS ?_;refine Am (i:=5) (v:=.int .u32 (d:Int)) rfl qS ?_;obtain⟨va,vn,pG,_,_⟩:=ho.form;rw[show(Qt l).length=l.length by simp[Qt]]at pG;subst pG
 have zT:(Value.slice va l.length vn).ownBlock≠some Cb:=fun e=>by obtain⟨_,h9⟩:=ho.blk e;exact absurd (h9.ty_ne qc) (by decide)
 have zgc:(Value.slice va l.length vn).ownBlock≠some Xb:=fun e=>by obtain⟨_,h9⟩:=ho.blk e;exact absurd (h9.ty_ne qx) (by decide)
 have zd8:(Value.slice va l.length vn).ownBlock≠some Pb:=fun e=>by obtain⟨_,h9⟩:=ho.blk e;exact absurd (h9.ty_ne qp) (by decide)
 have zf6:Cb≠Xb:=fun e=>by subst e;exact absurd (qc.ty_ne qx) (by decide)
 have qsg:Cb≠Pb:=fun e=>by subst e;exact absurd (qc.ty_ne qp) (by decide)
 have cW:Xb≠Pb:=fun e=>by subst e;exact absurd (qx.ty_ne qp) (by decide)
 obtain⟨W1,Ah⟩:=Ae ((w.drew).alloc (.cells #[.int .u32 (d:Int)] 172))
 have b1:Below w.heap.size w W1:=by rw[<- Ah];exact(Er (Below.refl _ _)).alloc (Ab _) _
 have q1:Blk W1 w.heap.size #[.int .u32 (d:Int)] 172:=by rw[<- Ah];exact Blk.new w.drew _ _
 have s1:W1.heap.size=w.heap.size+1:=by rw[<- Ah,World.size_alloc];rfl
 have qx1:=qx.below b1 qx.lt;have qp1:=qp.below b1 qp.lt;have qc1:=qc.below b1 qc.lt;refine Ap (i:=6) rfl ?_;go_simp
 refine Ap (i:=7) rfl ?_
 refine pV (.tmp 10) (.tmp 13) 160 rfl Tryz.underlying160 Tryz.infoU32G (by kernel_rfl) (by decide) (by simp[Act.eval]) (ho.old b1 (Ab _)) (b:=w.heap.size) (off:=0) (m:=1) (cap:=1) (ms:=[[.int .u32 (d:Int)]]) (by simp[Act.eval]) rfl (zlc [d]) (fun i r j u hi hj=>by
  match i,hi with
  | 0,hi =>
   simp only[List.getElem?_cons_zero,Option.some.injEq]at hi;subst hi
   match j,hj with
   | 0,hj=>cases hj;exact q1.at rfl
   | j+1,hj=>simp at hj
  | i+1,hi=>simp at hi) (by decide) (by simp[Qt,maxLen];omega) (by simp[Qt];omega) (by omega) ?_
 intro g1 cap1 w5 Hh Bo Ie
 have qc5:Blk w5 Cb #[.int .u64 c] 117:=qc1.kept Bo (fun e=>zT e.symm);have qx5:Blk w5 Xb #[.pointer (some ⟨Pb,0,none⟩)] 205:=qx1.kept Bo (fun e=>zgc e.symm);have qp5:Blk w5 Pb #[.slice va l.length vn] 160:=qp1.kept Bo (fun e=>zd8 e.symm)
 have Kx:∀ r,(Value.slice va l.length vn).ownBlock=some r->base<=r:=fun r e=>ho.low e
 have b5:Below base w w5:=(b1.mono hb).trans (Sq Bo Kx (Nat.le_trans hb b1.size));have Kg:=Bo.size
 have qb2:g1≠Pb:=fun e=>by
  subst e;obtain⟨_,h9⟩:=Hh.blk (g:=g1) rfl;exact absurd (h9.ty_ne qp5) (by decide)
 have zd0:g1≠Cb:=fun e=>by
  subst e;obtain⟨_,h9⟩:=Hh.blk (g:=g1) rfl;exact absurd (h9.ty_ne qc5) (by decide)
 have Sj:(Qt l).length+1=l.length+1:=by simp[Qt]
 rw[Sj]at Hh ⊢;have c5:=qp5.one.1;have f5:=qp5.one.2;refine⟨fun _=>⟨qx5,qp5⟩,?_⟩;refine Ap (i:=8) rfl ?_;go_simp
 refine Ap (i:=9) rfl ?_;go_simp
 refine Eo (by kernel_rfl) ?_ _;go_simp
 obtain⟨W6,Fk⟩:=Ae (w5.setCell ⟨Pb,0,none⟩ (.slice (some ⟨g1,0,none⟩) (l.length+1) cap1))
 have Hn:w5.grownBy W6 (some Pb):=by rw[<- Fk];exact Fm _ _ _ _
 have qp6:Blk W6 Pb #[.slice (some ⟨g1,0,none⟩) (l.length+1) cap1] 160:=by rw[<- Fk];exact qp5.set (i:=0) _
 have qx6:Blk W6 Xb #[.pointer (some ⟨Pb,0,none⟩)] 205:=qx5.kept Hn (by simpa using cW);have qc6:Blk W6 Cb #[.int .u64 c] 117:=qc5.kept Hn (by simpa using qsg);have zmv:=Hh.kept Hn (.inr (by simpa [Value.ownBlock] using qb2));rw[Fk];have e6:=qc6.one.1;have f6:=qc6.one.2
 apply (show ∀ (a:Act) (w:World),_->_ from by assumption)
 go_upto_region 2 with fail
 go_wp2_with fail
 go_end0
 have Qx:W6.grownBy (W6.setCell ⟨Cb,0,none⟩ (.int .u64 (cy:Int))) (some Cb):=Fm _ _ _ _;have Nt:=Hn.size;have gE:=Qx.size;have b6:Below (min base (min Cb Pb)) w W6:=(b5.mono (by omega)).trans (Sq Hn (fun r e=>by cases e;omega) (by omega));refine⟨rfl,⟨qc6.set (i:=0) _,qx6.kept Qx (by simpa using zf6.symm),_,qp6.kept Qx (by simpa using qsg.symm),?_⟩,by omega,b6.trans (Sq Qx (fun r e=>by cases e;omega) (by omega))⟩;have h9:=zmv.kept Qx (.inr (by simpa [Value.ownBlock] using zd0));rw[show Qt (l++[d])=Qt l++[[.int .u32 (d:Int)]]by simp[Qt]];exact h9
attribute [local go_sem] Oper.semAt_some
theorem zi4 (v:Value) (w:World) (hv:v.oneCell'=true):Calls Tryz.prog 163 #[v] w fun e w'=>e=.returned (.func (.func 171) #[] #[.pointer (some ⟨w.heap.size,0,none⟩)])/\w.alloc (.cells #[v] 160)=w':=by
 cases v<;>simp[Value.oneCell']at hv
 all_goals
  go_enter Tryz.func163,Tryz.ntmps163
  go_wp2_with fail
  go_ret
  exact⟨rfl,rfl⟩
abbrev Wv (v:Value):Value:=.agg #[.bool false,v]
theorem eG (w:World) (c0 c1 c2 c3:Array Value) (t0 t1 t2 t3:TypeId) {W:World} (h:(((w.alloc (.cells c0 t0)).alloc (.cells c1 t1)).alloc (.cells c2 t2)).alloc (.cells c3 t3)=W) :
  Below w.heap.size w W/\Blk W w.heap.size c0 t0/\Blk W (w.heap.size+1) c1 t1/\Blk W (w.heap.size+2) c2 t2/\Blk W (w.heap.size+3) c3 t3/\W.heap.size=w.heap.size+4:=by
 subst h;have q1:=Blk.new (w.alloc (.cells c0 t0)) c1 t1;have q2:=Blk.new ((w.alloc (.cells c0 t0)).alloc (.cells c1 t1)) c2 t2;have q3:=Blk.new (((w.alloc (.cells c0 t0)).alloc (.cells c1 t1)).alloc (.cells c2 t2)) c3 t3;simp only[World.size_alloc]at q1 q2 q3;exact⟨((((Below.refl _ w).alloc (Ab _) _).alloc (by simp) _).alloc (by simp;omega) _).alloc (by simp;omega) _,(((Blk.new w c0 t0).alloc _).alloc _).alloc _,(q1.alloc _).alloc _,q2.alloc _,q3,by simp⟩
theorem N4 (w:World) (c0 c1 c2:Array Value) (t0 t1 t2:TypeId) {W:World} (h:((w.alloc (.cells c0 t0)).alloc (.cells c1 t1)).alloc (.cells c2 t2)=W) :
  Below w.heap.size w W/\Blk W w.heap.size c0 t0/\Blk W (w.heap.size+1) c1 t1/\Blk W (w.heap.size+2) c2 t2/\W.heap.size=w.heap.size+3:=by
 subst h;have q1:=Blk.new (w.alloc (.cells c0 t0)) c1 t1;have q2:=Blk.new ((w.alloc (.cells c0 t0)).alloc (.cells c1 t1)) c2 t2;simp only[World.size_alloc]at q1 q2;exact⟨(((Below.refl _ w).alloc (Ab _) _).alloc (by simp) _).alloc (by simp;omega) _,((Blk.new w c0 t0).alloc _).alloc _,q1.alloc _,q2,by simp⟩
theorem Be.none2 {base g:Nat} {W:World} (hq:Blk W g #[.int .u32 0,.int .u32 0] 172) (hb:base<=g):Be 1 172 base W (.slice (some ⟨g,0,none⟩) 0 2) (Qt []) :=
 ⟨⟨rfl,.inr ⟨g,2,_,rfl,hb,hq,Nat.zero_le _,by simp[maxLen],rfl,rfl⟩⟩,Dg.nil 1⟩
abbrev Fv (u v:Value):Value:=.agg #[.bool false,u,.bool false,v]
theorem Wd.len {q:IntKind} {K:Nat} {w:World} {n:Nat} {a:Option Addr} {m c:Nat} (h:Wd q K w (.slice a m c) n):m<=1/\(m=0 ↔ n=0):=by
 rcases h with⟨h0,a',c',e,_⟩ | ⟨h0,b',o',c',e,_⟩
 ·simp only[Value.slice.injEq]at e;omega
 ·simp only[Value.slice.injEq]at e;omega
theorem Blk.eight {w:World} {b t:Nat} {x0 x1 x2 x3 x4 x5 x6 x7:Value} (h:Blk w b #[x0,x1,x2,x3,x4,x5,x6,x7] t):w.cell? ⟨b,0,none⟩=some x0/\w.cell? ⟨b,1,none⟩=some x1/\w.cell? ⟨b,2,none⟩=some x2 ∧
  w.cell? ⟨b,3,none⟩=some x3/\w.cell? ⟨b,4,none⟩=some x4/\w.cell? ⟨b,5,none⟩=some x5/\w.cell? ⟨b,6,none⟩=some x6/\w.cell? ⟨b,7,none⟩=some x7 :=
 ⟨h.at rfl,h.at rfl,h.at rfl,h.at rfl,h.at rfl,h.at rfl,h.at rfl,h.at rfl⟩
end Go.Proofs.YtlldjmagbjjeoaaGreatDoor
