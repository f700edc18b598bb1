/- Contracts and plain laws, several texts in one (ORF, GLong, GGcd, GWhole). No conditions beyond those stated. -/
import Derived.RangeFuncBound
import Derived.RangeFuncCalls
import Derived.RangeFuncLeaves
import Derived.Shelf.RegionOpen
import Derived.OwnWalkIn
import Derived.TacticsInMore
import Derived.LoopNIn
import Derived.LoopIn
import Derived.OrdersHeld
import Derived.Test.YtlldjmagbjjeoaaGreatPk2
set_option maxRecDepth 100000
set_option maxHeartbeats 40000000
namespace Go.Proofs.YtlldjmagbjjeoaaGreat
open Go.RowKit
set_option linter.unusedVariables false
def IterSt {α : Type} (P : Program) (gf : Nat) (mk : Nat -> Array Value) (encs : α -> Array Value) (Xp : List α -> α -> World -> Prop) (St Kp : World -> World -> Prop) (S Sp : List α -> World -> Prop) (Pre : World -> Prop) : Prop :=
 ∀ (n l : Nat) (J Jx : List α -> World -> Prop) (W : World),Pre W -> (∀ s A B,J s A -> St A B -> J s B) -> (∀ s A B,Jx s A -> St A B -> Jx s B) →
  (∀ pre x W1,J pre W1 -> Xp pre x W1 -> YieldAt Fence.wide (n - 1) P l (encs x) W1 fun e W' =>
   (e = .returned (.bool true) /\ J (pre ++ [x]) W' /\ Kp W1 W') \/ (e = .returned (.bool false) /\ Jx (pre ++ [x]) W' /\ Kp W1 W')) →
  J [] W →
  CallsIn Fence.wide n P gf (mk l) W fun e W' => (∃ v,e = .returned v) /\ ((∃ xs,S xs W' /\ J xs W') \/ (∃ pre,Sp pre W' /\ Jx pre W'))
def roundLeft {α : Type} (B : Nat) (Kp : World -> World -> Prop) (I : List α -> World -> Prop) (Ix : Code -> List α -> World -> Prop) (xs : List α) (W : World) : Exit -> Act -> World -> Prop
 | .normal,_,W' => KeepsFrom B W W' /\ Kp W W' /\ I xs W'
 | .ret,_,W' => KeepsFrom B W W' /\ Kp W W' /\ Ix .ret xs W'
 | .exit id,_,W' => KeepsFrom B W W' /\ Kp W W' /\ Ix (.exit id) xs W'
 | .goto t,_,W' => KeepsFrom B W W' /\ Kp W W' /\ Ix (.goto t) xs W'
 | .panic _,_,_ => False
 | .outgrown,_,_ => False
def Minds (B : Nat) (K : World -> Prop) : Prop:=∀ (W : World) (l : Nat) (o o' : Obj),K W -> B <= l -> W.heap[l]? = some o -> o.isCells = false -> K (W.putObj l o')
theorem wide_depth {n : Nat} (h : Fence.wide.depth.isSome = true) : 1 <= n:=by simp [Fence.wide] at h
theorem range_law {P : Program} {α : Type} {g : Operand} {ps : Array Tmp} {assign body : Code} {Q : Exit -> Act -> World -> Prop} {a : Act} {w : World} {n gf : Nat} {fi lb : Array Value}
  (hg : a.eval g = .func (.func gf) fi lb) (eg : ∀ args w,(callFunc gf args).run P w = .ok (.enter gf args) w)
  {encs : α -> Array Value} {Xp : List α -> α -> World -> Prop} {St Kp : World -> World -> Prop} {S Sp : List α -> World -> Prop} {Pre : World -> Prop}
  (hseq : IterSt P gf (fun l => fi ++ #[.func (.yield l) #[] #[]] ++ lb) encs Xp St Kp S Sp Pre)
  (hps : ∀ x,(encs x).size = ps.size)
  (I : List α -> World -> Prop) (Ix : Code -> List α -> World -> Prop) (A1 : List α -> α -> Act -> World -> Prop)
  (hSt : ∀ A B,w.heap.size <= A.heap.size -> St A B -> KeepsFrom w.heap.size A B)
  (hI : ∀ s,Minds w.heap.size (I s)) (hIx : ∀ c s,Minds w.heap.size (Ix c s)) (hA : ∀ s x a1,Minds w.heap.size (A1 s x a1))
  (hS : ∀ s,Minds w.heap.size (S s)) (hSp : ∀ s,Minds w.heap.size (Sp s))
  (hISt : ∀ s A B,I s A -> St A B -> I s B) (hIxSt : ∀ c s A B,Ix c s A -> St A B -> Ix c s B)
  (hKt : ∀ A B C,Kp A B -> Kp B C -> Kp A C) (hKb : ∀ (W : World) (l : Nat) (o o' : Obj),w.heap.size <= l -> W.heap[l]? = some o -> o.isCells = false -> Kp W (W.putObj l o'))
  (h0 : ∀ o o',I [] ((w.alloc o).alloc o')) (hPre : ∀ o o',Pre ((w.alloc o).alloc o'))
  (hassign : ∀ (l : Nat) (pre : List α) (x : α) (W : World),I pre W -> Xp pre x W -> w.heap.size + 1 < W.heap.size →
   assign.wpIn (Fence.wide.inRound l) (n - 1 - 1) P (Exit.then (fun a1 W1 => KeepsFrom w.heap.size W W1 /\ Kp W W1 /\ A1 pre x a1 W1) (fun _ _ _ => False)) { tmps:=(ps.zip (encs x)).foldl (fun t (p,v) => t.setIfInBounds p v) a.tmps,defers:=[] } W)
  (hbody : ∀ (l : Nat) (pre : List α) (x : α) (a1 : Act) (W : World),A1 pre x a1 W -> body.wpIn (Fence.wide.inRound l) (n - 1 - 1) P (roundLeft w.heap.size Kp I Ix (pre ++ [x]) W) a1 W)
  (hdone : ∀ (D : Nat) (xs : List α) (W : World),w.heap.size <= D -> S xs W -> I xs W -> W.heap[D]? = some (.deferred (some [])) -> Q .normal { a with defers:={ target:=.collected D,args:=#[] } :: a.defers } W)
  (hstop : ∀ (D : Nat) (c : Code) (pre : List α) (W : World),w.heap.size <= D -> Sp pre W -> Ix c pre W -> W.heap[D]? = some (.deferred (some [])) -> c.wpIn Fence.wide n P Q { a with defers:={ target:=.collected D,args:=#[] } :: a.defers } W) :
  (Code.rangeFunc g ps assign body).wpIn Fence.wide n P Q a w:=by
 refine wpIn_rangeFunc fun fn _ => ?_
 obtain ⟨B,hB⟩ : ∃ B,w.heap.size = B:=⟨_,rfl⟩
 obtain ⟨rc,hrc⟩ : ∃ rc : LoopState -> Option Code -> Loop,rc = fun st pe => { state:=st,pending:=pe,fn,tmps:=a.tmps,params:=ps,assign,body,defers:=B }:=⟨_,rfl⟩
 let bk (st : LoopState) (pe : Option Code) (W : World) : Prop:=W.heap[B + 1]? = some (.loop (rc st pe)) /\ W.heap[B]? = some (.deferred (some []))
 have hkeep : ∀ {st pe} {A C : World},KeepsFrom B A C -> bk st pe A -> bk st pe C:=fun hk hb => ⟨hk.same _ _ (by omega) hb.1 rfl,hk.same _ _ (Nat.le_refl _) hb.2 rfl⟩
 have hput : ∀ {st pe} {st' pe'} {A : World},bk st pe A -> bk st' pe' (A.putObj (B + 1) (.loop (rc st' pe'))):=fun hb =>
  ⟨World.putObj_heap_same (Array.getElem?_eq_some_iff.1 hb.1).1,(World.putObj_heap_other (by omega)).trans hb.2⟩
 obtain ⟨W1,hW1⟩ : ∃ W1,(w.alloc (.deferred (some []))).alloc (.loop (rc .ready none)) = W1:=⟨_,rfl⟩
 have hbk1 : bk .ready none W1:=by
  subst hB hW1
  constructor
  ·have := World.alloc_heap_new (w.alloc (.deferred (some []))) (.loop (rc .ready none)); rwa [World.size_alloc] at this
  ·exact (Below.heap_alloc _ _ _ (by simp)).trans (World.alloc_heap_new w _)
 have hres : (resolve a.eval (rangeCall g (B + 1)) 0).run P W1 = .ok { target:=.fn (.func gf) lb,args:=fi ++ #[.func (.yield (B + 1)) #[] #[]] } W1:=by
  simp only [resolve,hg]
  simp [go_sem]
 have hinv : (invoke (.fn (.func gf) lb) (fi ++ #[.func (.yield (B + 1)) #[] #[]])).run P W1 = .ok (.enter gf (fi ++ #[.func (.yield (B + 1)) #[] #[]] ++ lb)) W1:=by
  simp [invoke,go_sem,eg]
 refine ⟨B + 1,[{ target:=.collected B,args:=#[] }],W1,_,W1,gf,_,W1,?_,hres,fun _ _ => trivial,hinv,wide_depth,?_⟩
 ·rw [<- hW1,hrc,<- hB]; exact run_enterLoop_outer _ _ _ _ _
 refine (hseq (n - 1) (B + 1) (fun pre W => I pre W /\ bk .ready none W) (fun pre W => ∃ c,Ix c pre W /\ bk .done (some c) W) W1 (hW1 ▸ hPre _ _) ?_ ?_ ?_ ⟨hW1 ▸ h0 _ _,hbk1⟩).mono ?_
 ·rintro s A C ⟨hi,hb⟩ hst
  have hsz : w.heap.size <= A.heap.size:=by have := (Array.getElem?_eq_some_iff.1 hb.2).1; omega
  exact ⟨hISt s A C hi hst,hkeep (hB ▸ hSt A C hsz hst) hb⟩
 ·rintro s A C ⟨c,hi,hb⟩ hst
  have hsz : w.heap.size <= A.heap.size:=by have := (Array.getElem?_eq_some_iff.1 hb.2).1; omega
  exact ⟨c,hIxSt c s A C hi hst,hkeep (hB ▸ hSt A C hsz hst) hb⟩
 ·-- one round
  rintro pre x W ⟨hi,hb⟩ hx
  have hlt : w.heap.size + 1 < W.heap.size:=by have := (Array.getElem?_eq_some_iff.1 hb.1).1; omega
  have hy:=run_yield (P:=P) (args:=encs x) hb.1 (by rw [hrc]; exact hps x)
  refine ⟨_,_,_,_,hy,roundIn_of_wpIn trivial ?_⟩
  have hasg:=hassign (B + 1) pre x W hi hx hlt
  rw [show (rc .ready none).tmps = a.tmps by rw [hrc],show (rc .ready none).params = ps by rw [hrc],show (rc .ready none).assign = assign by rw [hrc],show (rc .ready none).body = body by rw [hrc]]
  refine wpIn_mono hasg ?_
  rintro e a1 W2 hp
  cases e with
  | normal =>
   obtain ⟨hk2,hkp2,ha1⟩:=hp
   rw [hB] at hk2
   have hb2:=hkeep hk2 hb
   refine ⟨_,run_beginRound hb2.1 (by rw [hrc]),?_⟩
   have hbusy : ({ rc .ready none with state:=.busy } : Loop) = rc .busy none:=by rw [hrc]
   rw [hbusy]
   have hb3 : bk .busy none (W2.putObj (B + 1) (.loop (rc .busy none))):=hput hb2
   have hkp3 : Kp W (W2.putObj (B + 1) (.loop (rc .busy none))):=hKt _ _ _ hkp2 (hKb _ _ _ _ (by omega) hb2.1 rfl)
   refine wpIn_mono (hbody (B + 1) pre x a1 _ (hA _ _ _ _ _ _ _ ha1 (by omega) hb2.1 rfl)) ?_
   rintro e a3 W3 hp
   have fin : ∀ (jump : Option Code),KeepsFrom w.heap.size (W2.putObj (B + 1) (.loop (rc .busy none))) W3 -> Kp (W2.putObj (B + 1) (.loop (rc .busy none))) W3 →
     (Instr.endRound (B + 1) jump).run P W3 = .ok (.bool jump.isNone) (W3.putObj (B + 1) (.loop (rc (if jump.isNone then .ready else .done) jump))) ∧
     bk .busy none W3 /\ bk (if jump.isNone then .ready else .done) jump (W3.putObj (B + 1) (.loop (rc (if jump.isNone then .ready else .done) jump))) /\ Kp W (W3.putObj (B + 1) (.loop (rc (if jump.isNone then .ready else .done) jump))):=fun jump hk3 hkp => by
    rw [hB] at hk3
    have hb4:=hkeep hk3 hb3
    have hr:=run_endRound (P:=P) jump hb4.1
    have he : ({ rc .busy none with state:=if jump.isNone then .ready else .done,pending:=jump } : Loop) = rc (if jump.isNone then .ready else .done) jump:=by rw [hrc]
    rw [he] at hr
    exact ⟨hr,hb4,hput hb4,hKt _ _ _ (hKt _ _ _ hkp3 hkp) (hKb _ _ _ _ (by omega) hb4.1 rfl)⟩
   cases e with
   | normal =>
    obtain ⟨hk3,hkp,hi3⟩:=hp
    obtain ⟨hr,hb4,hb5,hkp5⟩:=fin none hk3 hkp
    exact ⟨_,_,hr,.inl ⟨rfl,⟨hI _ _ _ _ _ hi3 (by omega) hb4.1 rfl,hb5⟩,hkp5⟩⟩
   | ret =>
    obtain ⟨hk3,hkp,hi3⟩:=hp
    obtain ⟨hr,hb4,hb5,hkp5⟩:=fin (some .ret) hk3 hkp
    exact ⟨_,_,hr,.inr ⟨rfl,⟨.ret,hIx _ _ _ _ _ _ hi3 (by omega) hb4.1 rfl,hb5⟩,hkp5⟩⟩
   | exit id =>
    obtain ⟨hk3,hkp,hi3⟩:=hp
    obtain ⟨hr,hb4,hb5,hkp5⟩:=fin (some (.exit id)) hk3 hkp
    exact ⟨_,_,hr,.inr ⟨rfl,⟨.exit id,hIx _ _ _ _ _ _ hi3 (by omega) hb4.1 rfl,hb5⟩,hkp5⟩⟩
   | goto t =>
    obtain ⟨hk3,hkp,hi3⟩:=hp
    obtain ⟨hr,hb4,hb5,hkp5⟩:=fin (some (.goto t)) hk3 hkp
    exact ⟨_,_,hr,.inr ⟨rfl,⟨.goto t,hIx _ _ _ _ _ _ hi3 (by omega) hb4.1 rfl,hb5⟩,hkp5⟩⟩
   | panic ch => exact hp.elim
   | outgrown => exact hp.elim
  | exit id => exact hp.elim
  | ret => exact hp.elim
  | goto t => exact hp.elim
  | panic ch => exact hp.elim
  | outgrown => exact hp.elim
 ·-- behind the iterator
  have hbusy : ∀ st,st ≠ LoopState.busy -> ∀ pe,(rc st pe).state ≠ .busy:=fun st h pe => by rw [hrc]; exact h
  have hpe : ∀ st pe,(rc st pe).pending = pe:=fun st pe => by rw [hrc]
  rintro e W2 ⟨⟨v,rfl⟩,(⟨xs,hs,hi,hb⟩ | ⟨pre,hs,c,hi,hb⟩)⟩
  ·have hr:=run_endLoop (P:=P) hb.1 (hbusy _ (by simp) _)
   rw [hpe] at hr
   exact ⟨none,_,hr,hdone B xs _ (by omega) (hS _ _ _ _ _ hs (by omega) hb.1 rfl) (hI _ _ _ _ _ hi (by omega) hb.1 rfl) ((World.putObj_heap_other (by omega)).trans hb.2)⟩
  ·have hr:=run_endLoop (P:=P) hb.1 (hbusy _ (by simp) _)
   rw [hpe] at hr
   exact ⟨some c,_,hr,hstop B c pre _ (by omega) (hSp _ _ _ _ _ hs (by omega) hb.1 rfl) (hIx _ _ _ _ _ _ hi (by omega) hb.1 rfl) ((World.putObj_heap_other (by omega)).trans hb.2)⟩
section
variable {P : Program} {ops : Array Oper} {Q : Exit -> Act -> World -> Prop} {md : Region.Mode}
theorem rows_wide {row : String} {args : Array Value} {w : World} {R : Value -> World -> Prop} {n : Nat} (h : Rows P row args w R) : RowsIn Fence.wide n P row args w R:=by
 exact fun c cs _ => let ⟨v,w',r,s⟩:=h c cs; ⟨v,w',r,stepsIn_wide.2 s⟩
theorem wpIn_round_of_wp {l n : Nat} {o : Oper} {a : Act} {w : World} {K : Act -> World -> Prop} (hd : ∀ c,o.op ≠ .defer c) (h : o.wp P a w K Q) : o.wpIn (Fence.wide.inRound l) n P a w K Q:=by
 refine ⟨fun _ _ => trivial,?_⟩
 rw [show (Fence.wide.inRound l).round = some l from rfl,Oper.semAt_some l _ _ hd]
 unfold Oper.wp at h
 generalize (execOp a.eval o).run P w = r at h
 cases r with
 | ok x w' =>
  cases x <;> simp only [Oper.upon,Oper.uponIn] at h ⊢ <;> try exact h
  case enter f args =>
   exact ⟨wide_depth,(CallsIn.inRound l (callsIn_wide.2 h)).mono fun e w'' he => by cases e <;> exact he⟩
  case row row args => exact ⟨wide_depth,rows_wide h⟩
 | halt x w' => cases x <;> simp only [Oper.upon,Oper.uponIn] at h ⊢ <;> exact h
def noDefer (ops : Array Oper) : Bool:=ops.toList.all fun o => match o.op with | .defer _ => false | _ => true
theorem noDefer_spec {i : Nat} {o : Oper} (h : noDefer ops = true) (hi : ops[i]? = some o) : ∀ c,o.op ≠ .defer c:=by
 intro c hc
 unfold noDefer at h
 rw [List.all_eq_true] at h
 have := h o (Array.mem_toList_iff.2 (Array.mem_of_getElem? hi))
 simp [hc] at this
theorem wpOpIn_of_wpOp {l n i : Nat} {a : Act} {w : World} {K : Act -> World -> Prop} (hd : noDefer ops = true) (hQ : ¬ LetsOut Q) (h : wpOp P ops Q i K a w) : wpOpIn (Fence.wide.inRound l) n P ops Q i K a w:=by
 unfold wpOp at h
 unfold wpOpIn
 cases ho : ops[i]? with
 | none => simpa [ho] using h
 | some o =>
  simp only [ho] at h ⊢
  split
  ·rename_i hw
   rw [if_pos hw] at h
   exact wpIn_round_of_wp (noDefer_spec hd ho) (h.resolve_right fun h' => hQ h'.2)
  ·rename_i hw
   rw [if_neg hw] at h
   exact ⟨fun _ _ => trivial,h⟩
theorem wpAnyIn_of_wpAny {l n : Nat} (hd : noDefer ops = true) (hQ : ¬ LetsOut Q) : ∀ (fuel : Nat) (listed : Array Bool) (a : Act) (w : World),wpAny P md ops Q fuel listed a w -> wpAnyIn (Fence.wide.inRound l) n P md ops Q fuel listed a w
 | 0,_,_,_,h => h
 | fuel + 1,_,_,_,h => ⟨h.1,fun i hi => wpOpIn_mono (fun a' w' h' => wpAnyIn_of_wpAny hd hQ fuel _ a' w' h') (wpOpIn_of_wpOp hd hQ (h.2 i hi))⟩
theorem wpOp_of {i : Nat} {o : Oper} {a : Act} {w : World} {K : Act -> World -> Prop} (ho : ops[i]? = some o) (hw : Region.wanted o (yielded ops a.tmps) = true) (h : o.wp P a w K Q) : wpOp P ops Q i K a w:=by
 unfold wpOp; simp only [ho,hw,if_true]; exact .inl h
def wpAnyD (P : Program) (md : Region.Mode) (ops : Array Oper) (Q : Exit -> Act -> World -> Prop) (S : World -> Prop) (D : List Nat) : Nat -> Array Bool -> Act -> World -> Prop
 | 0,listed,a,w => Region.ready md ops listed = [] /\ Q .normal a w
 | fuel + 1,listed,a,w =>
  (Region.ready md ops listed = [] -> Q .normal a w) ∧
  ∀ i ∈ Region.ready md ops listed,wpOp P ops Q i (fun a' w' => (i ∉ D -> S w') /\ wpAnyD P md ops Q S D fuel (listed.setIfInBounds i true) a' w') a w
variable {S : World -> Prop} {D : List Nat}
theorem wpAny_of_D : ∀ (fuel : Nat) (listed : Array Bool) (a : Act) (w : World),wpAnyD P md ops Q S D fuel listed a w -> wpAny P md ops Q fuel listed a w
 | 0,_,_,_,h => h
 | fuel + 1,_,_,_,h => ⟨h.1,fun i hi => wpOp_mono (fun a' w' h' => wpAny_of_D fuel _ a' w' h'.2) (h.2 i hi)⟩
theorem wpAnyD_first {i : Nat} {oi : Oper} {v : Value} (hi : ops[i]? = some oi) (hsel : ∀ (j : Nat) (o : Oper) cs b,ops[j]? = some o -> o.op ≠ .select cs b)
  (hQ : ∀ c a w,Q (.panic c) (a.put oi.dst v) w -> Q (.panic c) a w)
  (hD : ∀ j oj,ops[j]? = some oj -> j ∈ D -> ∃ e ∈ oj.after,Region.binds md e = true /\ (e.on = i \/ e.on ∈ D)) :
  ∀ (fuel : Nat) (listed : Array Bool) (a : Act) (w : World),
   (∀ j oj,ops[j]? = some oj -> j ≠ i -> listed.getD j true = false -> (∀ e ∈ oj.after,Region.binds md e = true -> e.on ≠ i) -> oi.apart ops oj = true) →
   (∀ j ∈ D,listed.getD j false = false) →
   i ∈ Region.ready md ops listed -> YieldsIf P ops S oi v a -> S w →
   wpAnyD P md ops Q S D fuel (listed.setIfInBounds i true) (a.put oi.dst v) w -> wpAnyD P md ops Q S D (fuel + 1) listed a w:=by
 intro fuel
 induction fuel with
 | zero =>
  intro listed a w _ _ hr hy hS H
  refine ⟨fun h => (by rw [h] at hr; cases hr),fun j hj => ?_⟩
  by_cases hji : j = i
  ·subst hji; exact hy.wpOp hi hS ⟨fun _ => hS,H⟩
  ·have := ready_mono hj hji
   rw [H.1] at this
   cases this
 | succ fuel ih =>
  intro listed a w hfree hinv hr hy hS H
  refine ⟨fun h => (by rw [h] at hr; cases hr),fun j hj => ?_⟩
  by_cases hji : j = i
  ·subst hji; exact hy.wpOp hi hS ⟨fun _ => hS,H⟩
  ·have h1:=H.2 j (ready_mono hj hji)
   obtain ⟨hjun,oj,hoj,hall⟩:=mem_ready.1 hj
   have hlisted : ∀ k,listed.getD k false = true -> listed.getD k true = true:=fun k hk => by
    rcases Nat.lt_or_ge k listed.size with h' | h'
    ·simpa [h'] using hk
    ·simp [Array.getElem?_eq_none h']
   have hnot : ∀ e ∈ oj.after,Region.binds md e = true -> e.on ≠ i:=fun e he hb heq => by
    have h1:=hall e he hb
    have h0:=(mem_ready.1 hr).1
    rw [heq] at h1
    have := hlisted _ h1
    rw [h0] at this; cases this
   have hjD : j ∉ D:=fun hjD => by
    obtain ⟨e,he,hb,h⟩:=hD j oj hoj hjD
    rcases h with h | h
    ·exact hnot e he hb h
    ·have h1:=hall e he hb
     rw [hinv _ h] at h1; cases h1
   have h2:=wpOp_putIf hoj (hfree j oj hoj hji hjun hnot) (fun cs b => hsel i oi cs b hi) (fun cs b => hsel j oj cs b hoj) hQ hy h1
   have hfree' : ∀ k ok,ops[k]? = some ok -> k ≠ i -> (listed.setIfInBounds j true).getD k true = false →
     (∀ e ∈ ok.after,Region.binds md e = true -> e.on ≠ i) -> oi.apart ops ok = true:=fun k ok hk hki hun hno => by
    refine hfree k ok hk hki ?_ hno
    by_cases hjk : j = k
    ·subst hjk; exact hjun
    ·rw [getD_set_ne true hjk] at hun; exact hun
   have hinv' : ∀ k ∈ D,(listed.setIfInBounds j true).getD k false = false:=fun k hk => by
    have hne : j ≠ k:=fun e => hjD (e ▸ hk)
    have := hinv k hk
    rw [Array.getD_eq_getD_getElem?] at this ⊢
    rw [Array.getElem?_setIfInBounds_ne hne]
    exact this
   refine wpOp_mono (fun a' w' h3 => ⟨fun _ => h3.2.1 hjD,ih (listed.setIfInBounds j true) a' w' hfree' hinv' (ready_mono hr (Ne.symm hji)) h3.1 (h3.2.1 hjD) ?_⟩) h2
   rw [Array.setIfInBounds_comm _ _ hji]
   exact h3.2.2
def marksWait (md : Region.Mode) (ops : Array Oper) (D : List Nat) (i : Nat) : Bool :=
 D.all fun j => match ops[j]? with
  | none => true
  | some o => o.after.any fun e => Region.binds md e && (e.on == i || D.contains e.on)
def marksOpen (D : List Nat) (listed : Array Bool) : Bool:=D.all fun j => !listed.getD j false
theorem wpAnyD_take {i : Nat} {oi : Oper} {v : Value} {fuel : Nat} {listed : Array Bool} {a : Act} {w : World} (hi : ops[i]? = some oi)
  (hs : Region.noSelect ops = true) (hf : Region.free md ops listed i = true) (hr : (Region.ready md ops listed).contains i = true) (hm : marksWait md ops D i = true) (ho : marksOpen D listed = true)
  (hQ : ∀ c a w,Q (.panic c) (a.put oi.dst v) w -> Q (.panic c) a w) (hy : YieldsIf P ops S oi v a) (hS : S w)
  (h : wpAnyD P md ops Q S D fuel (listed.setIfInBounds i true) (a.put oi.dst v) w) : wpAnyD P md ops Q S D (fuel + 1) listed a w:=by
 refine wpAnyD_first hi (Region.noSelect_spec hs) hQ ?_ fuel listed a w (Region.free_spec hi hf) ?_ (by simpa using hr) hy hS h
 ·intro j oj hoj hjD
  unfold marksWait at hm
  rw [List.all_eq_true] at hm
  have := hm j hjD
  simp only [hoj,Array.any_eq_true'] at this
  obtain ⟨e,he,hb⟩:=this
  simp only [Bool.and_eq_true,Bool.or_eq_true,beq_iff_eq,List.contains_iff_mem] at hb
  exact ⟨e,he,hb.1,hb.2⟩
 ·intro j hj
  unfold marksOpen at ho
  rw [List.all_eq_true] at ho
  simpa using ho j hj
theorem wpAnyD_one {i : Nat} {o : Oper} {fuel : Nat} {listed : Array Bool} {a : Act} {w : World} (hr : Region.ready md ops listed = [i]) (ho : ops[i]? = some o) (hw : Region.wanted o (yielded ops a.tmps) = true)
  (h : o.wp P a w (fun a' w' => (i ∉ D -> S w') /\ wpAnyD P md ops Q S D fuel (listed.setIfInBounds i true) a' w') Q) : wpAnyD P md ops Q S D (fuel + 1) listed a w :=
 ⟨fun h0 => by rw [hr] at h0; simp at h0,fun j hj => by
  rw [hr] at hj
  obtain rfl : j = i:=by simpa using hj
  exact wpOp_of ho hw h⟩
theorem wpAnyD_done {listed : Array Bool} {a : Act} {w : World} (hr : Region.ready md ops listed = []) (h : Q .normal a w) : ∀ fuel,wpAnyD P md ops Q S D fuel listed a w
 | 0 => ⟨hr,h⟩
 | _ + 1 => ⟨fun _ => h,by rw [hr]; simp⟩
theorem region_round {l n id : Nat} {a : Act} {w : World} (S : World -> Prop) (D : List Nat) (hm : P.follows .mixedOrders = true) (hd : noDefer ops = true) (hQ : ¬ LetsOut Q)
  (h : wpAnyD P .any ops Q S D ops.size (Array.replicate ops.size false) a w.drew) : (Code.region id ops true).wpIn (Fence.wide.inRound l) n P Q a w :=
 wpIn_region_any hm (wpAnyIn_of_wpAny hd hQ _ _ _ _ (wpAny_of_D _ _ _ _ h))
theorem region_plain {id : Nat} {a : Act} {w : World} (S : World -> Prop) (D : List Nat) (hm : P.follows .mixedOrders = true)
  (h : wpAnyD P .any ops Q S D ops.size (Array.replicate ops.size false) a w.drew) : (Code.region id ops true).wp P Q a w :=
 wp_region_any hm (wpAny_of_D _ _ _ _ h)
end
section
variable {P : Program} {ops : Array Oper} {Q : Exit -> Act -> World -> Prop} {md : Region.Mode} {S : World -> Prop} {D : List Nat}
theorem wpAnyD_tk {i : Nat} {oi : Oper} {v : Value} {fuel : Nat} {listed : Array Bool} {a : Act} {w : World} (hi : ops[i]? = some oi) (hy : YieldsIf P ops S oi v a) (hS : S w)
  (h : wpAnyD P md ops Q S D fuel (listed.setIfInBounds i true) (a.put oi.dst v) w) (hs : Region.noSelect ops = true:=by kernel_rfl) (hf : Region.free md ops listed i = true:=by kernel_rfl) (hr : (Region.ready md ops listed).contains i = true:=by kernel_rfl) (hm : marksWait md ops D i = true:=by kernel_rfl) (ho : marksOpen D listed = true:=by kernel_rfl) (hQ : ∀ c a w,Q (.panic c) (a.put oi.dst v) w -> Q (.panic c) a w:=by exact fun _ _ _ h => h) : wpAnyD P md ops Q S D (fuel + 1) listed a w:=wpAnyD_take hi hs hf hr hm ho hQ hy hS h
theorem wpAnyD_tp {i : Nat} {oi : Oper} {v : Value} {fuel : Nat} {listed : Array Bool} {a : Act} {w : World} (hi : ops[i]? = some oi) (hS : S w)
  (h : wpAnyD P md ops Q S D fuel (listed.setIfInBounds i true) (a.put oi.dst v) w) (hs : Region.noSelect ops = true:=by kernel_rfl) (hf : Region.free md ops listed i = true:=by kernel_rfl) (hr : (Region.ready md ops listed).contains i = true:=by kernel_rfl) (hm : marksWait md ops D i = true:=by kernel_rfl) (ho : marksOpen D listed = true:=by kernel_rfl) (hy : YieldsIf P ops S oi v a:=by exact .inl ⟨by kernel_rfl,fun W' hS => by go_simp⟩) (hQ : ∀ c a w,Q (.panic c) (a.put oi.dst v) w -> Q (.panic c) a w:=by exact fun _ _ _ h => h) : wpAnyD P md ops Q S D (fuel + 1) listed a w:=wpAnyD_take hi hs hf hr hm ho hQ hy hS h
theorem wpAnyD_on {i : Nat} {o : Oper} {fuel : Nat} {listed : Array Bool} {a : Act} {w : World} (ho : ops[i]? = some o)
  (h : o.wp P a w (fun a' w' => (i ∉ D -> S w') /\ wpAnyD P md ops Q S D fuel (listed.setIfInBounds i true) a' w') Q) (hr : Region.ready md ops listed = [i]:=by kernel_rfl) (hw : Region.wanted o (yielded ops a.tmps) = true:=by kernel_rfl) : wpAnyD P md ops Q S D (fuel + 1) listed a w:=wpAnyD_one hr ho hw h
end
attribute [local go_sem] Oper.semAt_some
theorem down_any (v : Value) (w : World) (hv : v.oneCell' = true) : Calls Tryz.prog 116 #[v] w fun e w' => e = .returned (.func (.func 122) #[] #[.pointer (some ⟨w.heap.size,0,none⟩)]) /\ w.alloc (.cells #[v] 121) = w':=by
 cases v <;> simp [Value.oneCell'] at hv
 all_goals
  go_enter Tryz.func116,Tryz.ntmps116
  go_wp2_with fail
  go_ret
  exact ⟨rfl,rfl⟩
def oneL (n : Nat) : List Nat:=if n = 0 then [] else [n]
theorem down_iter (K L : Nat) (v : Value) (n : Nat) :
  IterSt (α:=Nat) Tryz.prog 122 (fun i => #[] ++ #[.func (.yield i) #[] #[]] ++ #[.pointer (some ⟨L,0,none⟩)]) (fun x => #[.int .u32 x]) (fun pre x W => pre = [] /\ x = n) (fun A B => A.grownBy B none) (fun _ _ => True)
   (fun xs W => xs = oneL n) (fun _ _ => True) (fun W => Blk W L #[v] 121 /\ Wd .u32 K W v n):=by
 rintro m i J Jx W ⟨hb,hv⟩ hJ hJx hY h0
 have c0 : W.cell? ⟨L,0,none⟩ = some v:=hb.at rfl
 refine callsIn_of_wp Tryz.func122 rfl trivial ?_
 simp only [Tryz.ntmps122,List.size_toArray,List.length_cons,List.length_nil,Nat.reduceAdd,Nat.reduceSub,Array.replicate_succ,Array.replicate_zero,List.push_toArray,List.append_toArray,List.nil_append,List.cons_append]
 rcases hv with ⟨rfl,a,c,rfl,hc⟩ | ⟨hn0,b,o,c,rfl,h1,hc,hbk,h5⟩
 ·gi_wp2_with fail
  refine wpIn_loop_rounds 1 ?_
  rw [roundsIn_succ]
  gi_wp2_with fail
  go_end0
  exact ⟨⟨_,rfl⟩,.inl ⟨[],rfl,h0⟩⟩
 ·have hn1 : oneL n = [n]:=by unfold oneL; rw [if_neg (by omega)]
  rw [hn1]
  obtain ⟨fn,tmps,assign,body,hy,hR⟩:=hY [] n W h0 ⟨rfl,rfl⟩
  clear hY hn1
  gi_wp2_with fail
  refine wpIn_loop_rounds 2 ?_
  rw [roundsIn_succ]
  gi_wp2_with fail
  refine ⟨wide_depth,hR.mono ?_⟩
  clear hR hy
  rintro e' W3 (⟨rfl,hj3,hk3⟩ | ⟨rfl,hj3,hk3⟩)
  ·gi_wp2_with fail
   rw [roundsIn_succ]
   gi_wp2_with fail
   go_end0
   exact ⟨⟨_,rfl⟩,.inl ⟨[n],rfl,hj3⟩⟩
  ·gi_wp2_with fail
   refine bodyPost_ret (results_none rfl _ _ _) rfl ?_
   exact ⟨⟨_,rfl⟩,.inr ⟨_,trivial,hj3⟩⟩
def LongI (B0 : Nat) (w : World) (n : Nat) (pre : List Nat) (W : World) : Prop :=
 Blk W B0 #[.int .u64 (if pre = [] then 0 else n)] 81 /\ Below B0 w W /\ B0 + 1 <= W.heap.size
theorem LongI.kept {B0 : Nat} {w W W' : World} {n : Nat} {pre : List Nat} {row : Option Nat} (h : LongI B0 w n pre W) (hg : W.grownBy W' row) (hr : ∀ k,row = some k -> B0 + 1 <= k) : LongI B0 w n pre W':=by
 obtain ⟨h1,h2,h3⟩:=h
 exact ⟨h1.kept hg (fun e => by have := hr _ e.symm; omega),h2.trans (below_grown hg (fun k e => by have := hr k e; omega) (by omega)),Nat.le_trans h3 hg.size⟩
theorem long_any (K : Nat) (v : Value) (n : Nat) (w : World) (h : Wd .u32 K w v n) (hK : K <= w.heap.size) (hn : n < 65536) :
  Calls Tryz.prog 106 #[v] w fun e w' => e = .returned (.int .u64 n) /\ Below w.heap.size w w':=by
 obtain ⟨va,vn,vc,rfl⟩:=h.form
 obtain ⟨B0,hB0⟩ : ∃ B0,w.heap.size = B0:=⟨_,rfl⟩
 obtain ⟨W2,hW2⟩ : ∃ W2,(w.alloc (.cells #[.int .u64 0] 81)).alloc (.cells #[.slice va vn vc] 121) = W2:=⟨_,rfl⟩
 have hb2 : Below B0 w W2:=by rw [<- hW2,<- hB0]; exact ((Below.refl _ w).alloc (Nat.le_refl _) _).alloc (by simp) _
 have q0 : Blk W2 B0 #[.int .u64 0] 81:=by rw [<- hW2,<- hB0]; exact (Blk.new w _ _).alloc _
 have q1 : Blk W2 (B0 + 1) #[.slice va vn vc] 121:=by
  rw [<- hW2,<- hB0]
  have := Blk.new (w.alloc (.cells #[.int .u64 0] 81)) #[.slice va vn vc] 121
  rwa [World.size_alloc] at this
 have s2 : W2.heap.size = B0 + 2:=by rw [<- hW2,<- hB0]; simp
 have HB:=Lib.hid hB0
 have HW:=Lib.hid hW2
 rw [hB0] at hK ⊢
 clear hB0 hW2
 refine callsIn_wide.1 (callsIn_of_wp_marks (n:=5) Tryz.func106 rfl trivial ?_)
 simp only [Tryz.ntmps106,List.size_toArray,List.length_cons,List.length_nil,Nat.reduceAdd,Nat.reduceSub,Array.replicate_succ,Array.replicate_zero,List.push_toArray,List.append_toArray,List.nil_append,List.cons_append]
 gi_wp2_with fail
 refine ⟨trivial,callsIn_wide.2 ((down_any _ _ rfl).mono ?_)⟩
 rintro en w' ⟨rfl,rfl⟩
 gi_wp2_with fail
 simp only [HB.out]
 rw [HW.out]
 refine range_law (gf:=122) (fi:=#[]) (lb:=#[.pointer (some ⟨B0 + 1,0,none⟩)]) rfl (enters_of Tryz.func122 (by kernel_rfl) rfl) (down_iter K (B0 + 1) (.slice va vn vc) n) (fun _ => rfl)
  (fun pre W => LongI B0 w n pre W) (fun _ _ _ => False)
  (fun pre x a1 W => LongI B0 w n pre W /\ pre = [] /\ x = n ∧
   a1 = { tmps:=#[.slice va vn vc,undef,.int .u64 0,.pointer (some ⟨B0,0,none⟩),.int .u32 n,.slice va vn vc,.func (.func 122) #[] #[.pointer (some ⟨B0 + 1,0,none⟩)],.int .u32 n,undef,undef,undef,undef,undef,undef],defers:=[] })
  ?hSt ?hI ?hIx ?hA ?hS ?hSp ?hISt ?hIxSt ?hKt ?hKb ?h0 ?hPre ?hassign ?hbody ?hdone ?hstop
 case hSt => exact fun A B _ hg => KeepsFrom.of_grownBy hg (fun j e => by cases e)
 case hI => exact fun s W l o o' hi hle hl ho => hi.kept (grownBy_putObj' W l o') (fun k e => by cases e; omega)
 case hIx => exact fun c s W l o o' hi _ _ _ => hi
 case hA =>
  rintro s y a1 W l o o' ⟨hi,hx1,hx2,ha⟩ hle hl ho
  exact ⟨hi.kept (grownBy_putObj' W l o') (fun k e => by cases e; omega),hx1,hx2,ha⟩
 case hS => exact fun s W l o o' h _ _ _ => h
 case hSp => exact fun s W l o o' h _ _ _ => h
 case hISt => exact fun s A B hi hg => hi.kept hg (fun k e => by cases e)
 case hIxSt => exact fun c s A B hi _ => hi
 case hKt => exact fun A B C _ _ => trivial
 case hKb => exact fun W l o o' _ _ _ => trivial
 case h0 =>
  intro o o'
  exact ⟨(q0.alloc _).alloc _,(hb2.alloc (by omega) o).alloc (by simp; omega) o',by simp; omega⟩
 case hPre =>
  intro o o'
  exact ⟨(q1.alloc _).alloc _,h.below ((hb2.alloc (by omega) o).alloc (by simp; omega) o') hK (Nat.le_refl _)⟩
 case hstop => exact fun D c pre W _ _ hi _ => hi.elim
 case hassign =>
  rintro i pre y W hi ⟨rfl,rfl⟩ hlt
  gi_wp2
  exact ⟨KeepsFrom.refl _ _,trivial,hi,by trivial,by trivial,by first | trivial | rfl⟩
 case hbody =>
  rintro i pre y a1 W ⟨hi,rfl,rfl,rfl⟩
  obtain ⟨g1,g2,g3⟩:=hi
  obtain ⟨c0,c1⟩:=g1.one
  have hbits : bits BinOp.or IntKind.u64 0 (y : Int) = y:=by have := u64_or_nat 0 y (by decide) (by omega); simpa using this
  gi_wp2_with fail
  exact ⟨KeepsFrom.of_grownBy (grownBy_setCell W B0 0 _) (fun j e => by simp at e; omega),trivial,g1.set (i:=0) (.int .u64 y),g2.setCell (p:=⟨B0,0,none⟩) (Nat.le_refl _) _,by have := (grownBy_setCell W B0 0 (.int .u64 y)).size; omega⟩
 case hdone =>
  rintro D xs W hD rfl hi hdef
  obtain ⟨g1,g2,g3⟩:=hi
  have c0 : W.cell? ⟨B0,0,none⟩ = some (.int .u64 n):=by
   rw [(g1.one).1]
   unfold oneL
   by_cases h0 : n = 0
   ·subst h0; rfl
   ·simp [h0]
  gi_wp2_with fail
  refine ⟨by simp,.inl ⟨_,_,rfl,run_takeDeferred hdef,?_⟩⟩
  exact ⟨_,results_tmp rfl _ _ _,rfl,g2.trans (below_grown (grownBy_putObj' W D (.deferred none)) (fun r e => by cases e; omega) (by omega))⟩
theorem common_any (K : Nat) (u v : Value) (m n : Nat) (w : World) (hu : Wd .u32 K w u m) (hv : Wd .u32 K w v n) (hK : K <= w.heap.size) (hm : m < 65536) (hn : n < 65536) :
  Calls Tryz.prog 99 #[u,v] w fun e w' => ∃ v',e = .returned v' /\ Wd .u32 w'.heap.size w' v' (Nat.gcd m n) /\ Below w.heap.size w w':=by
 have hcmp:=compare_any K u v m n w hu hv
 have hl1 : ∀ W,Below w.heap.size w W -> Calls Tryz.prog 106 #[u] W fun e w' => e = .returned (.int .u64 m) /\ Below W.heap.size W w':=fun W hb => long_any W.heap.size u m W (hu.below hb hK (Nat.le_trans hK hb.size)) (Nat.le_refl _) hm
 have hl2 : ∀ W,Below w.heap.size w W -> Calls Tryz.prog 106 #[v] W fun e w' => e = .returned (.int .u64 n) /\ Below W.heap.size W w':=fun W hb => long_any W.heap.size v n W (hv.below hb hK (Nat.le_trans hK hb.size)) (Nat.le_refl _) hn
 by_cases hlt : m < n
 ·have e1 : (if m < n then (-1 : Int) else if n < m then 1 else 0) = -1:=by rw [if_pos hlt]
  rw [e1] at hcmp
  clear e1
  go_enter Tryz.func99,Tryz.ntmps99
  go_wp2_with fail
  refine hcmp.mono ?_
  rintro e w1 ⟨rfl,kk,rfl⟩
  by_cases hs0 : m = 0
  ·have hl0 : Hid (Wd .u32 K w v (Nat.gcd m n)):=Lib.hid (by rw [Nat.gcd_comm m n,hs0,Nat.gcd_zero_right]; exact hv)
   rcases hu with ⟨_,sa,sc,rfl,_⟩ | ⟨h0,_⟩
   ·obtain ⟨ba,bm,bc,hbf⟩:=hl0.out.form
    subst hbf
    go_wp2_with fail
    refine wp_loop_rounds 1 ?_
    rw [rounds_succ]
    go_wp2_with fail
    go_ret
    exact ⟨_,rfl,hl0.out.below (below_drewN2 (Below.refl w.heap.size w) _) hK hK,below_drewN2 (Below.refl _ w) _⟩
   ·omega
  ·have hbl:=hv
   have hq1:=hl2
   have hq2:=hl1
   rcases hu with ⟨h0,_⟩ | ⟨h0,sb,so,sc,rfl,hs1,hs2,hs3,hs4⟩
   ·omega
   rcases hv with ⟨h0',_⟩ | ⟨h0',bb,bo,bc,rfl,hb1,hb2,hb3,hb4⟩
   ·omega
   go_wp2_with fail
   refine wp_loop_rounds 1 ?_
   rw [rounds_succ]
   go_wp2_with fail
   refine (hq1 _ (below_drewN2 (Below.refl _ w) _)).mono ?_
   rintro e w2 ⟨rfl,hw2⟩
   have hw2' : Below w.heap.size w w2:=(below_drewN2 (Below.refl _ w) _).trans hw2
   go_wp2_with fail
   refine (hq2 _ hw2').mono ?_
   rintro e w3 ⟨rfl,hw3⟩
   have hw3' : Below w.heap.size w w3:=hw2'.trans (hw3.mono hw2'.size)
   have HG : Hid (Nat.gcd n m = Nat.gcd m n):=Lib.hid (Nat.gcd_comm m n).symm
   clear hq1 hq2 hcmp hl1 hl2 hs4 hb4 hbl
   go_wp2_with fail
   go_loopw [10,11] (fun x y wr => ∃ (a b q : Nat),x = .int .u64 a /\ y = .int .u64 b /\ Hid (Nat.gcd a b = Nat.gcd m n) /\ a < 65536 /\ b < 65536 /\ wr = w3.drewN q) (fun _ y _ => (intOf y).toNat)
   case atStart => exact ⟨_,_,0,rfl,rfl,by first | exact HG | exact Lib.hid rfl,by omega,by omega,rfl⟩
   case round =>
    obtain ⟨a,b,q,rfl,rfl,HAB,ha,hb,rfl⟩:=hrel
    by_cases hb0 : b = 0
    ·subst hb0
     have hfin : Hid (a = Nat.gcd m n):=Lib.hid (by rw [<- HAB.out,Nat.gcd_zero_right])
     have hsh:=short_any a (w3.drewN q) ha
     go_wp2_with fail
     refine hsh.mono ?_
     rintro e w4 ⟨v',rfl,hv',hb4⟩
     go_wp2_with fail
     go_ret
     exact ⟨_,rfl,by rw [<- hfin.out]; exact hv',hw3'.trans ((below_drewN2 (Below.refl _ _) _).trans hb4 |>.mono hw3'.size)⟩
    ·have hx : ((b : Int) != 0) = true:=by simp; omega
     have hy : ((b : Int) == 0) = false:=by simp; omega
     have hrem : Hid (Nat.gcd b (a % b) = Nat.gcd m n):=Lib.hid (by rw [<- HAB.out,Nat.gcd_comm a b,Nat.gcd_rec b a,Nat.gcd_comm])
     have hmod : a % b < b:=Nat.mod_lt _ (by omega)
     have htm : Int.tmod (a : Int) (b : Int) = ((a % b : Nat) : Int):=by rw [Int.tmod_eq_emod_of_nonneg (by omega)]; simp
     have hem : (a : Int) % (b : Int) = ((a % b : Nat) : Int):=by simp
     obtain ⟨r,hr⟩ : ∃ r,a % b = r:=⟨_,rfl⟩
     rw [hr] at hrem hmod htm hem
     clear hr
     go_upto_region 18 with fail
     go_quiet (fail)
     go_wp2_with fail
     exact ⟨⟨b,r,_,rfl,rfl,hrem,by omega,by omega,drewN_two _ _ _⟩,by simp [intOf]; omega⟩
 ·obtain ⟨cv,hcv⟩ : ∃ cv : Int,(if m < n then (-1 : Int) else if n < m then 1 else 0) = cv:=⟨_,rfl⟩
  have hcv0 : ¬ cv < 0:=by rw [<- hcv,if_neg hlt]; split <;> omega
  rw [hcv] at hcmp
  clear hcv
  go_enter Tryz.func99,Tryz.ntmps99
  go_wp2_with fail
  refine hcmp.mono ?_
  rintro e w1 ⟨rfl,kk,rfl⟩
  by_cases hs0 : n = 0
  ·have hl0 : Hid (Wd .u32 K w u (Nat.gcd m n)):=Lib.hid (by rw [(rfl : Nat.gcd m n = Nat.gcd m n),hs0,Nat.gcd_zero_right]; exact hu)
   rcases hv with ⟨_,sa,sc,rfl,_⟩ | ⟨h0,_⟩
   ·obtain ⟨ba,bm,bc,hbf⟩:=hl0.out.form
    subst hbf
    go_wp2_with fail
    refine wp_loop_rounds 1 ?_
    rw [rounds_succ]
    go_wp2_with fail
    go_ret
    exact ⟨_,rfl,hl0.out.below (below_drewN2 (Below.refl w.heap.size w) _) hK hK,below_drewN2 (Below.refl _ w) _⟩
   ·omega
  ·have hbl:=hu
   have hq1:=hl1
   have hq2:=hl2
   rcases hv with ⟨h0,_⟩ | ⟨h0,sb,so,sc,rfl,hs1,hs2,hs3,hs4⟩
   ·omega
   rcases hu with ⟨h0',_⟩ | ⟨h0',bb,bo,bc,rfl,hb1,hb2,hb3,hb4⟩
   ·omega
   go_wp2_with fail
   refine wp_loop_rounds 1 ?_
   rw [rounds_succ]
   go_wp2_with fail
   refine (hq1 _ (below_drewN2 (Below.refl _ w) _)).mono ?_
   rintro e w2 ⟨rfl,hw2⟩
   have hw2' : Below w.heap.size w w2:=(below_drewN2 (Below.refl _ w) _).trans hw2
   go_wp2_with fail
   refine (hq2 _ hw2').mono ?_
   rintro e w3 ⟨rfl,hw3⟩
   have hw3' : Below w.heap.size w w3:=hw2'.trans (hw3.mono hw2'.size)
   have HG : Hid (Nat.gcd m n = Nat.gcd m n):=Lib.hid ((rfl : Nat.gcd m n = Nat.gcd m n)).symm
   clear hq1 hq2 hcmp hl1 hl2 hs4 hb4 hbl
   go_wp2_with fail
   go_loopw [10,11] (fun x y wr => ∃ (a b q : Nat),x = .int .u64 a /\ y = .int .u64 b /\ Hid (Nat.gcd a b = Nat.gcd m n) /\ a < 65536 /\ b < 65536 /\ wr = w3.drewN q) (fun _ y _ => (intOf y).toNat)
   case atStart => exact ⟨_,_,0,rfl,rfl,by first | exact HG | exact Lib.hid rfl,by omega,by omega,rfl⟩
   case round =>
    obtain ⟨a,b,q,rfl,rfl,HAB,ha,hb,rfl⟩:=hrel
    by_cases hb0 : b = 0
    ·subst hb0
     have hfin : Hid (a = Nat.gcd m n):=Lib.hid (by rw [<- HAB.out,Nat.gcd_zero_right])
     have hsh:=short_any a (w3.drewN q) ha
     go_wp2_with fail
     refine hsh.mono ?_
     rintro e w4 ⟨v',rfl,hv',hb4⟩
     go_wp2_with fail
     go_ret
     exact ⟨_,rfl,by rw [<- hfin.out]; exact hv',hw3'.trans ((below_drewN2 (Below.refl _ _) _).trans hb4 |>.mono hw3'.size)⟩
    ·have hx : ((b : Int) != 0) = true:=by simp; omega
     have hy : ((b : Int) == 0) = false:=by simp; omega
     have hrem : Hid (Nat.gcd b (a % b) = Nat.gcd m n):=Lib.hid (by rw [<- HAB.out,Nat.gcd_comm a b,Nat.gcd_rec b a,Nat.gcd_comm])
     have hmod : a % b < b:=Nat.mod_lt _ (by omega)
     have htm : Int.tmod (a : Int) (b : Int) = ((a % b : Nat) : Int):=by rw [Int.tmod_eq_emod_of_nonneg (by omega)]; simp
     have hem : (a : Int) % (b : Int) = ((a % b : Nat) : Int):=by simp
     obtain ⟨r,hr⟩ : ∃ r,a % b = r:=⟨_,rfl⟩
     rw [hr] at hrem hmod htm hem
     clear hr
     go_upto_region 18 with fail
     go_quiet (fail)
     go_wp2_with fail
     exact ⟨⟨b,r,_,rfl,rfl,hrem,by omega,by omega,drewN_two _ _ _⟩,by simp [intOf]; omega⟩
abbrev Wv (v : Value) : Value:=.agg #[.bool false,v]
theorem wvalid_any (K : Nat) (v : Value) (n : Nat) (w : World) (h : Wd .u16 K w v n) (hK : K <= w.heap.size) : Calls Tryz.prog 83 #[Wv v] w fun e w' => e = .returned (.bool true) /\ Below w.heap.size w w':=by
 rcases h with ⟨rfl,a,c,rfl,hc⟩ | ⟨h0,b,o,c,rfl,h1,hc,hb,h5⟩
 ·go_enter Tryz.func83,Tryz.ntmps83
  go_wp2_with fail
  go_ret
  exact ⟨rfl,(Below.refl _ w).alloc (Nat.le_refl _) _⟩
 ·have hlt : b < w.heap.size:=by omega
  have hne : ¬ b = w.heap.size:=by omega
  have hx : ((n : Int) != 0) = true:=by simp; omega
  go_enter Tryz.func83,Tryz.ntmps83
  go_wp2_with fail
  go_ret
  exact ⟨rfl,(Below.refl _ w).alloc (Nat.le_refl _) _⟩
theorem wallvalid_any (K b : Nat) (u v : Value) (m n : Nat) (w : World) (hu : Wd .u16 K w u m) (hv : Wd .u16 K w v n) (hK : K <= w.heap.size) (hq : Blk w b #[.bool false,u,.bool false,v] 24) :
  Calls Tryz.prog 87 #[.slice (some ⟨b,0,none⟩) 2 2] w fun e w' => e = .returned (.bool true) /\ Below w.heap.size w w':=by
 obtain ⟨ua,um,uc,rfl⟩:=hu.form
 obtain ⟨va,vm,vc,rfl⟩:=hv.form
 have hb:=hq.lt
 obtain ⟨q0,q1,q2,q3⟩:=hq.four
 have hne : ¬ b = w.heap.size:=by omega
 go_enter Tryz.func87,Tryz.ntmps87
 go_wp2_with fail
 refine wp_loop_rounds 3 ?_
 rw [rounds_succ]
 go_wp2_with fail
 have b1 : Below w.heap.size w (w.alloc (.cells #[.bool false,.slice ua um uc] 24)):=(Below.refl _ _).alloc (Nat.le_refl _) _
 refine (wvalid_any _ _ m _ (hu.below b1 hK (Nat.le_refl _)) (by simp; omega)).mono ?_
 rintro e w2 ⟨rfl,hb2⟩
 have hw2 : Below w.heap.size w w2:=b1.trans (hb2.mono (by simp))
 obtain ⟨r0,r1,r2,r3⟩:=(hq.below hw2 hb).four
 have hb2 : b < w2.heap.size:=Nat.lt_of_lt_of_le hb hw2.size
 have hne2 : ¬ b = w2.heap.size:=by omega
 go_wp2_with fail
 rw [rounds_succ]
 go_wp2_with fail
 have b3 : Below w.heap.size w (w2.alloc (.cells #[.bool false,.slice va vm vc] 24)):=hw2.alloc hw2.size _
 refine (wvalid_any _ _ n _ (hv.below b3 hK (Nat.le_refl _)) (by simp; have := hw2.size; omega)).mono ?_
 rintro e w4 ⟨rfl,hb4⟩
 go_wp2_with fail
 rw [rounds_succ]
 go_wp2_with fail
 go_ret
 exact ⟨rfl,b3.trans (hb4.mono (by simp; have := hw2.size; omega))⟩
theorem wresult_any (K : Nat) (v : Value) (n : Nat) (w : World) (h : Wd .u32 K w v n) (hK : K <= w.heap.size) (hn : n < 65536) :
  Calls Tryz.prog 95 #[.bool false,v] w fun e w' => ∃ v',e = .returned (.tuple #[Wv v',.int .i64 0]) /\ Wd .u16 w'.heap.size w' v' n /\ Below w.heap.size w w' /\ NewV w.heap.size v':=by
 have b1 : Below w.heap.size w (w.alloc (.cells #[.bool false,.slice none 0 0] 24)):=(Below.refl _ _).alloc (Nat.le_refl _) _
 have hu:=unpack_any K v n _ (h.pre.below b1 hK (Nat.le_refl _)) (by simp; omega) hn
 have q1 : Blk (w.alloc (.cells #[.bool false,.slice none 0 0] 24)) w.heap.size #[.bool false,.slice none 0 0] 24:=Blk.new w _ _
 go_enter Tryz.func95,Tryz.ntmps95
 go_wp2_with fail
 refine hu.mono ?_
 rintro e w2 ⟨v',rfl,hv',hb2,hnw⟩
 have hb2' : Below w.heap.size w w2:=b1.trans (hb2.mono (by simp))
 have q2:=q1.below hb2 q1.lt
 obtain ⟨d0,d1⟩:=q2.two
 have f0:=q2.free 0
 have f1:=q2.free 1
 have hlt:=q2.lt
 have hne : ¬ w.heap.size = w2.heap.size:=by omega
 obtain ⟨a,m,c,hf⟩:=hv'.form
 have hm : m <= 1:=by
  rcases hv' with ⟨_,a',c',e,_⟩ | ⟨_,b',o',c',e,_⟩
  ·rw [hf] at e; simp at e; omega
  ·rw [hf] at e; simp at e; omega
 subst hf
 have hmm : decide ((1024 : Int) < (m : Int)) = false:=by simp; omega
 clear hu
 go_wp2_with fail
 have q3:=((q2.set (i:=0) (.bool false)).set (i:=1) (.slice a m c)).alloc (.cells #[.bool false,.slice a m c] 24)
 obtain ⟨e0,e1⟩:=q3.two
 refine bodyPost_ret (v:=.tuple #[Wv (.slice a m c),.int .i64 0]) (by simp [results,Tryz.results95,go_sem,e0,e1]) rfl ?_
 have b3:=(((Below.refl w.heap.size w2).setCell (p:=⟨w.heap.size,0,none⟩) (Nat.le_refl _) (.bool false)).setCell (p:=⟨w.heap.size,1,none⟩) (Nat.le_refl _) (.slice a m c)).alloc (by simp [World.setCell]; omega) (.cells #[.bool false,.slice a m c] 24)
 have ws:=((hv'.set (r:=w.heap.size) (i:=0) (x:=.bool false) hnw (by simp)).set (r:=w.heap.size) (i:=1) (x:=.slice a m c) hnw (by simp))
 exact ⟨_,rfl,ws.below ((Below.refl _ _).alloc (Nat.le_refl _) _) (by simp [World.setCell]) (by simp [World.setCell]),hb2'.trans b3,hnw.mono (by simp)⟩
end Go.Proofs.YtlldjmagbjjeoaaGreat
