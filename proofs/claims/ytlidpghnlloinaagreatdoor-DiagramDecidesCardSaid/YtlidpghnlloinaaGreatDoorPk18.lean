/- Contracts and plain laws, several texts in one (DSpec, DSpec2, DBfs, DMem, DPoss). No conditions beyond those stated. -/
import Derived.Test.YtlidpghnlloinaaGreatDoorPk17
set_option maxRecDepth 100000
set_option maxHeartbeats 40000000
namespace Go.Proofs.YtlidpghnlloinaaGreatDoor
set_option linter.unusedVariables false
structure DSt where
 nds : List (Nat × List Int)
 lvs : List (List Nat)
def DSt.no : DSt:=⟨[],[]⟩
def addLeaf (st : DSt) (l : List Nat) : Int × DSt :=
 if st.lvs.idxOf l < st.lvs.length then (-1 - (st.lvs.idxOf l : Int),st) else (-1 - (st.lvs.length : Int),⟨st.nds,st.lvs ++ [l]⟩)
def addNode (st : DSt) (sc : Nat) (nx : List Int) : Int × DSt :=
 if st.nds.idxOf (sc,nx) < st.nds.length then ((st.nds.idxOf (sc,nx) : Int),st) else ((st.nds.length : Int),⟨st.nds ++ [(sc,nx)],st.lvs⟩)
def alike (nx : List Int) : Bool:=nx.all fun t => t == nx.headD 0
def shut (sc : Nat) (nx : List Int) (st : DSt) : Int × DSt:=if alike nx = true then (nx.headD 0,st) else addNode st sc nx
def mapS (f : Nat -> DSt -> Int × DSt) : List Nat -> DSt -> List Int × DSt
 | [],st => ([],st)
 | c :: r,st => ((f c st).1 :: (mapS f r (f c st).2).1,(mapS f r (f c st).2).2)
def tgt (lf : List Nat -> List Nat) : List (List Nat) -> Nat -> List Nat -> DSt -> Int × DSt
 | [],_,pre,st => addLeaf st (lf pre)
 | p :: ps,sc,pre,st => shut sc (mapS (fun c s => tgt lf ps (sc + 1) (pre ++ [c]) s) p st).1 (mapS (fun c s => tgt lf ps (sc + 1) (pre ++ [c]) s) p st).2
theorem mapS_append (f : Nat -> DSt -> Int × DSt) : ∀ (a b : List Nat) (st : DSt),mapS f (a ++ b) st = ((mapS f a st).1 ++ (mapS f b (mapS f a st).2).1,(mapS f b (mapS f a st).2).2)
 | [],b,st => rfl
 | c :: r,b,st => by rw [List.cons_append,mapS,mapS_append f r b]; rfl
theorem mapS_one (f : Nat -> DSt -> Int × DSt) (a : List Nat) (c : Nat) (st : DSt) : mapS f (a ++ [c]) st = ((mapS f a st).1 ++ [(f c (mapS f a st).2).1],(f c (mapS f a st).2).2):=by rw [mapS_append]; rfl
theorem mapS_len (f : Nat -> DSt -> Int × DSt) : ∀ (a : List Nat) (st : DSt),(mapS f a st).1.length = a.length
 | [],st => rfl
 | c :: r,st => by rw [mapS,List.length_cons,List.length_cons,mapS_len f r]
structure Ext (a b : DSt) : Prop where
 nds : ∀ (i : Nat) x,a.nds[i]? = some x -> b.nds[i]? = some x
 lvs : ∀ (i : Nat) x,a.lvs[i]? = some x -> b.lvs[i]? = some x
theorem Ext.refl (a : DSt) : Ext a a:=⟨fun _ _ h => h,fun _ _ h => h⟩
theorem Ext.trans {a b c : DSt} (h : Ext a b) (h' : Ext b c) : Ext a c:=⟨fun i x e => h'.nds i x (h.nds i x e),fun i x e => h'.lvs i x (h.lvs i x e)⟩
def TOk (st : DSt) (sc : Nat) (t : Int) : Prop:=(∃ n : Nat,t = -1 - (n : Int) /\ n < st.lvs.length) \/ (∃ (n : Nat) (x : Nat × List Int),t = (n : Int) /\ st.nds[n]? = some x /\ sc <= x.1)
theorem TOk.mono {st st' : DSt} {sc sc' : Nat} {t : Int} (h : TOk st sc t) (he : Ext st st') (hs : sc' <= sc) : TOk st' sc' t:=by
 rcases h with ⟨n,e,hn⟩ | ⟨n,x,e,hn,hx⟩
 ·exact .inl ⟨n,e,(List.getElem?_eq_some_iff.1 (he.lvs n _ (List.getElem?_eq_getElem hn))).1⟩
 ·exact .inr ⟨n,x,e,he.nds n x hn,by omega⟩
def CellsIn (P : List (List Nat)) (cs : List Nat) : Prop:=cs.length = P.length /\ ∀ (i : Nat) (c : Nat),cs[i]? = some c -> ∃ p,P[i]? = some p /\ c ∈ p
theorem CellsIn.nil : CellsIn [] []:=⟨rfl,fun i c h => by cases h⟩
theorem CellsIn.cons {p : List Nat} {P : List (List Nat)} {c : Nat} {cs : List Nat} (hc : c ∈ p) (h : CellsIn P cs) : CellsIn (p :: P) (c :: cs):=by
 refine ⟨by simp [h.1],fun i d hd => ?_⟩
 rcases i with _ | i
 ·cases hd; exact ⟨p,rfl,hc⟩
 ·exact h.2 i d hd
theorem CellsIn.open {p : List Nat} {P : List (List Nat)} {cs : List Nat} (h : CellsIn (p :: P) cs) : ∃ c r,cs = c :: r /\ c ∈ p /\ CellsIn P r:=by
 obtain ⟨h1,h2⟩:=h
 cases cs with
 | nil => cases h1
 | cons c r =>
  refine ⟨c,r,rfl,?_,by simpa using h1,fun i d hd => h2 (i + 1) d hd⟩
  obtain ⟨q,hq,hc⟩:=h2 0 c rfl
  cases hq; exact hc
theorem CellsIn.append {P Q : List (List Nat)} {a b : List Nat} (h : CellsIn P a) (h' : CellsIn Q b) : CellsIn (P ++ Q) (a ++ b):=by
 refine ⟨by simp [h.1,h'.1],fun i c hc => ?_⟩
 rcases Nat.lt_or_ge i a.length with hl | hl
 ·rw [List.getElem?_append_left hl] at hc
  obtain ⟨p,hp,hm⟩:=h.2 i c hc
  exact ⟨p,by rw [List.getElem?_append_left (by rw [<- h.1]; exact hl)]; exact hp,hm⟩
 ·rw [List.getElem?_append_right hl] at hc
  obtain ⟨p,hp,hm⟩:=h'.2 _ c hc
  exact ⟨p,by rw [List.getElem?_append_right (by rw [<- h.1]; exact hl),<- h.1]; exact hp,hm⟩
inductive Evals (P : List (List Nat)) (st : DSt) (cs : List Nat) : Int -> List Nat -> Prop
 | leaf (n : Nat) (l : List Nat) : st.lvs[n]? = some l -> Evals P st cs (-1 - (n : Int)) l
 | node (n sc : Nat) (nx : List Int) (t : Int) (l : List Nat) : st.nds[n]? = some (sc,nx) -> nx[(P[sc]?.getD []).idxOf (cs[sc]?.getD 0)]? = some t -> Evals P st cs t l -> Evals P st cs (n : Int) l
theorem Evals.ext {P : List (List Nat)} {st st' : DSt} {cs : List Nat} {t : Int} {l : List Nat} (h : Evals P st cs t l) (he : Ext st st') : Evals P st' cs t l:=by
 induction h with
 | leaf n l h => exact .leaf n l (he.lvs n l h)
 | node n sc nx t l h1 h2 _ ih => exact .node n sc nx t l (he.nds n _ h1) h2 ih
inductive Reach (st : DSt) : Int -> Int -> Prop
 | refl (t : Int) : Reach st t t
 | step (n sc : Nat) (nx : List Int) (t u : Int) : st.nds[n]? = some (sc,nx) -> t ∈ nx -> Reach st t u -> Reach st (n : Int) u
theorem Reach.ext {st st' : DSt} {t u : Int} (h : Reach st t u) (he : Ext st st') : Reach st' t u:=by
 induction h with
 | refl t => exact .refl t
 | step n sc nx t u h1 h2 _ ih => exact .step n sc nx t u (he.nds n _ h1) h2 ih
def New (a b : DSt) (t : Int) : Prop:=(∃ n : Nat,t = -1 - (n : Int) /\ a.lvs.length <= n /\ n < b.lvs.length) \/ (∃ n : Nat,t = (n : Int) /\ a.nds.length <= n /\ n < b.nds.length)
theorem New.not (a : DSt) (t : Int) : ¬ New a a t:=by
 rintro (⟨n,_,h1,h2⟩ | ⟨n,_,h1,h2⟩) <;> omega
theorem New.split {a b c : DSt} {t : Int} (h : New a c t) : New a b t \/ New b c t:=by
 rcases h with ⟨n,e,h1,h2⟩ | ⟨n,e,h1,h2⟩
 ·rcases Nat.lt_or_ge n b.lvs.length with h | h
  ·exact .inl (.inl ⟨n,e,h1,h⟩)
  ·exact .inr (.inl ⟨n,e,h,h2⟩)
 ·rcases Nat.lt_or_ge n b.nds.length with h | h
  ·exact .inl (.inr ⟨n,e,h1,h⟩)
  ·exact .inr (.inr ⟨n,e,h,h2⟩)
structure WF (P : List (List Nat)) (lf : List Nat -> List Nat) (st : DSt) : Prop where
 node : ∀ (n sc : Nat) (nx : List Int),st.nds[n]? = some (sc,nx) -> sc < P.length /\ nx.length = (P[sc]?.getD []).length /\ alike nx = false /\ ∀ t ∈ nx,TOk st (sc + 1) t
 leaf : ∀ (n : Nat) (l : List Nat),st.lvs[n]? = some l -> ∃ cs,CellsIn P cs /\ l = lf cs
 nnd : st.nds.Nodup
 lnd : st.lvs.Nodup
theorem WF.no (P : List (List Nat)) (lf : List Nat -> List Nat) : WF P lf DSt.no:=⟨fun n sc nx h => (by cases h),fun n l h => (by cases h),List.nodup_nil,List.nodup_nil⟩
structure TgOk (P : List (List Nat)) (lf : List Nat -> List Nat) (sc : Nat) (pre : List Nat) (Q : List (List Nat)) (st : DSt) (r : Int × DSt) : Prop where
 wf : WF P lf r.2
 ext : Ext st r.2
 tok : TOk r.2 sc r.1
 ev : ∀ cs,CellsIn Q cs -> Evals P r.2 (pre ++ cs) r.1 (lf (pre ++ cs))
 new : ∀ u,New st r.2 u -> Reach r.2 r.1 u
theorem idxOf_lt_mem {α : Type} [BEq α] [LawfulBEq α] {l : List α} {a : α} (h : l.idxOf a < l.length) : l[l.idxOf a]? = some a:=by
 rw [List.getElem?_eq_getElem h]; exact congrArg some (List.getElem_idxOf h)
theorem addLeaf_ok {P : List (List Nat)} {lf : List Nat -> List Nat} {st : DSt} {pre : List Nat} (sc : Nat) (h : WF P lf st) (hp : CellsIn P pre) : TgOk P lf sc pre [] st (addLeaf st (lf pre)):=by
 unfold addLeaf
 by_cases hi : st.lvs.idxOf (lf pre) < st.lvs.length
 ·rw [if_pos hi]
  refine ⟨h,Ext.refl _,.inl ⟨_,rfl,hi⟩,fun cs hc => ?_,fun u hu => ?_⟩
  ·obtain rfl : cs = []:=List.length_eq_zero_iff.1 hc.1
   rw [List.append_nil]
   exact .leaf _ _ (idxOf_lt_mem hi)
  ·exact absurd hu (New.not st u)
 ·rw [if_neg hi]
  have hext : Ext st ⟨st.nds,st.lvs ++ [lf pre]⟩:=⟨fun _ _ h => h,fun i x hx => by show (st.lvs ++ [lf pre])[i]? = _; rw [List.getElem?_append_left (List.getElem?_eq_some_iff.1 hx).1]; exact hx⟩
  have hnew : (st.lvs ++ [lf pre])[st.lvs.length]? = some (lf pre):=by simp
  refine ⟨⟨fun n s nx hn => ?_,fun n l hl => ?_,h.nnd,?_⟩,hext,.inl ⟨_,rfl,by show st.lvs.length < (st.lvs ++ [lf pre]).length; simp⟩,fun cs hc => ?_,fun u hu => ?_⟩
  ·obtain ⟨h1,h2,h3,h4⟩:=h.node n s nx hn
   exact ⟨h1,h2,h3,fun t ht => (h4 t ht).mono hext (Nat.le_refl _)⟩
  ·have hl : (st.lvs ++ [lf pre])[n]? = some l:=hl
   rcases Nat.lt_or_ge n st.lvs.length with hlt | hge
   ·rw [List.getElem?_append_left hlt] at hl; exact h.leaf n l hl
   ·rw [List.getElem?_append_right hge] at hl
    have : n - st.lvs.length = 0:=by
     have := (List.getElem?_eq_some_iff.1 hl).1
     simp at this; omega
    rw [this] at hl
    cases hl
    exact ⟨pre,hp,rfl⟩
  ·show (st.lvs ++ [lf pre]).Nodup
   rw [List.nodup_append]
   refine ⟨h.lnd,by simp,fun a ha b hb => ?_⟩
   simp only [List.mem_singleton] at hb
   subst hb
   rintro rfl
   exact hi (List.idxOf_lt_length_of_mem ha)
  ·obtain rfl : cs = []:=List.length_eq_zero_iff.1 hc.1
   rw [List.append_nil]
   exact .leaf _ _ hnew
  ·rcases hu with ⟨n,rfl,h1,h2⟩ | ⟨n,rfl,h1,h2⟩
   ·have h2 : n < (st.lvs ++ [lf pre]).length:=h2
    have : n = st.lvs.length:=by simp at h2; omega
    subst this
    exact .refl _
   ·have h2 : n < st.nds.length:=h2
    omega
structure MpOk (P : List (List Nat)) (lf : List Nat -> List Nat) (sc : Nat) (pre : List Nat) (Q : List (List Nat)) (p : List Nat) (st : DSt) (r : List Int × DSt) : Prop where
 wf : WF P lf r.2
 ext : Ext st r.2
 each : ∀ (j c : Nat) (t : Int),p[j]? = some c -> r.1[j]? = some t -> TOk r.2 sc t /\ ∀ cs,CellsIn Q cs -> Evals P r.2 (pre ++ [c] ++ cs) t (lf (pre ++ [c] ++ cs))
 new : ∀ u,New st r.2 u -> ∃ t ∈ r.1,Reach r.2 t u
theorem mapS_ok {P : List (List Nat)} {lf : List Nat -> List Nat} {sc : Nat} {pre : List Nat} {Q : List (List Nat)} {f : Nat -> DSt -> Int × DSt} :
  ∀ (p : List Nat) (st : DSt),WF P lf st -> (∀ c ∈ p,∀ s,WF P lf s -> TgOk P lf sc (pre ++ [c]) Q s (f c s)) -> MpOk P lf sc pre Q p st (mapS f p st)
 | [],st,h,_ => ⟨h,Ext.refl _,fun j c t hj => (by cases hj),fun u hu => absurd hu (New.not st u)⟩
 | c :: p,st,h,hf => by
  have h1:=hf c (List.mem_cons_self ..) st h
  have h2:=mapS_ok p (f c st).2 h1.wf fun c' hc s hs => hf c' (List.mem_cons_of_mem _ hc) s hs
  refine ⟨h2.wf,h1.ext.trans h2.ext,fun j c' t hj ht => ?_,fun u hu => ?_⟩
  ·rcases j with _ | j
   ·cases hj; cases ht
    exact ⟨h1.tok.mono h2.ext (Nat.le_refl _),fun cs hc => (h1.ev cs hc).ext h2.ext⟩
   ·exact h2.each j c' t hj ht
  ·rcases New.split (b:=(f c st).2) hu with hu | hu
   ·exact ⟨_,List.mem_cons_self ..,(h1.new u hu).ext h2.ext⟩
   ·obtain ⟨t,ht,hr⟩:=h2.new u hu
    exact ⟨t,List.mem_cons_of_mem _ ht,hr⟩
theorem alike_head {nx : List Int} (h : alike nx = true) {t : Int} (ht : t ∈ nx) : t = nx.headD 0:=by
 unfold alike at h
 simpa using List.all_eq_true.1 h t ht
theorem shut_ok {P : List (List Nat)} {lf : List Nat -> List Nat} {sc : Nat} {pre p : List Nat} {Q : List (List Nat)} {st : DSt} {r : List Int × DSt} (h : MpOk P lf (sc + 1) pre Q p st r) (hl : r.1.length = p.length) (hP : P[sc]? = some p) (hn : p.Nodup) (h0 : p ≠ []) (hpre : pre.length = sc) :
  TgOk P lf sc pre (p :: Q) st (shut sc r.1 r.2):=by
 obtain ⟨nx,st'⟩:=r
 have hl : nx.length = p.length:=hl
 have hpl : 0 < p.length:=List.length_pos_iff.2 h0
 have hat : ∀ (c : Nat),c ∈ p -> ∃ t,nx[p.idxOf c]? = some t /\ p[p.idxOf c]? = some c:=fun c hc => by
  have hi:=List.idxOf_lt_length_of_mem hc
  exact ⟨nx[p.idxOf c]'(by omega),List.getElem?_eq_getElem _,idxOf_lt_mem hi⟩
 have hmem : ∀ t ∈ nx,∃ (j c : Nat),p[j]? = some c /\ nx[j]? = some t:=fun t ht => by
  obtain ⟨j,hj,rfl⟩:=List.getElem_of_mem ht
  exact ⟨j,p[j]'(by omega),List.getElem?_eq_getElem _,List.getElem?_eq_getElem _⟩
 have happ : ∀ (c : Nat) (cs : List Nat),pre ++ c :: cs = pre ++ [c] ++ cs:=fun c cs => by simp
 have hsc : sc < P.length:=(List.getElem?_eq_some_iff.1 hP).1
 have hnode : ∀ (st'' : DSt) (n : Nat),Ext st' st'' -> st''.nds[n]? = some (sc,nx) -> ∀ cs,CellsIn (p :: Q) cs -> Evals P st'' (pre ++ cs) (n : Int) (lf (pre ++ cs)):=fun st'' n he hnn cs hcs => by
  obtain ⟨c,cs',rfl,hc,hcs'⟩:=hcs.open
  obtain ⟨t,ht,hpc⟩:=hat c hc
  have hg : (pre ++ c :: cs')[sc]? = some c:=by rw [List.getElem?_append_right (by omega),hpre,Nat.sub_self]; rfl
  refine .node n sc nx t _ hnn ?_ ?_
  ·rw [hP,hg]; exact ht
  ·rw [happ]
   exact ((h.each _ c t hpc ht).2 cs' hcs').ext he
 have hreach : ∀ (st'' : DSt) (n : Nat),Ext st' st'' -> st''.nds[n]? = some (sc,nx) -> ∀ u,New st st' u -> Reach st'' (n : Int) u:=fun st'' n he hnn u hu => by
  obtain ⟨t,ht,hr⟩:=h.new u hu
  exact .step n sc nx t u hnn ht (hr.ext he)
 unfold shut
 by_cases ha : alike nx = true
 ·rw [if_pos ha]
  have hd : nx.headD 0 ∈ nx:=by
   cases nx with
   | nil => simp at hl; omega
   | cons a b => exact List.mem_cons_self ..
  refine ⟨h.wf,h.ext,?_,fun cs hcs => ?_,fun u hu => ?_⟩
  ·obtain ⟨j,c,hj,ht⟩:=hmem _ hd
   exact (h.each j c _ hj ht).1.mono (Ext.refl _) (Nat.le_succ _)
  ·obtain ⟨c,cs',rfl,hc,hcs'⟩:=hcs.open
   obtain ⟨t,ht,hpc⟩:=hat c hc
   have e:=alike_head ha (List.mem_of_getElem? ht)
   rw [happ]
   have := (h.each _ c t hpc ht).2 cs' hcs'
   rw [e] at this
   exact this
  ·obtain ⟨t,ht,hr⟩:=h.new u hu
   rw [alike_head ha ht] at hr
   exact hr
 ·rw [if_neg ha]
  have ha' : alike nx = false:=by simpa using ha
  unfold addNode
  by_cases hi : st'.nds.idxOf (sc,nx) < st'.nds.length
  ·have hi' : (sc,nx) ∈ st'.nds:=List.mem_of_getElem? (idxOf_lt_mem hi)
   rw [if_pos hi]
   have hnn:=idxOf_lt_mem hi
   exact ⟨h.wf,h.ext,.inr ⟨_,_,rfl,hnn,Nat.le_refl _⟩,hnode st' _ (Ext.refl _) hnn,hreach st' _ (Ext.refl _) hnn⟩
  ·rw [if_neg hi]
   have hext : Ext st' ⟨st'.nds ++ [(sc,nx)],st'.lvs⟩:=⟨fun i x hx => by show (st'.nds ++ [(sc,nx)])[i]? = _; rw [List.getElem?_append_left (List.getElem?_eq_some_iff.1 hx).1]; exact hx,fun _ _ h => h⟩
   have hnew : (st'.nds ++ [(sc,nx)])[st'.nds.length]? = some (sc,nx):=by simp
   refine ⟨⟨fun n s nx' hnn => ?_,h.wf.leaf,?_,h.wf.lnd⟩,h.ext.trans hext,.inr ⟨_,_,rfl,hnew,Nat.le_refl _⟩,hnode _ _ hext hnew,fun u hu => ?_⟩
   ·have hnn : (st'.nds ++ [(sc,nx)])[n]? = some (s,nx'):=hnn
    rcases Nat.lt_or_ge n st'.nds.length with hlt | hge
    ·rw [List.getElem?_append_left hlt] at hnn
     obtain ⟨h1,h2,h3,h4⟩:=h.wf.node n s nx' hnn
     exact ⟨h1,h2,h3,fun t ht => (h4 t ht).mono hext (Nat.le_refl _)⟩
    ·rw [List.getElem?_append_right hge] at hnn
     have : n - st'.nds.length = 0:=by
      have := (List.getElem?_eq_some_iff.1 hnn).1
      simp at this; omega
     rw [this] at hnn
     cases hnn
     refine ⟨hsc,by rw [hP]; exact hl,ha',fun t ht => ?_⟩
     obtain ⟨j,c,hj,htj⟩:=hmem t ht
     exact (h.each j c t hj htj).1.mono hext (Nat.le_refl _)
   ·show (st'.nds ++ [(sc,nx)]).Nodup
    rw [List.nodup_append]
    refine ⟨h.wf.nnd,by simp,fun a ha b hb => ?_⟩
    simp only [List.mem_singleton] at hb
    subst hb
    rintro rfl
    exact hi (List.idxOf_lt_length_of_mem ha)
   ·rcases New.split (b:=st') hu with hu | hu
    ·exact hreach _ _ hext hnew u hu
    ·rcases hu with ⟨n,rfl,h1,h2⟩ | ⟨n,rfl,h1,h2⟩
     ·have h2 : n < st'.lvs.length:=h2
      omega
     ·have h2 : n < (st'.nds ++ [(sc,nx)]).length:=h2
      have : n = st'.nds.length:=by simp at h2; omega
      subst this
      exact .refl _
theorem tgt_ok {P : List (List Nat)} {lf : List Nat -> List Nat} (hP : ∀ p ∈ P,p.Nodup /\ p ≠ []) : ∀ (ps : List (List Nat)) (sc : Nat) (pre : List Nat) (st : DSt),P.drop sc = ps -> CellsIn (P.take sc) pre -> sc <= P.length -> WF P lf st -> TgOk P lf sc pre ps st (tgt lf ps sc pre st)
 | [],sc,pre,st,hd,hc,hs,h => by
  have hl : P.length <= sc:=by
   have := congrArg List.length hd
   simp at this; omega
  rw [List.take_of_length_le hl] at hc
  exact addLeaf_ok sc h hc
 | p :: ps,sc,pre,st,hd,hc,hs,h => by
  have hlt : sc < P.length:=by
   rcases Nat.lt_or_ge sc P.length with h | h
   ·exact h
   ·rw [List.drop_of_length_le h] at hd; cases hd
  have hp : P[sc]? = some p:=by
   have := congrArg (·[0]?) hd
   simpa using this
  have hd' : P.drop (sc + 1) = ps:=by
   have := congrArg List.tail hd
   simpa using this
  have hpre : pre.length = sc:=by rw [hc.1,List.length_take]; omega
  obtain ⟨n1,n2⟩:=hP p (List.mem_of_getElem? hp)
  refine shut_ok (mapS_ok p st h fun c hcm s hs' => ?_) (mapS_len _ p st) hp n1 n2 hpre
  refine tgt_ok hP ps (sc + 1) (pre ++ [c]) s hd' ?_ hlt hs'
  have : P.take (sc + 1) = P.take sc ++ [p]:=by rw [List.take_add_one,hp]; rfl
  rw [this]
  exact hc.append (CellsIn.cons hcm CellsIn.nil)
structure DgOk (P : List (List Nat)) (lf : List Nat -> List Nat) (st : DSt) (root : Int) : Prop where
 wf : WF P lf st
 tok : TOk st 0 root
 ev : ∀ cs,CellsIn P cs -> Evals P st cs root (lf cs)
 all : ∀ u,New DSt.no st u -> Reach st root u
theorem dg_ok {P : List (List Nat)} {lf : List Nat -> List Nat} (hP : ∀ p ∈ P,p.Nodup /\ p ≠ []) : DgOk P lf (tgt lf P 0 [] DSt.no).2 (tgt lf P 0 [] DSt.no).1:=by
 have h:=tgt_ok hP P 0 [] DSt.no rfl CellsIn.nil (Nat.zero_le _) (WF.no P lf)
 exact ⟨h.wf,h.tok,fun cs hc => by simpa using h.ev cs hc,h.new⟩
section
variable {P : List (List Nat)} {lf : List Nat -> List Nat} {st : DSt} {root : Int}
theorem Evals.reach {cs : List Nat} {t : Int} {l : List Nat} (h : Evals P st cs t l) : ∃ n : Nat,Reach st t (-1 - (n : Int)) /\ st.lvs[n]? = some l:=by
 induction h with
 | leaf n l h => exact ⟨n,.refl _,h⟩
 | node n sc nx t l h1 h2 _ ih =>
  obtain ⟨k,hk,hl⟩:=ih
  exact ⟨k,.step n sc nx t _ h1 (List.mem_of_getElem? h2) hk,hl⟩
def Gets (st : DSt) (W : List Nat -> Bool) (t : Int) : Prop:=∃ (n : Nat) (l : List Nat),Reach st t (-1 - (n : Int)) /\ st.lvs[n]? = some l /\ W l = true
theorem DgOk.gets (h : DgOk P lf st root) (W : List Nat -> Bool) : Gets st W root ↔ ∃ l ∈ st.lvs,W l = true:=by
 constructor
 ·rintro ⟨n,l,_,hl,hw⟩
  exact ⟨l,List.mem_of_getElem? hl,hw⟩
 ·rintro ⟨l,hl,hw⟩
  obtain ⟨n,hn,rfl⟩:=List.getElem_of_mem hl
  exact ⟨n,_,h.all _ (.inl ⟨n,rfl,Nat.zero_le _,hn⟩),List.getElem?_eq_getElem hn,hw⟩
theorem DgOk.leaves (h : DgOk P lf st root) (W : List Nat -> Bool) : (∃ l ∈ st.lvs,W l = true) ↔ ∃ cs,CellsIn P cs /\ W (lf cs) = true:=by
 constructor
 ·rintro ⟨l,hl,hw⟩
  obtain ⟨n,hn,rfl⟩:=List.getElem_of_mem hl
  obtain ⟨cs,hc,e⟩:=h.wf.leaf n _ (List.getElem?_eq_getElem hn)
  exact ⟨cs,hc,by rw [<- e]; exact hw⟩
 ·rintro ⟨cs,hc,hw⟩
  obtain ⟨n,_,hl⟩:=(h.ev cs hc).reach
  exact ⟨_,List.mem_of_getElem? hl,hw⟩
theorem gets_leaf {W : List Nat -> Bool} {n : Nat} : Gets st W (-1 - (n : Int)) ↔ ∃ l,st.lvs[n]? = some l /\ W l = true:=by
 constructor
 ·rintro ⟨m,l,hr,hl,hw⟩
  generalize e : (-1 - (n : Int)) = t at hr
  generalize e2 : (-1 - (m : Int)) = u at hr
  cases hr with
  | refl =>
   have : m = n:=by omega
   subst this
   exact ⟨l,hl,hw⟩
  | step k => omega
 ·rintro ⟨l,hl,hw⟩
  exact ⟨n,l,.refl _,hl,hw⟩
theorem gets_node {W : List Nat -> Bool} {n sc : Nat} {nx : List Int} (hn : st.nds[n]? = some (sc,nx)) : Gets st W (n : Int) ↔ ∃ t ∈ nx,Gets st W t:=by
 constructor
 ·rintro ⟨m,l,hr,hl,hw⟩
  generalize e : (n : Int) = t at hr
  generalize e2 : (-1 - (m : Int)) = u at hr
  cases hr with
  | refl => omega
  | step k sc' nx' t' u' h1 h2 h3 =>
   have : k = n:=by omega
   subst this
   rw [hn] at h1
   cases h1
   exact ⟨t',h2,m,l,by rw [e2]; exact h3,hl,hw⟩
 ·rintro ⟨t,ht,m,l,hr,hl,hw⟩
  exact ⟨m,l,.step n sc nx t _ hn ht hr,hl,hw⟩
def tsc (P : List (List Nat)) (st : DSt) (t : Int) : Nat:=if t < 0 then P.length else ((st.nds[t.toNat]?).map (·.1)).getD P.length
theorem tsc_node {n sc : Nat} {nx : List Int} (hn : st.nds[n]? = some (sc,nx)) : tsc P st (n : Int) = sc:=by
 unfold tsc
 rw [if_neg (by omega),Int.toNat_natCast,hn]; rfl
theorem tsc_leaf (n : Nat) : tsc P st (-1 - (n : Int)) = P.length:=by unfold tsc; rw [if_pos (by omega)]
def Leads (P : List (List Nat)) (st : DSt) (root t : Int) (cells : List Nat) : Prop:=∀ cs l,(∀ i,i < tsc P st t -> cs[i]?.getD 0 = cells[i]?.getD 0) -> Evals P st cs t l -> Evals P st cs root l
theorem Leads.start (cells : List Nat) : Leads P st root root cells:=fun _ _ _ h => h
theorem Leads.step {t : Int} {n sc i c : Nat} {nx : List Int} {cells : List Nat} (h : Leads P st root (n : Int) cells) (hn : st.nds[n]? = some (sc,nx)) (ht : nx[i]? = some t) (hs : sc < tsc P st t) (hc : (P[sc]?.getD [])[i]? = some c) (hnd : (P[sc]?.getD []).Nodup) (hl : sc < cells.length) : Leads P st root t (cells.set sc c):=by
 intro cs l ha he
 refine h cs l (fun j hj => ?_) ?_
 ·rw [tsc_node hn] at hj
  rw [ha j (by omega),List.getElem?_set_ne (by omega)]
 ·refine .node n sc nx t l hn ?_ he
  have e : cs[sc]?.getD 0 = c:=by rw [ha sc hs,List.getElem?_set_self hl]; rfl
  obtain ⟨hlt,hcg⟩:=List.getElem?_eq_some_iff.1 hc
  rw [e,<- hcg,hnd.idxOf_getElem i hlt]
  exact ht
theorem CellsIn.set {cells : List Nat} {sc c : Nat} {p : List Nat} (h : CellsIn P cells) (hp : P[sc]? = some p) (hc : c ∈ p) : CellsIn P (cells.set sc c):=by
 refine ⟨by rw [List.length_set,h.1],fun i d hd => ?_⟩
 by_cases e : sc = i
 ·subst e
  rw [List.getElem?_set_self (by rw [h.1]; exact (List.getElem?_eq_some_iff.1 hp).1)] at hd
  cases hd
  exact ⟨p,hp,hc⟩
 ·rw [List.getElem?_set_ne e] at hd
  exact h.2 i d hd
end
def prodL : List (List Nat) -> Nat
 | [] => 1
 | p :: ps => p.length * prodL ps
theorem prodL_pos {P : List (List Nat)} (h : ∀ p ∈ P,p ≠ []) : 1 <= prodL P:=by
 induction P with
 | nil => exact Nat.le_refl _
 | cons p P ih =>
  have h1:=ih fun q hq => h q (List.mem_cons_of_mem _ hq)
  have h2 : 1 <= p.length:=List.length_pos_iff.2 (h p (List.mem_cons_self ..))
  exact Nat.mul_le_mul h2 h1
theorem mapS_size {f : Nat -> DSt -> Int × DSt} {k : Nat} (hf : ∀ c s,(f c s).2.nds.length + 1 <= s.nds.length + k /\ (f c s).2.lvs.length <= s.lvs.length + k) : ∀ (p : List Nat) (st : DSt),(mapS f p st).2.nds.length + p.length <= st.nds.length + p.length * k /\ (mapS f p st).2.lvs.length <= st.lvs.length + p.length * k
 | [],st => by simp [mapS]
 | c :: p,st => by
  have h1:=hf c st
  have h2:=mapS_size hf p (f c st).2
  rw [mapS]
  simp only [List.length_cons,Nat.add_mul,Nat.one_mul]
  omega
theorem tgt_size (lf : List Nat -> List Nat) : ∀ (ps : List (List Nat)) (sc : Nat) (pre : List Nat) (st : DSt),(∀ p ∈ ps,p ≠ []) -> (tgt lf ps sc pre st).2.nds.length + 1 <= st.nds.length + prodL ps /\ (tgt lf ps sc pre st).2.lvs.length <= st.lvs.length + prodL ps
 | [],sc,pre,st,_ => by
  rw [tgt]
  unfold addLeaf
  split <;> simp [prodL]
 | p :: ps,sc,pre,st,h => by
  have hp : 1 <= p.length:=List.length_pos_iff.2 (h p (List.mem_cons_self ..))
  have hm:=mapS_size (k:=prodL ps) (f:=fun c s => tgt lf ps (sc + 1) (pre ++ [c]) s) (fun c s => tgt_size lf ps (sc + 1) (pre ++ [c]) s fun q hq => h q (List.mem_cons_of_mem _ hq)) p st
  have hlen:=mapS_len (fun c s => tgt lf ps (sc + 1) (pre ++ [c]) s) p st
  rw [tgt]
  generalize mapS (fun c s => tgt lf ps (sc + 1) (pre ++ [c]) s) p st = r at hm hlen ⊢
  show _ <= _ + p.length * prodL ps /\ _ <= _ + p.length * prodL ps
  unfold shut
  by_cases ha : alike r.1 = true
  ·rw [if_pos ha]
   refine ⟨?_,hm.2⟩
   show r.2.nds.length + 1 <= _
   omega
  ·rw [if_neg ha]
   have h2 : 2 <= p.length:=by
    rcases Nat.lt_or_ge p.length 2 with h | h
    ·exfalso
     apply ha
     obtain ⟨x,hx⟩ : ∃ x,r.1 = [x]:=by
      match hr : r.1,hlen with
      | [x],_ => exact ⟨x,rfl⟩
      | [],hl => simp at hl; omega
      | a :: b :: c,hl => simp at hl; omega
     rw [hx]
     simp [alike]
    ·exact h
   unfold addNode
   split
   ·refine ⟨?_,hm.2⟩
    show r.2.nds.length + 1 <= _
    omega
   ·refine ⟨?_,hm.2⟩
    show (r.2.nds ++ [(sc,r.1)]).length + 1 <= _
    simp only [List.length_append,List.length_cons,List.length_nil]
    omega
section
variable (st : DSt)
end
section
variable {st : DSt} {root : Int} {vn vl : List Nat} {todo : List Int}
end
open Go.RowKit
structure RO {α : Type} (c T : Nat) (row : α -> Value -> List Value) (R : α -> Value -> Nat -> World -> Prop) (base : Nat) (w : World) (v : Value) (L : List α) (vs : List Value) (F : Nat -> Prop) : Prop where
 len : vs.length = L.length
 own : OwnR c T base w v (List.zipWith row L vs)
 rng : ∀ b,F b -> base <= b /\ b < w.heap.size
 nv : ∀ b,F b -> v.ownBlock ≠ some b
 dat : ∀ (i : Nat) (a : α) (u : Value),L[i]? = some a -> vs[i]? = some u -> Zed F w (R a u)
section
variable {α : Type} {c T : Nat} {row : α -> Value -> List Value} {R : α -> Value -> Nat -> World -> Prop} {base : Nat} {w w' : World} {v : Value} {L : List α} {vs : List Value} {F : Nat -> Prop}
theorem RO.nil (base : Nat) (w : World) : RO c T row R base w (.slice none 0 0) [] [] (fun _ => False) :=
 ⟨rfl,OwnR.nil _ _ _ _,fun b h => h.elim,fun b h => h.elim,fun i a u h => (by cases h)⟩
theorem RO.move (h : RO c T row R base w v L vs F) (ha : Agr F w w') (hk : ∀ g,v.ownBlock = some g -> w'.heap[g]? = w.heap[g]?) (hs : w.heap.size <= w'.heap.size) : RO c T row R base w' v L vs F :=
 ⟨h.len,h.own.moveEq hk,fun b hb => ⟨(h.rng b hb).1,Nat.lt_of_lt_of_le (h.rng b hb).2 hs⟩,h.nv,fun i a u h1 h2 => (h.dat i a u h1 h2).move ha⟩
theorem RO.old {B : Nat} (h : RO c T row R base w v L vs F) (hb : Below B w w') (hB : w.heap.size <= B) : RO c T row R base w' v L vs F :=
 h.move (Agr.of fun b hF => hb.block b (by have := (h.rng b hF).2; omega)) (fun g hg => hb.block g (by have := h.own.lt hg; omega)) hb.size
theorem RO.kept {r : Option Nat} (h : RO c T row R base w v L vs F) (hg : w.grownBy w' r) (hF : ∀ b,r = some b -> ¬ F b) (hv : ∀ b,r = some b -> v.ownBlock ≠ some b) : RO c T row R base w' v L vs F :=
 h.move (Agr.of fun b hb => hg.block b (h.rng b hb).2 fun e => hF b e.symm hb) (fun g hg' => hg.block g (h.own.lt hg') fun e => hv g e.symm hg') hg.size
theorem zipWith_snoc {β γ δ : Type} (f : β -> γ -> δ) : ∀ (a : List β) (b : List γ) (x : β) (y : γ),a.length = b.length -> List.zipWith f (a ++ [x]) (b ++ [y]) = List.zipWith f a b ++ [f x y]
 | [],[],x,y,_ => rfl
 | [],_ :: _,x,y,h => by cases h
 | _ :: _,[],x,y,h => by cases h
 | p :: a,q :: b,x,y,h => by
  simp only [List.cons_append,List.zipWith_cons_cons,zipWith_snoc f a b x y (by simpa using h)]
theorem RO.add {W w5 : World} {v' u : Value} {a : α} {G : Nat -> Prop} (h : RO c T row R base w v L vs F) (hw : w.grownBy W none) (hz : Zed G W (R a u)) (hG : ∀ b,G b -> w.heap.size <= b /\ b < W.heap.size) (hbase : base <= w.heap.size)
  (hg : W.grownBy w5 v.ownBlock) (hown : OwnR c T base w5 v' (List.zipWith row L vs ++ [row a u])) (hat : ∀ g,v'.ownBlock = some g -> v.ownBlock = some g \/ W.heap.size <= g) :
  RO c T row R base w5 v' (L ++ [a]) (vs ++ [u]) (fun b => F b \/ G b):=by
 have hsz:=hg.size
 have hsw:=hw.size
 have hlt : ∀ r,v.ownBlock = some r -> r < w.heap.size:=fun r hr => h.own.lt hr
 have hFw : Agr F w w5:=Agr.of fun b hb => (hg.block b (by have := (h.rng b hb).2; omega) (fun e => h.nv b hb e.symm)).trans (hw.block b (h.rng b hb).2 (by simp))
 have hGw : Agr G W w5:=Agr.of fun b hb => hg.block b (hG b hb).2 (fun e => by have := hlt b e.symm; have := (hG b hb).1; omega)
 refine ⟨by simp [h.len],by rw [zipWith_snoc row L vs a u h.len.symm]; exact hown,fun b hb => ?_,fun b hb e => ?_,fun i a' u' h1 h2 => ?_⟩
 ·rcases hb with hb | hb
  ·have := h.rng b hb; omega
  ·have := hG b hb; omega
 ·rcases hat b e with h1 | h1
  ·rcases hb with hb | hb
   ·exact h.nv b hb h1
   ·have := hlt b h1; have := (hG b hb).1; omega
  ·rcases hb with hb | hb
   ·have := (h.rng b hb).2; omega
   ·have := (hG b hb).2; omega
 ·by_cases hil : i < L.length
  ·rw [List.getElem?_append_left hil] at h1
   rw [List.getElem?_append_left (by rw [h.len]; exact hil)] at h2
   exact ((h.dat i a' u' h1 h2).move hFw).mono fun b hb => .inl hb
  ·have hi1 : i < (L ++ [a]).length:=(List.getElem?_eq_some_iff.1 h1).1
   have : i = L.length:=by simp at hi1; omega
   subst this
   rw [List.getElem?_append_right (Nat.le_refl _),Nat.sub_self] at h1
   rw [List.getElem?_append_right (by rw [h.len]; exact Nat.le_refl _),h.len,Nat.sub_self] at h2
   cases h1; cases h2
   exact (hz.move hGw).mono fun b hb => .inr hb
theorem RO.rows (h : RO c T row R base w v L vs F) : RowsV c (fun i j => (((List.zipWith row L vs)[i]?.getD [])[j]?).getD undef) w.heap.size w v L.length:=by
 have := h.own.rows
 rwa [List.length_zipWith,h.len,Nat.min_self] at this
theorem RO.get (h : RO c T row R base w v L vs F) {i : Nat} {a : α} {u : Value} (h1 : L[i]? = some a) (h2 : vs[i]? = some u) : R a u w.heap.size w:=(h.dat i a u h1 h2).get fun b hb => (h.rng b hb).2
theorem zip_at {i : Nat} {a : α} {u : Value} (h1 : L[i]? = some a) (h2 : vs[i]? = some u) : (List.zipWith row L vs)[i]? = some (row a u):=by
 rw [List.getElem?_zipWith,h1,h2]
end
theorem nats_own {base : Nat} {w : World} {v : Value} {l : List Nat} (h : OwnN base w v l) {F : Nat -> Prop} (hF : ∀ b,v.ownBlock = some b -> F b) : Zed F w fun K W => Nats K W v l:=by
 intro W K ha hK
 obtain ⟨h1,h2⟩:=ownsRow_zed h hF W K ha hK
 have hn:=OwnN.nats (show OwnN base W v l from h2)
 obtain ⟨a,cap,hv,h3,h4,h5,h6⟩:=hn
 refine ⟨a,cap,hv,h3,h4,h5,fun i hi => ?_⟩
 obtain ⟨b,o,rfl,hb,hc⟩:=h6 i hi
 refine ⟨b,o,rfl,?_,hc⟩
 rcases h1 with ⟨h1,h0⟩ | ⟨g,hg,hgK⟩
 ·omega
 ·rw [hv] at hg
  simp only [Value.ownBlock,Option.some.injEq] at hg
  omega
def NN (K : Nat) (w : World) (v : Value) (L : List (List Nat)) : Prop:=∃ g : Nat -> Value,RowsV 1 (fun i _ => g i) K w v L.length /\ ∀ i,i < L.length -> Nats K w (g i) (L[i]?.getD [])
theorem NN.below {K K' B : Nat} {w w' : World} {v : Value} {L : List (List Nat)} (h : NN K w v L) (hb : Below B w w') (hB : K <= B) (hK : K <= K') : NN K' w' v L:=by
 obtain ⟨g,h1,h2⟩:=h
 exact ⟨g,h1.below hb hB hK,fun i hi => (h2 i hi).below hb hB hK⟩
theorem NN.form {K : Nat} {w : World} {v : Value} {L : List (List Nat)} (h : NN K w v L) : ∃ a cap,v = .slice a L.length cap /\ L.length <= cap /\ cap <= maxLen:=by
 obtain ⟨g,h1,h2⟩:=h; exact h1.form
abbrev NO:=@RO (List Nat) 1 56 (fun _ u => [u]) (fun l u K W => Nats K W u l)
theorem NO.read {base : Nat} {w : World} {v : Value} {L : List (List Nat)} {vs : List Value} {F : Nat -> Prop} (h : NO base w v L vs F) : NN w.heap.size w v L:=by
 refine ⟨fun i => vs[i]?.getD undef,h.rows.congr fun i hi j hj => ?_,fun i hi => ?_⟩
 ·obtain rfl : j = 0:=by omega
  have hv : vs[i]? = some (vs[i]'(by rw [h.len]; exact hi)):=List.getElem?_eq_getElem _
  rw [zip_at (row:=fun _ u => [u]) (List.getElem?_eq_getElem hi) hv]
  show vs[i]'(by rw [h.len]; exact hi) = vs[i]?.getD undef
  rw [hv]; rfl
 ·have hv : vs[i]? = some (vs[i]'(by rw [h.len]; exact hi)):=List.getElem?_eq_getElem _
  have := h.get (List.getElem?_eq_getElem hi) hv
  show Nats _ _ (vs[i]?.getD undef) (L[i]?.getD [])
  rw [hv,List.getElem?_eq_getElem hi]
  exact this
def NdX (K : Nat) (w : World) (v : Value) (L : List (Nat × List Int)) : Prop:=∃ g : Nat -> Value,RowsV 2 (fun i j => if j = 0 then Z (L[i]?.getD (0,[])).1 else g i) K w v L.length /\ ∀ i,i < L.length -> IntsX K w (g i) (L[i]?.getD (0,[])).2
theorem NdX.below {K K' B : Nat} {w w' : World} {v : Value} {L : List (Nat × List Int)} (h : NdX K w v L) (hb : Below B w w') (hB : K <= B) (hK : K <= K') : NdX K' w' v L:=by
 obtain ⟨g,h1,h2⟩:=h
 exact ⟨g,h1.below hb hB hK,fun i hi => RowsV.below (h2 i hi) hb hB hK⟩
theorem NdX.form {K : Nat} {w : World} {v : Value} {L : List (Nat × List Int)} (h : NdX K w v L) : ∃ a cap,v = .slice a L.length cap /\ L.length <= cap /\ cap <= maxLen:=by
 obtain ⟨g,h1,h2⟩:=h; exact h1.form
structure Dv where
 s : Sl
 n : Sl
 l : Sl
 r : Int
abbrev Dv.cells (x : Dv) : Array Value:=#[.slice x.s.a x.s.n x.s.m,.slice x.n.a x.n.n x.n.m,.slice x.l.a x.l.n x.l.m,.int .i64 x.r]
abbrev Dv.agg (x : Dv) : Value:=.agg x.cells
structure DgX (K : Nat) (w : World) (x : Dv) (scs : List Sc) (st : DSt) (root : Int) : Prop where
 s : ScsX K w x.s.val scs
 n : NdX K w x.n.val st.nds
 l : NN K w x.l.val st.lvs
 r : x.r = root
theorem DgX.below {K K' B : Nat} {w w' : World} {x : Dv} {scs : List Sc} {st : DSt} {root : Int} (h : DgX K w x scs st root) (hb : Below B w w') (hB : K <= B) (hK : K <= K') : DgX K' w' x scs st root:=⟨h.s.below hb hB hK,h.n.below hb hB hK,h.l.below hb hB hK,h.r⟩
theorem Tryz.infoIntsG : (Tryz.prog.info? 56).map (fun i => (i.zero,i.size,i.bytes)) = some (some (.slice none 0 0),1,24):=by kernel_rfl
theorem grown_of_below {w w' : World} (h : Below w.heap.size w w') : w.grownBy w' none:=by
 obtain ⟨h1,h2,h3,h4,h5⟩:=h
 exact ⟨h1,h2,h3,h4,fun b hb _ => h5 b hb⟩
def ScGood (l : List Sc) : Prop:=∀ s ∈ l,(∀ c ∈ s.cuts,c.good = true) /\ s.cuts.length <= 2 ^ 38
theorem dposs_any (K : Nat) (lv : Value) (l : List Sc) (w : World) (hs : ScsX K w lv l) (hg : ScGood l) (hn : l.length <= 2 ^ 20) (hK : K <= w.heap.size) :
  Calls Tryz.prog 48 #[lv] w fun e w' => ∃ v vs F,e = .returned v /\ NO w.heap.size w' v (l.map cellsS) vs F /\ Below w.heap.size w w':=by
 obtain ⟨la,lc,rfl,_,hlm⟩:=hs.form
 obtain ⟨gy,hrow,hsc⟩:=hs
 obtain ⟨n,hnn⟩ : ∃ n,l.length = n:=⟨_,rfl⟩
 have HN:=Lib.hid hnn
 rw [hnn] at hrow hsc hn ⊢
 obtain ⟨B,hB⟩ : ∃ B,w.heap.size = B:=⟨_,rfl⟩
 have HB:=Lib.hid hB
 rw [hB] at hK ⊢
 have HROW:=Lib.hid hrow
 have HSC:=Lib.hid hsc
 have HG:=Lib.hid hg
 clear hB hnn hrow hsc hg
 go_enter Tryz.func48,Tryz.ntmps48
 go_wp2_with fail
 go_loopw [3,8] (fun ov iv wr => ∃ (i : Nat) (vs : List Value) (F : Nat -> Prop),i <= n /\ iv = .int .i64 i /\ NO B wr ov ((l.take i).map cellsS) vs F /\ Below B w wr) (fun _ iv _ => n - (intOf iv).toNat)
 case atStart => exact ⟨0,[],fun _ => False,Nat.zero_le _,rfl,by rw [List.take_zero]; exact RO.nil _ _,Below.refl _ _⟩
 case round =>
  obtain ⟨i,vs,F,hi,rfl,hno,hbw⟩:=hrel
  obtain ⟨wo,rfl⟩ : ∃ wo : World,wo = wr:=⟨_,rfl⟩
  obtain ⟨oa,oc,hov,_,_⟩:=hno.own.form
  have hlen : (List.zipWith (fun (_ : List Nat) (u : Value) => [u]) ((l.take i).map cellsS) vs).length = i:=by
   rw [List.length_zipWith,hno.len,Nat.min_self,List.length_map,List.length_take,HN.out]; omega
  rw [hlen] at hov
  subst hov
  have HLEN:=Lib.hid hlen
  have HNO:=Lib.hid hno
  have HBW:=Lib.hid hbw
  have hBo : B <= wo.heap.size:=by have := hbw.size; have := HB.out; omega
  clear hno hbw hlen
  by_cases hlt : i < n
  ·obtain ⟨b,o,cap,he,_,_,hbK,hc⟩:=HROW.out.pos (by omega)
   simp only [Value.slice.injEq,true_and] at he
   obtain ⟨rfl,rfl⟩:=he
   have hli : i < l.length:=by rw [HN.out]; exact hlt
   obtain ⟨s,hs⟩ : ∃ s,l[i]?.getD default = s:=⟨_,rfl⟩
   have hsm : s ∈ l:=by rw [<- hs,List.getElem?_eq_getElem hli,Option.getD_some]; exact List.getElem_mem hli
   have hgs : l[i]? = some s:=by rw [<- hs,List.getElem?_eq_getElem hli]; rfl
   have hx:=HSC.out i hlt
   rw [hs] at hx
   have hrg:=sv_range (g:=gy) (cells_below HBW.out (Nat.lt_of_lt_of_le hbK hK) hc) hlt
   obtain ⟨y,hy⟩ : ∃ y,gy i = y:=⟨_,rfl⟩
   rw [hy] at hx hrg
   have H1C : Hid (∀ u ∈ y.cells,u.oneCell' = true):=Lib.hid (by simp [Value.oneCell'])
   have htk : (l.take (i + 1)).map cellsS = (l.take i).map cellsS ++ [cellsS s]:=by rw [List.take_add_one,hgs]; simp
   have HTK:=Lib.hid htk
   have HX:=Lib.hid hx
   have HGS:=Lib.hid (HG.out s hsm)
   clear hc hs hsm hgs hx hy htk
   go_upto_region 5 with (first
    | (refine wpList_load_mid rfl 79 (.tmp 10) rfl b (o + i * 11) rfl y.cells.toList _ hrg Tryz.underlying79 rfl infoScaleN ?_)
    | (refine wpList_store_new rfl 79 (.tmp 5) (.tmp 11) rfl y.cells _ infoScaleN rfl H1C.out wo.heap.size rfl rfl rfl ?_))
   obtain ⟨T,hT⟩ : ∃ T,wo.heap.size = T:=⟨_,rfl⟩
   obtain ⟨W2,hW2⟩ : ∃ W,wo.alloc (.cells y.cells 79) = W:=⟨_,rfl⟩
   have b2 : Below T wo W2:=by rw [<- hW2,<- hT]; exact (Below.refl _ _).alloc (Nat.le_refl _) _
   have q2 : Blk W2 T y.cells 79:=by rw [<- hW2,<- hT]; exact Blk.new wo _ _
   have hr2 : W2.rangeAt T 0 y.cells.toList:=q2.range
   have hs2:=b2.size
   have HW2:=Lib.hid hW2
   have HT:=Lib.hid hT
   rw [hT] at hBo
   have hce:=gcells_any K s y W2 (HX.out.below (HBW.out.trans (b2.mono (by omega))) hK (Nat.le_refl _)) (by omega) HGS.out.1 HGS.out.2
   have HCE:=Lib.hid hce
   have B2:=Lib.hid b2
   rw [HT.out]
   rw [HW2.out]
   clear hT hW2 HW2 q2 b2 hce hrg H1C
   go_wp2_with (first
    | (refine wpList_load_mid rfl 79 (.tmp 5) rfl T 0 rfl y.cells.toList _ hr2 Tryz.underlying79 rfl infoScaleN ?_))
   refine HCE.out.mono ?_
   rintro e w3 ⟨pv,rfl,hpv,hb3⟩
   clear HCE hr2
   obtain ⟨pa,pc,hpf,_,_⟩:=id hpv.form
   obtain ⟨pn,hpn⟩ : ∃ k,(cellsS s).length = k:=⟨_,rfl⟩
   rw [hpn] at hpf
   subst hpf
   have hW2s : wo.heap.size <= W2.heap.size:=by rw [HT.out]; have := B2.out.size; rw [HT.out] at this; exact this
   have b13 : Below wo.heap.size wo w3:=by rw [HT.out]; exact B2.out.trans (hb3.mono (by rw [<- HT.out]; exact hW2s))
   have b14 : Below wo.heap.size wo (w3.alloc (.cells #[.slice pa pn pc] 56)):=b13.alloc b13.size _
   have hpv4 : OwnN W2.heap.size (w3.alloc (.cells #[.slice pa pn pc] 56)) (.slice pa pn pc) (cellsS s):=hpv.old ((Below.refl _ _).alloc (Nat.le_refl _) _) (Nat.le_refl _)
   have HP4:=Lib.hid hpv4
   have HB14:=Lib.hid b14
   have hown4:=HNO.out.own.old b14 (Nat.le_refl _)
   have HOWN4:=Lib.hid hown4
   have HROW1 : Hid (RowsOk 1 [[.slice pa pn pc]]):=Lib.hid (RowsOk.one rfl fun u hu => by rw [List.mem_singleton.1 hu]; rfl)
   have HRC : Hid (∀ (i : Nat) (r : List Value) (j : Nat) (u : Value),([[.slice pa pn pc]] : List (List Value))[i]? = some r -> r[j]? = some u -> (w3.alloc (.cells #[.slice pa pn pc] 56)).cell? ⟨w3.heap.size,0 + (i * 1 + j),none⟩ = some u):=Lib.hid fun i r j u h1 h2 => by
    have hi0 : i = 0:=by have := (List.getElem?_eq_some_iff.1 h1).1; simp at this; omega
    subst hi0
    cases h1
    have hj0 : j = 0:=by have := (List.getElem?_eq_some_iff.1 h2).1; simp at this; omega
    subst hj0
    cases h2
    exact (Blk.new w3 #[.slice pa pn pc] 56).at rfl
   have hs3:=b13.size
   have hb64 : B <= w3.heap.size:=by have := HT.out; omega
   have HS3:=Lib.hid hs3
   obtain ⟨rs,hrs⟩ : ∃ rs,List.zipWith (fun (_ : List Nat) (u : Value) => [u]) ((l.take i).map cellsS) vs = rs:=⟨_,rfl⟩
   have HRS:=Lib.hid hrs
   have HOWN5 : Hid (OwnR 1 56 B (w3.alloc (.cells #[.slice pa pn pc] 56)) (.slice oa i oc) rs):=Lib.hid (by rw [<- hrs]; exact HOWN4.out)
   have HRL : Hid (rs.length = i):=Lib.hid (by rw [<- hrs]; exact HLEN.out)
   clear hrs hown4 hpv4 b14 b13 hs3 hW2s hpn hpv hb3
   go_wp2_with (at_builtin; refine wpList_append_rows rfl (.tmp 12) (.tmp 15) 27 rfl Tryz.underlying27 Tryz.infoIntsG (by kernel_rfl) (by decide) rfl HOWN5.out (b:=w3.heap.size) (off:=0) (m:=1) (cap:=1) (ms:=[[.slice pa pn pc]]) rfl rfl HROW1.out HRC.out (by decide) (by rw [HRL.out]; simp [maxLen]; omega) (by rw [HRL.out]; omega) (by simp; omega) ?_; intro g1 cap1 w5 hown5 hg5 hat5)
   have hno5:=RO.add (a:=cellsS s) (u:=.slice pa pn pc) (G:=fun b => (Value.slice pa pn pc).ownBlock = some b) HNO.out (grown_of_below HB14.out) (nats_own HP4.out fun b h => h)
    (fun b hb => ⟨by have := (ownsRow_cells HP4.out hb).1; have := HT.out; have := B2.out.size; omega,ownsRow_lt HP4.out hb⟩) (by have := HT.out; omega) hg5 (by rw [HRS.out]; exact hown5) (fun g hg => by
     simp only [Value.ownBlock,Option.some.injEq] at hg
     subst hg
     rcases hat5 with h | h
     ·exact .inl h
     ·exact .inr (by rw [h]; exact Nat.le_refl _))
   have hb5 : Below B w w5:=(HBW.out.trans (HB14.out.mono (by have := HT.out; omega))).grown hg5 (by simp; omega) (fun r hr => (HOWN5.out.low hr))
   have HNO5 : Hid (NO B w5 (.slice (some ⟨g1,0,none⟩) (rs.length + 1) cap1) ((l.take (i + 1)).map cellsS) (vs ++ [.slice pa pn pc]) _):=Lib.hid (by rw [HTK.out]; exact hno5)
   exact ⟨⟨i + 1,_,_,by omega,by go_num,HNO5.out,hb5⟩,by simp [intOf]; omega⟩
  ·obtain rfl : i = n:=by omega
   have htk : l.take i = l:=List.take_of_length_le (by rw [HN.out]; exact Nat.le_refl _)
   have hno:=HNO.out
   rw [htk] at hno
   have HNO2:=Lib.hid hno
   have hbw:=HBW.out
   clear hno HNO HBW htk
   go_wp2_with fail
   go_ret
   exact ⟨_,vs,F,rfl,HNO2.out,hbw⟩
end Go.Proofs.YtlidpghnlloinaaGreatDoor
