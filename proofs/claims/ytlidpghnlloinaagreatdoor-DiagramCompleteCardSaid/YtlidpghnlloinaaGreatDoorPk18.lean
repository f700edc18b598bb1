/- Contracts and plain laws, several texts in one (DSpec2, DBfs, DMem, DPoss, DShelf, DSl). No conditions beyond those stated. -/
import Derived.Shelf.Slices.Turned
import Derived.Shelf.Slices.Clone
import Derived.Shelf.Slices.CompactI
import Derived.Shelf.Slices.Cells
import Derived.Test.YtlidpghnlloinaaGreatDoorPk17
set_option maxRecDepth 100000
set_option maxHeartbeats 40000000
namespace Go.Proofs.YtlidpghnlloinaaGreatDoor
set_option linter.unusedVariables false
theorem mapS_congr {f g : Nat -> DSt -> Int × DSt} : ∀ (p : List Nat) (st : DSt),(∀ c ∈ p,∀ s,f c s = g c s) -> mapS f p st = mapS g p st
 | [],st,_ => rfl
 | c :: p,st,h => by
  rw [mapS,mapS,h c (List.mem_cons_self ..),mapS_congr p _ fun c' hc s => h c' (List.mem_cons_of_mem _ hc) s]
theorem tgt_congr {P : List (List Nat)} {lf lf' : List Nat -> List Nat} (hl : ∀ cs,CellsIn P cs -> lf cs = lf' cs) : ∀ (ps : List (List Nat)) (sc : Nat) (pre : List Nat) (st : DSt),P.drop sc = ps -> CellsIn (P.take sc) pre -> sc <= P.length -> tgt lf ps sc pre st = tgt lf' ps sc pre st
 | [],sc,pre,st,hd,hc,hs => by
  have hll : P.length <= sc:=by
   have := congrArg List.length hd
   simp at this; omega
  rw [List.take_of_length_le hll] at hc
  rw [tgt,tgt,hl pre hc]
 | p :: ps,sc,pre,st,hd,hc,hs => by
  have hlt : sc < P.length:=by
   rcases Nat.lt_or_ge sc P.length with h | h
   ·exact h
   ·rw [List.drop_of_length_le h] at hd; cases hd
  have hp : P[sc]? = some p:=by
   have := congrArg (·[0]?) hd
   simpa using this
  have hd' : P.drop (sc + 1) = ps:=by
   have := congrArg List.tail hd
   simpa using this
  rw [tgt,tgt,mapS_congr (g:=fun c s => tgt lf' ps (sc + 1) (pre ++ [c]) s) p st fun c hcm s => ?_]
  refine tgt_congr hl ps (sc + 1) (pre ++ [c]) s hd' ?_ hlt
  have : P.take (sc + 1) = P.take sc ++ [p]:=by rw [List.take_add_one,hp]; rfl
  rw [this]
  exact hc.append (CellsIn.cons hcm CellsIn.nil)
structure DgOk (P : List (List Nat)) (lf : List Nat -> List Nat) (st : DSt) (root : Int) : Prop where
 wf : WF P lf st
 tok : TOk st 0 root
 ev : ∀ cs,CellsIn P cs -> Evals P st cs root (lf cs)
 all : ∀ u,New DSt.no st u -> Reach st root u
theorem dg_ok {P : List (List Nat)} {lf : List Nat -> List Nat} (hP : ∀ p ∈ P,p.Nodup /\ p ≠ []) : DgOk P lf (tgt lf P 0 [] DSt.no).2 (tgt lf P 0 [] DSt.no).1:=by
 have h:=tgt_ok hP P 0 [] DSt.no rfl CellsIn.nil (Nat.zero_le _) (WF.no P lf)
 exact ⟨h.wf,h.tok,fun cs hc => by simpa using h.ev cs hc,h.new⟩
section
variable {P : List (List Nat)} {lf : List Nat -> List Nat} {st : DSt} {root : Int}
theorem Evals.reach {cs : List Nat} {t : Int} {l : List Nat} (h : Evals P st cs t l) : ∃ n : Nat,Reach st t (-1 - (n : Int)) /\ st.lvs[n]? = some l:=by
 induction h with
 | leaf n l h => exact ⟨n,.refl _,h⟩
 | node n sc nx t l h1 h2 _ ih =>
  obtain ⟨k,hk,hl⟩:=ih
  exact ⟨k,.step n sc nx t _ h1 (List.mem_of_getElem? h2) hk,hl⟩
def Gets (st : DSt) (W : List Nat -> Bool) (t : Int) : Prop:=∃ (n : Nat) (l : List Nat),Reach st t (-1 - (n : Int)) /\ st.lvs[n]? = some l /\ W l = true
theorem DgOk.gets (h : DgOk P lf st root) (W : List Nat -> Bool) : Gets st W root ↔ ∃ l ∈ st.lvs,W l = true:=by
 constructor
 ·rintro ⟨n,l,_,hl,hw⟩
  exact ⟨l,List.mem_of_getElem? hl,hw⟩
 ·rintro ⟨l,hl,hw⟩
  obtain ⟨n,hn,rfl⟩:=List.getElem_of_mem hl
  exact ⟨n,_,h.all _ (.inl ⟨n,rfl,Nat.zero_le _,hn⟩),List.getElem?_eq_getElem hn,hw⟩
theorem DgOk.leaves (h : DgOk P lf st root) (W : List Nat -> Bool) : (∃ l ∈ st.lvs,W l = true) ↔ ∃ cs,CellsIn P cs /\ W (lf cs) = true:=by
 constructor
 ·rintro ⟨l,hl,hw⟩
  obtain ⟨n,hn,rfl⟩:=List.getElem_of_mem hl
  obtain ⟨cs,hc,e⟩:=h.wf.leaf n _ (List.getElem?_eq_getElem hn)
  exact ⟨cs,hc,by rw [<- e]; exact hw⟩
 ·rintro ⟨cs,hc,hw⟩
  obtain ⟨n,_,hl⟩:=(h.ev cs hc).reach
  exact ⟨_,List.mem_of_getElem? hl,hw⟩
theorem gets_leaf {W : List Nat -> Bool} {n : Nat} : Gets st W (-1 - (n : Int)) ↔ ∃ l,st.lvs[n]? = some l /\ W l = true:=by
 constructor
 ·rintro ⟨m,l,hr,hl,hw⟩
  generalize e : (-1 - (n : Int)) = t at hr
  generalize e2 : (-1 - (m : Int)) = u at hr
  cases hr with
  | refl =>
   have : m = n:=by omega
   subst this
   exact ⟨l,hl,hw⟩
  | step k => omega
 ·rintro ⟨l,hl,hw⟩
  exact ⟨n,l,.refl _,hl,hw⟩
theorem gets_node {W : List Nat -> Bool} {n sc : Nat} {nx : List Int} (hn : st.nds[n]? = some (sc,nx)) : Gets st W (n : Int) ↔ ∃ t ∈ nx,Gets st W t:=by
 constructor
 ·rintro ⟨m,l,hr,hl,hw⟩
  generalize e : (n : Int) = t at hr
  generalize e2 : (-1 - (m : Int)) = u at hr
  cases hr with
  | refl => omega
  | step k sc' nx' t' u' h1 h2 h3 =>
   have : k = n:=by omega
   subst this
   rw [hn] at h1
   cases h1
   exact ⟨t',h2,m,l,by rw [e2]; exact h3,hl,hw⟩
 ·rintro ⟨t,ht,m,l,hr,hl,hw⟩
  exact ⟨m,l,.step n sc nx t _ hn ht hr,hl,hw⟩
def tsc (P : List (List Nat)) (st : DSt) (t : Int) : Nat:=if t < 0 then P.length else ((st.nds[t.toNat]?).map (·.1)).getD P.length
theorem tsc_node {n sc : Nat} {nx : List Int} (hn : st.nds[n]? = some (sc,nx)) : tsc P st (n : Int) = sc:=by
 unfold tsc
 rw [if_neg (by omega),Int.toNat_natCast,hn]; rfl
theorem tsc_leaf (n : Nat) : tsc P st (-1 - (n : Int)) = P.length:=by unfold tsc; rw [if_pos (by omega)]
def Leads (P : List (List Nat)) (st : DSt) (root t : Int) (cells : List Nat) : Prop:=∀ cs l,(∀ i,i < tsc P st t -> cs[i]?.getD 0 = cells[i]?.getD 0) -> Evals P st cs t l -> Evals P st cs root l
theorem Leads.start (cells : List Nat) : Leads P st root root cells:=fun _ _ _ h => h
theorem Leads.step {t : Int} {n sc i c : Nat} {nx : List Int} {cells : List Nat} (h : Leads P st root (n : Int) cells) (hn : st.nds[n]? = some (sc,nx)) (ht : nx[i]? = some t) (hs : sc < tsc P st t) (hc : (P[sc]?.getD [])[i]? = some c) (hnd : (P[sc]?.getD []).Nodup) (hl : sc < cells.length) : Leads P st root t (cells.set sc c):=by
 intro cs l ha he
 refine h cs l (fun j hj => ?_) ?_
 ·rw [tsc_node hn] at hj
  rw [ha j (by omega),List.getElem?_set_ne (by omega)]
 ·refine .node n sc nx t l hn ?_ he
  have e : cs[sc]?.getD 0 = c:=by rw [ha sc hs,List.getElem?_set_self hl]; rfl
  obtain ⟨hlt,hcg⟩:=List.getElem?_eq_some_iff.1 hc
  rw [e,<- hcg,hnd.idxOf_getElem i hlt]
  exact ht
theorem CellsIn.set {cells : List Nat} {sc c : Nat} {p : List Nat} (h : CellsIn P cells) (hp : P[sc]? = some p) (hc : c ∈ p) : CellsIn P (cells.set sc c):=by
 refine ⟨by rw [List.length_set,h.1],fun i d hd => ?_⟩
 by_cases e : sc = i
 ·subst e
  rw [List.getElem?_set_self (by rw [h.1]; exact (List.getElem?_eq_some_iff.1 hp).1)] at hd
  cases hd
  exact ⟨p,hp,hc⟩
 ·rw [List.getElem?_set_ne e] at hd
  exact h.2 i d hd
end
def prodL : List (List Nat) -> Nat
 | [] => 1
 | p :: ps => p.length * prodL ps
theorem prodL_pos {P : List (List Nat)} (h : ∀ p ∈ P,p ≠ []) : 1 <= prodL P:=by
 induction P with
 | nil => exact Nat.le_refl _
 | cons p P ih =>
  have h1:=ih fun q hq => h q (List.mem_cons_of_mem _ hq)
  have h2 : 1 <= p.length:=List.length_pos_iff.2 (h p (List.mem_cons_self ..))
  exact Nat.mul_le_mul h2 h1
theorem mapS_size {f : Nat -> DSt -> Int × DSt} {k : Nat} (hf : ∀ c s,(f c s).2.nds.length + 1 <= s.nds.length + k /\ (f c s).2.lvs.length <= s.lvs.length + k) : ∀ (p : List Nat) (st : DSt),(mapS f p st).2.nds.length + p.length <= st.nds.length + p.length * k /\ (mapS f p st).2.lvs.length <= st.lvs.length + p.length * k
 | [],st => by simp [mapS]
 | c :: p,st => by
  have h1:=hf c st
  have h2:=mapS_size hf p (f c st).2
  rw [mapS]
  simp only [List.length_cons,Nat.add_mul,Nat.one_mul]
  omega
theorem tgt_size (lf : List Nat -> List Nat) : ∀ (ps : List (List Nat)) (sc : Nat) (pre : List Nat) (st : DSt),(∀ p ∈ ps,p ≠ []) -> (tgt lf ps sc pre st).2.nds.length + 1 <= st.nds.length + prodL ps /\ (tgt lf ps sc pre st).2.lvs.length <= st.lvs.length + prodL ps
 | [],sc,pre,st,_ => by
  rw [tgt]
  unfold addLeaf
  split <;> simp [prodL]
 | p :: ps,sc,pre,st,h => by
  have hp : 1 <= p.length:=List.length_pos_iff.2 (h p (List.mem_cons_self ..))
  have hm:=mapS_size (k:=prodL ps) (f:=fun c s => tgt lf ps (sc + 1) (pre ++ [c]) s) (fun c s => tgt_size lf ps (sc + 1) (pre ++ [c]) s fun q hq => h q (List.mem_cons_of_mem _ hq)) p st
  have hlen:=mapS_len (fun c s => tgt lf ps (sc + 1) (pre ++ [c]) s) p st
  rw [tgt]
  generalize mapS (fun c s => tgt lf ps (sc + 1) (pre ++ [c]) s) p st = r at hm hlen ⊢
  show _ <= _ + p.length * prodL ps /\ _ <= _ + p.length * prodL ps
  unfold shut
  by_cases ha : alike r.1 = true
  ·rw [if_pos ha]
   refine ⟨?_,hm.2⟩
   show r.2.nds.length + 1 <= _
   omega
  ·rw [if_neg ha]
   have h2 : 2 <= p.length:=by
    rcases Nat.lt_or_ge p.length 2 with h | h
    ·exfalso
     apply ha
     obtain ⟨x,hx⟩ : ∃ x,r.1 = [x]:=by
      match hr : r.1,hlen with
      | [x],_ => exact ⟨x,rfl⟩
      | [],hl => simp at hl; omega
      | a :: b :: c,hl => simp at hl; omega
     rw [hx]
     simp [alike]
    ·exact h
   unfold addNode
   split
   ·refine ⟨?_,hm.2⟩
    show r.2.nds.length + 1 <= _
    omega
   ·refine ⟨?_,hm.2⟩
    show (r.2.nds ++ [(sc,r.1)]).length + 1 <= _
    simp only [List.length_append,List.length_cons,List.length_nil]
    omega
section
variable (st : DSt)
def Seen (vn vl : List Nat) (t : Int) : Prop:=(∃ n : Nat,t = (n : Int) /\ n ∈ vn) \/ (∃ n : Nat,t = -1 - (n : Int) /\ n ∈ vl)
structure Bfs (root : Int) (todo : List Int) (vn vl : List Nat) : Prop where
 nn : vn.Nodup
 ln : vl.Nodup
 nlt : ∀ n ∈ vn,n < st.nds.length
 llt : ∀ n ∈ vl,n < st.lvs.length
 close : ∀ n ∈ vn,∀ (sc : Nat) (nx : List Int),st.nds[n]? = some (sc,nx) -> ∀ t ∈ nx,t ∈ todo \/ Seen vn vl t
 root : root ∈ todo \/ Seen vn vl root
 todo : ∀ t ∈ todo,TOk st 0 t
def restB (vn : List Nat) : Nat:=(((List.range st.nds.length).filter fun n => decide (n ∉ vn)).map fun n => ((st.nds[n]?.getD (0,[])).2).length).sum
end
section
variable {st : DSt} {root : Int} {vn vl : List Nat} {todo : List Int}
theorem Seen.node {vn vl : List Nat} {t : Int} {n : Nat} (h : Seen vn vl t) : Seen (vn ++ [n]) vl t:=by
 rcases h with ⟨m,e,h⟩ | h
 ·exact .inl ⟨m,e,List.mem_append_left _ h⟩
 ·exact .inr h
theorem Seen.leaf {vn vl : List Nat} {t : Int} {n : Nat} (h : Seen vn vl t) : Seen vn (vl ++ [n]) t:=by
 rcases h with h | ⟨m,e,h⟩
 ·exact .inl h
 ·exact .inr ⟨m,e,List.mem_append_left _ h⟩
theorem Bfs.start (h : TOk st 0 root) : Bfs st root [root] [] [] :=
 ⟨List.nodup_nil,List.nodup_nil,fun n hn => (by cases hn),fun n hn => (by cases hn),fun n hn => (by cases hn),.inl (List.mem_cons_self ..),fun t ht => by rw [List.mem_singleton.1 ht]; exact h⟩
theorem Bfs.leaf_old {n : Nat} (h : Bfs st root ((-1 - (n : Int)) :: todo) vn vl) (hn : n ∈ vl) : Bfs st root todo vn vl:=by
 have key : ∀ t,t ∈ (-1 - (n : Int)) :: todo \/ Seen vn vl t -> t ∈ todo \/ Seen vn vl t:=fun t ht => by
  rcases ht with ht | ht
  ·rcases List.mem_cons.1 ht with rfl | ht
   ·exact .inr (.inr ⟨n,rfl,hn⟩)
   ·exact .inl ht
  ·exact .inr ht
 exact ⟨h.nn,h.ln,h.nlt,h.llt,fun m hm sc nx e t ht => key t (h.close m hm sc nx e t ht),key _ h.root,fun t ht => h.todo t (List.mem_cons_of_mem _ ht)⟩
theorem Bfs.leaf_new {n : Nat} (h : Bfs st root ((-1 - (n : Int)) :: todo) vn vl) (hn : n ∉ vl) : Bfs st root todo vn (vl ++ [n]):=by
 have key : ∀ t,t ∈ (-1 - (n : Int)) :: todo \/ Seen vn vl t -> t ∈ todo \/ Seen vn (vl ++ [n]) t:=fun t ht => by
  rcases ht with ht | ht
  ·rcases List.mem_cons.1 ht with rfl | ht
   ·exact .inr (.inr ⟨n,rfl,by simp⟩)
   ·exact .inl ht
  ·exact .inr ht.leaf
 have hlt : n < st.lvs.length:=by
  rcases h.todo _ (List.mem_cons_self ..) with ⟨m,e,hm⟩ | ⟨m,x,e,_⟩
  ·have : m = n:=by omega
   rw [<- this]; exact hm
  ·omega
 refine ⟨h.nn,?_,h.nlt,fun m hm => ?_,fun m hm sc nx e t ht => key t (h.close m hm sc nx e t ht),key _ h.root,fun t ht => h.todo t (List.mem_cons_of_mem _ ht)⟩
 ·rw [List.nodup_append]
  exact ⟨h.ln,by simp,fun a ha b hb => by rw [List.mem_singleton.1 hb]; rintro rfl; exact hn ha⟩
 ·rcases List.mem_append.1 hm with hm | hm
  ·exact h.llt m hm
  ·rw [List.mem_singleton.1 hm]; exact hlt
theorem Bfs.node_old {n : Nat} (h : Bfs st root ((n : Int) :: todo) vn vl) (hn : n ∈ vn) : Bfs st root todo vn vl:=by
 have key : ∀ t,t ∈ (n : Int) :: todo \/ Seen vn vl t -> t ∈ todo \/ Seen vn vl t:=fun t ht => by
  rcases ht with ht | ht
  ·rcases List.mem_cons.1 ht with rfl | ht
   ·exact .inr (.inl ⟨n,rfl,hn⟩)
   ·exact .inl ht
  ·exact .inr ht
 exact ⟨h.nn,h.ln,h.nlt,h.llt,fun m hm sc nx e t ht => key t (h.close m hm sc nx e t ht),key _ h.root,fun t ht => h.todo t (List.mem_cons_of_mem _ ht)⟩
theorem Bfs.node_new {n sc : Nat} {nx : List Int} (h : Bfs st root ((n : Int) :: todo) vn vl) (hn : n ∉ vn) (hx : st.nds[n]? = some (sc,nx)) (hnx : ∀ t ∈ nx,TOk st 0 t) : Bfs st root (todo ++ nx) (vn ++ [n]) vl:=by
 have key : ∀ t,t ∈ (n : Int) :: todo \/ Seen vn vl t -> t ∈ todo ++ nx \/ Seen (vn ++ [n]) vl t:=fun t ht => by
  rcases ht with ht | ht
  ·rcases List.mem_cons.1 ht with rfl | ht
   ·exact .inr (.inl ⟨n,rfl,by simp⟩)
   ·exact .inl (List.mem_append_left _ ht)
  ·exact .inr ht.node
 refine ⟨?_,h.ln,fun m hm => ?_,h.llt,fun m hm sc' nx' e t ht => ?_,key _ h.root,fun t ht => ?_⟩
 ·rw [List.nodup_append]
  exact ⟨h.nn,by simp,fun a ha b hb => by rw [List.mem_singleton.1 hb]; rintro rfl; exact hn ha⟩
 ·rcases List.mem_append.1 hm with hm | hm
  ·exact h.nlt m hm
  ·rw [List.mem_singleton.1 hm]; exact (List.getElem?_eq_some_iff.1 hx).1
 ·rcases List.mem_append.1 hm with hm | hm
  ·exact key t (h.close m hm sc' nx' e t ht)
  ·rw [List.mem_singleton.1 hm,hx] at e
   cases e
   exact .inl (List.mem_append_right _ ht)
 ·rcases List.mem_append.1 ht with ht | ht
  ·exact h.todo t (List.mem_cons_of_mem _ ht)
  ·exact hnx t ht
theorem restB_step {n sc : Nat} {nx : List Int} (hn : n ∉ vn) (hx : st.nds[n]? = some (sc,nx)) : restB st (vn ++ [n]) + nx.length = restB st vn:=by
 have hlt : n < st.nds.length:=(List.getElem?_eq_some_iff.1 hx).1
 have key : ∀ L : List Nat,L.Nodup -> ((L.filter fun m => decide (m ∉ vn ++ [n])).map fun m => ((st.nds[m]?.getD (0,[])).2).length).sum + (if n ∈ L then nx.length else 0) = ((L.filter fun m => decide (m ∉ vn)).map fun m => ((st.nds[m]?.getD (0,[])).2).length).sum:=by
  intro L hL
  induction L with
  | nil => simp
  | cons m L ih =>
   obtain ⟨h1,h2⟩:=List.nodup_cons.1 hL
   have := ih h2
   by_cases e : m = n
   ·subst e
    rw [if_neg h1] at this
    rw [if_pos (List.mem_cons_self ..),List.filter_cons_of_neg (by simp),List.filter_cons_of_pos (by simpa using hn),List.map_cons,List.sum_cons,<- this,hx]
    simp
    omega
   ·have hmem : (n ∈ m :: L) ↔ n ∈ L:=by simp [List.mem_cons,Ne.symm e]
    by_cases hm : m ∈ vn
    ·rw [List.filter_cons_of_neg (by simp [hm]),List.filter_cons_of_neg (by simp [hm])]
     simpa [hmem] using this
    ·rw [List.filter_cons_of_pos (by simp [hm,e]),List.filter_cons_of_pos (by simp [hm]),List.map_cons,List.map_cons,List.sum_cons,List.sum_cons,<- this]
     simp only [hmem]
     omega
 have := key (List.range st.nds.length) List.nodup_range
 rw [if_pos (List.mem_range.2 hlt)] at this
 exact this
theorem Bfs.done {P : List (List Nat)} {lf : List Nat -> List Nat} (hd : DgOk P lf st root) (h : Bfs st root [] vn vl) : vn.length = st.nds.length /\ vl.length = st.lvs.length:=by
 have hs : ∀ {t u : Int},Reach st t u -> Seen vn vl t -> Seen vn vl u:=by
  intro t u hr
  induction hr with
  | refl t => exact id
  | step n sc nx t u h1 h2 _ ih =>
   intro hn
   refine ih ?_
   rcases hn with ⟨m,e,hm⟩ | ⟨m,e,hm⟩
   ·have : m = n:=by omega
    subst this
    rcases h.close m hm sc nx h1 t h2 with h | h
    ·cases h
    ·exact h
   ·omega
 have hroot : Seen vn vl root:=by
  rcases h.root with h | h
  ·cases h
  ·exact h
 have hn : ∀ n,n < st.nds.length -> n ∈ vn:=fun n hn => by
  rcases hs (hd.all _ (.inr ⟨n,rfl,Nat.zero_le _,hn⟩)) hroot with ⟨m,e,hm⟩ | ⟨m,e,_⟩
  ·have : m = n:=by omega
   rw [<- this]; exact hm
  ·omega
 have hl : ∀ n,n < st.lvs.length -> n ∈ vl:=fun n hn => by
  rcases hs (hd.all _ (.inl ⟨n,rfl,Nat.zero_le _,hn⟩)) hroot with ⟨m,e,_⟩ | ⟨m,e,hm⟩
  ·omega
  ·have : m = n:=by omega
   rw [<- this]; exact hm
 have e1 : ∀ (k : Nat) (v : List Nat),v.Nodup -> (∀ n ∈ v,n < k) -> (∀ n,n < k -> n ∈ v) -> v.length = k:=fun k v h1 h2 h3 => by
  have a1:=List.Nodup.length_le_of_subset h1 (l₂:=List.range k) fun n hn => List.mem_range.2 (h2 n hn)
  have a2:=List.Nodup.length_le_of_subset (l₁:=List.range k) List.nodup_range (l₂:=v) fun n hn => h3 n (List.mem_range.1 hn)
  simp at a1 a2
  omega
 exact ⟨e1 _ _ h.nn h.nlt hn,e1 _ _ h.ln h.llt hl⟩
end
open Go.RowKit
structure RO {α : Type} (c T : Nat) (row : α -> Value -> List Value) (R : α -> Value -> Nat -> World -> Prop) (base : Nat) (w : World) (v : Value) (L : List α) (vs : List Value) (F : Nat -> Prop) : Prop where
 len : vs.length = L.length
 own : OwnR c T base w v (List.zipWith row L vs)
 rng : ∀ b,F b -> base <= b /\ b < w.heap.size
 nv : ∀ b,F b -> v.ownBlock ≠ some b
 dat : ∀ (i : Nat) (a : α) (u : Value),L[i]? = some a -> vs[i]? = some u -> Zed F w (R a u)
section
variable {α : Type} {c T : Nat} {row : α -> Value -> List Value} {R : α -> Value -> Nat -> World -> Prop} {base : Nat} {w w' : World} {v : Value} {L : List α} {vs : List Value} {F : Nat -> Prop}
theorem RO.nil (base : Nat) (w : World) : RO c T row R base w (.slice none 0 0) [] [] (fun _ => False) :=
 ⟨rfl,OwnR.nil _ _ _ _,fun b h => h.elim,fun b h => h.elim,fun i a u h => (by cases h)⟩
theorem RO.move (h : RO c T row R base w v L vs F) (ha : Agr F w w') (hk : ∀ g,v.ownBlock = some g -> w'.heap[g]? = w.heap[g]?) (hs : w.heap.size <= w'.heap.size) : RO c T row R base w' v L vs F :=
 ⟨h.len,h.own.moveEq hk,fun b hb => ⟨(h.rng b hb).1,Nat.lt_of_lt_of_le (h.rng b hb).2 hs⟩,h.nv,fun i a u h1 h2 => (h.dat i a u h1 h2).move ha⟩
theorem RO.old {B : Nat} (h : RO c T row R base w v L vs F) (hb : Below B w w') (hB : w.heap.size <= B) : RO c T row R base w' v L vs F :=
 h.move (Agr.of fun b hF => hb.block b (by have := (h.rng b hF).2; omega)) (fun g hg => hb.block g (by have := h.own.lt hg; omega)) hb.size
theorem RO.kept {r : Option Nat} (h : RO c T row R base w v L vs F) (hg : w.grownBy w' r) (hF : ∀ b,r = some b -> ¬ F b) (hv : ∀ b,r = some b -> v.ownBlock ≠ some b) : RO c T row R base w' v L vs F :=
 h.move (Agr.of fun b hb => hg.block b (h.rng b hb).2 fun e => hF b e.symm hb) (fun g hg' => hg.block g (h.own.lt hg') fun e => hv g e.symm hg') hg.size
theorem zipWith_snoc {β γ δ : Type} (f : β -> γ -> δ) : ∀ (a : List β) (b : List γ) (x : β) (y : γ),a.length = b.length -> List.zipWith f (a ++ [x]) (b ++ [y]) = List.zipWith f a b ++ [f x y]
 | [],[],x,y,_ => rfl
 | [],_ :: _,x,y,h => by cases h
 | _ :: _,[],x,y,h => by cases h
 | p :: a,q :: b,x,y,h => by
  simp only [List.cons_append,List.zipWith_cons_cons,zipWith_snoc f a b x y (by simpa using h)]
theorem RO.add {W w5 : World} {v' u : Value} {a : α} {G : Nat -> Prop} (h : RO c T row R base w v L vs F) (hw : w.grownBy W none) (hz : Zed G W (R a u)) (hG : ∀ b,G b -> w.heap.size <= b /\ b < W.heap.size) (hbase : base <= w.heap.size)
  (hg : W.grownBy w5 v.ownBlock) (hown : OwnR c T base w5 v' (List.zipWith row L vs ++ [row a u])) (hat : ∀ g,v'.ownBlock = some g -> v.ownBlock = some g \/ W.heap.size <= g) :
  RO c T row R base w5 v' (L ++ [a]) (vs ++ [u]) (fun b => F b \/ G b):=by
 have hsz:=hg.size
 have hsw:=hw.size
 have hlt : ∀ r,v.ownBlock = some r -> r < w.heap.size:=fun r hr => h.own.lt hr
 have hFw : Agr F w w5:=Agr.of fun b hb => (hg.block b (by have := (h.rng b hb).2; omega) (fun e => h.nv b hb e.symm)).trans (hw.block b (h.rng b hb).2 (by simp))
 have hGw : Agr G W w5:=Agr.of fun b hb => hg.block b (hG b hb).2 (fun e => by have := hlt b e.symm; have := (hG b hb).1; omega)
 refine ⟨by simp [h.len],by rw [zipWith_snoc row L vs a u h.len.symm]; exact hown,fun b hb => ?_,fun b hb e => ?_,fun i a' u' h1 h2 => ?_⟩
 ·rcases hb with hb | hb
  ·have := h.rng b hb; omega
  ·have := hG b hb; omega
 ·rcases hat b e with h1 | h1
  ·rcases hb with hb | hb
   ·exact h.nv b hb h1
   ·have := hlt b h1; have := (hG b hb).1; omega
  ·rcases hb with hb | hb
   ·have := (h.rng b hb).2; omega
   ·have := (hG b hb).2; omega
 ·by_cases hil : i < L.length
  ·rw [List.getElem?_append_left hil] at h1
   rw [List.getElem?_append_left (by rw [h.len]; exact hil)] at h2
   exact ((h.dat i a' u' h1 h2).move hFw).mono fun b hb => .inl hb
  ·have hi1 : i < (L ++ [a]).length:=(List.getElem?_eq_some_iff.1 h1).1
   have : i = L.length:=by simp at hi1; omega
   subst this
   rw [List.getElem?_append_right (Nat.le_refl _),Nat.sub_self] at h1
   rw [List.getElem?_append_right (by rw [h.len]; exact Nat.le_refl _),h.len,Nat.sub_self] at h2
   cases h1; cases h2
   exact (hz.move hGw).mono fun b hb => .inr hb
theorem RO.rows (h : RO c T row R base w v L vs F) : RowsV c (fun i j => (((List.zipWith row L vs)[i]?.getD [])[j]?).getD undef) w.heap.size w v L.length:=by
 have := h.own.rows
 rwa [List.length_zipWith,h.len,Nat.min_self] at this
theorem RO.get (h : RO c T row R base w v L vs F) {i : Nat} {a : α} {u : Value} (h1 : L[i]? = some a) (h2 : vs[i]? = some u) : R a u w.heap.size w:=(h.dat i a u h1 h2).get fun b hb => (h.rng b hb).2
theorem zip_at {i : Nat} {a : α} {u : Value} (h1 : L[i]? = some a) (h2 : vs[i]? = some u) : (List.zipWith row L vs)[i]? = some (row a u):=by
 rw [List.getElem?_zipWith,h1,h2]
end
theorem nats_own {base : Nat} {w : World} {v : Value} {l : List Nat} (h : OwnN base w v l) {F : Nat -> Prop} (hF : ∀ b,v.ownBlock = some b -> F b) : Zed F w fun K W => Nats K W v l:=by
 intro W K ha hK
 obtain ⟨h1,h2⟩:=ownsRow_zed h hF W K ha hK
 have hn:=OwnN.nats (show OwnN base W v l from h2)
 obtain ⟨a,cap,hv,h3,h4,h5,h6⟩:=hn
 refine ⟨a,cap,hv,h3,h4,h5,fun i hi => ?_⟩
 obtain ⟨b,o,rfl,hb,hc⟩:=h6 i hi
 refine ⟨b,o,rfl,?_,hc⟩
 rcases h1 with ⟨h1,h0⟩ | ⟨g,hg,hgK⟩
 ·omega
 ·rw [hv] at hg
  simp only [Value.ownBlock,Option.some.injEq] at hg
  omega
def NN (K : Nat) (w : World) (v : Value) (L : List (List Nat)) : Prop:=∃ g : Nat -> Value,RowsV 1 (fun i _ => g i) K w v L.length /\ ∀ i,i < L.length -> Nats K w (g i) (L[i]?.getD [])
theorem NN.below {K K' B : Nat} {w w' : World} {v : Value} {L : List (List Nat)} (h : NN K w v L) (hb : Below B w w') (hB : K <= B) (hK : K <= K') : NN K' w' v L:=by
 obtain ⟨g,h1,h2⟩:=h
 exact ⟨g,h1.below hb hB hK,fun i hi => (h2 i hi).below hb hB hK⟩
theorem NN.form {K : Nat} {w : World} {v : Value} {L : List (List Nat)} (h : NN K w v L) : ∃ a cap,v = .slice a L.length cap /\ L.length <= cap /\ cap <= maxLen:=by
 obtain ⟨g,h1,h2⟩:=h; exact h1.form
abbrev NO:=@RO (List Nat) 1 56 (fun _ u => [u]) (fun l u K W => Nats K W u l)
theorem NO.read {base : Nat} {w : World} {v : Value} {L : List (List Nat)} {vs : List Value} {F : Nat -> Prop} (h : NO base w v L vs F) : NN w.heap.size w v L:=by
 refine ⟨fun i => vs[i]?.getD undef,h.rows.congr fun i hi j hj => ?_,fun i hi => ?_⟩
 ·obtain rfl : j = 0:=by omega
  have hv : vs[i]? = some (vs[i]'(by rw [h.len]; exact hi)):=List.getElem?_eq_getElem _
  rw [zip_at (row:=fun _ u => [u]) (List.getElem?_eq_getElem hi) hv]
  show vs[i]'(by rw [h.len]; exact hi) = vs[i]?.getD undef
  rw [hv]; rfl
 ·have hv : vs[i]? = some (vs[i]'(by rw [h.len]; exact hi)):=List.getElem?_eq_getElem _
  have := h.get (List.getElem?_eq_getElem hi) hv
  show Nats _ _ (vs[i]?.getD undef) (L[i]?.getD [])
  rw [hv,List.getElem?_eq_getElem hi]
  exact this
def NdX (K : Nat) (w : World) (v : Value) (L : List (Nat × List Int)) : Prop:=∃ g : Nat -> Value,RowsV 2 (fun i j => if j = 0 then Z (L[i]?.getD (0,[])).1 else g i) K w v L.length /\ ∀ i,i < L.length -> IntsX K w (g i) (L[i]?.getD (0,[])).2
theorem NdX.below {K K' B : Nat} {w w' : World} {v : Value} {L : List (Nat × List Int)} (h : NdX K w v L) (hb : Below B w w') (hB : K <= B) (hK : K <= K') : NdX K' w' v L:=by
 obtain ⟨g,h1,h2⟩:=h
 exact ⟨g,h1.below hb hB hK,fun i hi => RowsV.below (h2 i hi) hb hB hK⟩
theorem NdX.form {K : Nat} {w : World} {v : Value} {L : List (Nat × List Int)} (h : NdX K w v L) : ∃ a cap,v = .slice a L.length cap /\ L.length <= cap /\ cap <= maxLen:=by
 obtain ⟨g,h1,h2⟩:=h; exact h1.form
structure Dv where
 s : Sl
 n : Sl
 l : Sl
 r : Int
abbrev Dv.cells (x : Dv) : Array Value:=#[.slice x.s.a x.s.n x.s.m,.slice x.n.a x.n.n x.n.m,.slice x.l.a x.l.n x.l.m,.int .i64 x.r]
abbrev Dv.agg (x : Dv) : Value:=.agg x.cells
structure DgX (K : Nat) (w : World) (x : Dv) (scs : List Sc) (st : DSt) (root : Int) : Prop where
 s : ScsX K w x.s.val scs
 n : NdX K w x.n.val st.nds
 l : NN K w x.l.val st.lvs
 r : x.r = root
theorem DgX.below {K K' B : Nat} {w w' : World} {x : Dv} {scs : List Sc} {st : DSt} {root : Int} (h : DgX K w x scs st root) (hb : Below B w w') (hB : K <= B) (hK : K <= K') : DgX K' w' x scs st root:=⟨h.s.below hb hB hK,h.n.below hb hB hK,h.l.below hb hB hK,h.r⟩
theorem Tryz.infoIntsG : (Tryz.prog.info? 56).map (fun i => (i.zero,i.size,i.bytes)) = some (some (.slice none 0 0),1,24):=by kernel_rfl
theorem grown_of_below {w w' : World} (h : Below w.heap.size w w') : w.grownBy w' none:=by
 obtain ⟨h1,h2,h3,h4,h5⟩:=h
 exact ⟨h1,h2,h3,h4,fun b hb _ => h5 b hb⟩
def ScGood (l : List Sc) : Prop:=∀ s ∈ l,(∀ c ∈ s.cuts,c.good = true) /\ s.cuts.length <= 2 ^ 38
theorem dposs_any (K : Nat) (lv : Value) (l : List Sc) (w : World) (hs : ScsX K w lv l) (hg : ScGood l) (hn : l.length <= 2 ^ 20) (hK : K <= w.heap.size) :
  Calls Tryz.prog 48 #[lv] w fun e w' => ∃ v vs F,e = .returned v /\ NO w.heap.size w' v (l.map cellsS) vs F /\ Below w.heap.size w w':=by
 obtain ⟨la,lc,rfl,_,hlm⟩:=hs.form
 obtain ⟨gy,hrow,hsc⟩:=hs
 obtain ⟨n,hnn⟩ : ∃ n,l.length = n:=⟨_,rfl⟩
 have HN:=Lib.hid hnn
 rw [hnn] at hrow hsc hn ⊢
 obtain ⟨B,hB⟩ : ∃ B,w.heap.size = B:=⟨_,rfl⟩
 have HB:=Lib.hid hB
 rw [hB] at hK ⊢
 have HROW:=Lib.hid hrow
 have HSC:=Lib.hid hsc
 have HG:=Lib.hid hg
 clear hB hnn hrow hsc hg
 go_enter Tryz.func48,Tryz.ntmps48
 go_wp2_with fail
 go_loopw [3,8] (fun ov iv wr => ∃ (i : Nat) (vs : List Value) (F : Nat -> Prop),i <= n /\ iv = .int .i64 i /\ NO B wr ov ((l.take i).map cellsS) vs F /\ Below B w wr) (fun _ iv _ => n - (intOf iv).toNat)
 case atStart => exact ⟨0,[],fun _ => False,Nat.zero_le _,rfl,by rw [List.take_zero]; exact RO.nil _ _,Below.refl _ _⟩
 case round =>
  obtain ⟨i,vs,F,hi,rfl,hno,hbw⟩:=hrel
  obtain ⟨wo,rfl⟩ : ∃ wo : World,wo = wr:=⟨_,rfl⟩
  obtain ⟨oa,oc,hov,_,_⟩:=hno.own.form
  have hlen : (List.zipWith (fun (_ : List Nat) (u : Value) => [u]) ((l.take i).map cellsS) vs).length = i:=by
   rw [List.length_zipWith,hno.len,Nat.min_self,List.length_map,List.length_take,HN.out]; omega
  rw [hlen] at hov
  subst hov
  have HLEN:=Lib.hid hlen
  have HNO:=Lib.hid hno
  have HBW:=Lib.hid hbw
  have hBo : B <= wo.heap.size:=by have := hbw.size; have := HB.out; omega
  clear hno hbw hlen
  by_cases hlt : i < n
  ·obtain ⟨b,o,cap,he,_,_,hbK,hc⟩:=HROW.out.pos (by omega)
   simp only [Value.slice.injEq,true_and] at he
   obtain ⟨rfl,rfl⟩:=he
   have hli : i < l.length:=by rw [HN.out]; exact hlt
   obtain ⟨s,hs⟩ : ∃ s,l[i]?.getD default = s:=⟨_,rfl⟩
   have hsm : s ∈ l:=by rw [<- hs,List.getElem?_eq_getElem hli,Option.getD_some]; exact List.getElem_mem hli
   have hgs : l[i]? = some s:=by rw [<- hs,List.getElem?_eq_getElem hli]; rfl
   have hx:=HSC.out i hlt
   rw [hs] at hx
   have hrg:=sv_range (g:=gy) (cells_below HBW.out (Nat.lt_of_lt_of_le hbK hK) hc) hlt
   obtain ⟨y,hy⟩ : ∃ y,gy i = y:=⟨_,rfl⟩
   rw [hy] at hx hrg
   have H1C : Hid (∀ u ∈ y.cells,u.oneCell' = true):=Lib.hid (by simp [Value.oneCell'])
   have htk : (l.take (i + 1)).map cellsS = (l.take i).map cellsS ++ [cellsS s]:=by rw [List.take_add_one,hgs]; simp
   have HTK:=Lib.hid htk
   have HX:=Lib.hid hx
   have HGS:=Lib.hid (HG.out s hsm)
   clear hc hs hsm hgs hx hy htk
   go_upto_region 5 with (first
    | (refine wpList_load_mid rfl 79 (.tmp 10) rfl b (o + i * 11) rfl y.cells.toList _ hrg Tryz.underlying79 rfl infoScaleN ?_)
    | (refine wpList_store_new rfl 79 (.tmp 5) (.tmp 11) rfl y.cells _ infoScaleN rfl H1C.out wo.heap.size rfl rfl rfl ?_))
   obtain ⟨T,hT⟩ : ∃ T,wo.heap.size = T:=⟨_,rfl⟩
   obtain ⟨W2,hW2⟩ : ∃ W,wo.alloc (.cells y.cells 79) = W:=⟨_,rfl⟩
   have b2 : Below T wo W2:=by rw [<- hW2,<- hT]; exact (Below.refl _ _).alloc (Nat.le_refl _) _
   have q2 : Blk W2 T y.cells 79:=by rw [<- hW2,<- hT]; exact Blk.new wo _ _
   have hr2 : W2.rangeAt T 0 y.cells.toList:=q2.range
   have hs2:=b2.size
   have HW2:=Lib.hid hW2
   have HT:=Lib.hid hT
   rw [hT] at hBo
   have hce:=gcells_any K s y W2 (HX.out.below (HBW.out.trans (b2.mono (by omega))) hK (Nat.le_refl _)) (by omega) HGS.out.1 HGS.out.2
   have HCE:=Lib.hid hce
   have B2:=Lib.hid b2
   rw [HT.out]
   rw [HW2.out]
   clear hT hW2 HW2 q2 b2 hce hrg H1C
   go_wp2_with (first
    | (refine wpList_load_mid rfl 79 (.tmp 5) rfl T 0 rfl y.cells.toList _ hr2 Tryz.underlying79 rfl infoScaleN ?_))
   refine HCE.out.mono ?_
   rintro e w3 ⟨pv,rfl,hpv,hb3⟩
   clear HCE hr2
   obtain ⟨pa,pc,hpf,_,_⟩:=id hpv.form
   obtain ⟨pn,hpn⟩ : ∃ k,(cellsS s).length = k:=⟨_,rfl⟩
   rw [hpn] at hpf
   subst hpf
   have hW2s : wo.heap.size <= W2.heap.size:=by rw [HT.out]; have := B2.out.size; rw [HT.out] at this; exact this
   have b13 : Below wo.heap.size wo w3:=by rw [HT.out]; exact B2.out.trans (hb3.mono (by rw [<- HT.out]; exact hW2s))
   have b14 : Below wo.heap.size wo (w3.alloc (.cells #[.slice pa pn pc] 56)):=b13.alloc b13.size _
   have hpv4 : OwnN W2.heap.size (w3.alloc (.cells #[.slice pa pn pc] 56)) (.slice pa pn pc) (cellsS s):=hpv.old ((Below.refl _ _).alloc (Nat.le_refl _) _) (Nat.le_refl _)
   have HP4:=Lib.hid hpv4
   have HB14:=Lib.hid b14
   have hown4:=HNO.out.own.old b14 (Nat.le_refl _)
   have HOWN4:=Lib.hid hown4
   have HROW1 : Hid (RowsOk 1 [[.slice pa pn pc]]):=Lib.hid (RowsOk.one rfl fun u hu => by rw [List.mem_singleton.1 hu]; rfl)
   have HRC : Hid (∀ (i : Nat) (r : List Value) (j : Nat) (u : Value),([[.slice pa pn pc]] : List (List Value))[i]? = some r -> r[j]? = some u -> (w3.alloc (.cells #[.slice pa pn pc] 56)).cell? ⟨w3.heap.size,0 + (i * 1 + j),none⟩ = some u):=Lib.hid fun i r j u h1 h2 => by
    have hi0 : i = 0:=by have := (List.getElem?_eq_some_iff.1 h1).1; simp at this; omega
    subst hi0
    cases h1
    have hj0 : j = 0:=by have := (List.getElem?_eq_some_iff.1 h2).1; simp at this; omega
    subst hj0
    cases h2
    exact (Blk.new w3 #[.slice pa pn pc] 56).at rfl
   have hs3:=b13.size
   have hb64 : B <= w3.heap.size:=by have := HT.out; omega
   have HS3:=Lib.hid hs3
   obtain ⟨rs,hrs⟩ : ∃ rs,List.zipWith (fun (_ : List Nat) (u : Value) => [u]) ((l.take i).map cellsS) vs = rs:=⟨_,rfl⟩
   have HRS:=Lib.hid hrs
   have HOWN5 : Hid (OwnR 1 56 B (w3.alloc (.cells #[.slice pa pn pc] 56)) (.slice oa i oc) rs):=Lib.hid (by rw [<- hrs]; exact HOWN4.out)
   have HRL : Hid (rs.length = i):=Lib.hid (by rw [<- hrs]; exact HLEN.out)
   clear hrs hown4 hpv4 b14 b13 hs3 hW2s hpn hpv hb3
   go_wp2_with (at_builtin; refine wpList_append_rows rfl (.tmp 12) (.tmp 15) 27 rfl Tryz.underlying27 Tryz.infoIntsG (by kernel_rfl) (by decide) rfl HOWN5.out (b:=w3.heap.size) (off:=0) (m:=1) (cap:=1) (ms:=[[.slice pa pn pc]]) rfl rfl HROW1.out HRC.out (by decide) (by rw [HRL.out]; simp [maxLen]; omega) (by rw [HRL.out]; omega) (by simp; omega) ?_; intro g1 cap1 w5 hown5 hg5 hat5)
   have hno5:=RO.add (a:=cellsS s) (u:=.slice pa pn pc) (G:=fun b => (Value.slice pa pn pc).ownBlock = some b) HNO.out (grown_of_below HB14.out) (nats_own HP4.out fun b h => h)
    (fun b hb => ⟨by have := (ownsRow_cells HP4.out hb).1; have := HT.out; have := B2.out.size; omega,ownsRow_lt HP4.out hb⟩) (by have := HT.out; omega) hg5 (by rw [HRS.out]; exact hown5) (fun g hg => by
     simp only [Value.ownBlock,Option.some.injEq] at hg
     subst hg
     rcases hat5 with h | h
     ·exact .inl h
     ·exact .inr (by rw [h]; exact Nat.le_refl _))
   have hb5 : Below B w w5:=(HBW.out.trans (HB14.out.mono (by have := HT.out; omega))).grown hg5 (by simp; omega) (fun r hr => (HOWN5.out.low hr))
   have HNO5 : Hid (NO B w5 (.slice (some ⟨g1,0,none⟩) (rs.length + 1) cap1) ((l.take (i + 1)).map cellsS) (vs ++ [.slice pa pn pc]) _):=Lib.hid (by rw [HTK.out]; exact hno5)
   exact ⟨⟨i + 1,_,_,by omega,by go_num,HNO5.out,hb5⟩,by simp [intOf]; omega⟩
  ·obtain rfl : i = n:=by omega
   have htk : l.take i = l:=List.take_of_length_le (by rw [HN.out]; exact Nat.le_refl _)
   have hno:=HNO.out
   rw [htk] at hno
   have HNO2:=Lib.hid hno
   have hbw:=HBW.out
   clear hno HNO HBW htk
   go_wp2_with fail
   go_ret
   exact ⟨_,vs,F,rfl,HNO2.out,hbw⟩
end Go.Proofs.YtlidpghnlloinaaGreatDoor
namespace Go.Proofs
open Go.Shelf
def Tryz.lays108_ren : Go.Shelf.Ren:=⟨fun | 108 => 63 | n => n,fun | 28 => 56 | 3 => 3 | 0 => 0 | 4 => 4 | n => n,fun | n => n⟩
theorem Tryz.lays108 : Go.Proofs.Lays.n108 Tryz.prog Tryz.lays108_ren:={
 mixed:=by kernel_rfl
 f108:=Tryz.func63.trans (congrArg some (by kernel_rfl))
 t0:=Tryz.underlying0
 a0:=Tryz.isAgg0
 z0:=Tryz.sizeOf0
 v0:=Tryz.zeroValue0
 t3:=Tryz.underlying3
 a3:=Tryz.isAgg3
 z3:=Tryz.sizeOf3
 v3:=Tryz.zeroValue3
 t4:=Tryz.underlying4
 a4:=Tryz.isAgg4
 z4:=Tryz.sizeOf4
 v4:=Tryz.zeroValue4
 t28:=Tryz.underlying56
 a28:=Tryz.isAgg56
 z28:=Tryz.sizeOf56
 v28:=Tryz.zeroValue56 }
open Go.Lib in
theorem Tryz.slices_Index_int (b off n c : Nat) (zs : List Int) (x : Int) (w : World) (hz : n <= zs.length) (hbig : n <= 9223372036854775807) (hc : ∀ j,j < zs.length -> w.cell? ⟨b,off + j,none⟩ = some (.int .i64 (zs.getD j 0))) :
  Calls Tryz.prog 63 #[.slice (some ⟨b,off,none⟩) n c,.int .i64 x] w fun e w' => e = .returned (.int .i64 (Lib.idxOf (zs.take n) x)) /\ w' = w:=Any.slices_Index_int Tryz.lays108 b off n c zs x w hz hbig hc
def Tryz.lays107_ren : Go.Shelf.Ren:=⟨fun | 107 => 119 | 108 => 63 | n => n,fun | 28 => 56 | 3 => 3 | 4 => 4 | 0 => 0 | n => n,fun | n => n⟩
theorem Tryz.lays107 : Go.Proofs.Lays.n107 Tryz.prog Tryz.lays107_ren:={
 mixed:=by kernel_rfl
 f107:=Tryz.func119.trans (congrArg some (by kernel_rfl))
 f108:=Tryz.func63.trans (congrArg some (by kernel_rfl))
 t0:=Tryz.underlying0
 a0:=Tryz.isAgg0
 z0:=Tryz.sizeOf0
 v0:=Tryz.zeroValue0
 t3:=Tryz.underlying3
 a3:=Tryz.isAgg3
 z3:=Tryz.sizeOf3
 v3:=Tryz.zeroValue3
 t4:=Tryz.underlying4
 a4:=Tryz.isAgg4
 z4:=Tryz.sizeOf4
 v4:=Tryz.zeroValue4
 t28:=Tryz.underlying56
 a28:=Tryz.isAgg56
 z28:=Tryz.sizeOf56
 v28:=Tryz.zeroValue56 }
open Go.Lib in
theorem Tryz.slices_Contains_int (b off n c : Nat) (zs : List Int) (x : Int) (w : World) (hz : n <= zs.length) (hbig : n <= 9223372036854775807) (hc : ∀ j,j < zs.length -> w.cell? ⟨b,off + j,none⟩ = some (.int .i64 (zs.getD j 0))) :
  Calls Tryz.prog 119 #[.slice (some ⟨b,off,none⟩) n c,.int .i64 x] w fun e w' => e = .returned (.bool ((zs.take n).contains x)) /\ w' = w:=Any.slices_Contains_int Tryz.lays107 b off n c zs x w hz hbig hc
def Tryz.laysNm215_ren : Go.Shelf.Ren:=⟨fun | 15 => 64 | n => n,fun | 22 => 56 | 3 => 3 | 4 => 4 | n => n,fun | n => n⟩
theorem Tryz.laysNm215 : Go.Proofs.Lays2.n15 Tryz.prog Tryz.laysNm215_ren:={
 mixed:=by kernel_rfl
 f15:=Tryz.func64.trans (congrArg some (by kernel_rfl))
 t3:=Tryz.underlying3
 a3:=Tryz.isAgg3
 z3:=Tryz.sizeOf3
 v3:=Tryz.zeroValue3
 t4:=Tryz.underlying4
 a4:=Tryz.isAgg4
 z4:=Tryz.sizeOf4
 v4:=Tryz.zeroValue4
 t22:=Tryz.underlying56
 a22:=Tryz.isAgg56
 z22:=Tryz.sizeOf56
 v22:=Tryz.zeroValue56
 i3:=by kernel_rfl }
open Go.RowKit Go.Lib in
theorem Tryz.slices_Clone_int (b off n c : Nat) (zs : List Int) (w : World) (hz : n <= zs.length) (hbig : n * 8 <= 140737488355328) (hc : ∀ j,j < zs.length -> w.cell? ⟨b,off + j,none⟩ = some (.int .i64 (zs.getD j 0))) :
  Calls Tryz.prog 64 #[.slice (some ⟨b,off,none⟩) n c] w fun e w' => ∃ v',e = .returned v' /\ w'.ownsRow w.heap.size 3 1 v' n ((zs.take n).map (Value.int .i64)) /\ v' ≠ .slice none 0 0 /\ Below w.heap.size w w':=Any.slices_Clone_int Tryz.laysNm215 b off n c zs w hz hbig hc
open Go.RowKit Go.Lib in
theorem Tryz.slices_Clone_int_nil (n c : Nat) (w : World) :
  Calls Tryz.prog 64 #[.slice none n c] w fun e w' => e = .returned (.slice none 0 0) /\ w' = w:=Any.slices_Clone_int_nil Tryz.laysNm215 n c w
open Go.RowKit Go.Lib in
theorem Tryz.slices_Clone_int_zero (a : Addr) (c : Nat) (w : World) :
  Calls Tryz.prog 64 #[.slice (some a) 0 c] w fun e w' => ∃ v',e = .returned v' /\ w'.ownsRow w.heap.size 3 1 v' 0 [] /\ v' ≠ .slice none 0 0 /\ Below w.heap.size w w':=Any.slices_Clone_int_zero Tryz.laysNm215 a c w
def Tryz.laysNm220_ren : Go.Shelf.Ren:=⟨fun | 20 => 109 | n => n,fun | 22 => 56 | 3 => 3 | 4 => 4 | 0 => 0 | n => n,fun | n => n⟩
theorem Tryz.laysNm220 : Go.Proofs.Lays2.n20 Tryz.prog Tryz.laysNm220_ren:={
 mixed:=by kernel_rfl
 f20:=Tryz.func109.trans (congrArg some (by kernel_rfl))
 t0:=Tryz.underlying0
 a0:=Tryz.isAgg0
 z0:=Tryz.sizeOf0
 v0:=Tryz.zeroValue0
 t3:=Tryz.underlying3
 a3:=Tryz.isAgg3
 z3:=Tryz.sizeOf3
 v3:=Tryz.zeroValue3
 t4:=Tryz.underlying4
 a4:=Tryz.isAgg4
 z4:=Tryz.sizeOf4
 v4:=Tryz.zeroValue4
 t22:=Tryz.underlying56
 a22:=Tryz.isAgg56
 z22:=Tryz.sizeOf56
 v22:=Tryz.zeroValue56
 i3:=by kernel_rfl }
open Go.RowKit Go.Lib Go.Sort in
theorem Tryz.slices_Compact_int_cells (b off n c : Nat) (zs : List Int) (w : World) (hz : n <= zs.length) (hbig : n <= 9223372036854775807) (hcap : n <= c) (hc : ∀ j,j < zs.length -> w.cell? ⟨b,off + j,none⟩ = some (.int .i64 (zs.getD j 0))) (hf : ∀ j,j < n -> w.frozen? ⟨b,off + j,none⟩ = false) :
  Calls Tryz.prog 109 #[.slice (some ⟨b,off,none⟩) n c] w fun e w' => e = .returned (.slice (some ⟨b,off,none⟩) (Lib.compact (zs.take n)).length c) /\ ∃ q,w' = (w.drewN q).setCells b off ((Lib.compact (zs.take n) ++ List.replicate (n - (Lib.compact (zs.take n)).length) 0).map (Value.int .i64)):=Any.slices_Compact_int_cells Tryz.laysNm220 b off n c zs w hz hbig hcap hc hf
end Go.Proofs
namespace Go.Proofs.YtlidpghnlloinaaGreatDoor
open Go.RowKit
set_option linter.unusedVariables false
theorem getD_cast (l : List Nat) (j : Nat) : (l.map fun n : Nat => (n : Int)).getD j 0 = ((l[j]?.getD 0 : Nat) : Int):=by
 rw [List.getD_eq_getElem?_getD,List.getElem?_map]
 cases l[j]? <;> rfl
theorem nats_cells {K : Nat} {w : World} {v : Value} {l : List Nat} (h : Nats K w v l) (h0 : 0 < l.length) : ∃ b o c,v = .slice (some ⟨b,o,none⟩) l.length c /\ ∀ j,j < (l.map fun n : Nat => (n : Int)).length -> w.cell? ⟨b,o + j,none⟩ = some (.int .i64 ((l.map fun n : Nat => (n : Int)).getD j 0)):=by
 obtain ⟨b,o,c,he,_,_,_,hc⟩:=Nats.pos h h0
 exact ⟨b,o,c,he,fun j hj => by rw [getD_cast]; exact hc j (by simpa using hj)⟩
theorem nats_len {K : Nat} {w : World} {v : Value} {l : List Nat} (h : Nats K w v l) : l.length <= 9223372036854775807:=by
 obtain ⟨_,c,_,h1,h2⟩:=h.form
 unfold maxLen at h2; omega
theorem idx_cast {l : List Nat} {c : Nat} (hc : c ∈ l) : Lib.idxOf (l.map fun n : Nat => (n : Int)) (c : Int) = ((l.idxOf c : Nat) : Int):=by
 have hi:=List.idxOf_lt_length_of_mem hc
 have := Lib.idxFrom_hit (c : Int) (l.map fun n : Nat => (n : Int)) (l.idxOf c) 0 (by simpa using hi) (by rw [getD_cast,idxOf_lt_mem hi]; rfl) (fun j hj e => by
  rw [getD_cast] at e
  have hjl : j < l.length:=by omega
  rw [List.getElem?_eq_getElem hjl,Option.getD_some] at e
  have e2 : l[j] = c:=by omega
  have := List.not_of_lt_findIdx (p:=(· == c)) (xs:=l) (i:=j) hj
  simp [e2] at this)
 rw [Nat.zero_add] at this
 exact this
theorem sindex_any (K : Nat) (v : Value) (l : List Nat) (c : Nat) (w : World) (h : Nats K w v l) (hc : c ∈ l) : Calls Tryz.prog 63 #[v,.int .i64 c] w fun e w' => e = .returned (.int .i64 (l.idxOf c)) /\ w' = w:=by
 obtain ⟨b,o,cap,rfl,hcl⟩:=nats_cells h (List.length_pos_of_mem hc)
 have hlen : (l.map fun n : Nat => (n : Int)).length = l.length:=List.length_map ..
 have := Tryz.slices_Index_int b o l.length cap (l.map fun n : Nat => (n : Int)) (c : Int) w (by rw [hlen]; exact Nat.le_refl _) (nats_len h) hcl
 rwa [List.take_of_length_le (by rw [hlen]; exact Nat.le_refl _),idx_cast hc] at this
theorem scontains_any (K : Nat) (v : Value) (l : List Nat) (c : Nat) (w : World) (h : Nats K w v l) (hc : c ∈ l) : Calls Tryz.prog 119 #[v,.int .i64 c] w fun e w' => e = .returned (.bool true) /\ w' = w:=by
 obtain ⟨b,o,cap,rfl,hcl⟩:=nats_cells h (List.length_pos_of_mem hc)
 have hlen : (l.map fun n : Nat => (n : Int)).length = l.length:=List.length_map ..
 have := Tryz.slices_Contains_int b o l.length cap (l.map fun n : Nat => (n : Int)) (c : Int) w (by rw [hlen]; exact Nat.le_refl _) (nats_len h) hcl
 rwa [List.take_of_length_le (by rw [hlen]; exact Nat.le_refl _),List.contains_iff_mem.2 (List.mem_map.2 ⟨c,hc,rfl⟩)] at this
theorem sclone_any (K : Nat) (v : Value) (l : List Nat) (w : World) (h : Nats K w v l) (hl : l.length <= 2 ^ 40) : Calls Tryz.prog 64 #[v] w fun e w' => ∃ v',e = .returned v' /\ OwnN w.heap.size w' v' l /\ Below w.heap.size w w':=by
 by_cases h0 : 0 < l.length
 ·obtain ⟨b,o,cap,rfl,hcl⟩:=nats_cells h h0
  have hlen : (l.map fun n : Nat => (n : Int)).length = l.length:=List.length_map ..
  refine (Tryz.slices_Clone_int b o l.length cap (l.map fun n : Nat => (n : Int)) w (by rw [hlen]; exact Nat.le_refl _) (by omega) hcl).mono ?_
  rintro e w' ⟨v',rfl,ho,_,hb⟩
  rw [List.take_of_length_le (by rw [hlen]; exact Nat.le_refl _),List.map_map] at ho
  exact ⟨v',rfl,ho,hb⟩
 ·have hl0 : l = []:=List.eq_nil_of_length_eq_zero (by omega)
  subst hl0
  obtain ⟨a,c,rfl,_,_⟩:=h.form
  cases a with
  | none =>
   refine (Tryz.slices_Clone_int_nil 0 c w).mono ?_
   rintro e w' ⟨rfl,rfl⟩
   exact ⟨_,rfl,World.ownsRow_nil _ _ _ _,Below.refl _ _⟩
  | some a =>
   refine (Tryz.slices_Clone_int_zero a c w).mono ?_
   rintro e w' ⟨v',rfl,ho,_,hb⟩
   exact ⟨v',rfl,ho,hb⟩
end Go.Proofs.YtlidpghnlloinaaGreatDoor
