/- Contracts and plain laws, several texts in one (DCond, DBld, DIdxF). No conditions beyond those stated. -/
import Derived.Test.YtlidpghnlloinaaGreatDoorPk19
set_option maxRecDepth 100000
set_option maxHeartbeats 40000000
namespace Go.Proofs.YtlidpghnlloinaaGreatDoor
set_option linter.unusedVariables false
def tstOk (e : Gx) (s : Sc) : Bool:=(cellsS s).all fun c => (holdsS e [s] [(c : Int)]).2 == 0
def tstIx (l : List Sc) (e : Gx) : Nat:=l.findIdx (tstOk e)
def evT (l : List Sc) (cs : List Nat) (e : Gx) : Bool :=
 if tstIx l e < l.length then (holdsS e [l[tstIx l e]?.getD default] [((cs[tstIx l e]?.getD 0 : Nat) : Int)]).1 else false
mutual
def evG (l : List Sc) (cs : List Nat) : Gx -> Bool
 | .mk o n v es => if (holdsS (.mk o n v es) [] []).2 = 0 then (holdsS (.mk o n v es) [] []).1 else if (Gx.mk o n v es).composed then combG o (fun k => (evL l cs es)[k]?.getD false) else evT l cs (.mk o n v es)
def evL (l : List Sc) (cs : List Nat) : List Gx -> List Bool
 | [] => []
 | e :: r => evG l cs e :: evL l cs r
end
theorem evL_map (l : List Sc) (cs : List Nat) (es : List Gx) : evL l cs es = es.map (evG l cs):=by
 induction es with
 | nil => rw [evL]; rfl
 | cons e r ih => rw [evL,ih]; rfl
theorem evG_eq (l : List Sc) (cs : List Nat) (e : Gx) : evG l cs e = if (holdsS e [] []).2 = 0 then (holdsS e [] []).1 else if e.composed then combG e.op (fun k => (e.args.map (evG l cs))[k]?.getD false) else evT l cs e:=by
 cases e with
 | mk o n v es => rw [evG,evL_map]; rfl
theorem holds_none {e : Gx} (hf : fits e = true) : holdsS e [] [] = if (holdG [] [] e).2 = false then (false,2) else ((holdG [] [] e).1,0):=by
 unfold holdsS
 rw [if_neg (by rw [hf]; simp),if_neg (by simp)]
theorem holdG_nil {e : Gx} (he : Md e) (h : (holdG [] [] e).2 = true) (l : List Sc) (cs : List Int) : holdG l cs e = holdG [] [] e:=by
 induction he with
 | tru => rw [holdG_eq,holdG_eq,truG_settled,if_pos rfl,if_pos rfl]
 | sub k hk => rw [holdG_eq,sub_settled,sub_composed,if_neg (by simp),if_neg (by simp)] at h; simp [testC] at h
 | tst x n hk hn => rw [holdG_eq,tst_settled,tst_composed,if_neg (by simp),if_neg (by simp)] at h; simp [testC] at h
 | no a ha ih =>
  rw [holdG_eq,if_neg (by simp [Gx.settled,Gx.op]),if_pos (by simp [Gx.composed,Gx.op,Gx.args])] at h
  have h : (holdG [] [] a).2 = true:=by simpa [Gx.args] using h
  rw [holdG_eq,holdG_eq,if_neg (by simp [Gx.settled,Gx.op]),if_pos (by simp [Gx.composed,Gx.op,Gx.args]),if_neg (by simp [Gx.settled,Gx.op]),if_pos (by simp [Gx.composed,Gx.op,Gx.args])]
  simp [combG,argH,Gx.op,Gx.args,ih h]
 | two o a b ho ha hb i1 i2 =>
  have hc : (Gx.mk o [] v0 [a,b]).composed = true:=by rcases ho with rfl | rfl <;> simp [Gx.composed,Gx.op,Gx.args]
  have hs : ¬ (Gx.mk o [] v0 [a,b]).settled = true:=by rcases ho with rfl | rfl <;> simp [Gx.settled,Gx.op]
  rw [holdG_eq,if_neg hs,if_pos hc] at h
  have h' : (holdG [] [] a).2 = true /\ (holdG [] [] b).2 = true:=by simpa [Gx.args] using h
  have e1:=i1 h'.1
  have e2:=i2 h'.2
  rw [holdG_eq,holdG_eq,if_neg hs,if_pos hc,if_neg hs,if_pos hc]
  rcases ho with rfl | rfl <;> simp [combG,argH,Gx.op,Gx.args,e1,e2]
 | ite a b c ha hb hc i1 i2 i3 =>
  rw [holdG_eq,if_neg (by simp [Gx.settled,Gx.op]),if_pos (by simp [Gx.composed,Gx.op,Gx.args])] at h
  have h : (holdG [] [] a).2 = true /\ (holdG [] [] b).2 = true /\ (holdG [] [] c).2 = true:=by simpa [Gx.args] using h
  rw [holdG_eq,holdG_eq,if_neg (by simp [Gx.settled,Gx.op]),if_pos (by simp [Gx.composed,Gx.op,Gx.args]),if_neg (by simp [Gx.settled,Gx.op]),if_pos (by simp [Gx.composed,Gx.op,Gx.args])]
  simp [combG,argH,Gx.op,Gx.args,i1 h.1,i2 h.2.1,i3 h.2.2]
theorem cellB_one {s : Sc} (hs : ScM s) (hf : s.kd ≠ 0 -> s.cuts ≠ []) {c : Nat} (hc : c ∈ cellsS s) : cellB [s] [(c : Int)] 0 = true:=by
 have hok:=okB_M hs hf
 unfold cellsS at hc
 rw [if_pos hok] at hc
 have hlt : c < cntN s.kd s.cuts.length:=by
  unfold possL at hc
  exact List.mem_range.1 (List.mem_filter.1 hc).1
 unfold cellB
 show (s.okB && decide (0 <= (c : Int)) && decide ((c : Int) < cntN s.kd s.cuts.length)) = true
 rw [hok]
 simp only [Bool.true_and,Bool.and_eq_true,decide_eq_true_eq]
 omega
theorem holds_one {s : Sc} (hs : ScM s) (hf : s.kd ≠ 0 -> s.cuts ≠ []) {c : Nat} (hc : c ∈ cellsS s) {e : Gx} (hfit : fits e = true) : holdsS e [s] [(c : Int)] = if (holdG [s] [(c : Int)] e).2 = false then (false,2) else ((holdG [s] [(c : Int)] e).1,0):=by
 unfold holdsS
 rw [if_neg (by rw [hfit]; simp),if_neg]
 intro ha
 obtain ⟨i,hi,hb⟩:=List.any_eq_true.1 ha
 have : i = 0:=by have := List.mem_range.1 hi; simp at this; omega
 subst this
 rw [cellB_one hs hf hc] at hb
 cases hb
theorem cells_ne {s : Sc} (hs : ScM s) (hf : s.kd ≠ 0 -> s.cuts ≠ []) : cellsS s ≠ []:=fun h => by
 have := cells_two hs hf
 rw [h] at this
 simp at this
theorem test_ok {l : List Sc} (hl : LM l) (hf : Full l) {e : Gx} (hfit : fits e = true) (hst : e.settled = false) (hco : e.composed = false) (ht : TqM (testOf e)) (h : Has l (testOf e)) {s : Sc} (hs : s ∈ l) :
  tstOk e s = (testOf e).belongs s /\ ((testOf e).belongs s = true -> ∀ c ∈ cellsS s,holdsS e [s] [(c : Int)] = ((testH (testOf e) s c).1,0)):=by
 have hsM:=hl.each s hs
 have hg : ∀ c : Nat,holdG [s] [(c : Int)] e = testC [s] [(c : Int)] e:=fun c => by rw [holdG_eq,hst,hco,if_neg (by simp),if_neg (by simp)]
 by_cases hb : (testOf e).belongs s = true
 ·obtain ⟨s',hi,hlt,hb',hfn⟩:=has_fnd hl ht h
  have hss : s = s':=by
   have e1:=(belongs_iff.1 hb).2
   have e2:=(belongs_iff.1 hb').2
   obtain ⟨j,hj,rfl⟩:=List.getElem_of_mem hs
   obtain ⟨hlt2,e3⟩:=List.getElem?_eq_some_iff.1 hi
   have hp:=List.pairwise_iff_getElem.1 hl.nodup
   rcases Nat.lt_trichotomy j (l.findIdx (testOf e).belongs) with h | h | h
   ·exact absurd (by rw [List.getElem_map,List.getElem_map,e3,<- e1,<- e2]) (hp _ _ (by simpa using hj) (by simpa using hlt2) h)
   ·rw [<- e3]; simp [h]
   ·exact absurd (by rw [List.getElem_map,List.getElem_map,e3,<- e1,<- e2]) (hp _ _ (by simpa using hlt2) (by simpa using hj) h)
  subst hss
  have hT : ∀ c : Nat,testC [s] [(c : Int)] e = testH (testOf e) s c:=fun c => by
   unfold testC
   have : [s].findIdx (testOf e).belongs = 0:=by simp [List.findIdx_cons,hb]
   rw [this,if_pos (by simp)]; rfl
  have hok : ∀ c : Int,(testH (testOf e) s c).2 = true:=fun c => by
   unfold testH
   split
   ·rfl
   ·rename_i h0
    rw [if_neg (by rw [hfn h0]; simp)]
    split
    ·rfl
    ·split <;> rfl
  have hh : ∀ c ∈ cellsS s,holdsS e [s] [(c : Int)] = ((testH (testOf e) s c).1,0):=fun c hc => by
   rw [holds_one hsM (hf s hs) hc hfit,hg,hT,if_neg (by rw [hok]; simp)]
  refine ⟨?_,fun _ => hh⟩
  rw [hb]
  unfold tstOk
  rw [List.all_eq_true]
  intro c hc
  rw [hh c hc]; rfl
 ·refine ⟨?_,fun h => absurd h hb⟩
  have hb' : (testOf e).belongs s = false:=by simpa using hb
  rw [hb']
  unfold tstOk
  rw [List.all_eq_false]
  obtain ⟨c,hc⟩:=List.exists_mem_of_ne_nil _ (cells_ne hsM (hf s hs))
  refine ⟨c,hc,?_⟩
  have hT : testC [s] [(c : Int)] e = (false,false):=by
   unfold testC
   rw [if_neg (by simp [List.findIdx_cons,hb'])]
  rw [holds_one hsM (hf s hs) hc hfit,hg,hT]
  simp
theorem findIdx_congr' {α : Type} {p q : α -> Bool} : ∀ (l : List α),(∀ a ∈ l,p a = q a) -> l.findIdx p = l.findIdx q
 | [],_ => rfl
 | a :: l,h => by
  rw [List.findIdx_cons,List.findIdx_cons,h a (List.mem_cons_self ..),findIdx_congr' l fun x hx => h x (List.mem_cons_of_mem _ hx)]
theorem evT_ok {l : List Sc} (hl : LM l) (hf : Full l) {e : Gx} (hfit : fits e = true) (hst : e.settled = false) (hco : e.composed = false) (ht : TqM (testOf e)) (h : Has l (testOf e)) {cs : List Nat} (hcs : CellsIn (l.map cellsS) cs) :
  tstIx l e < l.length /\ evT l cs e = (testC l (cs.map fun c : Nat => (c : Int)) e).1:=by
 obtain ⟨s,hi,hlt,hb,_⟩:=has_fnd hl ht h
 have hix : tstIx l e = l.findIdx (testOf e).belongs:=findIdx_congr' l fun s hs => (test_ok hl hf hfit hst hco ht h hs).1
 refine ⟨by rw [hix]; exact hlt,?_⟩
 have hsm:=List.mem_of_getElem? hi
 unfold evT testC
 rw [hix,if_pos hlt,if_pos hlt,hi,Option.getD_some]
 have hlc : l.findIdx (testOf e).belongs < cs.length:=by rw [hcs.1,List.length_map]; exact hlt
 obtain ⟨p,hp,hc⟩:=hcs.2 _ _ (List.getElem?_eq_getElem hlc)
 rw [List.getElem?_map,hi] at hp
 cases hp
 rw [List.getElem?_map,List.getElem?_eq_getElem hlc]
 simp only [Option.getD_some,Option.map_some]
 rw [(test_ok hl hf hfit hst hco ht h hsm).2 hb _ hc]
theorem fits_arg {o : Int} {nm : Str} {v : Vq} {es : List Gx} {a : Gx} (h : fits (.mk o nm v es) = true) (ha : a ∈ es) : fits a = true:=by
 have hp : ∀ (es : List Gx),a ∈ es -> a.parts <= partsL es /\ a.depth <= depthL es:=by
  intro es
  induction es with
  | nil => intro h; cases h
  | cons b r ih =>
   intro h
   simp only [partsL,depthL]
   rcases List.mem_cons.1 h with rfl | h
   ·omega
   ·have := ih h; omega
 have := hp es ha
 unfold fits at h ⊢
 rw [Bool.and_eq_true,decide_eq_true_eq,decide_eq_true_eq] at h ⊢
 simp only [Gx.parts,Gx.depth] at h
 omega
theorem evG_set {l : List Sc} {cs : List Nat} {e : Gx} (hfit : fits e = true) (h : (holdG [] [] e).2 = true) : evG l cs e = (holdG [] [] e).1:=by
 have e1 : holdsS e [] [] = ((holdG [] [] e).1,0):=by rw [holds_none hfit,if_neg (by rw [h]; simp)]
 rw [evG_eq,e1,if_pos rfl]
theorem evG_not {l : List Sc} {cs : List Nat} {e : Gx} (hfit : fits e = true) (h : ¬ (holdG [] [] e).2 = true) : evG l cs e = if e.composed then combG e.op (fun k => (e.args.map (evG l cs))[k]?.getD false) else evT l cs e:=by
 have e1 : holdsS e [] [] = (false,2):=by rw [holds_none hfit,if_pos (by simpa using h)]
 rw [evG_eq,e1,if_neg (by simp)]
theorem evG_M {l : List Sc} (hl : LM l) (hf : Full l) {cs : List Nat} (hcs : CellsIn (l.map cellsS) cs) {e : Gx} (he : Md e) (hfit : fits e = true) (h : ∀ t ∈ e.tests,Has l (testOf t)) :
  evG l cs e = (holdG l (cs.map fun c : Nat => (c : Int)) e).1:=by
 have htq:=md_tests he
 have hnil : ∀ {e : Gx},Md e -> fits e = true -> (holdG [] [] e).2 = true -> evG l cs e = (holdG l (cs.map fun c : Nat => (c : Int)) e).1:=fun {e} he hfit h2 => by
  rw [evG_set hfit h2,holdG_nil he h2 l (cs.map fun c : Nat => (c : Int))]
 induction he with
 | tru => exact hnil .tru hfit (by rw [holdG_eq,truG_settled,if_pos rfl])
 | sub k hk =>
  rw [tests_mkM,sub_settled,sub_composed] at h htq
  have h2 : (holdG [] [] (subG k)).2 = false:=by rw [holdG_eq,sub_settled,sub_composed,if_neg (by simp),if_neg (by simp)]; simp [testC]
  rw [evG_not hfit (by rw [h2]; simp),sub_composed,if_neg (by simp),(evT_ok hl hf hfit (sub_settled k) (sub_composed k) (htq _ (by simp)) (h _ (by simp)) hcs).2,holdG_eq,sub_settled,sub_composed,if_neg (by simp),if_neg (by simp)]
 | tst x n hk hn =>
  rw [tests_mkM,tst_settled,tst_composed] at h htq
  have h2 : (holdG [] [] (tstG x n)).2 = false:=by rw [holdG_eq,tst_settled,tst_composed,if_neg (by simp),if_neg (by simp)]; simp [testC]
  rw [evG_not hfit (by rw [h2]; simp),tst_composed,if_neg (by simp),(evT_ok hl hf hfit (tst_settled x n) (tst_composed x n) (htq _ (by simp)) (h _ (by simp)) hcs).2,holdG_eq,tst_settled,tst_composed,if_neg (by simp),if_neg (by simp)]
 | no a ha ih =>
  by_cases h2 : (holdG [] [] (.mk 17 [] v0 [a])).2 = true
  ·exact hnil (.no a ha) hfit h2
  ·rw [no_testsE] at h htq
   have e1:=ih (fits_arg hfit (by simp)) h htq
   rw [evG_not hfit h2,if_pos (by simp [Gx.composed,Gx.op,Gx.args]),holdG_eq,if_neg (by simp [Gx.settled,Gx.op]),if_pos (by simp [Gx.composed,Gx.op,Gx.args])]
   simp [combG,argH,Gx.op,Gx.args,e1]
 | two o a b ho ha hb i1 i2 =>
  by_cases h2 : (holdG [] [] (.mk o [] v0 [a,b])).2 = true
  ·exact hnil (.two o a b ho ha hb) hfit h2
  ·have hc : (Gx.mk o [] v0 [a,b]).composed = true:=by rcases ho with rfl | rfl <;> simp [Gx.composed,Gx.op,Gx.args]
   have hs : ¬ (Gx.mk o [] v0 [a,b]).settled = true:=by rcases ho with rfl | rfl <;> simp [Gx.settled,Gx.op]
   rw [tests_mkM,if_neg hs,if_pos hc] at h htq
   simp only [Gx.args,testsL,List.append_nil,List.mem_append] at h htq
   have e1:=i1 (fits_arg hfit (by simp)) (fun t ht => h t (.inl ht)) (fun t ht => htq t (.inl ht))
   have e2:=i2 (fits_arg hfit (by simp)) (fun t ht => h t (.inr ht)) (fun t ht => htq t (.inr ht))
   rw [evG_not hfit h2,if_pos hc,holdG_eq,if_neg hs,if_pos hc]
   rcases ho with rfl | rfl <;> simp [combG,argH,Gx.op,Gx.args,e1,e2]
 | ite a b c ha hb hc i1 i2 i3 =>
  by_cases h2 : (holdG [] [] (.mk 18 [] v0 [a,b,c])).2 = true
  ·exact hnil (.ite a b c ha hb hc) hfit h2
  ·rw [tests_mkM,if_neg (by simp [Gx.settled,Gx.op]),if_pos (by simp [Gx.composed,Gx.op,Gx.args])] at h htq
   simp only [Gx.args,testsL,List.append_nil,List.mem_append] at h htq
   have e1:=i1 (fits_arg hfit (by simp)) (fun t ht => h t (.inl ht)) (fun t ht => htq t (.inl ht))
   have e2:=i2 (fits_arg hfit (by simp)) (fun t ht => h t (.inr (.inl ht))) (fun t ht => htq t (.inr (.inl ht)))
   have e3:=i3 (fits_arg hfit (by simp)) (fun t ht => h t (.inr (.inr ht))) (fun t ht => htq t (.inr (.inr ht)))
   rw [evG_not hfit h2,if_pos (by simp [Gx.composed,Gx.op,Gx.args]),holdG_eq,if_neg (by simp [Gx.settled,Gx.op]),if_pos (by simp [Gx.composed,Gx.op,Gx.args])]
   simp [combG,argH,Gx.op,Gx.args,e1,e2,e3]
def lfS (l : List Sc) (es : List Gx) (cs : List Nat) : List Nat:=(List.range es.length).filter fun i => evG l cs (es[i]?.getD default)
def pcs (l : List Sc) : List (List Nat):=l.map cellsS
open Go.RowKit
theorem OwnI.ints {base : Nat} {w : World} {v : Value} {l : List Int} (h : OwnI base w v l) : IntsX w.heap.size w v l :=
 (ownsRow_rows h (by simp)).congr fun i hi j _ => by simp [hi]
theorem ints_own {base : Nat} {w : World} {v : Value} {l : List Int} (h : OwnI base w v l) {F : Nat -> Prop} (hF : ∀ b,v.ownBlock = some b -> F b) : Zed F w fun K W => IntsX K W v l:=by
 intro W K ha hK
 obtain ⟨h1,h2⟩:=ownsRow_zed h hF W K ha hK
 have hn:=OwnI.ints (show OwnI base W v l from h2)
 obtain ⟨a,cap,hv,h3,h4,h5,h6⟩:=hn
 refine ⟨a,cap,hv,h3,h4,h5,fun i hi => ?_⟩
 obtain ⟨b,o,rfl,hb,hc⟩:=h6 i hi
 refine ⟨b,o,rfl,?_,hc⟩
 rcases h1 with ⟨h1,h0⟩ | ⟨g,hg,hgK⟩
 ·omega
 ·rw [hv] at hg
  simp only [Value.ownBlock,Option.some.injEq] at hg
  omega
theorem IntsX.form {K : Nat} {w : World} {v : Value} {l : List Int} (h : IntsX K w v l) : ∃ a c,v = .slice a l.length c /\ l.length <= c /\ c <= maxLen:=RowsV.form h
theorem RO.add2 {α : Type} {c T : Nat} {row : α -> Value -> List Value} {R : α -> Value -> Nat -> World -> Prop} {base : Nat} {w w5 : World} {v v' u : Value} {L : List α} {vs : List Value} {F G : Nat -> Prop} {a : α}
  (h : RO c T row R base w v L vs F) (hz : Zed G w (R a u)) (hG : ∀ b,G b -> base <= b /\ b < w.heap.size /\ v.ownBlock ≠ some b)
  (hg : w.grownBy w5 v.ownBlock) (hown : OwnR c T base w5 v' (List.zipWith row L vs ++ [row a u])) (hat : ∀ g,v'.ownBlock = some g -> v.ownBlock = some g \/ w.heap.size <= g) :
  RO c T row R base w5 v' (L ++ [a]) (vs ++ [u]) (fun b => F b \/ G b):=by
 have hsz:=hg.size
 have hFw : Agr F w w5:=Agr.of fun b hb => hg.block b (h.rng b hb).2 fun e => h.nv b hb e.symm
 have hGw : Agr G w w5:=Agr.of fun b hb => hg.block b (hG b hb).2.1 fun e => (hG b hb).2.2 e.symm
 refine ⟨by simp [h.len],by rw [zipWith_snoc row L vs a u h.len.symm]; exact hown,fun b hb => ?_,fun b hb e => ?_,fun i a' u' h1 h2 => ?_⟩
 ·rcases hb with hb | hb
  ·have := h.rng b hb; omega
  ·have := hG b hb; omega
 ·rcases hat b e with h1 | h1
  ·rcases hb with hb | hb
   ·exact h.nv b hb h1
   ·exact (hG b hb).2.2 h1
  ·rcases hb with hb | hb
   ·have := (h.rng b hb).2; omega
   ·have := (hG b hb).2.1; omega
 ·by_cases hil : i < L.length
  ·rw [List.getElem?_append_left hil] at h1
   rw [List.getElem?_append_left (by rw [h.len]; exact hil)] at h2
   exact ((h.dat i a' u' h1 h2).move hFw).mono fun b hb => .inl hb
  ·have hi1 : i < (L ++ [a]).length:=(List.getElem?_eq_some_iff.1 h1).1
   have : i = L.length:=by simp at hi1; omega
   subst this
   rw [List.getElem?_append_right (Nat.le_refl _),Nat.sub_self] at h1
   rw [List.getElem?_append_right (by rw [h.len]; exact Nat.le_refl _),h.len,Nat.sub_self] at h2
   cases h1; cases h2
   exact (hz.move hGw).mono fun b hb => .inr hb
abbrev ndRow (x : Nat × List Int) (u : Value) : List Value:=[Z x.1,u]
abbrev DO:=@RO (Nat × List Int) 2 65 ndRow (fun x u K W => IntsX K W u x.2)
theorem DO.read {base : Nat} {w : World} {v : Value} {L : List (Nat × List Int)} {vs : List Value} {F : Nat -> Prop} (h : DO base w v L vs F) : NdX w.heap.size w v L:=by
 refine ⟨fun i => vs[i]?.getD undef,h.rows.congr fun i hi j hj => ?_,fun i hi => ?_⟩
 ·have hv : vs[i]? = some (vs[i]'(by rw [h.len]; exact hi)):=List.getElem?_eq_getElem _
  rw [zip_at (row:=ndRow) (List.getElem?_eq_getElem hi) hv,List.getElem?_eq_getElem hi]
  match j,hj with
  | 0,_ => rfl
  | 1,_ => show vs[i]'(by rw [h.len]; exact hi) = vs[i]?.getD undef; rw [hv]; rfl
 ·have hv : vs[i]? = some (vs[i]'(by rw [h.len]; exact hi)):=List.getElem?_eq_getElem _
  have := h.get (List.getElem?_eq_getElem hi) hv
  show IntsX _ _ (vs[i]?.getD undef) (L[i]?.getD (0,[])).2
  rw [hv,List.getElem?_eq_getElem hi]
  exact this
def CondR (P : List Nat -> Prop) (p : List Nat -> Bool) (u : Value) (K : Nat) (W : World) : Prop :=
 ∃ (g : Nat) (caps : Array Value),u = .func (.func g) #[] caps /\ (∀ args W',(callFunc g args).run Tryz.prog W' = .ok (.enter g args) W') ∧
  ∀ (W' : World) (v : Value) (cs : List Nat),Below K W W' -> K <= W'.heap.size -> Nats W'.heap.size W' v cs -> P cs -> Calls Tryz.prog g (#[v] ++ caps) W' fun e W'' => e = .returned (.bool (p cs)) /\ Below W'.heap.size W' W''
theorem CondR.one {P : List Nat -> Prop} {p : List Nat -> Bool} {u : Value} {K : Nat} {W : World} (h : CondR P p u K W) : u.oneCell' = true:=by obtain ⟨g,caps,rfl,_⟩:=h; rfl
structure Bn where
 bb : Nat
 cb : Nat
 nm : Nat
 lm : Nat
 B : Nat
 T : Nat
 sv : Sl
 cv : Sl
 pv : Sl
 fv : Nat -> Value
 gv : Nat -> Value
 F : Nat -> Prop
structure BnOk (x : Bn) : Prop where
 l1 : x.B <= x.bb
 l2 : x.B <= x.cb
 l3 : x.B <= x.nm
 l4 : x.B <= x.lm
 u1 : x.bb < x.T
 u2 : x.cb < x.T
 u3 : x.nm < x.T
 u4 : x.lm < x.T
 n1 : x.bb ≠ x.cb
 n2 : x.bb ≠ x.nm
 n3 : x.bb ≠ x.lm
 n4 : x.cb ≠ x.nm
 n5 : x.cb ≠ x.lm
 n6 : x.nm ≠ x.lm
abbrev nmF (l : List (Nat × List Int)) : Str -> Option Value:=fun s => (atKey keyD l s).map Z
abbrev lmF (l : List (List Nat)) : Str -> Option Value:=fun s => (atKey keyF l s).map Z
structure Dy where
 nv : Sl
 lv : Sl
 ns : List Value
 ls : List Value
 F1 : Nat -> Prop
 F2 : Nat -> Prop
abbrev Bn.cells (x : Bn) (nv lv : Sl) : Array Value:=#[x.sv.val,nv.val,lv.val,.int .i64 0,x.cv.val,x.pv.val,.slice (some ⟨x.cb,0,none⟩) x.sv.n x.sv.n,.map (some x.nm),.map (some x.lm)]
def StR (x : Bn) (scs : List Sc) (es : List Gx) (K : Nat) (W : World) : Prop :=
 RowsV 1 (fun i _ => x.fv i) K W x.cv.val es.length /\ (∀ i,i < es.length -> CondR (CellsIn (pcs scs)) (fun cs => evG scs cs (es[i]?.getD default)) (x.fv i) K W) ∧
  RowsV 1 (fun i _ => x.gv i) K W x.pv.val (pcs scs).length /\ ∀ i,i < (pcs scs).length -> Nats K W (x.gv i) ((pcs scs)[i]?.getD [])
structure BI (x : Bn) (scs : List Sc) (es : List Gx) (d : Dy) (st sm : DSt) (cur : List Nat) (w : World) : Prop where
 blk : Blk w x.bb (x.cells d.nv d.lv) 111
 nds : DO x.T w d.nv.val st.nds d.ns d.F1
 lvs : NO x.T w d.lv.val st.lvs d.ls d.F2
 nmap : MapIs w 9 x.nm sm.nds.length (fS (nmF sm.nds))
 lmap : MapIs w 9 x.lm sm.lvs.length (fS (lmF sm.lvs))
 cells : Blk w x.cb (cur.map Z).toArray 3
 len : cur.length = x.sv.n
 scl : scs.length = x.sv.n
 f1 : ∀ b,d.F1 b -> d.lv.val.ownBlock ≠ some b
 f2 : ∀ b,d.F2 b -> d.nv.val.ownBlock ≠ some b
 big : x.T <= w.heap.size
 sta : Zed x.F w (StR x scs es)
 stl : ∀ b,x.F b -> b < x.T /\ b ≠ x.bb /\ b ≠ x.cb /\ b ≠ x.nm /\ b ≠ x.lm
structure Fr (x : Bn) (d d' : Dy) (w w' : World) : Prop where
 bel : Below x.B w w'
 keep : ∀ b,b < w.heap.size -> b ≠ x.bb -> b ≠ x.cb -> b ≠ x.nm -> b ≠ x.lm -> d.nv.val.ownBlock ≠ some b -> d.lv.val.ownBlock ≠ some b -> w'.heap[b]? = w.heap[b]?
 nat : ∀ g,d'.nv.val.ownBlock = some g -> d.nv.val.ownBlock = some g \/ w.heap.size <= g
 lat : ∀ g,d'.lv.val.ownBlock = some g -> d.lv.val.ownBlock = some g \/ w.heap.size <= g
 f1 : ∀ g,d'.F1 g -> d.F1 g \/ w.heap.size <= g
 f2 : ∀ g,d'.F2 g -> d.F2 g \/ w.heap.size <= g
theorem Fr.trans {x : Bn} {d d' d'' : Dy} {w w' w'' : World} (h : Fr x d d' w w') (h' : Fr x d' d'' w' w'') : Fr x d d'' w w'':=by
 have hs:=h.bel.size
 have key : ∀ {p q r : Nat -> Prop},(∀ g,q g -> p g \/ w.heap.size <= g) -> (∀ g,r g -> q g \/ w'.heap.size <= g) -> ∀ g,r g -> p g \/ w.heap.size <= g:=fun h1 h2 g hg => by
  rcases h2 g hg with h3 | h3
  ·exact h1 g h3
  ·exact .inr (by omega)
 refine ⟨h.bel.trans h'.bel,fun b hb b1 b2 b3 b4 b5 b6 => (h'.keep b (by omega) b1 b2 b3 b4 (fun e => ?_) (fun e => ?_)).trans (h.keep b hb b1 b2 b3 b4 b5 b6),key h.nat h'.nat,key h.lat h'.lat,key h.f1 h'.f1,key h.f2 h'.f2⟩
 ·rcases h.nat b e with h1 | h1
  ·exact b5 h1
  ·omega
 ·rcases h.lat b e with h1 | h1
  ·exact b6 h1
  ·omega
theorem Fr.old {x : Bn} {d : Dy} {w w' : World} (hb : Below w.heap.size w w') (hB : x.B <= w.heap.size) : Fr x d d w w' :=
 ⟨hb.mono hB,fun b hl _ _ _ _ _ _ => hb.block b hl,fun g h => .inl h,fun g h => .inl h,fun g h => .inl h,fun g h => .inl h⟩
section
variable {x : Bn} {scs : List Sc} {es : List Gx} {d : Dy} {st sm : DSt} {cur : List Nat} {w w' : World}
theorem BI.nlow (h : BI x scs es d st sm cur w) {g : Nat} (hg : d.nv.val.ownBlock = some g) : x.T <= g /\ g < w.heap.size:=⟨h.nds.own.low hg,h.nds.own.lt hg⟩
theorem BI.llow (h : BI x scs es d st sm cur w) {g : Nat} (hg : d.lv.val.ownBlock = some g) : x.T <= g /\ g < w.heap.size:=⟨h.lvs.own.low hg,h.lvs.own.lt hg⟩
theorem BI.apart (h : BI x scs es d st sm cur w) {g : Nat} (hg : d.nv.val.ownBlock = some g) : d.lv.val.ownBlock ≠ some g:=rows_apart h.nds.own h.lvs.own (by decide) hg
theorem BI.old (h : BI x scs es d st sm cur w) (hb : Below w.heap.size w w') (ok : BnOk x) : BI x scs es d st sm cur w' where
 blk:=h.blk.below hb h.blk.lt
 nds:=h.nds.old hb (Nat.le_refl _)
 lvs:=h.lvs.old hb (Nat.le_refl _)
 nmap:=h.nmap.below hb h.nmap.lt
 lmap:=h.lmap.below hb h.lmap.lt
 cells:=h.cells.below hb h.cells.lt
 len:=h.len
 scl:=h.scl
 f1:=h.f1
 f2:=h.f2
 big:=Nat.le_trans h.big hb.size
 sta:=h.sta.move (agr_below hb fun b hF => by have := (h.stl b hF).1; have := h.big; omega)
 stl:=h.stl
theorem BI.fr_old (h : BI x scs es d st sm cur w) (ok : BnOk x) (hb : Below w.heap.size w w') : Fr x d d w w':=Fr.old hb (by have := ok.l1; have := ok.u1; have := h.big; omega)
theorem BI.get (h : BI x scs es d st sm cur w) : StR x scs es w.heap.size w:=h.sta.get fun b hb => by have := (h.stl b hb).1; have := h.big; omega
theorem BI.setCur (h : BI x scs es d st sm cur w) (ok : BnOk x) (i c : Nat) : BI x scs es d st sm (cur.set i c) (w.setCell ⟨x.cb,i,none⟩ (Z c)) where
 blk:=h.blk.other ok.n1 _
 nds:=h.nds.kept (grownBy_setCell w x.cb i _) (fun b e hF => by cases e; have := (h.nds.rng _ hF).1; have := ok.u2; omega) (fun b e hv => by cases e; have := (h.nlow hv).1; have := ok.u2; omega)
 lvs:=h.lvs.kept (grownBy_setCell w x.cb i _) (fun b e hF => by cases e; have := (h.lvs.rng _ hF).1; have := ok.u2; omega) (fun b e hv => by cases e; have := (h.llow hv).1; have := ok.u2; omega)
 nmap:=h.nmap.kept (grownBy_setCell w x.cb i _) (by simpa using ok.n4.symm)
 lmap:=h.lmap.kept (grownBy_setCell w x.cb i _) (by simpa using ok.n5.symm)
 cells:=by
  have := h.cells.set (i:=i) (Z c)
  rw [List.map_set]
  rwa [<- List.setIfInBounds_toArray] at *
 len:=by rw [List.length_set]; exact h.len
 scl:=h.scl
 f1:=h.f1
 f2:=h.f2
 big:=by have := h.big; simpa [World.setCell] using this
 sta:=h.sta.move (Agr.of fun b hF => Below.heap_setCell _ _ _ _ (h.stl b hF).2.2.1)
 stl:=h.stl
theorem BI.fr_cur (h : BI x scs es d st sm cur w) (ok : BnOk x) (i c : Nat) : Fr x d d w (w.setCell ⟨x.cb,i,none⟩ (Z c)) :=
 ⟨(Below.refl _ _).setCell (p:=⟨x.cb,i,none⟩) ok.l2 _,fun b hl _ h2 _ _ _ _ => Below.heap_setCell _ _ _ _ h2,fun g h => .inl h,fun g h => .inl h,fun g h => .inl h,fun g h => .inl h⟩
theorem BI.putL (h : BI x scs es d st sm cur w) (ok : BnOk x) {l' : List (List Nat)} (hg : w.grownBy w' (some x.lm)) (hm : MapIs w' 9 x.lm l'.length (fS (lmF l'))) : BI x scs es d st ⟨sm.nds,l'⟩ cur w' where
 blk:=h.blk.kept hg (by simpa using ok.n3)
 nds:=h.nds.kept hg (fun b e hF => by cases e; have := (h.nds.rng _ hF).1; have := ok.u4; omega) (fun b e hv => by cases e; have := (h.nlow hv).1; have := ok.u4; omega)
 lvs:=h.lvs.kept hg (fun b e hF => by cases e; have := (h.lvs.rng _ hF).1; have := ok.u4; omega) (fun b e hv => by cases e; have := (h.llow hv).1; have := ok.u4; omega)
 nmap:=h.nmap.kept hg (by simpa using ok.n6)
 lmap:=hm
 cells:=h.cells.kept hg (by simpa using ok.n5)
 len:=h.len
 scl:=h.scl
 f1:=h.f1
 f2:=h.f2
 big:=Nat.le_trans h.big hg.size
 sta:=h.sta.move (Agr.of fun b hF => hg.block b (by have := (h.stl b hF).1; have := h.big; omega) fun e => (h.stl b hF).2.2.2.2 (by simpa using e))
 stl:=h.stl
theorem BI.putN (h : BI x scs es d st sm cur w) (ok : BnOk x) {n' : List (Nat × List Int)} (hg : w.grownBy w' (some x.nm)) (hm : MapIs w' 9 x.nm n'.length (fS (nmF n'))) : BI x scs es d st ⟨n',sm.lvs⟩ cur w' where
 blk:=h.blk.kept hg (by simpa using ok.n2)
 nds:=h.nds.kept hg (fun b e hF => by cases e; have := (h.nds.rng _ hF).1; have := ok.u3; omega) (fun b e hv => by cases e; have := (h.nlow hv).1; have := ok.u3; omega)
 lvs:=h.lvs.kept hg (fun b e hF => by cases e; have := (h.lvs.rng _ hF).1; have := ok.u3; omega) (fun b e hv => by cases e; have := (h.llow hv).1; have := ok.u3; omega)
 nmap:=hm
 lmap:=h.lmap.kept hg (by simpa using ok.n6.symm)
 cells:=h.cells.kept hg (by simpa using ok.n4)
 len:=h.len
 scl:=h.scl
 f1:=h.f1
 f2:=h.f2
 big:=Nat.le_trans h.big hg.size
 sta:=h.sta.move (Agr.of fun b hF => hg.block b (by have := (h.stl b hF).1; have := h.big; omega) fun e => (h.stl b hF).2.2.2.1 (by simpa using e))
 stl:=h.stl
theorem BI.fr_put (h : BI x scs es d st sm cur w) (ok : BnOk x) {r : Nat} (hr : r = x.nm \/ r = x.lm) (hg : w.grownBy w' (some r)) : Fr x d d w w' :=
 ⟨below_grown hg (fun k e => by cases e; have := ok.l3; have := ok.l4; omega) (by have := ok.l1; have := ok.u1; have := h.big; omega),fun b hl _ _ h3 h4 _ _ => hg.block b hl fun e => by simp only [Option.some.injEq] at e; omega,fun g h => .inl h,fun g h => .inl h,fun g h => .inl h,fun g h => .inl h⟩
theorem BI.other (h : BI x scs es d st sm cur w) (ok : BnOk x) {row : Option Nat} (hg : w.grownBy w' row) (hr : ∀ g,row = some g -> x.T <= g /\ d.nv.val.ownBlock ≠ some g /\ d.lv.val.ownBlock ≠ some g /\ ¬ d.F1 g /\ ¬ d.F2 g) : BI x scs es d st sm cur w' where
 blk:=h.blk.kept hg (fun e => by have := (hr _ e.symm).1; have := ok.u1; omega)
 nds:=h.nds.kept hg (fun b e => (hr b e).2.2.2.1) (fun b e => (hr b e).2.1)
 lvs:=h.lvs.kept hg (fun b e => (hr b e).2.2.2.2) (fun b e => (hr b e).2.2.1)
 nmap:=h.nmap.kept hg (fun e => by have := (hr _ e.symm).1; have := ok.u3; omega)
 lmap:=h.lmap.kept hg (fun e => by have := (hr _ e.symm).1; have := ok.u4; omega)
 cells:=h.cells.kept hg (fun e => by have := (hr _ e.symm).1; have := ok.u2; omega)
 len:=h.len
 scl:=h.scl
 f1:=h.f1
 f2:=h.f2
 big:=Nat.le_trans h.big hg.size
 sta:=h.sta.move (Agr.of fun b hF => hg.block b (by have := (h.stl b hF).1; have := h.big; omega) fun e => by have := (hr _ e.symm).1; have := (h.stl b hF).1; omega)
 stl:=h.stl
theorem BI.pushL (h : BI x scs es d st sm cur w) (ok : BnOk x) {d0 : Dy} {w0 : World} (hfr : Fr x d0 d w0 w) {l : List Nat} {u : Value} {G : Nat -> Prop} {g n cap : Nat} (hz : Zed G w fun K W => Nats K W u l) (hG0 : ∀ b,G b -> w0.heap.size <= b) (hG : ∀ b,G b -> x.T <= b /\ b < w.heap.size /\ d.lv.val.ownBlock ≠ some b /\ d.nv.val.ownBlock ≠ some b)
  (hg : w.grownBy w' d.lv.val.ownBlock) (hown : OwnR 1 56 x.T w' (.slice (some ⟨g,0,none⟩) n cap) (List.zipWith (fun (_ : List Nat) (u : Value) => [u]) st.lvs d.ls ++ [[u]])) (hat : d.lv.val.ownBlock = some g \/ g = w.heap.size) :
  BI x scs es { d with lv:=⟨some ⟨g,0,none⟩,n,cap⟩,ls:=d.ls ++ [u],F2:=fun b => d.F2 b \/ G b } ⟨st.nds,st.lvs ++ [l]⟩ sm cur (w'.setCell ⟨x.bb,2,none⟩ (.slice (some ⟨g,0,none⟩) n cap)) ∧
  Fr x d0 { d with lv:=⟨some ⟨g,0,none⟩,n,cap⟩,ls:=d.ls ++ [u],F2:=fun b => d.F2 b \/ G b } w0 (w'.setCell ⟨x.bb,2,none⟩ (.slice (some ⟨g,0,none⟩) n cap)):=by
 have hnr : ∀ b,b < x.T -> some b ≠ d.lv.val.ownBlock:=fun b hb e => by have := (h.llow e.symm).1; omega
 have hgT : x.T <= g:=by
  rcases hat with e | e
  ·exact (h.llow e).1
  ·have := h.big; omega
 have hs:=hg.size
 have hown2:=RO.add2 (a:=l) (u:=u) h.lvs hz (fun b hb => ⟨(hG b hb).1,(hG b hb).2.1,(hG b hb).2.2.1⟩) hg hown (fun q hq => by
  simp only [Value.ownBlock,Option.some.injEq] at hq
  subst hq
  rcases hat with e | e
  ·exact .inl e
  ·exact .inr (by omega))
 have hg2:=grownBy_setCell w' x.bb 2 (.slice (some ⟨g,0,none⟩) n cap)
 have hnn : ∀ b,b < w.heap.size -> d.lv.val.ownBlock ≠ some b -> b ≠ x.bb -> (w'.setCell ⟨x.bb,2,none⟩ (.slice (some ⟨g,0,none⟩) n cap)).heap[b]? = w.heap[b]? := fun b hb h1 h2 => (Below.heap_setCell _ _ _ _ h2).trans (hg.block b hb fun e => h1 e.symm)
 refine ⟨{ h with
  blk:=?_
  nds:=?_
  lvs:=?_
  nmap:=(h.nmap.kept hg (hnr _ ok.u3)).kept hg2 (by simpa using ok.n2.symm)
  lmap:=(h.lmap.kept hg (hnr _ ok.u4)).kept hg2 (by simpa using ok.n3.symm)
  cells:=(h.cells.kept hg (hnr _ ok.u2)).other ok.n1.symm _
  f1:=?_
  f2:=?_
  big:=Nat.le_trans h.big (Nat.le_trans hs hg2.size)
  sta:=?_ },?_⟩
 ·exact (h.blk.kept hg (hnr _ ok.u1)).set (i:=2) _
 ·refine h.nds.move (Agr.of fun b hb => hnn b (h.nds.rng b hb).2 (h.f1 b hb) (by have := (h.nds.rng b hb).1; have := ok.u1; omega)) (fun q hq => hnn q (h.nlow hq).2 (h.apart hq) (by have := (h.nlow hq).1; have := ok.u1; omega)) (Nat.le_trans hs hg2.size)
 ·exact hown2.kept hg2 (fun b e hF => by cases e; have := (hown2.rng _ hF).1; have := ok.u1; omega) (fun b e hv => by cases e; have := hown2.own.low hv; have := ok.u1; omega)
 ·intro b hb e
  have e : g = b:=by simpa [Value.ownBlock] using e
  subst e
  rcases hat with e | e
  ·exact h.f1 _ hb e
  ·have := (h.nds.rng _ hb).2; omega
 ·intro b hb
  rcases hb with hb | hb
  ·exact h.f2 b hb
  ·exact (hG b hb).2.2.2
 ·exact h.sta.move (Agr.of fun b hF => hnn b (by have := (h.stl b hF).1; have := h.big; omega) (fun e => by have := (h.stl b hF).1; have := (h.llow e).1; omega) (h.stl b hF).2.1)
 ·have hs0:=hfr.bel.size
  have hat' : ∀ q,(Value.slice (some ⟨g,0,none⟩) n cap).ownBlock = some q -> d0.lv.val.ownBlock = some q \/ w0.heap.size <= q:=fun q hq => by
   have hq : g = q:=by simpa [Value.ownBlock] using hq
   subst hq
   rcases hat with e | e
   ·exact hfr.lat _ e
   ·exact .inr (by omega)
  have hF' : ∀ q,d.F2 q \/ G q -> d0.F2 q \/ w0.heap.size <= q:=fun q hq => by
   rcases hq with hq | hq
   ·exact hfr.f2 q hq
   ·exact .inr (hG0 q hq)
  refine ⟨hfr.bel.trans ((below_grown hg (fun k e => by have := (h.llow e).1; have := ok.l1; have := ok.u1; omega) (by have := ok.l1; have := ok.u1; have := h.big; omega)).setCell (p:=⟨x.bb,2,none⟩) ok.l1 _),fun b hl h1 h2 h3 h4 h5 h6 => (hnn b (by omega) (fun e => ?_) h1).trans (hfr.keep b hl h1 h2 h3 h4 h5 h6),hfr.nat,hat',hfr.f1,hF'⟩
  rcases hfr.lat b e with h7 | h7
  ·exact h6 h7
  ·omega
theorem BI.pushN (h : BI x scs es d st sm cur w) (ok : BnOk x) {d0 : Dy} {w0 : World} (hfr : Fr x d0 d w0 w) {z : Nat × List Int} {u : Value} {G : Nat -> Prop} {g n cap : Nat} (hz : Zed G w fun K W => IntsX K W u z.2) (hG0 : ∀ b,G b -> w0.heap.size <= b) (hG : ∀ b,G b -> x.T <= b /\ b < w.heap.size /\ d.nv.val.ownBlock ≠ some b /\ d.lv.val.ownBlock ≠ some b)
  (hg : w.grownBy w' d.nv.val.ownBlock) (hown : OwnR 2 65 x.T w' (.slice (some ⟨g,0,none⟩) n cap) (List.zipWith ndRow st.nds d.ns ++ [ndRow z u])) (hat : d.nv.val.ownBlock = some g \/ g = w.heap.size) :
  BI x scs es { d with nv:=⟨some ⟨g,0,none⟩,n,cap⟩,ns:=d.ns ++ [u],F1:=fun b => d.F1 b \/ G b } ⟨st.nds ++ [z],st.lvs⟩ sm cur (w'.setCell ⟨x.bb,1,none⟩ (.slice (some ⟨g,0,none⟩) n cap)) ∧
  Fr x d0 { d with nv:=⟨some ⟨g,0,none⟩,n,cap⟩,ns:=d.ns ++ [u],F1:=fun b => d.F1 b \/ G b } w0 (w'.setCell ⟨x.bb,1,none⟩ (.slice (some ⟨g,0,none⟩) n cap)):=by
 have hnr : ∀ b,b < x.T -> some b ≠ d.nv.val.ownBlock:=fun b hb e => by have := (h.nlow e.symm).1; omega
 have hs:=hg.size
 have hown2:=RO.add2 (a:=z) (u:=u) h.nds hz (fun b hb => ⟨(hG b hb).1,(hG b hb).2.1,(hG b hb).2.2.1⟩) hg hown (fun q hq => by
  simp only [Value.ownBlock,Option.some.injEq] at hq
  subst hq
  rcases hat with e | e
  ·exact .inl e
  ·exact .inr (by omega))
 have hg2:=grownBy_setCell w' x.bb 1 (.slice (some ⟨g,0,none⟩) n cap)
 have hnn : ∀ b,b < w.heap.size -> d.nv.val.ownBlock ≠ some b -> b ≠ x.bb -> (w'.setCell ⟨x.bb,1,none⟩ (.slice (some ⟨g,0,none⟩) n cap)).heap[b]? = w.heap[b]? := fun b hb h1 h2 => (Below.heap_setCell _ _ _ _ h2).trans (hg.block b hb fun e => h1 e.symm)
 refine ⟨{ h with
  blk:=?_
  nds:=?_
  lvs:=?_
  nmap:=(h.nmap.kept hg (hnr _ ok.u3)).kept hg2 (by simpa using ok.n2.symm)
  lmap:=(h.lmap.kept hg (hnr _ ok.u4)).kept hg2 (by simpa using ok.n3.symm)
  cells:=(h.cells.kept hg (hnr _ ok.u2)).other ok.n1.symm _
  f1:=?_
  f2:=?_
  big:=Nat.le_trans h.big (Nat.le_trans hs hg2.size)
  sta:=?_ },?_⟩
 ·exact (h.blk.kept hg (hnr _ ok.u1)).set (i:=1) _
 ·exact hown2.kept hg2 (fun b e hF => by cases e; have := (hown2.rng _ hF).1; have := ok.u1; omega) (fun b e hv => by cases e; have := hown2.own.low hv; have := ok.u1; omega)
 ·refine h.lvs.move (Agr.of fun b hb => hnn b (h.lvs.rng b hb).2 (h.f2 b hb) (by have := (h.lvs.rng b hb).1; have := ok.u1; omega)) (fun q hq => hnn q (h.llow hq).2 (fun e => h.apart e hq) (by have := (h.llow hq).1; have := ok.u1; omega)) (Nat.le_trans hs hg2.size)
 ·intro b hb
  rcases hb with hb | hb
  ·exact h.f1 b hb
  ·exact (hG b hb).2.2.2
 ·intro b hb e
  have e : g = b:=by simpa [Value.ownBlock] using e
  subst e
  rcases hat with e | e
  ·exact h.f2 _ hb e
  ·have := (h.lvs.rng _ hb).2; omega
 ·exact h.sta.move (Agr.of fun b hF => hnn b (by have := (h.stl b hF).1; have := h.big; omega) (fun e => by have := (h.stl b hF).1; have := (h.nlow e).1; omega) (h.stl b hF).2.1)
 ·have hs0:=hfr.bel.size
  have hat' : ∀ q,(Value.slice (some ⟨g,0,none⟩) n cap).ownBlock = some q -> d0.nv.val.ownBlock = some q \/ w0.heap.size <= q:=fun q hq => by
   have hq : g = q:=by simpa [Value.ownBlock] using hq
   subst hq
   rcases hat with e | e
   ·exact hfr.nat _ e
   ·exact .inr (by omega)
  have hF' : ∀ q,d.F1 q \/ G q -> d0.F1 q \/ w0.heap.size <= q:=fun q hq => by
   rcases hq with hq | hq
   ·exact hfr.f1 q hq
   ·exact .inr (hG0 q hq)
  refine ⟨hfr.bel.trans ((below_grown hg (fun k e => by have := (h.nlow e).1; have := ok.l1; have := ok.u1; omega) (by have := ok.l1; have := ok.u1; have := h.big; omega)).setCell (p:=⟨x.bb,1,none⟩) ok.l1 _),fun b hl h1 h2 h3 h4 h5 h6 => (hnn b (by omega) (fun e => ?_) h1).trans (hfr.keep b hl h1 h2 h3 h4 h5 h6),hat',hfr.lat,hF',hfr.f2⟩
  rcases hfr.nat b e with h7 | h7
  ·exact h5 h7
  ·omega
end
theorem nmF_snoc {l : List (Nat × List Int)} {a : Nat × List Int} (h : ¬ l.idxOf a < l.length) : updF (nmF l) (keyD a) (Z l.length) = nmF (l ++ [a]):=by
 funext s
 unfold nmF updF
 rw [atKey_snoc (fun _ _ => keyD_inj) l a h s]
 by_cases e : s = keyD a
 ·subst e; simp
 ·simp [e]
theorem lmF_snoc {l : List (List Nat)} {a : List Nat} (h : ¬ l.idxOf a < l.length) : updF (lmF l) (keyF a) (Z l.length) = lmF (l ++ [a]):=by
 funext s
 unfold lmF updF
 rw [atKey_snoc (fun _ _ => keyF_inj) l a h s]
 by_cases e : s = keyF a
 ·subst e; simp
 ·simp [e]
theorem nmF_at {l : List (Nat × List Int)} {a : Nat × List Int} : nmF l (keyD a) = if l.idxOf a < l.length then some (Z (l.idxOf a)) else none:=by
 unfold nmF; rw [atKey_found (fun _ _ => keyD_inj)]; split <;> rfl
theorem lmF_at {l : List (List Nat)} {a : List Nat} : lmF l (keyF a) = if l.idxOf a < l.length then some (Z (l.idxOf a)) else none:=by
 unfold lmF; rw [atKey_found (fun _ _ => keyF_inj)]; split <;> rfl
theorem fS_str (g : Str -> Option Value) (s : Str) : fS g (.string s) = g s:=rfl
def idxP (p : Int -> Bool) (l : List Int) : Int:=if l.any p then (l.findIdx p : Int) else -1
theorem idxP_at {p : Int -> Bool} {l : List Int} {k : Nat} {t : Int} (ht : l[k]? = some t) (hp : p t = true) (h : ∀ x ∈ l.take k,p x = false) : idxP p l = (k : Int):=by
 obtain ⟨hk,hkt⟩:=List.getElem?_eq_some_iff.1 ht
 unfold idxP
 rw [if_pos (List.any_eq_true.2 ⟨t,List.mem_of_getElem? ht,hp⟩)]
 have : l.findIdx p = k:=by
  rw [List.findIdx_eq hk]
  refine ⟨by rw [hkt]; exact hp,fun j hj => ?_⟩
  exact h _ (List.mem_take_iff_getElem.2 ⟨j,by omega,rfl⟩)
 rw [this]
theorem idxP_no {p : Int -> Bool} {l : List Int} (h : ∀ x ∈ l,p x = false) : idxP p l = -1:=by
 unfold idxP
 rw [if_neg]
 intro ha
 obtain ⟨x,hx,hp⟩:=List.any_eq_true.1 ha
 rw [h x hx] at hp; cases hp
theorem idxP_ge (p : Int -> Bool) (l : List Int) : decide ((0 : Int) <= idxP p l) = l.any p:=by
 unfold idxP
 cases l.any p <;> simp
structure InvL (Inv : World -> Prop) (v : Value) (l : List Int) : Prop where
 form : ∃ a c,v = .slice a l.length c /\ l.length <= c /\ c <= maxLen
 cells : 0 < l.length -> ∃ b o c,v = .slice (some ⟨b,o,none⟩) l.length c /\ ∀ W,Inv W -> ∀ i,i < l.length -> W.cell? ⟨b,o + i,none⟩ = some (.int .i64 (l[i]?.getD 0))
theorem idxf_any (g : Nat) (caps : Array Value) (hg : ∀ args w,(callFunc g args).run Tryz.prog w = .ok (.enter g args) w) (l : List Int) (p : Int -> Bool) (v : Value) (Inv : World -> Prop) (hv : InvL Inv v l)
  (hcall : ∀ t ∈ l,∀ W,Inv W -> Calls Tryz.prog g (#[.int .i64 t] ++ caps) W fun e W' => e = .returned (.bool (p t)) /\ Inv W') (w : World) (h : Inv w) :
  Calls Tryz.prog 125 #[v,.func (.func g) #[] caps] w fun e w' => e = .returned (.int .i64 (idxP p l)) /\ Inv w':=by
 obtain ⟨a,c,rfl,hc1,hc2⟩:=hv.form
 unfold maxLen at hc2
 obtain ⟨n,hn⟩ : ∃ n,l.length = n:=⟨_,rfl⟩
 have HV:=Lib.hid hv
 rw [hn] at HV hc1 ⊢
 have HN:=Lib.hid hn
 have HC:=Lib.hid hcall
 have HH:=Lib.hid h
 obtain ⟨z,hz⟩ : ∃ z,idxP p l = z:=⟨_,rfl⟩
 have HZ:=Lib.hid hz
 rw [hz]
 clear hn hcall hv h hz
 go_enter Tryz.func125,Tryz.ntmps125
 go_wp2_with fail
 go_loopw [8] (fun i wr => ∃ k : Nat,k <= n /\ i = .int .i64 k /\ Hid (Inv wr) /\ Hid (∀ x ∈ l.take k,p x = false)) (fun i _ => n - (intOf i).toNat)
 case atStart => exact ⟨0,Nat.zero_le _,rfl,HH,Lib.hid fun x hx => by simp at hx⟩
 case round =>
  obtain ⟨k,hk,rfl,HI,HA⟩:=hrel
  by_cases hlt : k < n
  ·obtain ⟨b,o,c',he,hcl⟩:=HV.out.cells (by rw [HN.out]; omega)
   rw [HN.out] at he hcl
   simp only [Value.slice.injEq,true_and] at he
   obtain ⟨rfl,rfl⟩:=he
   obtain ⟨t,ht⟩ : ∃ t,l[k]? = some t:=⟨_,List.getElem?_eq_getElem (by rw [HN.out]; exact hlt)⟩
   have e0 : wr.cell? ⟨b,o + k,none⟩ = some (.int .i64 t):=by have := hcl wr HI.out k hlt; rw [ht] at this; exact this
   have hca:=HC.out t (List.mem_of_getElem? ht) wr HI.out
   obtain ⟨r,hr⟩ : ∃ r,p t = r:=⟨_,rfl⟩
   rw [hr] at hca
   have HCA:=Lib.hid hca
   have HT:=Lib.hid ht
   have HR:=Lib.hid hr
   clear hcl ht hca hr
   go_wp2_with fail
   refine HCA.out.mono ?_
   clear HCA
   rintro e w' ⟨rfl,hi'⟩
   have HI':=Lib.hid hi'
   clear hi'
   cases r with
   | true =>
    go_wp2_with fail
    go_ret
    exact ⟨by rw [show z = (k : Int) by rw [<- HZ.out]; exact idxP_at HT.out HR.out HA.out]; rfl,HI'.out⟩
   | false =>
    go_wp2_with fail
    refine ⟨⟨k + 1,by omega,by go_num,HI',Lib.hid fun x hx => ?_⟩,by simp [intOf]; omega⟩
    rw [take_snoc HT.out] at hx
    rcases List.mem_append.1 hx with hx | hx
    ·exact HA.out x hx
    ·rw [List.mem_singleton.1 hx]; exact HR.out
  ·obtain rfl : k = n:=by omega
   have hno : z = -1:=by
    rw [<- HZ.out]
    refine idxP_no fun x hx => HA.out x ?_
    rw [List.take_of_length_le (by rw [HN.out]; exact Nat.le_refl _)]; exact hx
   have HNO:=Lib.hid hno
   clear hno
   go_wp2_with fail
   go_ret
   exact ⟨by rw [HNO.out]; rfl,HI.out⟩
theorem contf_any (g : Nat) (caps : Array Value) (hg : ∀ args w,(callFunc g args).run Tryz.prog w = .ok (.enter g args) w) (l : List Int) (p : Int -> Bool) (v : Value) (Inv : World -> Prop) (hv : InvL Inv v l)
  (hcall : ∀ t ∈ l,∀ W,Inv W -> Calls Tryz.prog g (#[.int .i64 t] ++ caps) W fun e W' => e = .returned (.bool (p t)) /\ Inv W') (w : World) (h : Inv w) :
  Calls Tryz.prog 124 #[v,.func (.func g) #[] caps] w fun e w' => e = .returned (.bool (l.any p)) /\ Inv w':=by
 have hix:=idxf_any g caps hg l p v Inv hv hcall w h
 have he:=idxP_ge p l
 obtain ⟨z,hz⟩ : ∃ z,idxP p l = z:=⟨_,rfl⟩
 obtain ⟨r,hr⟩ : ∃ r,l.any p = r:=⟨_,rfl⟩
 rw [hz] at he hix
 rw [hr] at he ⊢
 have HIX:=Lib.hid hix
 obtain ⟨a,c,rfl,_,_⟩:=hv.form
 clear hv hcall h hz hr hix
 go_enter Tryz.func124,Tryz.ntmps124
 go_wp2_with fail
 refine HIX.out.mono ?_
 clear HIX
 rintro e w' ⟨rfl,hi⟩
 have HI:=Lib.hid hi
 clear hi
 go_wp2_with fail
 go_ret
 exact ⟨rfl,HI.out⟩
end Go.Proofs.YtlidpghnlloinaaGreatDoor
