/- Contracts and plain laws, several texts in one (GMadeT, GMadeU, GScaS, DSpec). No conditions beyond those stated. -/
import Derived.Test.YtlidpghnlloinaaGreatDoorPk15
set_option maxRecDepth 100000
set_option maxHeartbeats 40000000
namespace Go.Proofs.YtlidpghnlloinaaGreatDoor
open Go.RowKit
set_option linter.unusedVariables false
theorem subG_mod (k : Nat) : subG (k % 12) = subG k:=by unfold subG; rw [Nat.mod_mod]
theorem kindN_mod (k : Nat) : kindN (k % 12) = kindN k:=by unfold kindN; rw [Nat.mod_mod]
theorem subG_inj {k k' : Nat} (h : k < 12) (h' : k' < 12) (e : subG k = subG k') : k = k':=by
 unfold subG at e
 rw [Nat.mod_eq_of_lt h,Nat.mod_eq_of_lt h'] at e
 have e2 : UInt8.ofNat (48 + k) = UInt8.ofNat (48 + k'):=by injection e with _ e1; injection e1 with _ e1; injection e1
 have e3:=congrArg UInt8.toNat e2
 simp only [UInt8.toNat_ofNat'] at e3
 omega
def ScM (s : Sc) : Prop:=∃ k,k < 12 /\ s.e = subG k /\ ((kindN k = 1 /\ s.kd = 0 /\ s.cuts = []) \/ (kindN k ≠ 1 /\ s.kd = kindN k /\ CutsOk s.kd s.cuts /\ ∀ c ∈ s.cuts,∃ n,n < 8 /\ c = wV (kindN k) n))
def TqM (t : Tq) : Prop:=∃ k,k < 12 /\ t.sub = subG k /\ ((kindN k = 1 /\ t.kd = 0) \/ (kindN k ≠ 1 /\ t.kd = kindN k /\ ∃ n,n < 8 /\ t.cut = wV (kindN k) n))
structure LM (l : List Sc) : Prop where
 each : ∀ s ∈ l,ScM s
 nodup : (l.map (·.e)).Nodup
def Has (l : List Sc) (t : Tq) : Prop:=∃ (i : Nat) (s : Sc),l[i]? = some s /\ t.belongs s = true /\ (t.kd ≠ 0 -> ∃ c ∈ s.cuts,tw c = tw t.cut)
theorem belongs_iff {t : Tq} {s : Sc} : t.belongs s = true ↔ t.kd = s.kd /\ t.sub = s.e:=by
 unfold Tq.belongs
 rw [Bool.and_eq_true,beq_iff_eq,sameG_iff]
theorem belongs_sub {t : Tq} {s : Sc} (ht : TqM t) (hs : ScM s) (h : t.sub = s.e) : t.belongs s = true:=by
 obtain ⟨k,hk,e,h1⟩:=ht
 obtain ⟨k',hk',e',h2⟩:=hs
 have : k = k':=subG_inj hk hk' (by rw [<- e,<- e',h])
 subst this
 refine belongs_iff.2 ⟨?_,h⟩
 rcases h1 with h1 | h1 <;> rcases h2 with h2 | h2
 ·rw [h1.2,h2.2.1]
 ·exact absurd h1.1 h2.1
 ·exact absurd h2.1 h1.1
 ·rw [h1.2.1,h2.2.1]
theorem LM.len {l : List Sc} (h : LM l) : l.length <= 12:=by
 have := List.Nodup.length_le_of_subset h.nodup (l₂:=(List.range 12).map subG) (fun e he => by
  obtain ⟨s,hs,rfl⟩:=List.mem_map.1 he
  obtain ⟨k,hk,e,_⟩:=h.each s hs
  exact List.mem_map.2 ⟨k,List.mem_range.2 hk,e.symm⟩)
 simpa using this
theorem kind_cut {k : Nat} (h : kindN k ≠ 1) : 2 <= kindN k /\ kindN k <= 6:=by have := kindN_range k; omega
theorem cuts_len {k : Nat} {kd : Int} {l : List Vq} (hk : kindN k ≠ 1) (h : CutsOk kd l) (hc : ∀ c ∈ l,∃ n,n < 8 /\ c = wV (kindN k) n) : l.length <= 8:=by
 have hf : ∀ c ∈ l,Half c /\ ∃ n : Nat,n < 8 /\ tw c = 2 * n:=fun c hcl => by
  obtain ⟨n,hn,rfl⟩:=hc c hcl
  have := wV_facts (kindN k) n (kind_cut hk) hn
  exact ⟨this.2.2.2.1,n,hn,this.2.2.2.2⟩
 have hn : (l.map fun c => (tw c).toNat / 2).Nodup:=by
  rw [List.Nodup,List.pairwise_map]
  refine List.Pairwise.imp_of_mem ?_ h.inc
  intro a b ha hb hab e
  obtain ⟨ha1,n,hn,ea⟩:=hf a ha
  obtain ⟨hb1,m,hm,eb⟩:=hf b hb
  rw [vlt_tw ha1 hb1] at hab
  omega
 have := List.Nodup.length_le_of_subset hn (l₂:=List.range 8) (fun e he => by
  obtain ⟨c,hcl,rfl⟩:=List.mem_map.1 he
  obtain ⟨_,n,hn,ec⟩:=hf c hcl
  exact List.mem_range.2 (by omega))
 simpa using this
theorem insS_M {l : List Sc} {i : Nat} {s : Sc} {t : Tq} (h : ScM s) (ht : TqM t) (hi : l[i]? = some s) (hb : t.belongs s = true) :
  ∃ cuts,insS l i t = some (l.set i { s with cuts:=cuts }) /\ (∀ c ∈ s.cuts,c ∈ cuts) /\ ScM { s with cuts:=cuts } /\ (t.kd ≠ 0 -> ∃ c ∈ cuts,tw c = tw t.cut):=by
 have hd : l[i]?.getD default = s:=by rw [hi]; rfl
 obtain ⟨bk,bs⟩:=belongs_iff.1 hb
 unfold insS
 rw [hd]
 by_cases h0 : t.kd = 0
 ·rw [if_pos h0]
  refine ⟨s.cuts,?_,fun c hc => hc,h,fun hn => absurd h0 hn⟩
  congr 1
  symm
  obtain ⟨hlt,e⟩:=List.getElem?_eq_some_iff.1 hi
  have : s = l[i]:=e.symm
  show l.set i s = l
  rw [this,List.set_getElem_self]
 ·rw [if_neg h0]
  obtain ⟨k,hk,es,hs⟩:=h
  obtain ⟨k',hk',et,htt⟩:=ht
  have : k' = k:=subG_inj hk' hk (by rw [<- et,<- es,bs])
  subst this
  have h1 : kindN k' ≠ 1:=fun e => by
   rcases htt with h | h
   ·exact h0 h.2
   ·exact h.1 e
  obtain ⟨hs1,hs2,hs3,hs4⟩:=hs.resolve_left fun h => h1 h.1
  obtain ⟨ht1,ht2,n,hn,ht3⟩:=htt.resolve_left fun h => h1 h.1
  obtain ⟨w1,w2,w3,w4,w5⟩:=wV_facts (kindN k') n (kind_cut h1) hn
  rw [<- ht3] at w1 w2 w3 w4 w5
  have hlen:=cuts_len h1 hs3 hs4
  have hhalf : ∀ c ∈ s.cuts,Half c:=fun c hc => by
   obtain ⟨m,hm,rfl⟩:=hs4 c hc
   exact (wV_facts (kindN k') m (kind_cut h1) hm).2.2.2.1
  unfold insC
  by_cases hf : fnd s.cuts t.cut = true
  ·rw [if_pos hf]
   refine ⟨s.cuts,rfl,fun c hc => hc,⟨k',hk,es,.inr ⟨hs1,hs2,hs3,hs4⟩⟩,fun _ => ?_⟩
   unfold fnd at hf
   simp only [Bool.and_eq_true,decide_eq_true_eq] at hf
   obtain ⟨f1,f2⟩:=hf
   rw [veq_tw (getD_half hhalf f1) w4,decide_eq_true_eq,List.getElem?_eq_getElem f1] at f2
   exact ⟨_,List.getElem_mem f1,f2⟩
  ·have hf' : fnd s.cuts t.cut = false:=by simpa using hf
   rw [if_neg hf,if_neg (by omega)]
   refine ⟨_,rfl,fun c hc => ?_,⟨k',hk,es,.inr ⟨hs1,hs2,hs3.ins w3 w2 (by rw [w1,hs2]) hf',fun c hc => ?_⟩⟩,fun _ => ⟨t.cut,List.mem_append_right _ (List.mem_cons_self ..),rfl⟩⟩
   ·rw [<- List.take_append_drop (srch s.cuts t.cut) s.cuts] at hc
    rcases List.mem_append.1 hc with hc | hc
    ·exact List.mem_append_left _ hc
    ·exact List.mem_append_right _ (List.mem_cons_of_mem _ hc)
   ·rcases List.mem_append.1 hc with hc | hc
    ·exact hs4 c (List.mem_of_mem_take hc)
    ·rcases List.mem_cons.1 hc with rfl | hc
     ·exact ⟨n,hn,ht3⟩
     ·exact hs4 c (List.mem_of_mem_drop hc)
def Full (l : List Sc) : Prop:=∀ s ∈ l,s.kd ≠ 0 -> s.cuts ≠ []
theorem set_M {l : List Sc} {i : Nat} {s : Sc} {cuts : List Vq} (h : LM l) (hi : l[i]? = some s) (hs : ScM { s with cuts:=cuts }) : LM (l.set i { s with cuts:=cuts }):=by
 refine ⟨fun a ha => ?_,?_⟩
 ·rcases List.mem_or_eq_of_mem_set ha with ha | rfl
  ·exact h.each a ha
  ·exact hs
 ·rw [List.map_set]
  have : (l.map (·.e)).set i s.e = l.map (·.e):=by
   obtain ⟨hlt,e⟩:=List.getElem?_eq_some_iff.1 hi
   have e2 : (l.map (·.e))[i]'(by simpa using hlt) = s.e:=by rw [List.getElem_map,e]
   rw [<- e2,List.set_getElem_self]
  show ((l.map (·.e)).set i s.e).Nodup
  rw [this]; exact h.nodup
theorem set_has {l : List Sc} {i : Nat} {s : Sc} {cuts : List Vq} (hi : l[i]? = some s) (hc : ∀ c ∈ s.cuts,c ∈ cuts) {t : Tq} (h : Has l t) : Has (l.set i { s with cuts:=cuts }) t:=by
 obtain ⟨j,r,hj,hb,hr⟩:=h
 by_cases e : i = j
 ·subst e
  rw [hi] at hj
  obtain rfl:=Option.some.inj hj
  refine ⟨i,{ s with cuts:=cuts },?_,hb,fun h0 => ?_⟩
  ·rw [List.getElem?_set]; simp [(List.getElem?_eq_some_iff.1 hi).1]
  ·obtain ⟨c,h1,h2⟩:=hr h0
   exact ⟨c,hc c h1,h2⟩
 ·exact ⟨j,r,by rw [List.getElem?_set,if_neg e]; exact hj,hb,hr⟩
theorem addT_M {l : List Sc} {t : Tq} (h : LM l) (ht : TqM t) (hf : Full l) : ∃ l',addT l t = some l' /\ LM l' /\ Full l' /\ Has l' t /\ ∀ t',Has l t' -> Has l' t':=by
 have hlen:=h.len
 have fin : ∀ (l0 : List Sc) (i : Nat) (s : Sc),LM l0 -> l0[i]? = some s -> t.belongs s = true -> (∀ j r,l0[j]? = some r -> j ≠ i -> r.kd ≠ 0 -> r.cuts ≠ []) →
   ∃ l',insS l0 i t = some l' /\ LM l' /\ Full l' /\ Has l' t /\ ∀ t',Has l0 t' -> Has l' t':=by
  intro l0 i s h0 hi hb hfu
  obtain ⟨cuts,h1,h2,h3,h4⟩:=insS_M (h0.each s (List.mem_of_getElem? hi)) ht hi hb
  have hlt:=(List.getElem?_eq_some_iff.1 hi).1
  refine ⟨_,h1,set_M h0 hi h3,?_,⟨i,{ s with cuts:=cuts },by rw [List.getElem?_set]; simp [hlt],hb,h4⟩,fun t' h => set_has hi h2 h⟩
  intro r hr hk
  obtain ⟨j,hj⟩:=List.mem_iff_getElem?.1 hr
  rw [List.getElem?_set] at hj
  by_cases e : i = j
  ·rw [if_pos e,if_pos hlt] at hj
   obtain rfl:=Option.some.inj hj
   have hk' : t.kd ≠ 0:=by rw [(belongs_iff.1 hb).1]; exact hk
   obtain ⟨c,hc,_⟩:=h4 hk'
   exact fun e => by simp only at e; rw [e] at hc; cases hc
  ·rw [if_neg e] at hj
   exact hfu j r hj (fun e' => e e'.symm) hk
 unfold addT
 simp only
 by_cases hi : l.findIdx t.belongs < l.length
 ·rw [if_pos hi]
  have hb:=belongs_at hi
  have hg : l[l.findIdx t.belongs]? = some (l[l.findIdx t.belongs]?.getD default):=by rw [List.getElem?_eq_getElem hi]; rfl
  exact fin l _ _ h hg hb fun j r hj _ => hf r (List.mem_of_getElem? hj)
 ·rw [if_neg hi,if_neg (by omega)]
  have hnew : ScM ⟨t.sub,t.kd,[]⟩:=by
   obtain ⟨k,hk,e,h1⟩:=ht
   refine ⟨k,hk,e,?_⟩
   rcases h1 with h1 | h1
   ·exact .inl ⟨h1.1,h1.2,rfl⟩
   ·exact .inr ⟨h1.1,h1.2.1,CutsOk.nil _,fun c hc => by cases hc⟩
  have hno : t.sub ∉ l.map (·.e):=fun hm => by
   obtain ⟨s,hs,e⟩:=List.mem_map.1 hm
   have := belongs_sub ht (h.each s hs) e.symm
   exact hi (List.findIdx_lt_length_of_exists ⟨s,hs,this⟩)
  have hl : LM (l ++ [⟨t.sub,t.kd,[]⟩]):=by
   refine ⟨fun s hs => ?_,?_⟩
   ·rcases List.mem_append.1 hs with hs | hs
    ·exact h.each s hs
    ·rw [List.mem_singleton.1 hs]; exact hnew
   ·rw [List.map_append,List.nodup_append]
    exact ⟨h.nodup,by simp,fun a ha b hb e => by simp at hb; subst hb; subst e; exact hno ha⟩
  obtain ⟨l',h1,h2,h3,h4,h5⟩:=fin (l ++ [⟨t.sub,t.kd,[]⟩]) l.length ⟨t.sub,t.kd,[]⟩ hl (by simp) (belongs_iff.2 ⟨rfl,rfl⟩) (fun j r hj hne hk => by
   have hlt:=(List.getElem?_eq_some_iff.1 hj).1
   simp only [List.length_append,List.length_singleton] at hlt
   rw [List.getElem?_append_left (by omega)] at hj
   exact hf r (List.mem_of_getElem? hj) hk)
  refine ⟨l',h1,h2,h3,h4,fun t' ht' => h5 t' ?_⟩
  obtain ⟨i,s,hi,hb⟩:=ht'
  exact ⟨i,s,by rw [List.getElem?_append_left (List.getElem?_eq_some_iff.1 hi).1]; exact hi,hb⟩
theorem addTs_M : ∀ (ts : List Tq) (l : List Sc),LM l -> Full l -> (∀ t ∈ ts,TqM t) -> ∃ l',addTs l ts = some l' /\ LM l' /\ Full l' /\ (∀ t ∈ ts,Has l' t) /\ ∀ t',Has l t' -> Has l' t'
 | [],l,h,hf,_ => ⟨l,rfl,h,hf,fun t h => (by cases h),fun t' h => h⟩
 | t :: r,l,h,hf,ht => by
  obtain ⟨l1,e1,h1,f1,a1,m1⟩:=addT_M h (ht t (List.mem_cons_self ..)) hf
  obtain ⟨l2,e2,h2,f2,a2,m2⟩:=addTs_M r l1 h1 f1 fun x hx => ht x (List.mem_cons_of_mem _ hx)
  refine ⟨l2,by rw [addTs,e1]; exact e2,h2,f2,fun x hx => ?_,fun t' h' => m2 t' (m1 t' h')⟩
  rcases List.mem_cons.1 hx with rfl | hx
  ·exact m2 _ a1
  ·exact a2 x hx
theorem truG_settled : truG.settled = true:=by kernel_rfl
theorem sub_settled (k : Nat) : (subG k).settled = false:=by simp [subG,Gx.settled,Gx.op]
theorem sub_composed (k : Nat) : (subG k).composed = false:=by simp [subG,Gx.composed,Gx.op]
theorem tst_settled (x n : Nat) : (tstG x n).settled = false:=by unfold tstG; by_cases h : x % 4 < 2 <;> simp [h,Gx.settled,Gx.op]
theorem tst_composed (x n : Nat) : (tstG x n).composed = false:=by unfold tstG; by_cases h : x % 4 < 2 <;> simp [h,Gx.composed,Gx.op]
theorem tests_mkM (e : Gx) : e.tests = if e.settled then [] else if e.composed then testsL e.args else [e]:=by
 cases e; rw [Gx.tests]; rfl
theorem sub_testOf (k : Nat) : testOf (subG k) = ⟨subG k,0,v0,0,false⟩:=by simp [testOf,subG,Gx.op]
theorem tst_testOf (x n : Nat) (hk : kindN (x / 3) ≠ 1) (hn : n < 8) : testOf (tstG x n) = ⟨subG (x / 3),kindN (x / 3),wV (kindN (x / 3)) n,if x % 4 < 2 then 13 else 14,x % 2 != 0⟩:=by
 obtain ⟨w1,w2,_⟩:=wV_facts (kindN (x / 3)) n (kind_cut hk) hn
 have hop : (tstG x n).op = if x % 4 < 2 then 13 else 14:=rfl
 have hc1 : ∀ v,isCut (subG (x / 3)) (conV v) = false:=fun v => by simp [isCut,subG,Gx.op]
 have hc2 : isCut (conV (wV (kindN (x / 3)) n)) (subG (x / 3)) = true:=by
  simp [isCut,subG,conV,Gx.op,Gx.v,w1,w2,hk]
 have hv : ∀ v,(conV v).v = v:=fun v => rfl
 unfold testOf
 by_cases h2 : x % 2 = 0
 ·have ha : (tstG x n).args = [subG (x / 3),conV (wV (kindN (x / 3)) n)]:=by simp [tstG,Gx.args,h2]
  rw [ha,hop]
  by_cases h4 : x % 4 < 2 <;> simp [h4,hc1,hc2,h2,hv,w1]
 ·have ha : (tstG x n).args = [conV (wV (kindN (x / 3)) n),subG (x / 3)]:=by simp [tstG,Gx.args,h2]
  rw [ha,hop]
  have h3 : x % 2 = 1:=by omega
  by_cases h4 : x % 4 < 2 <;> simp [h4,hc2,h3,hv,w1]
theorem md_tests {e : Gx} (h : Md e) : ∀ t ∈ e.tests,TqM (testOf t):=by
 induction h with
 | tru => rw [tests_mkM,truG_settled]; intro t ht; cases ht
 | sub k hk =>
  rw [tests_mkM,sub_settled,sub_composed]
  intro t ht
  obtain rfl:=List.mem_singleton.1 ht
  rw [sub_testOf]
  exact ⟨k % 12,Nat.mod_lt _ (by omega),(subG_mod k).symm,.inl ⟨by rw [kindN_mod]; exact hk,rfl⟩⟩
 | tst x n hk hn =>
  rw [tests_mkM,tst_settled,tst_composed]
  intro t ht
  obtain rfl:=List.mem_singleton.1 ht
  rw [tst_testOf x n hk hn]
  exact ⟨x / 3 % 12,Nat.mod_lt _ (by omega),(subG_mod _).symm,.inr ⟨by rw [kindN_mod]; exact hk,(kindN_mod _).symm,n,hn,by rw [kindN_mod]⟩⟩
 | no a _ ih =>
  rw [tests_mkM,if_neg (by simp [Gx.settled,Gx.op]),if_pos (by simp [Gx.composed,Gx.op,Gx.args])]
  intro t ht
  simp only [Gx.args,testsL,List.append_nil] at ht
  exact ih t ht
 | two o a b ho _ _ i1 i2 =>
  rw [tests_mkM,if_neg (by rcases ho with rfl | rfl <;> simp [Gx.settled,Gx.op]),if_pos (by rcases ho with rfl | rfl <;> simp [Gx.composed,Gx.op,Gx.args])]
  intro t ht
  simp only [Gx.args,testsL,List.append_nil,List.mem_append] at ht
  rcases ht with ht | ht
  ·exact i1 t ht
  ·exact i2 t ht
 | ite a b c _ _ _ i1 i2 i3 =>
  rw [tests_mkM,if_neg (by simp [Gx.settled,Gx.op]),if_pos (by simp [Gx.composed,Gx.op,Gx.args])]
  intro t ht
  simp only [Gx.args,testsL,List.append_nil,List.mem_append] at ht
  rcases ht with ht | ht | ht
  ·exact i1 t ht
  ·exact i2 t ht
  ·exact i3 t ht
theorem testsL_mem {es : List Gx} {t : Gx} : t ∈ testsL es ↔ ∃ e ∈ es,t ∈ e.tests:=by
 induction es with
 | nil => simp [testsL]
 | cons e r ih => simp [testsL,ih]
theorem scales_M {es : List Gx} (h : ∀ e ∈ es,Md e) (hf : ∀ e ∈ es,fits e = true) : ∃ l,scalesS es = (l,0) /\ LM l /\ Full l /\ ∀ e ∈ es,∀ t ∈ e.tests,Has l (testOf t):=by
 obtain ⟨l,h1,h2,h3,h4,_⟩:=addTs_M ((testsL es).map testOf) [] ⟨fun s hs => (by cases hs),by simp⟩ (fun s hs => by cases hs) (fun t ht => by
  obtain ⟨x,hx,rfl⟩:=List.mem_map.1 ht
  obtain ⟨e,he,hxe⟩:=testsL_mem.1 hx
  exact md_tests (h e he) x hxe)
 refine ⟨l,?_,h2,h3,fun e he t ht => h4 _ (List.mem_map.2 ⟨t,testsL_mem.2 ⟨e,he,ht⟩,rfl⟩)⟩
 unfold scalesS
 rw [if_pos (List.all_eq_true.2 hf),h1]
def joined (o : Int) : Bool:=o == 15 || o == 16 || o == 17 || o == 18
theorem okB_M {s : Sc} (h : ScM s) (hf : s.kd ≠ 0 -> s.cuts ≠ []) : s.okB = true:=by
 obtain ⟨k,hk,e,h1 | ⟨h1,h2,h3,h4⟩⟩:=h
 ·unfold Sc.okB; rw [if_pos h1.2.1,h1.2.2]; rfl
 ·have hkr:=kind_cut h1
  have h0 : s.kd ≠ 0:=by omega
  have hn:=hf h0
  have hlen:=cuts_len h1 h3 h4
  have hne : 1 <= s.cuts.length:=by
   cases hc : s.cuts with
   | nil => exact absurd hc hn
   | cons a b => simp
  have hhalf : ∀ c ∈ s.cuts,Half c:=fun c hc => by
   obtain ⟨m,hm,rfl⟩:=h4 c hc
   exact (wV_facts (kindN k) m hkr hm).2.2.2.1
  refine okB_all h0 (by omega) (by omega) (by omega) (by omega) fun j hj => ?_
  unfold cutB
  obtain ⟨g1,g2,g3⟩:=h3.at hj
  rw [g2,g3]
  simp only [beq_self_eq_true,Bool.true_and,Bool.or_eq_true,beq_iff_eq,Bool.not_eq_true']
  by_cases hj0 : j = 0
  ·exact .inl hj0
  ·refine .inr ?_
   rw [vle_tw (getD_half hhalf hj) (getD_half hhalf (by omega)),decide_eq_false_iff_not]
   have := cuts_mono hhalf h3.inc (by omega : j - 1 < j) hj
   omega
theorem half_M {s : Sc} (h : ScM s) : ∀ c ∈ s.cuts,Half c /\ c.good = true:=fun c hc => by
 obtain ⟨k,hk,e,h1 | ⟨h1,h2,h3,h4⟩⟩:=h
 ·rw [h1.2.2] at hc; cases hc
 ·obtain ⟨m,hm,rfl⟩:=h4 c hc
  have := wV_facts (kindN k) m (kind_cut h1) hm
  exact ⟨this.2.2.2.1,this.2.2.1⟩
theorem has_at {l : List Sc} {t : Tq} (hl : LM l) (h : Has l t) : ∃ s,l[l.findIdx t.belongs]? = some s /\ t.belongs s = true /\ (t.kd ≠ 0 -> ∃ c ∈ s.cuts,tw c = tw t.cut):=by
 obtain ⟨i,s,hi,hb,hc⟩:=h
 have hlt:=(List.getElem?_eq_some_iff.1 hi).1
 have hf : l.findIdx t.belongs < l.length:=List.findIdx_lt_length_of_exists ⟨s,List.mem_of_getElem? hi,hb⟩
 have hb2:=belongs_at hf
 have hg : l[l.findIdx t.belongs]? = some (l[l.findIdx t.belongs]?.getD default):=by rw [List.getElem?_eq_getElem hf]; rfl
 have he : (l[l.findIdx t.belongs]?.getD default).e = s.e:=by rw [<- (belongs_iff.1 hb2).2,<- (belongs_iff.1 hb).2]
 have hi2 : l.findIdx t.belongs = i:=by
  have e1 : l[i] = s:=(List.getElem?_eq_some_iff.1 hi).2
  rw [List.getElem?_eq_getElem hf,Option.getD_some] at he
  have hp:=List.pairwise_iff_getElem.1 hl.nodup
  rcases Nat.lt_trichotomy (l.findIdx t.belongs) i with h | h | h
  ·exact absurd (by rw [List.getElem_map,List.getElem_map,he,e1]) (hp _ _ (by simpa using hf) (by simpa using hlt) h)
  ·exact h
  ·exact absurd (by rw [List.getElem_map,List.getElem_map,he,e1]) (hp _ _ (by simpa using hlt) (by simpa using hf) h)
 exact ⟨s,by rw [hi2]; exact hi,hb,hc⟩
theorem inc_M {s : Sc} (h : ScM s) : s.cuts.Pairwise vlt:=by
 obtain ⟨k,_,_,h1 | h1⟩:=h
 ·rw [h1.2.2]; exact List.Pairwise.nil
 ·exact h1.2.2.1.inc
theorem cut_half {t : Tq} (h : TqM t) (h0 : t.kd ≠ 0) : Half t.cut:=by
 obtain ⟨k,hk,_,h1 | h1⟩:=h
 ·exact absurd h1.2 h0
 ·obtain ⟨n,hn,e⟩:=h1.2.2
  rw [e]
  exact (wV_facts (kindN k) n (kind_cut h1.1) hn).2.2.2.1
theorem has_fnd {l : List Sc} {t : Tq} (hl : LM l) (ht : TqM t) (h : Has l t) : ∃ s,l[l.findIdx t.belongs]? = some s /\ l.findIdx t.belongs < l.length /\ t.belongs s = true /\ (t.kd ≠ 0 -> fnd s.cuts t.cut = true):=by
 obtain ⟨s,hi,hb,hc⟩:=has_at hl h
 refine ⟨s,hi,(List.getElem?_eq_some_iff.1 hi).1,hb,fun h0 => ?_⟩
 have hs:=hl.each s (List.mem_of_getElem? hi)
 exact (fnd_tw (fun c hc => (half_M hs c hc).1) (inc_M hs) (cut_half ht h0) (hc h0)).2.2
theorem addT_has {l : List Sc} {t : Tq} (hl : LM l) (ht : TqM t) (h : Has l t) : addT l t = some l:=by
 obtain ⟨s,hi,hlt,hb,hf⟩:=has_fnd hl ht h
 unfold addT
 simp only
 rw [if_pos hlt]
 unfold insS
 by_cases h0 : t.kd = 0
 ·rw [if_pos h0]
 ·rw [if_neg h0,hi,Option.getD_some]
  unfold insC
  rw [if_pos (hf h0)]
  simp only [Option.map_some]
  congr 1
  have e : s = l[l.findIdx t.belongs]:=(List.getElem?_eq_some_iff.1 hi).2.symm
  show l.set (l.findIdx t.belongs) s = l
  rw [e,List.set_getElem_self]
theorem addTs_has {l : List Sc} (hl : LM l) : ∀ ts : List Tq,(∀ t ∈ ts,TqM t /\ Has l t) -> addTs l ts = some l
 | [],_ => rfl
 | t :: r,h => by
  rw [addTs,addT_has hl (h t (List.mem_cons_self ..)).1 (h t (List.mem_cons_self ..)).2]
  exact addTs_has hl r fun x hx => h x (List.mem_cons_of_mem _ hx)
theorem no_testsE (e : Gx) : (Gx.mk 17 [] v0 [e]).tests = e.tests:=by
 rw [tests_mkM,if_neg (by simp [Gx.settled,Gx.op]),if_pos (by simp [Gx.composed,Gx.op,Gx.args])]
 simp [Gx.args,testsL]
theorem cells_two {s : Sc} (hs : ScM s) (hf : s.kd ≠ 0 -> s.cuts ≠ []) : 2 <= (cellsS s).length:=by
 have hok:=okB_M hs hf
 obtain ⟨k,hk,e,h1 | h1⟩:=hs
 ·obtain ⟨se,skd,scuts⟩:=s
  obtain ⟨_,h2,h3⟩:=h1
  dsimp only at h2 h3
  subst h2 h3
  unfold cellsS
  rw [if_pos hok]
  show 2 <= ((List.range 2).filter fun c : Nat => Sc.poss ⟨se,0,[]⟩ (c : Int)).length
  have e0 : Sc.poss ⟨se,0,[]⟩ ((0 : Nat) : Int) = true:=by simp [Sc.poss,cntN,possN,isDay]
  have e1 : Sc.poss ⟨se,0,[]⟩ ((1 : Nat) : Int) = true:=by simp [Sc.poss,cntN,possN,isDay]
  rw [show List.range 2 = [0,1] from rfl,List.filter_cons_of_pos (p:=fun c : Nat => Sc.poss ⟨se,0,[]⟩ (c : Int)) e0,List.filter_cons_of_pos (p:=fun c : Nat => Sc.poss ⟨se,0,[]⟩ (c : Int)) e1]
  simp
 ·obtain ⟨h1,h2,h3,h4⟩:=h1
  have hkr:=kind_cut h1
  have h0 : s.kd ≠ 0:=by omega
  have hn : 1 <= s.cuts.length:=by
   have := hf h0
   cases hc : s.cuts with
   | nil => exact absurd hc this
   | cons a b => simp
  have hcnt : cntN s.kd s.cuts.length = 2 * s.cuts.length + 1:=by unfold cntN; rw [if_neg h0]
  have p1 : s.poss ((1 : Nat) : Int) = true:=by
   unfold Sc.poss
   rw [hcnt]
   have : possN s.kd s.cuts ((1 : Nat) : Int).toNat = true:=by unfold possN; simp
   rw [this]
   simp only [Bool.and_true,Bool.and_eq_true,decide_eq_true_eq]
   omega
  have p2 : s.poss ((2 * s.cuts.length : Nat) : Int) = true:=by
   unfold Sc.poss
   rw [hcnt]
   have hp : possN s.kd s.cuts (((2 * s.cuts.length : Nat) : Int)).toNat = true:=by
    unfold possN
    rw [show (((2 * s.cuts.length : Nat) : Int)).toNat = 2 * s.cuts.length by omega]
    have hlast : (s.cuts[s.cuts.length - 1]?.getD v0).i <= 8:=by
     rw [List.getElem?_eq_getElem (by omega),Option.getD_some]
     obtain ⟨m,hm,he⟩:=h4 _ (List.getElem_mem (by omega : s.cuts.length - 1 < s.cuts.length))
     rw [he]
     unfold wV
     split
     ·show (0 : Int) <= 8; omega
     ·show ((m : Nat) : Int) <= 8; omega
    have hhi : 65536 <= hiS s.kd s.cuts (2 * s.cuts.length):=by
     unfold hiS
     rw [if_neg (by omega)]
     split <;> omega
    have hlo : loS s.kd s.cuts (2 * s.cuts.length) <= 8:=by
     unfold loS
     rw [if_pos (by omega),show 2 * s.cuts.length / 2 - 1 = s.cuts.length - 1 by omega]
     exact hlast
    simp only [Bool.or_eq_true,decide_eq_true_eq]
    exact .inr (by omega)
   rw [hp]
   simp only [Bool.and_true,Bool.and_eq_true,decide_eq_true_eq]
   omega
  have := List.Nodup.length_le_of_subset (l₁:=[1,2 * s.cuts.length]) (l₂:=cellsS s) (by simp; omega) (fun c hc => by
   unfold cellsS
   rw [if_pos hok]
   unfold possL
   simp only [List.mem_cons,List.not_mem_nil,or_false] at hc
   rcases hc with rfl | rfl
   ·exact List.mem_filter.2 ⟨List.mem_range.2 (by omega),p1⟩
   ·exact List.mem_filter.2 ⟨List.mem_range.2 (by omega),p2⟩)
  simpa using this
structure DSt where
 nds : List (Nat × List Int)
 lvs : List (List Nat)
def DSt.no : DSt:=⟨[],[]⟩
def addLeaf (st : DSt) (l : List Nat) : Int × DSt :=
 if st.lvs.idxOf l < st.lvs.length then (-1 - (st.lvs.idxOf l : Int),st) else (-1 - (st.lvs.length : Int),⟨st.nds,st.lvs ++ [l]⟩)
def addNode (st : DSt) (sc : Nat) (nx : List Int) : Int × DSt :=
 if st.nds.idxOf (sc,nx) < st.nds.length then ((st.nds.idxOf (sc,nx) : Int),st) else ((st.nds.length : Int),⟨st.nds ++ [(sc,nx)],st.lvs⟩)
def alike (nx : List Int) : Bool:=nx.all fun t => t == nx.headD 0
def shut (sc : Nat) (nx : List Int) (st : DSt) : Int × DSt:=if alike nx = true then (nx.headD 0,st) else addNode st sc nx
def mapS (f : Nat -> DSt -> Int × DSt) : List Nat -> DSt -> List Int × DSt
 | [],st => ([],st)
 | c :: r,st => ((f c st).1 :: (mapS f r (f c st).2).1,(mapS f r (f c st).2).2)
def tgt (lf : List Nat -> List Nat) : List (List Nat) -> Nat -> List Nat -> DSt -> Int × DSt
 | [],_,pre,st => addLeaf st (lf pre)
 | p :: ps,sc,pre,st => shut sc (mapS (fun c s => tgt lf ps (sc + 1) (pre ++ [c]) s) p st).1 (mapS (fun c s => tgt lf ps (sc + 1) (pre ++ [c]) s) p st).2
theorem mapS_append (f : Nat -> DSt -> Int × DSt) : ∀ (a b : List Nat) (st : DSt),mapS f (a ++ b) st = ((mapS f a st).1 ++ (mapS f b (mapS f a st).2).1,(mapS f b (mapS f a st).2).2)
 | [],b,st => rfl
 | c :: r,b,st => by rw [List.cons_append,mapS,mapS_append f r b]; rfl
theorem mapS_one (f : Nat -> DSt -> Int × DSt) (a : List Nat) (c : Nat) (st : DSt) : mapS f (a ++ [c]) st = ((mapS f a st).1 ++ [(f c (mapS f a st).2).1],(f c (mapS f a st).2).2):=by rw [mapS_append]; rfl
theorem mapS_len (f : Nat -> DSt -> Int × DSt) : ∀ (a : List Nat) (st : DSt),(mapS f a st).1.length = a.length
 | [],st => rfl
 | c :: r,st => by rw [mapS,List.length_cons,List.length_cons,mapS_len f r]
structure Ext (a b : DSt) : Prop where
 nds : ∀ (i : Nat) x,a.nds[i]? = some x -> b.nds[i]? = some x
 lvs : ∀ (i : Nat) x,a.lvs[i]? = some x -> b.lvs[i]? = some x
theorem Ext.refl (a : DSt) : Ext a a:=⟨fun _ _ h => h,fun _ _ h => h⟩
theorem Ext.trans {a b c : DSt} (h : Ext a b) (h' : Ext b c) : Ext a c:=⟨fun i x e => h'.nds i x (h.nds i x e),fun i x e => h'.lvs i x (h.lvs i x e)⟩
def TOk (st : DSt) (sc : Nat) (t : Int) : Prop:=(∃ n : Nat,t = -1 - (n : Int) /\ n < st.lvs.length) \/ (∃ (n : Nat) (x : Nat × List Int),t = (n : Int) /\ st.nds[n]? = some x /\ sc <= x.1)
theorem TOk.mono {st st' : DSt} {sc sc' : Nat} {t : Int} (h : TOk st sc t) (he : Ext st st') (hs : sc' <= sc) : TOk st' sc' t:=by
 rcases h with ⟨n,e,hn⟩ | ⟨n,x,e,hn,hx⟩
 ·exact .inl ⟨n,e,(List.getElem?_eq_some_iff.1 (he.lvs n _ (List.getElem?_eq_getElem hn))).1⟩
 ·exact .inr ⟨n,x,e,he.nds n x hn,by omega⟩
def CellsIn (P : List (List Nat)) (cs : List Nat) : Prop:=cs.length = P.length /\ ∀ (i : Nat) (c : Nat),cs[i]? = some c -> ∃ p,P[i]? = some p /\ c ∈ p
theorem CellsIn.nil : CellsIn [] []:=⟨rfl,fun i c h => by cases h⟩
theorem CellsIn.cons {p : List Nat} {P : List (List Nat)} {c : Nat} {cs : List Nat} (hc : c ∈ p) (h : CellsIn P cs) : CellsIn (p :: P) (c :: cs):=by
 refine ⟨by simp [h.1],fun i d hd => ?_⟩
 rcases i with _ | i
 ·cases hd; exact ⟨p,rfl,hc⟩
 ·exact h.2 i d hd
theorem CellsIn.open {p : List Nat} {P : List (List Nat)} {cs : List Nat} (h : CellsIn (p :: P) cs) : ∃ c r,cs = c :: r /\ c ∈ p /\ CellsIn P r:=by
 obtain ⟨h1,h2⟩:=h
 cases cs with
 | nil => cases h1
 | cons c r =>
  refine ⟨c,r,rfl,?_,by simpa using h1,fun i d hd => h2 (i + 1) d hd⟩
  obtain ⟨q,hq,hc⟩:=h2 0 c rfl
  cases hq; exact hc
theorem CellsIn.append {P Q : List (List Nat)} {a b : List Nat} (h : CellsIn P a) (h' : CellsIn Q b) : CellsIn (P ++ Q) (a ++ b):=by
 refine ⟨by simp [h.1,h'.1],fun i c hc => ?_⟩
 rcases Nat.lt_or_ge i a.length with hl | hl
 ·rw [List.getElem?_append_left hl] at hc
  obtain ⟨p,hp,hm⟩:=h.2 i c hc
  exact ⟨p,by rw [List.getElem?_append_left (by rw [<- h.1]; exact hl)]; exact hp,hm⟩
 ·rw [List.getElem?_append_right hl] at hc
  obtain ⟨p,hp,hm⟩:=h'.2 _ c hc
  exact ⟨p,by rw [List.getElem?_append_right (by rw [<- h.1]; exact hl),<- h.1]; exact hp,hm⟩
inductive Evals (P : List (List Nat)) (st : DSt) (cs : List Nat) : Int -> List Nat -> Prop
 | leaf (n : Nat) (l : List Nat) : st.lvs[n]? = some l -> Evals P st cs (-1 - (n : Int)) l
 | node (n sc : Nat) (nx : List Int) (t : Int) (l : List Nat) : st.nds[n]? = some (sc,nx) -> nx[(P[sc]?.getD []).idxOf (cs[sc]?.getD 0)]? = some t -> Evals P st cs t l -> Evals P st cs (n : Int) l
theorem Evals.ext {P : List (List Nat)} {st st' : DSt} {cs : List Nat} {t : Int} {l : List Nat} (h : Evals P st cs t l) (he : Ext st st') : Evals P st' cs t l:=by
 induction h with
 | leaf n l h => exact .leaf n l (he.lvs n l h)
 | node n sc nx t l h1 h2 _ ih => exact .node n sc nx t l (he.nds n _ h1) h2 ih
inductive Reach (st : DSt) : Int -> Int -> Prop
 | refl (t : Int) : Reach st t t
 | step (n sc : Nat) (nx : List Int) (t u : Int) : st.nds[n]? = some (sc,nx) -> t ∈ nx -> Reach st t u -> Reach st (n : Int) u
theorem Reach.ext {st st' : DSt} {t u : Int} (h : Reach st t u) (he : Ext st st') : Reach st' t u:=by
 induction h with
 | refl t => exact .refl t
 | step n sc nx t u h1 h2 _ ih => exact .step n sc nx t u (he.nds n _ h1) h2 ih
def New (a b : DSt) (t : Int) : Prop:=(∃ n : Nat,t = -1 - (n : Int) /\ a.lvs.length <= n /\ n < b.lvs.length) \/ (∃ n : Nat,t = (n : Int) /\ a.nds.length <= n /\ n < b.nds.length)
theorem New.not (a : DSt) (t : Int) : ¬ New a a t:=by
 rintro (⟨n,_,h1,h2⟩ | ⟨n,_,h1,h2⟩) <;> omega
theorem New.split {a b c : DSt} {t : Int} (h : New a c t) : New a b t \/ New b c t:=by
 rcases h with ⟨n,e,h1,h2⟩ | ⟨n,e,h1,h2⟩
 ·rcases Nat.lt_or_ge n b.lvs.length with h | h
  ·exact .inl (.inl ⟨n,e,h1,h⟩)
  ·exact .inr (.inl ⟨n,e,h,h2⟩)
 ·rcases Nat.lt_or_ge n b.nds.length with h | h
  ·exact .inl (.inr ⟨n,e,h1,h⟩)
  ·exact .inr (.inr ⟨n,e,h,h2⟩)
structure WF (P : List (List Nat)) (lf : List Nat -> List Nat) (st : DSt) : Prop where
 node : ∀ (n sc : Nat) (nx : List Int),st.nds[n]? = some (sc,nx) -> sc < P.length /\ nx.length = (P[sc]?.getD []).length /\ alike nx = false /\ ∀ t ∈ nx,TOk st (sc + 1) t
 leaf : ∀ (n : Nat) (l : List Nat),st.lvs[n]? = some l -> ∃ cs,CellsIn P cs /\ l = lf cs
 nnd : st.nds.Nodup
 lnd : st.lvs.Nodup
theorem WF.no (P : List (List Nat)) (lf : List Nat -> List Nat) : WF P lf DSt.no:=⟨fun n sc nx h => (by cases h),fun n l h => (by cases h),List.nodup_nil,List.nodup_nil⟩
structure TgOk (P : List (List Nat)) (lf : List Nat -> List Nat) (sc : Nat) (pre : List Nat) (Q : List (List Nat)) (st : DSt) (r : Int × DSt) : Prop where
 wf : WF P lf r.2
 ext : Ext st r.2
 tok : TOk r.2 sc r.1
 ev : ∀ cs,CellsIn Q cs -> Evals P r.2 (pre ++ cs) r.1 (lf (pre ++ cs))
 new : ∀ u,New st r.2 u -> Reach r.2 r.1 u
theorem idxOf_lt_mem {α : Type} [BEq α] [LawfulBEq α] {l : List α} {a : α} (h : l.idxOf a < l.length) : l[l.idxOf a]? = some a:=by
 rw [List.getElem?_eq_getElem h]; exact congrArg some (List.getElem_idxOf h)
theorem addLeaf_ok {P : List (List Nat)} {lf : List Nat -> List Nat} {st : DSt} {pre : List Nat} (sc : Nat) (h : WF P lf st) (hp : CellsIn P pre) : TgOk P lf sc pre [] st (addLeaf st (lf pre)):=by
 unfold addLeaf
 by_cases hi : st.lvs.idxOf (lf pre) < st.lvs.length
 ·rw [if_pos hi]
  refine ⟨h,Ext.refl _,.inl ⟨_,rfl,hi⟩,fun cs hc => ?_,fun u hu => ?_⟩
  ·obtain rfl : cs = []:=List.length_eq_zero_iff.1 hc.1
   rw [List.append_nil]
   exact .leaf _ _ (idxOf_lt_mem hi)
  ·exact absurd hu (New.not st u)
 ·rw [if_neg hi]
  have hext : Ext st ⟨st.nds,st.lvs ++ [lf pre]⟩:=⟨fun _ _ h => h,fun i x hx => by show (st.lvs ++ [lf pre])[i]? = _; rw [List.getElem?_append_left (List.getElem?_eq_some_iff.1 hx).1]; exact hx⟩
  have hnew : (st.lvs ++ [lf pre])[st.lvs.length]? = some (lf pre):=by simp
  refine ⟨⟨fun n s nx hn => ?_,fun n l hl => ?_,h.nnd,?_⟩,hext,.inl ⟨_,rfl,by show st.lvs.length < (st.lvs ++ [lf pre]).length; simp⟩,fun cs hc => ?_,fun u hu => ?_⟩
  ·obtain ⟨h1,h2,h3,h4⟩:=h.node n s nx hn
   exact ⟨h1,h2,h3,fun t ht => (h4 t ht).mono hext (Nat.le_refl _)⟩
  ·have hl : (st.lvs ++ [lf pre])[n]? = some l:=hl
   rcases Nat.lt_or_ge n st.lvs.length with hlt | hge
   ·rw [List.getElem?_append_left hlt] at hl; exact h.leaf n l hl
   ·rw [List.getElem?_append_right hge] at hl
    have : n - st.lvs.length = 0:=by
     have := (List.getElem?_eq_some_iff.1 hl).1
     simp at this; omega
    rw [this] at hl
    cases hl
    exact ⟨pre,hp,rfl⟩
  ·show (st.lvs ++ [lf pre]).Nodup
   rw [List.nodup_append]
   refine ⟨h.lnd,by simp,fun a ha b hb => ?_⟩
   simp only [List.mem_singleton] at hb
   subst hb
   rintro rfl
   exact hi (List.idxOf_lt_length_of_mem ha)
  ·obtain rfl : cs = []:=List.length_eq_zero_iff.1 hc.1
   rw [List.append_nil]
   exact .leaf _ _ hnew
  ·rcases hu with ⟨n,rfl,h1,h2⟩ | ⟨n,rfl,h1,h2⟩
   ·have h2 : n < (st.lvs ++ [lf pre]).length:=h2
    have : n = st.lvs.length:=by simp at h2; omega
    subst this
    exact .refl _
   ·have h2 : n < st.nds.length:=h2
    omega
structure MpOk (P : List (List Nat)) (lf : List Nat -> List Nat) (sc : Nat) (pre : List Nat) (Q : List (List Nat)) (p : List Nat) (st : DSt) (r : List Int × DSt) : Prop where
 wf : WF P lf r.2
 ext : Ext st r.2
 each : ∀ (j c : Nat) (t : Int),p[j]? = some c -> r.1[j]? = some t -> TOk r.2 sc t /\ ∀ cs,CellsIn Q cs -> Evals P r.2 (pre ++ [c] ++ cs) t (lf (pre ++ [c] ++ cs))
 new : ∀ u,New st r.2 u -> ∃ t ∈ r.1,Reach r.2 t u
theorem mapS_ok {P : List (List Nat)} {lf : List Nat -> List Nat} {sc : Nat} {pre : List Nat} {Q : List (List Nat)} {f : Nat -> DSt -> Int × DSt} :
  ∀ (p : List Nat) (st : DSt),WF P lf st -> (∀ c ∈ p,∀ s,WF P lf s -> TgOk P lf sc (pre ++ [c]) Q s (f c s)) -> MpOk P lf sc pre Q p st (mapS f p st)
 | [],st,h,_ => ⟨h,Ext.refl _,fun j c t hj => (by cases hj),fun u hu => absurd hu (New.not st u)⟩
 | c :: p,st,h,hf => by
  have h1:=hf c (List.mem_cons_self ..) st h
  have h2:=mapS_ok p (f c st).2 h1.wf fun c' hc s hs => hf c' (List.mem_cons_of_mem _ hc) s hs
  refine ⟨h2.wf,h1.ext.trans h2.ext,fun j c' t hj ht => ?_,fun u hu => ?_⟩
  ·rcases j with _ | j
   ·cases hj; cases ht
    exact ⟨h1.tok.mono h2.ext (Nat.le_refl _),fun cs hc => (h1.ev cs hc).ext h2.ext⟩
   ·exact h2.each j c' t hj ht
  ·rcases New.split (b:=(f c st).2) hu with hu | hu
   ·exact ⟨_,List.mem_cons_self ..,(h1.new u hu).ext h2.ext⟩
   ·obtain ⟨t,ht,hr⟩:=h2.new u hu
    exact ⟨t,List.mem_cons_of_mem _ ht,hr⟩
theorem alike_head {nx : List Int} (h : alike nx = true) {t : Int} (ht : t ∈ nx) : t = nx.headD 0:=by
 unfold alike at h
 simpa using List.all_eq_true.1 h t ht
theorem shut_ok {P : List (List Nat)} {lf : List Nat -> List Nat} {sc : Nat} {pre p : List Nat} {Q : List (List Nat)} {st : DSt} {r : List Int × DSt} (h : MpOk P lf (sc + 1) pre Q p st r) (hl : r.1.length = p.length) (hP : P[sc]? = some p) (hn : p.Nodup) (h0 : p ≠ []) (hpre : pre.length = sc) :
  TgOk P lf sc pre (p :: Q) st (shut sc r.1 r.2):=by
 obtain ⟨nx,st'⟩:=r
 have hl : nx.length = p.length:=hl
 have hpl : 0 < p.length:=List.length_pos_iff.2 h0
 have hat : ∀ (c : Nat),c ∈ p -> ∃ t,nx[p.idxOf c]? = some t /\ p[p.idxOf c]? = some c:=fun c hc => by
  have hi:=List.idxOf_lt_length_of_mem hc
  exact ⟨nx[p.idxOf c]'(by omega),List.getElem?_eq_getElem _,idxOf_lt_mem hi⟩
 have hmem : ∀ t ∈ nx,∃ (j c : Nat),p[j]? = some c /\ nx[j]? = some t:=fun t ht => by
  obtain ⟨j,hj,rfl⟩:=List.getElem_of_mem ht
  exact ⟨j,p[j]'(by omega),List.getElem?_eq_getElem _,List.getElem?_eq_getElem _⟩
 have happ : ∀ (c : Nat) (cs : List Nat),pre ++ c :: cs = pre ++ [c] ++ cs:=fun c cs => by simp
 have hsc : sc < P.length:=(List.getElem?_eq_some_iff.1 hP).1
 have hnode : ∀ (st'' : DSt) (n : Nat),Ext st' st'' -> st''.nds[n]? = some (sc,nx) -> ∀ cs,CellsIn (p :: Q) cs -> Evals P st'' (pre ++ cs) (n : Int) (lf (pre ++ cs)):=fun st'' n he hnn cs hcs => by
  obtain ⟨c,cs',rfl,hc,hcs'⟩:=hcs.open
  obtain ⟨t,ht,hpc⟩:=hat c hc
  have hg : (pre ++ c :: cs')[sc]? = some c:=by rw [List.getElem?_append_right (by omega),hpre,Nat.sub_self]; rfl
  refine .node n sc nx t _ hnn ?_ ?_
  ·rw [hP,hg]; exact ht
  ·rw [happ]
   exact ((h.each _ c t hpc ht).2 cs' hcs').ext he
 have hreach : ∀ (st'' : DSt) (n : Nat),Ext st' st'' -> st''.nds[n]? = some (sc,nx) -> ∀ u,New st st' u -> Reach st'' (n : Int) u:=fun st'' n he hnn u hu => by
  obtain ⟨t,ht,hr⟩:=h.new u hu
  exact .step n sc nx t u hnn ht (hr.ext he)
 unfold shut
 by_cases ha : alike nx = true
 ·rw [if_pos ha]
  have hd : nx.headD 0 ∈ nx:=by
   cases nx with
   | nil => simp at hl; omega
   | cons a b => exact List.mem_cons_self ..
  refine ⟨h.wf,h.ext,?_,fun cs hcs => ?_,fun u hu => ?_⟩
  ·obtain ⟨j,c,hj,ht⟩:=hmem _ hd
   exact (h.each j c _ hj ht).1.mono (Ext.refl _) (Nat.le_succ _)
  ·obtain ⟨c,cs',rfl,hc,hcs'⟩:=hcs.open
   obtain ⟨t,ht,hpc⟩:=hat c hc
   have e:=alike_head ha (List.mem_of_getElem? ht)
   rw [happ]
   have := (h.each _ c t hpc ht).2 cs' hcs'
   rw [e] at this
   exact this
  ·obtain ⟨t,ht,hr⟩:=h.new u hu
   rw [alike_head ha ht] at hr
   exact hr
 ·rw [if_neg ha]
  have ha' : alike nx = false:=by simpa using ha
  unfold addNode
  by_cases hi : st'.nds.idxOf (sc,nx) < st'.nds.length
  ·have hi' : (sc,nx) ∈ st'.nds:=List.mem_of_getElem? (idxOf_lt_mem hi)
   rw [if_pos hi]
   have hnn:=idxOf_lt_mem hi
   exact ⟨h.wf,h.ext,.inr ⟨_,_,rfl,hnn,Nat.le_refl _⟩,hnode st' _ (Ext.refl _) hnn,hreach st' _ (Ext.refl _) hnn⟩
  ·rw [if_neg hi]
   have hext : Ext st' ⟨st'.nds ++ [(sc,nx)],st'.lvs⟩:=⟨fun i x hx => by show (st'.nds ++ [(sc,nx)])[i]? = _; rw [List.getElem?_append_left (List.getElem?_eq_some_iff.1 hx).1]; exact hx,fun _ _ h => h⟩
   have hnew : (st'.nds ++ [(sc,nx)])[st'.nds.length]? = some (sc,nx):=by simp
   refine ⟨⟨fun n s nx' hnn => ?_,h.wf.leaf,?_,h.wf.lnd⟩,h.ext.trans hext,.inr ⟨_,_,rfl,hnew,Nat.le_refl _⟩,hnode _ _ hext hnew,fun u hu => ?_⟩
   ·have hnn : (st'.nds ++ [(sc,nx)])[n]? = some (s,nx'):=hnn
    rcases Nat.lt_or_ge n st'.nds.length with hlt | hge
    ·rw [List.getElem?_append_left hlt] at hnn
     obtain ⟨h1,h2,h3,h4⟩:=h.wf.node n s nx' hnn
     exact ⟨h1,h2,h3,fun t ht => (h4 t ht).mono hext (Nat.le_refl _)⟩
    ·rw [List.getElem?_append_right hge] at hnn
     have : n - st'.nds.length = 0:=by
      have := (List.getElem?_eq_some_iff.1 hnn).1
      simp at this; omega
     rw [this] at hnn
     cases hnn
     refine ⟨hsc,by rw [hP]; exact hl,ha',fun t ht => ?_⟩
     obtain ⟨j,c,hj,htj⟩:=hmem t ht
     exact (h.each j c t hj htj).1.mono hext (Nat.le_refl _)
   ·show (st'.nds ++ [(sc,nx)]).Nodup
    rw [List.nodup_append]
    refine ⟨h.wf.nnd,by simp,fun a ha b hb => ?_⟩
    simp only [List.mem_singleton] at hb
    subst hb
    rintro rfl
    exact hi (List.idxOf_lt_length_of_mem ha)
   ·rcases New.split (b:=st') hu with hu | hu
    ·exact hreach _ _ hext hnew u hu
    ·rcases hu with ⟨n,rfl,h1,h2⟩ | ⟨n,rfl,h1,h2⟩
     ·have h2 : n < st'.lvs.length:=h2
      omega
     ·have h2 : n < (st'.nds ++ [(sc,nx)]).length:=h2
      have : n = st'.nds.length:=by simp at h2; omega
      subst this
      exact .refl _
theorem tgt_ok {P : List (List Nat)} {lf : List Nat -> List Nat} (hP : ∀ p ∈ P,p.Nodup /\ p ≠ []) : ∀ (ps : List (List Nat)) (sc : Nat) (pre : List Nat) (st : DSt),P.drop sc = ps -> CellsIn (P.take sc) pre -> sc <= P.length -> WF P lf st -> TgOk P lf sc pre ps st (tgt lf ps sc pre st)
 | [],sc,pre,st,hd,hc,hs,h => by
  have hl : P.length <= sc:=by
   have := congrArg List.length hd
   simp at this; omega
  rw [List.take_of_length_le hl] at hc
  exact addLeaf_ok sc h hc
 | p :: ps,sc,pre,st,hd,hc,hs,h => by
  have hlt : sc < P.length:=by
   rcases Nat.lt_or_ge sc P.length with h | h
   ·exact h
   ·rw [List.drop_of_length_le h] at hd; cases hd
  have hp : P[sc]? = some p:=by
   have := congrArg (·[0]?) hd
   simpa using this
  have hd' : P.drop (sc + 1) = ps:=by
   have := congrArg List.tail hd
   simpa using this
  have hpre : pre.length = sc:=by rw [hc.1,List.length_take]; omega
  obtain ⟨n1,n2⟩:=hP p (List.mem_of_getElem? hp)
  refine shut_ok (mapS_ok p st h fun c hcm s hs' => ?_) (mapS_len _ p st) hp n1 n2 hpre
  refine tgt_ok hP ps (sc + 1) (pre ++ [c]) s hd' ?_ hlt hs'
  have : P.take (sc + 1) = P.take sc ++ [p]:=by rw [List.take_add_one,hp]; rfl
  rw [this]
  exact hc.append (CellsIn.cons hcm CellsIn.nil)
end Go.Proofs.YtlidpghnlloinaaGreatDoor
