/- Contracts and plain laws, several texts in one (GMadeT, GMadeU, GScaS). No conditions beyond those stated. -/
import Derived.Test.YtlidpghnlloinaaGreatDoorPk15
set_option maxRecDepth 100000
set_option maxHeartbeats 40000000
namespace Go.Proofs.YtlidpghnlloinaaGreatDoor
open Go.RowKit
set_option linter.unusedVariables false
theorem subG_mod (k : Nat) : subG (k % 12) = subG k:=by unfold subG; rw [Nat.mod_mod]
theorem kindN_mod (k : Nat) : kindN (k % 12) = kindN k:=by unfold kindN; rw [Nat.mod_mod]
theorem subG_inj {k k' : Nat} (h : k < 12) (h' : k' < 12) (e : subG k = subG k') : k = k':=by
 unfold subG at e
 rw [Nat.mod_eq_of_lt h,Nat.mod_eq_of_lt h'] at e
 have e2 : UInt8.ofNat (48 + k) = UInt8.ofNat (48 + k'):=by injection e with _ e1; injection e1 with _ e1; injection e1
 have e3:=congrArg UInt8.toNat e2
 simp only [UInt8.toNat_ofNat'] at e3
 omega
def ScM (s : Sc) : Prop:=∃ k,k < 12 /\ s.e = subG k /\ ((kindN k = 1 /\ s.kd = 0 /\ s.cuts = []) \/ (kindN k ≠ 1 /\ s.kd = kindN k /\ CutsOk s.kd s.cuts /\ ∀ c ∈ s.cuts,∃ n,n < 8 /\ c = wV (kindN k) n))
def TqM (t : Tq) : Prop:=∃ k,k < 12 /\ t.sub = subG k /\ ((kindN k = 1 /\ t.kd = 0) \/ (kindN k ≠ 1 /\ t.kd = kindN k /\ ∃ n,n < 8 /\ t.cut = wV (kindN k) n))
structure LM (l : List Sc) : Prop where
 each : ∀ s ∈ l,ScM s
 nodup : (l.map (·.e)).Nodup
def Has (l : List Sc) (t : Tq) : Prop:=∃ (i : Nat) (s : Sc),l[i]? = some s /\ t.belongs s = true /\ (t.kd ≠ 0 -> ∃ c ∈ s.cuts,tw c = tw t.cut)
theorem belongs_iff {t : Tq} {s : Sc} : t.belongs s = true ↔ t.kd = s.kd /\ t.sub = s.e:=by
 unfold Tq.belongs
 rw [Bool.and_eq_true,beq_iff_eq,sameG_iff]
theorem belongs_sub {t : Tq} {s : Sc} (ht : TqM t) (hs : ScM s) (h : t.sub = s.e) : t.belongs s = true:=by
 obtain ⟨k,hk,e,h1⟩:=ht
 obtain ⟨k',hk',e',h2⟩:=hs
 have : k = k':=subG_inj hk hk' (by rw [<- e,<- e',h])
 subst this
 refine belongs_iff.2 ⟨?_,h⟩
 rcases h1 with h1 | h1 <;> rcases h2 with h2 | h2
 ·rw [h1.2,h2.2.1]
 ·exact absurd h1.1 h2.1
 ·exact absurd h2.1 h1.1
 ·rw [h1.2.1,h2.2.1]
theorem LM.len {l : List Sc} (h : LM l) : l.length <= 12:=by
 have := List.Nodup.length_le_of_subset h.nodup (l₂:=(List.range 12).map subG) (fun e he => by
  obtain ⟨s,hs,rfl⟩:=List.mem_map.1 he
  obtain ⟨k,hk,e,_⟩:=h.each s hs
  exact List.mem_map.2 ⟨k,List.mem_range.2 hk,e.symm⟩)
 simpa using this
theorem kind_cut {k : Nat} (h : kindN k ≠ 1) : 2 <= kindN k /\ kindN k <= 6:=by have := kindN_range k; omega
theorem cuts_len {k : Nat} {kd : Int} {l : List Vq} (hk : kindN k ≠ 1) (h : CutsOk kd l) (hc : ∀ c ∈ l,∃ n,n < 8 /\ c = wV (kindN k) n) : l.length <= 8:=by
 have hf : ∀ c ∈ l,Half c /\ ∃ n : Nat,n < 8 /\ tw c = 2 * n:=fun c hcl => by
  obtain ⟨n,hn,rfl⟩:=hc c hcl
  have := wV_facts (kindN k) n (kind_cut hk) hn
  exact ⟨this.2.2.2.1,n,hn,this.2.2.2.2⟩
 have hn : (l.map fun c => (tw c).toNat / 2).Nodup:=by
  rw [List.Nodup,List.pairwise_map]
  refine List.Pairwise.imp_of_mem ?_ h.inc
  intro a b ha hb hab e
  obtain ⟨ha1,n,hn,ea⟩:=hf a ha
  obtain ⟨hb1,m,hm,eb⟩:=hf b hb
  rw [vlt_tw ha1 hb1] at hab
  omega
 have := List.Nodup.length_le_of_subset hn (l₂:=List.range 8) (fun e he => by
  obtain ⟨c,hcl,rfl⟩:=List.mem_map.1 he
  obtain ⟨_,n,hn,ec⟩:=hf c hcl
  exact List.mem_range.2 (by omega))
 simpa using this
theorem insS_M {l : List Sc} {i : Nat} {s : Sc} {t : Tq} (h : ScM s) (ht : TqM t) (hi : l[i]? = some s) (hb : t.belongs s = true) :
  ∃ cuts,insS l i t = some (l.set i { s with cuts:=cuts }) /\ (∀ c ∈ s.cuts,c ∈ cuts) /\ ScM { s with cuts:=cuts } /\ (t.kd ≠ 0 -> ∃ c ∈ cuts,tw c = tw t.cut):=by
 have hd : l[i]?.getD default = s:=by rw [hi]; rfl
 obtain ⟨bk,bs⟩:=belongs_iff.1 hb
 unfold insS
 rw [hd]
 by_cases h0 : t.kd = 0
 ·rw [if_pos h0]
  refine ⟨s.cuts,?_,fun c hc => hc,h,fun hn => absurd h0 hn⟩
  congr 1
  symm
  obtain ⟨hlt,e⟩:=List.getElem?_eq_some_iff.1 hi
  have : s = l[i]:=e.symm
  show l.set i s = l
  rw [this,List.set_getElem_self]
 ·rw [if_neg h0]
  obtain ⟨k,hk,es,hs⟩:=h
  obtain ⟨k',hk',et,htt⟩:=ht
  have : k' = k:=subG_inj hk' hk (by rw [<- et,<- es,bs])
  subst this
  have h1 : kindN k' ≠ 1:=fun e => by
   rcases htt with h | h
   ·exact h0 h.2
   ·exact h.1 e
  obtain ⟨hs1,hs2,hs3,hs4⟩:=hs.resolve_left fun h => h1 h.1
  obtain ⟨ht1,ht2,n,hn,ht3⟩:=htt.resolve_left fun h => h1 h.1
  obtain ⟨w1,w2,w3,w4,w5⟩:=wV_facts (kindN k') n (kind_cut h1) hn
  rw [<- ht3] at w1 w2 w3 w4 w5
  have hlen:=cuts_len h1 hs3 hs4
  have hhalf : ∀ c ∈ s.cuts,Half c:=fun c hc => by
   obtain ⟨m,hm,rfl⟩:=hs4 c hc
   exact (wV_facts (kindN k') m (kind_cut h1) hm).2.2.2.1
  unfold insC
  by_cases hf : fnd s.cuts t.cut = true
  ·rw [if_pos hf]
   refine ⟨s.cuts,rfl,fun c hc => hc,⟨k',hk,es,.inr ⟨hs1,hs2,hs3,hs4⟩⟩,fun _ => ?_⟩
   unfold fnd at hf
   simp only [Bool.and_eq_true,decide_eq_true_eq] at hf
   obtain ⟨f1,f2⟩:=hf
   rw [veq_tw (getD_half hhalf f1) w4,decide_eq_true_eq,List.getElem?_eq_getElem f1] at f2
   exact ⟨_,List.getElem_mem f1,f2⟩
  ·have hf' : fnd s.cuts t.cut = false:=by simpa using hf
   rw [if_neg hf,if_neg (by omega)]
   refine ⟨_,rfl,fun c hc => ?_,⟨k',hk,es,.inr ⟨hs1,hs2,hs3.ins w3 w2 (by rw [w1,hs2]) hf',fun c hc => ?_⟩⟩,fun _ => ⟨t.cut,List.mem_append_right _ (List.mem_cons_self ..),rfl⟩⟩
   ·rw [<- List.take_append_drop (srch s.cuts t.cut) s.cuts] at hc
    rcases List.mem_append.1 hc with hc | hc
    ·exact List.mem_append_left _ hc
    ·exact List.mem_append_right _ (List.mem_cons_of_mem _ hc)
   ·rcases List.mem_append.1 hc with hc | hc
    ·exact hs4 c (List.mem_of_mem_take hc)
    ·rcases List.mem_cons.1 hc with rfl | hc
     ·exact ⟨n,hn,ht3⟩
     ·exact hs4 c (List.mem_of_mem_drop hc)
def Full (l : List Sc) : Prop:=∀ s ∈ l,s.kd ≠ 0 -> s.cuts ≠ []
theorem set_M {l : List Sc} {i : Nat} {s : Sc} {cuts : List Vq} (h : LM l) (hi : l[i]? = some s) (hs : ScM { s with cuts:=cuts }) : LM (l.set i { s with cuts:=cuts }):=by
 refine ⟨fun a ha => ?_,?_⟩
 ·rcases List.mem_or_eq_of_mem_set ha with ha | rfl
  ·exact h.each a ha
  ·exact hs
 ·rw [List.map_set]
  have : (l.map (·.e)).set i s.e = l.map (·.e):=by
   obtain ⟨hlt,e⟩:=List.getElem?_eq_some_iff.1 hi
   have e2 : (l.map (·.e))[i]'(by simpa using hlt) = s.e:=by rw [List.getElem_map,e]
   rw [<- e2,List.set_getElem_self]
  show ((l.map (·.e)).set i s.e).Nodup
  rw [this]; exact h.nodup
theorem set_has {l : List Sc} {i : Nat} {s : Sc} {cuts : List Vq} (hi : l[i]? = some s) (hc : ∀ c ∈ s.cuts,c ∈ cuts) {t : Tq} (h : Has l t) : Has (l.set i { s with cuts:=cuts }) t:=by
 obtain ⟨j,r,hj,hb,hr⟩:=h
 by_cases e : i = j
 ·subst e
  rw [hi] at hj
  obtain rfl:=Option.some.inj hj
  refine ⟨i,{ s with cuts:=cuts },?_,hb,fun h0 => ?_⟩
  ·rw [List.getElem?_set]; simp [(List.getElem?_eq_some_iff.1 hi).1]
  ·obtain ⟨c,h1,h2⟩:=hr h0
   exact ⟨c,hc c h1,h2⟩
 ·exact ⟨j,r,by rw [List.getElem?_set,if_neg e]; exact hj,hb,hr⟩
theorem addT_M {l : List Sc} {t : Tq} (h : LM l) (ht : TqM t) (hf : Full l) : ∃ l',addT l t = some l' /\ LM l' /\ Full l' /\ Has l' t /\ ∀ t',Has l t' -> Has l' t':=by
 have hlen:=h.len
 have fin : ∀ (l0 : List Sc) (i : Nat) (s : Sc),LM l0 -> l0[i]? = some s -> t.belongs s = true -> (∀ j r,l0[j]? = some r -> j ≠ i -> r.kd ≠ 0 -> r.cuts ≠ []) →
   ∃ l',insS l0 i t = some l' /\ LM l' /\ Full l' /\ Has l' t /\ ∀ t',Has l0 t' -> Has l' t':=by
  intro l0 i s h0 hi hb hfu
  obtain ⟨cuts,h1,h2,h3,h4⟩:=insS_M (h0.each s (List.mem_of_getElem? hi)) ht hi hb
  have hlt:=(List.getElem?_eq_some_iff.1 hi).1
  refine ⟨_,h1,set_M h0 hi h3,?_,⟨i,{ s with cuts:=cuts },by rw [List.getElem?_set]; simp [hlt],hb,h4⟩,fun t' h => set_has hi h2 h⟩
  intro r hr hk
  obtain ⟨j,hj⟩:=List.mem_iff_getElem?.1 hr
  rw [List.getElem?_set] at hj
  by_cases e : i = j
  ·rw [if_pos e,if_pos hlt] at hj
   obtain rfl:=Option.some.inj hj
   have hk' : t.kd ≠ 0:=by rw [(belongs_iff.1 hb).1]; exact hk
   obtain ⟨c,hc,_⟩:=h4 hk'
   exact fun e => by simp only at e; rw [e] at hc; cases hc
  ·rw [if_neg e] at hj
   exact hfu j r hj (fun e' => e e'.symm) hk
 unfold addT
 simp only
 by_cases hi : l.findIdx t.belongs < l.length
 ·rw [if_pos hi]
  have hb:=belongs_at hi
  have hg : l[l.findIdx t.belongs]? = some (l[l.findIdx t.belongs]?.getD default):=by rw [List.getElem?_eq_getElem hi]; rfl
  exact fin l _ _ h hg hb fun j r hj _ => hf r (List.mem_of_getElem? hj)
 ·rw [if_neg hi,if_neg (by omega)]
  have hnew : ScM ⟨t.sub,t.kd,[]⟩:=by
   obtain ⟨k,hk,e,h1⟩:=ht
   refine ⟨k,hk,e,?_⟩
   rcases h1 with h1 | h1
   ·exact .inl ⟨h1.1,h1.2,rfl⟩
   ·exact .inr ⟨h1.1,h1.2.1,CutsOk.nil _,fun c hc => by cases hc⟩
  have hno : t.sub ∉ l.map (·.e):=fun hm => by
   obtain ⟨s,hs,e⟩:=List.mem_map.1 hm
   have := belongs_sub ht (h.each s hs) e.symm
   exact hi (List.findIdx_lt_length_of_exists ⟨s,hs,this⟩)
  have hl : LM (l ++ [⟨t.sub,t.kd,[]⟩]):=by
   refine ⟨fun s hs => ?_,?_⟩
   ·rcases List.mem_append.1 hs with hs | hs
    ·exact h.each s hs
    ·rw [List.mem_singleton.1 hs]; exact hnew
   ·rw [List.map_append,List.nodup_append]
    exact ⟨h.nodup,by simp,fun a ha b hb e => by simp at hb; subst hb; subst e; exact hno ha⟩
  obtain ⟨l',h1,h2,h3,h4,h5⟩:=fin (l ++ [⟨t.sub,t.kd,[]⟩]) l.length ⟨t.sub,t.kd,[]⟩ hl (by simp) (belongs_iff.2 ⟨rfl,rfl⟩) (fun j r hj hne hk => by
   have hlt:=(List.getElem?_eq_some_iff.1 hj).1
   simp only [List.length_append,List.length_singleton] at hlt
   rw [List.getElem?_append_left (by omega)] at hj
   exact hf r (List.mem_of_getElem? hj) hk)
  refine ⟨l',h1,h2,h3,h4,fun t' ht' => h5 t' ?_⟩
  obtain ⟨i,s,hi,hb⟩:=ht'
  exact ⟨i,s,by rw [List.getElem?_append_left (List.getElem?_eq_some_iff.1 hi).1]; exact hi,hb⟩
theorem addTs_M : ∀ (ts : List Tq) (l : List Sc),LM l -> Full l -> (∀ t ∈ ts,TqM t) -> ∃ l',addTs l ts = some l' /\ LM l' /\ Full l' /\ (∀ t ∈ ts,Has l' t) /\ ∀ t',Has l t' -> Has l' t'
 | [],l,h,hf,_ => ⟨l,rfl,h,hf,fun t h => (by cases h),fun t' h => h⟩
 | t :: r,l,h,hf,ht => by
  obtain ⟨l1,e1,h1,f1,a1,m1⟩:=addT_M h (ht t (List.mem_cons_self ..)) hf
  obtain ⟨l2,e2,h2,f2,a2,m2⟩:=addTs_M r l1 h1 f1 fun x hx => ht x (List.mem_cons_of_mem _ hx)
  refine ⟨l2,by rw [addTs,e1]; exact e2,h2,f2,fun x hx => ?_,fun t' h' => m2 t' (m1 t' h')⟩
  rcases List.mem_cons.1 hx with rfl | hx
  ·exact m2 _ a1
  ·exact a2 x hx
theorem truG_settled : truG.settled = true:=by kernel_rfl
theorem sub_settled (k : Nat) : (subG k).settled = false:=by simp [subG,Gx.settled,Gx.op]
theorem sub_composed (k : Nat) : (subG k).composed = false:=by simp [subG,Gx.composed,Gx.op]
theorem tst_settled (x n : Nat) : (tstG x n).settled = false:=by unfold tstG; by_cases h : x % 4 < 2 <;> simp [h,Gx.settled,Gx.op]
theorem tst_composed (x n : Nat) : (tstG x n).composed = false:=by unfold tstG; by_cases h : x % 4 < 2 <;> simp [h,Gx.composed,Gx.op]
theorem tests_mkM (e : Gx) : e.tests = if e.settled then [] else if e.composed then testsL e.args else [e]:=by
 cases e; rw [Gx.tests]; rfl
theorem sub_testOf (k : Nat) : testOf (subG k) = ⟨subG k,0,v0,0,false⟩:=by simp [testOf,subG,Gx.op]
theorem tst_testOf (x n : Nat) (hk : kindN (x / 3) ≠ 1) (hn : n < 8) : testOf (tstG x n) = ⟨subG (x / 3),kindN (x / 3),wV (kindN (x / 3)) n,if x % 4 < 2 then 13 else 14,x % 2 != 0⟩:=by
 obtain ⟨w1,w2,_⟩:=wV_facts (kindN (x / 3)) n (kind_cut hk) hn
 have hop : (tstG x n).op = if x % 4 < 2 then 13 else 14:=rfl
 have hc1 : ∀ v,isCut (subG (x / 3)) (conV v) = false:=fun v => by simp [isCut,subG,Gx.op]
 have hc2 : isCut (conV (wV (kindN (x / 3)) n)) (subG (x / 3)) = true:=by
  simp [isCut,subG,conV,Gx.op,Gx.v,w1,w2,hk]
 have hv : ∀ v,(conV v).v = v:=fun v => rfl
 unfold testOf
 by_cases h2 : x % 2 = 0
 ·have ha : (tstG x n).args = [subG (x / 3),conV (wV (kindN (x / 3)) n)]:=by simp [tstG,Gx.args,h2]
  rw [ha,hop]
  by_cases h4 : x % 4 < 2 <;> simp [h4,hc1,hc2,h2,hv,w1]
 ·have ha : (tstG x n).args = [conV (wV (kindN (x / 3)) n),subG (x / 3)]:=by simp [tstG,Gx.args,h2]
  rw [ha,hop]
  have h3 : x % 2 = 1:=by omega
  by_cases h4 : x % 4 < 2 <;> simp [h4,hc2,h3,hv,w1]
theorem md_tests {e : Gx} (h : Md e) : ∀ t ∈ e.tests,TqM (testOf t):=by
 induction h with
 | tru => rw [tests_mkM,truG_settled]; intro t ht; cases ht
 | sub k hk =>
  rw [tests_mkM,sub_settled,sub_composed]
  intro t ht
  obtain rfl:=List.mem_singleton.1 ht
  rw [sub_testOf]
  exact ⟨k % 12,Nat.mod_lt _ (by omega),(subG_mod k).symm,.inl ⟨by rw [kindN_mod]; exact hk,rfl⟩⟩
 | tst x n hk hn =>
  rw [tests_mkM,tst_settled,tst_composed]
  intro t ht
  obtain rfl:=List.mem_singleton.1 ht
  rw [tst_testOf x n hk hn]
  exact ⟨x / 3 % 12,Nat.mod_lt _ (by omega),(subG_mod _).symm,.inr ⟨by rw [kindN_mod]; exact hk,(kindN_mod _).symm,n,hn,by rw [kindN_mod]⟩⟩
 | no a _ ih =>
  rw [tests_mkM,if_neg (by simp [Gx.settled,Gx.op]),if_pos (by simp [Gx.composed,Gx.op,Gx.args])]
  intro t ht
  simp only [Gx.args,testsL,List.append_nil] at ht
  exact ih t ht
 | two o a b ho _ _ i1 i2 =>
  rw [tests_mkM,if_neg (by rcases ho with rfl | rfl <;> simp [Gx.settled,Gx.op]),if_pos (by rcases ho with rfl | rfl <;> simp [Gx.composed,Gx.op,Gx.args])]
  intro t ht
  simp only [Gx.args,testsL,List.append_nil,List.mem_append] at ht
  rcases ht with ht | ht
  ·exact i1 t ht
  ·exact i2 t ht
 | ite a b c _ _ _ i1 i2 i3 =>
  rw [tests_mkM,if_neg (by simp [Gx.settled,Gx.op]),if_pos (by simp [Gx.composed,Gx.op,Gx.args])]
  intro t ht
  simp only [Gx.args,testsL,List.append_nil,List.mem_append] at ht
  rcases ht with ht | ht | ht
  ·exact i1 t ht
  ·exact i2 t ht
  ·exact i3 t ht
theorem testsL_mem {es : List Gx} {t : Gx} : t ∈ testsL es ↔ ∃ e ∈ es,t ∈ e.tests:=by
 induction es with
 | nil => simp [testsL]
 | cons e r ih => simp [testsL,ih]
theorem scales_M {es : List Gx} (h : ∀ e ∈ es,Md e) (hf : ∀ e ∈ es,fits e = true) : ∃ l,scalesS es = (l,0) /\ LM l /\ Full l /\ ∀ e ∈ es,∀ t ∈ e.tests,Has l (testOf t):=by
 obtain ⟨l,h1,h2,h3,h4,_⟩:=addTs_M ((testsL es).map testOf) [] ⟨fun s hs => (by cases hs),by simp⟩ (fun s hs => by cases hs) (fun t ht => by
  obtain ⟨x,hx,rfl⟩:=List.mem_map.1 ht
  obtain ⟨e,he,hxe⟩:=testsL_mem.1 hx
  exact md_tests (h e he) x hxe)
 refine ⟨l,?_,h2,h3,fun e he t ht => h4 _ (List.mem_map.2 ⟨t,testsL_mem.2 ⟨e,he,ht⟩,rfl⟩)⟩
 unfold scalesS
 rw [if_pos (List.all_eq_true.2 hf),h1]
def nmIx (nm : Str) : Nat:=((nm[1]?.getD 0) - 48).toNat
def twc (v : Vq) : Int:=if v.l2[0]?.getD 0 = 1 then ((v.l1[0]?.getD 0 : Nat) : Int) * 2 else (v.l1[0]?.getD 0 : Nat)
def difV (a b : Vq) : Int:=if a.kd = 2 \/ a.kd = 3 then twc a - twc b else a.i - b.i
def argV (vals : Nat -> Vq) (e : Gx) (k : Nat) : Vq:=if (e.args[k]?.getD default).op = 5 then vals (nmIx (e.args[k]?.getD default).nm) else (e.args[k]?.getD default).v
def cmpT (o : Int) (a b : Vq) : Bool:=o == 13 && decide (difV a b < 0) || o == 14 && difV a b == 0
def joined (o : Int) : Bool:=o == 15 || o == 16 || o == 17 || o == 18
mutual
def trueG (vals : Nat -> Vq) : Gx -> Bool
 | .mk o nm v es => if o = 1 then v.i == 1 else if joined o = true then combG o (fun k => (trueL vals es)[k]?.getD false) else if o = 5 then (vals (nmIx nm)).i == 1 else cmpT o (argV vals (.mk o nm v es) 0) (argV vals (.mk o nm v es) 1)
def trueL (vals : Nat -> Vq) : List Gx -> List Bool
 | [] => []
 | e :: r => trueG vals e :: trueL vals r
end
structure ValOk (vals : Nat -> Vq) : Prop where
 kd : ∀ k,k < 12 -> (vals k).kd = kindN k
 ok : ∀ k,k < 12 -> (vals k).ok = true
 good : ∀ k,k < 12 -> (vals k).good = true
 half : ∀ k,k < 12 -> Half (vals k)
 twc : ∀ k,k < 12 -> kindN k = 2 \/ kindN k = 3 -> twc (vals k) = tw (vals k)
theorem sub_ix (k : Nat) : nmIx (subG k).nm = k % 12:=by
 have h : k % 12 < 12:=Nat.mod_lt _ (by omega)
 show ((([115,UInt8.ofNat (48 + k % 12)] : Str)[1]?.getD 0) - 48).toNat = k % 12
 generalize k % 12 = m at h
 have : m = 0 \/ m = 1 \/ m = 2 \/ m = 3 \/ m = 4 \/ m = 5 \/ m = 6 \/ m = 7 \/ m = 8 \/ m = 9 \/ m = 10 \/ m = 11:=by omega
 rcases this with rfl | rfl | rfl | rfl | rfl | rfl | rfl | rfl | rfl | rfl | rfl | rfl <;> decide
theorem wV_twc (kd : Int) (n : Nat) (h : kd = 2 \/ kd = 3) (hn : n < 8) : twc (wV kd n) = 2 * n:=by
 have hm : n = 0 \/ n = 1 \/ n = 2 \/ n = 3 \/ n = 4 \/ n = 5 \/ n = 6 \/ n = 7:=by omega
 rcases h with rfl | rfl <;> rcases hm with rfl | rfl | rfl | rfl | rfl | rfl | rfl | rfl <;> first | rfl | decide
theorem tw_whole {v : Vq} (h : v.kd ≠ 2) (h' : v.kd ≠ 3) : tw v = 2 * v.i:=by
 have hf : v.fr = false:=by unfold Vq.fr; simp [h,h']
 unfold tw Vq.bot Vq.top; simp [hf]
theorem difV_tw {a b : Vq} (hk : a.kd = b.kd) (ha : a.kd = 2 \/ a.kd = 3 -> twc a = tw a) (hb : b.kd = 2 \/ b.kd = 3 -> twc b = tw b) : (difV a b < 0 ↔ tw a < tw b) /\ (difV a b = 0 ↔ tw a = tw b):=by
 unfold difV
 by_cases h : a.kd = 2 \/ a.kd = 3
 ·rw [if_pos h,ha h,hb (hk ▸ h)]; omega
 ·have h2 : a.kd ≠ 2 /\ a.kd ≠ 3:=by omega
  rw [if_neg h,tw_whole h2.1 h2.2,tw_whole (hk ▸ h2.1) (hk ▸ h2.2)]; omega
theorem okB_M {s : Sc} (h : ScM s) (hf : s.kd ≠ 0 -> s.cuts ≠ []) : s.okB = true:=by
 obtain ⟨k,hk,e,h1 | ⟨h1,h2,h3,h4⟩⟩:=h
 ·unfold Sc.okB; rw [if_pos h1.2.1,h1.2.2]; rfl
 ·have hkr:=kind_cut h1
  have h0 : s.kd ≠ 0:=by omega
  have hn:=hf h0
  have hlen:=cuts_len h1 h3 h4
  have hne : 1 <= s.cuts.length:=by
   cases hc : s.cuts with
   | nil => exact absurd hc hn
   | cons a b => simp
  have hhalf : ∀ c ∈ s.cuts,Half c:=fun c hc => by
   obtain ⟨m,hm,rfl⟩:=h4 c hc
   exact (wV_facts (kindN k) m hkr hm).2.2.2.1
  refine okB_all h0 (by omega) (by omega) (by omega) (by omega) fun j hj => ?_
  unfold cutB
  obtain ⟨g1,g2,g3⟩:=h3.at hj
  rw [g2,g3]
  simp only [beq_self_eq_true,Bool.true_and,Bool.or_eq_true,beq_iff_eq,Bool.not_eq_true']
  by_cases hj0 : j = 0
  ·exact .inl hj0
  ·refine .inr ?_
   rw [vle_tw (getD_half hhalf hj) (getD_half hhalf (by omega)),decide_eq_false_iff_not]
   have := cuts_mono hhalf h3.inc (by omega : j - 1 < j) hj
   omega
theorem half_M {s : Sc} (h : ScM s) : ∀ c ∈ s.cuts,Half c /\ c.good = true:=fun c hc => by
 obtain ⟨k,hk,e,h1 | ⟨h1,h2,h3,h4⟩⟩:=h
 ·rw [h1.2.2] at hc; cases hc
 ·obtain ⟨m,hm,rfl⟩:=h4 c hc
  have := wV_facts (kindN k) m (kind_cut h1) hm
  exact ⟨this.2.2.2.1,this.2.2.1⟩
def scIx (s : Sc) : Nat:=nmIx s.e.nm
theorem cell_M {vals : Nat -> Vq} (hv : ValOk vals) {s : Sc} (h : ScM s) (hf : s.kd ≠ 0 -> s.cuts ≠ []) :
  scIx s < 12 /\ cellS s (vals (scIx s)) = (if s.kd = 0 then (vals (scIx s)).i else (cellN s.cuts (vals (scIx s)) : Nat),true):=by
 have hok:=okB_M h hf
 obtain ⟨k,hk,e,h1⟩:=h
 have hix : scIx s = k:=by unfold scIx; rw [e,sub_ix,Nat.mod_eq_of_lt hk]
 rw [hix]
 refine ⟨hk,?_⟩
 unfold cellS
 rw [hok,hv.ok k hk,if_neg (by simp)]
 rcases h1 with h1 | h1
 ·rw [if_pos h1.2.1,if_pos h1.2.1,if_pos (by rw [hv.kd k hk]; exact h1.1)]
 ·have := kind_cut h1.1
  have h0 : s.kd ≠ 0:=by rw [h1.2.1]; omega
  rw [if_neg h0,if_neg h0,if_neg (by rw [hv.kd k hk,h1.2.1]; simp)]
  unfold cellN
  split <;> simp
def cellsM (vals : Nat -> Vq) (l : List Sc) : List Int:=l.map fun s => (cellS s (vals (scIx s))).1
theorem has_at {l : List Sc} {t : Tq} (hl : LM l) (h : Has l t) : ∃ s,l[l.findIdx t.belongs]? = some s /\ t.belongs s = true /\ (t.kd ≠ 0 -> ∃ c ∈ s.cuts,tw c = tw t.cut):=by
 obtain ⟨i,s,hi,hb,hc⟩:=h
 have hlt:=(List.getElem?_eq_some_iff.1 hi).1
 have hf : l.findIdx t.belongs < l.length:=List.findIdx_lt_length_of_exists ⟨s,List.mem_of_getElem? hi,hb⟩
 have hb2:=belongs_at hf
 have hg : l[l.findIdx t.belongs]? = some (l[l.findIdx t.belongs]?.getD default):=by rw [List.getElem?_eq_getElem hf]; rfl
 have he : (l[l.findIdx t.belongs]?.getD default).e = s.e:=by rw [<- (belongs_iff.1 hb2).2,<- (belongs_iff.1 hb).2]
 have hi2 : l.findIdx t.belongs = i:=by
  have e1 : l[i] = s:=(List.getElem?_eq_some_iff.1 hi).2
  rw [List.getElem?_eq_getElem hf,Option.getD_some] at he
  have hp:=List.pairwise_iff_getElem.1 hl.nodup
  rcases Nat.lt_trichotomy (l.findIdx t.belongs) i with h | h | h
  ·exact absurd (by rw [List.getElem_map,List.getElem_map,he,e1]) (hp _ _ (by simpa using hf) (by simpa using hlt) h)
  ·exact h
  ·exact absurd (by rw [List.getElem_map,List.getElem_map,he,e1]) (hp _ _ (by simpa using hlt) (by simpa using hf) h)
 exact ⟨s,by rw [hi2]; exact hi,hb,hc⟩
theorem sub_holds {vals : Nat -> Vq} (hv : ValOk vals) {l : List Sc} (hl : LM l) (hf : Full l) (k : Nat) (hk : kindN k = 1) (h : Has l (testOf (subG k))) : testC l (cellsM vals l) (subG k) = (trueG vals (subG k),true):=by
 obtain ⟨s,hi,hb,_⟩:=has_at hl h
 have hlt:=(List.getElem?_eq_some_iff.1 hi).1
 have hmem:=List.mem_of_getElem? hi
 obtain ⟨c1,c2⟩:=cell_M hv (hl.each s hmem) (hf s hmem)
 have hbe:=belongs_iff.1 hb
 rw [sub_testOf] at hbe
 have hix : scIx s = k % 12:=by unfold scIx; rw [<- hbe.2]; exact sub_ix k
 have hcs : (cellsM vals l)[l.findIdx (testOf (subG k)).belongs]?.getD 0 = (vals (k % 12)).i:=by
  unfold cellsM
  rw [List.getElem?_map,hi]
  show (cellS s (vals (scIx s))).1 = _
  rw [c2,if_pos hbe.1.symm,hix]
 unfold testC
 rw [if_pos hlt,hcs]
 unfold testH
 rw [sub_testOf,if_pos rfl]
 congr 1
 unfold subG
 rw [trueG,if_neg (by decide),if_neg (by decide),if_pos rfl]
 show _ = ((vals (nmIx (subG k).nm)).i == 1)
 rw [sub_ix]
theorem tst_args (x n : Nat) (vals : Nat -> Vq) : (argV vals (tstG x n) 0,argV vals (tstG x n) 1) = if x % 2 = 0 then (vals (x / 3 % 12),wV (kindN (x / 3)) n) else (wV (kindN (x / 3)) n,vals (x / 3 % 12)):=by
 have hs : (subG (x / 3)).op = 5:=rfl
 have hc : ∀ v,(conV v).op = 1:=fun v => rfl
 have hcv : ∀ v,(conV v).v = v:=fun v => rfl
 unfold argV
 by_cases h : x % 2 = 0
 ·have ha : (tstG x n).args = [subG (x / 3),conV (wV (kindN (x / 3)) n)]:=by simp [tstG,Gx.args,h]
  rw [ha,if_pos h]; simp [hs,hc,hcv,sub_ix]
 ·have ha : (tstG x n).args = [conV (wV (kindN (x / 3)) n),subG (x / 3)]:=by simp [tstG,Gx.args,h]
  rw [ha,if_neg h]; simp [hs,hc,hcv,sub_ix]
theorem tst_true (x n : Nat) (vals : Nat -> Vq) : trueG vals (tstG x n) = cmpT (if x % 4 < 2 then 13 else 14) (argV vals (tstG x n) 0) (argV vals (tstG x n) 1):=by
 unfold tstG
 rw [trueG]
 by_cases h : x % 4 < 2 <;> simp [h,joined]
theorem tst_holds {vals : Nat -> Vq} (hv : ValOk vals) {l : List Sc} (hl : LM l) (hf : Full l) (x n : Nat) (hk : kindN (x / 3) ≠ 1) (hn : n < 8) (h : Has l (testOf (tstG x n))) : testC l (cellsM vals l) (tstG x n) = (trueG vals (tstG x n),true):=by
 obtain ⟨s,hi,hb,hc⟩:=has_at hl h
 have hlt:=(List.getElem?_eq_some_iff.1 hi).1
 have hmem:=List.mem_of_getElem? hi
 have hsm:=hl.each s hmem
 obtain ⟨c1,c2⟩:=cell_M hv hsm (hf s hmem)
 have hkr:=kind_cut hk
 obtain ⟨w1,w2,w3,w4,w5⟩:=wV_facts (kindN (x / 3)) n hkr hn
 have hbe:=belongs_iff.1 hb
 rw [tst_testOf x n hk hn] at hbe hc
 have hm12 : x / 3 % 12 < 12:=Nat.mod_lt _ (by omega)
 have hix : scIx s = x / 3 % 12:=by unfold scIx; rw [<- hbe.2]; exact sub_ix _
 have hkd : s.kd ≠ 0:=by rw [<- hbe.1]; show kindN (x / 3) ≠ 0; omega
 have hcs : (cellsM vals l)[l.findIdx (testOf (tstG x n)).belongs]?.getD 0 = (cellN s.cuts (vals (x / 3 % 12)) : Nat):=by
  unfold cellsM
  rw [List.getElem?_map,hi]
  show (cellS s (vals (scIx s))).1 = _
  rw [c2,if_neg hkd,hix]
 have hvk:=hv.kd _ hm12
 rw [kindN_mod] at hvk
 have hhalf : ∀ c ∈ s.cuts,Half c:=fun c hc => (half_M hsm c hc).1
 have hinc : s.cuts.Pairwise vlt:=by
  obtain ⟨k,_,_,h1 | h1⟩:=hsm
  ·rw [h1.2.2]; exact List.Pairwise.nil
  ·exact h1.2.2.1.inc
 have hcut:=hc (by show kindN (x / 3) ≠ 0; omega)
 obtain ⟨t1,t2,t3⟩:=cell_tw hhalf hinc w4 (hv.half _ hm12) hcut
 obtain ⟨p1,p2,p3⟩:=fnd_tw hhalf hinc w4 hcut
 obtain ⟨d1,d2⟩:=difV_tw (a:=vals (x / 3 % 12)) (b:=wV (kindN (x / 3)) n) (by rw [hvk,w1]) (fun h => hv.twc _ hm12 (by rw [kindN_mod,<- hvk]; exact h)) (fun h => by rw [wV_twc _ n (by rw [w1] at h; exact h) hn,w5])
 obtain ⟨d3,d4⟩:=difV_tw (a:=wV (kindN (x / 3)) n) (b:=vals (x / 3 % 12)) (by rw [hvk,w1]) (fun h => by rw [wV_twc _ n (by rw [w1] at h; exact h) hn,w5]) (fun h => hv.twc _ hm12 (by rw [kindN_mod,<- hvk]; exact h))
 have ha:=tst_args x n vals
 unfold testC
 rw [if_pos hlt,hcs,hi,Option.getD_some]
 unfold testH
 rw [tst_testOf x n hk hn,if_neg (by show ¬ kindN (x / 3) = 0; omega),if_neg (by rw [p3]; simp),tst_true]
 generalize wV (kindN (x / 3)) n = u at *
 generalize vals (x / 3 % 12) = v at *
 by_cases h2 : x % 2 = 0
 ·rw [if_pos h2] at ha
  rw [(Prod.mk.inj ha).1,(Prod.mk.inj ha).2]
  by_cases h4 : x % 4 < 2
  ·simp only [h4,h2,if_true,cmpT]
   simp
   by_cases hc : tw v < tw u
   ·have e1:=t2.2 hc; have e2:=d1.2 hc; simp [e2]; omega
   ·have e1:=mt t2.1 hc; have e2:=mt d1.1 hc; simp [e2]; omega
  ·simp only [h4,if_false,cmpT]
   simp
   by_cases hc : tw v = tw u
   ·have e1:=t1.2 hc; have e2:=d2.2 hc; simp [e2]; omega
   ·have e1:=mt t1.1 hc; have e2:=mt d2.1 hc; rw [beq_eq_false_iff_ne.2 e2,beq_eq_false_iff_ne]; omega
 ·rw [if_neg h2] at ha
  rw [(Prod.mk.inj ha).1,(Prod.mk.inj ha).2]
  have h3 : x % 2 = 1:=by omega
  by_cases h4 : x % 4 < 2
  ·simp only [h4,h3,if_true,cmpT]
   simp
   by_cases hc : tw u < tw v
   ·have e1:=t3.2 hc; have e2:=d3.2 hc; simp [e2]; omega
   ·have e1:=mt t3.1 hc; have e2:=mt d3.1 hc; simp [e2]; omega
  ·simp only [h4,if_false,cmpT]
   simp
   by_cases hc : tw u = tw v
   ·have e1:=t1.2 hc.symm; have e2:=d4.2 hc; simp [e2]; omega
   ·have e1:=mt t1.1 (fun e => hc e.symm); have e2:=mt d4.1 hc; rw [beq_eq_false_iff_ne.2 e2,beq_eq_false_iff_ne]; omega
theorem holdG_M {vals : Nat -> Vq} (hv : ValOk vals) {l : List Sc} (hl : LM l) (hf : Full l) {e : Gx} (he : Md e) (h : ∀ t ∈ e.tests,Has l (testOf t)) : holdG l (cellsM vals l) e = (trueG vals e,true):=by
 induction he with
 | tru => rw [holdG_eq,truG_settled,if_pos rfl]; unfold truG conV; rw [trueG]; rfl
 | sub k hk =>
  rw [tests_mkM,sub_settled,sub_composed] at h
  rw [holdG_eq,sub_settled,sub_composed,if_neg (by simp),if_neg (by simp)]
  exact sub_holds hv hl hf k hk (h _ (by simp))
 | tst x n hk hn =>
  rw [tests_mkM,tst_settled,tst_composed] at h
  rw [holdG_eq,tst_settled,tst_composed,if_neg (by simp),if_neg (by simp)]
  exact tst_holds hv hl hf x n hk hn (h _ (by simp))
 | no a ha ih =>
  rw [tests_mkM,if_neg (by simp [Gx.settled,Gx.op]),if_pos (by simp [Gx.composed,Gx.op,Gx.args])] at h
  simp only [Gx.args,testsL,List.append_nil] at h
  rw [holdG_eq,if_neg (by simp [Gx.settled,Gx.op]),if_pos (by simp [Gx.composed,Gx.op,Gx.args]),trueG,if_neg (by decide),if_pos (by decide)]
  have := ih h
  simp [combG,argH,Gx.op,Gx.args,trueL,this]
 | two o a b ho ha hb i1 i2 =>
  rw [tests_mkM,if_neg (by rcases ho with rfl | rfl <;> simp [Gx.settled,Gx.op]),if_pos (by rcases ho with rfl | rfl <;> simp [Gx.composed,Gx.op,Gx.args])] at h
  simp only [Gx.args,testsL,List.append_nil,List.mem_append] at h
  rw [holdG_eq,if_neg (by rcases ho with rfl | rfl <;> simp [Gx.settled,Gx.op]),if_pos (by rcases ho with rfl | rfl <;> simp [Gx.composed,Gx.op,Gx.args]),trueG,if_neg (by omega),if_pos (by rcases ho with rfl | rfl <;> decide)]
  have e1:=i1 fun t ht => h t (.inl ht)
  have e2:=i2 fun t ht => h t (.inr ht)
  rcases ho with rfl | rfl <;> simp [combG,argH,Gx.op,Gx.args,trueL,e1,e2]
 | ite a b c ha hb hc i1 i2 i3 =>
  rw [tests_mkM,if_neg (by simp [Gx.settled,Gx.op]),if_pos (by simp [Gx.composed,Gx.op,Gx.args])] at h
  simp only [Gx.args,testsL,List.append_nil,List.mem_append] at h
  rw [holdG_eq,if_neg (by simp [Gx.settled,Gx.op]),if_pos (by simp [Gx.composed,Gx.op,Gx.args]),trueG,if_neg (by decide),if_pos (by decide)]
  have e1:=i1 fun t ht => h t (.inl ht)
  have e2:=i2 fun t ht => h t (.inr (.inl ht))
  have e3:=i3 fun t ht => h t (.inr (.inr ht))
  simp [combG,argH,Gx.op,Gx.args,trueL,e1,e2,e3]
theorem inc_M {s : Sc} (h : ScM s) : s.cuts.Pairwise vlt:=by
 obtain ⟨k,_,_,h1 | h1⟩:=h
 ·rw [h1.2.2]; exact List.Pairwise.nil
 ·exact h1.2.2.1.inc
theorem cut_half {t : Tq} (h : TqM t) (h0 : t.kd ≠ 0) : Half t.cut:=by
 obtain ⟨k,hk,_,h1 | h1⟩:=h
 ·exact absurd h1.2 h0
 ·obtain ⟨n,hn,e⟩:=h1.2.2
  rw [e]
  exact (wV_facts (kindN k) n (kind_cut h1.1) hn).2.2.2.1
theorem has_fnd {l : List Sc} {t : Tq} (hl : LM l) (ht : TqM t) (h : Has l t) : ∃ s,l[l.findIdx t.belongs]? = some s /\ l.findIdx t.belongs < l.length /\ t.belongs s = true /\ (t.kd ≠ 0 -> fnd s.cuts t.cut = true):=by
 obtain ⟨s,hi,hb,hc⟩:=has_at hl h
 refine ⟨s,hi,(List.getElem?_eq_some_iff.1 hi).1,hb,fun h0 => ?_⟩
 have hs:=hl.each s (List.mem_of_getElem? hi)
 exact (fnd_tw (fun c hc => (half_M hs c hc).1) (inc_M hs) (cut_half ht h0) (hc h0)).2.2
theorem addT_has {l : List Sc} {t : Tq} (hl : LM l) (ht : TqM t) (h : Has l t) : addT l t = some l:=by
 obtain ⟨s,hi,hlt,hb,hf⟩:=has_fnd hl ht h
 unfold addT
 simp only
 rw [if_pos hlt]
 unfold insS
 by_cases h0 : t.kd = 0
 ·rw [if_pos h0]
 ·rw [if_neg h0,hi,Option.getD_some]
  unfold insC
  rw [if_pos (hf h0)]
  simp only [Option.map_some]
  congr 1
  have e : s = l[l.findIdx t.belongs]:=(List.getElem?_eq_some_iff.1 hi).2.symm
  show l.set (l.findIdx t.belongs) s = l
  rw [e,List.set_getElem_self]
theorem addTs_has {l : List Sc} (hl : LM l) : ∀ ts : List Tq,(∀ t ∈ ts,TqM t /\ Has l t) -> addTs l ts = some l
 | [],_ => rfl
 | t :: r,h => by
  rw [addTs,addT_has hl (h t (List.mem_cons_self ..)).1 (h t (List.mem_cons_self ..)).2]
  exact addTs_has hl r fun x hx => h x (List.mem_cons_of_mem _ hx)
theorem no_testsE (e : Gx) : (Gx.mk 17 [] v0 [e]).tests = e.tests:=by
 rw [tests_mkM,if_neg (by simp [Gx.settled,Gx.op]),if_pos (by simp [Gx.composed,Gx.op,Gx.args])]
 simp [Gx.args,testsL]
theorem cells_two {s : Sc} (hs : ScM s) (hf : s.kd ≠ 0 -> s.cuts ≠ []) : 2 <= (cellsS s).length:=by
 have hok:=okB_M hs hf
 obtain ⟨k,hk,e,h1 | h1⟩:=hs
 ·obtain ⟨se,skd,scuts⟩:=s
  obtain ⟨_,h2,h3⟩:=h1
  dsimp only at h2 h3
  subst h2 h3
  unfold cellsS
  rw [if_pos hok]
  show 2 <= ((List.range 2).filter fun c : Nat => Sc.poss ⟨se,0,[]⟩ (c : Int)).length
  have e0 : Sc.poss ⟨se,0,[]⟩ ((0 : Nat) : Int) = true:=by simp [Sc.poss,cntN,possN,isDay]
  have e1 : Sc.poss ⟨se,0,[]⟩ ((1 : Nat) : Int) = true:=by simp [Sc.poss,cntN,possN,isDay]
  rw [show List.range 2 = [0,1] from rfl,List.filter_cons_of_pos (p:=fun c : Nat => Sc.poss ⟨se,0,[]⟩ (c : Int)) e0,List.filter_cons_of_pos (p:=fun c : Nat => Sc.poss ⟨se,0,[]⟩ (c : Int)) e1]
  simp
 ·obtain ⟨h1,h2,h3,h4⟩:=h1
  have hkr:=kind_cut h1
  have h0 : s.kd ≠ 0:=by omega
  have hn : 1 <= s.cuts.length:=by
   have := hf h0
   cases hc : s.cuts with
   | nil => exact absurd hc this
   | cons a b => simp
  have hcnt : cntN s.kd s.cuts.length = 2 * s.cuts.length + 1:=by unfold cntN; rw [if_neg h0]
  have p1 : s.poss ((1 : Nat) : Int) = true:=by
   unfold Sc.poss
   rw [hcnt]
   have : possN s.kd s.cuts ((1 : Nat) : Int).toNat = true:=by unfold possN; simp
   rw [this]
   simp only [Bool.and_true,Bool.and_eq_true,decide_eq_true_eq]
   omega
  have p2 : s.poss ((2 * s.cuts.length : Nat) : Int) = true:=by
   unfold Sc.poss
   rw [hcnt]
   have hp : possN s.kd s.cuts (((2 * s.cuts.length : Nat) : Int)).toNat = true:=by
    unfold possN
    rw [show (((2 * s.cuts.length : Nat) : Int)).toNat = 2 * s.cuts.length by omega]
    have hlast : (s.cuts[s.cuts.length - 1]?.getD v0).i <= 8:=by
     rw [List.getElem?_eq_getElem (by omega),Option.getD_some]
     obtain ⟨m,hm,he⟩:=h4 _ (List.getElem_mem (by omega : s.cuts.length - 1 < s.cuts.length))
     rw [he]
     unfold wV
     split
     ·show (0 : Int) <= 8; omega
     ·show ((m : Nat) : Int) <= 8; omega
    have hhi : 65536 <= hiS s.kd s.cuts (2 * s.cuts.length):=by
     unfold hiS
     rw [if_neg (by omega)]
     split <;> omega
    have hlo : loS s.kd s.cuts (2 * s.cuts.length) <= 8:=by
     unfold loS
     rw [if_pos (by omega),show 2 * s.cuts.length / 2 - 1 = s.cuts.length - 1 by omega]
     exact hlast
    simp only [Bool.or_eq_true,decide_eq_true_eq]
    exact .inr (by omega)
   rw [hp]
   simp only [Bool.and_true,Bool.and_eq_true,decide_eq_true_eq]
   omega
  have := List.Nodup.length_le_of_subset (l₁:=[1,2 * s.cuts.length]) (l₂:=cellsS s) (by simp; omega) (fun c hc => by
   unfold cellsS
   rw [if_pos hok]
   unfold possL
   simp only [List.mem_cons,List.not_mem_nil,or_false] at hc
   rcases hc with rfl | rfl
   ·exact List.mem_filter.2 ⟨List.mem_range.2 (by omega),p1⟩
   ·exact List.mem_filter.2 ⟨List.mem_range.2 (by omega),p2⟩)
  simpa using this
end Go.Proofs.YtlidpghnlloinaaGreatDoor
