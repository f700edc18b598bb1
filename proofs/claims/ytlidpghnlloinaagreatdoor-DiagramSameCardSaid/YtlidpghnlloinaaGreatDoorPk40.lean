/- Contracts and plain laws, several texts in one (DOdo, DlSmS, DlSm0). No conditions beyond those stated. -/
import Derived.Test.YtlidpghnlloinaaGreatDoorPk35
set_option maxRecDepth 100000
set_option maxHeartbeats 40000000
namespace Go.Proofs.YtlidpghnlloinaaGreatDoor
set_option linter.unusedVariables false
def mulL : List Nat -> Nat
 | [] => 1
 | n :: ns => n * mulL ns
def odV : List Nat -> List Nat -> Nat
 | n :: ns,a :: ds => a * mulL ns + odV ns ds
 | _,_ => 0
def Digs (ns ds : List Nat) : Prop:=ds.length = ns.length /\ ∀ (i a n : Nat),ds[i]? = some a -> ns[i]? = some n -> a < n
theorem Digs.cons {n a : Nat} {ns ds : List Nat} (h : Digs (n :: ns) (a :: ds)) : a < n /\ Digs ns ds:=⟨h.2 0 a n rfl rfl,by simpa using h.1,fun i a n h1 h2 => h.2 (i + 1) a n h1 h2⟩
theorem odV_lt : ∀ (ns ds : List Nat),Digs ns ds -> odV ns ds < mulL ns
 | [],[],_ => by show 0 < 1; omega
 | [],_ :: _,h => by cases h.1
 | _ :: _,[],h => by cases h.1
 | n :: ns,a :: ds,h => by
  obtain ⟨h1,h2⟩:=h.cons
  have := odV_lt ns ds h2
  show a * mulL ns + odV ns ds < n * mulL ns
  have h3 : (a + 1) * mulL ns <= n * mulL ns:=Nat.mul_le_mul_right _ h1
  rw [Nat.add_mul,Nat.one_mul] at h3
  omega
theorem odV_set : ∀ (ns ds : List Nat) (i a x : Nat),ds.length = ns.length -> ds[i]? = some a -> odV ns (ds.set i x) + a * mulL (ns.drop (i + 1)) = odV ns ds + x * mulL (ns.drop (i + 1))
 | [],[],i,a,x,_,h => by cases h
 | [],_ :: _,_,_,_,h,_ => by cases h
 | _ :: _,[],_,_,_,h,_ => by cases h
 | n :: ns,b :: ds,0,a,x,hl,h => by
  cases h
  show x * mulL ns + odV ns ds + b * mulL ns = b * mulL ns + odV ns ds + x * mulL ns
  omega
 | n :: ns,b :: ds,i + 1,a,x,hl,h => by
  have := odV_set ns ds i a x (by simpa using hl) h
  show b * mulL ns + odV ns (ds.set i x) + a * mulL (ns.drop (i + 1)) = b * mulL ns + odV ns ds + x * mulL (ns.drop (i + 1))
  omega
theorem mulL_drop {ns : List Nat} {i n : Nat} (h : ns[i]? = some n) : mulL (ns.drop i) = n * mulL (ns.drop (i + 1)):=by
 obtain ⟨hi,rfl⟩:=List.getElem?_eq_some_iff.1 h
 rw [List.drop_eq_getElem_cons hi]; rfl
structure Odo (ns ds0 ds : List Nat) (i : Nat) : Prop where
 digs : Digs ns ds
 val : odV ns ds + mulL (ns.drop i) = odV ns ds0 + 1
theorem Odo.start {ns ds : List Nat} (h : Digs ns ds) : Odo ns ds ds ns.length:=⟨h,by rw [List.drop_of_length_le (Nat.le_refl _)]; rfl⟩
theorem Odo.up {ns ds0 ds : List Nat} {i a n : Nat} (h : Odo ns ds0 ds (i + 1)) (ha : ds[i]? = some a) (hn : ns[i]? = some n) (hlt : a + 1 < n) : Digs ns (ds.set i (a + 1)) /\ odV ns (ds.set i (a + 1)) = odV ns ds0 + 1:=by
 refine ⟨⟨by rw [List.length_set]; exact h.digs.1,fun j b m hb hm => ?_⟩,?_⟩
 ·by_cases e : i = j
  ·subst e
   rw [List.getElem?_set_self (List.getElem?_eq_some_iff.1 ha).1] at hb
   cases hb
   rw [hn] at hm
   cases hm
   exact hlt
  ·rw [List.getElem?_set_ne e] at hb
   exact h.digs.2 j b m hb hm
 ·have h1:=odV_set ns ds i a (a + 1) h.digs.1 ha
  have h2:=h.val
  rw [Nat.add_mul,Nat.one_mul] at h1
  omega
theorem Odo.carry {ns ds0 ds : List Nat} {i a n : Nat} (h : Odo ns ds0 ds (i + 1)) (ha : ds[i]? = some a) (hn : ns[i]? = some n) (hlt : ¬ a + 1 < n) : Odo ns ds0 (ds.set i 0) i:=by
 have han:=h.digs.2 i a n ha hn
 have e : a + 1 = n:=by omega
 refine ⟨⟨by rw [List.length_set]; exact h.digs.1,fun j b m hb hm => ?_⟩,?_⟩
 ·by_cases e : i = j
  ·subst e
   rw [List.getElem?_set_self (List.getElem?_eq_some_iff.1 ha).1] at hb
   cases hb
   rw [hn] at hm
   cases hm
   omega
  ·rw [List.getElem?_set_ne e] at hb
   exact h.digs.2 j b m hb hm
 ·have h1:=odV_set ns ds i a 0 h.digs.1 ha
  have h2:=h.val
  rw [mulL_drop hn,<- e,Nat.add_mul,Nat.one_mul]
  omega
theorem digs_cells {P : List (List Nat)} {ds : List Nat} (h : Digs (P.map List.length) ds) : CellsIn P (List.zipWith (fun p a => p[a]?.getD 0) P ds):=by
 have hl : ds.length = P.length:=by simpa using h.1
 refine ⟨by rw [List.length_zipWith,hl,Nat.min_self],fun i c hc => ?_⟩
 rw [List.getElem?_zipWith] at hc
 cases hp : P[i]? with
 | none => rw [hp] at hc; simp at hc
 | some p =>
  cases ha : ds[i]? with
  | none => rw [hp,ha] at hc; simp at hc
  | some a =>
   rw [hp,ha] at hc
   simp only [Option.some.injEq] at hc
   subst hc
   have hlt:=h.2 i a p.length ha (by rw [List.getElem?_map,hp]; rfl)
   refine ⟨p,rfl,?_⟩
   rw [List.getElem?_eq_getElem hlt,Option.getD_some]
   exact List.getElem_mem hlt
open Go.RowKit
def smB (k : Nat) (a : Gx) : Gx :=
 if k = 0 then .mk 17 [] v0 [.mk 17 [] v0 [a]] else if k = 1 then .mk 15 [] v0 [a,a] else if k = 2 then .mk 16 [] v0 [a,a] else .mk 18 [] v0 [a,a,a]
theorem smB_md (k : Nat) (m : List Nat) : Md (smB k (cmA m)) /\ fits (smB k (cmA m)) = true:=by
 have ha:=(cmA_md m).1
 have h1:=madeM_size3 6 (m.take 20)
 have h2:=madeM_depth 6 (m.take 20)
 have h3:=take20 m
 refine ⟨?_,?_⟩
 ·unfold smB
  split
  ·exact .no _ (.no _ ha)
  ·split
   ·exact .two _ _ _ (.inl rfl) ha ha
   ·split
    ·exact .two _ _ _ (.inr rfl) ha ha
    ·exact .ite _ _ _ ha ha ha
 ·unfold smB cmA fits
  split
  ·simp only [Gx.parts,partsL,Gx.depth,depthL,Bool.and_eq_true]
   exact ⟨decide_eq_true (by omega),decide_eq_true (by omega)⟩
  ·split
   ·simp only [Gx.parts,partsL,Gx.depth,depthL,Bool.and_eq_true]
    exact ⟨decide_eq_true (by omega),decide_eq_true (by omega)⟩
   ·split
    ·simp only [Gx.parts,partsL,Gx.depth,depthL,Bool.and_eq_true]
     exact ⟨decide_eq_true (by omega),decide_eq_true (by omega)⟩
    ·simp only [Gx.parts,partsL,Gx.depth,depthL,Bool.and_eq_true]
     exact ⟨decide_eq_true (by omega),decide_eq_true (by omega)⟩
theorem smB_parts (k : Nat) (m : List Nat) : (smB k (cmA m)).parts <= 2 ^ 20:=by
 have h:=(smB_md k m).2
 unfold fits at h
 rw [Bool.and_eq_true] at h
 have := of_decide_eq_true h.1
 omega
theorem smB_tests (k : Nat) (a : Gx) : ∃ r,(smB k a).tests = a.tests ++ r /\ ∀ t ∈ r,t ∈ a.tests:=by
 unfold smB
 split
 ·exact ⟨[],by rw [no_testsE,no_testsE,List.append_nil],fun t h => by cases h⟩
 ·split
  ·exact ⟨a.tests,two_tests (.inl rfl) a a,fun t h => h⟩
  ·split
   ·exact ⟨a.tests,two_tests (.inr rfl) a a,fun t h => h⟩
   ·exact ⟨a.tests ++ a.tests,ite_tests a a a,fun t h => by rcases List.mem_append.1 h with h | h <;> exact h⟩
theorem smB_ev (k : Nat) (m : List Nat) {l : List Sc} {cs : List Nat} (hl : LM l) (hf : Full l) (hcs : CellsIn (pcs l) cs) (h : ∀ t ∈ (cmA m).tests,Has l (testOf t)) : evG l cs (smB k (cmA m)) = evG l cs (cmA m):=by
 have hfit:=(smB_md k m).2
 obtain ⟨ha,fa⟩:=cmA_md m
 unfold smB at hfit ⊢
 split
 ·rw [if_pos (by assumption)] at hfit
  rw [ev_no hl hf hcs (.no _ ha) (cmN_md m).2 hfit (by rw [no_testsE]; exact h),ev_no hl hf hcs ha fa (cmN_md m).2 h,Bool.not_not]
 ·rw [if_neg (by assumption)] at hfit
  split
  ·rw [if_pos (by assumption)] at hfit
   exact ev_two (.inl rfl) hl hf hcs ha fa hfit h
  ·rw [if_neg (by assumption)] at hfit
   split
   ·rw [if_pos (by assumption)] at hfit
    exact ev_two (.inr rfl) hl hf hcs ha fa hfit h
   ·rw [if_neg (by assumption)] at hfit
    exact ev_ite hl hf hcs ha fa hfit h
theorem prM_two (m n : List Nat) : prM m n = [cmA m,cmA n]:=rfl
theorem sm_same (k : Nat) {m n : List Nat} {ls : List Sc} (hs : prS m n = ls) (hLM : LM ls) (hLF : Full ls) (hh : ∀ e ∈ prM m n,∀ t ∈ e.tests,Has ls (testOf t)) : scalesS [smB k (cmA m),cmA n] = (ls,0) /\ stO ls [smB k (cmA m),cmA n] = (prT m n).2 /\ rtO ls [smB k (cmA m),cmA n] = (prT m n).1:=by
 obtain ⟨l,h1,h2,_⟩:=@pr_scs m n
 rw [hs] at h1
 subst h1
 obtain ⟨r,hr,hsub⟩:=smB_tests k (cmA m)
 obtain ⟨hb,fb⟩:=smB_md k m
 have e1 : scalesS [smB k (cmA m),cmA n] = (ls,0):=scales_same (cmA_md m).1 (cmA_md n).1 (cmA_md m).2 fb (cmA_md n).2 hr hsub h2
 have e2 : tgt (lfS ls [smB k (cmA m),cmA n]) (pcs ls) 0 [] DSt.no = prT m n:=by
  unfold prT
  rw [hs]
  refine tgt_congr (P:=pcs ls) (fun cs hcs => ?_) (pcs ls) 0 [] DSt.no rfl CellsIn.nil (Nat.zero_le _)
  rw [prM_two,lfS_two,lfS_two,smB_ev k m hLM hLF hcs (hh _ (by rw [prM_two]; exact List.mem_cons_self ..))]
 exact ⟨e1,by unfold stO; rw [e2],by unfold rtO; rw [e2]⟩
theorem exg_three {K b : Nat} {w : World} {o : Int} {e1 e2 e3 : Gx} {x y z : Xv} (hq : Blk w b (cells3 x y z) 49) (hb : b < K) (h1 : ExG K w e1 x) (h2 : ExG K w e2 y) (h3 : ExG K w e3 z) : ExG K w (.mk o [] v0 [e1,e2,e3]) (opX o ⟨some ⟨b,0,none⟩,3,3⟩):=by
 refine ExG.make rfl rfl (by simp [Gx.nm,maxLen]) (vv0_is K w) (g3x x y z) (rows_ex hq hb _ (fun i hi j hj => ?_) (by simp [maxLen])) fun j a ha => ?_
 ·rcases i with _ | _ | _ | i
  ·rcases j with _ | _ | _ | _ | _ | _ | _ | _ | _ | j <;> first | rfl | omega
  ·rcases j with _ | _ | _ | _ | _ | _ | _ | _ | _ | j <;> first | rfl | omega
  ·rcases j with _ | _ | _ | _ | _ | _ | _ | _ | _ | j <;> first | rfl | omega
  ·have hi3 : i + 1 + 1 + 1 < 3:=hi
   omega
 ·rcases j with _ | _ | _ | j
  ·cases ha; exact h1
  ·cases ha; exact h2
  ·cases ha; exact h3
  ·cases ha
theorem infoIntsS : (Tryz.prog.info? 56).map (fun i => (i.zero,i.size,i.bytes)) = some (some (.slice none 0 0),1,24):=by kernel_rfl
theorem make_intssD (n : Nat) (hn : n <= 2 ^ 38) (w : World) : (Instr.makeSlice 27 (.int .i64 n) (.int .i64 n)).run Tryz.prog w = .ok (.slice (some ⟨w.heap.size,0,none⟩) n n) (w.alloc (.cells (arrD n fun _ => .slice none 0 0) 56)):=by
 obtain ⟨i0,hi,hz0,hz1,hz2⟩:=info_parts infoIntsS
 have h:=run_make (P:=Tryz.prog) w 27 56 i0 _ Tryz.underlying27 hi hz0 .i64 .i64 n n (by omega) (Int.le_refl _) (by rw [hz2]; omega) (by omega)
 rw [hz1,Int.toNat_natCast] at h
 rw [h]
 have := made_oneD (.slice none 0 0) n
 simp only [Value.cells] at this ⊢
 rw [this]
theorem own_far {base b : Nat} {W : World} {v : Value} {l : List Nat} (h : OwnN base W v l) (hb : b < base) : v.ownBlock = none \/ v.ownBlock ≠ some b:=by
 cases e : v.ownBlock with
 | none => exact .inl rfl
 | some g =>
  right
  intro e2
  have := (ownsRow_cells h e).1
  simp only [Option.some.injEq] at e2
  omega
structure CelT (M : Nat) (w : World) (n : Nat) (h : Nat -> Value) (P : List (List Nat)) (i : Nat) : Prop where
 blk : Blk w M (arrD n h) 56
 own : ∀ j p,j < i -> P[j]? = some p -> OwnN (M + 2) w (h j) p
theorem CelT.put {M n i : Nat} {w w' : World} {h : Nat -> Value} {P : List (List Nat)} {v : Value} {p : List Nat} (hc : CelT M w n h P i) (hb : Below w.heap.size w w') (hv : OwnN w.heap.size w' v p) (hp : P[i]? = some p) (hi : i < n) (hm : M + 2 <= w.heap.size) :
  CelT M (w'.setCell ⟨M,i,none⟩ v) n (fun k => if k = i then v else h k) P (i + 1):=by
 have hk:=grownBy_setCell w' M i v
 refine ⟨?_,fun j q hj hq => ?_⟩
 ·rw [<- arrD_set]
  exact (hc.blk.below hb hc.blk.lt).set _
 ·by_cases e : j = i
  ·subst e
   rw [hp] at hq
   cases hq
   rw [if_pos rfl]
   exact (hv.mono hm).kept hk (own_far (hv.mono hm) (by omega))
  ·rw [if_neg e]
   have h1:=(hc.own j q (by omega) hq).old hb (Nat.le_refl _)
   exact h1.kept hk (own_far h1 (by omega))
theorem CelT.go {M n i : Nat} {w w' : World} {h : Nat -> Value} {P : List (List Nat)} (hc : CelT M w n h P i) (hg : w.grownBy w' (some (M + 1))) : CelT M w' n h P i :=
 ⟨grown_blk hg hc.blk (by omega),fun j p hj hp => (hc.own j p hj hp).kept hg (own_far (hc.own j p hj hp) (by omega))⟩
theorem grown_drew {w w' : World} {row : Option Nat} (h : w.grownBy w' row) : w.grownBy w'.drew row:=⟨h.os,h.tape,h.output,h.size,h.block⟩
def digC (P : List (List Nat)) (ds : List Nat) : List Nat:=List.zipWith (fun p a => p[a]?.getD 0) P ds
theorem digs_zero (ns : List Nat) (h : ∀ n ∈ ns,0 < n) : Digs ns (List.replicate ns.length 0):=by
 refine ⟨by simp,fun i a n ha hn => ?_⟩
 obtain ⟨h1,rfl⟩:=List.getElem?_eq_some_iff.1 ha
 rw [List.getElem_replicate]
 exact h n (List.mem_of_getElem? hn)
theorem map_Z_set (ds : List Nat) (i x : Nat) : ((ds.map Z).toArray).setIfInBounds i (Z x) = ((ds.set i x).map Z).toArray:=by
 rw [List.setIfInBounds_toArray,List.map_set]
theorem digC_at {P : List (List Nat)} {ds : List Nat} {i a : Nat} {p : List Nat} (hp : P[i]? = some p) (ha : ds[i]? = some a) : (digC P ds)[i]? = some (p[a]?.getD 0):=by
 unfold digC
 rw [List.getElem?_zipWith,hp,ha]
end Go.Proofs.YtlidpghnlloinaaGreatDoor
