/- Contracts and plain laws, several texts in one (DProd, DlCmS). No conditions beyond those stated. -/
import Derived.Test.YtlidpghnlloinaaGreatDoorPk31
import Derived.Test.YtlidpghnlloinaaGreatDoorPk34
set_option maxRecDepth 100000
set_option maxHeartbeats 40000000
namespace Go.Proofs.YtlidpghnlloinaaGreatDoor
set_option linter.unusedVariables false
def shiftC (k c : Nat) : Nat:=if c < 2 * k then c else if c = 2 * k then 2 * k + 1 else c + 2
theorem shiftC_inj {k a b : Nat} (h : shiftC k a = shiftC k b) : a = b:=by
 unfold shiftC at h
 split at h <;> split at h <;> (try split at h) <;> (try split at h) <;> omega
theorem possN_ins {kd : Int} {l : List Vq} {v : Vq} {k c : Nat} (hk : k <= l.length) (hc : c < 2 * l.length + 1) (h : possN kd l c = true) : possN kd (l.take k ++ v :: l.drop k) (shiftC k c) = true:=by
 have hl : (l.take k ++ v :: l.drop k).length = l.length + 1:=by simp; omega
 have at1 : ∀ j,j < k -> (l.take k ++ v :: l.drop k)[j]? = l[j]? := fun j hj => by
  rw [List.getElem?_append_left (by rw [List.length_take]; omega),List.getElem?_take,if_pos hj]
 have at2 : ∀ j,k <= j -> (l.take k ++ v :: l.drop k)[j + 1]? = l[j]? := fun j hj => by
  have ht : (l.take k).length = k:=by rw [List.length_take]; omega
  rw [List.getElem?_append_right (by omega),ht,show j + 1 - k = (j - k) + 1 by omega,List.getElem?_cons_succ,List.getElem?_drop]
  congr 1; omega
 unfold possN at h ⊢
 unfold shiftC
 cases hd : isDay kd
 ·simp
 ·rw [hd] at h
  simp only [Bool.not_true,Bool.false_or,Bool.or_eq_true,beq_iff_eq,decide_eq_true_eq] at h ⊢
  split
  ·rename_i hlt
   rcases h with h | h
   ·exact .inl h
   ·right
    have e1 : loS kd (l.take k ++ v :: l.drop k) c = loS kd l c:=by
     unfold loS
     split
     ·rw [at1 (c / 2 - 1) (by omega)]
     ·rfl
    have e2 : hiS kd (l.take k ++ v :: l.drop k) c = hiS kd l c:=by
     unfold hiS
     rw [hl,if_pos (by omega),if_pos (by omega),at1 (c / 2) (by omega)]
    rw [e1,e2]; exact h
  ·split
   ·left; omega
   ·rename_i h1 h2
    rcases h with h | h
    ·left; omega
    ·by_cases hodd : c % 2 = 1
     ·left; omega
     ·right
      have e1 : loS kd (l.take k ++ v :: l.drop k) (c + 2) = loS kd l c:=by
       unfold loS
       rw [if_pos (by omega),if_pos (by omega),show (c + 2) / 2 - 1 = (c / 2 - 1) + 1 by omega,at2 (c / 2 - 1) (by omega)]
      have e2 : hiS kd (l.take k ++ v :: l.drop k) (c + 2) = hiS kd l c:=by
       unfold hiS
       rw [hl,show (c + 2) / 2 = c / 2 + 1 by omega]
       by_cases hcl : c / 2 < l.length
       ·rw [if_pos (by omega),if_pos hcl,at2 (c / 2) (by omega)]
       ·rw [if_neg (by omega),if_neg hcl]
      rw [e1,e2]; exact h
theorem cells_ins {s : Sc} {v : Vq} {k : Nat} (hk : k <= s.cuts.length) (h0 : s.kd ≠ 0) (hok : ({ s with cuts:=s.cuts.take k ++ v :: s.cuts.drop k } : Sc).okB = true) : (cellsS s).length <= (cellsS { s with cuts:=s.cuts.take k ++ v :: s.cuts.drop k }).length:=by
 have hl : (s.cuts.take k ++ v :: s.cuts.drop k).length = s.cuts.length + 1:=by simp; omega
 have hnd : ((cellsS s).map (shiftC k)).Nodup:=by
  refine List.Pairwise.map _ (fun a b (hab : a ≠ b) => ?_) (cellsS_nodup s)
  exact fun e => hab (shiftC_inj e)
 have := List.Nodup.length_le_of_subset hnd (l₂:=cellsS { s with cuts:=s.cuts.take k ++ v :: s.cuts.drop k }) (fun x hx => by
  obtain ⟨c,hc,rfl⟩:=List.mem_map.1 hx
  unfold cellsS at hc
  split at hc
  ·unfold possL at hc
   obtain ⟨h1,h2⟩:=List.mem_filter.1 hc
   have h1:=List.mem_range.1 h1
   unfold cntN at h1
   rw [if_neg h0] at h1
   unfold Sc.poss at h2
   simp only [Bool.and_eq_true,decide_eq_true_eq,Int.toNat_natCast] at h2
   have hp:=possN_ins (v:=v) hk h1 h2.2
   unfold cellsS
   rw [if_pos hok]
   unfold possL
   have hlt : shiftC k c < 2 * (s.cuts.length + 1) + 1:=by unfold shiftC; split <;> (try split) <;> omega
   refine List.mem_filter.2 ⟨List.mem_range.2 (by unfold cntN; rw [if_neg h0,hl]; exact hlt),?_⟩
   unfold Sc.poss
   simp only [Bool.and_eq_true,decide_eq_true_eq,Int.toNat_natCast]
   refine ⟨⟨by omega,?_⟩,hp⟩
   unfold cntN; rw [if_neg h0,hl]; omega
  ·cases hc)
 simpa using this
theorem cells_insC {s : Sc} {v : Vq} {cuts : List Vq} (h : insC s.cuts v = some cuts) (h0 : s.kd ≠ 0) (hok : ({ s with cuts:=cuts } : Sc).okB = true) : (cellsS s).length <= (cellsS { s with cuts:=cuts }).length:=by
 unfold insC at h
 split at h
 ·cases h; exact Nat.le_refl _
 ·split at h
  ·cases h
  ·cases h
   exact cells_ins (by unfold srch; exact List.findIdx_le_length) h0 hok
theorem prodL_app2 (a b : List (List Nat)) : prodL (a ++ b) = prodL a * prodL b:=by
 induction a with
 | nil => simp [prodL]
 | cons p r ih => simp only [List.cons_append,prodL]; rw [ih,Nat.mul_assoc]
theorem prodL_set : ∀ (l : List (List Nat)) (i : Nat) (p q : List Nat),l[i]? = some p -> p.length <= q.length -> prodL l <= prodL (l.set i q)
 | [],i,p,q,h,_ => by cases h
 | a :: r,0,p,q,h,hl => by
  cases h
  simp only [List.set_cons_zero,prodL]
  exact Nat.mul_le_mul_right _ hl
 | a :: r,i + 1,p,q,h,hl => by
  simp only [List.set_cons_succ,prodL]
  exact Nat.mul_le_mul_left _ (prodL_set r i p q h hl)
theorem addT_prod {l l' : List Sc} {t : Tq} (h : LM l) (ht : TqM t) (hf : Full l) (he : addT l t = some l') (hl' : LM l') (hf' : Full l') : prodL (pcs l) <= prodL (pcs l'):=by
 have hok' : ∀ s ∈ l',s.okB = true:=fun s hs => okB_M (hl'.each s hs) (hf' s hs)
 have ins : ∀ (l0 : List Sc) (i : Nat) (s : Sc),l0[i]? = some s -> insS l0 i t = some l' -> (t.kd ≠ 0 -> s.kd ≠ 0) -> prodL (pcs l0) <= prodL (pcs l'):=by
  intro l0 i s hi h1 hk
  have hlt:=(List.getElem?_eq_some_iff.1 hi).1
  unfold insS at h1
  split at h1
  ·cases h1; exact Nat.le_refl _
  ·rename_i h0
   rw [hi,Option.getD_some] at h1
   obtain ⟨cuts,hc,rfl⟩:=Option.map_eq_some_iff.1 h1
   unfold pcs
   rw [List.map_set]
   refine prodL_set _ i (cellsS s) _ (by rw [List.getElem?_map,hi]; rfl) (cells_insC hc (hk h0) (hok' _ ?_))
   exact List.mem_of_getElem? (i:=i) (by rw [List.getElem?_set]; simp [hlt])
 unfold addT at he
 dsimp only at he
 split at he
 ·rename_i hlt
  have hb : t.belongs (l[l.findIdx t.belongs]'hlt) = true:=List.findIdx_getElem (w:=hlt)
  exact ins l _ _ (List.getElem?_eq_getElem hlt) he (fun h0 => by rw [<- (belongs_iff.1 hb).1]; exact h0)
 ·split at he
  ·cases he
  ·have happ : ∃ s',l' = l ++ [s']:=by
    unfold insS at he
    split at he
    ·cases he; exact ⟨_,rfl⟩
    ·obtain ⟨cuts,hc,rfl⟩:=Option.map_eq_some_iff.1 he
     exact ⟨_,by rw [List.set_append_right _ _ (Nat.le_refl _),Nat.sub_self]; rfl⟩
   obtain ⟨s',rfl⟩:=happ
   unfold pcs
   rw [List.map_append,prodL_app2]
   have hm : s' ∈ l ++ [s']:=by simp
   have hne:=cells_ne (hl'.each s' hm) (hf' s' hm)
   have h1 : 1 <= (cellsS s').length:=Nat.pos_of_ne_zero fun e => hne (List.eq_nil_of_length_eq_zero e)
   show _ <= _ * ((cellsS s').length * 1)
   rw [Nat.mul_one]
   exact Nat.le_mul_of_pos_right _ h1
theorem addTs_prod : ∀ (ts : List Tq) (l l' : List Sc),LM l -> Full l -> (∀ t ∈ ts,TqM t) -> addTs l ts = some l' -> prodL (pcs l) <= prodL (pcs l')
 | [],l,l',_,_,_,he => by cases he; exact Nat.le_refl _
 | t :: r,l,l',h,hf,ht,he => by
  obtain ⟨l1,e1,h1,f1,_,_⟩:=addT_M h (ht t (List.mem_cons_self ..)) hf
  rw [addTs,e1] at he
  exact Nat.le_trans (addT_prod h (ht t (List.mem_cons_self ..)) hf e1 h1 f1) (addTs_prod r l1 l' h1 f1 (fun x hx => ht x (List.mem_cons_of_mem _ hx)) he)
theorem scales_two {a b c : Gx} {l : List Sc} (ha : Md a) (hb : Md b) (hc : Md c) (fa : fits a = true) (fb : fits b = true) (fc : fits c = true) (h : scalesS [a,c] = (l,0)) (hsub : ∀ t ∈ b.tests,t ∈ a.tests) :
  ∃ l1,scalesS [a,b] = (l1,0) /\ LM l1 /\ Full l1 /\ (∀ t ∈ a.tests,Has l1 (testOf t)) /\ prodL (pcs l1) <= prodL (pcs l):=by
 obtain ⟨l1,h1,h2,h3,h4,h5⟩:=addTs_M (a.tests.map testOf) [] ⟨fun s hs => (by cases hs),by simp⟩ (fun s hs => by cases hs) (fun t ht => by
  obtain ⟨x,hx,rfl⟩:=List.mem_map.1 ht
  exact md_tests ha x hx)
 have e1 : addTs l1 (b.tests.map testOf) = some l1:=addTs_has h2 _ fun t ht => by
  obtain ⟨x,hx,rfl⟩:=List.mem_map.1 ht
  exact ⟨md_tests ha x (hsub x hx),h4 _ (List.mem_map.2 ⟨x,hsub x hx,rfl⟩)⟩
 have t1 : testsL [a,b] = a.tests ++ b.tests:=by simp [testsL]
 have t2 : testsL [a,c] = a.tests ++ c.tests:=by simp [testsL]
 refine ⟨l1,?_,h2,h3,fun t ht => h4 _ (List.mem_map.2 ⟨t,ht,rfl⟩),?_⟩
 ·unfold scalesS
  rw [if_pos (by simp [fa,fb]),t1,List.map_append,addTs_append,h1]
  simp only [Option.bind_some]
  rw [e1]
 ·unfold scalesS at h
  rw [if_pos (by simp [fa,fc]),t2,List.map_append,addTs_append,h1] at h
  simp only [Option.bind_some] at h
  refine addTs_prod (c.tests.map testOf) l1 l h2 h3 (fun t ht => by
   obtain ⟨x,hx,rfl⟩:=List.mem_map.1 ht
   exact md_tests hc x hx) ?_
  cases hh : addTs l1 (c.tests.map testOf) with
  | none => rw [hh] at h; simp at h
  | some l2 => rw [hh] at h; simp at h; rw [h]
open Go.RowKit
theorem srch_uni {scs : List Sc} {st : DSt} {root : Int} {Wp : List Nat -> Bool} {B : Nat} {e : Ending} {w' : World} (h : SrchQ scs st root Wp B e w') :
  ∃ (a : Option Addr) (n c : Nat) (x : Bool),e = .returned (.tuple #[.slice a n c,.bool x]) /\ (x = true ↔ Gets st Wp root) /\ (x = true -> ∃ cs l,OwnN B w' (.slice a n c) cs /\ CellsIn (pcs scs) cs /\ Evals (pcs scs) st cs root l /\ Wp l = true):=by
 rcases h with ⟨rfl,hn⟩ | ⟨v,cs,l,rfl,ho,hc,hev,hw,_⟩
 ·exact ⟨none,0,0,false,rfl,⟨fun h => (by cases h),fun h => absurd h hn⟩,fun h => by cases h⟩
 ·obtain ⟨a,c,rfl,_,_⟩:=id ho.form
  refine ⟨a,cs.length,c,true,rfl,⟨fun _ => ?_,fun _ => rfl⟩,fun _ => ⟨cs,l,ho,hc,hev,hw⟩⟩
  obtain ⟨k,hk,hl⟩:=hev.reach
  exact ⟨k,l,hk,hl,hw⟩
theorem comp_not {P : List (List Nat)} {lf : List Nat -> List Nat} {st : DSt} {root : Int} (hd : DgOk P lf st root) {x y r : Bool} (hx : x = true ↔ Gets st (fun l => l.length == 0) root) (hy : y = true ↔ Gets st (fun l => decide (1 < l.length)) root)
  (hr : r = true ↔ ¬ Gets st (fun l => l.length != 1) root) : r = !(x || y):=by
 have h1:=one_iff st.lvs
 rw [<- hd.gets (fun l => l.length != 1),<- hd.gets (fun l => l.length == 0),<- hd.gets (fun l => decide (1 < l.length)),<- hx,<- hy] at h1
 rw [h1] at hr
 clear h1 hx hy
 cases x <;> cases y <;> cases r <;> simp at hr ⊢
def cmA (m : List Nat) : Gx:=(madeM 6 (m.take 20)).1
def cmN (m : List Nat) : Gx:=.mk 17 [] v0 [cmA m]
theorem cmA_md (m : List Nat) : Md (cmA m) /\ fits (cmA m) = true:=⟨madeM_md 6 _,made_fits2 _ (by have := take20 m; omega)⟩
theorem cmN_md (m : List Nat) : Md (cmN m) /\ fits (cmN m) = true:=by
 refine ⟨.no _ (cmA_md m).1,?_⟩
 have h1:=madeM_size 6 (m.take 20)
 have h2:=madeM_depth 6 (m.take 20)
 have h3:=take20 m
 unfold fits cmN cmA
 simp only [Gx.parts,partsL,Gx.depth,depthL,Bool.and_eq_true]
 exact ⟨decide_eq_true (by omega),decide_eq_true (by omega)⟩
theorem cmN_tests (m : List Nat) : (cmN m).tests = (cmA m).tests:=no_testsE _
theorem cm_parts (m : List Nat) : (cmA m).parts <= 2 ^ 20 /\ (cmN m).parts <= 2 ^ 20:=by
 have h1:=madeM_size 6 (m.take 20)
 have h3:=take20 m
 unfold cmN cmA
 simp only [Gx.parts,partsL]
 omega
theorem cm_scales {m n : List Nat} (hf : fitP m n = true) {b : Gx} (hb : b = cmN m \/ b = cmA m) : ∃ l,scalesS [cmA m,b] = (l,0) /\ LM l /\ Full l /\ (∀ t ∈ (cmA m).tests,Has l (testOf t)) /\ prodL (pcs l) <= 300:=by
 have hp:=prod_300 hf
 obtain ⟨l0,h1,h2,_,_,_⟩:=@pr_scs m n
 rw [h1] at hp
 obtain ⟨ha,fa⟩:=cmA_md m
 have hbm : Md b /\ fits b = true:=by
  rcases hb with rfl | rfl
  ·exact cmN_md m
  ·exact cmA_md m
 have hsub : ∀ t ∈ b.tests,t ∈ (cmA m).tests:=by
  rcases hb with rfl | rfl
  ·rw [cmN_tests]; exact fun t h => h
  ·exact fun t h => h
 obtain ⟨hc,fc⟩:=@prM_md m n (madeM 6 (n.take 20)).1 (by unfold prM; simp)
 obtain ⟨l,g1,g2,g3,g4,g5⟩:=scales_two ha hbm.1 hc fa hbm.2 fc h2 hsub
 exact ⟨l,g1,g2,g3,g4,by omega⟩
theorem cm_whole {m : List Nat} {l : List Sc} (hLM : LM l) (hLF : Full l) (hh : ∀ t ∈ (cmA m).tests,Has l (testOf t)) : ¬ Gets (stO l [cmA m,cmN m]) (fun l => l.length != 1) (rtO l [cmA m,cmN m]):=by
 have hd:=dgO l [cmA m,cmN m] (pcs_ok hLM hLF)
 rw [hd.gets,hd.leaves]
 rintro ⟨cs,hcs,hw⟩
 have := lfS_no hLM hLF hcs (cmA_md m).1 (cmA_md m).2 (cmN_md m).2 hh
 rw [show lfS l [cmA m,cmN m] cs = lfS l [cmA m,.mk 17 [] v0 [cmA m]] cs from rfl,this] at hw
 simp at hw
theorem cm_twice {m : List Nat} {l : List Sc} (hLM : LM l) (hLF : Full l) : Gets (stO l [cmA m,cmA m]) (fun l => l.length != 1) (rtO l [cmA m,cmA m]):=by
 have hd:=dgO l [cmA m,cmA m] (pcs_ok hLM hLF)
 rw [hd.gets,hd.leaves]
 obtain ⟨cs,hcs⟩:=some_cells (pcs_ok hLM hLF)
 exact ⟨cs,hcs,by simpa using lfS_same l (cmA m) cs⟩
theorem cm_dgv {l : List Sc} (es : List Gx) (hLM : LM l) (hLF : Full l) (hp : prodL (pcs l) <= 300) : DgV l (stO l es) (rtO l es) :=
 dgv_ok es (by have := LM.len hLM; omega) (sc_okB hLM hLF) (pcs_ok hLM hLF) (by omega)
theorem exg_oneOf2 {b : Nat} {K : Nat} {w : World} {x y : Xv} {e : Gx} (hq : Blk w b (cells2 x y) 49) (hb : b < K) (hx : ExG K w e x) : ExG K w (.mk 17 [] v0 [e]) (opX 17 ⟨some ⟨b,0,none⟩,1,2⟩):=by
 refine ExG.make rfl rfl (by simp [Gx.nm,maxLen]) (vv0_is K w) (fun _ => x) ?_ fun j a ha => ?_
 ·refine RowsV.mk_cells (n:=1) (cap:=2) (by decide) (by simp [maxLen]) hb fun i hi j hj => ?_
  obtain rfl : i = 0:=by omega
  rw [Nat.zero_mul,Nat.zero_add,Nat.zero_add]
  rcases j with _ | _ | _ | _ | _ | _ | _ | _ | _ | j
  case succ.succ.succ.succ.succ.succ.succ.succ.succ => omega
  all_goals exact hq.at rfl
 ·rcases j with _ | j
  ·cases ha; exact hx
  ·cases ha
end Go.Proofs.YtlidpghnlloinaaGreatDoor
