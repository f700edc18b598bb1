/- Contracts and plain laws, several texts in one (GOwn, GOkS, GScl0). No conditions beyond those stated. -/
import Derived.Test.YtlidpghnlloinaaGreatDoorPk8
import Derived.Test.YtlidpghnlloinaaGreatDoorPk11
set_option maxRecDepth 100000
set_option maxHeartbeats 40000000
namespace Go.Proofs.YtlidpghnlloinaaGreatDoor
open Go.RowKit
set_option linter.unusedVariables false
def sv0 : Sv:=⟨xz,0,⟨none,0,0⟩⟩
def Keeps (base : Nat) (w w' : World) : Prop:=(∀ b o,base <= b -> w.heap[b]? = some o -> o.isCells = true -> w'.heap[b]? = some o) /\ w.heap.size <= w'.heap.size
theorem ownsRow_move {base T c n : Nat} {w w' : World} {v : Value} {xs : List Value} (h : w.ownsRow base T c v n xs) (hk : ∀ g o,v.ownBlock = some g -> w.heap[g]? = some o -> o.isCells = true -> w'.heap[g]? = some o) : w'.ownsRow base T c v n xs:=by
 obtain ⟨h1,h2⟩:=h
 refine ⟨h1,?_⟩
 rcases h2 with h2 | ⟨g,cap,cur,rfl,hb,hg,h3⟩
 ·exact .inl h2
 ·exact .inr ⟨g,cap,cur,rfl,hb,hk g _ rfl hg rfl,h3⟩
theorem OwnR.move {base T c : Nat} {w w' : World} {v : Value} {rs : List (List Value)} (h : OwnR c T base w v rs) (hk : ∀ g o,v.ownBlock = some g -> w.heap[g]? = some o -> o.isCells = true -> w'.heap[g]? = some o) : OwnR c T base w' v rs:=⟨ownsRow_move h.1 hk,h.2⟩
theorem OwnR.moveEq {base T c : Nat} {w w' : World} {v : Value} {rs : List (List Value)} (h : OwnR c T base w v rs) (hk : ∀ g,v.ownBlock = some g -> w'.heap[g]? = w.heap[g]?) : OwnR c T base w' v rs:=h.move fun g o hg ho _ => (hk g hg).trans ho
theorem sv_cell_at (y : Sv) {j : Nat} (hj : j < 11) : (y.cells.toList[j]?).getD undef = y.cell j:=by
 match j,hj with
 | 0,_ => rfl
 | 1,_ => rfl
 | 2,_ => rfl
 | 3,_ => rfl
 | 4,_ => rfl
 | 5,_ => rfl
 | 6,_ => rfl
 | 7,_ => rfl
 | 8,_ => rfl
 | 9,_ => rfl
 | 10,_ => rfl
theorem vv_cell_at (y : Vv) {j : Nat} (hj : j < 6) : (y.cells.toList[j]?).getD undef = y.cell j:=by
 match j,hj with
 | 0,_ => rfl
 | 1,_ => rfl
 | 2,_ => rfl
 | 3,_ => rfl
 | 4,_ => rfl
 | 5,_ => rfl
theorem sv_one (y : Sv) : ∀ u ∈ y.cells.toList,u.oneCell' = true:=by
 intro u hu
 simp at hu
 rcases hu with rfl | rfl | rfl | rfl | rfl | rfl | rfl | rfl | rfl | rfl | rfl <;> rfl
theorem sv_row (y : Sv) : RowsOk 11 [y.cells.toList]:=RowsOk.one rfl (sv_one y)
def CtO (base : Nat) (w : World) (F : Nat -> Prop) (c : Value) (l : List Vq) : Prop :=
 ∃ zs : List Vv,zs.length = l.length /\ OwnR 6 47 base w c (zs.map fun z => z.cells.toList) /\ ∀ j,j < l.length -> Zed F w fun K W => VlX K W (l[j]?.getD v0) (zs[j]?.getD vv0)
structure ScO (base : Nat) (w : World) (v : Value) (l : List Sc) (ys : List Sv) (F : Nat -> Prop) : Prop where
 len : ys.length = l.length
 own : OwnR 11 79 base w v (ys.map fun y => y.cells.toList)
 rng : ∀ b,F b -> base <= b /\ b < w.heap.size
 nv : ∀ b,F b -> v.ownBlock ≠ some b
 nc : ∀ b,F b -> ∀ y ∈ ys,y.c.val.ownBlock ≠ some b
 dat : ∀ i,i < l.length -> Zed F w (fun K W => ExG K W (l[i]?.getD default).e (ys[i]?.getD sv0).x) /\ (ys[i]?.getD sv0).kd = (l[i]?.getD default).kd
 cut : ∀ i,i < l.length -> CtO base w F (ys[i]?.getD sv0).c.val (l[i]?.getD default).cuts
 dis : ∀ i j g,i < l.length -> j < l.length -> (ys[i]?.getD sv0).c.val.ownBlock = some g -> (ys[j]?.getD sv0).c.val.ownBlock = some g -> i = j
def ScOwn (base : Nat) (w : World) (v : Value) (l : List Sc) : Prop:=∃ ys F,ScO base w v l ys F
theorem ScOwn.nil (base : Nat) (w : World) : ScOwn base w (.slice none 0 0) [] :=
 ⟨[],fun _ => False,rfl,OwnR.nil _ _ _ _,fun b h => h.elim,fun b h => h.elim,fun b h => h.elim,fun i h => absurd h (by simp),fun i h => absurd h (by simp),fun i j g h => absurd h (by simp)⟩
section
variable {base : Nat} {w w' : World} {v : Value} {l : List Sc} {ys : List Sv} {F : Nat -> Prop}
theorem CtO.move {c : Value} {cs : List Vq} (h : CtO base w F c cs) (hF : Agr F w w') (hk : ∀ g o,c.ownBlock = some g -> w.heap[g]? = some o -> o.isCells = true -> w'.heap[g]? = some o) : CtO base w' F c cs:=by
 obtain ⟨zs,h1,h2,h3⟩:=h
 exact ⟨zs,h1,h2.move hk,fun j hj => (h3 j hj).move hF⟩
theorem CtO.moveEq {c : Value} {cs : List Vq} (h : CtO base w F c cs) (hF : Agr F w w') (hk : ∀ g,c.ownBlock = some g -> w'.heap[g]? = w.heap[g]?) : CtO base w' F c cs:=h.move hF fun g o hg ho _ => (hk g hg).trans ho
theorem CtO.mono {G : Nat -> Prop} {c : Value} {cs : List Vq} (h : CtO base w F c cs) (hF : ∀ b,F b -> G b) : CtO base w G c cs:=by
 obtain ⟨zs,h1,h2,h3⟩:=h
 exact ⟨zs,h1,h2,fun j hj => (h3 j hj).mono hF⟩
theorem CtO.low {c : Value} {cs : List Vq} (h : CtO base w F c cs) {g : Nat} (hg : c.ownBlock = some g) : base <= g /\ g < w.heap.size:=by
 obtain ⟨zs,h1,h2,h3⟩:=h
 exact ⟨h2.low hg,h2.lt hg⟩
theorem CtO.read {c : Value} {cs : List Vq} (h : CtO base w F c cs) (hF : ∀ b,F b -> b < w.heap.size) : CutsX w.heap.size w c cs:=by
 obtain ⟨zs,h1,h2,h3⟩:=h
 refine ⟨fun i => zs[i]?.getD vv0,?_,fun i hi => (h3 i hi).get hF⟩
 have hr:=h2.rows
 rw [List.length_map,h1] at hr
 refine hr.congr fun i hi j hj => ?_
 have hi' : i < zs.length:=by omega
 have e1 : zs[i]?.getD vv0 = zs[i]:=by rw [List.getElem?_eq_getElem hi']; rfl
 show _ = (zs[i]?.getD vv0).cell j
 rw [e1,List.getElem?_map,List.getElem?_eq_getElem hi']
 exact vv_cell_at _ hj
theorem ScO.move (h : ScO base w v l ys F) (hk : Keeps base w w') : ScO base w' v l ys F:=by
 have hF : Agr F w w':=fun b o hb => hk.1 b o (h.rng b hb).1
 refine ⟨h.len,h.own.move fun g o hg => hk.1 g o (h.own.low hg),fun b hb => ⟨(h.rng b hb).1,Nat.lt_of_lt_of_le (h.rng b hb).2 hk.2⟩,h.nv,h.nc,fun i hi => ⟨(h.dat i hi).1.move hF,(h.dat i hi).2⟩,fun i hi => ?_,h.dis⟩
 exact (h.cut i hi).move hF fun g o hg => hk.1 g o ((h.cut i hi).low hg).1
theorem ScOwn.move (h : ScOwn base w v l) (hk : Keeps base w w') : ScOwn base w' v l:=by
 obtain ⟨ys,F,h⟩:=h; exact ⟨ys,F,h.move hk⟩
theorem ScO.read (h : ScO base w v l ys F) : ScsX w.heap.size w v l:=by
 refine ⟨fun i => ys[i]?.getD sv0,?_,fun i hi => ⟨(h.dat i hi).1.get fun b hb => (h.rng b hb).2,(h.dat i hi).2,(h.cut i hi).read fun b hb => (h.rng b hb).2⟩⟩
 have hr:=h.own.rows
 rw [List.length_map,h.len] at hr
 refine hr.congr fun i hi j hj => ?_
 have hl:=h.len
 have hi' : i < ys.length:=by omega
 have e1 : ys[i]?.getD sv0 = ys[i]:=by rw [List.getElem?_eq_getElem hi']; rfl
 show _ = (ys[i]?.getD sv0).cell j
 rw [e1,List.getElem?_map,List.getElem?_eq_getElem hi']
 exact sv_cell_at _ hj
theorem ScOwn.read (h : ScOwn base w v l) : ScsX w.heap.size w v l:=by obtain ⟨ys,F,h⟩:=h; exact h.read
theorem keeps_grown (h : w.grownBy w' none) : Keeps base w w':=⟨fun b o _ ho _ => (h.block b (Array.getElem?_eq_some_iff.1 ho).1 (by simp)).trans ho,h.size⟩
theorem getD_append_left {α : Type} {a b : List α} {d : α} {i : Nat} (h : i < a.length) : (a ++ b)[i]?.getD d = a[i]?.getD d:=by rw [List.getElem?_append_left h]
theorem getD_append_at {α : Type} {a : List α} {x d : α} : (a ++ [x])[a.length]?.getD d = x:=by simp
theorem ScO.add {W w5 : World} {v' : Value} {e : Gx} {kd : Int} {x : Xv} {lo hi g : Nat} (h : ScO base w v l ys F) (hw : w.grownBy W none) (hz : Zed (Btw lo hi) W fun K W => ExG K W e x) (hlo : w.heap.size <= lo) (hlb : base <= lo) (hhi : hi <= W.heap.size)
  (hg : W.grownBy w5 v.ownBlock) (hown : OwnR 11 79 base w5 v' ((ys.map fun y => y.cells.toList) ++ [(⟨x,kd,⟨none,0,0⟩⟩ : Sv).cells.toList])) (hv' : v'.ownBlock = some g) (hat : v.ownBlock = some g \/ hi <= g) (hgw : v.ownBlock = some g \/ w.heap.size <= g) :
  ScO base w5 v' (l ++ [⟨e,kd,[]⟩]) (ys ++ [⟨x,kd,⟨none,0,0⟩⟩]) (fun b => F b \/ Btw lo hi b):=by
 have hl:=h.len
 have hsz:=hg.size
 have hsw:=hw.size
 have hlt : ∀ r,v.ownBlock = some r -> r < w.heap.size:=fun r hr => h.own.lt hr
 have hFw : Agr F w w5:=Agr.of fun b hb => (hg.block b (by have := (h.rng b hb).2; omega) (fun e => h.nv b hb e.symm)).trans (hw.block b (h.rng b hb).2 (by simp))
 have hBw : Agr (Btw lo hi) W w5:=Agr.of fun b hb => hg.block b (by have := hb.2; omega) (fun e => by have := hlt b e.symm; have := hb.1; omega)
 have hcut : ∀ i,i < l.length -> CtO base w5 F (ys[i]?.getD sv0).c.val (l[i]?.getD default).cuts:=fun i hi => (h.cut i hi).moveEq hFw fun q hq => by
  have hq2:=((h.cut i hi).low hq).2
  refine (hg.block q (by omega) fun e => ?_).trans (hw.block q hq2 (by simp))
  obtain ⟨zs,_,ho,_⟩:=h.cut i hi
  rcases id ho.1.2 with ⟨h0,_⟩ | ⟨g1,c1,cur1,h0,_,hg1,_⟩
  ·rw [h0] at hq; cases hq
  ·rw [h0] at hq
   obtain rfl : g1 = q:=by simpa [Value.ownBlock] using hq
   rcases id h.own.1.2 with ⟨h2,_⟩ | ⟨g2,c2,cur2,h2,_,hg2,_⟩
   ·rw [h2] at e; cases e
   ·rw [h2] at e
    obtain rfl : g1 = g2:=by simpa [Value.ownBlock] using e
    rw [hg1] at hg2
    simp only [Option.some.injEq,Obj.cells.injEq] at hg2
    have := hg2.2.1
    revert this; decide
 have hlr : (ys ++ [(⟨x,kd,⟨none,0,0⟩⟩ : Sv)]).length = (l ++ [(⟨e,kd,[]⟩ : Sc)]).length:=by simp [hl]
 have hgb : ∀ b,F b \/ Btw lo hi b -> b ≠ g:=fun b hb e => by
  subst e
  rcases hb with hb | hb
  ·rcases hgw with hq | hq
   ·exact h.nv _ hb hq
   ·have := (h.rng _ hb).2; omega
  ·rcases hat with hq | hq
   ·have := hlt _ hq; have := hb.1; omega
   ·have := hb.2; omega
 refine ⟨hlr,by rw [List.map_append]; exact hown,fun b hb => ?_,fun b hb e => ?_,fun b hb y hy => ?_,fun i hi => ?_,fun i hi => ?_,fun i j q hi hj h1 h2 => ?_⟩
 ·rcases hb with hb | hb
  ·have := h.rng b hb; omega
  ·have := hb.1; have := hb.2; omega
 ·rw [hv'] at e; exact hgb b hb (by simpa using e.symm)
 ·rcases List.mem_append.1 hy with hy | hy
  ·rcases hb with hb | hb
   ·exact h.nc b hb y hy
   ·intro e
    obtain ⟨k,hk,rfl⟩:=List.mem_iff_getElem.1 hy
    have := ((h.cut k (by omega)).low (g:=b) (by rw [List.getElem?_eq_getElem hk]; exact e)).2
    have := hb.1; omega
  ·rw [List.mem_singleton.1 hy]; simp [Value.ownBlock]
 ·rw [List.length_append,List.length_singleton] at hi
  by_cases hil : i < l.length
  ·rw [getD_append_left hil,getD_append_left (by omega)]
   exact ⟨((h.dat i hil).1.move hFw).mono fun b hb => .inl hb,(h.dat i hil).2⟩
  ·obtain rfl : i = l.length:=by omega
   rw [getD_append_at,<- hl,getD_append_at]
   exact ⟨(hz.move hBw).mono fun b hb => .inr hb,rfl⟩
 ·rw [List.length_append,List.length_singleton] at hi
  by_cases hil : i < l.length
  ·rw [getD_append_left hil,getD_append_left (by omega)]
   exact (hcut i hil).mono fun b hb => .inl hb
  ·obtain rfl : i = l.length:=by omega
   rw [getD_append_at,<- hl,getD_append_at]
   exact ⟨[],rfl,OwnR.nil _ _ _ _,fun j hj => absurd hj (by simp)⟩
 ·rw [List.length_append,List.length_singleton] at hi hj
  by_cases hil : i < l.length
  ·by_cases hjl : j < l.length
   ·rw [getD_append_left (by omega)] at h1 h2
    exact h.dis i j q hil hjl h1 h2
   ·obtain rfl : j = l.length:=by omega
    rw [<- hl,getD_append_at] at h2
    simp [Value.ownBlock] at h2
  ·obtain rfl : i = l.length:=by omega
   rw [<- hl,getD_append_at] at h1
   simp [Value.ownBlock] at h1
theorem flat_set {c : Nat} {rs : List (List Value)} (h : RowsOk c rs) {i j : Nat} {r : List Value} (hi : rs[i]? = some r) (hj : j < c) (u : Value) : (rs.set i (r.set j u)).flatten = rs.flatten.set (i * c + j) u:=by
 induction rs generalizing i with
 | nil => simp at hi
 | cons x t ih =>
  have hx:=(h x (by simp)).1
  cases i with
  | zero =>
   simp only [List.getElem?_cons_zero,Option.some.injEq] at hi
   subst hi
   rw [List.set_cons_zero,List.flatten_cons,List.flatten_cons,Nat.zero_mul,Nat.zero_add,List.set_append,if_pos (by omega)]
  | succ i =>
   rw [List.set_cons_succ,List.flatten_cons,List.flatten_cons,ih (fun y hy => h y (List.mem_cons_of_mem _ hy)) (by simpa using hi),List.set_append,if_neg (by rw [hx,Nat.succ_mul]; omega),hx]
   congr 2; rw [Nat.succ_mul]; omega
theorem OwnR.setAt {c T : Nat} {rs : List (List Value)} {g n cap i j : Nat} {r : List Value} (h : OwnR c T base w (.slice (some ⟨g,0,none⟩) n cap) rs) (hi : rs[i]? = some r) (hj : j < c) {u : Value} (h1 : u.oneCell' = true) :
  OwnR c T base (w.setCell ⟨g,i * c + j,none⟩ u) (.slice (some ⟨g,0,none⟩) n cap) (rs.set i (r.set j u)):=by
 have hil:=(List.getElem?_eq_some_iff.1 hi).1
 have hrm:=h.2 r (List.mem_of_getElem? hi)
 have hok : RowsOk c (rs.set i (r.set j u)):=fun q hq => by
  rcases List.mem_or_eq_of_mem_set hq with hq | rfl
  ·exact h.2 q hq
  ·refine ⟨by rw [List.length_set]; exact hrm.1,fun z hz => ?_⟩
   rcases List.mem_or_eq_of_mem_set hz with hz | rfl
   ·exact hrm.2 z hz
   ·exact h1
 refine ⟨⟨by rw [flat_length hok],?_⟩,hok⟩
 rcases h.1.2 with ⟨h0,_⟩ | ⟨g',cap',cur,h0,hb,hg,hn,hm,hs,ht⟩
 ·cases h0
 ·simp only [Value.slice.injEq,Option.some.injEq,Addr.mk.injEq,and_true] at h0
  obtain ⟨rfl,rfl,rfl⟩:=h0
  refine .inr ⟨g,cap,cur.setIfInBounds (i * c + j) u,by rw [List.length_set],hb,Blk.set hg u,by rw [List.length_set]; exact hn,hm,by simpa using hs,?_⟩
  have hlt : i * c + j < rs.length * c:=by
   have : (i + 1) * c <= rs.length * c:=Nat.mul_le_mul_right _ hil
   rw [Nat.succ_mul] at this; omega
  rw [List.length_set,Array.toList_setIfInBounds,List.take_set,ht,flat_set h.2 hi hj]
theorem map_insR {zs : List Vv} {r : Nat} {z : Vv} : insR (zs.map fun z => z.cells.toList) r z.cells.toList = (zs.take r ++ z :: zs.drop r).map fun z => z.cells.toList:=by
 unfold insR; rw [List.map_append,List.map_cons,List.map_take,List.map_drop]
theorem getD_ins {α : Type} {l : List α} {r j : Nat} {x d : α} (hr : r <= l.length) : (l.take r ++ x :: l.drop r)[j]?.getD d = if j < r then l[j]?.getD d else if j = r then x else l[j - 1]?.getD d:=by
 have ht : (l.take r).length = r:=by rw [List.length_take]; omega
 by_cases h1 : j < r
 ·rw [if_pos h1,List.getElem?_append_left (by omega),List.getElem?_take,if_pos h1]
 ·rw [if_neg h1,List.getElem?_append_right (by omega),ht]
  by_cases h2 : j = r
  ·rw [if_pos h2,h2,Nat.sub_self]; rfl
  ·rw [if_neg h2,show j - r = (j - r - 1) + 1 by omega,List.getElem?_cons_succ,List.getElem?_drop,show r + (j - r - 1) = j - 1 by omega]
theorem getD_set {α : Type} {l : List α} {i j : Nat} {x d : α} (hi : i < l.length) : (l.set i x)[j]?.getD d = if j = i then x else l[j]?.getD d:=by
 rw [List.getElem?_set]
 by_cases h : j = i
 ·rw [if_pos h,if_pos h.symm,if_pos hi]; rfl
 ·rw [if_neg h,if_neg (fun e => h e.symm)]
theorem ScO.ins {W5 : World} {sb n cap i hi g r : Nat} {cv' : Sl} {x : Vq} {z : Vv} {zs : List Vv} (h : ScO base w (.slice (some ⟨sb,0,none⟩) n cap) l ys F) (hil : i < l.length) (hr : r <= (l[i]?.getD default).cuts.length)
  (hzs : zs.length = (l[i]?.getD default).cuts.length) (hzo : OwnR 6 47 base w (ys[i]?.getD sv0).c.val (zs.map fun z => z.cells.toList)) (hzd : ∀ j,j < (l[i]?.getD default).cuts.length -> Zed F w fun K W => VlX K W ((l[i]?.getD default).cuts[j]?.getD v0) (zs[j]?.getD vv0))
  (hown : OwnR 6 47 base W5 cv'.val (insR (zs.map fun z => z.cells.toList) r z.cells.toList)) (hg : w.grownBy W5 (ys[i]?.getD sv0).c.val.ownBlock) (hz : Zed (Btw w.heap.size hi) W5 fun K W => VlX K W x z) (hlo : w.heap.size <= hi) (hhi : hi <= W5.heap.size)
  (hv' : cv'.val.ownBlock = some g) (hat : (ys[i]?.getD sv0).c.val.ownBlock = some g \/ hi <= g) (hbw : base <= w.heap.size) :
  ScO base (W5.setCell ⟨sb,i * 11 + 10,none⟩ cv'.val) (.slice (some ⟨sb,0,none⟩) n cap) (l.set i { (l[i]?.getD default) with cuts:=(l[i]?.getD default).cuts.take r ++ x :: (l[i]?.getD default).cuts.drop r }) (ys.set i { (ys[i]?.getD sv0) with c:=cv' }) (fun b => F b \/ Btw w.heap.size hi b):=by
 have hl:=h.len
 have hyl : i < ys.length:=by omega
 have hsbl : sb < w.heap.size:=h.own.lt rfl
 have hsz : (W5.setCell ⟨sb,i * 11 + 10,none⟩ cv'.val).heap.size = W5.heap.size:=by simp [World.setCell]
 have hold : ∀ b,b < w.heap.size -> (ys[i]?.getD sv0).c.val.ownBlock ≠ some b -> b ≠ sb -> (W5.setCell ⟨sb,i * 11 + 10,none⟩ cv'.val).heap[b]? = w.heap[b]? := fun b hb hne hs => (Below.heap_setCell _ _ _ _ hs).trans (hg.block b hb (fun e => hne e.symm))
 have hym : (ys[i]?.getD sv0) ∈ ys:=by rw [List.getElem?_eq_getElem hyl]; exact List.getElem_mem hyl
 have hFs : ∀ b,F b -> b ≠ sb:=fun b hb e => h.nv b hb (by rw [e]; rfl)
 have hFw : Agr F w (W5.setCell ⟨sb,i * 11 + 10,none⟩ cv'.val):=Agr.of fun b hb => hold b (h.rng b hb).2 (h.nc b hb _ hym) (hFs b hb)
 have hBw : Agr (Btw w.heap.size hi) W5 (W5.setCell ⟨sb,i * 11 + 10,none⟩ cv'.val):=Agr.of fun b hb => Below.heap_setCell _ _ _ _ (by show b ≠ sb; have := hb.1; omega)
 have hne0 : (ys[i]?.getD sv0).c.val.ownBlock ≠ some sb:=rows_apart h.own hzo (by decide) rfl
 have hrow : (ys.map fun y => y.cells.toList)[i]? = some (ys[i]?.getD sv0).cells.toList:=by rw [List.getElem?_map,List.getElem?_eq_getElem hyl]; rfl
 have hset : ((ys.map fun y => y.cells.toList).set i ((ys[i]?.getD sv0).cells.toList.set 10 cv'.val)) = (ys.set i { (ys[i]?.getD sv0) with c:=cv' }).map fun y => y.cells.toList:=by
  rw [List.map_set]; rfl
 have hgn : g ≠ sb:=fun e => by
  rcases hat with hq | hq
  ·exact hne0 (by rw [hq,e])
  ·omega
 have hgF : ∀ b,F b \/ Btw w.heap.size hi b -> b ≠ g:=fun b hb e => by
  subst e
  rcases hat with hq | hq
  ·rcases hb with hb | hb
   ·exact h.nc _ hb _ hym hq
   ·have := ((h.cut i hil).low hq).2; have := hb.1; omega
  ·rcases hb with hb | hb
   ·have := (h.rng _ hb).2; omega
   ·have := hb.2; omega
 have hoth : ∀ k,k < l.length -> k ≠ i -> ∀ q,(ys[k]?.getD sv0).c.val.ownBlock = some q -> q ≠ g /\ (W5.setCell ⟨sb,i * 11 + 10,none⟩ cv'.val).heap[q]? = w.heap[q]? := fun k hk hki q hq => by
  have hq2:=((h.cut k hk).low hq).2
  have hqi : (ys[i]?.getD sv0).c.val.ownBlock ≠ some q:=fun e => hki (h.dis k i q hk hil hq e)
  obtain ⟨zs',_,ho',_⟩:=h.cut k hk
  have hqs : q ≠ sb:=fun e => rows_apart h.own ho' (by decide) rfl (by rw [hq,e])
  refine ⟨fun e => ?_,hold q hq2 hqi hqs⟩
  rcases hat with hx | hx
  ·exact hqi (by rw [hx,e])
  ·omega
 refine ⟨by simp [hl],?_,fun b hb => ?_,fun b hb e => ?_,fun b hb y hy => ?_,fun k hk => ?_,fun k hk => ?_,fun a b q ha hb h1 h2 => ?_⟩
 ·rw [<- hset]
  exact (h.own.moveEq (w':=W5) fun q hq => by
   obtain rfl : sb = q:=by simpa [Value.ownBlock] using hq
   exact hg.block sb hsbl (fun e => hne0 e.symm)).setAt hrow (by decide) rfl
 ·rw [hsz]
  rcases hb with hb | hb
  ·have := h.rng b hb; omega
  ·have := hb.1; have := hb.2; omega
 ·obtain rfl : sb = b:=by simpa [Value.ownBlock] using e
  rcases hb with hb | hb
  ·exact hFs _ hb rfl
  ·have := hb.1; omega
 ·rcases List.mem_or_eq_of_mem_set hy with hy | rfl
  ·rcases hb with hb | hb
   ·exact h.nc b hb y hy
   ·intro e
    obtain ⟨k,hk,rfl⟩:=List.mem_iff_getElem.1 hy
    have := ((h.cut k (by omega)).low (g:=b) (by rw [List.getElem?_eq_getElem hk]; exact e)).2
    have := hb.1; omega
  ·intro e
   have e2 : cv'.val.ownBlock = some b:=e
   rw [hv'] at e2
   exact hgF b hb (by simpa using e2.symm)
 ·rw [List.length_set] at hk
  rw [getD_set hil,getD_set hyl]
  by_cases hki : k = i
  ·rw [if_pos hki,if_pos hki]
   exact ⟨((h.dat i hil).1.move hFw).mono fun b hb => .inl hb,(h.dat i hil).2⟩
  ·rw [if_neg hki,if_neg hki]
   exact ⟨((h.dat k hk).1.move hFw).mono fun b hb => .inl hb,(h.dat k hk).2⟩
 ·rw [List.length_set] at hk
  rw [getD_set hil,getD_set hyl]
  by_cases hki : k = i
  ·rw [if_pos hki,if_pos hki]
   refine ⟨zs.take r ++ z :: zs.drop r,?_,?_,fun j hj => ?_⟩
   ·simp only [List.length_append,List.length_cons,List.length_take,List.length_drop]; omega
   ·rw [map_insR] at hown
    exact hown.moveEq fun q hq => Below.heap_setCell _ _ _ _ (by
     rw [hv'] at hq
     obtain rfl:=Option.some.inj hq
     exact hgn)
   ·simp only at hj ⊢
    rw [getD_ins hr,getD_ins (by omega)]
    simp only [List.length_append,List.length_cons,List.length_take,List.length_drop] at hj
    by_cases h1 : j < r
    ·rw [if_pos h1,if_pos h1]
     exact ((hzd j (by omega)).move hFw).mono fun b hb => .inl hb
    ·rw [if_neg h1,if_neg h1]
     by_cases h2 : j = r
     ·rw [if_pos h2,if_pos h2]
      exact (hz.move hBw).mono fun b hb => .inr hb
     ·rw [if_neg h2,if_neg h2]
      exact ((hzd (j - 1) (by omega)).move hFw).mono fun b hb => .inl hb
  ·rw [if_neg hki,if_neg hki]
   exact ((h.cut k hk).moveEq hFw fun q hq => (hoth k hk hki q hq).2).mono fun b hb => .inl hb
 ·rw [List.length_set] at ha hb
  rw [getD_set hyl] at h1 h2
  by_cases hai : a = i
  ·by_cases hbi : b = i
   ·omega
   ·rw [if_pos hai] at h1
    rw [if_neg hbi] at h2
    have h1' : cv'.val.ownBlock = some q:=h1
    rw [hv'] at h1'
    obtain rfl:=Option.some.inj h1'
    exact absurd rfl (hoth b hb hbi _ h2).1
  ·rw [if_neg hai] at h1
   by_cases hbi : b = i
   ·rw [if_pos hbi] at h2
    have h2' : cv'.val.ownBlock = some q:=h2
    rw [hv'] at h2'
    obtain rfl:=Option.some.inj h2'
    exact absurd rfl (hoth a ha hai _ h1).1
   ·rw [if_neg hbi] at h2
    exact h.dis a b q ha hb h1 h2
end
theorem vlt_trans {a b c : Vq} (hb : b.ok = true) (hc : c.ok = true) (h1 : vlt a b) (h2 : vlt b c) : vlt a c:=by
 unfold vlt at *
 have pb:=vbot_pos hb
 have pc:=vbot_pos hc
 have na:=vbot_nonneg a
 have e1:=Int.mul_lt_mul_of_pos_right h1 pc
 have e2:=Int.mul_le_mul_of_nonneg_right (Int.le_of_lt h2) na
 refine Int.lt_of_mul_lt_mul_right (a:=b.bot) ?_ (Int.le_of_lt pb)
 calc a.top * c.bot * b.bot = a.top * b.bot * c.bot:=by rw [Int.mul_assoc,Int.mul_comm c.bot,<- Int.mul_assoc]
  _ < b.top * a.bot * c.bot:=e1
  _ = b.top * c.bot * a.bot:=by rw [Int.mul_assoc,Int.mul_comm a.bot,<- Int.mul_assoc]
  _ <= c.top * b.bot * a.bot:=e2
  _ = c.top * a.bot * b.bot:=by rw [Int.mul_assoc,Int.mul_comm b.bot,<- Int.mul_assoc]
theorem vlt_of_not_vle {a b : Vq} (h : vle a b = false) : vlt b a:=by
 unfold vle at h; unfold vlt
 rw [decide_eq_false_iff_not] at h; omega
theorem vlt_of_vle_ne {a b : Vq} (h : vle a b = true) (hn : veq b a = false) : vlt a b:=by
 unfold vle at h; unfold veq at hn; unfold vlt
 rw [decide_eq_true_eq] at h
 rw [decide_eq_false_iff_not] at hn; omega
theorem srch_spec (l : List Vq) (v : Vq) : (∀ i,i < srch l v -> vle v (l[i]?.getD v0) = false) /\ (srch l v < l.length -> vle v (l[srch l v]?.getD v0) = true):=by
 unfold srch
 constructor
 ·intro i hi
  have hl : i < l.length:=Nat.lt_of_lt_of_le hi List.findIdx_le_length
  rw [List.getElem?_eq_getElem hl]
  have := List.not_of_lt_findIdx hi
  simpa using this
 ·intro h
  rw [List.getElem?_eq_getElem h]
  exact List.findIdx_getElem (w:=h)
theorem CutsOk.ins {kd : Int} {l : List Vq} {v : Vq} (h : CutsOk kd l) (hg : v.good = true) (ho : v.ok = true) (hk : v.kd = kd) (hf : fnd l v = false) : CutsOk kd (l.take (srch l v) ++ v :: l.drop (srch l v)):=by
 have hmem : ∀ c ∈ l.take (srch l v) ++ v :: l.drop (srch l v),c = v \/ c ∈ l:=fun c hc => by
  rcases List.mem_append.1 hc with hc | hc
  ·exact .inr (List.mem_of_mem_take hc)
  ·rcases List.mem_cons.1 hc with hc | hc
   ·exact .inl hc
   ·exact .inr (List.mem_of_mem_drop hc)
 obtain ⟨s1,s2⟩:=srch_spec l v
 have hbef : ∀ a ∈ l.take (srch l v),vlt a v:=fun a ha => by
  obtain ⟨i,hi,rfl⟩:=List.mem_iff_getElem.1 ha
  rw [List.length_take] at hi
  have h1:=s1 i (by omega)
  rw [List.getElem?_eq_getElem (by omega),Option.getD_some] at h1
  rw [List.getElem_take]
  exact vlt_of_not_vle h1
 have haft : ∀ b ∈ l.drop (srch l v),vlt v b:=fun b hb => by
  obtain ⟨i,hi,rfl⟩:=List.mem_iff_getElem.1 hb
  rw [List.length_drop] at hi
  have hr : srch l v < l.length:=by omega
  have hv:=s2 hr
  have hne : veq (l[srch l v]?.getD v0) v = false:=by
   unfold fnd at hf
   simpa [hr] using hf
  have h0:=vlt_of_vle_ne hv hne
  rw [List.getElem_drop]
  by_cases hi0 : i = 0
  ·subst hi0
   rw [List.getElem?_eq_getElem hr,Option.getD_some] at h0
   simpa using h0
  ·rw [List.getElem?_eq_getElem hr,Option.getD_some] at h0
   exact vlt_trans (h.ok _ (List.getElem_mem hr)) (h.ok _ (List.getElem_mem _)) h0 (List.pairwise_iff_getElem.1 h.inc _ _ hr (by omega) (by omega))
 refine ⟨fun c hc => ?_,fun c hc => ?_,fun c hc => ?_,?_⟩
 ·rcases hmem c hc with rfl | hc
  ·exact hg
  ·exact h.good c hc
 ·rcases hmem c hc with rfl | hc
  ·exact ho
  ·exact h.ok c hc
 ·rcases hmem c hc with rfl | hc
  ·exact hk
  ·exact h.kd c hc
 ·rw [List.pairwise_append]
  refine ⟨h.inc.sublist (List.take_sublist _ _),?_,fun a ha b hb => ?_⟩
  ·rw [List.pairwise_cons]
   exact ⟨haft,h.inc.sublist (List.drop_sublist _ _)⟩
  ·rcases List.mem_cons.1 hb with rfl | hb
   ·exact hbef a ha
   ·obtain ⟨i,hi,rfl⟩:=List.mem_iff_getElem.1 ha
    obtain ⟨j,hj,rfl⟩:=List.mem_iff_getElem.1 hb
    rw [List.length_take] at hi
    rw [List.length_drop] at hj
    rw [List.getElem_take,List.getElem_drop]
    exact List.pairwise_iff_getElem.1 h.inc _ _ (by omega) (by omega) (by omega)
theorem CutsOk.nil (kd : Int) : CutsOk kd []:=⟨fun c h => (by cases h),fun c h => (by cases h),fun c h => (by cases h),List.Pairwise.nil⟩
structure ScOk (s : Sc) : Prop where
 good : s.e.good = true
 big : s.e.parts <= 200
 cuts : CutsOk s.kd s.cuts
 zero : s.kd = 0 -> s.cuts = []
 len : s.cuts.length <= 32
structure TqOk (t : Tq) : Prop where
 good : t.sub.good = true
 big : t.sub.parts <= 200
 cut : t.kd ≠ 0 -> t.cut.good = true /\ t.cut.ok = true /\ t.cut.kd = t.kd
structure ScsOk (l : List Sc) : Prop where
 each : ∀ s ∈ l,ScOk s
 len : l.length <= 16
theorem testOf_ok {a : Gx} (hg : a.good = true) (hp : a.parts <= 200) : TqOk (testOf a):=by
 have harg : ∀ k,k < a.args.length -> (argAt a k).good = true /\ (argAt a k).parts <= 200:=fun k hk => by
  have h1:=List.mem_of_getElem? (arg_some hk)
  have h2:=partsG_arg h1
  have h3:=partsG_args a
  exact ⟨good_args hg _ h1,by omega⟩
 by_cases hop : (a.op = 13 \/ a.op = 14) /\ a.args.length = 2
 ·obtain ⟨ho,hl⟩:=hop
  have hcut : ∀ k,k < 2 -> isCut (argAt a k) (argAt a (1 - k)) = true -> TqOk (cutAt a k):=fun k hk hc => by
   obtain ⟨h1,h2⟩:=harg (1 - k) (by omega)
   obtain ⟨h3,h4⟩:=harg k (by omega)
   unfold isCut at hc
   simp only [Bool.and_eq_true] at hc
   exact ⟨h1,h2,fun _ => ⟨good_v h3,hc.2,rfl⟩⟩
  by_cases h0 : isCut (argAt a 0) (argAt a 1) = true
  ·rw [testOf_zero ho hl h0]; exact hcut 0 (by omega) h0
  ·have h0' : isCut (argAt a 0) (argAt a 1) = false:=by simpa using h0
   by_cases h1 : isCut (argAt a 1) (argAt a 0) = true
   ·rw [testOf_one ho hl h0' h1]; exact hcut 1 (by omega) h1
   ·rw [testOf_not ho hl h0' (by simpa using h1)]; exact ⟨hg,hp,fun h => absurd rfl h⟩
 ·have ht : testOf a = ⟨a,0,v0,0,false⟩:=by
   unfold testOf
   rw [if_neg]
   simp only [Bool.and_eq_true,Bool.or_eq_true,beq_iff_eq]
   exact hop
  rw [ht]; exact ⟨hg,hp,fun h => absurd rfl h⟩
theorem belongs_kd {t : Tq} {s : Sc} (h : t.belongs s = true) : t.kd = s.kd:=by
 unfold Tq.belongs at h
 simp only [Bool.and_eq_true,beq_iff_eq] at h
 exact h.1
theorem belongs_at {t : Tq} {l : List Sc} (h : l.findIdx t.belongs < l.length) : t.belongs (l[l.findIdx t.belongs]?.getD default) = true:=by
 rw [List.getElem?_eq_getElem h]
 exact List.findIdx_getElem (w:=h)
theorem insS_ok {l l' : List Sc} {i : Nat} {t : Tq} (h : ScsOk l) (ht : TqOk t) (hi : i < l.length) (hb : t.kd = (l[i]?.getD default).kd) (he : insS l i t = some l') : ScsOk l':=by
 unfold insS at he
 by_cases hk : t.kd = 0
 ·rw [if_pos hk] at he
  obtain rfl:=Option.some.inj he
  exact h
 ·rw [if_neg hk] at he
  rw [List.getElem?_eq_getElem hi,Option.getD_some] at he hb
  have hs:=h.each _ (List.getElem_mem hi)
  obtain ⟨c1,c2,c3⟩:=ht.cut hk
  unfold insC at he
  by_cases hf : fnd l[i].cuts t.cut = true
  ·rw [if_pos hf] at he
   simp only [Option.map_some,Option.some.injEq] at he
   subst he
   refine ⟨fun s hs' => ?_,by rw [List.length_set]; exact h.len⟩
   rcases List.mem_or_eq_of_mem_set hs' with hs' | rfl
   ·exact h.each s hs'
   ·exact hs
  ·rw [if_neg hf] at he
   by_cases h32 : l[i].cuts.length = 32
   ·rw [if_pos h32] at he; cases he
   ·rw [if_neg h32] at he
    simp only [Option.map_some,Option.some.injEq] at he
    subst he
    refine ⟨fun s hs' => ?_,by rw [List.length_set]; exact h.len⟩
    rcases List.mem_or_eq_of_mem_set hs' with hs' | rfl
    ·exact h.each s hs'
    ·have hsl:=srch_le l[i].cuts t.cut
     have := hs.len
     refine ⟨hs.good,hs.big,?_,fun h0 => absurd (hb.trans h0) hk,?_⟩
     ·exact hs.cuts.ins c1 c2 (by rw [c3,hb]) (by simpa using hf)
     ·simp only [List.length_append,List.length_cons,List.length_take,List.length_drop]; omega
theorem newSc_ok {l : List Sc} {t : Tq} (h : ScsOk l) (ht : TqOk t) (hl : l.length ≠ 16) : ScsOk (l ++ [⟨t.sub,t.kd,[]⟩]):=by
 refine ⟨fun s hs => ?_,by have := h.len; rw [List.length_append,List.length_singleton]; omega⟩
 rcases List.mem_append.1 hs with hs | hs
 ·exact h.each s hs
 ·rw [List.mem_singleton.1 hs]
  exact ⟨ht.good,ht.big,CutsOk.nil _,fun _ => rfl,by simp⟩
theorem addT_ok {l l' : List Sc} {t : Tq} (h : ScsOk l) (ht : TqOk t) (he : addT l t = some l') : ScsOk l':=by
 unfold addT at he
 simp only at he
 by_cases hi : l.findIdx t.belongs < l.length
 ·rw [if_pos hi] at he
  exact insS_ok h ht hi (belongs_kd (belongs_at hi)) he
 ·rw [if_neg hi] at he
  by_cases hl : l.length = 16
  ·rw [if_pos hl] at he; cases he
  ·rw [if_neg hl] at he
   exact insS_ok (newSc_ok h ht hl) ht (by simp) (by simp) he
theorem addTs_append (l : List Sc) (a b : List Tq) : addTs l (a ++ b) = (addTs l a).bind fun l' => addTs l' b:=by
 induction a generalizing l with
 | nil => rfl
 | cons t r ih =>
  rw [List.cons_append,addTs,addTs]
  cases addT l t with
  | none => rfl
  | some l' => exact ih l'
theorem addTs_snoc (l : List Sc) (a : List Tq) (t : Tq) : addTs l (a ++ [t]) = (addTs l a).bind fun l' => addT l' t:=by
 rw [addTs_append]
 cases addTs l a with
 | none => rfl
 | some l' =>
  show (addT l' t).bind (fun l'' => addTs l'' []) = addT l' t
  cases addT l' t <;> rfl
theorem wpListIn_store_blk {F : Fence} {nF : Nat} {ops : Array Oper} {rest : List Oper} {op : Oper} {a : Act} {w : World} {Q : Exit -> Act -> World -> Prop} (hgd : op.guard = none) (ty t : TypeId) (x y : Operand) (ho : op.op = .store ty x y) (cs old : Array Value) (b : Nat)
  (hq : Blk w b old t) (hi : (Tryz.prog.info? ty).map (fun i => i.size) = some cs.size) (hsz : old.size = cs.size) (h1 : ∀ v ∈ cs,v.oneCell' = true)
  (hx : a.eval x = .pointer (some ⟨b,0,none⟩)) (hy : a.eval y = .agg cs)
  (h : ∀ W',W' = w.setRow b cs -> Blk W' b cs t -> (∀ B,B <= b -> Below B w W') -> w.grownBy W' (some b) -> W'.heap.size = w.heap.size -> wpListIn F nF Tryz.prog ops Q rest (a.put op.dst undef) W') : wpListIn F nF Tryz.prog ops Q (op :: rest) a w:=by
 have hs : (w.setRow b cs).heap.size = w.heap.size:=by simp [World.setRow]
 have hh:=h _ rfl (setRow_heap w b old cs t _ hq) (fun B hB => ⟨rfl,rfl,rfl,Nat.le_of_eq hs.symm,fun k hk => setRow_other w b k cs (by omega)⟩) ⟨rfl,rfl,rfl,Nat.le_of_eq hs.symm,fun k _ hk => setRow_other w b k cs (fun e => hk (by rw [e]))⟩ hs
 refine wpListIn_plain hgd fun K hK => ?_
 unfold Oper.wpIn
 refine ⟨by simp [Oper.about,ho],?_⟩
 rw [Oper.semAt_plain F _ _ (by rw [ho]; intro c hc'; cases hc')]
 simp only [execOp,ho,hx,hy,Instr.storeAt,Instr.sureAddr,Sem.run_bind,Sem.run_pure,Result.andThen_ok,run_storeVar_row w b t ty old cs hq hi hsz (by rw [Array.all_eq_true_iff_forall_mem]; exact h1)]
 exact hK _ _ hh
theorem wpListIn_load_blk {F : Fence} {nF : Nat} {ops : Array Oper} {rest : List Oper} {op : Oper} {a : Act} {w : World} {Q : Exit -> Act -> World -> Prop} (hgd : op.guard = none) (ty : TypeId) (x : Operand) (ho : op.op = .load ty x) (cs : Array Value) (b t : Nat) (d : TypeDesc)
  (hq : Blk w b cs t) (hu : Tryz.prog.underlying ty = some d) (hd : d.isRow = true) (hi : (Tryz.prog.info? ty).map (fun i => i.size) = some cs.size) (hx : a.eval x = .pointer (some ⟨b,0,none⟩))
  (h : wpListIn F nF Tryz.prog ops Q rest (a.put op.dst (.agg cs)) w) : wpListIn F nF Tryz.prog ops Q (op :: rest) a w:=by
 have hl:=run_loadVar_mid (P:=Tryz.prog) w b 0 ty cs.toList d hq.range hu hd (by rw [hi]; simp)
 refine wpListIn_plain hgd fun K hK => ?_
 unfold Oper.wpIn
 refine ⟨by simp [Oper.about,ho],?_⟩
 rw [Oper.semAt_plain F _ _ (by rw [ho]; intro c hc'; cases hc')]
 simp only [execOp,ho,hx,Instr.loadAt,Instr.sureAddr,Sem.run_bind,Sem.run_pure,Result.andThen_ok,hl,Array.toArray_toList]
 exact hK _ _ h
structure ScW (B D : Nat) (w : World) (l : List Sc) (W : World) : Prop where
 v : ∃ v,Blk W D #[v] 25 /\ ScOwn (D + 1) W v l
 ok : ScsOk l
 r0 : Blk W B #[.slice none 0 0] 25
 r1 : Blk W (B + 1) #[.int .i64 0] 30
 bel : Below B w W
 lt : B + 2 <= D
 sz : D + 1 <= W.heap.size
theorem blk_cells {W W' : World} {b t : Nat} {cs : Array Value} (h : Blk W b cs t) {row : Option Nat} (hg : W.grownBy W' row) (hr : ∀ k,row = some k -> ∀ o,W.heap[k]? = some o -> o.isCells = false) : Blk W' b cs t :=
 h.kept hg fun e => by have := hr b e.symm _ h; cases this
theorem ScW.kept {B D : Nat} {w W W' : World} {l : List Sc} {row : Option Nat} (h : ScW B D w l W) (hg : W.grownBy W' row) (hr : ∀ k,row = some k -> B <= k /\ ∀ o,W.heap[k]? = some o -> o.isCells = false) : ScW B D w l W':=by
 obtain ⟨⟨v,h1,h2⟩,h3,h4,h5,h6,h7,h8⟩:=h
 have hr' : ∀ k,row = some k -> ∀ o,W.heap[k]? = some o -> o.isCells = false:=fun k e => (hr k e).2
 refine ⟨⟨v,blk_cells h1 hg hr',h2.move ⟨fun b o _ ho hc => (hg.block b (Array.getElem?_eq_some_iff.1 ho).1 (fun e => by have := hr' b e.symm o ho; rw [hc] at this; cases this)).trans ho,hg.size⟩⟩,h3,blk_cells h4 hg hr',blk_cells h5 hg hr',h6.trans (below_grown hg (fun k e => (hr k e).1) (by omega)),h7,Nat.le_trans h8 hg.size⟩
structure ScE (B : Nat) (w : World) (W : World) : Prop where
 r0 : Blk W B #[.slice none 0 0] 25
 r1 : Blk W (B + 1) #[.int .i64 5] 30
 bel : Below B w W
 sz : B + 2 <= W.heap.size
theorem ScE.kept {B : Nat} {w W W' : World} {row : Option Nat} (h : ScE B w W) (hg : W.grownBy W' row) (hr : ∀ k,row = some k -> B <= k /\ ∀ o,W.heap[k]? = some o -> o.isCells = false) : ScE B w W':=by
 have hr' : ∀ k,row = some k -> ∀ o,W.heap[k]? = some o -> o.isCells = false:=fun k e => (hr k e).2
 exact ⟨blk_cells h.r0 hg hr',blk_cells h.r1 hg hr',h.bel.trans (below_grown hg (fun k e => (hr k e).1) (by have := h.sz; omega)),Nat.le_trans h.sz hg.size⟩
def Pg (a : Gx) : Prop:=a.good = true /\ a.parts <= 200
theorem pg_arg (e : Gx) (h : Pg e) : e.good = true /\ ∀ a ∈ e.args,Pg a:=⟨h.1,fun a ha => ⟨good_args h.1 a ha,by have := partsG_arg ha; have := partsG_args e; have := h.2; omega⟩⟩
theorem TqX.grown {K : Nat} {W W' : World} {t : Tq} {y : Tv} (h : TqX K W t y) (hb : Below K W W') : TqX K W' t y:=h.below hb (Nat.le_refl _) (Nat.le_refl _)
theorem below_putObj {K l : Nat} {W : World} {o' : Obj} (hK : K <= l) : Below K W (W.putObj l o'):=⟨rfl,rfl,rfl,by simp [World.putObj],fun k hk => World.putObj_heap_other (by omega)⟩
theorem KpG.grown {K : Nat} {A C : World} {row : Option Nat} (hg : A.grownBy C row) (hK : K <= A.heap.size) (hr : ∀ r,row = some r -> K <= r /\ ∀ cs,¬ Blk A r cs 49) : KpE K A C :=
 ⟨below_grown hg (fun r h => (hr r h).1) hK,fun r cs hb => hb.kept hg (fun h => (hr r h.symm).2 cs hb)⟩
theorem KpG.trans {K : Nat} {A B C : World} (h1 : KpE K A B) (h2 : KpE K B C) : KpE K A C:=⟨h1.1.trans h2.1,fun r cs hb => h2.2 r cs (h1.2 r cs hb)⟩
theorem KpG.refl (K : Nat) (A : World) : KpE K A A:=⟨Below.refl _ _,fun _ _ h => h⟩
theorem KpG.putObj {K l : Nat} {W : World} {o o' : Obj} (hK : K <= l) (hl : W.heap[l]? = some o) (ho : o.isCells = false) : KpE K W (W.putObj l o'):=by
 refine KpG.grown (grownBy_putObj' W l o') (by have := (Array.getElem?_eq_some_iff.1 hl).1; omega) (fun r e => ?_)
 cases e
 refine ⟨hK,fun cs hb => ?_⟩
 unfold Blk at hb; rw [hl] at hb; cases hb; simp [Obj.isCells] at ho
def mkD (D : Nat) : Deferred:={ target:=.collected D,args:=#[] }
def DefOk (lo hi : Nat) (W : World) (ds : List Deferred) : Prop :=
 ∃ Ds : List Nat,ds = Ds.map mkD /\ Ds.Pairwise (· > ·) /\ ∀ D ∈ Ds,lo <= D /\ D < hi /\ W.heap[D]? = some (Obj.deferred (some []))
theorem DefOk.nil (lo hi : Nat) (W : World) : DefOk lo hi W []:=⟨[],rfl,List.Pairwise.nil,fun D h => by cases h⟩
theorem DefOk.cons {lo hi hi' D : Nat} {W : World} {ds : List Deferred} (h : DefOk lo hi W ds) (hl : lo <= D) (hh : hi <= D) (hD' : D < hi') (hD : W.heap[D]? = some (Obj.deferred (some []))) : DefOk lo hi' W (mkD D :: ds):=by
 obtain ⟨Ds,rfl,h2,h3⟩:=h
 refine ⟨D :: Ds,rfl,List.pairwise_cons.2 ⟨fun D' hD' => ?_,h2⟩,fun D' hD'' => ?_⟩
 ·have := (h3 D' hD').2.1; omega
 ·rcases List.mem_cons.1 hD'' with rfl | hD''
  ·exact ⟨hl,hD',hD⟩
  ·obtain ⟨a,b,c⟩:=h3 D' hD''; exact ⟨a,by omega,c⟩
theorem DefOk.kept {lo hi : Nat} {W W' : World} {ds : List Deferred} {row : Option Nat} (h : DefOk lo hi W ds) (hg : W.grownBy W' row) (hr : ∀ k,row = some k -> hi <= k \/ ∀ o,W.heap[k]? = some o -> o.isCells = true) : DefOk lo hi W' ds:=by
 obtain ⟨Ds,h1,h2,h3⟩:=h
 refine ⟨Ds,h1,h2,fun D hD => ?_⟩
 obtain ⟨a,b,c⟩:=h3 D hD
 refine ⟨a,b,(hg.block D (Array.getElem?_eq_some_iff.1 c).1 fun e => ?_).trans c⟩
 rcases hr D e.symm with h | h
 ·omega
 ·have := h _ c; cases this
theorem DefOk.mono {lo hi hi' : Nat} {W : World} {ds : List Deferred} (h : DefOk lo hi W ds) (hh : hi <= hi') : DefOk lo hi' W ds:=by
 obtain ⟨Ds,h1,h2,h3⟩:=h
 exact ⟨Ds,h1,h2,fun D hD => ⟨(h3 D hD).1,Nat.lt_of_lt_of_le (h3 D hD).2.1 hh,(h3 D hD).2.2⟩⟩
structure Shut (B : Nat) (W W' : World) : Prop where
 bel : Below B W W'
 cells : ∀ (b : Nat) (o : Obj),W.heap[b]? = some o -> o.isCells = true -> W'.heap[b]? = some o
theorem Shut.refl (B : Nat) (W : World) : Shut B W W:=⟨Below.refl _ _,fun _ _ h _ => h⟩
theorem leaves_ok {B lo hi n : Nat} {P : Program} {fn : Func} {tmps : Array Value} {R : Ending -> World -> Prop} {W : World} {ds : List Deferred} (h : DefOk lo hi W ds) (hB : B <= lo)
  (hQ : ∀ W',Shut B W W' -> LeavesInM Fence.wide n P fn tmps R [] .returning W') : LeavesInM Fence.wide n P fn tmps R ds .returning W:=by
 obtain ⟨Ds,rfl,h2,h3⟩:=h
 induction Ds generalizing W with
 | nil => exact hQ W (Shut.refl _ _)
 | cons D Ds ih =>
  obtain ⟨a,b,c⟩:=h3 D (by simp)
  obtain ⟨p1,p2⟩:=List.pairwise_cons.1 h2
  rw [List.map_cons,LeavesInM]
  refine ⟨by simp,.inl ⟨D,W.putObj D (Obj.deferred none),rfl,run_takeDeferred c,ih (fun W' hs => hQ W' ⟨(below_putObj (by omega)).trans hs.bel,fun q o ho hc => hs.cells q o ?_ hc⟩) p2 fun D' hD' => ?_⟩⟩
  ·refine (World.putObj_heap_other fun e => ?_).trans ho
   rw [e,c] at ho
   obtain rfl:=Option.some.inj ho
   cases hc
  ·obtain ⟨a',b',c'⟩:=h3 D' (by simp [hD'])
   exact ⟨a',b',(World.putObj_heap_other (by have := p1 D' hD'; omega)).trans c'⟩
theorem Blk.shut {B b t : Nat} {W W' : World} {cs : Array Value} (h : Blk W b cs t) (hs : Shut B W W') : Blk W' b cs t:=hs.cells b _ h rfl
structure Rn (K s : Nat) (W W' : World) : Prop where
 kf : KeepsFrom s W W'
 kp : KpE K W W'
theorem Rn.refl (K s : Nat) (W : World) : Rn K s W W:=⟨KeepsFrom.refl _ _,KpG.refl _ _⟩
theorem Rn.trans {K s : Nat} {A B C : World} (h : Rn K s A B) (h' : Rn K s B C) : Rn K s A C:=⟨h.kf.trans h'.kf,KpG.trans h.kp h'.kp⟩
theorem Rn.grown {K s : Nat} {W W' : World} {row : Option Nat} (hg : W.grownBy W' row) (hK : K <= W.heap.size) (hr : ∀ r,row = some r -> K <= r /\ ∃ cs t,Blk W r cs t /\ t ≠ 49) : Rn K s W W':=by
 refine ⟨(KeepsOthers.of_grownBy hg fun j o e ho => ?_).from _,KpG.grown hg hK fun r e => ⟨(hr r e).1,fun cs hb => ?_⟩⟩
 ·obtain ⟨_,cs,t,hb,_⟩:=hr j e
  unfold Blk at hb; rw [hb] at ho; cases ho; rfl
 ·obtain ⟨_,cs',t,hb',hne⟩:=hr r e
  exact hne (hb'.ty_ne hb)
theorem Rn.below {K s : Nat} {W W' : World} (h : Below W.heap.size W W') (hK : K <= W.heap.size) : Rn K s W W':=Rn.grown (grown_below h) hK (fun r e => by cases e)
theorem ScW.turn {B D : Nat} {w W W' : World} {l l' : List Sc} {v : Value} (h : ScW B D w l W) (hb : Below D W W') (hq : Blk W' D #[v] 25) (ho : ScOwn (D + 1) W' v l') (hk : ScsOk l') : ScW B D w l' W' :=
 ⟨⟨v,hq,ho⟩,hk,h.r0.below hb (by have := h.lt; omega),h.r1.below hb (by have := h.lt; omega),h.bel.trans (hb.mono (by have := h.lt; omega)),h.lt,by have := h.sz; have := hb.size; omega⟩
theorem insS_zero {l : List Sc} {i : Nat} {t : Tq} (h : t.kd = 0) : insS l i t = some l:=by unfold insS; rw [if_pos h]
theorem insS_some {l : List Sc} {i : Nat} {t : Tq} {c : List Vq} (h : t.kd ≠ 0) (hc : insC (l[i]?.getD default).cuts t.cut = some c) : insS l i t = some (l.set i { (l[i]?.getD default) with cuts:=c }):=by unfold insS; rw [if_neg h,hc]; rfl
theorem insS_none {l : List Sc} {i : Nat} {t : Tq} (h : t.kd ≠ 0) (hc : insC (l[i]?.getD default).cuts t.cut = none) : insS l i t = none:=by unfold insS; rw [if_neg h,hc]; rfl
theorem set_same {l : List Sc} {i : Nat} (hi : i < l.length) : l.set i { (l[i]?.getD default) with cuts:=(l[i]?.getD default).cuts } = l:=by
 have : ({ (l[i]?.getD default) with cuts:=(l[i]?.getD default).cuts } : Sc) = l[i]:=by rw [List.getElem?_eq_getElem hi]; rfl
 rw [this,List.set_getElem_self]
theorem drew_grown (W : World) : W.grownBy W.drew none:=⟨rfl,rfl,rfl,Nat.le_refl _,fun _ _ _ => rfl⟩
abbrev errW (B : Nat) (W : World) : World:=(W.setCell ⟨B,0,none⟩ (.slice none 0 0)).setCell ⟨B + 1,0,none⟩ (.int .i64 5)
theorem ScW.err {B D : Nat} {w W : World} {l : List Sc} (h : ScW B D w l W) : ScE B w (errW B W) /\ (∀ K s,K <= B -> Rn K s W (errW B W)) /\ (∀ lo hi ds,DefOk lo hi W ds -> DefOk lo hi (errW B W) ds):=by
 have hlt:=h.lt
 have hsz:=h.sz
 have p0:=h.r0.set (i:=0) (.slice none 0 0)
 have p1:=h.r1.other (b':=B) (i:=0) (by omega) (.slice none 0 0)
 refine ⟨⟨p0.other (by omega) _,p1.set (i:=0) (.int .i64 5),(h.bel.setCell (Nat.le_refl _) _).setCell (by simp) _,by simp [World.setCell]; omega⟩,fun K s hK => ?_,fun lo hi ds hd => ?_⟩
 ·exact (Rn.grown (grownBy_setCell W B 0 _) (by omega) (fun r e => by cases e; exact ⟨hK,_,_,h.r0,by decide⟩)).trans (Rn.grown (grownBy_setCell _ (B + 1) 0 _) (by simp [World.setCell]; omega) (fun r e => by cases e; exact ⟨by omega,_,_,p1,by decide⟩))
 ·refine (hd.kept (grownBy_setCell W B 0 _) (fun q e => .inr fun o ho => ?_)).kept (grownBy_setCell _ (B + 1) 0 _) (fun q e => .inr fun o ho => ?_)
  ·cases e; have h1:=h.r0; unfold Blk at h1; rw [h1] at ho; cases ho; rfl
  ·cases e; have h1:=p1; unfold Blk at h1; rw [h1] at ho; cases ho; rfl
theorem ScsX.at {K : Nat} {w w' : World} {v : Value} {l : List Sc} (h : ScsX K w v l) (hb : Below K w w') (hs : K <= w'.heap.size) : ScsX w'.heap.size w' v l:=h.below hb (Nat.le_refl _) hs
theorem Tryz.infoScaleG : (Tryz.prog.info? 79).map (fun i => (i.zero,i.size,i.bytes)) = some (some sv0.agg,11,160):=by kernel_rfl
theorem sv_cellR {w : World} {xb : Nat} {z : Sv} (h : Blk w xb z.cells 79) {i j : Nat} {r : List Value} {u : Value} (hi : [z.cells.toList][i]? = some r) (hj : r[j]? = some u) : w.cell? ⟨xb,0 + (i * 11 + j),none⟩ = some u:=by
 match i,hi with
 | 0,hi =>
  simp only [List.getElem?_cons_zero,Option.some.injEq] at hi
  subst hi
  have := h.at (i:=j) (x:=u) (by simpa using hj)
  rwa [show 0 + (0 * 11 + j) = j by omega]
 | i + 1,hi => simp at hi
end Go.Proofs.YtlidpghnlloinaaGreatDoor
