/- Contracts and plain laws, several texts in one (GScl0). No conditions beyond those stated. -/
import Derived.Test.YtlldjmagbjjeoaaGreatPk23
import Derived.Test.YtlldjmagbjjeoaaGreatPk27
set_option maxRecDepth 100000
set_option maxHeartbeats 40000000
namespace Go.Proofs.YtlldjmagbjjeoaaGreat
open Go.RowKit
set_option linter.unusedVariables false
theorem wpListIn_store_blk {F : Fence} {nF : Nat} {ops : Array Oper} {rest : List Oper} {op : Oper} {a : Act} {w : World} {Q : Exit -> Act -> World -> Prop} (hgd : op.guard = none) (ty t : TypeId) (x y : Operand) (ho : op.op = .store ty x y) (cs old : Array Value) (b : Nat)
  (hq : Blk w b old t) (hi : (Tryz.prog.info? ty).map (fun i => i.size) = some cs.size) (hsz : old.size = cs.size) (h1 : ∀ v ∈ cs,v.oneCell' = true)
  (hx : a.eval x = .pointer (some ⟨b,0,none⟩)) (hy : a.eval y = .agg cs)
  (h : ∀ W',W' = w.setRow b cs -> Blk W' b cs t -> (∀ B,B <= b -> Below B w W') -> w.grownBy W' (some b) -> W'.heap.size = w.heap.size -> wpListIn F nF Tryz.prog ops Q rest (a.put op.dst undef) W') : wpListIn F nF Tryz.prog ops Q (op :: rest) a w:=by
 have hs : (w.setRow b cs).heap.size = w.heap.size:=by simp [World.setRow]
 have hh:=h _ rfl (setRow_heap w b old cs t _ hq) (fun B hB => ⟨rfl,rfl,rfl,Nat.le_of_eq hs.symm,fun k hk => setRow_other w b k cs (by omega)⟩) ⟨rfl,rfl,rfl,Nat.le_of_eq hs.symm,fun k _ hk => setRow_other w b k cs (fun e => hk (by rw [e]))⟩ hs
 refine wpListIn_plain hgd fun K hK => ?_
 unfold Oper.wpIn
 refine ⟨by simp [Oper.about,ho],?_⟩
 rw [Oper.semAt_plain F _ _ (by rw [ho]; intro c hc'; cases hc')]
 simp only [execOp,ho,hx,hy,Instr.storeAt,Instr.sureAddr,Sem.run_bind,Sem.run_pure,Result.andThen_ok,run_storeVar_row w b t ty old cs hq hi hsz (by rw [Array.all_eq_true_iff_forall_mem]; exact h1)]
 exact hK _ _ hh
theorem wpListIn_load_blk {F : Fence} {nF : Nat} {ops : Array Oper} {rest : List Oper} {op : Oper} {a : Act} {w : World} {Q : Exit -> Act -> World -> Prop} (hgd : op.guard = none) (ty : TypeId) (x : Operand) (ho : op.op = .load ty x) (cs : Array Value) (b t : Nat) (d : TypeDesc)
  (hq : Blk w b cs t) (hu : Tryz.prog.underlying ty = some d) (hd : d.isRow = true) (hi : (Tryz.prog.info? ty).map (fun i => i.size) = some cs.size) (hx : a.eval x = .pointer (some ⟨b,0,none⟩))
  (h : wpListIn F nF Tryz.prog ops Q rest (a.put op.dst (.agg cs)) w) : wpListIn F nF Tryz.prog ops Q (op :: rest) a w:=by
 have hl:=run_loadVar_mid (P:=Tryz.prog) w b 0 ty cs.toList d hq.range hu hd (by rw [hi]; simp)
 refine wpListIn_plain hgd fun K hK => ?_
 unfold Oper.wpIn
 refine ⟨by simp [Oper.about,ho],?_⟩
 rw [Oper.semAt_plain F _ _ (by rw [ho]; intro c hc'; cases hc')]
 simp only [execOp,ho,hx,Instr.loadAt,Instr.sureAddr,Sem.run_bind,Sem.run_pure,Result.andThen_ok,hl,Array.toArray_toList]
 exact hK _ _ h
structure ScW (B D : Nat) (w : World) (l : List Sc) (W : World) : Prop where
 v : ∃ v,Blk W D #[v] 36 /\ ScOwn (D + 1) W v l
 ok : ScsOk l
 r0 : Blk W B #[.slice none 0 0] 36
 r1 : Blk W (B + 1) #[.int .i64 0] 53
 bel : Below B w W
 lt : B + 2 <= D
 sz : D + 1 <= W.heap.size
theorem blk_cells {W W' : World} {b t : Nat} {cs : Array Value} (h : Blk W b cs t) {row : Option Nat} (hg : W.grownBy W' row) (hr : ∀ k,row = some k -> ∀ o,W.heap[k]? = some o -> o.isCells = false) : Blk W' b cs t :=
 h.kept hg fun e => by have := hr b e.symm _ h; cases this
theorem ScW.kept {B D : Nat} {w W W' : World} {l : List Sc} {row : Option Nat} (h : ScW B D w l W) (hg : W.grownBy W' row) (hr : ∀ k,row = some k -> B <= k /\ ∀ o,W.heap[k]? = some o -> o.isCells = false) : ScW B D w l W':=by
 obtain ⟨⟨v,h1,h2⟩,h3,h4,h5,h6,h7,h8⟩:=h
 have hr' : ∀ k,row = some k -> ∀ o,W.heap[k]? = some o -> o.isCells = false:=fun k e => (hr k e).2
 refine ⟨⟨v,blk_cells h1 hg hr',h2.move ⟨fun b o _ ho hc => (hg.block b (Array.getElem?_eq_some_iff.1 ho).1 (fun e => by have := hr' b e.symm o ho; rw [hc] at this; cases this)).trans ho,hg.size⟩⟩,h3,blk_cells h4 hg hr',blk_cells h5 hg hr',h6.trans (below_grown hg (fun k e => (hr k e).1) (by omega)),h7,Nat.le_trans h8 hg.size⟩
structure ScE (B : Nat) (w : World) (W : World) : Prop where
 r0 : Blk W B #[.slice none 0 0] 36
 r1 : Blk W (B + 1) #[.int .i64 5] 53
 bel : Below B w W
 sz : B + 2 <= W.heap.size
theorem ScE.kept {B : Nat} {w W W' : World} {row : Option Nat} (h : ScE B w W) (hg : W.grownBy W' row) (hr : ∀ k,row = some k -> B <= k /\ ∀ o,W.heap[k]? = some o -> o.isCells = false) : ScE B w W':=by
 have hr' : ∀ k,row = some k -> ∀ o,W.heap[k]? = some o -> o.isCells = false:=fun k e => (hr k e).2
 exact ⟨blk_cells h.r0 hg hr',blk_cells h.r1 hg hr',h.bel.trans (below_grown hg (fun k e => (hr k e).1) (by have := h.sz; omega)),Nat.le_trans h.sz hg.size⟩
def Pg (a : Gx) : Prop:=a.good = true /\ a.parts <= 200
theorem pg_arg (e : Gx) (h : Pg e) : e.good = true /\ ∀ a ∈ e.args,Pg a:=⟨h.1,fun a ha => ⟨good_args h.1 a ha,by have := partsG_arg ha; have := partsG_args e; have := h.2; omega⟩⟩
theorem TqX.grown {K : Nat} {W W' : World} {t : Tq} {y : Tv} (h : TqX K W t y) (hb : Below K W W') : TqX K W' t y:=h.below hb (Nat.le_refl _) (Nat.le_refl _)
theorem below_putObj {K l : Nat} {W : World} {o' : Obj} (hK : K <= l) : Below K W (W.putObj l o'):=⟨rfl,rfl,rfl,by simp [World.putObj],fun k hk => World.putObj_heap_other (by omega)⟩
theorem KpG.grown {K : Nat} {A C : World} {row : Option Nat} (hg : A.grownBy C row) (hK : K <= A.heap.size) (hr : ∀ r,row = some r -> K <= r /\ ∀ cs,¬ Blk A r cs 31) : KpE K A C :=
 ⟨below_grown hg (fun r h => (hr r h).1) hK,fun r cs hb => hb.kept hg (fun h => (hr r h.symm).2 cs hb)⟩
theorem KpG.trans {K : Nat} {A B C : World} (h1 : KpE K A B) (h2 : KpE K B C) : KpE K A C:=⟨h1.1.trans h2.1,fun r cs hb => h2.2 r cs (h1.2 r cs hb)⟩
theorem KpG.refl (K : Nat) (A : World) : KpE K A A:=⟨Below.refl _ _,fun _ _ h => h⟩
theorem KpG.putObj {K l : Nat} {W : World} {o o' : Obj} (hK : K <= l) (hl : W.heap[l]? = some o) (ho : o.isCells = false) : KpE K W (W.putObj l o'):=by
 refine KpG.grown (grownBy_putObj' W l o') (by have := (Array.getElem?_eq_some_iff.1 hl).1; omega) (fun r e => ?_)
 cases e
 refine ⟨hK,fun cs hb => ?_⟩
 unfold Blk at hb; rw [hl] at hb; cases hb; simp [Obj.isCells] at ho
def mkD (D : Nat) : Deferred:={ target:=.collected D,args:=#[] }
def DefOk (lo hi : Nat) (W : World) (ds : List Deferred) : Prop :=
 ∃ Ds : List Nat,ds = Ds.map mkD /\ Ds.Pairwise (· > ·) /\ ∀ D ∈ Ds,lo <= D /\ D < hi /\ W.heap[D]? = some (Obj.deferred (some []))
theorem DefOk.nil (lo hi : Nat) (W : World) : DefOk lo hi W []:=⟨[],rfl,List.Pairwise.nil,fun D h => by cases h⟩
theorem DefOk.cons {lo hi hi' D : Nat} {W : World} {ds : List Deferred} (h : DefOk lo hi W ds) (hl : lo <= D) (hh : hi <= D) (hD' : D < hi') (hD : W.heap[D]? = some (Obj.deferred (some []))) : DefOk lo hi' W (mkD D :: ds):=by
 obtain ⟨Ds,rfl,h2,h3⟩:=h
 refine ⟨D :: Ds,rfl,List.pairwise_cons.2 ⟨fun D' hD' => ?_,h2⟩,fun D' hD'' => ?_⟩
 ·have := (h3 D' hD').2.1; omega
 ·rcases List.mem_cons.1 hD'' with rfl | hD''
  ·exact ⟨hl,hD',hD⟩
  ·obtain ⟨a,b,c⟩:=h3 D' hD''; exact ⟨a,by omega,c⟩
theorem DefOk.kept {lo hi : Nat} {W W' : World} {ds : List Deferred} {row : Option Nat} (h : DefOk lo hi W ds) (hg : W.grownBy W' row) (hr : ∀ k,row = some k -> hi <= k \/ ∀ o,W.heap[k]? = some o -> o.isCells = true) : DefOk lo hi W' ds:=by
 obtain ⟨Ds,h1,h2,h3⟩:=h
 refine ⟨Ds,h1,h2,fun D hD => ?_⟩
 obtain ⟨a,b,c⟩:=h3 D hD
 refine ⟨a,b,(hg.block D (Array.getElem?_eq_some_iff.1 c).1 fun e => ?_).trans c⟩
 rcases hr D e.symm with h | h
 ·omega
 ·have := h _ c; cases this
theorem DefOk.mono {lo hi hi' : Nat} {W : World} {ds : List Deferred} (h : DefOk lo hi W ds) (hh : hi <= hi') : DefOk lo hi' W ds:=by
 obtain ⟨Ds,h1,h2,h3⟩:=h
 exact ⟨Ds,h1,h2,fun D hD => ⟨(h3 D hD).1,Nat.lt_of_lt_of_le (h3 D hD).2.1 hh,(h3 D hD).2.2⟩⟩
structure Shut (B : Nat) (W W' : World) : Prop where
 bel : Below B W W'
 cells : ∀ (b : Nat) (o : Obj),W.heap[b]? = some o -> o.isCells = true -> W'.heap[b]? = some o
theorem Shut.refl (B : Nat) (W : World) : Shut B W W:=⟨Below.refl _ _,fun _ _ h _ => h⟩
theorem leaves_ok {B lo hi n : Nat} {P : Program} {fn : Func} {tmps : Array Value} {R : Ending -> World -> Prop} {W : World} {ds : List Deferred} (h : DefOk lo hi W ds) (hB : B <= lo)
  (hQ : ∀ W',Shut B W W' -> LeavesInM Fence.wide n P fn tmps R [] .returning W') : LeavesInM Fence.wide n P fn tmps R ds .returning W:=by
 obtain ⟨Ds,rfl,h2,h3⟩:=h
 induction Ds generalizing W with
 | nil => exact hQ W (Shut.refl _ _)
 | cons D Ds ih =>
  obtain ⟨a,b,c⟩:=h3 D (by simp)
  obtain ⟨p1,p2⟩:=List.pairwise_cons.1 h2
  rw [List.map_cons,LeavesInM]
  refine ⟨by simp,.inl ⟨D,W.putObj D (Obj.deferred none),rfl,run_takeDeferred c,ih (fun W' hs => hQ W' ⟨(below_putObj (by omega)).trans hs.bel,fun q o ho hc => hs.cells q o ?_ hc⟩) p2 fun D' hD' => ?_⟩⟩
  ·refine (World.putObj_heap_other fun e => ?_).trans ho
   rw [e,c] at ho
   obtain rfl:=Option.some.inj ho
   cases hc
  ·obtain ⟨a',b',c'⟩:=h3 D' (by simp [hD'])
   exact ⟨a',b',(World.putObj_heap_other (by have := p1 D' hD'; omega)).trans c'⟩
theorem Blk.shut {B b t : Nat} {W W' : World} {cs : Array Value} (h : Blk W b cs t) (hs : Shut B W W') : Blk W' b cs t:=hs.cells b _ h rfl
structure Rn (K s : Nat) (W W' : World) : Prop where
 kf : KeepsFrom s W W'
 kp : KpE K W W'
theorem Rn.refl (K s : Nat) (W : World) : Rn K s W W:=⟨KeepsFrom.refl _ _,KpG.refl _ _⟩
theorem Rn.trans {K s : Nat} {A B C : World} (h : Rn K s A B) (h' : Rn K s B C) : Rn K s A C:=⟨h.kf.trans h'.kf,KpG.trans h.kp h'.kp⟩
theorem Rn.grown {K s : Nat} {W W' : World} {row : Option Nat} (hg : W.grownBy W' row) (hK : K <= W.heap.size) (hr : ∀ r,row = some r -> K <= r /\ ∃ cs t,Blk W r cs t /\ t ≠ 31) : Rn K s W W':=by
 refine ⟨(KeepsOthers.of_grownBy hg fun j o e ho => ?_).from _,KpG.grown hg hK fun r e => ⟨(hr r e).1,fun cs hb => ?_⟩⟩
 ·obtain ⟨_,cs,t,hb,_⟩:=hr j e
  unfold Blk at hb; rw [hb] at ho; cases ho; rfl
 ·obtain ⟨_,cs',t,hb',hne⟩:=hr r e
  exact hne (hb'.ty_ne hb)
theorem Rn.below {K s : Nat} {W W' : World} (h : Below W.heap.size W W') (hK : K <= W.heap.size) : Rn K s W W':=Rn.grown (grown_below h) hK (fun r e => by cases e)
theorem ScW.turn {B D : Nat} {w W W' : World} {l l' : List Sc} {v : Value} (h : ScW B D w l W) (hb : Below D W W') (hq : Blk W' D #[v] 36) (ho : ScOwn (D + 1) W' v l') (hk : ScsOk l') : ScW B D w l' W' :=
 ⟨⟨v,hq,ho⟩,hk,h.r0.below hb (by have := h.lt; omega),h.r1.below hb (by have := h.lt; omega),h.bel.trans (hb.mono (by have := h.lt; omega)),h.lt,by have := h.sz; have := hb.size; omega⟩
theorem insS_zero {l : List Sc} {i : Nat} {t : Tq} (h : t.kd = 0) : insS l i t = some l:=by unfold insS; rw [if_pos h]
theorem insS_some {l : List Sc} {i : Nat} {t : Tq} {c : List Vq} (h : t.kd ≠ 0) (hc : insC (l[i]?.getD default).cuts t.cut = some c) : insS l i t = some (l.set i { (l[i]?.getD default) with cuts:=c }):=by unfold insS; rw [if_neg h,hc]; rfl
theorem insS_none {l : List Sc} {i : Nat} {t : Tq} (h : t.kd ≠ 0) (hc : insC (l[i]?.getD default).cuts t.cut = none) : insS l i t = none:=by unfold insS; rw [if_neg h,hc]; rfl
theorem set_same {l : List Sc} {i : Nat} (hi : i < l.length) : l.set i { (l[i]?.getD default) with cuts:=(l[i]?.getD default).cuts } = l:=by
 have : ({ (l[i]?.getD default) with cuts:=(l[i]?.getD default).cuts } : Sc) = l[i]:=by rw [List.getElem?_eq_getElem hi]; rfl
 rw [this,List.set_getElem_self]
theorem drew_grown (W : World) : W.grownBy W.drew none:=⟨rfl,rfl,rfl,Nat.le_refl _,fun _ _ _ => rfl⟩
abbrev errW (B : Nat) (W : World) : World:=(W.setCell ⟨B,0,none⟩ (.slice none 0 0)).setCell ⟨B + 1,0,none⟩ (.int .i64 5)
theorem ScW.err {B D : Nat} {w W : World} {l : List Sc} (h : ScW B D w l W) : ScE B w (errW B W) /\ (∀ K s,K <= B -> Rn K s W (errW B W)) /\ (∀ lo hi ds,DefOk lo hi W ds -> DefOk lo hi (errW B W) ds):=by
 have hlt:=h.lt
 have hsz:=h.sz
 have p0:=h.r0.set (i:=0) (.slice none 0 0)
 have p1:=h.r1.other (b':=B) (i:=0) (by omega) (.slice none 0 0)
 refine ⟨⟨p0.other (by omega) _,p1.set (i:=0) (.int .i64 5),(h.bel.setCell (Nat.le_refl _) _).setCell (by simp) _,by simp [World.setCell]; omega⟩,fun K s hK => ?_,fun lo hi ds hd => ?_⟩
 ·exact (Rn.grown (grownBy_setCell W B 0 _) (by omega) (fun r e => by cases e; exact ⟨hK,_,_,h.r0,by decide⟩)).trans (Rn.grown (grownBy_setCell _ (B + 1) 0 _) (by simp [World.setCell]; omega) (fun r e => by cases e; exact ⟨by omega,_,_,p1,by decide⟩))
 ·refine (hd.kept (grownBy_setCell W B 0 _) (fun q e => .inr fun o ho => ?_)).kept (grownBy_setCell _ (B + 1) 0 _) (fun q e => .inr fun o ho => ?_)
  ·cases e; have h1:=h.r0; unfold Blk at h1; rw [h1] at ho; cases ho; rfl
  ·cases e; have h1:=p1; unfold Blk at h1; rw [h1] at ho; cases ho; rfl
theorem ScsX.at {K : Nat} {w w' : World} {v : Value} {l : List Sc} (h : ScsX K w v l) (hb : Below K w w') (hs : K <= w'.heap.size) : ScsX w'.heap.size w' v l:=h.below hb (Nat.le_refl _) hs
theorem Tryz.infoScaleG : (Tryz.prog.info? 34).map (fun i => (i.zero,i.size,i.bytes)) = some (some sv0.agg,11,160):=by kernel_rfl
theorem sv_cellR {w : World} {xb : Nat} {z : Sv} (h : Blk w xb z.cells 34) {i j : Nat} {r : List Value} {u : Value} (hi : [z.cells.toList][i]? = some r) (hj : r[j]? = some u) : w.cell? ⟨xb,0 + (i * 11 + j),none⟩ = some u:=by
 match i,hi with
 | 0,hi =>
  simp only [List.getElem?_cons_zero,Option.some.injEq] at hi
  subst hi
  have := h.at (i:=j) (x:=u) (by simpa using hj)
  rwa [show 0 + (0 * 11 + j) = j by omega]
 | i + 1,hi => simp at hi
end Go.Proofs.YtlldjmagbjjeoaaGreat
