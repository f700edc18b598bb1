/- Contracts and plain laws, several texts in one (GWalk, GIns0, GIns, GIns2, GIns3). No conditions beyond those stated. -/
import Derived.Laws.CopyRow
import Derived.Lib.AppendZerosOnto
import Derived.Lib.Overlaps
import Derived.Laws.Externs
import Derived.Laws.IdiomCopy
import Derived.Laws.NewBlocks
import Derived.Test.YtlldjmagbjjeoaaGreatPk25
set_option maxRecDepth 100000
set_option maxHeartbeats 40000000
namespace Go.Proofs.YtlldjmagbjjeoaaGreat
open Go.RowKit
set_option linter.unusedVariables false
attribute [local go_sem] Oper.semAt_some
abbrev El:=Tq × Tv
def elEnc (x : El) : Array Value:=#[x.2.agg]
def tsOf (e : Gx) : List Tq:=e.tests.map testOf
def tsL (l : List Gx) : List Tq:=(testsL l).map testOf
theorem testsL_append (a b : List Gx) : testsL (a ++ b) = testsL a ++ testsL b:=by
 induction a with
 | nil => simp [testsL]
 | cons x r ih => rw [List.cons_append,testsL,testsL,ih,List.append_assoc]
theorem testsL_one (e : Gx) : testsL [e] = e.tests:=by simp [testsL]
theorem tsL_take (es : List Gx) (k : Nat) (e : Gx) (h : es[k]? = some e) : tsL (es.take (k + 1)) = tsL (es.take k) ++ tsOf e:=by
 have hk:=(List.getElem?_eq_some_iff.1 h).1
 have : es[k] = e:=by rw [List.getElem?_eq_getElem hk] at h; exact Option.some.inj h
 unfold tsL tsOf
 rw [List.take_succ_eq_append_getElem hk,testsL_append,this,testsL_one,List.map_append]
theorem tsL_drop (es : List Gx) (k : Nat) (e : Gx) (h : es[k]? = some e) : tsL es = tsL (es.take k) ++ (tsOf e ++ tsL (es.drop (k + 1))):=by
 have hk:=(List.getElem?_eq_some_iff.1 h).1
 have h0 : es[k] = e:=by rw [List.getElem?_eq_getElem hk] at h; exact Option.some.inj h
 have h1 : es = es.take k ++ (es[k] :: es.drop (k + 1)):=by rw [<- List.drop_eq_getElem_cons hk,List.take_append_drop]
 conv => lhs; rw [h1,h0]
 unfold tsL tsOf
 rw [testsL_append,testsL,List.map_append,List.map_append]
theorem tests_mk (e : Gx) : e.tests = if e.settled then [] else if e.composed then testsL e.args else [e]:=by cases e; rw [Gx.tests]; rfl
def WPost (K : Nat) (J Jx : List El -> World -> Prop) (pre : List El) (ts : List Tq) (W : World) (en : Ending) (W' : World) : Prop :=
 (en = .returned (.bool true) /\ ∃ xs : List El,xs.map Prod.fst = ts /\ J (pre ++ xs) W' /\ Below K W W' /\ W.heap.size <= W'.heap.size) ∨
 (en = .returned (.bool false) /\ ∃ (xs : List El) (rest : List Tq),xs.map Prod.fst ++ rest = ts /\ Jx (pre ++ xs) W')
theorem grown_below {w w' : World} (h : Below w.heap.size w w') : w.grownBy w' none:=⟨h.os,h.tape,h.output,h.size,fun k hk _ => h.block k hk⟩
theorem gwalk_in (l K : Nat) (P : Gx -> Prop) (hP : ∀ e,P e -> e.good = true /\ ∀ a ∈ e.args,P a) (J Jx : List El -> World -> Prop) (hJ : ∀ s A B,J s A -> A.grownBy B none -> J s B)
  (hY : ∀ m pre x W,J pre W -> TqX K W x.1 x.2 /\ (∃ a,P a /\ x.1 = testOf a) -> YieldAt Fence.wide m Tryz.prog l (elEnc x) W fun e W' => (e = .returned (.bool true) /\ J (pre ++ [x]) W' /\ KpE K W W') \/ (e = .returned (.bool false) /\ Jx (pre ++ [x]) W' /\ KpE K W W')) :
  ∀ (m : Nat) (e : Gx),e.parts <= m -> ∀ (n : Nat) (x : Xv) (pre : List El) (W : World),ExG K W e x -> P e -> K <= W.heap.size -> J pre W →
   CallsIn Fence.wide n Tryz.prog 57 #[x.agg,.func (.yield l) #[] #[]] W (WPost K J Jx pre (tsOf e) W):=by
 intro m
 induction m with
 | zero => intro e hm; cases e; rw [partsG_mk] at hm; omega
 | succ m ih =>
  intro e hm n x pre W h hp hK hj
  have hgood:=(hP e hp).1
  obtain ⟨W1,hW1⟩ : ∃ W1,W.alloc (.cells x.cells 31) = W1:=⟨_,rfl⟩
  have hb1 : Below K W W1:=hW1 ▸ (Below.refl K W).alloc hK _
  have hbs1 : Below W.heap.size W W1:=hW1 ▸ (Below.refl _ W).alloc (Nat.le_refl _) _
  have hs1 : W1.heap.size = W.heap.size + 1:=by rw [<- hW1]; simp
  have q1 : Blk W1 W.heap.size x.cells 31:=hW1 ▸ Blk.new W _ _
  have hset:=settled_any K e x W1 (h.below hb1 (Nat.le_refl _) (Nat.le_refl _)) hgood (by omega)
  have HX:=Lib.hid h
  have HP:=Lib.hid hp
  have HPP:=Lib.hid hP
  have HJ:=Lib.hid hJ
  have HY:=Lib.hid hY
  have HM:=Lib.hid hm
  have HIH:=Lib.hid ih
  have HG:=Lib.hid hgood
  have HJ0:=Lib.hid hj
  have HT:=Lib.hid (tests_mk e)
  obtain ⟨cs,hcs⟩ : ∃ c,e.settled = c:=⟨_,rfl⟩
  obtain ⟨cc,hcc⟩ : ∃ c,e.composed = c:=⟨_,rfl⟩
  rw [hcs] at hset
  rw [hcs,hcc] at HT
  have HCC:=Lib.hid hcc
  obtain ⟨x',hx'⟩ : ∃ x' : Xv,x' = x:=⟨_,rfl⟩
  rw [<- hx'] at HX
  obtain ⟨xop,xnm,kd,b3,⟨a4,n4,m4⟩,b5,⟨a6,n6,m6⟩,i7,⟨a8,n8,m8⟩⟩:=x
  have HX':=Lib.hid hx'
  have HW1:=Lib.hid hW1
  rw [<- hW1] at hset
  dsimp only [Xv.cells,Xv.agg] at hset
  clear hW1 h hp hP hJ hY hm ih hgood hj hcs hcc hx'
  refine callsIn_of_wp Tryz.func57 rfl trivial ?_
  simp only [Tryz.ntmps57,List.size_toArray,List.length_cons,List.length_nil,Nat.reduceAdd,Nat.reduceSub,Array.replicate_succ,Array.replicate_zero,List.push_toArray,List.append_toArray,List.nil_append,List.cons_append]
  gi_wp2_with fail
  refine ⟨trivial,wide_depth,(callsIn_wide.2 hset).mono ?_⟩
  clear hset
  rintro en W2 ⟨rfl,hb2⟩
  rw [show W.alloc (.cells #[.int .u8 xop,S xnm,.int .u8 kd,.bool b3,.slice a4 n4 m4,.bool b5,.slice a6 n6 m6,.int .i64 i7,.slice a8 n8 m8] 31) = W1 from HW1.out] at hb2
  have hb3 : Below W.heap.size W W2:=hbs1.trans (hb2.mono (by omega))
  have hK2 : Below K W W2:=hb3.mono hK
  have hs2:=hb2.size
  have q2:=q1.below hb2 (by omega)
  cases cs with
  | true =>
   gi_wp2_with fail
   go_ret
   exact .inl ⟨rfl,[],by unfold tsOf; rw [HT.out]; rfl,by rw [List.append_nil]; exact HJ.out _ _ _ HJ0.out (grown_below hb3),hK2,by omega⟩
  | false =>
   obtain ⟨d0,d1,d2,d3,d4,d5,d6,d7,d8⟩:=q2.nine
   have hcom:=composed_any K e x' W2 (HX.out.below hK2 (Nat.le_refl _) (Nat.le_refl _))
   rw [HCC.out] at hcom
   rw [HX'.out] at hcom
   dsimp only [Xv.cells,Xv.agg] at hcom
   gi_wp2_with fail
   refine ⟨trivial,wide_depth,(callsIn_wide.2 hcom).mono ?_⟩
   clear hcom d0 d1 d2 d3 d4 d5 d6 d7 d8
   rintro en W3 ⟨rfl,hb4⟩
   have hb5 : Below W.heap.size W W3:=hb3.trans (hb4.mono (by omega))
   have hK3 : Below K W W3:=hb5.mono hK
   have hs3:=hb4.size
   have q3:=q2.below hb4 (by omega)
   obtain ⟨d0,d1,d2,d3,d4,d5,d6,d7,d8⟩:=q3.nine
   cases cc with
   | false =>
    have hto:=testOf_any K e x' W3 (HX.out.below hK3 (Nat.le_refl _) (Nat.le_refl _)) HG.out (by omega)
    rw [HX'.out] at hto
    dsimp only [Xv.cells,Xv.agg] at hto
    gi_wp2_with fail
    refine ⟨trivial,wide_depth,(callsIn_wide.2 hto).mono ?_⟩
    clear hto d0 d1 d2 d3 d4 d5 d6 d7 d8
    rintro en W4 ⟨y,rfl,hy4,hb6⟩
    have hb7 : Below W.heap.size W W4:=hb5.trans (hb6.mono (by omega))
    have hj4 : J pre W4:=HJ.out _ _ _ HJ0.out (grown_below hb7)
    obtain ⟨fn,tmps,assign,body,hyy,hR⟩:=HY.out (n - 1) pre (testOf e,y) W4 hj4 ⟨hy4,e,HP.out,rfl⟩
    unfold elEnc at hyy
    dsimp only at hyy
    gi_wp2_with fail
    refine ⟨wide_depth,hR.mono ?_⟩
    clear hR hyy
    have HTT : Hid (tsOf e = [testOf e]):=Lib.hid (by unfold tsOf; rw [HT.out]; rfl)
    rintro en W5 (⟨rfl,hj5,hk5⟩ | ⟨rfl,hj5,hk5⟩)
    ·gi_wp2_with fail
     go_ret
     exact .inl ⟨rfl,[(testOf e,y)],by rw [HTT.out]; rfl,hj5,(hb7.mono hK).trans hk5.1,Nat.le_trans hb7.size hk5.1.size⟩
    ·gi_wp2_with fail
     go_ret
     exact .inr ⟨rfl,[(testOf e,y)],[],by rw [HTT.out]; rfl,hj5⟩
   | true =>
    have HTT : Hid (tsOf e = tsL e.args):=Lib.hid (by unfold tsOf tsL; rw [HT.out]; rfl)
    obtain ⟨_,_,_,_,g,hg,hgs⟩:=HX.out.open
    rw [HX'.out] at hg
    obtain ⟨va,vcap,h8,hvl,hvm⟩:=hg.form
    simp only [Sl.val,Value.slice.injEq] at h8
    obtain ⟨rfl,rfl,rfl⟩:=h8
    have HGS : Hid (∀ (k : Nat) (a : Gx),e.args[k]? = some a -> ExG K W a (g k) /\ a.parts <= m /\ P a):=Lib.hid fun k a ha => ⟨hgs k a ha,by
     have h1:=partsG_arg (List.mem_of_getElem? ha)
     have h2:=HM.out
     rw [partsG_args] at h2; omega,(HPP.out e HP.out).2 a (List.mem_of_getElem? ha)⟩
    have HGG:=Lib.hid hg
    unfold maxLen at hvm
    clear hgs hg
    gi_wp2_with fail
    clear d0 d1 d2 d3 d4 d5 d6 d7 d8
    gi_loopw [19] (fun i wr => ∃ (k : Nat) (xs : List El),k <= e.args.length /\ i = .int .i64 k /\ xs.map Prod.fst = tsL (e.args.take k) /\ J (pre ++ xs) wr /\ Below K W wr /\ W.heap.size <= wr.heap.size) (fun i _ => e.args.length - (intOf i).toNat)
    case atStart => exact ⟨0,[],Nat.zero_le _,rfl,by simp [tsL,testsL],by rw [List.append_nil]; exact HJ.out _ _ _ HJ0.out (grown_below hb5),hK3,by omega⟩
    case round =>
     obtain ⟨k,xs,hk,rfl,hxs,hjr,hbr,hsr⟩:=hrel
     by_cases hlt : k < e.args.length
     ·obtain ⟨b,o,cap,he,_,hcm,hbK,hc⟩:=HGG.out.pos (by omega)
      simp only [Sl.val,Value.slice.injEq,true_and] at he
      obtain ⟨rfl,rfl⟩:=he
      obtain ⟨k0,k1,k2,k3,k4,k5,k6,k7,k8⟩:=ex_cells (cells_below hbr hbK hc) hlt
      obtain ⟨ek,hek⟩ : ∃ ek,e.args[k]? = some ek:=⟨_,List.getElem?_eq_getElem hlt⟩
      obtain ⟨hq,hpm,hpk⟩:=HGS.out k ek hek
      obtain ⟨y,hy⟩ : ∃ y,g k = y:=⟨_,rfl⟩
      rw [hy] at hq k0 k1 k2 k3 k4 k5 k6 k7 k8
      have hbl : Below K W (wr.alloc (.cells y.cells 31)):=hbr.alloc (by omega) _
      have hcall:=HIH.out ek hpm (n - 1) y (pre ++ xs) (wr.alloc (.cells y.cells 31)) (hq.below hbl (Nat.le_refl _) (Nat.le_refl _)) hpk (by simp; omega) (HJ.out _ _ _ hjr (World.grownBy_alloc wr _ none))
      have HT1 : Hid (tsL (e.args.take (k + 1)) = tsL (e.args.take k) ++ tsOf ek):=Lib.hid (tsL_take e.args k ek hek)
      have HT2 : Hid (tsL e.args = tsL (e.args.take k) ++ (tsOf ek ++ tsL (e.args.drop (k + 1)))):=Lib.hid (tsL_drop e.args k ek hek)
      have HXS:=Lib.hid hxs
      clear hek hc hxs hy hq hpm hpk
      gi_wp2_with fail
      refine ⟨trivial,wide_depth,hcall.mono ?_⟩
      clear hcall
      unfold WPost
      rintro en W6 (⟨rfl,ys,hys,hj6,hb6,hs6⟩ | ⟨rfl,ys,rest,hys,hj6⟩)
      ·simp only [World.size_alloc] at hs6
       have HYS:=Lib.hid hys
       clear hys
       gi_wp2_with fail
       refine ⟨⟨k + 1,xs ++ ys,by omega,by go_num,?_,?_,hbl.trans hb6,by omega⟩,by simp [intOf]; omega⟩
       ·rw [List.map_append,HXS.out,HYS.out,HT1.out]
       ·rw [<- List.append_assoc]; exact hj6
      ·have HYS:=Lib.hid hys
       clear hys
       gi_wp2_with fail
       go_ret
       refine .inr ⟨rfl,xs ++ ys,rest ++ tsL (e.args.drop (k + 1)),?_,by rw [<- List.append_assoc]; exact hj6⟩
       rw [HTT.out,HT2.out,List.map_append,HXS.out,<- HYS.out]
       simp
     ·obtain rfl : k = e.args.length:=by omega
      rw [List.take_length] at hxs
      have HXS:=Lib.hid hxs
      clear hxs
      gi_wp2_with fail
      go_ret
      exact .inl ⟨rfl,xs,by rw [HXS.out,HTT.out],hjr,hbr,hsr⟩
theorem tests_iter (K Bx : Nat) (P : Gx -> Prop) (hP : ∀ e,P e -> e.good = true /\ ∀ a ∈ e.args,P a) (e : Gx) (x : Xv) :
  IterSt (α:=El) Tryz.prog 56 (fun i => #[] ++ #[.func (.yield i) #[] #[]] ++ #[.pointer (some ⟨Bx,0,none⟩)]) elEnc (fun pre x W => TqX K W x.1 x.2 /\ ∃ a,P a /\ x.1 = testOf a) (fun A B => A.grownBy B none) (KpE K)
   (fun xs W => xs.map Prod.fst = tsOf e) (fun xs W => ∃ rest,xs.map Prod.fst ++ rest = tsOf e) (fun W => K <= W.heap.size /\ Blk W Bx x.cells 31 /\ ExG K W e x /\ P e):=by
 rintro n i J Jx W ⟨hK,hq,hx,hp⟩ hJ hJx hY h0
 have hw:=gwalk_in i K P hP J Jx hJ (fun m pre x W hj hl => YieldAt.anyDepth rfl m (hY pre x W hj hl)) _ e (Nat.le_refl _) (n - 1) x [] W hx hp hK h0
 obtain ⟨d0,d1,d2,d3,d4,d5,d6,d7,d8⟩:=hq.nine
 dsimp only [Xv.agg,Xv.cells] at hw
 clear hY hq hx hP
 refine callsIn_of_wp Tryz.func56 rfl trivial ?_
 simp only [Tryz.ntmps56,List.size_toArray,List.length_cons,List.length_nil,Nat.reduceAdd,Nat.reduceSub,Array.replicate_succ,Array.replicate_zero,List.push_toArray,List.append_toArray,List.nil_append,List.cons_append]
 gi_wp2_with fail
 refine ⟨trivial,wide_depth,hw.mono ?_⟩
 clear hw
 unfold WPost
 rintro en W3 (⟨rfl,ys,hys,hj3,_,_⟩ | ⟨rfl,ys,rest,hys,hj3⟩)
 ·gi_wp2_with fail
  go_end0
  exact ⟨⟨_,rfl⟩,.inl ⟨ys,hys,by simpa using hj3⟩⟩
 ·gi_wp2_with fail
  go_end0
  exact ⟨⟨_,rfl⟩,.inr ⟨ys,⟨rest,hys⟩,by simpa using hj3⟩⟩
theorem tests_any (x : Xv) (w : World) : Calls Tryz.prog 33 #[x.agg] w fun e w' => e = .returned (.func (.func 56) #[] #[.pointer (some ⟨w.heap.size,0,none⟩)]) /\ w.alloc (.cells x.cells 31) = w':=by
 go_enter Tryz.func33,Tryz.ntmps33
 go_wp2_with fail
 go_ret
 exact ⟨rfl,rfl⟩
theorem run_copy_rowC (w : World) (dT sT ty elem c : Nat) (g o dLen dCap : Nat) (a : Addr) (sLen sCap : Nat) (cur : Array Value) (t : TypeId) (cs : List Value)
  (hu : Tryz.prog.underlying dT = some (.slice elem)) (hs : (Tryz.prog.info? elem).map (fun i => i.size) = some c)
  (hg : w.heap[g]? = some (.cells cur t (0,0))) (hn : cs.length = Nat.min sLen dLen * c)
  (hsrc : ∀ j v,cs[j]? = some v -> w.cell? (a.add j) = some v) (hfit : o + cs.length <= cur.size) (h1 : ∀ v ∈ cs,v.oneCell' = true) :
  (Builtin.copy_ #[dT,sT] ty #[.slice (some ⟨g,o,none⟩) dLen dCap,.slice (some a) sLen sCap]).run Tryz.prog w =
   .ok (goInt (Nat.min sLen dLen)) (w.setRow g (cur.toList.take o ++ cs ++ cur.toList.drop (o + cs.length)).toArray):=by
 have hl:=run_loadCells_list (P:=Tryz.prog) w a cs hsrc
 have hst:=run_storeCells_at Tryz.prog g o t cs 0 cur w hg (by simpa using hfit) h1
 cases hq : Tryz.prog.info? elem with
 | none => simp [hq] at hs
 | some i =>
  have hi : i.size = c:=by simpa [hq] using hs
  simp [Builtin.copy_,run_underlying hu,Builtin.lenOf,Builtin.firstCells,sizeOf,typeInfo,hq,hi,<- hn,hl,hst]
theorem wp_copy_runV (w : World) {o : Oper} {a : Act} {K : Act -> World -> Prop} {Q : Exit -> Act -> World -> Prop} (d s : Operand) (t t' : TypeId)
  (ho : o.op = .call { callee:=.builtin .copy,args:=#[d,s],argTypes:=#[t,t'] }) (v u : Value) (hd : a.eval d = v) (hs : a.eval s = u) {v' : Value} {w' : World}
  (hr : (Builtin.copy_ #[t,t'] o.type #[v,u]).run Tryz.prog w = .ok v' w') (h : K (a.put o.dst v') w') : o.wp Tryz.prog a w K Q:=by
 unfold Oper.wp execOp
 simp only [ho,resolve,invoke,builtin,Sem.run_bind,Sem.run_pure,Result.andThen_ok,List.map_toArray,List.map_cons,List.map_nil,hd,hs,hr]
 exact h
theorem wp_append_runV (w : World) {o : Oper} {a : Act} {K : Act -> World -> Prop} {Q : Exit -> Act -> World -> Prop} (s x : Operand) (t t' : TypeId)
  (ho : o.op = .call { callee:=.builtin .append,args:=#[s,x],argTypes:=#[t,t'] }) (v u : Value) (hs : a.eval s = v) (hx : a.eval x = u) {v' : Value} {w' : World}
  (hr : (Builtin.append_ #[t,t'] o.type #[v,u]).run Tryz.prog w = .ok v' w') (h : K (a.put o.dst v') w') : o.wp Tryz.prog a w K Q:=by
 unfold Oper.wp execOp
 simp only [ho,resolve,invoke,builtin,Sem.run_bind,Sem.run_pure,Result.andThen_ok,List.map_toArray,List.map_cons,List.map_nil,hs,hx,hr]
 exact h
theorem grow_list {ROW fl r : List Value} {c n i : Nat} (hR : ROW.take (i * c) = fl.take (i * c)) (hfl : fl.length = n * c) (hi : i <= n) (hr : r.length = c) {cur1 cur2 : List Value} (hlen : (n + 1) * c <= ROW.length)
  (h1 : cur1 = ROW.take (i * c) ++ r ++ ROW.drop (i * c + r.length)) (h2 : cur2 = cur1.take ((i + 1) * c) ++ fl.drop (i * c) ++ cur1.drop ((i + 1) * c + (fl.drop (i * c)).length)) :
  cur2.take ((n + 1) * c) = fl.take (i * c) ++ (r ++ fl.drop (i * c)):=by
 have hic : i * c <= n * c:=Nat.mul_le_mul_right _ hi
 have e1 : (i + 1) * c = i * c + c:=Nat.succ_mul _ _
 have e2 : (n + 1) * c = n * c + c:=Nat.succ_mul _ _
 have hd : (fl.drop (i * c)).length = n * c - i * c:=by rw [List.length_drop,hfl]
 have hl : (fl.take (i * c)).length = i * c:=by rw [List.length_take]; omega
 have t1 : cur1.take ((i + 1) * c) = fl.take (i * c) ++ r:=by
  rw [h1,hR,List.take_append_of_le_length (by rw [List.length_append,hl]; omega),List.take_of_length_le (by rw [List.length_append,hl]; omega)]
 rw [h2,t1,List.append_assoc,List.append_assoc,<- List.append_assoc r,<- List.append_assoc]
 rw [List.take_append_of_le_length (by simp only [List.length_append]; omega),List.take_of_length_le (by simp only [List.length_append]; omega)]
theorem flat_take {c : Nat} {rs : List (List Value)} (h : RowsOk c rs) (i : Nat) : (rs.take i).flatten = rs.flatten.take (i * c):=by
 induction rs generalizing i with
 | nil => simp
 | cons r t ih =>
  cases i with
  | zero => simp
  | succ i =>
   have hr:=(h r (by simp)).1
   rw [List.take_succ_cons,List.flatten_cons,List.flatten_cons,ih (fun x hx => h x (List.mem_cons_of_mem _ hx)),List.take_append,hr,Nat.succ_mul,List.take_of_length_le (l:=r) (by omega)]
   congr 2; omega
theorem flat_drop {c : Nat} {rs : List (List Value)} (h : RowsOk c rs) (i : Nat) : (rs.drop i).flatten = rs.flatten.drop (i * c):=by
 induction rs generalizing i with
 | nil => simp
 | cons r t ih =>
  cases i with
  | zero => simp
  | succ i =>
   have hr:=(h r (by simp)).1
   rw [List.drop_succ_cons,List.flatten_cons,ih (fun x hx => h x (List.mem_cons_of_mem _ hx)),List.drop_append,hr,Nat.succ_mul,List.drop_of_length_le (l:=r) (by omega)]
   simp
theorem RowsOk.take {c : Nat} {rs : List (List Value)} (h : RowsOk c rs) (i : Nat) : RowsOk c (rs.take i):=fun r hr => h r (List.mem_of_mem_take hr)
theorem RowsOk.drop {c : Nat} {rs : List (List Value)} (h : RowsOk c rs) (i : Nat) : RowsOk c (rs.drop i):=fun r hr => h r (List.mem_of_mem_drop hr)
def insR (rs : List (List Value)) (i : Nat) (r : List Value) : List (List Value):=rs.take i ++ r :: rs.drop i
theorem insR_ok {c : Nat} {rs : List (List Value)} (h : RowsOk c rs) {i : Nat} {r : List Value} (hr : RowsOk c [r]) : RowsOk c (insR rs i r):=by
 unfold insR
 exact (h.take i).append (fun x hx => by
  rcases List.mem_cons.1 hx with rfl | hx
  ·exact hr _ (by simp)
  ·exact h.drop i _ hx)
theorem insR_length {rs : List (List Value)} {i : Nat} {r : List Value} (hi : i <= rs.length) : (insR rs i r).length = rs.length + 1:=by
 unfold insR; rw [List.length_append,List.length_cons,List.length_take,List.length_drop]; omega
theorem insR_flat {c : Nat} {rs : List (List Value)} (h : RowsOk c rs) (i : Nat) (r : List Value) : (insR rs i r).flatten = rs.flatten.take (i * c) ++ (r ++ rs.flatten.drop (i * c)):=by
 unfold insR; rw [List.flatten_append,List.flatten_cons,flat_take h,flat_drop h]
theorem shift_list {cur fl r : List Value} {c n i : Nat} (hc : cur.take (n * c) = fl) (hfl : fl.length = n * c) (hi : i <= n) (hr : r.length = c) {cur1 cur2 : List Value}
  (h1 : cur1 = cur.take ((i + 1) * c) ++ fl.drop (i * c) ++ cur.drop ((i + 1) * c + (fl.drop (i * c)).length)) (h2 : cur2 = cur1.take (i * c) ++ r ++ cur1.drop (i * c + r.length)) (hlen : (n + 1) * c <= cur.length) :
  cur2.take ((n + 1) * c) = fl.take (i * c) ++ (r ++ fl.drop (i * c)):=by
 have hic : i * c <= n * c:=Nat.mul_le_mul_right _ hi
 have e1 : (i + 1) * c = i * c + c:=Nat.succ_mul _ _
 have e2 : (n + 1) * c = n * c + c:=Nat.succ_mul _ _
 have hd : (fl.drop (i * c)).length = n * c - i * c:=by rw [List.length_drop,hfl]
 have ht : (cur.take ((i + 1) * c)).length = i * c + c:=by rw [List.length_take]; omega
 have t1 : cur1.take (i * c) = fl.take (i * c):=by
  rw [h1,List.append_assoc,List.take_append_of_le_length (by omega),List.take_take,<- hc,List.take_take]
  congr 1; omega
 have t2 : cur1.drop (i * c + r.length) = fl.drop (i * c) ++ cur.drop ((i + 1) * c + (fl.drop (i * c)).length):=by
  rw [h1,List.append_assoc,hr,<- ht,List.drop_left]
 rw [h2,t1,t2]
 have hl : (fl.take (i * c)).length = i * c:=by rw [List.length_take]; omega
 rw [show fl.take (i * c) ++ r ++ (fl.drop (i * c) ++ cur.drop ((i + 1) * c + (fl.drop (i * c)).length)) = (fl.take (i * c) ++ (r ++ fl.drop (i * c))) ++ cur.drop ((i + 1) * c + (fl.drop (i * c)).length) by simp]
 rw [List.take_append_of_le_length (by simp only [List.length_append]; omega),List.take_of_length_le (by simp only [List.length_append]; omega)]
theorem infoVal6 : (Tryz.prog.info? 28).map (fun i => i.size) = some 6:=by kernel_rfl
theorem Tryz.infoValG : (Tryz.prog.info? 28).map (fun i => (i.zero,i.size,i.bytes)) = some (some vv0.agg,6,80):=by kernel_rfl
theorem overlap_no (w : World) (a b ao bo la ca lb cb : Nat) (A B : Array Value) (hA : Blk w a A 28) (hB : Blk w b B 28) (hne : a ≠ b) (hB0 : B.size ≠ 0) :
  (callFunc 73 #[.slice (some ⟨a,ao,none⟩) la ca,.slice (some ⟨b,bo,none⟩) lb cb]).run Tryz.prog w = .ok (.value (.bool false)) w:=by
 have hsa : w.shape? a = some (28,A.size):=by unfold World.shape?; rw [hA]
 have hsb : w.shape? b = some (28,B.size):=by unfold World.shape?; rw [hB]
 rw [run_callFunc_extern Tryz.func73 (by kernel_rfl) (by kernel_rfl) (by kernel_rfl) (e:=Extern.SlicesOverlaps.overlaps #[32,32] #[4]) (by kernel_rfl),
  Lib.run_overlaps_apart w 32 4 28 Tryz.underlying32 6 Tryz.sizeOf28 ⟨a,ao,none⟩ ⟨b,bo,none⟩ la ca lb cb hne 28 28 A.size B.size hsa hsb hB0 (hA.free _) (hA.free _)]
 rfl
theorem insertV_room (base g n cap i xb : Nat) (cur : Array Value) (rs : List (List Value)) (x : Vv) (w : World) (hq : Blk w g cur 28) (hsz : cur.size = cap * 6) (hcur : cur.toList.take (n * 6) = rs.flatten) (hok : RowsOk 6 rs) (hl : rs.length = n)
  (hi : i < n) (hroom : n + 1 <= cap) (hcm : cap <= maxLen) (hx : Blk w xb x.cells 28) (h1 : ∀ u ∈ x.cells.toList,u.oneCell' = true) (hne : xb ≠ g) :
  Calls Tryz.prog 59 #[.slice (some ⟨g,0,none⟩) n cap,.int .i64 i,.slice (some ⟨xb,0,none⟩) 1 1] w fun e w' => e = .returned (.slice (some ⟨g,0,none⟩) (n + 1) cap) ∧
   (∃ cur',Blk w' g cur' 28 /\ cur'.size = cap * 6 /\ cur'.toList.take ((n + 1) * 6) = (insR rs i x.cells.toList).flatten) /\ w.grownBy w' (some g):=by
 have hfl:=flat_length hok
 rw [hl] at hfl
 have hov : ∀ lb cb,(callFunc 73 #[.slice (some ⟨xb,0,none⟩) 1 1,.slice (some ⟨g,(i + 1) * 6,none⟩) lb cb]).run Tryz.prog w = .ok (.value (.bool false)) w:=fun lb cb => overlap_no w xb g 0 _ 1 1 lb cb _ _ hx hq hne (by omega)
 unfold maxLen at hcm
 obtain ⟨cs1,hcs1⟩ : ∃ cs1,rs.flatten.drop (i * 6) = cs1:=⟨_,rfl⟩
 have hcl : cs1.length = (n - i) * 6:=by rw [<- hcs1,List.length_drop,hfl]; omega
 obtain ⟨cur1,hcur1⟩ : ∃ cur1,(cur.toList.take ((i + 1) * 6) ++ cs1 ++ cur.toList.drop ((i + 1) * 6 + cs1.length)).toArray = cur1:=⟨_,rfl⟩
 obtain ⟨cur2,hcur2⟩ : ∃ cur2,(cur1.toList.take (i * 6) ++ x.cells.toList ++ cur1.toList.drop (i * 6 + x.cells.toList.length)).toArray = cur2:=⟨_,rfl⟩
 have hs1 : cur1.size = cap * 6:=by
  rw [<- hcur1,List.size_toArray]
  simp only [List.length_append,List.length_take,List.length_drop,Array.length_toList,hsz,hcl]
  omega
 have hs2 : cur2.size = cap * 6:=by
  rw [<- hcur2,List.size_toArray]
  simp only [List.length_append,List.length_take,List.length_drop,Array.length_toList,hs1]
  simp only [List.length_cons,List.length_nil]
  omega
 have hcells : ∀ (j : Nat) (u : Value),rs.flatten[j]? = some u -> w.cell? ⟨g,j,none⟩ = some u:=fun j u hj => by
  refine hq.at ?_
  rw [<- hcur,List.getElem?_take] at hj
  split at hj
  ·rw [<- Array.getElem?_toList]; exact hj
  ·cases hj
 have h1c : ∀ v ∈ cs1,v.oneCell' = true:=fun v hv => by
  rw [<- hcs1] at hv
  have := List.mem_of_mem_drop hv
  rw [List.mem_flatten] at this
  obtain ⟨r,hr,hv⟩:=this
  exact (hok r hr).2 v hv
 have hcp1 : ∀ ty dc sc,(Builtin.copy_ #[32,32] ty #[.slice (some ⟨g,(i + 1) * 6,none⟩) (n + 1 - (i + 1)) dc,.slice (some ⟨g,i * 6,none⟩) (n + 1 - i) sc]).run Tryz.prog w.drew = .ok (goInt (n - i : Nat)) (w.drew.setRow g cur1):=fun ty dc sc => by
  have hmin : Nat.min (n + 1 - i) (n + 1 - (i + 1)) = n - i:=by simp only [Nat.min_def]; split <;> omega
  have := run_copy_rowC w.drew 32 32 ty 28 6 g ((i + 1) * 6) (n + 1 - (i + 1)) dc ⟨g,i * 6,none⟩ (n + 1 - i) sc cur 28 cs1 Tryz.underlying32 infoVal6 hq (by rw [hmin,hcl])
   (fun j v hj => by rw [addr_add]; exact hcells _ v (by rw [<- hcs1,List.getElem?_drop] at hj; exact hj)) (by rw [hcl,hsz]; omega) h1c
  rw [hmin,hcur1] at this
  exact this
 have hcp2 : ∀ (W : World),Blk W g cur1 28 -> Blk W xb x.cells 28 -> ∀ ty dc,(Builtin.copy_ #[32,32] ty #[.slice (some ⟨g,i * 6,none⟩) (n + 1 - i) dc,.slice (some ⟨xb,0,none⟩) 1 1]).run Tryz.prog W = .ok (goInt (1 : Nat)) (W.setRow g cur2):=fun W hW1 hW2 ty dc => by
  have hmin : Nat.min 1 (n + 1 - i) = 1:=by simp only [Nat.min_def]; split <;> omega
  have := run_copy_rowC W 32 32 ty 28 6 g (i * 6) (n + 1 - i) dc ⟨xb,0,none⟩ 1 1 cur1 28 x.cells.toList Tryz.underlying32 infoVal6 hW1 (by rw [hmin]; rfl)
   (fun j v hj => by rw [addr_add]; exact hW2.at (by rw [Nat.zero_add]; simpa using hj)) (by rw [hs1]; simp only [List.length_cons,List.length_nil]; omega) h1
  rw [hmin,hcur2] at this
  exact this
 have hz2 : ((i : Int) == (n : Int)) = false:=by simp; omega
 have hz3 : decide ((cap : Int) < (n : Int) + 1) = false:=by simp; omega
 have hn2 : ¬ cap = i:=by omega
 have hn3 : ¬ cap = i + 1:=by omega
 have hin : i <= n:=by omega
 have HCP1:=Lib.hid hcp1
 have HCP2:=Lib.hid hcp2
 have HX:=Lib.hid hx
 have HQ:=Lib.hid hq
 have HLN:=Lib.hid hl
 have HCS:=Lib.hid hcs1
 clear hcp1 hcp2 hcells h1c hcs1 hcl hx hq hfl hl
 go_enter Tryz.func59,Tryz.ntmps59
 go_upto_region 14 with fail
 go_wp2_with (simp only [hov])
 have htn : ((i : Int) + 1).toNat = i + 1:=by omega
 have hb1 : (0 : Int) <= (i : Int) + 1:=by omega
 have hb3 : (i : Int) + 1 <= (n : Int) + 1:=by omega
 have hb4 : i <= n + 1:=by omega
 have hb5 : (i : Int) <= (n : Int) + 1:=by omega
 have hb6 : ¬ ((n : Int) + 1 < (i : Int)):=by omega
 have hw1 : IntKind.i64.wrap ((i : Int) + 1) = (i : Int) + 1:=by rw [IntKind.wrap_i64]; omega
 refine region_plain (fun _ => True) [] (by kernel_rfl) ?_
 have qS : (fun _ : World => True) w.drew:=trivial
 refine wpAnyD_tp (i:=0) (v:=.slice (some ⟨g,0,none⟩) (n + 1) cap) rfl qS ?_
 refine wpAnyD_tp (i:=1) (v:=.int .i64 i) rfl qS ?_
 refine wpAnyD_tp (i:=2) (v:=.int .i64 1) rfl qS ?_
 refine wpAnyD_tp (i:=3) (v:=.int .i64 ((i : Int) + 1)) rfl qS ?_
 refine wpAnyD_tp (i:=4) (v:=.slice (some ⟨g,(i + 1) * 6,none⟩) (n + 1 - (i + 1)) (cap - (i + 1))) rfl qS ?_
 refine wpAnyD_tp (i:=5) (v:=.slice (some ⟨g,0,none⟩) (n + 1) cap) rfl qS ?_
 refine wpAnyD_tp (i:=6) (v:=.int .i64 i) rfl qS ?_
 refine wpAnyD_tp (i:=7) (v:=.slice (some ⟨g,i * 6,none⟩) (n + 1 - i) (cap - i)) rfl qS ?_
 refine wpAnyD_on (i:=8) rfl ?_
 refine wp_copy_runV _ _ _ 32 32 rfl (.slice (some ⟨g,(i + 1) * 6,none⟩) (n + 1 - (i + 1)) (cap - (i + 1))) (.slice (some ⟨g,i * 6,none⟩) (n + 1 - i) (cap - i)) (by simp [Act.eval,Act.put]) (by simp [Act.eval,Act.put]) (HCP1.out _ _ _) ?_
 refine ⟨fun _ => trivial,?_⟩
 refine wpAnyD_done (by kernel_rfl) ?_ _
 have hq1 : Blk (w.drew.setRow g cur1) g cur1 28:=setRow_heap w.drew g cur cur1 28 _ HQ.out
 have hx1 : Blk (w.drew.setRow g cur1) xb x.cells 28:=(setRow_other w.drew g xb cur1 hne).trans HX.out
 obtain ⟨W1,hW1⟩ : ∃ W1,w.drew.setRow g cur1 = W1:=⟨_,rfl⟩
 rw [hW1] at hq1 hx1 ⊢
 have HW1:=Lib.hid hW1
 have HC2:=Lib.hid (HCP2.out W1 hq1 hx1)
 clear hW1
 go_simp
 go_upto_region 16 with fail
 iterate 13 go_step
 refine wpList_plain rfl fun _ hKK => wp_copy_runV W1 _ _ 32 32 rfl (.slice (some ⟨g,i * 6,none⟩) (n + 1 - i) (cap - i)) (.slice (some ⟨xb,0,none⟩) 1 1) (by simp [Act.eval]) (by simp [Act.eval]) (HC2.out _ _) (hKK _ _ ?_)
 go_wp2_with fail
 go_ret
 have hsw : (W1.setRow g cur2).heap.size = w.heap.size:=by rw [<- HW1.out]; simp [World.setRow]
 refine ⟨by simp,⟨cur2,setRow_heap W1 g cur1 cur2 28 _ hq1,hs2,?_⟩,⟨by rw [<- HW1.out]; rfl,by rw [<- HW1.out]; rfl,by rw [<- HW1.out]; rfl,by omega,fun k _ hk => ?_⟩⟩
 ·rw [insR_flat hok]
  refine shift_list (c:=6) (n:=n) (i:=i) (cur1:=cur1.toList) hcur (by have := flat_length hok; rw [HLN.out] at this; exact this) hin rfl ?_ ?_ (by rw [Array.length_toList,hsz]; omega)
  ·rw [<- hcur1,HCS.out]
  ·rw [<- hcur2]
 ·have hkg : k ≠ g:=fun e => hk (by rw [e])
  rw [setRow_other W1 g k cur2 hkg,<- HW1.out,setRow_other w.drew g k cur1 hkg]
  rfl
theorem insertV_grow (base g n i xb : Nat) (cur : Array Value) (rs : List (List Value)) (x : Vv) (w : World) (hq : Blk w g cur 28) (hsz : cur.size = n * 6) (hcur : cur.toList.take (n * 6) = rs.flatten) (hok : RowsOk 6 rs) (hl : rs.length = n)
  (hi : i < n) (hbig : n <= 2 ^ 20) (hx : Blk w xb x.cells 28) (h1 : ∀ u ∈ x.cells.toList,u.oneCell' = true) :
  Calls Tryz.prog 59 #[.slice (some ⟨g,0,none⟩) n n,.int .i64 i,.slice (some ⟨xb,0,none⟩) 1 1] w fun e w' => ∃ G,e = .returned (.slice (some ⟨w.heap.size,0,none⟩) (n + 1) G) /\ n + 1 <= G /\ G <= maxLen ∧
   (∃ cur',Blk w' w.heap.size cur' 28 /\ cur'.size = G * 6 /\ cur'.toList.take ((n + 1) * 6) = (insR rs i x.cells.toList).flatten) /\ w.grownBy w' none:=by
 have hfl:=flat_length hok
 rw [hl] at hfl
 obtain ⟨i0,hi0,hz0,hzs,hzb⟩:=info_parts Tryz.infoValG
 have hgl:=hq.lt
 have hxl:=hx.lt
 obtain ⟨N,hN⟩ : ∃ N,w.heap.size = N:=⟨_,rfl⟩
 rw [hN] at hgl hxl ⊢
 obtain ⟨G,hG⟩ : ∃ G,grownCap w (n + 1) n 28 = G:=⟨_,rfl⟩
 have hGn : n + 1 <= G:=by rw [<- hG]; exact grownCap_ge w _ _ _
 have hGm : G <= maxLen:=by rw [<- hG]; exact grownCap_le_maxLen w (n + 1) n 28 (by unfold maxLen; omega)
 have hcells : ∀ (j : Nat) (u : Value),rs.flatten[j]? = some u -> w.cell? ⟨g,j,none⟩ = some u:=fun j u hj => by
  refine hq.at ?_
  rw [<- hcur,List.getElem?_take] at hj
  split at hj
  ·rw [<- Array.getElem?_toList]; exact hj
  ·cases hj
 have h1c : ∀ v ∈ rs.flatten,v.oneCell' = true:=fun v hv => by
  rw [List.mem_flatten] at hv
  obtain ⟨r,hr,hv⟩:=hv
  exact (hok r hr).2 v hv
 obtain ⟨ROW,hROW⟩ : ∃ ROW : Array Value,(rs.flatten.take (i * 6)).toArray ++ Builtin.zeroCells vv0.agg.cells (n + 1 - i) ++ Builtin.zeroCells vv0.agg.cells (G - (n + 1)) = ROW:=⟨_,rfl⟩
 have hRs : ROW.size = G * 6:=by
  rw [<- hROW]
  simp [Builtin.zeroCells,Value.cells,hfl]
  omega
 have hRt : ROW.toList.take (i * 6) = rs.flatten.take (i * 6):=by
  rw [<- hROW,Array.toList_append,Array.toList_append,List.append_assoc,List.take_append_of_le_length (by rw [List.length_take,hfl]; omega),List.take_of_length_le (by rw [List.length_take,hfl]; omega)]
 have hap : ∀ ty,(Builtin.append_ #[32,3] ty #[.slice (some ⟨g,0,none⟩) i n,.int .i64 ((n : Int) + 1 - (i : Int))]).run Tryz.prog w = .ok (.slice (some ⟨N,0,none⟩) (n + 1) G) (w.drew.alloc (.cells ROW 28)):=fun ty => by
  have hold : (Builtin.firstCells i0.size i (.slice (some ⟨g,0,none⟩) i n)).run Tryz.prog w.drew = .ok (rs.flatten.take (i * 6)).toArray w.drew:=by
   rw [hzs]
   exact run_firstCells_some w.drew 6 i ⟨g,0,none⟩ i n (rs.flatten.take (i * 6)) (by rw [List.length_take,hfl]; omega) (fun j v hj => by
    rw [addr_add,Nat.zero_add]
    rw [List.getElem?_take] at hj
    split at hj
    ·exact hcells j v hj
    ·cases hj)
  have hik : i + (n + 1 - i) = n + 1:=by omega
  have h:=Lib.run_append_grow_zeros w 32 3 ty 28 i0 _ .i64 .i64 Tryz.underlying32 Tryz.underlying3 hi0 hz0 (some ⟨g,0,none⟩) i n (rs.flatten.take (i * 6)) hold (n + 1 - i) (by omega) (by omega) (by omega) (by omega) (by rw [hzb]; omega) (by rw [hzb,hik]; exact growslice_fits (by omega) (by omega))
  rw [hik,hG,hROW,hN,show (((n + 1 - i : Nat)) : Int) = (n : Int) + 1 - (i : Int) by omega] at h
  exact h
 obtain ⟨cur1,hcur1⟩ : ∃ cur1,(ROW.toList.take (i * 6) ++ x.cells.toList ++ ROW.toList.drop (i * 6 + x.cells.toList.length)).toArray = cur1:=⟨_,rfl⟩
 obtain ⟨cs1,hcs1⟩ : ∃ cs1,rs.flatten.drop (i * 6) = cs1:=⟨_,rfl⟩
 have hcl : cs1.length = (n - i) * 6:=by rw [<- hcs1,List.length_drop,hfl]; omega
 obtain ⟨cur2,hcur2⟩ : ∃ cur2,(cur1.toList.take ((i + 1) * 6) ++ cs1 ++ cur1.toList.drop ((i + 1) * 6 + cs1.length)).toArray = cur2:=⟨_,rfl⟩
 have hs1 : cur1.size = G * 6:=by
  rw [<- hcur1,List.size_toArray]
  simp only [List.length_append,List.length_take,List.length_drop,Array.length_toList,hRs]
  simp only [List.length_cons,List.length_nil]
  omega
 have hs2 : cur2.size = G * 6:=by
  rw [<- hcur2,List.size_toArray]
  simp only [List.length_append,List.length_take,List.length_drop,Array.length_toList,hs1,hcl]
  omega
 obtain ⟨W1,hW1⟩ : ∃ W1,w.drew.alloc (.cells ROW 28) = W1:=⟨_,rfl⟩
 rw [hW1] at hap
 have hNW : w.drew.heap.size = N:=hN
 have hR1 : Blk W1 N ROW 28:=by rw [<- hW1,<- hNW]; exact Blk.new w.drew ROW 28
 have hbW : ∀ k,k < N -> W1.heap[k]? = w.heap[k]? := fun k hk => by rw [<- hW1]; exact Below.heap_alloc w.drew _ _ (by rw [hNW]; exact hk)
 have hcp1 : ∀ ty dc,(Builtin.copy_ #[32,32] ty #[.slice (some ⟨N,i * 6,none⟩) (n + 1 - i) dc,.slice (some ⟨xb,0,none⟩) 1 1]).run Tryz.prog W1 = .ok (goInt (1 : Nat)) (W1.setRow N cur1):=fun ty dc => by
  have hmin : Nat.min 1 (n + 1 - i) = 1:=by simp only [Nat.min_def]; split <;> omega
  have := run_copy_rowC W1 32 32 ty 28 6 N (i * 6) (n + 1 - i) dc ⟨xb,0,none⟩ 1 1 ROW 28 x.cells.toList Tryz.underlying32 infoVal6 hR1 (by rw [hmin]; rfl)
   (fun j v hj => by rw [addr_add]; exact Blk.at ((hbW xb hxl).trans hx) (by rw [Nat.zero_add]; simpa using hj)) (by rw [hRs]; simp only [List.length_cons,List.length_nil]; omega) h1
  rw [hmin,hcur1] at this
  exact this
 have hcp2 : ∀ (W : World),Blk W N cur1 28 -> W.heap[g]? = w.heap[g]? -> ∀ ty dc sc,(Builtin.copy_ #[32,32] ty #[.slice (some ⟨N,(i + 1) * 6,none⟩) (n + 1 - (i + 1)) dc,.slice (some ⟨g,i * 6,none⟩) (n - i) sc]).run Tryz.prog W = .ok (goInt (n - i : Nat)) (W.setRow N cur2):=fun W hW1 hW2 ty dc sc => by
  have hmin : Nat.min (n - i) (n + 1 - (i + 1)) = n - i:=by simp only [Nat.min_def]; split <;> omega
  have := run_copy_rowC W 32 32 ty 28 6 N ((i + 1) * 6) (n + 1 - (i + 1)) dc ⟨g,i * 6,none⟩ (n - i) sc cur1 28 cs1 Tryz.underlying32 infoVal6 hW1 (by rw [hmin,hcl])
   (fun j v hj => by
    rw [addr_add]
    refine (World.cell?_of_block (w:=w) (a:=⟨g,_,none⟩) hW2).trans (hcells _ v ?_)
    rw [<- hcs1,List.getElem?_drop] at hj; exact hj) (by rw [hcl,hs1]; omega) (fun v hv => h1c v (by rw [<- hcs1] at hv; exact List.mem_of_mem_drop hv))
  rw [hmin,hcur2] at this
  exact this
 have hm:=hGm
 unfold maxLen at hm
 have hz2 : ((i : Int) == (n : Int)) = false:=by simp; omega
 have hz3 : decide ((n : Int) < (n : Int) + 1) = true:=by simp; omega
 have hn2 : ¬ n = i:=by omega
 have hn4 : ¬ G = i:=by omega
 have hn5 : ¬ G = i + 1:=by omega
 have hin : i <= n:=by omega
 have hin2 : i <= n + 1:=by omega
 have htn : ((i : Int) + 1).toNat = i + 1:=by omega
 have hb1 : (0 : Int) <= (i : Int) + 1:=by omega
 have hb3 : (i : Int) + 1 <= (n : Int) + 1:=by omega
 have hb5 : (i : Int) <= (n : Int) + 1:=by omega
 have hb6 : ¬ ((n : Int) + 1 < (i : Int)):=by omega
 have hw1 : IntKind.i64.wrap ((i : Int) + 1) = (i : Int) + 1:=by rw [IntKind.wrap_i64]; omega
 have HAP:=Lib.hid hap
 have HCP1:=Lib.hid hcp1
 have HCP2:=Lib.hid hcp2
 have HLN:=Lib.hid hl
 have HCS:=Lib.hid hcs1
 have HQ:=Lib.hid hq
 have HX:=Lib.hid hx
 have HB:=Lib.hid hbW
 have HR1:=Lib.hid hR1
 have HW1:=Lib.hid hW1
 have HNN:=Lib.hid hN
 have HRT:=Lib.hid hRt
 have H1C:=Lib.hid h1c
 clear hap hcp1 hcp2 hcells h1c hcs1 hcl hx hq hfl hl hbW hR1 hW1 hN hNW hRt hROW hG hi0 hz0 hzs hzb
 go_enter Tryz.func59,Tryz.ntmps59
 go_upto_region 9 with fail
 iterate 25 go_step
 refine wpList_plain rfl fun _ hKK => wp_append_runV w _ _ 32 3 rfl (.slice (some ⟨g,0,none⟩) i n) (.int .i64 ((n : Int) + 1 - (i : Int))) (by simp [Act.eval]) (by simp [Act.eval]) (HAP.out _) (hKK _ _ ?_)
 go_upto_region 10 with fail
 iterate 13 go_step
 refine wpList_plain rfl fun _ hKK => wp_copy_runV W1 _ _ 32 32 rfl (.slice (some ⟨N,i * 6,none⟩) (n + 1 - i) (G - i)) (.slice (some ⟨xb,0,none⟩) 1 1) (by simp [Act.eval]) (by simp [Act.eval]) (HCP1.out _ _) (hKK _ _ ?_)
 have hgN : g ≠ N:=by omega
 have hq2 : Blk (W1.setRow N cur1) N cur1 28:=setRow_heap W1 N ROW cur1 28 _ HR1.out
 have hg2 : (W1.setRow N cur1).heap[g]? = w.heap[g]? := (setRow_other W1 N g cur1 hgN).trans (HB.out g hgl)
 have HW1s : Hid (W1.heap.size = N + 1):=Lib.hid (by rw [<- HW1.out,World.size_alloc]; show w.heap.size + 1 = _; rw [HNN.out])
 obtain ⟨W2,hW2⟩ : ∃ W2,W1.setRow N cur1 = W2:=⟨_,rfl⟩
 rw [hW2] at hq2 hg2 ⊢
 have HW2:=Lib.hid hW2
 have HC2:=Lib.hid (HCP2.out W2.drew hq2 hg2)
 clear hW2
 go_upto_region 11 with fail
 refine region_plain (fun _ => True) [] (by kernel_rfl) ?_
 have qS : (fun _ : World => True) W2.drew:=trivial
 refine wpAnyD_tp (i:=0) (v:=.slice (some ⟨N,0,none⟩) (n + 1) G) rfl qS ?_
 refine wpAnyD_tp (i:=1) (v:=.int .i64 i) rfl qS ?_
 refine wpAnyD_tp (i:=2) (v:=.int .i64 1) rfl qS ?_
 refine wpAnyD_tp (i:=3) (v:=.int .i64 ((i : Int) + 1)) rfl qS ?_
 refine wpAnyD_tp (i:=4) (v:=.slice (some ⟨N,(i + 1) * 6,none⟩) (n + 1 - (i + 1)) (G - (i + 1))) rfl qS ?_
 refine wpAnyD_tp (i:=5) (v:=.slice (some ⟨g,0,none⟩) n n) rfl qS ?_
 refine wpAnyD_tp (i:=6) (v:=.int .i64 i) rfl qS ?_
 refine wpAnyD_tp (i:=7) (v:=.slice (some ⟨g,i * 6,none⟩) (n - i) (n - i)) rfl qS ?_
 refine wpAnyD_on (i:=8) rfl ?_
 refine wp_copy_runV _ _ _ 32 32 rfl (.slice (some ⟨N,(i + 1) * 6,none⟩) (n + 1 - (i + 1)) (G - (i + 1))) (.slice (some ⟨g,i * 6,none⟩) (n - i) (n - i)) (by simp [Act.eval,Act.put]) (by simp [Act.eval,Act.put]) (HC2.out _ _ _) ?_
 refine ⟨fun _ => trivial,?_⟩
 refine wpAnyD_done (by kernel_rfl) ?_ _
 go_simp
 go_wp2_with fail
 go_ret
 have hsw : (W2.drew.setRow N cur2).heap.size = N + 1:=by rw [<- HW1s.out,<- HW2.out]; simp [World.setRow]
 refine ⟨G,rfl,hGn,hGm,⟨cur2,setRow_heap W2.drew N cur1 cur2 28 _ hq2,hs2,?_⟩,⟨by rw [<- HW2.out,<- HW1.out]; rfl,by rw [<- HW2.out,<- HW1.out]; rfl,by rw [<- HW2.out,<- HW1.out]; rfl,by rw [hsw,HNN.out]; omega,fun k hk _ => ?_⟩⟩
 ·rw [insR_flat hok]
  refine grow_list (c:=6) (n:=n) (i:=i) (ROW:=ROW.toList) (cur1:=cur1.toList) HRT.out (by have := flat_length hok; rw [HLN.out] at this; exact this) hin rfl (by rw [Array.length_toList,hRs]; omega) ?_ ?_
  ·rw [<- hcur1]
  ·rw [<- hcur2,HCS.out]
 ·rw [HNN.out] at hk
  have hkN : k ≠ N:=by omega
  rw [setRow_other W2.drew N k cur2 hkN]
  show W2.heap[k]? = _
  rw [<- HW2.out,setRow_other W1 N k cur1 hkN]
  exact HB.out k hk
theorem vv_row (x : Vv) (h1 : ∀ u ∈ x.cells.toList,u.oneCell' = true) : RowsOk 6 [x.cells.toList]:=RowsOk.one rfl h1
theorem row_cellV {w : World} {xb : Nat} {z : Vv} (h : Blk w xb z.cells 28) {i j : Nat} {r : List Value} {u : Value} (hi : [z.cells.toList][i]? = some r) (hj : r[j]? = some u) : w.cell? ⟨xb,0 + (i * 6 + j),none⟩ = some u:=by
 match i,hi with
 | 0,hi =>
  simp only [List.getElem?_cons_zero,Option.some.injEq] at hi
  subst hi
  have := h.at (i:=j) (x:=u) (by simpa using hj)
  rwa [show 0 + (0 * 6 + j) = j by omega]
 | i + 1,hi => simp at hi
theorem insR_end {rs : List (List Value)} (r : List Value) : insR rs rs.length r = rs ++ [r]:=by unfold insR; rw [List.take_length,List.drop_length]
theorem insertV_end (base xb : Nat) (v : Value) (rs : List (List Value)) (x : Vv) (w : World) (hown : OwnR 6 28 base w v rs) (hbig : rs.length <= 2 ^ 20) (hbase : base <= w.heap.size) (hx : Blk w xb x.cells 28) (h1 : ∀ u ∈ x.cells.toList,u.oneCell' = true) :
  Calls Tryz.prog 59 #[v,.int .i64 rs.length,.slice (some ⟨xb,0,none⟩) 1 1] w fun e w' => ∃ v',e = .returned v' /\ OwnR 6 28 base w' v' (rs ++ [x.cells.toList]) /\ w.grownBy w' v.ownBlock /\ ∃ g,v'.ownBlock = some g /\ (v.ownBlock = some g \/ g = w.heap.size):=by
 have HRC : Hid (∀ (i : Nat) (r : List Value) (j : Nat) (u : Value),[x.cells.toList][i]? = some r -> r[j]? = some u -> w.cell? ⟨xb,0 + (i * 6 + j),none⟩ = some u):=Lib.hid fun i r j u hi hj => row_cellV hx hi hj
 have hrow:=vv_row x h1
 obtain ⟨n,hn⟩ : ∃ n,rs.length = n:=⟨_,rfl⟩
 obtain ⟨R,hR⟩ : ∃ R,x.cells.toList = R:=⟨_,rfl⟩
 have hRl : ([R] : List (List Value)).length = 1:=rfl
 rw [hR] at HRC hrow ⊢
 have HN:=Lib.hid hn
 have HOWN:=Lib.hid hown
 have HROW:=Lib.hid hrow
 have hnn : ((n : Int) == (n : Int)) = true:=by simp
 clear hn
 rcases hown.1.2 with ⟨rfl,h0⟩ | ⟨g,cap,cur,rfl,hb,hg,hnc,hm,hs,ht⟩
 ·rw [HN.out] at h0 hbig ⊢
  subst h0
  clear hown hrow hx h1 hR
  go_enter Tryz.func59,Tryz.ntmps59
  go_wp2_with (at_builtin; refine wpList_append_rows rfl (.tmp 23) (.tmp 24) 32 rfl Tryz.underlying32 Tryz.infoValG (by kernel_rfl) (by decide) rfl HOWN.out (b:=xb) (off:=0) (m:=1) (cap:=1) (ms:=[R]) rfl rfl HROW.out HRC.out (by decide) (by rw [HN.out]; simp [maxLen]) (by rw [HN.out]; omega) hbase ?_; intro g1 cap1 w5 hown5 hg5 hat5)
  all_goals go_wp2_with fail
  all_goals go_ret
  all_goals
   exact ⟨_,rfl,hown5,hg5,g1,rfl,hat5⟩
 ·rw [HN.out] at hnc HOWN hbig ⊢
  unfold maxLen at hm
  clear hown hrow hx h1 hR ht hs hg
  go_enter Tryz.func59,Tryz.ntmps59
  go_wp2_with (at_builtin; refine wpList_append_rows rfl (.tmp 23) (.tmp 24) 32 rfl Tryz.underlying32 Tryz.infoValG (by kernel_rfl) (by decide) rfl HOWN.out (b:=xb) (off:=0) (m:=1) (cap:=1) (ms:=[R]) rfl rfl HROW.out HRC.out (by decide) (by rw [HN.out]; simp [maxLen]; omega) (by rw [HN.out]; omega) hbase ?_; intro g1 cap1 w5 hown5 hg5 hat5)
  all_goals go_wp2_with fail
  all_goals go_ret
  all_goals
   exact ⟨_,rfl,hown5,hg5,g1,rfl,hat5⟩
theorem insertV_any (base i xb : Nat) (v : Value) (rs : List (List Value)) (x : Vv) (w : World) (hown : OwnR 6 28 base w v rs) (hi : i <= rs.length) (hbig : rs.length <= 2 ^ 20) (hbase : base <= w.heap.size) (hx : Blk w xb x.cells 28)
  (h1 : ∀ u ∈ x.cells.toList,u.oneCell' = true) (hne : v.ownBlock ≠ some xb) :
  Calls Tryz.prog 59 #[v,.int .i64 i,.slice (some ⟨xb,0,none⟩) 1 1] w fun e w' => ∃ v',e = .returned v' /\ OwnR 6 28 base w' v' (insR rs i x.cells.toList) /\ w.grownBy w' v.ownBlock /\ ∃ g,v'.ownBlock = some g /\ (v.ownBlock = some g \/ g = w.heap.size):=by
 by_cases he : i = rs.length
 ·subst he
  rw [insR_end]
  exact insertV_end base xb v rs x w hown hbig hbase hx h1
 ·have hlt : i < rs.length:=by omega
  rcases hown.1.2 with ⟨rfl,h0⟩ | ⟨g,cap,cur,rfl,hb,hg,hnc,hm,hs,ht⟩
  ·omega
  ·have hne' : xb ≠ g:=fun e => hne (by simp [Value.ownBlock,e])
   have hlr:=insR_length (r:=x.cells.toList) hi
   by_cases hroom : rs.length + 1 <= cap
   ·refine (insertV_room base g rs.length cap i xb cur rs x w hg hs ht hown.2 rfl hlt hroom hm hx h1 hne').mono ?_
    rintro e w' ⟨rfl,⟨cur',hq,hsz,htk⟩,hgr⟩
    refine ⟨_,rfl,⟨⟨by rw [flat_length (insR_ok hown.2 (vv_row x h1))],.inr ⟨g,cap,cur',by rw [hlr],hb,hq,by omega,hm,hsz,by rw [hlr]; exact htk⟩⟩,insR_ok hown.2 (vv_row x h1)⟩,hgr,g,rfl,.inl rfl⟩
   ·obtain rfl : cap = rs.length:=by omega
    refine (insertV_grow base g rs.length i xb cur rs x w hg hs ht hown.2 rfl hlt hbig hx h1).mono ?_
    rintro e w' ⟨G,rfl,hG1,hG2,⟨cur',hq,hsz,htk⟩,hgr⟩
    refine ⟨_,rfl,⟨⟨by rw [flat_length (insR_ok hown.2 (vv_row x h1))],.inr ⟨w.heap.size,G,cur',by rw [hlr],hbase,hq,by omega,hG2,hsz,by rw [hlr]; exact htk⟩⟩,insR_ok hown.2 (vv_row x h1)⟩,⟨hgr.os,hgr.tape,hgr.output,hgr.size,fun k hk _ => hgr.block k hk (by simp)⟩,w.heap.size,rfl,.inr rfl⟩
end Go.Proofs.YtlldjmagbjjeoaaGreat
