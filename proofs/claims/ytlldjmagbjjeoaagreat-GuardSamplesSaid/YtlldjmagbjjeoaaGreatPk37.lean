/- Contracts and plain laws, several texts in one (GlAwP). No conditions beyond those stated. -/
import Derived.Test.YtlldjmagbjjeoaaGreatPk36
set_option maxRecDepth 100000
set_option maxHeartbeats 40000000
namespace Go.Proofs.YtlldjmagbjjeoaaGreat
open Go.RowKit
set_option linter.unusedVariables false
theorem rows_ex {K b n : Nat} {w : World} {cs : Array Value} (hq : Blk w b cs 31) (hb : b < K) (g : Nat -> Xv) (h : ∀ i,i < n -> ∀ j,j < 9 -> cs[i * 9 + j]? = some ((g i).cell j)) (hm : n <= maxLen) : RowsV 9 (fun i j => (g i).cell j) K w (.slice (some ⟨b,0,none⟩) n n) n :=
 RowsV.mk_cells (Nat.le_refl _) hm hb fun i hi j hj => by rw [Nat.zero_add]; exact hq.at (h i hi j hj)
def g2x (x y : Xv) (i : Nat) : Xv:=if i = 0 then x else y
abbrev cells2 (x y : Xv) : Array Value:=#[.int .u8 x.op,S x.nm,.int .u8 x.kd,.bool x.b3,.slice x.s4.a x.s4.n x.s4.m,.bool x.b5,.slice x.s6.a x.s6.n x.s6.m,.int .i64 x.i7,.slice x.s8.a x.s8.n x.s8.m,.int .u8 y.op,S y.nm,.int .u8 y.kd,.bool y.b3,.slice y.s4.a y.s4.n y.s4.m,.bool y.b5,.slice y.s6.a y.s6.n y.s6.m,.int .i64 y.i7,.slice y.s8.a y.s8.n y.s8.m]
theorem rows_ex2 {K b : Nat} {w : World} {x y : Xv} (hq : Blk w b (cells2 x y) 31) (hb : b < K) : RowsV 9 (fun i j => (g2x x y i).cell j) K w (.slice (some ⟨b,0,none⟩) 2 2) 2:=by
 refine rows_ex hq hb _ (fun i hi j hj => ?_) (by simp [maxLen])
 rcases i with _ | _ | i
 ·rcases j with _ | _ | _ | _ | _ | _ | _ | _ | _ | j <;> first | rfl | omega
 ·rcases j with _ | _ | _ | _ | _ | _ | _ | _ | _ | j <;> first | rfl | omega
 ·omega
theorem rows_ex1 {K b : Nat} {w : World} {x : Xv} (hq : Blk w b x.cells 31) (hb : b < K) : RowsV 9 (fun i j => ((fun _ => x) i : Xv).cell j) K w (.slice (some ⟨b,0,none⟩) 1 1) 1:=by
 refine rows_ex hq hb (fun _ => x) (fun i hi j hj => ?_) (by simp [maxLen])
 obtain rfl : i = 0:=by omega
 rcases j with _ | _ | _ | _ | _ | _ | _ | _ | _ | j <;> first | rfl | omega
theorem exg_two {K b : Nat} {w : World} {o : Int} {e1 e2 : Gx} {x y z : Xv} (hq : Blk w b (cells2 x y) 31) (hb : b < K) (h1 : ExG K w e1 x) (h2 : ExG K w e2 y) (hz : z = opX o ⟨some ⟨b,0,none⟩,2,2⟩) : ExG K w (.mk o [] v0 [e1,e2]) z:=by
 subst hz
 refine ExG.make rfl rfl (by simp [Gx.nm,maxLen]) (vv0_is K w) (g2x x y) (rows_ex2 hq hb) fun j a ha => ?_
 rcases j with _ | _ | j
 ·cases ha; exact h1
 ·cases ha; exact h2
 ·cases ha
theorem exg_one {K b : Nat} {w : World} {o : Int} {nm : Str} {e1 : Gx} {x : Xv} (hq : Blk w b x.cells 31) (hb : b < K) (h1 : ExG K w e1 x) (hn : nm.length <= maxLen) : ExG K w (.mk o nm v0 [e1]) ⟨o,nm,0,false,⟨none,0,0⟩,false,⟨none,0,0⟩,0,⟨some ⟨b,0,none⟩,1,1⟩⟩:=by
 refine ExG.make rfl rfl hn (vv0_is K w) (fun _ => x) (rows_ex1 hq hb) fun j a ha => ?_
 rcases j with _ | j
 ·cases ha; exact h1
 ·cases ha
theorem exg_tod (K : Nat) (w : World) : ExG K w (.mk 2 [] v0 []) todX:=ExG.make rfl rfl (by simp [Gx.nm,maxLen]) (vv0_is K w) (fun _ => todX) (RowsV.nil none 0 (Nat.zero_le _) (fun _ => rfl)) fun j a ha => by cases ha
theorem exg_no (K : Nat) (w : World) : ExG K w noG xz:=ExG.make rfl rfl (by simp [Gx.nm,noG,maxLen]) (vv0_is K w) (fun _ => xz) (RowsV.nil none 0 (Nat.zero_le _) (fun _ => rfl)) fun j a ha => by cases ha
theorem exg_age {K b : Nat} {w : World} (hq : Blk w b todX.cells 31) (hb : b < K) : ExG K w ageG ⟨5,[97,103,101],0,false,⟨none,0,0⟩,false,⟨none,0,0⟩,0,⟨some ⟨b,0,none⟩,1,1⟩⟩:=exg_one hq hb (exg_tod K w) (by simp [maxLen])
theorem exg_con {K n : Nat} {w : World} {kd : Int} {f1 f2 : Bool} {s1 s2 : Sl} {i : Int} (h : VlX K w (numV [n] [1]) ⟨kd,f1,s1.val,f2,s2.val,i⟩) : ExG K w (conG n) (conX kd f1 s1 f2 s2 i):=ExG.make rfl rfl (by simp [Gx.nm,conG,maxLen]) h (fun _ => xz) (RowsV.nil none 0 (Nat.zero_le _) (fun _ => rfl)) fun j a ha => by cases ha
theorem nats_lit {K b : Nat} {w : World} {l : List Nat} {cs : Array Value} (hq : Blk w b cs 3) (hb : b < K) (h : cs = (l.map fun n : Nat => (.int .i64 (n : Int) : Value)).toArray) (hm : l.length <= maxLen) : Nats K w (.slice (some ⟨b,0,none⟩) l.length l.length) l:=by
 refine RowsV.mk_cells (Nat.le_refl _) hm hb fun i hi j hj => ?_
 obtain rfl : j = 0:=by omega
 refine hq.at ?_
 rw [h]
 simp [List.getElem?_map,List.getElem?_eq_getElem hi,Z]
theorem vlx_shape {K : Nat} {w : World} {m n : List Nat} {x : Vv} (h : VlX K w (numV m n) x) : ∃ s1 s2 : Sl,x = ⟨2,false,s1.val,false,s2.val,0⟩:=by
 obtain ⟨a1,c1,h1,_⟩:=h.n.form
 obtain ⟨a2,c2,h2,_⟩:=h.d.form
 refine ⟨⟨a1,m.length,c1⟩,⟨a2,n.length,c2⟩,?_⟩
 obtain ⟨k,f1,s1,f2,s2,i⟩:=x
 have e1:=h.kd; have e2:=h.b1; have e3:=h.b2; have e4:=h.i
 dsimp only at e1 e2 e3 e4 h1 h2
 rw [e1,e2,e3,e4,h1,h2]; rfl
theorem wp_store_blk {op : Oper} {a : Act} {w : World} {K : Act -> World -> Prop} {Q : Exit -> Act -> World -> Prop} (ty t : TypeId) (x y : Operand) (ho : op.op = .store ty x y) (cs old : Array Value) (b : Nat)
  (hq : Blk w b old t) (hi : (Tryz.prog.info? ty).map (fun i => i.size) = some cs.size) (hsz : old.size = cs.size) (h1 : ∀ v ∈ cs,v.oneCell' = true)
  (hx : a.eval x = .pointer (some ⟨b,0,none⟩)) (hy : a.eval y = .agg cs)
  (h : ∀ W',Blk W' b cs t -> (∀ B,B <= b -> Below B w W') -> w.grownBy W' (some b) -> W'.heap.size = w.heap.size -> K (a.put op.dst undef) W') : op.wp Tryz.prog a w K Q:=by
 have hs : (w.setRow b cs).heap.size = w.heap.size:=by simp [World.setRow]
 refine wp_store_row ty x y ho b cs hx hy t old hq hi hsz (by rw [Array.all_eq_true_iff_forall_mem]; exact h1) ?_
 exact h _ (setRow_heap w b old cs t _ hq) (fun B hB => ⟨rfl,rfl,rfl,Nat.le_of_eq hs.symm,fun k hk => setRow_other w b k cs (by omega)⟩) ⟨rfl,rfl,rfl,Nat.le_of_eq hs.symm,fun k _ hk => setRow_other w b k cs (fun e => hk (by rw [e]))⟩ hs
theorem lm_new {K L : Nat} {p : Option Nat} {w w' : World} {v : Value} {l : List Nat} (h : Lm K w v l) (hv : NewV L v) (hp : ∀ r,p = some r -> r < L) (hg : w.grownBy w' p) (hK : K <= w.heap.size) : Lm w'.heap.size w' v l:=by
 obtain ⟨a,cap,rfl,hn,hm,hz,hc⟩:=h.1
 have hs:=hg.size
 refine ⟨⟨a,cap,rfl,hn,hm,hz,fun i hi => ?_⟩,h.2⟩
 obtain ⟨b,o,he,hbK,hcell⟩:=hc i hi
 subst he
 have hL:=hv b o _ _ rfl
 exact ⟨b,o,rfl,by omega,fun j hj => hg.cell (hcell j hj) (fun e => by have := hp _ e.symm; simp at this; omega)⟩
def Sol (p : Option Nat) (V : World) (e : Gx) (x : Xv) : Prop:=∀ W,V.grownBy W p -> ExG W.heap.size W e x
def SolV (p : Option Nat) (V : World) (v : Vq) (x : Vv) : Prop:=∀ W,V.grownBy W p -> VlX W.heap.size W v x
theorem below_of_none {w w' : World} (h : w.grownBy w' none) : Below w.heap.size w w':=⟨h.os,h.tape,h.output,h.size,fun k hk => h.block k hk (by simp)⟩
theorem Sol.of {V : World} {e : Gx} {x : Xv} (h : ExG V.heap.size V e x) : Sol none V e x:=fun W hg => h.below (below_of_none hg) (Nat.le_refl _) hg.size
theorem Sol.move {p : Option Nat} {V V' : World} {e : Gx} {x : Xv} (h : Sol p V e x) (hb : Below V.heap.size V V') : Sol p V' e x:=fun W hg => h W (grownBy_then (grownBy_to (grown_below hb)) hg)
theorem grown_skip {V V' W : World} (hb : Below V.heap.size V V') (hs : V.heap.size < V'.heap.size) (hg : V'.grownBy W (some V.heap.size)) : V.grownBy W none :=
 ⟨hg.os.trans hb.os,hg.tape.trans hb.tape,hg.output.trans hb.output,Nat.le_trans hb.size hg.size,fun k hk _ => (hg.block k (by omega) (fun e => by simp at e; omega)).trans (hb.block k hk)⟩
theorem Sol.skip {V V' : World} {e : Gx} {x : Xv} (h : Sol none V e x) (hb : Below V.heap.size V V') (hs : V.heap.size < V'.heap.size) : Sol (some V.heap.size) V' e x:=fun W hg => h W (grown_skip hb hs hg)
theorem SolV.move {p : Option Nat} {V V' : World} {e : Vq} {x : Vv} (h : SolV p V e x) (hb : Below V.heap.size V V') : SolV p V' e x:=fun W hg => h W (grownBy_then (grownBy_to (grown_below hb)) hg)
theorem SolV.skip {V V' : World} {e : Vq} {x : Vv} (h : SolV none V e x) (hb : Below V.heap.size V V') (hs : V.heap.size < V'.heap.size) : SolV (some V.heap.size) V' e x:=fun W hg => h W (grown_skip hb hs hg)
theorem SolV.new {L : Nat} {p : Option Nat} {V : World} {v : Vq} {x : Vv} (h : VlX V.heap.size V v x) (h1 : NewV L x.s1) (h2 : NewV L x.s2) (hp : ∀ r,p = some r -> r < L) : SolV p V v x:=fun W hg => ⟨h.kd,h.b1,h.b2,h.i,lm_new h.n h1 hp hg (Nat.le_refl _),lm_new h.d h2 hp hg (Nat.le_refl _)⟩
theorem Sol.con {p : Option Nat} {V : World} {n : Nat} {s1 s2 : Sl} (h : SolV p V (numV [n] [1]) ⟨2,false,s1.val,false,s2.val,0⟩) : Sol p V (conG n) (conX 2 false s1 false s2 0):=fun W hg => exg_con (h W hg)
theorem Sol.two {p : Option Nat} {V : World} {o : Int} {a : Nat} {e1 e2 : Gx} {x y : Xv} (hq : Blk V a (cells2 x y) 31) (ha : some a ≠ p) (h1 : Sol p V e1 x) (h2 : Sol p V e2 y) : Sol p V (.mk o [] v0 [e1,e2]) (opX o ⟨some ⟨a,0,none⟩,2,2⟩):=fun W hg => exg_two (hq.kept hg ha) (hq.kept hg ha).lt (h1 W hg) (h2 W hg) rfl
theorem Sol.one {p : Option Nat} {V : World} {o : Int} {a : Nat} {e1 : Gx} {x : Xv} (hq : Blk V a x.cells 31) (ha : some a ≠ p) (h1 : Sol p V e1 x) : Sol p V (.mk o [] v0 [e1]) (opX o ⟨some ⟨a,0,none⟩,1,1⟩):=fun W hg => exg_one (hq.kept hg ha) (hq.kept hg ha).lt (h1 W hg) (by simp [maxLen])
abbrev cellsV2 (x y : Vv) : Array Value:=#[.int .u8 x.kd,.bool x.b1,x.s1,.bool x.b2,x.s2,.int .i64 x.i,.int .u8 y.kd,.bool y.b1,y.s1,.bool y.b2,y.s2,.int .i64 y.i]
def g2v (x y : Vv) (i : Nat) : Vv:=if i = 0 then x else y
theorem cuts_two {K b : Nat} {w : World} {v1 v2 : Vq} {x y : Vv} (hq : Blk w b (cellsV2 x y) 28) (hb : b < K) (h1 : VlX K w v1 x) (h2 : VlX K w v2 y) : CutsX K w (.slice (some ⟨b,0,none⟩) 2 2) [v1,v2]:=by
 refine ⟨g2v x y,RowsV.mk_cells (Nat.le_refl _) (by simp [maxLen]) hb fun i hi j hj => ?_,fun i hi => ?_⟩
 ·rw [Nat.zero_add]
  refine hq.at ?_
  have hi : i < 2:=hi
  rcases i with _ | _ | i
  ·rcases j with _ | _ | _ | _ | _ | _ | j <;> first | rfl | omega
  ·rcases j with _ | _ | _ | _ | _ | _ | j <;> first | rfl | omega
  ·omega
 ·rcases i with _ | _ | i
  ·exact h1
  ·exact h2
  ·simp at hi; omega
theorem vlx_shapeW {K : Nat} {w : World} {kd i : Int} {x : Vv} (h : VlX K w (wholeV kd i) x) : ∃ s1 s2 : Sl,x = ⟨kd,false,s1.val,false,s2.val,i⟩:=by
 obtain ⟨a1,c1,h1,_⟩:=h.n.form
 obtain ⟨a2,c2,h2,_⟩:=h.d.form
 refine ⟨⟨a1,0,c1⟩,⟨a2,0,c2⟩,?_⟩
 obtain ⟨k,f1,s1,f2,s2,j⟩:=x
 have e1:=h.kd; have e2:=h.b1; have e3:=h.b2; have e4:=h.i
 dsimp only at e1 e2 e3 e4 h1 h2
 rw [e1,e2,e3,e4,h1,h2]; rfl
end Go.Proofs.YtlldjmagbjjeoaaGreat
