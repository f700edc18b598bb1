/- Contracts and plain laws, several texts in one (OSpec, OMem, OlOpn, GSpec, OClM, GInts, GNum). No conditions beyond those stated. -/
import Derived.Test.YtlldjmagbjjeoaaGreatProg
import Derived.WalkKit
import Derived.WalkSpells
import Derived.WalkLawsBesides
import Derived.Deep.QuietTactic
import Derived.BigQuiet
import Derived.Handy
import Derived.Lib.Hide
import Derived.KernelRfl
import Derived.Below
import Derived.Maps.AppendAt
import Derived.Deep.AppendLies
import Derived.RangeFuncNested
import Derived.Deep.MidRow
import Derived.OpenShut
import Derived.Deep.Slices
import Derived.Deep.Fields
import Derived.Deep.Strs
import Derived.ChangeSame
import Derived.Lib.SmallJoins
import Derived.Deep.WholeRow
import Derived.Deep.Cut
import Derived.OwnWalk
import Derived.Maps.OwnIn
import Derived.Maps.RangeWalk
import Derived.Maps.Ext
import Derived.LoopN
import Derived.Laws.BitsAllLaws
set_option maxRecDepth 100000
set_option maxHeartbeats 40000000
namespace Go.Proofs.YtlldjmagbjjeoaaGreat
set_option linter.unusedVariables false
abbrev Str:=List UInt8
inductive Ex where
 | mk (op : Int) (nm : Str) (args : List Ex)
def Ex.op : Ex -> Int | .mk o _ _ => o
def Ex.nm : Ex -> Str | .mk _ n _ => n
def Ex.args : Ex -> List Ex | .mk _ _ es => es
mutual
def Ex.pre : Ex -> List (Int × Str)
 | .mk o n es => (o,n) :: preL es
def preL : List Ex -> List (Int × Str)
 | [] => []
 | e :: r => e.pre ++ preL r
end
structure Cl where
 nm : Str
 wh : Ex
 th : Ex
def rdy (D : Nat -> List Nat) (out : List Nat) (i : Nat) : Bool:=!out.contains i && (D i).all fun d => out.contains d
def nextT (n : Nat) (D : Nat -> List Nat) (out : List Nat) : Option Nat:=(List.range n).find? (rdy D out)
def takeT (n : Nat) (D : Nat -> List Nat) : Nat -> List Nat -> List Nat
 | 0,out => out
 | k + 1,out => match nextT n D out with
  | none => out
  | some i => takeT n D k (out ++ [i])
def taken (n : Nat) (D : Nat -> List Nat) : List Nat:=takeT n D n []
section
variable {α : Type} [BEq α] [LawfulBEq α]
end
open Go.RowKit
abbrev S (s : Str) : Value:=.string ⟨s.toArray⟩
abbrev Z (n : Nat) : Value:=.int .i64 (n : Int)
def RowsV (c : Nat) (f : Nat -> Nat -> Value) (K : Nat) (w : World) (v : Value) (n : Nat) : Prop :=
 ∃ a cap,v = .slice a n cap /\ n <= cap /\ cap <= maxLen /\ (a = none -> cap = 0) ∧
  ∀ i,i < n -> ∃ b o,a = some ⟨b,o,none⟩ /\ b < K /\ ∀ j,j < c -> w.cell? ⟨b,o + (i * c + j),none⟩ = some (f i j)
section
variable {c : Nat} {f g : Nat -> Nat -> Value} {K K' B : Nat} {w w' : World} {v : Value} {n : Nat}
theorem RowsV.cases (h : RowsV c f K w v n) :
  (∃ a cap,v = .slice a 0 cap /\ n = 0 /\ cap <= maxLen /\ (a = none -> cap = 0)) ∨
  (∃ b o cap,v = .slice (some ⟨b,o,none⟩) n cap /\ 0 < n /\ n <= cap /\ cap <= maxLen /\ b < K ∧
   ∀ i,i < n -> ∀ j,j < c -> w.cell? ⟨b,o + (i * c + j),none⟩ = some (f i j)):=by
 obtain ⟨a,cap,rfl,hl,hm,hz,hc⟩:=h
 by_cases h0 : n = 0
 ·subst h0
  exact .inl ⟨a,cap,rfl,rfl,hm,hz⟩
 ·obtain ⟨b,o,rfl,hb,_⟩:=hc 0 (by omega)
  refine .inr ⟨b,o,cap,rfl,by omega,hl,hm,hb,fun i hi => ?_⟩
  obtain ⟨b',o',he,_,hcell⟩:=hc i hi
  simp only [Option.some.injEq,Addr.mk.injEq,and_true] at he
  obtain ⟨rfl,rfl⟩:=he
  exact hcell
theorem RowsV.pos (h : RowsV c f K w v n) (hn : 0 < n) : ∃ b o cap,v = .slice (some ⟨b,o,none⟩) n cap /\ n <= cap /\ cap <= maxLen /\ b < K ∧
   ∀ i,i < n -> ∀ j,j < c -> w.cell? ⟨b,o + (i * c + j),none⟩ = some (f i j):=by
 rcases h.cases with ⟨_,_,_,h0,_⟩ | ⟨b,o,cap,h1,_,h2⟩
 ·omega
 ·exact ⟨b,o,cap,h1,h2⟩
theorem RowsV.mk_cells {b o cap : Nat} (hl : n <= cap) (hm : cap <= maxLen) (hb : b < K)
  (hc : ∀ i,i < n -> ∀ j,j < c -> w.cell? ⟨b,o + (i * c + j),none⟩ = some (f i j)) : RowsV c f K w (.slice (some ⟨b,o,none⟩) n cap) n :=
 ⟨_,cap,rfl,hl,hm,(fun h => nomatch h),fun i hi => ⟨b,o,rfl,hb,hc i hi⟩⟩
theorem RowsV.nil (a : Option Addr) (cap : Nat) (hm : cap <= maxLen) (hz : a = none -> cap = 0) : RowsV c f K w (.slice a 0 cap) 0 :=
 ⟨a,cap,rfl,Nat.zero_le _,hm,hz,fun i hi => absurd hi (by simp)⟩
theorem RowsV.below (h : RowsV c f K w v n) (hb : Below B w w') (hB : K <= B) (hK : K <= K') : RowsV c f K' w' v n:=by
 obtain ⟨a,cap,rfl,hl,hm,hz,hc⟩:=h
 refine ⟨a,cap,rfl,hl,hm,hz,fun i hi => ?_⟩
 obtain ⟨b,o,rfl,hbK,hcell⟩:=hc i hi
 exact ⟨b,o,rfl,by omega,fun j hj => (hb.cell (p:=⟨b,o + (i * c + j),none⟩) (by simp; omega)).trans (hcell j hj)⟩
theorem RowsV.drewN (h : RowsV c f K w v n) (k : Nat) : RowsV c f K (w.drewN k) v n:=h
theorem RowsV.drew (h : RowsV c f K w v n) : RowsV c f K w.drew v n:=h
theorem RowsV.congr (h : RowsV c f K w v n) (hg : ∀ i,i < n -> ∀ j,j < c -> f i j = g i j) : RowsV c g K w v n:=by
 obtain ⟨a,cap,rfl,hl,hm,hz,hc⟩:=h
 refine ⟨a,cap,rfl,hl,hm,hz,fun i hi => ?_⟩
 obtain ⟨b,o,rfl,hbK,hcell⟩:=hc i hi
 exact ⟨b,o,rfl,hbK,fun j hj => by rw [hcell j hj,hg i hi j hj]⟩
theorem RowsV.form (h : RowsV c f K w v n) : ∃ a cap,v = .slice a n cap /\ n <= cap /\ cap <= maxLen:=by
 obtain ⟨a,cap,rfl,hl,hm,_⟩:=h; exact ⟨a,cap,rfl,hl,hm⟩
end
def Nats (K : Nat) (w : World) (v : Value) (l : List Nat) : Prop:=RowsV 1 (fun i _ => Z (l[i]?.getD 0)) K w v l.length
theorem Nats.below {K K' B : Nat} {w w' : World} {v : Value} {l : List Nat} (h : Nats K w v l) (hb : Below B w w') (hB : K <= B) (hK : K <= K') : Nats K' w' v l:=RowsV.below h hb hB hK
theorem Nats.pos {K : Nat} {w : World} {v : Value} {l : List Nat} (h : Nats K w v l) (hn : 0 < l.length) : ∃ b o cap,v = .slice (some ⟨b,o,none⟩) l.length cap /\ l.length <= cap /\ cap <= maxLen /\ b < K ∧
  ∀ i,i < l.length -> w.cell? ⟨b,o + i,none⟩ = some (Z (l[i]?.getD 0)):=by
 obtain ⟨b,o,cap,h1,h2,h3,h4,h5⟩:=RowsV.pos h hn
 exact ⟨b,o,cap,h1,h2,h3,h4,fun i hi => by simpa using h5 i hi 0 (by omega)⟩
theorem Nats.form {K : Nat} {w : World} {v : Value} {l : List Nat} (h : Nats K w v l) : ∃ a cap,v = .slice a l.length cap /\ l.length <= cap /\ cap <= maxLen:=RowsV.form h
structure Sl where
 a : Option Addr
 n : Nat
 m : Nat
abbrev Sl.val (s : Sl) : Value:=.slice s.a s.n s.m
structure Xv where
 op : Int
 nm : Str
 kd : Int
 b3 : Bool
 s4 : Sl
 b5 : Bool
 s6 : Sl
 i7 : Int
 s8 : Sl
def Xv.cell (x : Xv) : Nat -> Value
 | 0 => .int .u8 x.op
 | 1 => S x.nm
 | 2 => .int .u8 x.kd
 | 3 => .bool x.b3
 | 4 => x.s4.val
 | 5 => .bool x.b5
 | 6 => x.s6.val
 | 7 => .int .i64 x.i7
 | _ => x.s8.val
abbrev Xv.cells (x : Xv) : Array Value:=#[.int .u8 x.op,S x.nm,.int .u8 x.kd,.bool x.b3,.slice x.s4.a x.s4.n x.s4.m,.bool x.b5,.slice x.s6.a x.s6.n x.s6.m,.int .i64 x.i7,.slice x.s8.a x.s8.n x.s8.m]
abbrev Xv.agg (x : Xv) : Value:=.agg x.cells
structure Cv where
 nm : Str
 lb : Str
 fr : Int
 to : Int
 kn : Int
 off : Bool
 wh : Xv
 th : Xv
def Cv.cell (x : Cv) : Nat -> Value
 | 0 => S x.nm
 | 1 => S x.lb
 | 2 => .int .i64 x.fr
 | 3 => .int .i64 x.to
 | 4 => .int .i64 x.kn
 | 5 => .bool x.off
 | 6 => x.wh.cell 0
 | 7 => x.wh.cell 1
 | 8 => x.wh.cell 2
 | 9 => x.wh.cell 3
 | 10 => x.wh.cell 4
 | 11 => x.wh.cell 5
 | 12 => x.wh.cell 6
 | 13 => x.wh.cell 7
 | 14 => x.wh.cell 8
 | 15 => x.th.cell 0
 | 16 => x.th.cell 1
 | 17 => x.th.cell 2
 | 18 => x.th.cell 3
 | 19 => x.th.cell 4
 | 20 => x.th.cell 5
 | 21 => x.th.cell 6
 | 22 => x.th.cell 7
 | _ => x.th.cell 8
def Cv.cl (x : Cv) : List Value:=(List.range 24).map x.cell
theorem Xv.cells_at (x : Xv) {j : Nat} (hj : j < 9) : x.cells.toList[j]? = some (x.cell j):=by
 match j,hj with
 | 0,_ => rfl
 | 1,_ => rfl
 | 2,_ => rfl
 | 3,_ => rfl
 | 4,_ => rfl
 | 5,_ => rfl
 | 6,_ => rfl
 | 7,_ => rfl
 | 8,_ => rfl
mutual
def ExX (K : Nat) (w : World) : Ex -> Xv -> Prop
 | .mk op nm es,x => x.op = op /\ x.nm = nm /\ nm.length <= maxLen /\ ∃ g : Nat -> Xv,RowsV 9 (fun i j => (g i).cell j) K w x.s8.val es.length /\ ExsX K w es g 0
def ExsX (K : Nat) (w : World) : List Ex -> (Nat -> Xv) -> Nat -> Prop
 | [],_,_ => True
 | e :: r,g,i => ExX K w e (g i) /\ ExsX K w r g (i + 1)
end
theorem exsX_iff {K : Nat} {w : World} {es : List Ex} {g : Nat -> Xv} : ∀ {i : Nat},ExsX K w es g i ↔ ∀ (j : Nat) (e : Ex),es[j]? = some e -> ExX K w e (g (i + j)):=by
 induction es with
 | nil => intro i; simp [ExsX]
 | cons e r ih =>
  intro i
  rw [ExsX,ih]
  constructor
  ·rintro ⟨h1,h2⟩ j e' hj
   cases j with
   | zero => simp at hj; subst hj; simpa using h1
   | succ j => have := h2 j e' (by simpa using hj); rwa [show i + 1 + j = i + (j + 1) by omega] at this
  ·intro h
   refine ⟨by simpa using h 0 e rfl,fun j e' hj => ?_⟩
   have := h (j + 1) e' (by simpa using hj)
   rwa [show i + (j + 1) = i + 1 + j by omega] at this
def Ex.parts (e : Ex) : Nat:=e.pre.length
theorem parts_arg : ∀ {es : List Ex} {e : Ex},e ∈ es -> e.parts <= (preL es).length:=by
 intro es
 induction es with
 | nil => simp
 | cons x r ih =>
  intro e h
  rw [preL,List.length_append]
  rcases List.mem_cons.1 h with rfl | h
  ·unfold Ex.parts; omega
  ·have := ih h; omega
theorem parts_mk (o : Int) (n : Str) (es : List Ex) : (Ex.mk o n es).parts = (preL es).length + 1:=by simp [Ex.parts,Ex.pre]
theorem exX_below {K K' B : Nat} {w w' : World} (hb : Below B w w') (hB : K <= B) (hK : K <= K') : ∀ (m : Nat) (e : Ex) (x : Xv),e.parts <= m -> ExX K w e x -> ExX K' w' e x:=by
 intro m
 induction m with
 | zero => intro e c hm; cases e; rw [parts_mk] at hm; omega
 | succ m ih =>
  intro e c hm h
  cases e with
  | mk op nm es =>
   rw [ExX] at h ⊢
   obtain ⟨h1,h2,h3,g,h5,h6⟩:=h
   refine ⟨h1,h2,h3,g,h5.below hb hB hK,exsX_iff.2 fun j e hj => ?_⟩
   have hp:=parts_arg (List.mem_of_getElem? hj)
   rw [parts_mk] at hm
   exact ih e _ (by omega) (exsX_iff.1 h6 j e hj)
theorem ExX.below {K K' B : Nat} {w w' : World} {e : Ex} {x : Xv} (h : ExX K w e x) (hb : Below B w w') (hB : K <= B) (hK : K <= K') : ExX K' w' e x:=exX_below hb hB hK _ e x (Nat.le_refl _) h
theorem ExX.nm {K : Nat} {w : World} {e : Ex} {x : Xv} (h : ExX K w e x) : x.nm.length <= maxLen:=by
 cases e; rw [ExX] at h; obtain ⟨_,h2,h3,_⟩:=h; rw [h2]; exact h3
instance : Inhabited Ex:=⟨.mk 0 [] []⟩
instance : Inhabited Cl:=⟨⟨[],default,default⟩⟩
theorem ex_cells {g : Nat -> Xv} {w : World} {b o k n : Nat} (hc : ∀ i,i < n -> ∀ j,j < 9 -> w.cell? ⟨b,o + (i * 9 + j),none⟩ = some ((g i).cell j)) (hk : k < n) :
  w.cell? ⟨b,o + k * 9,none⟩ = some (.int .u8 (g k).op) /\ w.cell? ⟨b,o + k * 9 + 1,none⟩ = some (S (g k).nm) /\ w.cell? ⟨b,o + k * 9 + 2,none⟩ = some (.int .u8 (g k).kd) ∧
  w.cell? ⟨b,o + k * 9 + 3,none⟩ = some (.bool (g k).b3) /\ w.cell? ⟨b,o + k * 9 + 4,none⟩ = some (g k).s4.val /\ w.cell? ⟨b,o + k * 9 + 5,none⟩ = some (.bool (g k).b5) ∧
  w.cell? ⟨b,o + k * 9 + 6,none⟩ = some (g k).s6.val /\ w.cell? ⟨b,o + k * 9 + 7,none⟩ = some (.int .i64 (g k).i7) /\ w.cell? ⟨b,o + k * 9 + 8,none⟩ = some (g k).s8.val:=by
 have h:=hc k hk
 exact ⟨h 0 (by omega),h 1 (by omega),h 2 (by omega),h 3 (by omega),h 4 (by omega),h 5 (by omega),h 6 (by omega),h 7 (by omega),h 8 (by omega)⟩
theorem cells_below {f : Nat -> Nat -> Value} {B b o n c : Nat} {w w' : World} (hb : Below B w w') (hB : b < B) (hc : ∀ i,i < n -> ∀ j,j < c -> w.cell? ⟨b,o + (i * c + j),none⟩ = some (f i j)) :
  ∀ i,i < n -> ∀ j,j < c -> w'.cell? ⟨b,o + (i * c + j),none⟩ = some (f i j):=fun i hi j hj => (hb.cell (p:=⟨b,o + (i * c + j),none⟩) hB).trans (hc i hi j hj)
def OwnN (base : Nat) (w : World) (v : Value) (l : List Nat) : Prop:=w.ownsRow base 3 1 v l.length (l.map Z)
theorem ownsRow_cells {w : World} {base e size n : Nat} {v : Value} {xs : List Value} (h : w.ownsRow base e size v n xs) {r : Nat} (hr : v.ownBlock = some r) : base <= r /\ ∃ o,w.heap[r]? = some o /\ o.isCells = true:=by
 rcases h.2 with ⟨rfl,_⟩ | ⟨g,cap,cur,rfl,hb,hg,_⟩
 ·simp [Value.ownBlock] at hr
 ·simp [Value.ownBlock] at hr; subst hr; exact ⟨hb,_,hg,rfl⟩
theorem ownsRow_old {w w' : World} {base e size n B : Nat} {v : Value} {xs : List Value} (h : w.ownsRow base e size v n xs) (hb : Below B w w') (hB : w.heap.size <= B) : w'.ownsRow base e size v n xs:=by
 refine ⟨h.1,?_⟩
 rcases h.2 with hn | ⟨g,cap,cur,rfl,hbg,hg,rest⟩
 ·exact .inl hn
 ·have := (Array.getElem?_eq_some_iff.1 hg).1
  exact .inr ⟨g,cap,cur,rfl,hbg,(hb.block g (by omega)).trans hg,rest⟩
theorem ownsRow_mono {w : World} {base base' e size n : Nat} {v : Value} {xs : List Value} (h : w.ownsRow base e size v n xs) (hb : base' <= base) : w.ownsRow base' e size v n xs:=by
 refine ⟨h.1,?_⟩
 rcases h.2 with hn | ⟨g,cap,cur,rfl,hbg,rest⟩
 ·exact .inl hn
 ·exact .inr ⟨g,cap,cur,rfl,by omega,rest⟩
theorem ownsRow_lt {w : World} {base e size n : Nat} {v : Value} {xs : List Value} (h : w.ownsRow base e size v n xs) {r : Nat} (hr : v.ownBlock = some r) : r < w.heap.size:=by
 obtain ⟨o,ho,_⟩:=(ownsRow_cells h hr).2
 exact (Array.getElem?_eq_some_iff.1 ho).1
theorem ownsRow_rows {w : World} {base e n : Nat} {v : Value} {xs : List Value} (h : w.ownsRow base e 1 v n xs) (hx : xs.length = n) : RowsV 1 (fun i _ => xs[i]?.getD undef) w.heap.size w v n:=by
 rcases h.2 with ⟨rfl,h0⟩ | ⟨g,cap,cur,rfl,hb,hg,hn,hm,hs,ht⟩
 ·subst h0
  exact RowsV.nil none 0 (by simp [maxLen]) (fun _ => rfl)
 ·refine RowsV.mk_cells hn hm (Array.getElem?_eq_some_iff.1 hg).1 fun i hi j hj => ?_
  obtain rfl : j = 0:=by omega
  have := World.ownsRow.cells h (g:=g) rfl i (xs[i]?.getD undef) (by rw [List.getElem?_eq_getElem (by omega)]; rfl)
  rw [Addr.add] at this
  by_cases h0 : i = 0
  ·subst h0; simpa using this
  ·simpa [h0] using this
theorem OwnN.nats {base : Nat} {w : World} {v : Value} {l : List Nat} (h : OwnN base w v l) : Nats w.heap.size w v l :=
 (ownsRow_rows h (by simp)).congr fun i hi j _ => by simp [hi]
theorem OwnN.nil (base : Nat) (w : World) : OwnN base w (.slice none 0 0) []:=World.ownsRow_nil w base 3 1
theorem OwnN.old {base B : Nat} {w w' : World} {v : Value} {l : List Nat} (h : OwnN base w v l) (hb : Below B w w') (hB : w.heap.size <= B) : OwnN base w' v l:=ownsRow_old h hb hB
theorem OwnN.kept {base : Nat} {w w' : World} {v : Value} {l : List Nat} {row : Option Nat} (h : OwnN base w v l) (hg : w.grownBy w' row) (hne : v.ownBlock = none \/ v.ownBlock ≠ row) : OwnN base w' v l:=World.ownsRow.kept h hg hne
theorem OwnN.mono {base base' : Nat} {w : World} {v : Value} {l : List Nat} (h : OwnN base w v l) (hb : base' <= base) : OwnN base' w v l:=ownsRow_mono h hb
theorem Tryz.infoI : (Tryz.prog.info? 3).map (fun i => (i.zero,i.size,i.bytes)) = some (some (.int .i64 0),1,8):=by kernel_rfl
theorem ownsRow_form {w : World} {base e size n : Nat} {v : Value} {xs : List Value} (h : w.ownsRow base e size v n xs) : ∃ a c,v = .slice a n c /\ n <= c /\ c <= maxLen:=by
 rcases h.2 with ⟨rfl,h0⟩ | ⟨g,cap,cur,rfl,_,_,h1,h2,_⟩
 ·exact ⟨none,0,by rw [h0],by omega,by simp [maxLen]⟩
 ·exact ⟨_,cap,rfl,h1,h2⟩
theorem OwnN.form {base : Nat} {w : World} {v : Value} {l : List Nat} (h : OwnN base w v l) : ∃ a c,v = .slice a l.length c /\ l.length <= c /\ c <= maxLen:=ownsRow_form h
theorem wpList_append_N {w : World} {ops : Array Oper} {rest : List Oper} {o : Oper} {a : Act} {Q : Exit -> Act -> World -> Prop} (hgd : o.guard = none) (s x : Operand)
  (ho : o.op = .call { callee:=.builtin .append,args:=#[s,x],argTypes:=#[39,39] })
  {base : Nat} {v : Value} {zs : List Nat} {B c : Nat} {z : Nat} (hs : a.eval s = v) (hx : a.eval x = .slice (some ⟨B,0,none⟩) 1 c) (hown : OwnN base w v zs) (hb : w.cell? ⟨B,0,none⟩ = some (Z z))
  (h63 : zs.length + 1 <= 2 ^ 40) (hbase : base <= w.heap.size)
  (h : ∀ g cap w',OwnN base w' (.slice (some ⟨g,0,none⟩) (zs.length + 1) cap) (zs ++ [z]) -> w.grownBy w' v.ownBlock -> (v.ownBlock = some g \/ g = w.heap.size) -> wpList Tryz.prog ops Q rest (a.put o.dst (.slice (some ⟨g,0,none⟩) (zs.length + 1) cap)) w') : wpList Tryz.prog ops Q (o :: rest) a w:=by
 obtain ⟨i0,hi,hz0,hz1,hz2⟩:=info_parts Tryz.infoI
 refine wpList_append_lies w hgd s x 39 ho base 3 i0 _ 1 8 Tryz.underlying39 hi hz0 hz1 hz2 rfl (by decide) v zs.length (zs.map Z) hs hown ⟨B,0,none⟩ 1 c [Z z] hx rfl
  (fun j u hj => by
   match j,hj with
   | 0,hj =>
    simp only [List.getElem?_cons_zero,Option.some.injEq] at hj
    subst hj
    simpa [Addr.add] using hb)
  (by simp [Value.oneCell']) (by decide) (by simp [maxLen]; omega) (by omega) hbase _ rfl fun g cap w' h1 h2 h3 h4 => h g cap w' ?_ h2 h3
 unfold OwnN
 rw [List.length_append,List.map_append]
 exact h1
def Blk (w : World) (b : Nat) (cs : Array Value) (t : TypeId) : Prop:=w.heap[b]? = some (.cells cs t (0,0))
theorem Blk.new (w : World) (cs : Array Value) (t : TypeId) : Blk (w.alloc (.cells cs t)) w.heap.size cs t:=World.alloc_heap_new w _
theorem Blk.lt {w : World} {b t : Nat} {cs : Array Value} (h : Blk w b cs t) : b < w.heap.size:=(Array.getElem?_eq_some_iff.1 h).1
theorem Blk.alloc {w : World} {b t : Nat} {cs : Array Value} (h : Blk w b cs t) (o : Obj) : Blk (w.alloc o) b cs t:=(Below.heap_alloc _ _ _ h.lt).trans h
theorem Blk.below {w w' : World} {B b t : Nat} {cs : Array Value} (h : Blk w b cs t) (hb : Below B w w') (hlt : b < B) : Blk w' b cs t:=(hb.block b hlt).trans h
theorem Blk.kept {w w' : World} {b t : Nat} {cs : Array Value} {row : Option Nat} (h : Blk w b cs t) (hg : w.grownBy w' row) (hne : some b ≠ row) : Blk w' b cs t:=(hg.block b h.lt hne).trans h
theorem Blk.set {w : World} {b t i : Nat} {cs : Array Value} (h : Blk w b cs t) (x : Value) : Blk (w.setCell ⟨b,i,none⟩ x) b (cs.setIfInBounds i x) t:=by
 unfold Blk at *
 simp [World.setCell,Array.getElem?_modify,h]
theorem Blk.other {w : World} {b b' t i : Nat} {cs : Array Value} (h : Blk w b cs t) (hne : b ≠ b') (x : Value) : Blk (w.setCell ⟨b',i,none⟩ x) b cs t:=(Below.heap_setCell _ _ _ _ (by simpa using hne)).trans h
theorem Blk.at {w : World} {b t i : Nat} {cs : Array Value} {x : Value} (h : Blk w b cs t) (hi : cs[i]? = some x) : w.cell? ⟨b,i,none⟩ = some x:=by
 unfold Blk at h; simp [World.cell?,h,hi]
theorem Blk.free {w : World} {b t : Nat} {cs : Array Value} (h : Blk w b cs t) (i : Nat) : w.frozen? ⟨b,i,none⟩ = false:=by
 unfold Blk at h; simp [World.frozen?,h]
theorem Blk.one {w : World} {b t : Nat} {x : Value} (h : Blk w b #[x] t) : w.cell? ⟨b,0,none⟩ = some x /\ w.frozen? ⟨b,0,none⟩ = false:=⟨h.at rfl,h.free 0⟩
theorem Blk.two {w : World} {b t : Nat} {x y : Value} (h : Blk w b #[x,y] t) : w.cell? ⟨b,0,none⟩ = some x /\ w.cell? ⟨b,1,none⟩ = some y:=⟨h.at rfl,h.at rfl⟩
theorem Blk.four {w : World} {b t : Nat} {x y z u : Value} (h : Blk w b #[x,y,z,u] t) : w.cell? ⟨b,0,none⟩ = some x /\ w.cell? ⟨b,1,none⟩ = some y /\ w.cell? ⟨b,2,none⟩ = some z /\ w.cell? ⟨b,3,none⟩ = some u:=⟨h.at rfl,h.at rfl,h.at rfl,h.at rfl⟩
theorem Blk.nine {w : World} {b t : Nat} {x0 x1 x2 x3 x4 x5 x6 x7 x8 : Value} (h : Blk w b #[x0,x1,x2,x3,x4,x5,x6,x7,x8] t) : w.cell? ⟨b,0,none⟩ = some x0 /\ w.cell? ⟨b,1,none⟩ = some x1 /\ w.cell? ⟨b,2,none⟩ = some x2 ∧
  w.cell? ⟨b,3,none⟩ = some x3 /\ w.cell? ⟨b,4,none⟩ = some x4 /\ w.cell? ⟨b,5,none⟩ = some x5 /\ w.cell? ⟨b,6,none⟩ = some x6 /\ w.cell? ⟨b,7,none⟩ = some x7 /\ w.cell? ⟨b,8,none⟩ = some x8 :=
 ⟨h.at rfl,h.at rfl,h.at rfl,h.at rfl,h.at rfl,h.at rfl,h.at rfl,h.at rfl,h.at rfl⟩
theorem grownBy_setCell (w : World) (R i : Nat) (x : Value) : w.grownBy (w.setCell ⟨R,i,none⟩ x) (some R) :=
 ⟨rfl,rfl,rfl,by simp [World.setCell],fun k _ hk => Below.heap_setCell _ _ _ _ (fun e => hk (by simp at e; rw [e]))⟩
theorem below_drewN2 {B : Nat} {a w : World} (h : Below B a w) (n : Nat) : Below B a (w.drewN n):=h.trans ⟨rfl,rfl,rfl,Nat.le_refl _,fun _ _ => rfl⟩
theorem below_grown {B : Nat} {W W' : World} {row : Option Nat} (hg : W.grownBy W' row) (hr : ∀ k,row = some k -> B <= k) (hB : B <= W.heap.size) : Below B W W':=(Below.refl B W).grown hg hB hr
open Go.RowKit Go.ChangeShapes Go.WideShapes Go.ChangeAt Go.Deep
theorem lt_of_cell {w : World} {a : Addr} {v : Value} (h : w.cell? a = some v) : a.block < w.heap.size:=World.block_lt_of_cell? w _ h
theorem list2 {α : Type} {l : List α} (h : l.length = 2) : ∃ a b,l = [a,b]:=by
 match l,h with
 | [a,b],_ => exact ⟨a,b,rfl⟩
theorem list4 {α : Type} {l : List α} (h : l.length = 4) : ∃ a b c d,l = [a,b,c,d]:=by
 match l,h with
 | [a,b,c,d],_ => exact ⟨a,b,c,d,rfl⟩
theorem list6 {α : Type} {l : List α} (h : l.length = 6) : ∃ a b c d e f,l = [a,b,c,d,e,f]:=by
 match l,h with
 | [a,b,c,d,e,f],_ => exact ⟨a,b,c,d,e,f,rfl⟩
theorem list9 {α : Type} {l : List α} (h : l.length = 9) : ∃ a b c d e f g i j,l = [a,b,c,d,e,f,g,i,j]:=by
 match l,h with
 | [a,b,c,d,e,f,g,i,j],_ => exact ⟨a,b,c,d,e,f,g,i,j,rfl⟩
section
variable {H : Type} {enc : TypeId × Value -> H} {W : World}
theorem rows_of_trod {fuel c : Nat} {t e : TypeId} {v : Value} {x : DataW H × List MemPlace} (ht : Tryz.prog.underlying t = some (.slice e)) (hC : Tryz.prog.cellsOf e = c) (hpos : 0 < c) (h : DataW.trod enc Tryz.prog W 0 (fun _ => true) true fuel t [v] = some x) :
  ∃ a len cap,v = .slice a len cap /\ len <= cap /\ cap <= maxLen /\ (a = none -> cap = 0) /\ (0 < len -> ∃ b o n,fuel = n + 1 /\ a = some ⟨b,o,none⟩ /\ b < W.heap.size ∧
   ∀ i,i < len -> ∃ cs' y,cs'.length = c /\ DataW.trod enc Tryz.prog W 0 (fun _ => true) true n e cs' = some y /\ ∀ j u,cs'[j]? = some u -> W.cell? ⟨b,o + (i * c + j),none⟩ = some u):=by
 rcases DataW.trod_slice ht h with ⟨hcs,_⟩ | ⟨a,len,cap,elems,rest,n,hf,hcs,_,_,hl,hm,hlen,hel,_,_⟩
 ·simp only [List.cons.injEq,and_true] at hcs
  subst hcs
  exact ⟨none,0,0,rfl,Nat.le_refl _,Nat.zero_le _,fun _ => rfl,fun h => absurd h (by simp)⟩
 ·simp only [List.cons.injEq,and_true] at hcs
  subst hcs
  refine ⟨some a,len,cap,rfl,hl,hm,(fun h => nomatch h),fun hp => ?_⟩
  rw [hC] at hel
  have key : ∀ i,i < len -> ∃ cs' y,cs'.length = c /\ DataW.trod enc Tryz.prog W 0 (fun _ => true) true n e cs' = some y /\ ∀ j,j < c -> W.cell? ((a.add (i * c)).add j) = cs'[j]? := by
   intro i hi
   have h1:=hel i hi
   rw [List.getElem?_eq_getElem (by omega)] at h1
   obtain ⟨cs',h2,h3⟩:=Option.bind_eq_some_iff.1 h1
   obtain ⟨_,hcl,hat⟩:=World.cells?_some h2
   exact ⟨cs',_,hcl,h3,hat⟩
  obtain ⟨b,o,sp⟩:=a
  have hlt : ∃ u,W.cell? ((Addr.add ⟨b,o,sp⟩ (0 * c)).add 0) = some u:=by
   obtain ⟨cs',y,h1,_,h3⟩:=key 0 hp
   exact ⟨cs'[0]'(by omega),by rw [h3 0 hpos,List.getElem?_eq_getElem]⟩
  obtain ⟨u,hu⟩:=hlt
  have hsp : sp = none:=by
   have := World.cell?_spot hu
   simpa [Addr.add] using this
  subst hsp
  have hadd : ∀ i,(Addr.add ⟨b,o,none⟩ i) = ⟨b,o + i,none⟩:=by
   intro i
   rw [Addr.add]
   by_cases h0 : i = 0
   ·subst h0; simp
   ·simp [h0]
  refine ⟨b,o,n,hf,rfl,?_,fun i hi => ?_⟩
  ·rw [add_add,hadd] at hu
   exact lt_of_cell hu
  ·obtain ⟨cs',y,h1,h2,h3⟩:=key i hi
   refine ⟨cs',y,h1,h2,fun j u hj => ?_⟩
   have := h3 j (by have := (List.getElem?_eq_some_iff.1 hj).1; omega)
   rw [add_add,hadd,hj] at this
   exact this
theorem str_of_trod {fuel : Nat} {cs : List Value} {x : DataW H × List MemPlace} (h : DataW.trod enc Tryz.prog W 0 (fun _ => true) true fuel 9 cs = some x) : ∃ s : Str,cs = [S s] /\ s.length <= maxLen:=by
 obtain ⟨s,rfl,_,hs⟩:=DataW.trod_string Tryz.underlying9 h
 exact ⟨s.data.toList,by cases s; rfl,by rw [Array.length_toList]; exact hs⟩
theorem sl_of_trod {fuel c : Nat} {t e : TypeId} {cs : List Value} {x : DataW H × List MemPlace} (ht : Tryz.prog.underlying t = some (.slice e)) (h : DataW.trod enc Tryz.prog W 0 (fun _ => true) true fuel t cs = some x) : ∃ s : Sl,cs = [s.val]:=by
 rcases DataW.trod_slice ht h with ⟨hcs,_⟩ | ⟨a,len,cap,elems,rest,n,hf,hcs,_⟩
 ·exact ⟨⟨none,0,0⟩,hcs⟩
 ·exact ⟨⟨some a,len,cap⟩,hcs⟩
instance : Inhabited Xv:=⟨⟨0,[],0,false,⟨none,0,0⟩,false,⟨none,0,0⟩,0,⟨none,0,0⟩⟩⟩
instance : Inhabited Cv:=⟨⟨[],[],0,0,0,false,default,default⟩⟩
end
structure Gc where
 nm : Str
 lb : Str
 fr : Int
 to : Int
 kn : Int
 off : Bool
instance : Inhabited Gc:=⟨⟨[],[],0,0,0,false⟩⟩
section
variable {cs : List Gc} {nm : Str} {d kn : Int}
end
theorem infoEx : (Tryz.prog.info? 31).map (fun i => i.size) = some 9:=by kernel_rfl
theorem drewN_two (w : World) (n m : Nat) : (w.drewN n).drewN m = w.drewN (n + m):=by simp [World.drewN,Nat.add_assoc]
theorem nats_len_ne {l m : List Nat} (h : l.length ≠ m.length) : (l == m) = false:=beq_eq_false_iff_ne.2 fun e => h (by rw [e])
theorem nats_at_ne {l m : List Nat} {k : Nat} (h : l[k]?.getD 0 ≠ m[k]?.getD 0) : (l == m) = false:=beq_eq_false_iff_ne.2 fun e => h (by rw [e])
theorem nats_all {l m : List Nat} (hl : l.length = m.length) (h : ∀ i,i < l.length -> l[i]?.getD 0 = m[i]?.getD 0) : (l == m) = true:=by
 rw [beq_iff_eq]
 refine List.ext_getElem hl fun i h1 h2 => ?_
 have := h i h1
 rwa [List.getElem?_eq_getElem h1,List.getElem?_eq_getElem h2] at this
theorem gints_any (K : Nat) (u v : Value) (l m : List Nat) (w : World) (hu : Nats K w u l) (hv : Nats K w v m) :
  Calls Tryz.prog 18 #[u,v] w fun e w' => e = .returned (.bool (l == m)) /\ ∃ n,w' = w.drewN n:=by
 obtain ⟨ua,ucap,rfl,hu1,hu2⟩:=id hu.form
 obtain ⟨va,vcap,rfl,hv1,hv2⟩:=id hv.form
 unfold maxLen at hv2 hu2
 by_cases hne : l.length = m.length
 case neg =>
  have HE:=Lib.hid (nats_len_ne hne)
  have hne2 : ¬ ((l.length : Int) = (m.length : Int)):=by omega
  go_enter Tryz.func18,Tryz.ntmps18
  go_wp2_with fail
  go_ret
  exact ⟨by rw [HE.out]; rfl,0,rfl⟩
 case pos =>
 obtain ⟨q,hq⟩ : ∃ q,l.length = q:=⟨_,rfl⟩
 have hq' : m.length = q:=by rw [<- hne,hq]
 rw [hq] at hu hu1 ⊢
 rw [hq'] at hv hv1 ⊢
 have HM:=Lib.hid hq
 have HL:=Lib.hid hq'
 clear hq hq' hne
 have hqq : ((q : Int) != (q : Int)) = false:=by simp
 go_enter Tryz.func18,Tryz.ntmps18
 go_wp2_with fail
 go_loopw [13] (fun i wr => ∃ k n : Nat,k <= q /\ i = .int .i64 k /\ wr = w.drewN n /\ Hid (∀ i,i < k -> l[i]?.getD 0 = m[i]?.getD 0)) (fun i _ => q - (intOf i).toNat)
 case atStart => exact ⟨0,0,Nat.zero_le _,rfl,rfl,Lib.hid fun i hi => absurd hi (Nat.not_lt_zero i)⟩
 case round =>
  obtain ⟨k,n,hk,rfl,rfl,HALL⟩:=hrel
  by_cases hlt : k < q
  ·obtain ⟨b,o,cap,he,_,_,hbK,hc⟩:=hv.pos (by rw [HL.out]; omega)
   simp only [Value.slice.injEq] at he
   obtain ⟨rfl,_,rfl⟩:=he
   have c0:=hc k (by rw [HL.out]; exact hlt)
   obtain ⟨b',o',cap',he,_,_,hbK',hc'⟩:=hu.pos (by rw [HM.out]; omega)
   simp only [Value.slice.injEq] at he
   obtain ⟨rfl,_,rfl⟩:=he
   have c1:=hc' k (by rw [HM.out]; exact hlt)
   have HNE : Hid (l[k]?.getD 0 ≠ m[k]?.getD 0 -> (l == m) = false):=Lib.hid nats_at_ne
   have HEQ : Hid (l[k]?.getD 0 = m[k]?.getD 0 -> ∀ i,i < k + 1 -> l[i]?.getD 0 = m[i]?.getD 0):=Lib.hid fun he i hi => by
    by_cases h : i = k
    ·subst h; exact he
    ·exact HALL.out i (by omega)
   obtain ⟨x,hx⟩ : ∃ x,l[k]?.getD 0 = x:=⟨_,rfl⟩
   obtain ⟨y,hy⟩ : ∃ y,m[k]?.getD 0 = y:=⟨_,rfl⟩
   rw [hx] at c1 HNE HEQ
   rw [hy] at c0 HNE HEQ
   clear hx hy hc hc'
   by_cases hct : x = y
   ·have HE:=Lib.hid (HEQ.out hct)
    have hb1 : ((x : Int) != (y : Int)) = false:=by rw [hct]; simp
    clear hct
    go_upto_region 6 with fail
    go_quiet (fail)
    go_wp2_with fail
    exact ⟨⟨k + 1,_,by omega,by go_num,by first | rfl | exact drewN_two _ _ _,HE⟩,by simp [intOf]; omega⟩
   ·have HE:=Lib.hid (HNE.out hct)
    have hb1 : ((x : Int) != (y : Int)) = true:=by simp; omega
    clear hct
    go_upto_region 6 with fail
    go_quiet (fail)
    go_wp2_with fail
    go_ret
    exact ⟨by rw [HE.out]; rfl,_,by first | rfl | exact drewN_two _ _ _⟩
  ·obtain rfl : q = k:=by omega
   have HE : Hid ((l == m) = true):=Lib.hid (nats_all (by rw [HM.out,HL.out]) (fun i hi => HALL.out i (by have := HM.out; omega)))
   go_wp2_with fail
   go_ret
   exact ⟨by rw [HE.out]; rfl,_,by first | rfl | exact drewN_two _ _ _⟩
def Wd (q : IntKind) (K : Nat) (w : World) (v : Value) (n : Nat) : Prop :=
 (n = 0 /\ ∃ a c,v = .slice a 0 c /\ c <= maxLen) \/ (0 < n /\ ∃ b o c,v = .slice (some ⟨b,o,none⟩) 1 c /\ 1 <= c /\ c <= maxLen /\ b < K /\ w.cell? ⟨b,o,none⟩ = some (.int q n))
def Pre (q : IntKind) (K : Nat) (w : World) (v : Value) (n : Nat) : Prop :=
 (n = 0 /\ ∃ a c,v = .slice a 0 c /\ c <= maxLen) \/ (∃ b o c,v = .slice (some ⟨b,o,none⟩) 1 c /\ 1 <= c /\ c <= maxLen /\ b < K /\ w.cell? ⟨b,o,none⟩ = some (.int q n)) ∨
 (∃ b o c,v = .slice (some ⟨b,o,none⟩) 2 c /\ 2 <= c /\ c <= maxLen /\ b < K /\ w.cell? ⟨b,o,none⟩ = some (.int q n) /\ w.cell? ⟨b,o + 1,none⟩ = some (.int q 0))
section
variable {q : IntKind} {K K' B : Nat} {w w' : World} {v : Value} {n : Nat}
theorem Wd.below (h : Wd q K w v n) (hb : Below B w w') (hB : K <= B) (hK : K <= K') : Wd q K' w' v n:=by
 rcases h with ⟨h0,h1⟩ | ⟨h0,b,o,c,h1,h2,h3,h4,h5⟩
 ·exact .inl ⟨h0,h1⟩
 ·exact .inr ⟨h0,b,o,c,h1,h2,h3,by omega,(hb.cell (p:=⟨b,o,none⟩) (by simp; omega)).trans h5⟩
theorem Wd.pre (h : Wd q K w v n) : Pre q K w v n:=by
 rcases h with ⟨h0,h1⟩ | ⟨h0,h1⟩
 ·exact .inl ⟨h0,h1⟩
 ·exact .inr (.inl h1)
theorem Wd.form (h : Wd q K w v n) : ∃ a m c,v = .slice a m c:=by
 rcases h with ⟨_,a,c,rfl,_⟩ | ⟨_,b,o,c,rfl,_⟩
 ·exact ⟨_,_,_,rfl⟩
 ·exact ⟨_,_,_,rfl⟩
end
theorem Tryz.infoU16 : (Tryz.prog.info? 85).map (fun i => (i.zero,i.size,i.bytes)) = some (some (.int .u16 0),1,2):=by kernel_rfl
theorem Tryz.infoU32 : (Tryz.prog.info? 130).map (fun i => (i.zero,i.size,i.bytes)) = some (some (.int .u32 0),1,4):=by kernel_rfl
theorem make_w0 (w : World) : (Instr.makeSlice 121 (.int .i64 0) (.int .i64 0)).run Tryz.prog w = .ok (.slice (some ⟨w.heap.size,0,none⟩) 0 0) (w.alloc (.cells #[] 130)):=by
 obtain ⟨i0,hi,hz0,hz1,hz2⟩:=info_parts Tryz.infoU32
 have h:=run_make (P:=Tryz.prog) w 121 130 i0 _ Tryz.underlying121 hi hz0 .i64 .i64 0 0 (by omega) (Int.le_refl _) (by rw [hz2]; omega) (by omega)
 rw [hz1,show madeCells (Value.int .u32 0).cells (Int.toNat 0 * 1) = (#[] : Array Value) from by kernel_rfl] at h; exact h
theorem make_w1 (w : World) : (Instr.makeSlice 121 (.int .i64 1) (.int .i64 1)).run Tryz.prog w = .ok (.slice (some ⟨w.heap.size,0,none⟩) 1 1) (w.alloc (.cells #[.int .u32 0] 130)):=by
 obtain ⟨i0,hi,hz0,hz1,hz2⟩:=info_parts Tryz.infoU32
 have h:=run_make (P:=Tryz.prog) w 121 130 i0 _ Tryz.underlying121 hi hz0 .i64 .i64 1 1 (by omega) (Int.le_refl _) (by rw [hz2]; omega) (by omega)
 rw [hz1,show madeCells (Value.int .u32 0).cells (Int.toNat 1 * 1) = (#[.int .u32 0] : Array Value) from by kernel_rfl] at h; exact h
theorem make_w2 (w : World) : (Instr.makeSlice 121 (.int .i64 2) (.int .i64 2)).run Tryz.prog w = .ok (.slice (some ⟨w.heap.size,0,none⟩) 2 2) (w.alloc (.cells #[.int .u32 0,.int .u32 0] 130)):=by
 obtain ⟨i0,hi,hz0,hz1,hz2⟩:=info_parts Tryz.infoU32
 have h:=run_make (P:=Tryz.prog) w 121 130 i0 _ Tryz.underlying121 hi hz0 .i64 .i64 2 2 (by omega) (Int.le_refl _) (by rw [hz2]; omega) (by omega)
 rw [hz1,show madeCells (Value.int .u32 0).cells (Int.toNat 2 * 1) = (#[.int .u32 0,.int .u32 0] : Array Value) from by kernel_rfl] at h; exact h
theorem make_l2 (w : World) : (Instr.makeSlice 22 (.int .i64 2) (.int .i64 2)).run Tryz.prog w = .ok (.slice (some ⟨w.heap.size,0,none⟩) 2 2) (w.alloc (.cells #[.int .u16 0,.int .u16 0] 85)):=by
 obtain ⟨i0,hi,hz0,hz1,hz2⟩:=info_parts Tryz.infoU16
 have h:=run_make (P:=Tryz.prog) w 22 85 i0 _ Tryz.underlying22 hi hz0 .i64 .i64 2 2 (by omega) (Int.le_refl _) (by rw [hz2]; omega) (by omega)
 rw [hz1,show madeCells (Value.int .u16 0).cells (Int.toNat 2 * 1) = (#[.int .u16 0,.int .u16 0] : Array Value) from by kernel_rfl] at h; exact h
theorem trim_any (K : Nat) (v : Value) (n : Nat) (w : World) (h : Pre .u32 K w v n) : Calls Tryz.prog 103 #[v] w fun e w' => ∃ v',e = .returned v' /\ Wd .u32 K w v' n /\ w' = w:=by
 rcases h with ⟨rfl,a,c,rfl,hc⟩ | ⟨b,o,c,rfl,h1,hc,hb,h5⟩ | ⟨b,o,c,rfl,h1,hc,hb,h5,h6⟩
 ·go_enter Tryz.func103,Tryz.ntmps103
  go_wp2_with fail
  refine wp_loop_rounds 1 ?_
  rw [rounds_succ]
  go_wp2_with fail
  go_ret
  exact ⟨_,rfl,.inl ⟨rfl,_,_,rfl,hc⟩,rfl⟩
 ·go_enter Tryz.func103,Tryz.ntmps103
  go_wp2_with fail
  refine wp_loop_rounds 2 ?_
  rw [rounds_succ]
  by_cases h0 : n = 0
  ·subst h0
   go_wp2_with fail
   rw [rounds_succ]
   go_wp2_with fail
   go_ret
   exact ⟨_,rfl,.inl ⟨rfl,_,_,rfl,hc⟩,rfl⟩
  ·have hx : ((n : Int) == 0) = false:=by simp; omega
   go_wp2_with fail
   go_ret
   exact ⟨_,rfl,.inr ⟨by omega,b,o,c,rfl,h1,hc,hb,h5⟩,rfl⟩
 ·go_enter Tryz.func103,Tryz.ntmps103
  go_wp2_with fail
  refine wp_loop_rounds 3 ?_
  rw [rounds_succ]
  go_wp2_with fail
  rw [rounds_succ]
  by_cases h0 : n = 0
  ·subst h0
   go_wp2_with fail
   rw [rounds_succ]
   go_wp2_with fail
   go_ret
   exact ⟨_,rfl,.inl ⟨rfl,_,_,rfl,hc⟩,rfl⟩
  ·have hx : ((n : Int) == 0) = false:=by simp; omega
   go_wp2_with fail
   go_ret
   exact ⟨_,rfl,.inr ⟨by omega,b,o,c,rfl,by omega,hc,hb,h5⟩,rfl⟩
theorem compare_any (K : Nat) (u v : Value) (m n : Nat) (w : World) (hu : Wd .u32 K w u m) (hv : Wd .u32 K w v n) : Calls Tryz.prog 88 #[u,v] w fun e w' => e = .returned (.int .i64 (if m < n then -1 else if n < m then 1 else 0)) /\ ∃ k,w' = w.drewN k:=by
 rcases hu with ⟨rfl,a,c,rfl,hc⟩ | ⟨h0,b,o,c,rfl,h1,hc,hb,h5⟩
 ·rcases hv with ⟨rfl,a',c',rfl,hc'⟩ | ⟨h0',b',o',c',rfl,h1',hc',hb',h5'⟩
  ·go_enter Tryz.func88,Tryz.ntmps88
   go_wp2_with fail
   refine wp_loop_rounds 1 ?_
   rw [rounds_succ]
   go_wp2_with fail
   go_ret
   exact ⟨rfl,0,rfl⟩
  ·have e : (if 0 < n then (-1 : Int) else if n < 0 then 1 else 0) = -1:=by rw [if_pos h0']
   rw [e]
   clear e
   go_enter Tryz.func88,Tryz.ntmps88
   go_wp2_with fail
   go_ret
   exact ⟨rfl,0,rfl⟩
 ·rcases hv with ⟨rfl,a',c',rfl,hc'⟩ | ⟨h0',b',o',c',rfl,h1',hc',hb',h5'⟩
  ·have e : (if m < 0 then (-1 : Int) else if 0 < m then 1 else 0) = 1:=by rw [if_neg (by omega),if_pos h0]
   rw [e]
   clear e
   go_enter Tryz.func88,Tryz.ntmps88
   go_wp2_with fail
   go_ret
   exact ⟨rfl,0,rfl⟩
  ·by_cases he : m = n
   ·subst he
    have e : (if m < m then (-1 : Int) else if m < m then 1 else 0) = 0:=by simp
    rw [e]
    have hx : ((m : Int) != m) = false:=by simp
    clear e
    go_enter Tryz.func88,Tryz.ntmps88
    go_wp2_with fail
    refine wp_loop_rounds 2 ?_
    rw [rounds_succ]
    go_upto_region 8 with fail
    go_quiet (fail)
    go_wp2_with fail
    rw [rounds_succ]
    go_wp2_with fail
    go_ret
    exact ⟨rfl,_,rfl⟩
   ·have hx : ((m : Int) != n) = true:=by simp; omega
    by_cases hl : m < n
    ·rw [if_pos hl]
     have hy : decide ((m : Int) < n) = true:=by simp; omega
     go_enter Tryz.func88,Tryz.ntmps88
     go_wp2_with fail
     refine wp_loop_rounds 1 ?_
     rw [rounds_succ]
     go_upto_region 8 with fail
     go_quiet (fail)
     go_upto_region 9 with fail
     go_quiet (fail)
     go_wp2_with fail
     go_ret
     exact ⟨rfl,_,by first | rfl | exact drewN_two _ _ _⟩
    ·rw [if_neg hl,if_pos (by omega)]
     have hy : decide ((m : Int) < n) = false:=by simp; omega
     go_enter Tryz.func88,Tryz.ntmps88
     go_wp2_with fail
     refine wp_loop_rounds 1 ?_
     rw [rounds_succ]
     go_upto_region 8 with fail
     go_quiet (fail)
     go_upto_region 9 with fail
     go_quiet (fail)
     go_wp2_with fail
     go_ret
     exact ⟨rfl,_,by first | rfl | exact drewN_two _ _ _⟩
theorem pack_any (K : Nat) (v : Value) (n : Nat) (w : World) (h : Wd .u16 K w v n) (hK : K <= w.heap.size) (hn : n < 65536) : Calls Tryz.prog 89 #[v] w fun e w' => ∃ v',e = .returned v' /\ Wd .u32 w'.heap.size w' v' n /\ Below w.heap.size w w':=by
 rcases h with ⟨rfl,a,c,rfl,hc⟩ | ⟨h0,b,o,c,rfl,h1,hc,hb,h5⟩
 ·have hm:=make_w0
  go_enter Tryz.func89,Tryz.ntmps89
  go_wp2_with fail
  refine wp_loop_rounds 1 ?_
  rw [rounds_succ]
  go_wp2_with fail
  go_ret
  exact ⟨_,rfl,.inl ⟨rfl,_,_,rfl,by simp [maxLen]⟩,(Below.refl _ _).alloc (Nat.le_refl _) _⟩
 ·have hm:=make_w1
  have hne : ¬ b = w.heap.size:=by omega
  have hlt : b < w.heap.size:=by omega
  go_enter Tryz.func89,Tryz.ntmps89
  go_wp2_with fail
  refine wp_loop_rounds 2 ?_
  rw [rounds_succ]
  go_upto_region 5 with fail
  have hbits : bits BinOp.or IntKind.u32 0 (n : Int) = n:=by have := u32_or_nat 0 n (by decide) (by omega); simpa using this
  go_region
  go_wp2_with fail
  rw [rounds_succ]
  go_wp2_with fail
  go_ret
  exact ⟨_,rfl,.inr ⟨h0,_,_,_,rfl,by omega,by simp [maxLen],by simp,by simp⟩,((Below.refl _ w).alloc (Nat.le_refl _) _).trans ⟨rfl,rfl,rfl,Nat.le_refl _,fun _ _ => rfl⟩⟩
theorem Pre.below {q : IntKind} {K K' B : Nat} {w w' : World} {v : Value} {n : Nat} (h : Pre q K w v n) (hb : Below B w w') (hB : K <= B) (hK : K <= K') : Pre q K' w' v n:=by
 rcases h with ⟨h0,h1⟩ | ⟨b,o,c,rfl,h1,hc,hb',h5⟩ | ⟨b,o,c,rfl,h1,hc,hb',h5,h6⟩
 ·exact .inl ⟨h0,h1⟩
 ·exact .inr (.inl ⟨b,o,c,rfl,h1,hc,by omega,(hb.cell (p:=⟨b,o,none⟩) (by simp; omega)).trans h5⟩)
 ·exact .inr (.inr ⟨b,o,c,rfl,h1,hc,by omega,(hb.cell (p:=⟨b,o,none⟩) (by simp; omega)).trans h5,(hb.cell (p:=⟨b,o + 1,none⟩) (by simp; omega)).trans h6⟩)
def NewV (L : Nat) (v : Value) : Prop:=∀ b o m c,v = .slice (some ⟨b,o,none⟩) m c -> L <= b
theorem NewV.nil (L m c : Nat) : NewV L (.slice none m c):=fun b o m c e => by simp at e
theorem NewV.at {L b o m c : Nat} (h : L <= b) : NewV L (.slice (some ⟨b,o,none⟩) m c):=fun b' o' m' c' e => by simp at e; omega
theorem NewV.mono {L L' : Nat} {v : Value} (h : NewV L v) (hl : L' <= L) : NewV L' v:=fun b o m c e => Nat.le_trans hl (h b o m c e)
theorem Wd.set {q : IntKind} {K r i L : Nat} {w : World} {v x : Value} {n : Nat} (h : Wd q K w v n) (hn : NewV L v) (hr : r < L) : Wd q K (w.setCell ⟨r,i,none⟩ x) v n:=by
 rcases h with ⟨h0,h1⟩ | ⟨h0,b,o,c,rfl,h2,h3,h4,h5⟩
 ·exact .inl ⟨h0,h1⟩
 ·have := hn b o 1 c rfl
  exact .inr ⟨h0,b,o,c,rfl,h2,h3,h4,((grownBy_setCell w r i x).cell h5 (by simp; omega))⟩
theorem unpack_any (K : Nat) (v : Value) (n : Nat) (w : World) (h : Pre .u32 K w v n) (hK : K <= w.heap.size) (hn : n < 65536) : Calls Tryz.prog 98 #[.bool false,v] w fun e w' => ∃ v',e = .returned (.agg #[.bool false,v']) /\ Wd .u16 w'.heap.size w' v' n /\ Below w.heap.size w w' /\ NewV w.heap.size v':=by
 have hp:=h.below ((Below.refl w.heap.size w).alloc (Nat.le_refl _) (.cells #[.bool false,.slice none 0 0] 24)) hK (Nat.le_refl K)
 have ht:=trim_any K v n _ hp
 clear hp h
 go_enter Tryz.func98,Tryz.ntmps98
 go_wp2_with fail
 refine ht.mono ?_
 rintro e w2 ⟨v',rfl,hv,rfl⟩
 clear ht
 rcases hv with ⟨rfl,a,c,rfl,hc⟩ | ⟨h0,b,o,c,rfl,h1,hc,hb,h5⟩
 ·go_wp2_with fail
  refine bodyPost_ret (v:=.agg #[.bool false,.slice none 0 0]) (by simp [results,Tryz.results98,go_sem]) rfl ?_
  exact ⟨_,rfl,.inl ⟨rfl,_,_,rfl,by simp [maxLen]⟩,((Below.refl _ w).alloc (Nat.le_refl _) _),NewV.nil _ _ _⟩
 ·have hm:=make_l2
  have hlt : b < w.heap.size:=by omega
  have hne : ¬ b = w.heap.size:=by omega
  have hne2 : ¬ b = w.heap.size + 1:=by omega
  have h5 : w.cell? ⟨b,o,none⟩ = some (.int .u32 n):=(((Below.refl w.heap.size w).alloc (Nat.le_refl _) (.cells #[.bool false,.slice none 0 0] 24)).cell (p:=⟨b,o,none⟩) hlt).symm.trans h5
  go_wp2_with fail
  refine wp_loop_rounds 2 ?_
  rw [rounds_succ]
  go_wp2_with fail
  rw [rounds_succ]
  go_wp2_with fail
  refine bodyPost_ret (v:=.agg #[.bool false,.slice (some ⟨w.heap.size + 1,0,none⟩) 1 2]) (by simp [results,Tryz.results98,go_sem]) rfl ?_
  exact ⟨_,rfl,.inr ⟨h0,_,_,_,rfl,by omega,by simp [maxLen],by simp,by simp⟩,((Below.refl _ w).alloc (Nat.le_refl _) _).alloc (by simp) _,NewV.at (by omega)⟩
end Go.Proofs.YtlldjmagbjjeoaaGreat
