/- Contracts and plain laws, several texts in one (OSpec, OMem, OlOpn, GSpec, OMap, OClM, GInts, GNum, GNum2). No conditions beyond those stated. -/
import Derived.Test.YtlldjmagbjjeoaaGreatDoorProg
import Derived.WalkKit
import Derived.WalkSpells
import Derived.WalkLawsBesides
import Derived.Deep.QuietTactic
import Derived.BigQuiet
import Derived.Handy
import Derived.Lib.Hide
import Derived.KernelRfl
import Derived.Below
import Derived.Maps.AppendAt
import Derived.Deep.AppendLies
import Derived.RangeFuncNested
import Derived.Deep.MidRow
import Derived.OpenShut
import Derived.Deep.Slices
import Derived.Deep.Fields
import Derived.Deep.Strs
import Derived.ChangeSame
import Derived.Lib.SmallJoins
import Derived.Maps.OwnIn
import Derived.Maps.RangeWalk
import Derived.Maps.Ext
import Derived.Deep.WholeRow
import Derived.Deep.Cut
import Derived.OwnWalk
import Derived.LoopN
import Derived.Laws.BitsAllLaws
import Derived.Test.YtlldjmagbjjeoaaGreatDoorPk0
set_option maxRecDepth 100000
set_option maxHeartbeats 40000000
namespace Go.Proofs.YtlldjmagbjjeoaaGreatDoor
set_option linter.unusedVariables false
abbrev Str:=List UInt8
inductive Ex where
 | mk (op:Int) (nm:Str) (args:List Ex)
def Ex.op:Ex->Int | .mk o _ _=>o
def Ex.nm:Ex->Str | .mk _ n _=>n
def Ex.args:Ex->List Ex | .mk _ _ es=>es
mutual
def Ex.pre:Ex->List (Int × Str)
 | .mk o n es=>(o,n)::qow es
def qow:List Ex->List (Int × Str)
 | []=>[]
 | e::r=>e.pre++qow r
end
def zmw {α:Type} [BEq α] (l:List α) (s:α):List α:=if l.contains s then l else l++[s]
def zba {α:Type} [BEq α] (l:List α):List α:=l.foldl zmw []
def zmq (p:Int × Str):Bool:=p.1==5
def ztd (l:List (Int × Str)):List Str:=(l.filter zmq).map (·.2)
def qyy (e:Ex):List Str:=zba (ztd e.pre)
structure Cl where
 nm:Str
 wh:Ex
 th:Ex
structure Pl where
 defs:List (Str × Bool)
 cls:List Cl
def zkt (l:List (Str × Bool)):List Str:=(l.filter fun d => !d.2).map (·.1)
def kZ (p:Pl):List Str:=zba (zkt p.defs)
def zpw (c:Cl) (s:Str):Bool:=(qyy c.wh).contains s || (qyy c.th).contains s
def zw0 (p:Pl) (a b:Str):Bool:=p.cls.any fun c=>c.nm==a && zpw c b
def qe9 (p:Pl) (a:Str):List Nat:=(List.range (kZ p).length).filter fun i=>zw0 p a ((kZ p)[i]?.getD [])
def qz3 (ns:List Str) (l:List Nat):List Str:=l.map fun i=>ns[i]?.getD []
def zz3 (p:Pl) (a:Str):List Str:=qz3 (kZ p) (qe9 p a)
def gD (p:Pl) (i:Nat):List Nat:=qe9 p ((kZ p)[i]?.getD [])
def rdy (D:Nat->List Nat) (out:List Nat) (i:Nat):Bool:=!out.contains i && (D i).all fun d=>out.contains d
def zjc (n:Nat) (D:Nat->List Nat) (out:List Nat):Option Nat:=(List.range n).find? (rdy D out)
def qp0 (n:Nat) (D:Nat->List Nat):Nat->List Nat->List Nat
 | 0,out=>out
 | k+1,out=>match zjc n D out with
  | none=>out
  | some i=>qp0 n D k (out++[i])
def zz6 (n:Nat) (D:Nat->List Nat):List Nat:=qp0 n D n []
inductive Rch (D:Nat->List Nat) (s:List Nat):Nat->Prop
 | base {j:Nat}:j∈s->Rch D s j
 | step {i j:Nat}:Rch D s i->j∈D i->Rch D s j
open Classical in
noncomputable def zs0 (n:Nat) (D:Nat->List Nat) (s:List Nat):List Nat:=(List.range n).filter fun j=>decide (Rch D s j)
noncomputable def reach (p:Pl) (a:Str):List Str:=qz3 (kZ p) (zs0 (kZ p).length (gD p) (qe9 p a))
section
variable {α:Type} [BEq α] [LawfulBEq α]
end
open Go.RowKit
abbrev S (s:Str):Value:=.string ⟨s.toArray⟩
abbrev Z (n:Nat):Value:=.int .i64 (n:Int)
def Au (c:Nat) (f:Nat->Nat->Value) (K:Nat) (w:World) (v:Value) (n:Nat):Prop :=
 ∃ a cap,v=.slice a n cap/\n<=cap/\cap<=maxLen/\(a=none->cap=0) ∧
  ∀ i,i<n->∃ b o,a=some ⟨b,o,none⟩/\b<K/\∀ j,j<c->w.cell? ⟨b,o+(i*c+j),none⟩=some (f i j)
section
variable {c:Nat} {f g:Nat->Nat->Value} {K K' B:Nat} {w w':World} {v:Value} {n:Nat}
theorem Au.cases (h:Au c f K w v n) :
  (∃ a cap,v=.slice a 0 cap/\n=0/\cap<=maxLen/\(a=none->cap=0)) ∨
  (∃ b o cap,v=.slice (some ⟨b,o,none⟩) n cap/\0<n/\n<=cap/\cap<=maxLen/\b<K ∧
   ∀ i,i<n->∀ j,j<c->w.cell? ⟨b,o+(i*c+j),none⟩=some (f i j)):=by
 obtain⟨a,cap,rfl,hl,hm,hz,hc⟩:=h
 by_cases h0:n=0
 ·subst h0
  exact .inl ⟨a,cap,rfl,rfl,hm,hz⟩
 ·obtain⟨b,o,rfl,hb,_⟩:=hc 0 (by omega)
  refine .inr ⟨b,o,cap,rfl,by omega,hl,hm,hb,fun i hi=>?_⟩;obtain⟨b',o',he,_,Gw⟩:=hc i hi;simp only[Option.some.injEq,Addr.mk.injEq,and_true]at he;obtain⟨rfl,rfl⟩:=he;exact Gw
theorem Au.pos (h:Au c f K w v n) (hn:0<n):∃ b o cap,v=.slice (some ⟨b,o,none⟩) n cap/\n<=cap/\cap<=maxLen/\b<K ∧
   ∀ i,i<n->∀ j,j<c->w.cell? ⟨b,o+(i*c+j),none⟩=some (f i j):=by
 rcases h.cases with⟨_,_,_,h0,_⟩ | ⟨b,o,cap,h1,_,h2⟩
 ·omega
 ·exact⟨b,o,cap,h1,h2⟩
theorem Au.mk_cells {b o cap:Nat} (hl:n<=cap) (hm:cap<=maxLen) (hb:b<K)
  (hc:∀ i,i<n->∀ j,j<c->w.cell? ⟨b,o+(i*c+j),none⟩=some (f i j)):Au c f K w (.slice (some ⟨b,o,none⟩) n cap) n :=
 ⟨_,cap,rfl,hl,hm,(fun h=>nomatch h),fun i hi=>⟨b,o,rfl,hb,hc i hi⟩⟩
theorem Au.nil (a:Option Addr) (cap:Nat) (hm:cap<=maxLen) (hz:a=none->cap=0):Au c f K w (.slice a 0 cap) 0 :=
 ⟨a,cap,rfl,Nat.zero_le _,hm,hz,fun i hi=>absurd hi (by simp)⟩
theorem Au.below (h:Au c f K w v n) (hb:Below B w w') (hB:K<=B) (hK:K<=K'):Au c f K' w' v n:=by
 obtain⟨a,cap,rfl,hl,hm,hz,hc⟩:=h;refine⟨a,cap,rfl,hl,hm,hz,fun i hi=>?_⟩;obtain⟨b,o,rfl,Cj,Gw⟩:=hc i hi;exact⟨b,o,rfl,by omega,fun j hj=>(hb.cell (p:=⟨b,o+(i*c+j),none⟩) (by simp;omega)).trans (Gw j hj)⟩
theorem Au.drewN (h:Au c f K w v n) (k:Nat):Au c f K (w.drewN k) v n:=h
theorem Au.drew (h:Au c f K w v n):Au c f K w.drew v n:=h
theorem Au.congr (h:Au c f K w v n) (hg:∀ i,i<n->∀ j,j<c->f i j=g i j):Au c g K w v n:=by
 obtain⟨a,cap,rfl,hl,hm,hz,hc⟩:=h;refine⟨a,cap,rfl,hl,hm,hz,fun i hi=>?_⟩;obtain⟨b,o,rfl,Cj,Gw⟩:=hc i hi;exact⟨b,o,rfl,Cj,fun j hj=>by rw[Gw j hj,hg i hi j hj]⟩
theorem Au.form (h:Au c f K w v n):∃ a cap,v=.slice a n cap/\n<=cap/\cap<=maxLen:=by
 obtain⟨a,cap,rfl,hl,hm,_⟩:=h;exact⟨a,cap,rfl,hl,hm⟩
end
def Ee (K:Nat) (w:World) (v:Value) (l:List Nat):Prop:=Au 1 (fun i _=>Z (l[i]?.getD 0)) K w v l.length
theorem Ee.below {K K' B:Nat} {w w':World} {v:Value} {l:List Nat} (h:Ee K w v l) (hb:Below B w w') (hB:K<=B) (hK:K<=K'):Ee K' w' v l:=Au.below h hb hB hK
theorem Ee.pos {K:Nat} {w:World} {v:Value} {l:List Nat} (h:Ee K w v l) (hn:0<l.length):∃ b o cap,v=.slice (some ⟨b,o,none⟩) l.length cap/\l.length<=cap/\cap<=maxLen/\b<K ∧
  ∀ i,i<l.length->w.cell? ⟨b,o+i,none⟩=some (Z (l[i]?.getD 0)):=by
 obtain⟨b,o,cap,h1,h2,h3,h4,h5⟩:=Au.pos h hn;exact⟨b,o,cap,h1,h2,h3,h4,fun i hi=>by simpa using h5 i hi 0 (by omega)⟩
theorem Ee.form {K:Nat} {w:World} {v:Value} {l:List Nat} (h:Ee K w v l):∃ a cap,v=.slice a l.length cap/\l.length<=cap/\cap<=maxLen:=Au.form h
structure Sl where
 a:Option Addr
 n:Nat
 m:Nat
abbrev Sl.val (s:Sl):Value:=.slice s.a s.n s.m
structure Xv where
 op:Int
 nm:Str
 kd:Int
 b3:Bool
 s4:Sl
 b5:Bool
 s6:Sl
 i7:Int
 s8:Sl
def Xv.cell (x:Xv):Nat->Value
 | 0=>.int .u8 x.op
 | 1=>S x.nm
 | 2=>.int .u8 x.kd
 | 3=>.bool x.b3
 | 4=>x.s4.val
 | 5=>.bool x.b5
 | 6=>x.s6.val
 | 7=>.int .i64 x.i7
 | _=>x.s8.val
abbrev Xv.cells (x:Xv):Array Value:=#[.int .u8 x.op,S x.nm,.int .u8 x.kd,.bool x.b3,.slice x.s4.a x.s4.n x.s4.m,.bool x.b5,.slice x.s6.a x.s6.n x.s6.m,.int .i64 x.i7,.slice x.s8.a x.s8.n x.s8.m]
abbrev Xv.agg (x:Xv):Value:=.agg x.cells
structure Cv where
 nm:Str
 lb:Str
 fr:Int
 to:Int
 kn:Int
 off:Bool
 wh:Xv
 th:Xv
def Cv.cell (x:Cv):Nat->Value
 | 0=>S x.nm
 | 1=>S x.lb
 | 2=>.int .i64 x.fr
 | 3=>.int .i64 x.to
 | 4=>.int .i64 x.kn
 | 5=>.bool x.off
 | 6=>x.wh.cell 0
 | 7=>x.wh.cell 1
 | 8=>x.wh.cell 2
 | 9=>x.wh.cell 3
 | 10=>x.wh.cell 4
 | 11=>x.wh.cell 5
 | 12=>x.wh.cell 6
 | 13=>x.wh.cell 7
 | 14=>x.wh.cell 8
 | 15=>x.th.cell 0
 | 16=>x.th.cell 1
 | 17=>x.th.cell 2
 | 18=>x.th.cell 3
 | 19=>x.th.cell 4
 | 20=>x.th.cell 5
 | 21=>x.th.cell 6
 | 22=>x.th.cell 7
 | _=>x.th.cell 8
def Cv.cl (x:Cv):List Value:=(List.range 24).map x.cell
def Ex.parts (e:Ex):Nat:=e.pre.length
instance:Inhabited Ex:=⟨.mk 0 [] []⟩
instance:Inhabited Cl:=⟨⟨[],default,default⟩⟩
theorem N3 {g:Nat->Xv} {w:World} {b o k n:Nat} (hc:∀ i,i<n->∀ j,j<9->w.cell? ⟨b,o+(i*9+j),none⟩=some ((g i).cell j)) (hk:k<n) :
  w.cell? ⟨b,o+k*9,none⟩=some (.int .u8 (g k).op)/\w.cell? ⟨b,o+k*9+1,none⟩=some (S (g k).nm)/\w.cell? ⟨b,o+k*9+2,none⟩=some (.int .u8 (g k).kd) ∧
  w.cell? ⟨b,o+k*9+3,none⟩=some (.bool (g k).b3)/\w.cell? ⟨b,o+k*9+4,none⟩=some (g k).s4.val/\w.cell? ⟨b,o+k*9+5,none⟩=some (.bool (g k).b5) ∧
  w.cell? ⟨b,o+k*9+6,none⟩=some (g k).s6.val/\w.cell? ⟨b,o+k*9+7,none⟩=some (.int .i64 (g k).i7)/\w.cell? ⟨b,o+k*9+8,none⟩=some (g k).s8.val:=by
 have h:=hc k hk;exact⟨h 0 (by omega),h 1 (by omega),h 2 (by omega),h 3 (by omega),h 4 (by omega),h 5 (by omega),h 6 (by omega),h 7 (by omega),h 8 (by omega)⟩
theorem Km {f:Nat->Nat->Value} {B b o n c:Nat} {w w':World} (hb:Below B w w') (hB:b<B) (hc:∀ i,i<n->∀ j,j<c->w.cell? ⟨b,o+(i*c+j),none⟩=some (f i j)) :
  ∀ i,i<n->∀ j,j<c->w'.cell? ⟨b,o+(i*c+j),none⟩=some (f i j):=fun i hi j hj=>(hb.cell (p:=⟨b,o+(i*c+j),none⟩) hB).trans (hc i hi j hj)
def Dt (base:Nat) (w:World) (v:Value) (l:List Nat):Prop:=w.ownsRow base 3 1 v l.length (l.map Z)
theorem Or {w:World} {base e size n:Nat} {v:Value} {xs:List Value} (h:w.ownsRow base e size v n xs) {r:Nat} (hr:v.ownBlock=some r):base<=r/\∃ o,w.heap[r]?=some o/\o.isCells=true:=by
 rcases h.2 with⟨rfl,_⟩ | ⟨g,cap,cur,rfl,hb,hg,_⟩
 ·simp[Value.ownBlock]at hr
 ·simp[Value.ownBlock]at hr;subst hr;exact⟨hb,_,hg,rfl⟩
theorem qy5 {w w':World} {base e size n B:Nat} {v:Value} {xs:List Value} (h:w.ownsRow base e size v n xs) (hb:Below B w w') (hB:w.heap.size<=B):w'.ownsRow base e size v n xs:=by
 refine⟨h.1,?_⟩
 rcases h.2 with hn | ⟨g,cap,cur,rfl,N0,hg,rest⟩
 ·exact .inl hn
 ·have := (Array.getElem?_eq_some_iff.1 hg).1
  exact .inr ⟨g,cap,cur,rfl,N0,(hb.block g (by omega)).trans hg,rest⟩
theorem zuj {w w':World} {base e z n:Nat} {v:Value} {xs:List Value} (h:w.ownsRow base e z v n xs) (hk:∀ g,v.ownBlock=some g->w'.heap[g]?=w.heap[g]?):w'.ownsRow base e z v n xs:=by
 refine⟨h.1,?_⟩
 rcases h.2 with hn | ⟨g,cap,cur,rfl,N0,hg,rest⟩
 ·exact .inl hn
 ·exact .inr ⟨g,cap,cur,rfl,N0,(hk g rfl).trans hg,rest⟩
theorem qv5 {w:World} {base base' e size n:Nat} {v:Value} {xs:List Value} (h:w.ownsRow base e size v n xs) (hb:base'<=base):w.ownsRow base' e size v n xs:=by
 refine⟨h.1,?_⟩
 rcases h.2 with hn | ⟨g,cap,cur,rfl,N0,rest⟩
 ·exact .inl hn
 ·exact .inr ⟨g,cap,cur,rfl,by omega,rest⟩
theorem cU {w:World} {base e size n:Nat} {v:Value} {xs:List Value} (h:w.ownsRow base e size v n xs) {r:Nat} (hr:v.ownBlock=some r):r<w.heap.size:=by
 obtain⟨o,ho,_⟩:=(Or h hr).2;exact(Array.getElem?_eq_some_iff.1 ho).1
theorem qye {w:World} {base e n:Nat} {v:Value} {xs:List Value} (h:w.ownsRow base e 1 v n xs) (hx:xs.length=n):Au 1 (fun i _=>xs[i]?.getD undef) w.heap.size w v n:=by
 rcases h.2 with⟨rfl,h0⟩ | ⟨g,cap,cur,rfl,hb,hg,hn,hm,hs,ht⟩
 ·subst h0
  exact Au.nil none 0 (by simp[maxLen]) (fun _=>rfl)
 ·refine Au.mk_cells hn hm (Array.getElem?_eq_some_iff.1 hg).1 fun i hi j hj=>?_
  obtain rfl:j=0:=by omega
  have := World.ownsRow.cells h (g:=g) rfl i (xs[i]?.getD undef) (by rw[Ac (by omega)];rfl);rw[Addr.add]at this
  by_cases h0:i=0
  ·subst h0;simpa using this
  ·simpa [h0] using this
theorem Dt.nats {base:Nat} {w:World} {v:Value} {l:List Nat} (h:Dt base w v l):Ee w.heap.size w v l :=
 (qye h (by simp)).congr fun i hi j _=>by simp[hi]
theorem Dt.nil (base:Nat) (w:World):Dt base w (.slice none 0 0) []:=World.ownsRow_nil w base 3 1
theorem Dt.old {base B:Nat} {w w':World} {v:Value} {l:List Nat} (h:Dt base w v l) (hb:Below B w w') (hB:w.heap.size<=B):Dt base w' v l:=qy5 h hb hB
theorem Dt.kept {base:Nat} {w w':World} {v:Value} {l:List Nat} {row:Option Nat} (h:Dt base w v l) (hg:w.grownBy w' row) (At:v.ownBlock=none\/v.ownBlock≠row):Dt base w' v l:=World.ownsRow.kept h hg At
theorem Dt.mono {base base':Nat} {w:World} {v:Value} {l:List Nat} (h:Dt base w v l) (hb:base'<=base):Dt base' w v l:=qv5 h hb
theorem Tryz.infoI:(Tryz.prog.info? 3).map (fun i=>(i.zero,i.size,i.bytes))=some (some (.int .i64 0),1,8):=by kernel_rfl
theorem pK {w:World} {base e size n:Nat} {v:Value} {xs:List Value} (h:w.ownsRow base e size v n xs):∃ a c,v=.slice a n c/\n<=c/\c<=maxLen:=by
 rcases h.2 with⟨rfl,h0⟩ | ⟨g,cap,cur,rfl,_,_,h1,h2,_⟩
 ·exact⟨none,0,by rw[h0],by omega,by simp[maxLen]⟩
 ·exact⟨_,cap,rfl,h1,h2⟩
theorem Dt.form {base:Nat} {w:World} {v:Value} {l:List Nat} (h:Dt base w v l):∃ a c,v=.slice a l.length c/\l.length<=c/\c<=maxLen:=pK h
theorem xJ {w:World} {ops:Array Oper} {rest:List Oper} {o:Oper} {a:Act} {Q:Exit->Act->World->Prop} (Gy:o.guard=none) (s x:Operand)
  (ho:o.op=.call { callee:=.builtin .append,args:=#[s,x],argTypes:=#[34,34] })
  {base:Nat} {v:Value} {zs:List Nat} {B c:Nat} {z:Nat} (hs:a.eval s=v) (hx:a.eval x=.slice (some ⟨B,0,none⟩) 1 c) (Av:Dt base w v zs) (hb:w.cell? ⟨B,0,none⟩=some (Z z))
  (qY:zs.length+1<=2^40) (Uz:base<=w.heap.size)
  (h:∀ g cap w',Dt base w' (.slice (some ⟨g,0,none⟩) (zs.length+1) cap) (zs++[z])->w.grownBy w' v.ownBlock->(v.ownBlock=some g\/g=w.heap.size)->wpList Tryz.prog ops Q rest (a.put o.dst (.slice (some ⟨g,0,none⟩) (zs.length+1) cap)) w'):wpList Tryz.prog ops Q (o::rest) a w:=by
 obtain⟨i0,hi,Cz,Gb,Ft⟩:=info_parts Tryz.infoI
 refine wpList_append_lies w Gy s x 34 ho base 3 i0 _ 1 8 Tryz.underlying34 hi Cz Gb Ft rfl (by decide) v zs.length (zs.map Z) hs Av ⟨B,0,none⟩ 1 c [Z z] hx rfl
  (fun j u hj=>by
   match j,hj with
   | 0,hj =>
    simp only[List.getElem?_cons_zero,Option.some.injEq]at hj;subst hj
    simpa [Addr.add] using hb)
  (by simp[Value.oneCell']) (by decide) (by simp[maxLen];omega) (by omega) Uz _ rfl fun g cap w' h1 h2 h3 h4=>h g cap w' ?_ h2 h3
 unfold Dt;rw[List.length_append,List.map_append];exact h1
def Blk (w:World) (b:Nat) (cs:Array Value) (t:TypeId):Prop:=w.heap[b]?=some (.cells cs t (0,0))
theorem Blk.new (w:World) (cs:Array Value) (t:TypeId):Blk (w.alloc (.cells cs t)) w.heap.size cs t:=World.alloc_heap_new w _
theorem Blk.lt {w:World} {b t:Nat} {cs:Array Value} (h:Blk w b cs t):b<w.heap.size:=(Array.getElem?_eq_some_iff.1 h).1
theorem Blk.alloc {w:World} {b t:Nat} {cs:Array Value} (h:Blk w b cs t) (o:Obj):Blk (w.alloc o) b cs t:=(Below.heap_alloc _ _ _ h.lt).trans h
theorem Blk.below {w w':World} {B b t:Nat} {cs:Array Value} (h:Blk w b cs t) (hb:Below B w w') (Aj:b<B):Blk w' b cs t:=(hb.block b Aj).trans h
theorem Blk.kept {w w':World} {b t:Nat} {cs:Array Value} {row:Option Nat} (h:Blk w b cs t) (hg:w.grownBy w' row) (At:some b≠row):Blk w' b cs t:=(hg.block b h.lt At).trans h
theorem Blk.set {w:World} {b t i:Nat} {cs:Array Value} (h:Blk w b cs t) (x:Value):Blk (w.setCell ⟨b,i,none⟩ x) b (cs.setIfInBounds i x) t:=by
 unfold Blk at *;simp[World.setCell,Array.getElem?_modify,h]
theorem Blk.other {w:World} {b b' t i:Nat} {cs:Array Value} (h:Blk w b cs t) (At:b≠b') (x:Value):Blk (w.setCell ⟨b',i,none⟩ x) b cs t:=(Below.heap_setCell _ _ _ _ (by simpa using At)).trans h
theorem Blk.at {w:World} {b t i:Nat} {cs:Array Value} {x:Value} (h:Blk w b cs t) (hi:cs[i]?=some x):w.cell? ⟨b,i,none⟩=some x:=by
 unfold Blk at h;simp[World.cell?,h,hi]
theorem Blk.free {w:World} {b t:Nat} {cs:Array Value} (h:Blk w b cs t) (i:Nat):w.frozen? ⟨b,i,none⟩=false:=by
 unfold Blk at h;simp[World.frozen?,h]
theorem Blk.one {w:World} {b t:Nat} {x:Value} (h:Blk w b #[x] t):w.cell? ⟨b,0,none⟩=some x/\w.frozen? ⟨b,0,none⟩=false:=⟨h.at rfl,h.free 0⟩
theorem Blk.two {w:World} {b t:Nat} {x y:Value} (h:Blk w b #[x,y] t):w.cell? ⟨b,0,none⟩=some x/\w.cell? ⟨b,1,none⟩=some y:=⟨h.at rfl,h.at rfl⟩
theorem Blk.four {w:World} {b t:Nat} {x y z u:Value} (h:Blk w b #[x,y,z,u] t):w.cell? ⟨b,0,none⟩=some x/\w.cell? ⟨b,1,none⟩=some y/\w.cell? ⟨b,2,none⟩=some z/\w.cell? ⟨b,3,none⟩=some u:=⟨h.at rfl,h.at rfl,h.at rfl,h.at rfl⟩
theorem Blk.nine {w:World} {b t:Nat} {x0 x1 x2 x3 x4 x5 x6 x7 x8:Value} (h:Blk w b #[x0,x1,x2,x3,x4,x5,x6,x7,x8] t):w.cell? ⟨b,0,none⟩=some x0/\w.cell? ⟨b,1,none⟩=some x1/\w.cell? ⟨b,2,none⟩=some x2 ∧
  w.cell? ⟨b,3,none⟩=some x3/\w.cell? ⟨b,4,none⟩=some x4/\w.cell? ⟨b,5,none⟩=some x5/\w.cell? ⟨b,6,none⟩=some x6/\w.cell? ⟨b,7,none⟩=some x7/\w.cell? ⟨b,8,none⟩=some x8 :=
 ⟨h.at rfl,h.at rfl,h.at rfl,h.at rfl,h.at rfl,h.at rfl,h.at rfl,h.at rfl,h.at rfl⟩
theorem Fm (w:World) (R i:Nat) (x:Value):w.grownBy (w.setCell ⟨R,i,none⟩ x) (some R) :=
 ⟨rfl,rfl,rfl,by simp[World.setCell],fun k _ hk=>Below.heap_setCell _ _ _ _ (fun e=>hk (by simp at e;rw[e]))⟩
theorem Gn {B:Nat} {a w:World} (h:Below B a w) (n:Nat):Below B a (w.drewN n):=h.trans ⟨rfl,rfl,rfl,Ab _,fun _ _=>rfl⟩
theorem Sq {B:Nat} {W W':World} {row:Option Nat} (hg:W.grownBy W' row) (hr:∀ k,row=some k->B<=k) (hB:B<=W.heap.size):Below B W W':=(Below.refl B W).grown hg hB hr
open Go.RowKit Go.ChangeShapes Go.WideShapes Go.ChangeAt Go.Deep
theorem zqj {w:World} {a:Addr} {v:Value} (h:w.cell? a=some v):a.block<w.heap.size:=World.block_lt_of_cell? w _ h
section
variable {H:Type} {enc:TypeId × Value->H} {W:World}
theorem zlg {fuel c:Nat} {t e:TypeId} {v:Value} {x:DataW H × List MemPlace} (ht:Tryz.prog.underlying t=some (.slice e)) (hC:Tryz.prog.cellsOf e=c) (cD:0<c) (h:DataW.trod enc Tryz.prog W 0 (fun _=>true) true fuel t [v]=some x) :
  ∃ a len cap,v=.slice a len cap/\len<=cap/\cap<=maxLen/\(a=none->cap=0)/\(0<len->∃ b o n,fuel=n+1/\a=some ⟨b,o,none⟩/\b<W.heap.size ∧
   ∀ i,i<len->∃ cs' y,cs'.length=c/\DataW.trod enc Tryz.prog W 0 (fun _=>true) true n e cs'=some y/\∀ j u,cs'[j]?=some u->W.cell? ⟨b,o+(i*c+j),none⟩=some u):=by
 rcases DataW.trod_slice ht h with⟨De,_⟩ | ⟨a,len,cap,elems,rest,n,hf,De,_,_,hl,hm,Cc,mA,_,_⟩
 ·simp only[List.cons.injEq,and_true]at De
  subst De;exact⟨none,0,0,rfl,Ab _,Nat.zero_le _,fun _=>rfl,fun h=>absurd h (by simp)⟩
 ·simp only[List.cons.injEq,and_true]at De
  subst De;refine⟨some a,len,cap,rfl,hl,hm,(fun h=>nomatch h),fun hp=>?_⟩;rw[hC]at mA
  have key:∀ i,i<len->∃ cs' y,cs'.length=c/\DataW.trod enc Tryz.prog W 0 (fun _=>true) true n e cs'=some y/\∀ j,j<c->W.cell? ((a.add (i*c)).add j)=cs'[j]? := by
   intro i hi
   have h1:=mA i hi;rw[Ac (by omega)]at h1;obtain⟨cs',h2,h3⟩:=Option.bind_eq_some_iff.1 h1;obtain⟨_,Ba,Bq⟩:=World.cells?_some h2;exact⟨cs',_,Ba,h3,Bq⟩
  obtain⟨b,o,sp⟩:=a
  have Aj:∃ u,W.cell? ((Addr.add ⟨b,o,sp⟩ (0*c)).add 0)=some u:=by
   obtain⟨cs',y,h1,_,h3⟩:=key 0 hp;exact⟨cs'[0]'(by omega),by rw[h3 0 cD,Ac]⟩
  obtain⟨u,hu⟩:=Aj
  have o9:sp=none:=by
   have := World.cell?_spot hu
   simpa [Addr.add] using this
  subst o9
  have Vu:∀ i,(Addr.add ⟨b,o,none⟩ i)=⟨b,o+i,none⟩:=by
   intro i
   rw[Addr.add]
   by_cases h0:i=0
   ·subst h0;simp
   ·simp[h0]
  refine⟨b,o,n,hf,rfl,?_,fun i hi=>?_⟩
  ·rw[add_add,Vu]at hu
   exact zqj hu
  ·obtain⟨cs',y,h1,h2,h3⟩:=key i hi
   refine⟨cs',y,h1,h2,fun j u hj=>?_⟩;have := h3 j (by have := (List.getElem?_eq_some_iff.1 hj).1;omega);rw[add_add,Vu,hj]at this;exact this
instance:Inhabited Xv:=⟨⟨0,[],0,false,⟨none,0,0⟩,false,⟨none,0,0⟩,0,⟨none,0,0⟩⟩⟩
instance:Inhabited Cv:=⟨⟨[],[],0,0,0,false,default,default⟩⟩
end
structure Gc where
 nm:Str
 lb:Str
 fr:Int
 to:Int
 kn:Int
 off:Bool
instance:Inhabited Gc:=⟨⟨[],[],0,0,0,false⟩⟩
def gAt (cs:List Gc) (i:Nat):Gc:=cs[i]?.getD default
def later (cs:List Gc) (i k:Nat):Bool:=decide ((gAt cs i).kn<(gAt cs k).kn) || ((gAt cs k).kn==(gAt cs i).kn && decide (i<k))
section
variable {cs:List Gc} {nm:Str} {d kn:Int}
end
open Go.Maps (Keyed)
def tok (v:Value):Option (DataW Value × List MemPlace):=some (.held v,[])
def Ek (w:World) (k:TypeId) (b m:Nat) (f:Lit->Option Value):Prop :=
 ∃ D:DataW Value,w.ownsMap Tryz.prog k tok b m D/\Maps.size D=m/\(∀ kl,Maps.has D kl=(f kl).isSome)/\∀ kl z,D.atKey kl (.held z)=.held ((f kl).getD z)
theorem zqs {P:Program} {k:TypeId} {R:Value->Option (DataW Value × List MemPlace)} {w:World} {b n:Nat} {D:DataW Value} (h:w.ownsMap P k R b n D):w.ownsMap P k R b (Maps.size D) D:=by
 obtain⟨es,clock,hb,F,hs,rfl⟩:=h;exact⟨es,clock,hb,F,by simp[Maps.size,length_sorted],rfl⟩
def upd (f:Lit->Option Value) (kl:Lit) (v:Value):Lit->Option Value:=fun x=>if x.sameKey kl then some v else f x
section
variable {w w':World} {k:TypeId} {b m B:Nat} {f:Lit->Option Value}
theorem Ek.made (w:World) (k:TypeId):Ek (w.alloc (.map #[] 0)) k w.heap.size 0 (fun _=>none) :=
 ⟨.map [],World.ownsMap_made w Tryz.prog k tok,rfl,fun kl=>rfl,fun kl z=>rfl⟩
theorem Ek.lt (h:Ek w k b m f):b<w.heap.size:=by obtain⟨D,h1,_⟩:=h;exact h1.lt
theorem Ek.kept {row:Option Nat} (h:Ek w k b m f) (hg:w.grownBy w' row) (At:some b≠row):Ek w' k b m f:=by
 obtain⟨D,h1,h2⟩:=h;exact⟨D,h1.kept hg At,h2⟩
theorem Ek.below (h:Ek w k b m f) (hb:Below B w w') (Aj:b<B):Ek w' k b m f:=by
 obtain⟨D,⟨es,clock,hh,rest⟩,h2⟩:=h;exact⟨D,⟨es,clock,(hb.block b Aj).trans hh,rest⟩,h2⟩
theorem Ek.alloc (h:Ek w k b m f) (o:Obj):Ek (w.alloc o) k b m f:=h.kept (World.grownBy_alloc w o none) (by simp)
theorem Ek.drewN (h:Ek w k b m f) (n:Nat):Ek (w.drewN n) k b m f:=h
theorem Ek.congr {f':Lit->Option Value} (h:Ek w k b m f) (hf:∀ x,f x=f' x):Ek w k b m f':=by
 have:f=f':=funext hf
 exact this ▸ h
theorem Ek.look {t e:TypeId} (h:Ek w k b m f) (K:Keyed Tryz.prog k) (ht:Tryz.prog.underlying t=some (.map k e)) {z:Value} (hz:(zeroValue e).run Tryz.prog w=.ok z w) {key:Value} {kl:Lit} (Kb:keyOf Tryz.prog k key=some kl) :
  (Instr.lookup t (.map (some b)) key false).run Tryz.prog w=.ok ((f kl).getD z) w:=by
 obtain⟨D,h1,h2,h3,h4⟩:=h;obtain⟨v,ps,hr,hv⟩:=h1.lookup K ht hz (zd:=.held z) (zp:=[]) rfl Kb;rw[h4]at hv;simp only[tok,Option.some.injEq,Prod.mk.injEq,DataW.held.injEq]at hv;rw[hr,hv.1]
theorem Ek.lookOk {t e:TypeId} (h:Ek w k b m f) (K:Keyed Tryz.prog k) (ht:Tryz.prog.underlying t=some (.map k e)) {z:Value} (hz:(zeroValue e).run Tryz.prog w=.ok z w) {key:Value} {kl:Lit} (Kb:keyOf Tryz.prog k key=some kl) :
  (Instr.lookup t (.map (some b)) key true).run Tryz.prog w=.ok (.tuple #[(f kl).getD z,.bool (f kl).isSome]) w:=by
 obtain⟨D,h1,h2,h3,h4⟩:=h;obtain⟨v,ps,hr,hv⟩:=h1.look_ok K ht hz (zd:=.held z) (zp:=[]) rfl Kb;rw[h4]at hv;simp only[tok,Option.some.injEq,Prod.mk.injEq,DataW.held.injEq]at hv;rw[hr,hv.1,h3]
theorem Ek.put {t e:TypeId} (h:Ek w k b m f) (K:Keyed Tryz.prog k) (ht:Tryz.prog.underlying t=some (.map k e)) (hm:m<maxLen) {key:Value} {kl:Lit} (v:Value) (Kb:keyOf Tryz.prog k key=some kl) :
  ∃ w',(Instr.mapUpdate t (.map (some b)) key v).run Tryz.prog w=.ok () w'/\Ek w' k b (if(f kl).isSome then m else m+1) (upd f kl v)/\w.grownBy w' (some b):=by
 obtain⟨D,h1,h2,h3,h4⟩:=h;obtain⟨w',hr,ho,hg⟩:=h1.update K ht hm Kb (d:=.held v) (ps:=[]) rfl;have hk:=K.key Kb
 have Dn:Maps.size (D.put kl (.held v))=if(f kl).isSome then m else m+1:=by
  rw[Maps.size_put (h1.tidy K),h3,h2]
 refine⟨w',hr,⟨D.put kl (.held v),by rw[<- Dn];exact zqs ho,Dn,fun x=>?_,fun x z=>?_⟩,hg⟩
 ·unfold upd
  by_cases hx:x=kl
  ·subst hx;rw[Maps.has_put_same h1.isMap hk,WideAt.sameKey_self hk];rfl
  ·rw[Maps.has_put_other hx,h3,if_neg (by rw[WideAt.sameKey_iff hk];exact hx)]
 ·unfold upd
  by_cases hx:x=kl
  ·subst hx;rw[Maps.atKey_put_same h1.isMap hk,WideAt.sameKey_self hk];rfl
  ·rw[Maps.atKey_put_other hx,h4,if_neg (by rw[WideAt.sameKey_iff hk];exact hx)]
theorem Ek.len {t e:TypeId} (h:Ek w k b m f) (ht:Tryz.prog.underlying t=some (.map k e)) (ty:TypeId):(Builtin.len_ #[t] ty #[.map (some b)]).run Tryz.prog w=.ok (.int .i64 m) w:=by
 obtain⟨D,h1,h2,h3,h4⟩:=h;rw[h1.len ht ty,h2]
end
section
variable (w:World) {ops:Array Oper} {rest:List Oper} {o:Oper} {a:Act} {Q:Exit->Act->World->Prop} {k:TypeId} {b m:Nat} {f:Lit->Option Value}
theorem nO (hg:o.guard=none) (mo x:Operand) (t:TypeId) (Dc:o.op=Op.lookup t mo x true) (e:TypeId) (K:Keyed Tryz.prog k) (ht:Tryz.prog.underlying t=some (.map k e)) {z:Value} (hz:(zeroValue e).run Tryz.prog w=.ok z w)
  (hm:a.eval mo=.map (some b)) (h:Ek w k b m f) (key:Value) (kl:Lit) (hx:a.eval x=key) (Kb:keyOf Tryz.prog k key=some kl) (v:Value) (ok:Bool) (hv:(f kl).getD z=v) (Ay:(f kl).isSome=ok)
  (hK:wpList Tryz.prog ops Q rest (a.put o.dst (.tuple #[v,.bool ok])) w):wpList Tryz.prog ops Q (o::rest) a w:=by
 refine wpList_plain hg fun K' Qa=>?_
 have hr:=h.lookOk K ht hz Kb;rw[hv,Ay]at hr;unfold Oper.wp;simp[execOp,Dc,hm,hx,hr,Result.andThen];exact Qa _ _ hK
theorem qji (hg:o.guard=none) (mo x y:Operand) (t:TypeId) (Dc:o.op=Op.mapUpdate t mo x y) (e:TypeId) (K:Keyed Tryz.prog k) (ht:Tryz.prog.underlying t=some (.map k e))
  (hm:a.eval mo=.map (some b)) (h:Ek w k b m f) (To:m<maxLen) (key:Value) (kl:Lit) (hx:a.eval x=key) (Kb:keyOf Tryz.prog k key=some kl) (v:Value) (hv:a.eval y=v)
  (hK:∀ w',Ek w' k b (if(f kl).isSome then m else m+1) (upd f kl v)->w.grownBy w' (some b)->wpList Tryz.prog ops Q rest (a.put o.dst undef) w'):wpList Tryz.prog ops Q (o::rest) a w:=by
 refine wpList_plain hg fun K' Qa=>?_
 obtain⟨w',hr,h1,h2⟩:=h.put K ht To v Kb;unfold Oper.wp;simp[execOp,Dc,hm,hx,hv,hr,Result.andThen];exact Qa _ _ (hK w' h1 h2)
end
theorem lR:Keyed Tryz.prog 9:=Maps.string_keyed Tryz.underlying9
theorem qle:Keyed Tryz.prog 3:=Maps.int_keyed Tryz.underlying3
def fS (g:Str->Option Value):Lit->Option Value
 | .string s=>g s
 | _=>none
def fN (g:Nat->Option Value):Lit->Option Value
 | .int .i64 n=>if 0<=n/\n<=2^62 then g n.toNat else none
 | _=>none
theorem lY (s:Str) (h:s.length<=maxLen):keyOf Tryz.prog 9 (S s)=some (.string s):=by
 unfold keyOf mapKey;simp[Tryz.underlying9,ByteArray.size,h]
theorem qgx (n:Nat) (h:n<=2^62):keyOf Tryz.prog 3 (Z n)=some (.int .i64 n) :=
 Maps.keyOf_int_mk Tryz.underlying3 (by simp[Lit.wf,IntKind.min,IntKind.max,IntKind.signed,IntKind.bits];omega)
def C4 {α:Type} [BEq α] (g:α->Option Value) (s:α) (v:Value):α->Option Value:=fun x=>if x==s then some v else g x
theorem qv6 (g:Str->Option Value) (s:Str) (v:Value):upd (fS g) (.string s) v=fS (C4 g s v):=by
 funext x
 cases x<;>simp[upd,fS,C4,Lit.sameKey]
theorem zwm (g:Nat->Option Value) (n:Nat) (hn:n<=2^62) (v:Value):upd (fN g) (.int .i64 n) v=fN (C4 g n v):=by
 funext x
 cases x with
 | int q x =>
  by_cases hq:q=.i64
  ·subst hq
   by_cases hx:0<=x/\x<=2^62
   ·obtain⟨y,rfl⟩:∃ y:Nat,x=y:=⟨x.toNat,by omega⟩
    by_cases hy:y=n
    ·subst hy;simp[upd,fN,C4,Lit.sameKey];omega
    ·have:¬ (y:Int)=(n:Int):=by omega
     simp[upd,fN,C4,Lit.sameKey,hy,this]
   ·have:¬ x=(n:Int):=by omega
    have D8:¬ (0<=x/\x<=4611686018427387904):=by omega
    simp only[upd,fN,Lit.sameKey];simp[this,D8]
  ·cases q<;>first | exact absurd rfl hq | simp[upd,fN,Lit.sameKey]
 | _=>simp[upd,fN,Lit.sameKey]
theorem qud:(Tryz.prog.info? 43).map (fun i=>i.size)=some 9:=by kernel_rfl
theorem Xc (w:World) (n m:Nat):(w.drewN n).drewN m=w.drewN (n+m):=by simp[World.drewN,Nat.add_assoc]
theorem zwp {l m:List Nat} (h:l.length≠m.length):(l==m)=false:=beq_eq_false_iff_ne.2 fun e=>h (by rw[e])
theorem zaq {l m:List Nat} {k:Nat} (h:l[k]?.getD 0≠m[k]?.getD 0):(l==m)=false:=beq_eq_false_iff_ne.2 fun e=>h (by rw[e])
theorem qsh {l m:List Nat} (hl:l.length=m.length) (h:∀ i,i<l.length->l[i]?.getD 0=m[i]?.getD 0):(l==m)=true:=by
 rw[beq_iff_eq]
 refine List.ext_getElem hl fun i h1 h2=>?_
 have := h i h1;rwa[Ac h1,Ac h2]at this
theorem qdx (K:Nat) (u v:Value) (l m:List Nat) (w:World) (hu:Ee K w u l) (hv:Ee K w v m) :
  Calls Tryz.prog 19 #[u,v] w fun e w'=>e=.returned (.bool (l==m))/\∃ n,w'=w.drewN n:=by
 obtain⟨ua,ucap,rfl,Ew,Ha⟩:=id hu.form;obtain⟨va,vcap,rfl,Bu,Bs⟩:=id hv.form;unfold maxLen at Bs Ha
 by_cases At:l.length=m.length
 case neg =>
  have HE:=Aa (zwp At)
  have qgf:¬ ((l.length:Int)=(m.length:Int)):=by omega
  go_enter Tryz.func19,Tryz.ntmps19
  go_wp2_with fail
  go_ret
  exact⟨by rw[HE.out];rfl,0,rfl⟩
 case pos =>
 obtain⟨q,hq⟩:=Ae l.length
 have Wi:m.length=q:=by rw[<- At,hq]
 rw[hq]at hu Ew ⊢;rw[Wi]at hv Bu ⊢;have HM:=Aa hq;have HL:=Aa Wi;clear hq Wi At
 have qbp:((q:Int) != (q:Int))=false:=by simp
 go_enter Tryz.func19,Tryz.ntmps19
 go_wp2_with fail
 go_loopw [13] (fun i wr=>∃ k n:Nat,k<=q/\i=.int .i64 k/\wr=w.drewN n/\Hid (∀ i,i<k->l[i]?.getD 0=m[i]?.getD 0)) (fun i _=>q-(intOf i).toNat)
 case atStart=>exact⟨0,0,Nat.zero_le _,rfl,rfl,Aa fun i hi=>absurd hi (Nat.not_lt_zero i)⟩
 case round =>
  obtain⟨k,n,hk,rfl,rfl,Ld⟩:=hrel
  by_cases Aj:k<q
  ·obtain⟨b,o,cap,he,_,_,Cj,hc⟩:=hv.pos (by rw[HL.out];omega)
   simp only[Value.slice.injEq]at he;obtain⟨rfl,_,rfl⟩:=he;have c0:=hc k (by rw[HL.out];exact Aj);obtain⟨b',o',cap',he,_,_,qis,Iz⟩:=hu.pos (by rw[HM.out];omega);simp only[Value.slice.injEq]at he;obtain⟨rfl,_,rfl⟩:=he;have c1:=Iz k (by rw[HM.out];exact Aj);have Rw:Hid (l[k]?.getD 0≠m[k]?.getD 0->(l==m)=false):=Aa zaq
   have Ui:Hid (l[k]?.getD 0=m[k]?.getD 0->∀ i,i<k+1->l[i]?.getD 0=m[i]?.getD 0):=Aa fun he i hi=>by
    by_cases h:i=k
    ·subst h;exact he
    ·exact Ld.out i (by omega)
   obtain⟨x,hx⟩:=Ae (l[k]?.getD 0);obtain⟨y,hy⟩:=Ae (m[k]?.getD 0);rw[hx]at c1 Rw Ui;rw[hy]at c0 Rw Ui;clear hx hy hc Iz
   by_cases Li:x=y
   ·have HE:=Aa (Ui.out Li)
    have Bp:((x:Int) != (y:Int))=false:=by rw[Li];simp
    clear Li
    go_upto_region 6 with fail
    go_quiet (fail)
    go_wp2_with fail
    exact⟨⟨k+1,_,by omega,by go_num,by first | rfl | exact Xc _ _ _,HE⟩,by simp[intOf];omega⟩
   ·have HE:=Aa (Rw.out Li)
    have Bp:((x:Int) != (y:Int))=true:=by simp;omega
    clear Li
    go_upto_region 6 with fail
    go_quiet (fail)
    go_wp2_with fail
    go_ret
    exact⟨by rw[HE.out];rfl,_,by first | rfl | exact Xc _ _ _⟩
  ·obtain rfl:q=k:=by omega
   have HE:Hid ((l==m)=true):=Aa (qsh (by rw[HM.out,HL.out]) (fun i hi=>Ld.out i (by have := HM.out;omega)));go_wp2_with fail
   go_ret
   exact⟨by rw[HE.out];rfl,_,by first | rfl | exact Xc _ _ _⟩
def Wd (q:IntKind) (K:Nat) (w:World) (v:Value) (n:Nat):Prop :=
 (n=0/\∃ a c,v=.slice a 0 c/\c<=maxLen)\/(0<n/\∃ b o c,v=.slice (some ⟨b,o,none⟩) 1 c/\1<=c/\c<=maxLen/\b<K/\w.cell? ⟨b,o,none⟩=some (.int q n))
def Pre (q:IntKind) (K:Nat) (w:World) (v:Value) (n:Nat):Prop :=
 (n=0/\∃ a c,v=.slice a 0 c/\c<=maxLen)\/(∃ b o c,v=.slice (some ⟨b,o,none⟩) 1 c/\1<=c/\c<=maxLen/\b<K/\w.cell? ⟨b,o,none⟩=some (.int q n)) ∨
 (∃ b o c,v=.slice (some ⟨b,o,none⟩) 2 c/\2<=c/\c<=maxLen/\b<K/\w.cell? ⟨b,o,none⟩=some (.int q n)/\w.cell? ⟨b,o+1,none⟩=some (.int q 0))
section
variable {q:IntKind} {K K' B:Nat} {w w':World} {v:Value} {n:Nat}
theorem Wd.below (h:Wd q K w v n) (hb:Below B w w') (hB:K<=B) (hK:K<=K'):Wd q K' w' v n:=by
 rcases h with⟨h0,h1⟩ | ⟨h0,b,o,c,h1,h2,h3,h4,h5⟩
 ·exact .inl ⟨h0,h1⟩
 ·exact .inr ⟨h0,b,o,c,h1,h2,h3,by omega,(hb.cell (p:=⟨b,o,none⟩) (by simp;omega)).trans h5⟩
theorem Wd.pre (h:Wd q K w v n):Pre q K w v n:=by
 rcases h with⟨h0,h1⟩ | ⟨h0,h1⟩
 ·exact .inl ⟨h0,h1⟩
 ·exact .inr (.inl h1)
theorem Wd.form (h:Wd q K w v n):∃ a m c,v=.slice a m c:=by
 rcases h with⟨_,a,c,rfl,_⟩ | ⟨_,b,o,c,rfl,_⟩
 ·exact⟨_,_,_,rfl⟩
 ·exact⟨_,_,_,rfl⟩
end
theorem Tryz.infoU16:(Tryz.prog.info? 132).map (fun i=>(i.zero,i.size,i.bytes))=some (some (.int .u16 0),1,2):=by kernel_rfl
theorem Tryz.infoU32:(Tryz.prog.info? 172).map (fun i=>(i.zero,i.size,i.bytes))=some (some (.int .u32 0),1,4):=by kernel_rfl
theorem Pre.below {q:IntKind} {K K' B:Nat} {w w':World} {v:Value} {n:Nat} (h:Pre q K w v n) (hb:Below B w w') (hB:K<=B) (hK:K<=K'):Pre q K' w' v n:=by
 rcases h with⟨h0,h1⟩ | ⟨b,o,c,rfl,h1,hc,Gl,h5⟩ | ⟨b,o,c,rfl,h1,hc,Gl,h5,h6⟩
 ·exact .inl ⟨h0,h1⟩
 ·exact .inr (.inl ⟨b,o,c,rfl,h1,hc,by omega,(hb.cell (p:=⟨b,o,none⟩) (by simp;omega)).trans h5⟩)
 ·exact .inr (.inr ⟨b,o,c,rfl,h1,hc,by omega,(hb.cell (p:=⟨b,o,none⟩) (by simp;omega)).trans h5,(hb.cell (p:=⟨b,o+1,none⟩) (by simp;omega)).trans h6⟩)
def Bj (L:Nat) (v:Value):Prop:=∀ b o m c,v=.slice (some ⟨b,o,none⟩) m c->L<=b
theorem Bj.nil (L m c:Nat):Bj L (.slice none m c):=fun b o m c e=>by simp at e
theorem Bj.at {L b o m c:Nat} (h:L<=b):Bj L (.slice (some ⟨b,o,none⟩) m c):=fun b' o' m' c' e=>by simp at e;omega
theorem Bj.mono {L L':Nat} {v:Value} (h:Bj L v) (hl:L'<=L):Bj L' v:=fun b o m c e=>Nat.le_trans hl (h b o m c e)
theorem Wd.set {q:IntKind} {K r i L:Nat} {w:World} {v x:Value} {n:Nat} (h:Wd q K w v n) (hn:Bj L v) (hr:r<L):Wd q K (w.setCell ⟨r,i,none⟩ x) v n:=by
 rcases h with⟨h0,h1⟩ | ⟨h0,b,o,c,rfl,h2,h3,h4,h5⟩
 ·exact .inl ⟨h0,h1⟩
 ·have := hn b o 1 c rfl
  exact .inr ⟨h0,b,o,c,rfl,h2,h3,h4,((Fm w r i x).cell h5 (by simp;omega))⟩
theorem Er {B:Nat} {a w:World} (h:Below B a w):Below B a w.drew:=h.trans ⟨rfl,rfl,rfl,Ab _,fun _ _=>rfl⟩
end Go.Proofs.YtlldjmagbjjeoaaGreatDoor
