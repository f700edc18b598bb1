/- Contracts and plain laws, several texts in one (GScale, GOpnV, GFr4, GCopy). No conditions beyond those stated. -/
import Derived.Lib.LazyBuf
import Derived.Test.YtlldjmagbjjeoaaGreatPk18
set_option maxRecDepth 100000
set_option maxHeartbeats 40000000
namespace Go.Proofs.YtlldjmagbjjeoaaGreat
open Go.RowKit
set_option linter.unusedVariables false
structure Sv where
 x : Xv
 kd : Int
 c : Sl
def Sv.cell (s : Sv) : Nat -> Value
 | 0 => s.x.cell 0
 | 1 => s.x.cell 1
 | 2 => s.x.cell 2
 | 3 => s.x.cell 3
 | 4 => s.x.cell 4
 | 5 => s.x.cell 5
 | 6 => s.x.cell 6
 | 7 => s.x.cell 7
 | 8 => s.x.cell 8
 | 9 => .int .u8 s.kd
 | _ => s.c.val
abbrev Sv.cells (s : Sv) : Array Value:=#[.int .u8 s.x.op,S s.x.nm,.int .u8 s.x.kd,.bool s.x.b3,.slice s.x.s4.a s.x.s4.n s.x.s4.m,.bool s.x.b5,.slice s.x.s6.a s.x.s6.n s.x.s6.m,.int .i64 s.x.i7,.slice s.x.s8.a s.x.s8.n s.x.s8.m,.int .u8 s.kd,.slice s.c.a s.c.n s.c.m]
abbrev Sv.agg (s : Sv) : Value:=.agg s.cells
structure ScX (K : Nat) (w : World) (s : Sc) (y : Sv) : Prop where
 e : ExG K w s.e y.x
 kd : y.kd = s.kd
 cuts : CutsX K w y.c.val s.cuts
theorem ScX.below {K K' B : Nat} {w w' : World} {s : Sc} {y : Sv} (h : ScX K w s y) (hb : Below B w w') (hB : K <= B) (hK : K <= K') : ScX K' w' s y:=⟨h.e.below hb hB hK,h.kd,h.cuts.below hb hB hK⟩
def ScsX (K : Nat) (w : World) (v : Value) (l : List Sc) : Prop:=∃ g : Nat -> Sv,RowsV 11 (fun i j => (g i).cell j) K w v l.length /\ ∀ i,i < l.length -> ScX K w (l[i]?.getD default) (g i)
theorem ScsX.below {K K' B : Nat} {w w' : World} {v : Value} {l : List Sc} (h : ScsX K w v l) (hb : Below B w w') (hB : K <= B) (hK : K <= K') : ScsX K' w' v l:=by
 obtain ⟨g,h1,h2⟩:=h
 exact ⟨g,h1.below hb hB hK,fun i hi => (h2 i hi).below hb hB hK⟩
theorem ScsX.form {K : Nat} {w : World} {v : Value} {l : List Sc} (h : ScsX K w v l) : ∃ a cap,v = .slice a l.length cap /\ l.length <= cap /\ cap <= maxLen:=by
 obtain ⟨g,h1,h2⟩:=h; exact h1.form
theorem sc_cells {g : Nat -> Sv} {w : World} {b o k n : Nat} (hc : ∀ i,i < n -> ∀ j,j < 11 -> w.cell? ⟨b,o + (i * 11 + j),none⟩ = some ((g i).cell j)) (hk : k < n) :
  w.cell? ⟨b,o + k * 11,none⟩ = some (.int .u8 (g k).x.op) /\ w.cell? ⟨b,o + k * 11 + 1,none⟩ = some (S (g k).x.nm) /\ w.cell? ⟨b,o + k * 11 + 2,none⟩ = some (.int .u8 (g k).x.kd) ∧
  w.cell? ⟨b,o + k * 11 + 3,none⟩ = some (.bool (g k).x.b3) /\ w.cell? ⟨b,o + k * 11 + 4,none⟩ = some (g k).x.s4.val /\ w.cell? ⟨b,o + k * 11 + 5,none⟩ = some (.bool (g k).x.b5) ∧
  w.cell? ⟨b,o + k * 11 + 6,none⟩ = some (g k).x.s6.val /\ w.cell? ⟨b,o + k * 11 + 7,none⟩ = some (.int .i64 (g k).x.i7) /\ w.cell? ⟨b,o + k * 11 + 8,none⟩ = some (g k).x.s8.val ∧
  w.cell? ⟨b,o + k * 11 + 9,none⟩ = some (.int .u8 (g k).kd) /\ w.cell? ⟨b,o + k * 11 + 10,none⟩ = some (g k).c.val:=by
 have h:=hc k hk
 exact ⟨h 0 (by omega),h 1 (by omega),h 2 (by omega),h 3 (by omega),h 4 (by omega),h 5 (by omega),h 6 (by omega),h 7 (by omega),h 8 (by omega),h 9 (by omega),h 10 (by omega)⟩
theorem Blk.eleven {w : World} {b t : Nat} {x0 x1 x2 x3 x4 x5 x6 x7 x8 x9 x10 : Value} (h : Blk w b #[x0,x1,x2,x3,x4,x5,x6,x7,x8,x9,x10] t) : w.cell? ⟨b,0,none⟩ = some x0 /\ w.cell? ⟨b,1,none⟩ = some x1 /\ w.cell? ⟨b,2,none⟩ = some x2 ∧
  w.cell? ⟨b,3,none⟩ = some x3 /\ w.cell? ⟨b,4,none⟩ = some x4 /\ w.cell? ⟨b,5,none⟩ = some x5 /\ w.cell? ⟨b,6,none⟩ = some x6 /\ w.cell? ⟨b,7,none⟩ = some x7 /\ w.cell? ⟨b,8,none⟩ = some x8 /\ w.cell? ⟨b,9,none⟩ = some x9 /\ w.cell? ⟨b,10,none⟩ = some x10 :=
 ⟨h.at rfl,h.at rfl,h.at rfl,h.at rfl,h.at rfl,h.at rfl,h.at rfl,h.at rfl,h.at rfl,h.at rfl,h.at rfl⟩
theorem belongs_any (K : Nat) (t : Tq) (s : Sc) (x : Tv) (y : Sv) (w : World) (ht : TqX K w t x) (hs : ScX K w s y) (hK : K <= w.heap.size) :
  Calls Tryz.prog 35 #[x.agg,y.agg] w fun e w' => e = .returned (.bool (t.belongs s)) /\ Below w.heap.size w w':=by
 have hbW : Below w.heap.size w ((w.alloc (.cells x.cells 73)).alloc (.cells y.cells 34)):=((Below.refl _ _).alloc (Nat.le_refl _) _).alloc (by simp) _
 have hc:=gsame_any w.heap.size t.sub s.e x.sub y.x _ (ht.sub.below hbW hK hK) (hs.e.below hbW hK hK) (by simp; omega)
 have hr : t.belongs s = (x.kd == y.kd && sameG t.sub s.e):=by unfold Tq.belongs; rw [ht.kd,hs.kd]
 obtain ⟨r,hr1⟩ : ∃ r,t.belongs s = r:=⟨_,rfl⟩
 obtain ⟨r2,hr2⟩ : ∃ r,sameG t.sub s.e = r:=⟨_,rfl⟩
 obtain ⟨c1,hc1⟩ : ∃ c,(x.kd == y.kd) = c:=⟨_,rfl⟩
 rw [hr1,hr2,hc1] at hr
 rw [hr2] at hc
 rw [hr1]
 have HR:=Lib.hid hr
 obtain ⟨vs1,vm1,hv1,_⟩:=ht.cut.n.form
 obtain ⟨vs2,vm2,hv2,_⟩:=ht.cut.d.form
 clear hr hr1 hr2 ht hs
 obtain ⟨⟨xop,xnm,xkd,xb3,⟨x4,x4n,x4m⟩,xb5,⟨x6,x6n,x6m⟩,xi7,⟨x8,x8n,x8m⟩⟩,tk,⟨vk,vb1,vs1,vb2,vs2,vi⟩,top,tsn⟩:=x
 obtain ⟨⟨yop,ynm,ykd,yb3,⟨y4,y4n,y4m⟩,yb5,⟨y6,y6n,y6m⟩,yi7,⟨y8,y8n,y8m⟩⟩,sk,⟨ca,cn,cm⟩⟩:=y
 dsimp only at hc1 hv1 hv2
 subst hv1 hv2
 cases c1 with
 | false =>
  clear hc
  go_enter Tryz.func35,Tryz.ntmps35
  go_wp2_with fail
  go_ret
  exact ⟨by rw [HR.out]; rfl,hbW⟩
 | true =>
  go_enter Tryz.func35,Tryz.ntmps35
  go_wp2_with fail
  refine hc.mono ?_
  rintro e w2 ⟨rfl,hb2⟩
  go_wp2_with fail
  go_ret
  exact ⟨by rw [HR.out]; rfl,hbW.trans (hb2.mono (by simp; omega))⟩
def idxS (l : List Sc) (t : Tq) : Int:=if l.findIdx t.belongs < l.length then (l.findIdx t.belongs : Int) else -1
theorem idxS_at {l : List Sc} {t : Tq} {k : Nat} (hk : k < l.length) (h0 : ∀ i,i < k -> t.belongs (l[i]?.getD default) = false) (h : t.belongs (l[k]?.getD default) = true) : idxS l t = k:=by
 have : l.findIdx t.belongs = k:=by
  rw [List.findIdx_eq hk]
  refine ⟨by rw [List.getElem?_eq_getElem hk] at h; exact h,fun j hj => ?_⟩
  have := h0 j hj
  rwa [List.getElem?_eq_getElem (by omega)] at this
 unfold idxS; rw [this,if_pos hk]
theorem idxS_none {l : List Sc} {t : Tq} (h0 : ∀ i,i < l.length -> t.belongs (l[i]?.getD default) = false) : idxS l t = -1:=by
 have : l.findIdx t.belongs = l.length:=by
  rw [List.findIdx_eq_length]
  intro x hx
  obtain ⟨j,hj,rfl⟩:=List.mem_iff_getElem.1 hx
  have := h0 j hj
  rwa [List.getElem?_eq_getElem hj] at this
 unfold idxS; rw [this,if_neg (Nat.lt_irrefl _)]
theorem idxScale_any (K : Nat) (t : Tq) (x : Tv) (v : Value) (l : List Sc) (w : World) (ht : TqX K w t x) (hv : ScsX K w v l) (hK : K <= w.heap.size) :
  Calls Tryz.prog 34 #[v,.func (.func 35) #[x.agg] #[]] w fun e w' => e = .returned (.int .i64 (idxS l t)) /\ Below w.heap.size w w':=by
 obtain ⟨g,hg,hgs⟩:=hv
 obtain ⟨va,vcap,rfl,hv1,hv2⟩:=id hg.form
 unfold maxLen at hv2
 have HC : Hid (∀ i,i < l.length -> ∀ W,Below w.heap.size w W -> Calls Tryz.prog 35 #[x.agg,(g i).agg] W fun e w' => e = .returned (.bool (t.belongs (l[i]?.getD default))) /\ Below W.heap.size W w'):=Lib.hid fun i hi W hW => by
  have := hW.size
  exact belongs_any W.heap.size t _ x (g i) W (ht.below hW hK (by omega)) ((hgs i hi).below hW hK (by omega)) (Nat.le_refl _)
 obtain ⟨q,hq⟩ : ∃ q,l.length = q:=⟨_,rfl⟩
 rw [hq] at hg hv1 HC ⊢
 have HG:=Lib.hid hg
 have HQ:=Lib.hid hq
 obtain ⟨X,hX⟩ : ∃ X,x.agg = X:=⟨_,rfl⟩
 rw [hX] at HC ⊢
 clear hq hg hgs ht hX
 go_enter Tryz.func34,Tryz.ntmps34
 go_wp2_with fail
 go_loopw [8] (fun i wr => ∃ k : Nat,k <= q /\ i = .int .i64 k /\ Below w.heap.size w wr /\ Hid (∀ i,i < k -> t.belongs (l[i]?.getD default) = false)) (fun i _ => q - (intOf i).toNat)
 case atStart => exact ⟨0,Nat.zero_le _,rfl,Below.refl _ _,Lib.hid fun i hi => absurd hi (Nat.not_lt_zero i)⟩
 case round =>
  obtain ⟨k,hk,rfl,hbr,HALL⟩:=hrel
  by_cases hlt : k < q
  ·obtain ⟨b,o,cap,he,_,_,hbK,hc⟩:=HG.out.pos (by omega)
   simp only [Value.slice.injEq,true_and] at he
   obtain ⟨rfl,rfl⟩:=he
   obtain ⟨c0,c1,c2,c3,c4,c5,c6,c7,c8,c9,c10⟩:=sc_cells (cells_below hbr (by omega) hc) hlt
   have hcall:=HC.out k hlt wr hbr
   obtain ⟨r,hr⟩ : ∃ r,t.belongs (l[k]?.getD default) = r:=⟨_,rfl⟩
   rw [hr] at hcall
   obtain ⟨y,hy⟩ : ∃ y,g k = y:=⟨_,rfl⟩
   rw [hy] at c0 c1 c2 c3 c4 c5 c6 c7 c8 c9 c10 hcall
   have hsr:=hbr.size
   have hbl : b < wr.heap.size:=by omega
   have HR:=Lib.hid hr
   clear hy hc hr
   go_wp2_with fail
   refine hcall.mono ?_
   rintro e w2 ⟨rfl,hb2⟩
   clear hcall c0 c1 c2 c3 c4 c5 c6 c7 c8 c9 c10
   have hb3 : Below w.heap.size w w2:=hbr.trans (hb2.mono hsr)
   cases r with
   | true =>
    have HE:=Lib.hid (idxS_at (by rw [HQ.out]; exact hlt) HALL.out HR.out)
    go_wp2_with fail
    go_ret
    exact ⟨by rw [HE.out]; rfl,hb3⟩
   | false =>
    go_wp2_with fail
    refine ⟨⟨k + 1,by omega,by go_num,hb3,Lib.hid fun i hi => ?_⟩,by simp [intOf]; omega⟩
    by_cases hik : i = k
    ·rw [hik]; exact HR.out
    ·exact HALL.out i (by omega)
  ·obtain rfl : k = q:=by omega
   have HE:=Lib.hid (idxS_none (fun i hi => HALL.out i (by have := HQ.out; omega)))
   go_wp2_with fail
   go_ret
   exact ⟨by rw [HE.out]; rfl,hbr⟩
open Go.RowKit Go.ChangeShapes Go.WideShapes Go.ChangeAt Go.Deep
section
variable {H : Type} {enc : TypeId × Value -> H} {W : World}
theorem u16_wf {q : Int} (h : (Lit.int .u16 q).wf = true) : ∃ y : Nat,y < 65536 /\ q = y:=by
 simp [Lit.wf,IntKind.min,IntKind.max,IntKind.signed,IntKind.bits] at h
 exact ⟨q.toNat,by omega,by omega⟩
theorem lm_of_trod {fuel : Nat} {cs : List Value} {x : DataW H × List MemPlace} (h : DataW.trod enc Tryz.prog W 0 (fun _ => true) true fuel 22 cs = some x) : ∃ (s : Sl) (l : List Nat),cs = [s.val] /\ Lm W.heap.size W s.val l:=by
 obtain ⟨s,rfl⟩:=sl_of_trod (c:=1) Tryz.underlying22 h
 obtain ⟨a,len,cap,hv,hlc,hcm,hz,hrow⟩:=rows_of_trod Tryz.underlying22 (show Tryz.prog.cellsOf 85 = 1 by kernel_rfl) (by decide) h
 refine ⟨s,?_⟩
 rw [hv]
 by_cases hp : 0 < len
 ·obtain ⟨b,o,n',rfl,rfl,hb,hi⟩:=hrow hp
  have hch : ∀ i,i < len -> ∃ y : Nat,y < 65536 /\ W.cell? ⟨b,o + (i * 1 + 0),none⟩ = some (.int .u16 (y : Int)):=by
   intro i hil
   obtain ⟨cs',y,hcl,hy,hcell⟩:=hi i hil
   obtain ⟨q,e,_,hw⟩:=DataW.trod_int Tryz.underlying85 hy
   obtain ⟨y,hy1,rfl⟩:=u16_wf hw
   exact ⟨y,hy1,hcell 0 _ (by rw [e]; rfl)⟩
  obtain ⟨f,hf⟩:=choose_lt (α:=Nat) hch
  refine ⟨(List.range len).map f,rfl,?_,fun y hy => ?_⟩
  ·rw [List.length_map,List.length_range]
   refine RowsV.mk_cells hlc hcm hb fun i hil j hj => ?_
   obtain rfl : j = 0:=by omega
   rw [(hf i hil).2,List.getElem?_map,List.getElem?_range hil]; rfl
  ·obtain ⟨i,hi,rfl⟩:=List.mem_map.1 hy
   exact (hf i (List.mem_range.1 hi)).1
 ·obtain rfl : len = 0:=by omega
  exact ⟨[],rfl,RowsV.nil a cap hcm hz,fun y hy => by cases hy⟩
theorem wholeV_of_trod {fuel : Nat} {cs : List Value} {x : DataW H × List MemPlace} (h : DataW.trod enc Tryz.prog W 0 (fun _ => true) true fuel 24 cs = some x) : ∃ (b : Bool) (s : Sl) (l : List Nat),cs = [.bool b,s.val] /\ Lm W.heap.size W s.val l:=by
 obtain ⟨y0,y1,n,_,hl,h0,h1⟩:=trod_struct2 Tryz.underlying24 h
 rw [show Tryz.prog.cellsOf 24 = 2 by kernel_rfl] at hl
 obtain ⟨a,b,rfl⟩:=list2 hl
 rw [show Tryz.prog.cellsOf 4 = 1 by kernel_rfl] at h0
 rw [show Tryz.prog.cellsOf 22 = 1 by kernel_rfl] at h1
 obtain ⟨q0,e0,_⟩:=DataW.trod_bool Tryz.underlying4 h0
 obtain ⟨q1,l,e1,hl1⟩:=lm_of_trod h1
 simp at e0 e1
 exact ⟨q0,q1,l,by rw [e0,e1],hl1⟩
theorem fracV_of_trod {fuel : Nat} {cs : List Value} {x : DataW H × List MemPlace} (h : DataW.trod enc Tryz.prog W 0 (fun _ => true) true fuel 26 cs = some x) :
  ∃ (b : Bool) (s : Sl) (l : List Nat) (b' : Bool) (s' : Sl) (l' : List Nat),cs = [.bool b,s.val,.bool b',s'.val] /\ Lm W.heap.size W s.val l /\ Lm W.heap.size W s'.val l':=by
 obtain ⟨y0,y1,n,_,hl,h0,h1⟩:=trod_struct2 Tryz.underlying26 h
 rw [show Tryz.prog.cellsOf 26 = 4 by kernel_rfl] at hl
 obtain ⟨a,b,c,d,rfl⟩:=list4 hl
 rw [show Tryz.prog.cellsOf 24 = 2 by kernel_rfl] at h0 h1
 obtain ⟨q0,s0,l0,e0,m0⟩:=wholeV_of_trod h0
 obtain ⟨q1,s1,l1,e1,m1⟩:=wholeV_of_trod h1
 simp at e0 e1
 exact ⟨q0,s0,l0,q1,s1,l1,by rw [e0.1,e0.2,e1.1,e1.2],m0,m1⟩
theorem vq_of_trod {fuel : Nat} {cs : List Value} {x : DataW H × List MemPlace} (h : DataW.trod enc Tryz.prog W 0 (fun _ => true) true fuel 28 cs = some x) :
  ∃ (v : Vq) (k : Int) (b : Bool) (s : Sl) (b' : Bool) (s' : Sl) (i : Int),cs = [.int .u8 k,.bool b,s.val,.bool b',s'.val,.int .i64 i] /\ VlX W.heap.size W v ⟨k,b,s.val,b',s'.val,i⟩:=by
 obtain ⟨y0,y1,y2,n,_,hl,h0,h1,h2⟩:=trod_struct3 Tryz.underlying28 h
 rw [show Tryz.prog.cellsOf 28 = 6 by kernel_rfl] at hl
 obtain ⟨a,b,c,d,e,f,rfl⟩:=list6 hl
 rw [show Tryz.prog.cellsOf 5 = 1 by kernel_rfl] at h0
 rw [show Tryz.prog.cellsOf 26 = 4 by kernel_rfl] at h1
 rw [show Tryz.prog.cellsOf 3 = 1 by kernel_rfl] at h2
 obtain ⟨q0,e0,_⟩:=DataW.trod_int Tryz.underlying5 h0
 obtain ⟨b1,s1,l1,b2,s2,l2,e1,m1,m2⟩:=fracV_of_trod h1
 obtain ⟨q2,e2,_⟩:=DataW.trod_int Tryz.underlying3 h2
 simp at e0 e1 e2
 exact ⟨⟨q0,b1,l1,b2,l2,q2⟩,q0,b1,s1,b2,s2,q2,by rw [e0,e1.1,e1.2.1,e1.2.2.1,e1.2.2.2,e2],rfl,rfl,rfl,rfl,m1,m2⟩
theorem gx_of_trod : ∀ (m fuel : Nat),fuel <= m -> ∀ (cs : List Value) (x : DataW H × List MemPlace),DataW.trod enc Tryz.prog W 0 (fun _ => true) true fuel 31 cs = some x -> ∃ (e : Gx) (c : Xv),cs = c.cells.toList /\ ExG W.heap.size W e c:=by
 intro m
 induction m with
 | zero =>
  intro fuel hf cs x h
  obtain ⟨xs,n,rfl,_⟩:=DataW.trod_struct Tryz.underlying31 h
  omega
 | succ m ih =>
  intro fuel hf cs x h
  obtain ⟨xs,n,rfl,_,hl,hxl,hat⟩:=DataW.trod_struct Tryz.underlying31 h
  rw [show Tryz.prog.cellsOf 31 = 9 by kernel_rfl] at hl
  obtain ⟨a0,a1,a2,a3,a4,a5,a6,a7,a8,rfl⟩:=list9 hl
  obtain ⟨y0,y1,y2,y3,rfl⟩:=list4 hxl
  have h0 : DataW.trod enc Tryz.prog W 0 (fun _ => true) true n 5 (([a0,a1,a2,a3,a4,a5,a6,a7,a8].drop 0).take (Tryz.prog.cellsOf 5)) = some y0:=hat 0 _ rfl
  have h1 : DataW.trod enc Tryz.prog W 0 (fun _ => true) true n 9 (([a0,a1,a2,a3,a4,a5,a6,a7,a8].drop 1).take (Tryz.prog.cellsOf 9)) = some y1:=hat 1 _ rfl
  have h2 : DataW.trod enc Tryz.prog W 0 (fun _ => true) true n 28 (([a0,a1,a2,a3,a4,a5,a6,a7,a8].drop 2).take (Tryz.prog.cellsOf 28)) = some y2:=hat 2 _ rfl
  have h3 : DataW.trod enc Tryz.prog W 0 (fun _ => true) true n 29 (([a0,a1,a2,a3,a4,a5,a6,a7,a8].drop 8).take (Tryz.prog.cellsOf 29)) = some y3:=hat 3 _ rfl
  rw [show Tryz.prog.cellsOf 5 = 1 by kernel_rfl] at h0
  rw [show Tryz.prog.cellsOf 9 = 1 by kernel_rfl] at h1
  rw [show Tryz.prog.cellsOf 28 = 6 by kernel_rfl] at h2
  rw [show Tryz.prog.cellsOf 29 = 1 by kernel_rfl] at h3
  obtain ⟨op,e0,_⟩:=DataW.trod_int Tryz.underlying5 h0
  obtain ⟨s,e1,hs⟩:=str_of_trod h1
  obtain ⟨v,kd,b3,s4,b5,s6,i7,e2,hv⟩:=vq_of_trod h2
  have h3' : DataW.trod enc Tryz.prog W 0 (fun _ => true) true n 29 [a8] = some y3:=h3
  obtain ⟨a,len,cap,rfl,hlc,hcm,hz,hrow⟩:=rows_of_trod Tryz.underlying29 (show Tryz.prog.cellsOf 31 = 9 by kernel_rfl) (by decide) h3'
  simp at e0 e1 e2
  obtain ⟨rfl,rfl,rfl,rfl,rfl,rfl⟩:=e2
  subst e0 e1
  by_cases hp : 0 < len
  ·obtain ⟨b,o,n',rfl,rfl,hb,hi⟩:=hrow hp
   have hch : ∀ i,i < len -> ∃ q : Gx × Xv,ExG W.heap.size W q.1 q.2 /\ ∀ j,j < 9 -> W.cell? ⟨b,o + (i * 9 + j),none⟩ = some (q.2.cell j):=by
    intro i hil
    obtain ⟨cs',y,hcl,hy,hcell⟩:=hi i hil
    obtain ⟨e,c,rfl,hec⟩:=ih n' (by omega) cs' y hy
    exact ⟨(e,c),hec,fun j hj => hcell j _ (c.cells_at hj)⟩
   obtain ⟨f,hf2⟩:=choose_lt (α:=Gx × Xv) hch
   refine ⟨.mk op s v ((List.range len).map fun i => (f i).1),⟨op,s,kd,b3,s4,b5,s6,i7,⟨some ⟨b,o,none⟩,len,cap⟩⟩,rfl,ExG.make rfl rfl hs hv (fun i => (f i).2) ?_ fun j e hj => ?_⟩
   ·dsimp only [Gx.args]
    rw [List.length_map,List.length_range]
    exact RowsV.mk_cells hlc hcm hb fun i hil j hj => (hf2 i hil).2 j hj
   ·dsimp only [Gx.args] at hj
    have hjl : j < len:=by have := (List.getElem?_eq_some_iff.1 hj).1; simpa using this
    rw [List.getElem?_map,List.getElem?_range hjl] at hj
    simp only [Option.map_some,Option.some.injEq] at hj
    rw [<- hj]
    exact (hf2 j hjl).1
  ·obtain rfl : len = 0:=by omega
   exact ⟨.mk op s v [],⟨op,s,kd,b3,s4,b5,s6,i7,⟨a,0,cap⟩⟩,rfl,ExG.make rfl rfl hs hv (fun _ => default) (RowsV.nil a cap hcm hz) fun j e hj => by simp [Gx.args] at hj⟩
instance : Inhabited Vv:=⟨⟨0,false,.slice none 0 0,false,.slice none 0 0,0⟩⟩
theorem cuts_of_trod {fuel : Nat} {v : Value} {x : DataW H × List MemPlace} (h : DataW.trod enc Tryz.prog W 0 (fun _ => true) true fuel 32 [v] = some x) : ∃ l,CutsX W.heap.size W v l:=by
 obtain ⟨a,len,cap,rfl,hlc,hcm,hz,hrow⟩:=rows_of_trod Tryz.underlying32 (show Tryz.prog.cellsOf 28 = 6 by kernel_rfl) (by decide) h
 by_cases hp : 0 < len
 ·obtain ⟨b,o,n',rfl,rfl,hb,hi⟩:=hrow hp
  have hch : ∀ i,i < len -> ∃ q : Vq × Vv,VlX W.heap.size W q.1 q.2 /\ ∀ j,j < 6 -> W.cell? ⟨b,o + (i * 6 + j),none⟩ = some (q.2.cell j):=by
   intro i hil
   obtain ⟨cs',y,hcl,hy,hcell⟩:=hi i hil
   obtain ⟨v,k,b3,s4,b5,s6,i7,rfl,hv⟩:=vq_of_trod hy
   refine ⟨(v,⟨k,b3,s4.val,b5,s6.val,i7⟩),hv,fun j hj => hcell j _ ?_⟩
   match j,hj with
   | 0,_ => rfl
   | 1,_ => rfl
   | 2,_ => rfl
   | 3,_ => rfl
   | 4,_ => rfl
   | 5,_ => rfl
  obtain ⟨f,hf2⟩:=choose_lt (α:=Vq × Vv) hch
  refine ⟨(List.range len).map fun i => (f i).1,fun i => (f i).2,?_,fun j hj => ?_⟩
  ·rw [List.length_map,List.length_range]
   exact RowsV.mk_cells hlc hcm hb fun i hil j hj => (hf2 i hil).2 j hj
  ·rw [List.length_map,List.length_range] at hj
   rw [List.getElem?_map,List.getElem?_range hj]
   exact (hf2 j hj).1
 ·obtain rfl : len = 0:=by omega
  exact ⟨[],fun _ => default,RowsV.nil a cap hcm hz,fun i hi => by simp at hi⟩
theorem list11 {α : Type} {l : List α} (h : l.length = 11) : ∃ (x : List α) (a b : α),x.length = 9 /\ l = x ++ [a,b]:=by
 obtain ⟨a,b,hab⟩:=list2 (l:=l.drop 9) (by simp; omega)
 exact ⟨l.take 9,a,b,by simp; omega,by rw [<- hab,List.take_append_drop]⟩
theorem sc_of_trod {fuel : Nat} {cs : List Value} {x : DataW H × List MemPlace} (h : DataW.trod enc Tryz.prog W 0 (fun _ => true) true fuel 34 cs = some x) : ∃ (s : Sc) (y : Sv),cs = y.cells.toList /\ ScX W.heap.size W s y:=by
 obtain ⟨y0,y1,y2,n,_,hl,h0,h1,h2⟩:=trod_struct3 Tryz.underlying34 h
 rw [show Tryz.prog.cellsOf 34 = 11 by kernel_rfl] at hl
 obtain ⟨ex,k,c,hex,rfl⟩:=list11 hl
 have h0 : DataW.trod enc Tryz.prog W 0 (fun _ => true) true n 31 (((ex ++ [k,c]).drop 0).take (Tryz.prog.cellsOf 31)) = some y0:=h0
 have h1 : DataW.trod enc Tryz.prog W 0 (fun _ => true) true n 5 (((ex ++ [k,c]).drop 9).take (Tryz.prog.cellsOf 5)) = some y1:=h1
 have h2 : DataW.trod enc Tryz.prog W 0 (fun _ => true) true n 32 (((ex ++ [k,c]).drop 10).take (Tryz.prog.cellsOf 32)) = some y2:=h2
 rw [show Tryz.prog.cellsOf 31 = 9 by kernel_rfl,List.drop_zero] at h0
 rw [show Tryz.prog.cellsOf 5 = 1 by kernel_rfl] at h1
 rw [show Tryz.prog.cellsOf 32 = 1 by kernel_rfl] at h2
 have e0 : (ex ++ [k,c]).take 9 = ex:=by rw [List.take_append_of_le_length (by omega),List.take_of_length_le (by omega)]
 have e1 : (ex ++ [k,c]).drop 9 = [k,c]:=by rw [List.drop_append,List.drop_eq_nil_of_le (by omega),hex]; rfl
 have e2 : (ex ++ [k,c]).drop 10 = [c]:=by rw [show 10 = 9 + 1 from rfl,<- List.drop_drop,e1]; rfl
 rw [e0] at h0
 rw [e1] at h1
 rw [e2] at h2
 obtain ⟨e,q,rfl,he⟩:=gx_of_trod n n (Nat.le_refl _) _ _ h0
 have h1' : DataW.trod enc Tryz.prog W 0 (fun _ => true) true n 5 [k] = some y1:=h1
 obtain ⟨kd,ek,_⟩:=DataW.trod_int Tryz.underlying5 h1'
 have h2' : DataW.trod enc Tryz.prog W 0 (fun _ => true) true n 32 [c] = some y2:=h2
 obtain ⟨l,hc⟩:=cuts_of_trod h2'
 obtain ⟨sl,hsl⟩:=sl_of_trod (c:=1) Tryz.underlying32 h2'
 simp at ek hsl
 subst ek hsl
 exact ⟨⟨e,kd,l⟩,⟨q,kd,sl⟩,rfl,he,rfl,hc⟩
end
theorem VlX.dig {K : Nat} {w : World} {v : Vq} {x : Vv} (h : VlX K w v x) : (∀ d ∈ v.l1,d < 65536) /\ ∀ d ∈ v.l2,d < 65536:=⟨h.n.2,h.d.2⟩
theorem CutsX.dig {K : Nat} {w : World} {v : Value} {l : List Vq} (h : CutsX K w v l) : ∀ c ∈ l,(∀ d ∈ c.l1,d < 65536) /\ ∀ d ∈ c.l2,d < 65536:=by
 obtain ⟨g,_,h2⟩:=h
 intro c hc
 obtain ⟨i,hi,rfl⟩:=List.mem_iff_getElem.1 hc
 have := (h2 i hi).dig
 rwa [List.getElem?_eq_getElem hi,Option.getD_some] at this
theorem ftzero_any (K : Nat) (u v : Value) (m k : Nat) (w : World) (hu : Wd .u16 K w u m) (hv : Wd .u16 K w v k) : Calls Tryz.prog 67 #[Fv u v] w fun e w' => e = .returned (.bool (m == 0)) /\ Below w.heap.size w w':=by
 obtain ⟨ua,um,uc,rfl⟩:=hu.form
 obtain ⟨va,vm,vc,rfl⟩:=hv.form
 have h1 : ((um : Int) == 0) = (m == 0):=by have := hu.len; rw [Bool.eq_iff_iff]; simp; omega
 obtain ⟨r,hr⟩ : ∃ r,(m == 0) = r:=⟨_,rfl⟩
 rw [hr] at h1 ⊢
 go_enter Tryz.func67,Tryz.ntmps67
 go_wp2_with fail
 go_ret
 exact ⟨rfl,(Below.refl _ w).alloc (Nat.le_refl _) _⟩
theorem fadd0_any (K : Nat) (u v x y : Value) (p q : Nat) (w : World) (hu : Wd .u16 K w u 0) (hv : Wd .u16 K w v 1) (hx : Wd .u16 K w x p) (hy : Wd .u16 K w y q) (hK : K <= w.heap.size) (h2 : FrOk p q) (hp0 : 0 < p) (hg : Nat.gcd p q = 1) :
  Calls Tryz.prog 46 #[Fv u v,Fv x y] w fun e w' => ∃ r t,e = .returned (.tuple #[Fv r t,.int .i64 0]) /\ Wd .u16 w'.heap.size w' r p /\ Wd .u16 w'.heap.size w' t q /\ Below w.heap.size w w' /\ NewV w.heap.size r /\ NewV w.heap.size t:=by
 have h1 : FrOk 0 1:=⟨by omega,by omega,by omega,.inl rfl⟩
 obtain ⟨hpb,hqb,hq0,_⟩:=id h2
 obtain ⟨ua,um,uc,rfl⟩:=hu.form
 obtain ⟨va,vm,vc,rfl⟩:=hv.form
 obtain ⟨xa,xm,xc,rfl⟩:=hx.form
 obtain ⟨ya,ym,yc,rfl⟩:=hy.form
 obtain ⟨W1,hW1⟩ : ∃ W1,(((w.alloc (.cells #[.bool false,.slice ua um uc,.bool false,.slice va vm vc] 26)).alloc (.cells #[.bool false,.slice xa xm xc,.bool false,.slice ya ym yc] 26)).alloc (.cells #[.bool false,.slice none 0 0,.bool false,.slice none 0 0] 26)).alloc (.cells #[.bool false,.slice ua um uc,.bool false,.slice va vm vc,.bool false,.slice xa xm xc,.bool false,.slice ya ym yc] 26) = W1:=⟨_,rfl⟩
 obtain ⟨b1,q0,q1,q2,q3,s1⟩:=alloc4 w _ _ _ _ _ _ _ _ hW1
 have HW:=Lib.hid hW1
 obtain ⟨B,hB⟩ : ∃ B,w.heap.size = B:=⟨_,rfl⟩
 have HB:=Lib.hid hB
 rw [hB] at hK b1 q0 q1 q2 q3 s1 ⊢
 have hav:=fallvalid_any B (B + 3) _ _ _ _ 0 1 p q W1 (hu.below b1 hK hK) (hv.below b1 hK hK) (hx.below b1 hK hK) (hy.below b1 hK hK) (by omega) h1 h2 q3
 clear hB hW1
 go_enter Tryz.func46,Tryz.ntmps46
 go_wp2_with fail
 simp only [HB.out,Nat.add_assoc,Nat.reduceAdd]
 rw [HW.out]
 refine hav.mono ?_
 rintro e w2 ⟨rfl,hb2⟩
 clear hav
 have b2 : Below B w w2:=b1.trans (hb2.mono (by omega))
 have hs2:=hb2.size
 have q0:=q0.below hb2 q0.lt
 have q1:=q1.below hb2 q1.lt
 have q2:=q2.below hb2 q2.lt
 have hu3 : Wd .u16 w2.heap.size w2 (.slice ua um uc) 0:=hu.below b2 hK (by omega)
 have hv3 : Wd .u16 w2.heap.size w2 (.slice va vm vc) 1:=hv.below b2 hK (by omega)
 have hx3 : Wd .u16 w2.heap.size w2 (.slice xa xm xc) p:=hx.below b2 hK (by omega)
 have hy3 : Wd .u16 w2.heap.size w2 (.slice ya ym yc) q:=hy.below b2 hK (by omega)
 go_upto_region 3 with fail
 refine region_plain (fun W' => Below w2.heap.size w2 W') [20,21] (by kernel_rfl) ?_
 have qS : (fun W' => Below w2.heap.size w2 W') w2.drew:=below_quiet (Below.refl _ _)
 refine wpAnyD_tp (i:=0) (v:=.pointer (some ⟨B,0,none⟩)) rfl qS ?_
 refine wpAnyD_tk (i:=1) (v:=Wv (.slice ua um uc)) rfl (.inl ⟨by kernel_rfl,fun W' hS => by have d0:=(q0.below hS q0.lt).at (i:=0) rfl; have d1:=(q0.below hS q0.lt).at (i:=1) rfl; go_simp⟩) qS ?_
 refine wpAnyD_tp (i:=2) (v:=.pointer (some ⟨B + 1,2,none⟩)) rfl qS ?_
 refine wpAnyD_tk (i:=3) (v:=Wv (.slice ya ym yc)) rfl (.inl ⟨by kernel_rfl,fun W' hS => by have d0:=(q1.below hS q1.lt).at (i:=2) rfl; have d1:=(q1.below hS q1.lt).at (i:=3) rfl; go_simp⟩) qS ?_
 refine wpAnyD_tp (i:=5) (v:=.pointer (some ⟨B + 1,0,none⟩)) rfl qS ?_
 refine wpAnyD_tk (i:=6) (v:=Wv (.slice xa xm xc)) rfl (.inl ⟨by kernel_rfl,fun W' hS => by have d0:=(q1.below hS q1.lt).at (i:=0) rfl; have d1:=(q1.below hS q1.lt).at (i:=1) rfl; go_simp⟩) qS ?_
 refine wpAnyD_tp (i:=7) (v:=.pointer (some ⟨B,2,none⟩)) rfl qS ?_
 refine wpAnyD_tk (i:=8) (v:=Wv (.slice va vm vc)) rfl (.inl ⟨by kernel_rfl,fun W' hS => by have d0:=(q0.below hS q0.lt).at (i:=2) rfl; have d1:=(q0.below hS q0.lt).at (i:=3) rfl; go_simp⟩) qS ?_
 refine wpAnyD_tp (i:=11) (v:=.pointer (some ⟨B,2,none⟩)) rfl qS ?_
 refine wpAnyD_tk (i:=12) (v:=Wv (.slice va vm vc)) rfl (.inl ⟨by kernel_rfl,fun W' hS => by have d0:=(q0.below hS q0.lt).at (i:=2) rfl; have d1:=(q0.below hS q0.lt).at (i:=3) rfl; go_simp⟩) qS ?_
 refine wpAnyD_tp (i:=13) (v:=.pointer (some ⟨B + 1,2,none⟩)) rfl qS ?_
 refine wpAnyD_tk (i:=14) (v:=Wv (.slice ya ym yc)) rfl (.inl ⟨by kernel_rfl,fun W' hS => by have d0:=(q1.below hS q1.lt).at (i:=2) rfl; have d1:=(q1.below hS q1.lt).at (i:=3) rfl; go_simp⟩) qS ?_
 refine wpAnyD_on (i:=4) rfl ?_
 go_simp
 refine (ftimes_any w2.heap.size _ _ 0 q _ (hu3.below qS (Nat.le_refl _) (Nat.le_refl _)) (hy3.below qS (Nat.le_refl _) (Nat.le_refl _)) qS.size (by omega) (by omega) hqb).mono ?_
 rintro e w3 ⟨p3,rfl,hp3,hb3,hn3⟩
 have qS3 : Below w2.heap.size w2 w3:=qS.trans (hb3.mono qS.size)
 obtain ⟨a3,m3,c3,rfl⟩:=hp3.form
 go_simp
 rw [Nat.zero_mul] at hp3
 refine wpAnyD_on (i:=9) rfl ?_
 go_simp
 refine (ftimes_any w2.heap.size _ _ p 1 _ (hx3.below qS3 (Nat.le_refl _) (Nat.le_refl _)) (hv3.below qS3 (Nat.le_refl _) (Nat.le_refl _)) qS3.size (by omega) hpb (by omega)).mono ?_
 rintro e w4 ⟨p4,rfl,hp4,hb4,hn4⟩
 have qS4 : Below w2.heap.size w2 w4:=qS3.trans (hb4.mono qS3.size)
 obtain ⟨a4,m4,c4,rfl⟩:=hp4.form
 go_simp
 rw [Nat.mul_one] at hp4
 refine wpAnyD_on (i:=10) rfl ?_
 go_simp
 refine (fplus0_any w4.heap.size _ _ p _ (hp3.below hb4 (Nat.le_refl _) hb4.size) hp4 hp0 (Nat.le_refl _) hpb).mono ?_
 rintro e w5 ⟨p5,rfl,hp5,hb5,hn5⟩
 have qS5 : Below w2.heap.size w2 w5:=qS4.trans (hb5.mono qS4.size)
 obtain ⟨a5,m5,c5,rfl⟩:=hp5.form
 go_simp
 refine wpAnyD_on (i:=15) rfl ?_
 go_simp
 refine (ftimes_any w2.heap.size _ _ 1 q _ (hv3.below qS5 (Nat.le_refl _) (Nat.le_refl _)) (hy3.below qS5 (Nat.le_refl _) (Nat.le_refl _)) qS5.size (by omega) (by omega) hqb).mono ?_
 rintro e w6 ⟨p6,rfl,hp6,hb6,hn6⟩
 have qS6 : Below w2.heap.size w2 w6:=qS5.trans (hb6.mono qS5.size)
 obtain ⟨a6,m6,c6,rfl⟩:=hp6.form
 go_simp
 rw [Nat.one_mul] at hp6
 refine wpAnyD_on (i:=16) rfl ?_
 go_simp
 refine (flowest1_any w6.heap.size _ _ p q _ (hp5.below hb6 (Nat.le_refl _) hb6.size) hp6 hp0 hq0 hg (Nat.le_refl _) hpb hqb).mono ?_
 rintro e w7 ⟨r7,t7,rfl,hr7,ht7,hb7,hn1,hn2⟩
 have qS7 : Below w2.heap.size w2 w7:=qS6.trans (hb7.mono qS6.size)
 obtain ⟨ra,rm,rc,rfl⟩:=hr7.form
 obtain ⟨ta,tm,tc,rfl⟩:=ht7.form
 go_simp
 refine wpAnyD_on (i:=17) rfl ?_
 go_simp
 refine (fresult_any w7.heap.size _ _ p q _ hr7 ht7 (Nat.le_refl _)).mono ?_
 rintro e w8 ⟨rfl,hb8⟩
 have qS8 : Below w2.heap.size w2 w8:=qS7.trans (hb8.mono qS7.size)
 have hp8 : Wd .u16 w8.heap.size w8 (.slice ra rm rc) p:=hr7.below hb8 (Nat.le_refl _) hb8.size
 have hq8 : Wd .u16 w8.heap.size w8 (.slice ta tm tc) q:=ht7.below hb8 (Nat.le_refl _) hb8.size
 have hsq:=qS6.size
 go_simp
 refine wpAnyD_tp (i:=18) (v:=Fv (.slice ra rm rc) (.slice ta tm tc)) rfl qS8 ?_
 refine wpAnyD_tp (i:=19) (v:=.int .i64 0) rfl qS8 ?_
 have q2:=q2.below qS8 q2.lt
 obtain ⟨d4,d5,d6,d7⟩:=q2.four
 have f4:=q2.free 0
 have f5:=q2.free 1
 have f6:=q2.free 2
 have f7:=q2.free 3
 refine wpAnyD_on (i:=20) rfl ?_
 go_simp
 refine wpAnyD_on (i:=21) rfl ?_
 go_simp
 refine wpAnyD_done (by kernel_rfl) ?_ _
 have x2:=(((q2.set (i:=0) (.bool false)).set (i:=1) (.slice ra rm rc)).set (i:=2) (.bool false)).set (i:=3) (.slice ta tm tc)
 obtain ⟨e0,e1,e2,e3⟩:=x2.four
 clear d4 d5 d6 d7 f4 f5 f6 f7
 have b8 : Below B w w8:=b2.trans (qS8.mono (by omega))
 have hs8:=qS8.size
 go_wp2_with fail
 refine bodyPost_ret (v:=.tuple #[Fv (.slice ra rm rc) (.slice ta tm tc),.int .i64 0]) (by simp [results,Tryz.results46,go_sem,e0,e1,e2,e3]) rfl ?_
 have hp9:=(((hp8.set (r:=B + 2) (i:=0) (x:=.bool false) hn1 (by omega)).set (r:=B + 2) (i:=1) (x:=.slice ra rm rc) hn1 (by omega)).set (r:=B + 2) (i:=2) (x:=.bool false) hn1 (by omega)).set (r:=B + 2) (i:=3) (x:=.slice ta tm tc) hn1 (by omega)
 have hq9:=(((hq8.set (r:=B + 2) (i:=0) (x:=.bool false) hn2 (by omega)).set (r:=B + 2) (i:=1) (x:=.slice ra rm rc) hn2 (by omega)).set (r:=B + 2) (i:=2) (x:=.bool false) hn2 (by omega)).set (r:=B + 2) (i:=3) (x:=.slice ta tm tc) hn2 (by omega)
 exact ⟨_,_,rfl,hp9.below (Below.refl w8.heap.size _) (Nat.le_refl _) (by simp [World.setCell]),hq9.below (Below.refl w8.heap.size _) (Nat.le_refl _) (by simp [World.setCell]),(((b8.setCell (p:=⟨B + 2,0,none⟩) (by simp) _).setCell (p:=⟨B + 2,1,none⟩) (by simp) _).setCell (p:=⟨B + 2,2,none⟩) (by simp) _).setCell (p:=⟨B + 2,3,none⟩) (by simp) _,hn1.mono (by omega),hn2.mono (by omega)⟩
theorem fdiv_any (K : Nat) (u v x y : Value) (m n p q : Nat) (w : World) (hu : Wd .u16 K w u m) (hv : Wd .u16 K w v n) (hx : Wd .u16 K w x p) (hy : Wd .u16 K w y q) (hK : K <= w.heap.size) (h1 : FrOk m n) (h2 : FrOk p q) (hp0 : 0 < p) (hmq0 : 0 < m * q) (hnp0 : 0 < n * p) (hmq : m * q < 65536) (hnp : n * p < 65536) (hg : Nat.gcd (m * q) (n * p) = 1) :
  Calls Tryz.prog 48 #[Fv u v,Fv x y] w fun e w' => ∃ r t,e = .returned (.tuple #[Fv r t,.int .i64 0]) /\ Wd .u16 w'.heap.size w' r (m * q) /\ Wd .u16 w'.heap.size w' t (n * p) /\ Below w.heap.size w w' /\ NewV w.heap.size r /\ NewV w.heap.size t:=by
 obtain ⟨ua,um,uc,rfl⟩:=hu.form
 obtain ⟨va,vm,vc,rfl⟩:=hv.form
 obtain ⟨xa,xm,xc,rfl⟩:=hx.form
 obtain ⟨ya,ym,yc,rfl⟩:=hy.form
 obtain ⟨W1,hW1⟩ : ∃ W1,(((w.alloc (.cells #[.bool false,.slice ua um uc,.bool false,.slice va vm vc] 26)).alloc (.cells #[.bool false,.slice xa xm xc,.bool false,.slice ya ym yc] 26)).alloc (.cells #[.bool false,.slice none 0 0,.bool false,.slice none 0 0] 26)).alloc (.cells #[.bool false,.slice ua um uc,.bool false,.slice va vm vc,.bool false,.slice xa xm xc,.bool false,.slice ya ym yc] 26) = W1:=⟨_,rfl⟩
 obtain ⟨b1,q0,q1,q2,q3,s1⟩:=alloc4 w _ _ _ _ _ _ _ _ hW1
 have HW:=Lib.hid hW1
 obtain ⟨B,hB⟩ : ∃ B,w.heap.size = B:=⟨_,rfl⟩
 have HB:=Lib.hid hB
 rw [hB] at hK b1 q0 q1 q2 q3 s1 ⊢
 have hav:=fallvalid_any B (B + 3) _ _ _ _ m n p q W1 (hu.below b1 hK hK) (hv.below b1 hK hK) (hx.below b1 hK hK) (hy.below b1 hK hK) (by omega) h1 h2 q3
 clear hB hW1
 go_enter Tryz.func48,Tryz.ntmps48
 go_wp2_with fail
 simp only [HB.out,Nat.add_assoc,Nat.reduceAdd]
 rw [HW.out]
 refine hav.mono ?_
 rintro e w2 ⟨rfl,hb2⟩
 clear hav
 have b2 : Below B w w2:=b1.trans (hb2.mono (by omega))
 have hs2:=hb2.size
 have q0:=q0.below hb2 q0.lt
 have q1:=q1.below hb2 q1.lt
 have q2:=q2.below hb2 q2.lt
 have hz:=ftzero_any w2.heap.size _ _ p q w2 (hx.below b2 hK (by omega)) (hy.below b2 hK (by omega))
 have e0 : (p == 0) = false:=by simp; omega
 rw [e0] at hz
 clear e0
 obtain ⟨d0,d1,d2,d3⟩:=q1.four
 go_wp2_with fail
 refine hz.mono ?_
 rintro e w2' ⟨rfl,hb2'⟩
 clear hz d0 d1 d2 d3
 have b2 : Below B w w2':=b2.trans (hb2'.mono (by omega))
 have hs2 : W1.heap.size <= w2'.heap.size:=Nat.le_trans hs2 hb2'.size
 have q0:=q0.below hb2' q0.lt
 have q1:=q1.below hb2' q1.lt
 have q2:=q2.below hb2' q2.lt
 clear hb2' hb2
 have hu3 : Wd .u16 w2'.heap.size w2' (.slice ua um uc) m:=hu.below b2 hK (by omega)
 have hv3 : Wd .u16 w2'.heap.size w2' (.slice va vm vc) n:=hv.below b2 hK (by omega)
 have hx3 : Wd .u16 w2'.heap.size w2' (.slice xa xm xc) p:=hx.below b2 hK (by omega)
 have hy3 : Wd .u16 w2'.heap.size w2' (.slice ya ym yc) q:=hy.below b2 hK (by omega)
 go_upto_region 5 with fail
 refine region_plain (fun W' => Below w2'.heap.size w2' W') [14,15] (by kernel_rfl) ?_
 have qS : (fun W' => Below w2'.heap.size w2' W') w2'.drew:=below_quiet (Below.refl _ _)
 refine wpAnyD_tp (i:=0) (v:=.pointer (some ⟨B,0,none⟩)) rfl qS ?_
 refine wpAnyD_tk (i:=1) (v:=Wv (.slice ua um uc)) rfl (.inl ⟨by kernel_rfl,fun W' hS => by have d0:=(q0.below hS q0.lt).at (i:=0) rfl; have d1:=(q0.below hS q0.lt).at (i:=1) rfl; go_simp⟩) qS ?_
 refine wpAnyD_tp (i:=2) (v:=.pointer (some ⟨B + 1,2,none⟩)) rfl qS ?_
 refine wpAnyD_tk (i:=3) (v:=Wv (.slice ya ym yc)) rfl (.inl ⟨by kernel_rfl,fun W' hS => by have d0:=(q1.below hS q1.lt).at (i:=2) rfl; have d1:=(q1.below hS q1.lt).at (i:=3) rfl; go_simp⟩) qS ?_
 refine wpAnyD_tp (i:=5) (v:=.pointer (some ⟨B,2,none⟩)) rfl qS ?_
 refine wpAnyD_tk (i:=6) (v:=Wv (.slice va vm vc)) rfl (.inl ⟨by kernel_rfl,fun W' hS => by have d0:=(q0.below hS q0.lt).at (i:=2) rfl; have d1:=(q0.below hS q0.lt).at (i:=3) rfl; go_simp⟩) qS ?_
 refine wpAnyD_tp (i:=7) (v:=.pointer (some ⟨B + 1,0,none⟩)) rfl qS ?_
 refine wpAnyD_tk (i:=8) (v:=Wv (.slice xa xm xc)) rfl (.inl ⟨by kernel_rfl,fun W' hS => by have d0:=(q1.below hS q1.lt).at (i:=0) rfl; have d1:=(q1.below hS q1.lt).at (i:=1) rfl; go_simp⟩) qS ?_
 refine wpAnyD_on (i:=4) rfl ?_
 go_simp
 refine (ftimes_any w2'.heap.size _ _ m q _ (hu3.below qS (Nat.le_refl _) (Nat.le_refl _)) (hy3.below qS (Nat.le_refl _) (Nat.le_refl _)) qS.size hmq h1.1 h2.2.1).mono ?_
 rintro e w3 ⟨p3,rfl,hp3,hb3,hn3⟩
 have qS3 : Below w2'.heap.size w2' w3:=qS.trans (hb3.mono qS.size)
 obtain ⟨a3,m3,c3,rfl⟩:=hp3.form
 go_simp
 refine wpAnyD_on (i:=9) rfl ?_
 go_simp
 refine (ftimes_any w2'.heap.size _ _ n p _ (hv3.below qS3 (Nat.le_refl _) (Nat.le_refl _)) (hx3.below qS3 (Nat.le_refl _) (Nat.le_refl _)) qS3.size hnp h1.2.1 h2.1).mono ?_
 rintro e w4 ⟨p4,rfl,hp4,hb4,hn4⟩
 have qS4 : Below w2'.heap.size w2' w4:=qS3.trans (hb4.mono qS3.size)
 obtain ⟨a4,m4,c4,rfl⟩:=hp4.form
 go_simp
 refine wpAnyD_on (i:=10) rfl ?_
 go_simp
 refine (flowest1_any w4.heap.size _ _ (m * q) (n * p) _ (hp3.below hb4 (Nat.le_refl _) hb4.size) hp4 hmq0 hnp0 hg (Nat.le_refl _) hmq hnp).mono ?_
 rintro e w7 ⟨r7,t7,rfl,hr7,ht7,hb7,hn1,hn2⟩
 have qS7 : Below w2'.heap.size w2' w7:=qS4.trans (hb7.mono qS4.size)
 obtain ⟨ra,rm,rc,rfl⟩:=hr7.form
 obtain ⟨ta,tm,tc,rfl⟩:=ht7.form
 go_simp
 refine wpAnyD_on (i:=11) rfl ?_
 go_simp
 refine (fresult_any w7.heap.size _ _ (m * q) (n * p) _ hr7 ht7 (Nat.le_refl _)).mono ?_
 rintro e w8 ⟨rfl,hb8⟩
 have qS8 : Below w2'.heap.size w2' w8:=qS7.trans (hb8.mono qS7.size)
 have hp8 : Wd .u16 w8.heap.size w8 (.slice ra rm rc) (m * q):=hr7.below hb8 (Nat.le_refl _) hb8.size
 have hq8 : Wd .u16 w8.heap.size w8 (.slice ta tm tc) (n * p):=ht7.below hb8 (Nat.le_refl _) hb8.size
 have hsq:=qS4.size
 go_simp
 refine wpAnyD_tp (i:=12) (v:=Fv (.slice ra rm rc) (.slice ta tm tc)) rfl qS8 ?_
 refine wpAnyD_tp (i:=13) (v:=.int .i64 0) rfl qS8 ?_
 have q2:=q2.below qS8 q2.lt
 obtain ⟨d4,d5,d6,d7⟩:=q2.four
 have f4:=q2.free 0
 have f5:=q2.free 1
 have f6:=q2.free 2
 have f7:=q2.free 3
 refine wpAnyD_on (i:=14) rfl ?_
 go_simp
 refine wpAnyD_on (i:=15) rfl ?_
 go_simp
 refine wpAnyD_done (by kernel_rfl) ?_ _
 have x2:=(((q2.set (i:=0) (.bool false)).set (i:=1) (.slice ra rm rc)).set (i:=2) (.bool false)).set (i:=3) (.slice ta tm tc)
 obtain ⟨e0,e1,e2,e3⟩:=x2.four
 clear d4 d5 d6 d7 f4 f5 f6 f7
 have b8 : Below B w w8:=b2.trans (qS8.mono (by omega))
 have hs8:=qS8.size
 go_wp2_with fail
 refine bodyPost_ret (v:=.tuple #[Fv (.slice ra rm rc) (.slice ta tm tc),.int .i64 0]) (by simp [results,Tryz.results48,go_sem,e0,e1,e2,e3]) rfl ?_
 have hp9:=(((hp8.set (r:=B + 2) (i:=0) (x:=.bool false) hn1 (by omega)).set (r:=B + 2) (i:=1) (x:=.slice ra rm rc) hn1 (by omega)).set (r:=B + 2) (i:=2) (x:=.bool false) hn1 (by omega)).set (r:=B + 2) (i:=3) (x:=.slice ta tm tc) hn1 (by omega)
 have hq9:=(((hq8.set (r:=B + 2) (i:=0) (x:=.bool false) hn2 (by omega)).set (r:=B + 2) (i:=1) (x:=.slice ra rm rc) hn2 (by omega)).set (r:=B + 2) (i:=2) (x:=.bool false) hn2 (by omega)).set (r:=B + 2) (i:=3) (x:=.slice ta tm tc) hn2 (by omega)
 exact ⟨_,_,rfl,hp9.below (Below.refl w8.heap.size _) (Nat.le_refl _) (by simp [World.setCell]),hq9.below (Below.refl w8.heap.size _) (Nat.le_refl _) (by simp [World.setCell]),(((b8.setCell (p:=⟨B + 2,0,none⟩) (by simp) _).setCell (p:=⟨B + 2,1,none⟩) (by simp) _).setCell (p:=⟨B + 2,2,none⟩) (by simp) _).setCell (p:=⟨B + 2,3,none⟩) (by simp) _,hn1.mono (by omega),hn2.mono (by omega)⟩
def Agr (F : Nat -> Prop) (w W : World) : Prop:=∀ b o,F b -> w.heap[b]? = some o -> o.isCells = true -> W.heap[b]? = some o
theorem Agr.of {F : Nat -> Prop} {w W : World} (h : ∀ b,F b -> W.heap[b]? = w.heap[b]?) : Agr F w W:=fun b o hb ho _ => (h b hb).trans ho
def Btw (lo hi : Nat) (b : Nat) : Prop:=lo <= b /\ b < hi
def Zed (F : Nat -> Prop) (w : World) (R : Nat -> World -> Prop) : Prop:=∀ W K,Agr F w W -> (∀ b,F b -> b < K) -> R K W
section
variable {F G : Nat -> Prop} {w w' : World} {R : Nat -> World -> Prop}
theorem Zed.mono (h : Zed F w R) (hF : ∀ b,F b -> G b) : Zed G w R:=fun W K ha hK => h W K (fun b o hb => ha b o (hF b hb)) fun b hb => hK b (hF b hb)
theorem Zed.move (h : Zed F w R) (ha : Agr F w w') : Zed F w' R:=fun W K hb hK => h W K (fun b o hb' ho hc => hb b o hb' (ha b o hb' ho hc) hc) hK
theorem Zed.get (h : Zed F w R) (hF : ∀ b,F b -> b < w.heap.size) : R w.heap.size w:=h w _ (Agr.of fun _ _ => rfl) hF
theorem Zed.imp {R' : Nat -> World -> Prop} (h : Zed F w R) (hi : ∀ K W,R K W -> R' K W) : Zed F w R':=fun W K ha hK => hi K W (h W K ha hK)
theorem agr_below {B : Nat} (hb : Below B w w') (hF : ∀ b,F b -> b < B) : Agr F w w':=Agr.of fun b h => hb.block b (hF b h)
theorem agr_grown {row : Option Nat} (hg : w.grownBy w' row) (hF : ∀ b,F b -> b < w.heap.size) (hr : ∀ b,row = some b -> ¬ F b) : Agr F w w':=Agr.of fun b h => hg.block b (hF b h) fun e => hr b e.symm h
theorem Agr.trans {w'' : World} (h : Agr F w w') (h' : Agr F w' w'') : Agr F w w'':=fun b o hb ho hc => h' b o hb (h b o hb ho hc) hc
theorem Agr.mono (h : Agr G w w') (hF : ∀ b,F b -> G b) : Agr F w w':=fun b o hb => h b o (hF b hb)
end
theorem ownsRow_zed {F : Nat -> Prop} {base T c n : Nat} {w : World} {v : Value} {xs : List Value} (h : w.ownsRow base T c v n xs) (hF : ∀ b,v.ownBlock = some b -> F b) : Zed F w fun K W => (v = .slice none 0 0 /\ n = 0 \/ ∃ g,v.ownBlock = some g /\ g < K) /\ W.ownsRow base T c v n xs:=by
 intro W K ha hK
 obtain ⟨h1,h2⟩:=h
 rcases h2 with ⟨rfl,h0⟩ | ⟨g,cap,cur,rfl,hb,hg,h3⟩
 ·exact ⟨.inl ⟨rfl,h0⟩,h1,.inl ⟨rfl,h0⟩⟩
 ·exact ⟨.inr ⟨g,rfl,hK g (hF g rfl)⟩,h1,.inr ⟨g,cap,cur,rfl,hb,ha g _ (hF g rfl) hg rfl,h3⟩⟩
theorem OwnR.zed {F : Nat -> Prop} {c T base : Nat} {w : World} {v : Value} {rs : List (List Value)} (h : OwnR c T base w v rs) (hF : ∀ b,v.ownBlock = some b -> F b) :
  Zed F w fun K W => RowsV c (fun i j => ((rs[i]?.getD [])[j]?).getD undef) K W v rs.length:=by
 intro W K ha hK
 obtain ⟨h1,h2⟩:=ownsRow_zed h.1 hF W K ha hK
 have hr:=OwnR.rows (show OwnR c T base W v rs from ⟨h2,h.2⟩)
 obtain ⟨a,cap,hv,h3,h4,h5,h6⟩:=hr
 refine ⟨a,cap,hv,h3,h4,h5,fun i hi => ?_⟩
 obtain ⟨b,o,rfl,hb,hc⟩:=h6 i hi
 refine ⟨b,o,rfl,?_,hc⟩
 rcases h1 with ⟨h1,h0⟩ | ⟨g,hg,hgK⟩
 ·omega
 ·rw [hv] at hg
  simp only [Value.ownBlock,Option.some.injEq] at hg
  omega
theorem lm_own {base : Nat} {w : World} {v : Value} {l : List Nat} (h : w.ownsRow base 85 1 v l.length (l.map D16)) (hd : ∀ d ∈ l,d < 65536) {F : Nat -> Prop} (hF : ∀ b,v.ownBlock = some b -> F b) : Zed F w fun K W => Lm K W v l:=by
 intro W K ha hK
 obtain ⟨h1,h2⟩:=ownsRow_zed h hF W K ha hK
 refine ⟨?_,hd⟩
 rcases h2.2 with ⟨rfl,h0⟩ | ⟨g,cap,cur,rfl,hb,hg,hn,hm,hs,ht⟩
 ·rw [h0]; exact RowsV.nil none 0 (by simp [maxLen]) fun _ => rfl
 ·have hgK : g < K:=by
   rcases h1 with ⟨h1,_⟩ | ⟨g',h1,h3⟩
   ·cases h1
   ·simp only [Value.ownBlock,Option.some.injEq] at h1; omega
  refine RowsV.mk_cells hn hm hgK fun i hi j hj => ?_
  obtain rfl : j = 0:=by omega
  have := World.ownsRow.cells h2 (g:=g) rfl i (D16 (l[i]?.getD 0)) (by simp [hi])
  rw [Addr.add] at this
  by_cases h0 : i = 0
  ·subst h0; simpa using this
  ·simpa [h0] using this
theorem D16_one (l : List Nat) : ∀ u ∈ l.map D16,u.oneCell' = true:=by
 intro u hu
 obtain ⟨d,_,rfl⟩:=List.mem_map.1 hu
 rfl
theorem eql_nil_limbs (w : World) (a : Option Addr) (n c : Nat) : (binOp .eql 22 (.slice a n c) (.slice none 0 0)).run Tryz.prog w = .ok (.bool a.isNone) w:=Lib.run_eql_slice_nil w _ _ a n c 0 0 Tryz.underlying22
theorem cloneL_any (K : Nat) (v : Value) (l : List Nat) (w : World) (h : Lm K w v l) (hK : K <= w.heap.size) (hl : l.length <= 2 ^ 40) :
  Calls Tryz.prog 45 #[v] w fun e w' => ∃ v',e = .returned v' /\ Zed (Btw w.heap.size w'.heap.size) w' (fun K W => Lm K W v' l) /\ Below w.heap.size w w':=by
 have hq:=eql_nil_limbs
 have hd:=h.2
 obtain ⟨i0,hi,hz0,hz1,hz2⟩:=info_parts Tryz.infoU16
 obtain ⟨a,cap,rfl,hn,hm,hz,hc⟩:=h.1
 cases a with
 | none =>
  have h0 : l = []:=by
   cases l with
   | nil => rfl
   | cons d r => obtain ⟨b',o',h,_⟩:=hc 0 (by simp); cases h
  subst h0
  obtain rfl:=hz rfl
  go_enter Tryz.func45,Tryz.ntmps45
  go_wp2_with fail
  go_ret
  exact ⟨_,rfl,fun W K _ _ => Lm.nil K W,Below.refl _ _⟩
 | some ad =>
  go_enter Tryz.func45,Tryz.ntmps45
  go_wp2_with (at_builtin; refine wpList_append_own _ rfl _ _ 22 rfl w.heap.size 85 i0 (.int .u16 0) 1 2 Tryz.underlying22 hi hz0 hz1 hz2 rfl (by decide) _ _ _ rfl (World.ownsRow_made w #[] 0 (Nat.le_refl _) (Nat.zero_le _) rfl) ad l.length cap (l.map D16) rfl (by simp) ?qc2 (D16_one l) ?qc4 ?qc5 ?qc6 ?_)
  case qc2 =>
   intro j u hj
   have hjn : j < l.length:=(List.getElem?_eq_some_iff.1 hj).1
   obtain ⟨b,o,he,hbK,hcell⟩:=hc j hjn
   simp only [Option.some.injEq] at he
   subst he
   have h0:=hcell 0 (by omega)
   rw [hj] at h0
   rw [addr_add]
   refine (Below.cell ((Below.refl w.heap.size w).alloc (Nat.le_refl _) _) (p:=⟨b,o + j,none⟩) (by simp; omega)).trans ?_
   simpa using h0
  case qc4 => simp [maxLen]; omega
  case qc5 => omega
  intro v' w1 hown hgrow hnil
  have hb1 : Below w.heap.size w w1:=((Below.refl _ w).alloc (Nat.le_refl _) (.cells #[] 85)).grown hgrow (by simp) (by intro k hk; simp [Value.ownBlock] at hk; omega)
  go_wp2_with fail
  go_ret
  have hown' : w1.ownsRow w.heap.size 85 1 v' l.length (l.map D16):=by simpa using hown
  exact ⟨v',rfl,lm_own hown' hd fun b hb => ⟨(ownsRow_cells hown' hb).1,ownsRow_lt hown' hb⟩,hb1⟩
end Go.Proofs.YtlldjmagbjjeoaaGreat
