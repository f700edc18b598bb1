/- Contracts and plain laws, several texts in one (DStO, DlAwS, DBlk, DlSv, DChain, GSmpO). No conditions beyond those stated. -/
import Derived.Test.YtlidpghnlloinaaGreatDoorPk30
set_option maxRecDepth 100000
set_option maxHeartbeats 40000000
namespace Go.Proofs.YtlidpghnlloinaaGreatDoor
open Go.RowKit
set_option linter.unusedVariables false
def stO (scs : List Sc) (es : List Gx) : DSt:=(tgt (lfS scs es) (pcs scs) 0 [] DSt.no).2
def rtO (scs : List Sc) (es : List Gx) : Int:=(tgt (lfS scs es) (pcs scs) 0 [] DSt.no).1
theorem dgO (scs : List Sc) (es : List Gx) (h : ∀ p ∈ pcs scs,p.Nodup /\ p ≠ []) : DgOk (pcs scs) (lfS scs es) (stO scs es) (rtO scs es):=dg_ok h
def DgN (L : Nat) (V : World) (y : Dv) (scs : List Sc) (es : List Gx) : Prop:=∀ W,NewW L V W -> DgX W.heap.size W y scs (stO scs es) (rtO scs es)
theorem DgN.move {L : Nat} {V W : World} {y : Dv} {scs : List Sc} {es : List Gx} (h : DgN L V y scs es) (hb : Below V.heap.size V W) : DgN L W y scs es:=fun X hx => h X ((NewW.of hb).trans hx)
theorem DgN.now {L : Nat} {V : World} {y : Dv} {scs : List Sc} {es : List Gx} (h : DgN L V y scs es) : DgX V.heap.size V y scs (stO scs es) (rtO scs es):=h V (NewW.refl _ _)
def aboveG : Gx:=.mk 13 [] v0 [conV (wV 2 60),agnG]
def nlessG : Gx:=.mk 17 [] v0 [lessG 60]
def sc60 : Sc:=⟨agnG,2,[wV 2 60]⟩
def sc65 : Sc:=⟨agnG,2,[wV 2 60,wV 2 65]⟩
theorem dl_sa : scalesS [lessG 60,nlessG] = ([sc60],0):=by kernel_rfl
theorem dl_sb : scalesS [lessG 60,aboveG] = ([sc60],0):=by kernel_rfl
theorem dl_sc : scalesS [lessG 60,lessG 65] = ([sc65],0):=by kernel_rfl
theorem dl_sd : scalesS [] = ([],0):=by kernel_rfl
theorem dl_good : (lessG 60).good = true /\ nlessG.good = true /\ aboveG.good = true /\ (lessG 65).good = true:=⟨by kernel_rfl,by kernel_rfl,by kernel_rfl,by kernel_rfl⟩
theorem dl_c60 : cellsS sc60 = [0,1,2]:=by kernel_rfl
theorem dl_c65 : cellsS sc65 = [0,1,2,3,4]:=by kernel_rfl
theorem dl_ok60 : sc60.okB = true:=by kernel_rfl
theorem dl_ok65 : sc65.okB = true:=by kernel_rfl
theorem dl_ta : (tgt (lfS [sc60] [lessG 60,nlessG]) (pcs [sc60]) 0 [] DSt.no).2 = ⟨[(0,[-1,-2,-2])],[[0],[1]]⟩:=by kernel_rfl
theorem dl_td : (tgt (lfS [] []) (pcs []) 0 [] DSt.no).2 = ⟨[],[[]]⟩:=by kernel_rfl
theorem dl_lb0 : lfS [sc60] [lessG 60,aboveG] [0] = [0]:=by kernel_rfl
theorem dl_lb1 : lfS [sc60] [lessG 60,aboveG] [1] = []:=by kernel_rfl
theorem dl_lc0 : lfS [sc65] [lessG 60,lessG 65] [0] = [0,1]:=by kernel_rfl
theorem dl_lc1 : lfS [sc65] [lessG 60,lessG 65] [1] = [1]:=by kernel_rfl
theorem dl_lc2 : lfS [sc65] [lessG 60,lessG 65] [2] = [1]:=by kernel_rfl
theorem dl_lc3 : lfS [sc65] [lessG 60,lessG 65] [3] = []:=by kernel_rfl
theorem dl_cg60 : ∀ c ∈ sc60.cuts,c.good = true:=by intro v hv; simp only [sc60,List.mem_cons,List.not_mem_nil,or_false] at hv; rcases hv with rfl; kernel_rfl
theorem dl_cg65 : ∀ c ∈ sc65.cuts,c.good = true:=by intro v hv; simp only [sc65,List.mem_cons,List.not_mem_nil,or_false] at hv; rcases hv with rfl | rfl <;> kernel_rfl
structure OneSc (s : Sc) : Prop where
 good : ScGood [s]
 okD : ScOkD [s]
 okB : ∀ t ∈ [s],t.okB = true
 pc : ∀ p ∈ pcs [s],p.Nodup /\ p ≠ []
 prod : prodL (pcs [s]) <= 8192
theorem one60 : OneSc sc60 where
 good:=fun t ht => by obtain rfl:=List.mem_singleton.1 ht; exact ⟨dl_cg60,by decide⟩
 okD:=fun t ht => by obtain rfl:=List.mem_singleton.1 ht; exact ⟨dl_cg60,by decide,by rw [dl_c60]; simp,fun c hc => by rw [dl_c60] at hc; simp at hc; omega⟩
 okB:=fun t ht => by obtain rfl:=List.mem_singleton.1 ht; exact dl_ok60
 pc:=fun p hp => by
  obtain rfl : p = cellsS sc60:=by simpa [pcs] using hp
  rw [dl_c60]; decide
 prod:=by show prodL [cellsS sc60] <= 8192; rw [dl_c60]; decide
theorem one65 : OneSc sc65 where
 good:=fun t ht => by obtain rfl:=List.mem_singleton.1 ht; exact ⟨dl_cg65,by decide⟩
 okD:=fun t ht => by obtain rfl:=List.mem_singleton.1 ht; exact ⟨dl_cg65,by decide,by rw [dl_c65]; simp,fun c hc => by rw [dl_c65] at hc; simp at hc; omega⟩
 okB:=fun t ht => by obtain rfl:=List.mem_singleton.1 ht; exact dl_ok65
 pc:=fun p hp => by
  obtain rfl : p = cellsS sc65:=by simpa [pcs] using hp
  rw [dl_c65]; decide
 prod:=by show prodL [cellsS sc65] <= 8192; rw [dl_c65]; decide
theorem dgvO {s : Sc} (es : List Gx) (h : OneSc s) : DgV [s] (stO [s] es) (rtO [s] es):=dgv_ok es (by simp) h.okB h.pc (by have := h.prod; omega)
theorem dgv_no : DgV [] (stO [] []) (rtO [] []):=dgv_ok [] (by simp) (fun s hs => by cases hs) (fun p hp => by cases hp) (by decide)
theorem srch_one {s : Sc} {es : List Gx} {Wp : List Nat -> Bool} {B : Nat} {e : Ending} {w' : World} (h : ∀ p ∈ pcs [s],p.Nodup /\ p ≠ []) (hs : SrchQ [s] (stO [s] es) (rtO [s] es) Wp B e w') {c0 : Nat} (hc0 : c0 ∈ cellsS s) (hw0 : Wp (lfS [s] es [c0]) = true) :
  ∃ v c,e = .returned (.tuple #[v,.bool true]) /\ OwnN B w' v [c] /\ c ∈ cellsS s /\ Wp (lfS [s] es [c]) = true /\ c <= c0:=by
 have hd:=dgO [s] es h
 have hin : ∀ c,c ∈ cellsS s -> CellsIn (pcs [s]) [c]:=fun c hc => CellsIn.cons hc CellsIn.nil
 rcases hs with ⟨_,hn⟩ | ⟨v,cs,l,rfl,hown,hcs,hev,hw,hle⟩
 ·exact absurd ((hd.gets Wp).2 ((hd.leaves Wp).2 ⟨[c0],hin c0 hc0,hw0⟩)) hn
 ·obtain ⟨c,r,rfl,hc,hr⟩:=CellsIn.open (p:=cellsS s) (P:=[]) hcs
  obtain rfl : r = []:=List.eq_nil_of_length_eq_zero hr.1
  have hl : l = lfS [s] es [c]:=hev.fun (hd.ev [c] hcs)
  subst hl
  refine ⟨v,c,rfl,hown,hc,hw,?_⟩
  rcases hle [c0] _ (hin c0 hc0) (hd.ev [c0] (hin c0 hc0)) hw0 with ⟨i,h1,_⟩ | h1
  ·rcases i with _ | i
   ·simp at h1; omega
   ·simp at h1
  ·have := h1 0; simp at this; omega
theorem gap_b {B : Nat} {e : Ending} {w' : World} (hs : SrchQ [sc60] (stO [sc60] [lessG 60,aboveG]) (rtO [sc60] [lessG 60,aboveG]) (fun l => l.length == 0) B e w') : ∃ v,e = .returned (.tuple #[v,.bool true]) /\ OwnN B w' v [1]:=by
 obtain ⟨v,c,rfl,hown,hc,hw,hle⟩:=srch_one one60.pc hs (c0:=1) (by rw [dl_c60]; simp) (by rw [dl_lb1]; rfl)
 rw [dl_c60] at hc
 simp only [List.mem_cons,List.not_mem_nil,or_false] at hc
 rcases hc with rfl | rfl | rfl
 ·rw [dl_lb0] at hw; cases hw
 ·exact ⟨v,rfl,hown⟩
 ·omega
theorem gap_c {B : Nat} {e : Ending} {w' : World} (hs : SrchQ [sc65] (stO [sc65] [lessG 60,lessG 65]) (rtO [sc65] [lessG 60,lessG 65]) (fun l => l.length == 0) B e w') : ∃ v,e = .returned (.tuple #[v,.bool true]) /\ OwnN B w' v [3]:=by
 obtain ⟨v,c,rfl,hown,hc,hw,hle⟩:=srch_one one65.pc hs (c0:=3) (by rw [dl_c65]; simp) (by rw [dl_lc3]; rfl)
 rw [dl_c65] at hc
 simp only [List.mem_cons,List.not_mem_nil,or_false] at hc
 rcases hc with rfl | rfl | rfl | rfl | rfl
 ·rw [dl_lc0] at hw; cases hw
 ·rw [dl_lc1] at hw; cases hw
 ·rw [dl_lc2] at hw; cases hw
 ·exact ⟨v,rfl,hown⟩
 ·omega
theorem over_c {B : Nat} {e : Ending} {w' : World} (hs : SrchQ [sc65] (stO [sc65] [lessG 60,lessG 65]) (rtO [sc65] [lessG 60,lessG 65]) (fun l => decide (1 < l.length)) B e w') : ∃ v,e = .returned (.tuple #[v,.bool true]) /\ OwnN B w' v [0]:=by
 obtain ⟨v,c,rfl,hown,hc,hw,hle⟩:=srch_one one65.pc hs (c0:=0) (by rw [dl_c65]; simp) (by rw [dl_lc0]; rfl)
 obtain rfl : c = 0:=by omega
 exact ⟨v,rfl,hown⟩
theorem gap_d {B : Nat} {e : Ending} {w' : World} (hs : SrchQ [] (stO [] []) (rtO [] []) (fun l => l.length == 0) B e w') : ∃ v,e = .returned (.tuple #[v,.bool true]) /\ OwnN B w' v []:=by
 have hd:=dgO [] [] (fun p hp => by cases hp)
 rcases hs with ⟨_,hn⟩ | ⟨v,cs,l,rfl,hown,hcs,hev,hw,hle⟩
 ·exact absurd ((hd.gets _).2 ((hd.leaves _).2 ⟨[],CellsIn.nil,by rfl⟩)) hn
 ·obtain rfl : cs = []:=List.eq_nil_of_length_eq_zero hcs.1
  exact ⟨v,rfl,hown⟩
theorem comp_a : ¬ Gets (stO [sc60] [lessG 60,nlessG]) (fun l => l.length != 1) (rtO [sc60] [lessG 60,nlessG]):=by
 rw [(dgO [sc60] [lessG 60,nlessG] one60.pc).gets]
 have e : (stO [sc60] [lessG 60,nlessG]).lvs = [[0],[1]]:=by unfold stO; rw [dl_ta]
 rw [e]
 simp
theorem comp_d : Gets (stO [] []) (fun l => l.length != 1) (rtO [] []):=by
 rw [(dgO [] [] (fun p hp => by cases hp)).gets]
 have e : (stO [] []).lvs = [[]]:=by unfold stO; rw [dl_td]
 rw [e]
 simp
theorem blk_fst {b t : Nat} {w : World} {x y : Xv} (hq : Blk w b (cells2 x y) t) : w.rangeAt b 0 x.cells.toList:=by
 intro j v hj
 rcases j with _ | _ | _ | _ | _ | _ | _ | _ | _ | j
 case succ.succ.succ.succ.succ.succ.succ.succ.succ => simp at hj
 all_goals (simp at hj; subst hj; exact hq.at rfl)
theorem blk_snd {b t : Nat} {w : World} {x y : Xv} (hq : Blk w b (cells2 x y) t) : w.rangeAt b 9 y.cells.toList:=by
 intro j v hj
 rcases j with _ | _ | _ | _ | _ | _ | _ | _ | _ | j
 case succ.succ.succ.succ.succ.succ.succ.succ.succ => simp at hj
 all_goals (simp at hj; subst hj; exact hq.at rfl)
theorem ksamevalue_one (K m n : Nat) (x y : Vv) (w : World) (hx : VlX K w ⟨2,false,[m],false,[n],0⟩ x) (hy : VlX K w ⟨2,false,[m],false,[n],0⟩ y) (hK : K <= w.heap.size) : Calls Tryz.prog 18 #[x.agg,y.agg] w fun e w' => e = .returned (.bool true) /\ Below w.heap.size w w':=by
 obtain ⟨xk,xb1,xs1,xb2,xs2,xi⟩:=x
 obtain ⟨yk,yb1,ys1,yb2,ys2,yi⟩:=y
 obtain ⟨rfl,rfl,rfl,rfl,hu,hv⟩:=hx
 obtain ⟨rfl,rfl,rfl,rfl,hx,hy⟩:=hy
 obtain ⟨W1,hW1⟩ : ∃ W1,(w.alloc (.cells #[.int .u8 2,.bool false,xs1,.bool false,xs2,.int .i64 0] 47)).alloc (.cells #[.int .u8 2,.bool false,ys1,.bool false,ys2,.int .i64 0] 47) = W1:=⟨_,rfl⟩
 have b1 : Below w.heap.size w W1:=by rw [<- hW1]; exact ((Below.refl _ _).alloc (Nat.le_refl _) _).alloc (by simp) _
 have q0 : Blk W1 w.heap.size #[.int .u8 2,.bool false,xs1,.bool false,xs2,.int .i64 0] 47:=by rw [<- hW1]; exact (Blk.new w _ _).alloc _
 have q1 : Blk W1 (w.heap.size + 1) #[.int .u8 2,.bool false,ys1,.bool false,ys2,.int .i64 0] 47:=by
  rw [<- hW1]
  have := Blk.new (w.alloc (.cells #[.int .u8 2,.bool false,xs1,.bool false,xs2,.int .i64 0] 47)) #[.int .u8 2,.bool false,ys1,.bool false,ys2,.int .i64 0] 47
  rwa [World.size_alloc] at this
 have hs:=b1.size
 have hc:=ksamefrac_any w.heap.size m n xs1 xs2 ys1 ys2 W1 (hu.below b1 hK hK) (hv.below b1 hK hK) (hx.below b1 hK hK) (hy.below b1 hK hK) hs
 have s1 : W1.heap.size = w.heap.size + 2:=by rw [<- hW1]; simp
 obtain ⟨B,hB⟩ : ∃ B,w.heap.size = B:=⟨_,rfl⟩
 have HB:=Lib.hid hB
 have HW:=Lib.hid hW1
 rw [hB] at b1 q0 q1 hs s1 ⊢
 obtain ⟨ua,uc,rfl⟩:=hu.one
 obtain ⟨va,vc,rfl⟩:=hv.one
 obtain ⟨xa,xc,rfl⟩:=hx.one
 obtain ⟨ya,yc,rfl⟩:=hy.one
 obtain ⟨d0,d1,d2,d3,d4,d5⟩:=q0.six
 obtain ⟨e0,e1,e2,e3,e4,e5⟩:=q1.six
 clear hB hW1
 go_enter Tryz.func18,Tryz.ntmps18
 go_upto_region 1 with fail
 simp only [HB.out]
 rw [HW.out]
 go_wp2_with fail
 refine hc.mono ?_
 rintro e w2 ⟨rfl,hb2⟩
 clear hc d0 d1 d2 d3 d4 d5 e0 e1 e2 e3 e4 e5
 obtain ⟨d0,d1,d2,d3,d4,d5⟩:=(q0.below hb2 (by omega)).six
 obtain ⟨e0,e1,e2,e3,e4,e5⟩:=(q1.below hb2 (by omega)).six
 go_wp2_with fail
 go_ret
 exact ⟨rfl,b1.trans (hb2.mono hs)⟩
theorem put_comm (a : Act) {d d' : Option Tmp} (hne : d ≠ d') (v v' : Value) : (a.put d v).put d' v' = (a.put d' v').put d v:=by
 cases d with
 | none => cases d' <;> rfl
 | some i => cases d' with
  | none => rfl
  | some j =>
   simp only [Act.put]
   congr 1
   exact Array.setIfInBounds_comm _ _ (fun e => hne (by rw [e]))
theorem put_same (a : Act) (d : Option Tmp) : ∃ v,a.put d v = a:=by
 cases d with
 | none => exact ⟨undef,rfl⟩
 | some i =>
  by_cases h : i < a.tmps.size
  ·refine ⟨a.tmps[i],?_⟩
   simp only [Act.put]
   rw [Array.setIfInBounds_def,dif_pos h,Array.set_getElem_self]
  ·refine ⟨undef,?_⟩
   simp only [Act.put]
   rw [Array.setIfInBounds_def,dif_neg h]
theorem put_over {a b : Act} {d d' : Option Tmp} {v q : Value} (hne : d ≠ d') (h : a.put d' q = b) : (a.put d v).put d' q = b.put d v:=by rw [put_comm _ hne,h]
theorem put_twice (a : Act) (d : Option Tmp) (p q : Value) : (a.put d p).put d q = a.put d q:=by
 cases d with
 | none => rfl
 | some i => simp only [Act.put,Array.setIfInBounds_setIfInBounds]
def tupA (v : Value) (i : Nat) : Value:=match v with | .tuple vs => vs.getD i undef | _ => undef
section
variable {P : Program} {ops : Array Oper} {Q : Exit -> Act -> World -> Prop} {md : Region.Mode} {S : World -> Prop}
theorem wpAnyD_chain1X {c1 i : Nat} {oc1 oi : Oper} {fuel : Nat} (d1 di : Option Tmp) (m : Nat) {listed L0 L1 : Array Bool} {A : Value -> Value -> Act} {a : Act} {w : World} (ty : TypeId) (z : Array Value)
  (F0 : (Nat -> Prop) -> World -> Prop)
  (F1 : Value -> (Nat -> Prop) -> World -> Prop)
  (hr0 : Region.ready md ops listed = [c1,i]) (hs0 : Region.ready md ops (listed.setIfInBounds i true) = [c1])
  (hrn : Region.ready md ops L0 = [i]) (hL : L0.setIfInBounds i true = L1)
  (hd1 : oc1.dst = d1) (hoc1 : ops[c1]? = some oc1) (hwc1 : ∀ t,Region.wanted oc1 (yielded ops t) = true) (hnec1 : d1 ≠ di)
  (hSm : ∀ W W',S W -> Below W.heap.size W W' -> S W') (hSw : S w)
  (hdi : oi.dst = di) (hoi : ops[i]? = some oi) (hwi : ∀ t,Region.wanted oi (yielded ops t) = true)
  (halloc : ∀ (a : Act) (W : World) (K : Act -> World -> Prop),K (a.put di (.pointer (some ⟨W.heap.size,0,none⟩))) (W.alloc (.cells z ty)) -> oi.wp P a W K Q)
  (st0 : ∀ Fp W W',F0 Fp W -> Below W.heap.size W W' -> F0 Fp W')
  (st1 : ∀ v1 Fp W W',F1 v1 Fp W -> Below W.heap.size W W' -> F1 v1 Fp W')
  (step1 : ∀ Fp W p,F0 Fp W -> ∀ KK : Act -> World -> Prop,(∀ v1 Fp' W',F1 v1 Fp' W' -> (∀ b,Fp' b -> Fp b \/ Btw W.heap.size W'.heap.size b) -> Below W.heap.size W W' -> KK ((a.put di p).put d1 v1) W') -> oc1.wp P (a.put di p) W KK Q)
  (htk0 : ∀ v1 p Fp W',F1 v1 Fp W' -> S W' -> wpAnyD P md ops Q S [] (fuel + 1) L0 (A p v1) W' -> wpAnyD P md ops Q S [] (fuel + m + 1) (listed.setIfInBounds c1 true) ((a.put di p).put d1 v1) W')
  (htk1 : ∀ v1 p Fp W',F1 v1 Fp W' -> S W' -> wpAnyD P md ops Q S [] fuel L1 (A p v1) W' -> wpAnyD P md ops Q S [] (fuel + m) ((listed.setIfInBounds c1 true).setIfInBounds i true) ((a.put di p).put d1 v1) W')
  (hA : ∀ v1 p q,(A p v1).put di q = A q v1)
  (h0 : F0 (fun _ => False) w)
  (h : ∀ v1 Fp k W',F1 v1 Fp W' -> ¬ Fp k -> S W' -> Blk W' k z ty -> w.heap.size <= k -> Below w.heap.size w W' -> wpAnyD P md ops Q S [] fuel L1 (A (.pointer (some ⟨k,0,none⟩)) v1) W') :
  wpAnyD P md ops Q S [] (fuel + m + 1 + 1) listed a w:=by
 subst hd1 hdi
 have hdc1 : c1 ≠ i:=fun e => by subst e; rw [hoc1] at hoi; cases hoi; exact hnec1 rfl
 have al : ∀ (W : World),Below W.heap.size W (W.alloc (.cells z ty)):=fun W => (Below.refl _ _).alloc (Nat.le_refl _) _
 have e0 : ∀ p,(a).put oi.dst p = (a.put oi.dst p):=fun p => by
  rfl
 have e1 : ∀ v1 p,((a.put oc1.dst v1)).put oi.dst p = ((a.put oi.dst p).put oc1.dst v1):=fun v1 p => by
  rw [put_comm _ hnec1]
 have t1 : ∀ v1 Fp k W',F1 v1 Fp W' -> ¬ Fp k -> Blk W' k z ty -> w.heap.size <= k -> Below w.heap.size w W' -> wpAnyD P md ops Q S [] (fuel + m + 0) ((listed.setIfInBounds c1 true).setIfInBounds i true) ((a.put oi.dst (.pointer (some ⟨k,0,none⟩))).put oc1.dst v1) W':=fun v1 Fp k W' f nk q hk b => by
  exact htk1 v1 _ Fp W' f (hSm _ _ hSw b) (h v1 Fp k W' f nk (hSm _ _ hSw b) q hk b)
 have t0 : ∀ Fp k W',F0 Fp W' -> ¬ Fp k -> Blk W' k z ty -> w.heap.size <= k -> Below w.heap.size w W' -> wpAnyD P md ops Q S [] (fuel + m + 1) (listed.setIfInBounds i true) (a.put oi.dst (.pointer (some ⟨k,0,none⟩))) W':=fun Fp k W' f nk q hk b => by
  refine wpAnyD_one hs0 hoc1 (hwc1 _) ?_
  refine step1 Fp W' _ f _ fun v1 Fp2 W2 f2 hf2 b2 => ⟨fun _ => hSm _ _ hSw (b.trans (b2.mono b.size)),?_⟩
  rw [Array.setIfInBounds_comm _ _ (Ne.symm hdc1)]
  exact t1 v1 Fp2 k W2 f2 (fun h2 => (hf2 k h2).elim nk fun h3 => absurd h3.1 (Nat.not_le_of_lt q.lt)) ((b2.block k q.lt).trans q) hk (b.trans (b2.mono b.size))
 have g1 : ∀ v1 Fp W',F1 v1 Fp W' -> (∀ b,Fp b -> b < W'.heap.size) -> Below w.heap.size w W' -> wpAnyD P md ops Q S [] (fuel + m + 0 + 1) (listed.setIfInBounds c1 true) (a.put oc1.dst v1) W':=fun v1 Fp W' f lf b => by
  obtain ⟨p,hp⟩:=put_same (a.put oc1.dst v1) oi.dst
  rw [e1] at hp
  rw [<- hp]
  refine htk0 v1 p Fp W' f (hSm _ _ hSw b) ?_
  refine wpAnyD_one hrn hoi (hwi _) (halloc _ _ _ ⟨fun _ => hSm _ _ hSw (b.trans ((al W').mono b.size)),?_⟩)
  rw [hA,hL]
  exact h v1 Fp _ _ (st1 v1 Fp _ _ f (al W')) (fun h2 => absurd (lf _ h2) (Nat.lt_irrefl _)) (hSm _ _ hSw (b.trans ((al W').mono b.size))) (Blk.new W' _ _) b.size (b.trans ((al W').mono b.size))
 have g0 : ∀ Fp W',F0 Fp W' -> (∀ b,Fp b -> b < W'.heap.size) -> Below w.heap.size w W' -> wpAnyD P md ops Q S [] (fuel + m + 1 + 1) listed a W':=fun Fp W' f lf b => by
  refine wpAnyD_two hr0 hoc1 hoi (hwc1 _) (hwi _) ?_ (halloc _ _ _ ⟨fun _ => hSm _ _ hSw (b.trans ((al W').mono b.size)),(e0 _).symm ▸ t0 Fp _ _ (st0 Fp _ _ f (al W')) (fun h2 => absurd (lf _ h2) (Nat.lt_irrefl _)) (Blk.new W' _ _) b.size (b.trans ((al W').mono b.size))⟩)
  obtain ⟨p,hp⟩:=put_same a oi.dst
  rw [e0] at hp
  rw [<- hp]
  refine step1 Fp W' p f _ fun v1 Fp2 W2 f2 hf2 b2 => ⟨fun _ => hSm _ _ hSw (b.trans (b2.mono b.size)),?_⟩
  rw [hp]
  exact g1 v1 Fp2 W2 f2 (fun b3 h3 => (hf2 b3 h3).elim (fun h4 => Nat.lt_of_lt_of_le (lf b3 h4) b2.size) fun h4 => h4.2) (b.trans (b2.mono b.size))
 exact g0 _ w h0 (fun _ h => h.elim) (Below.refl _ _)
theorem wpAnyD_chain2X {c1 c2 i : Nat} {oc1 oc2 oi : Oper} {fuel : Nat} (d1 d2 di : Option Tmp) (m : Nat) {listed L0 L1 : Array Bool} {A : Value -> Value -> Value -> Act} {a : Act} {w : World} (ty : TypeId) (z : Array Value)
  (F0 : (Nat -> Prop) -> World -> Prop)
  (F1 : Value -> (Nat -> Prop) -> World -> Prop)
  (F2 : Value -> Value -> (Nat -> Prop) -> World -> Prop)
  (hr0 : Region.ready md ops listed = [c1,i]) (hs0 : Region.ready md ops (listed.setIfInBounds i true) = [c1])
  (hr1 : Region.ready md ops (listed.setIfInBounds c1 true) = [c2,i]) (hs1 : Region.ready md ops ((listed.setIfInBounds c1 true).setIfInBounds i true) = [c2])
  (hrn : Region.ready md ops L0 = [i]) (hL : L0.setIfInBounds i true = L1)
  (hd1 : oc1.dst = d1) (hoc1 : ops[c1]? = some oc1) (hwc1 : ∀ t,Region.wanted oc1 (yielded ops t) = true) (hnec1 : d1 ≠ di)
  (hd2 : oc2.dst = d2) (hoc2 : ops[c2]? = some oc2) (hwc2 : ∀ t,Region.wanted oc2 (yielded ops t) = true) (hnec2 : d2 ≠ di)
  (hSm : ∀ W W',S W -> Below W.heap.size W W' -> S W') (hSw : S w)
  (hdi : oi.dst = di) (hoi : ops[i]? = some oi) (hwi : ∀ t,Region.wanted oi (yielded ops t) = true)
  (halloc : ∀ (a : Act) (W : World) (K : Act -> World -> Prop),K (a.put di (.pointer (some ⟨W.heap.size,0,none⟩))) (W.alloc (.cells z ty)) -> oi.wp P a W K Q)
  (st0 : ∀ Fp W W',F0 Fp W -> Below W.heap.size W W' -> F0 Fp W')
  (st1 : ∀ v1 Fp W W',F1 v1 Fp W -> Below W.heap.size W W' -> F1 v1 Fp W')
  (st2 : ∀ v1 v2 Fp W W',F2 v1 v2 Fp W -> Below W.heap.size W W' -> F2 v1 v2 Fp W')
  (step1 : ∀ Fp W p,F0 Fp W -> ∀ KK : Act -> World -> Prop,(∀ v1 Fp' W',F1 v1 Fp' W' -> (∀ b,Fp' b -> Fp b \/ Btw W.heap.size W'.heap.size b) -> Below W.heap.size W W' -> KK ((a.put di p).put d1 v1) W') -> oc1.wp P (a.put di p) W KK Q)
  (step2 : ∀ v1 Fp W p,F1 v1 Fp W -> ∀ KK : Act -> World -> Prop,(∀ v2 Fp' W',F2 v1 v2 Fp' W' -> (∀ b,Fp' b -> Fp b \/ Btw W.heap.size W'.heap.size b) -> Below W.heap.size W W' -> KK (((a.put di p).put d1 v1).put d2 v2) W') -> oc2.wp P ((a.put di p).put d1 v1) W KK Q)
  (htk0 : ∀ v1 v2 p Fp W',F2 v1 v2 Fp W' -> S W' -> wpAnyD P md ops Q S [] (fuel + 1) L0 (A p v1 v2) W' -> wpAnyD P md ops Q S [] (fuel + m + 1) ((listed.setIfInBounds c1 true).setIfInBounds c2 true) (((a.put di p).put d1 v1).put d2 v2) W')
  (htk1 : ∀ v1 v2 p Fp W',F2 v1 v2 Fp W' -> S W' -> wpAnyD P md ops Q S [] fuel L1 (A p v1 v2) W' -> wpAnyD P md ops Q S [] (fuel + m) (((listed.setIfInBounds c1 true).setIfInBounds c2 true).setIfInBounds i true) (((a.put di p).put d1 v1).put d2 v2) W')
  (hA : ∀ v1 v2 p q,(A p v1 v2).put di q = A q v1 v2)
  (h0 : F0 (fun _ => False) w)
  (h : ∀ v1 v2 Fp k W',F2 v1 v2 Fp W' -> ¬ Fp k -> S W' -> Blk W' k z ty -> w.heap.size <= k -> Below w.heap.size w W' -> wpAnyD P md ops Q S [] fuel L1 (A (.pointer (some ⟨k,0,none⟩)) v1 v2) W') :
  wpAnyD P md ops Q S [] (fuel + m + 2 + 1) listed a w:=by
 subst hd1 hd2 hdi
 have hdc1 : c1 ≠ i:=fun e => by subst e; rw [hoc1] at hoi; cases hoi; exact hnec1 rfl
 have hdc2 : c2 ≠ i:=fun e => by subst e; rw [hoc2] at hoi; cases hoi; exact hnec2 rfl
 have al : ∀ (W : World),Below W.heap.size W (W.alloc (.cells z ty)):=fun W => (Below.refl _ _).alloc (Nat.le_refl _) _
 have e0 : ∀ p,(a).put oi.dst p = (a.put oi.dst p):=fun p => by
  rfl
 have e1 : ∀ v1 p,((a.put oc1.dst v1)).put oi.dst p = ((a.put oi.dst p).put oc1.dst v1):=fun v1 p => by
  rw [put_comm _ hnec1]
 have e2 : ∀ v1 v2 p,(((a.put oc1.dst v1).put oc2.dst v2)).put oi.dst p = (((a.put oi.dst p).put oc1.dst v1).put oc2.dst v2):=fun v1 v2 p => by
  rw [put_comm _ hnec2,put_comm _ hnec1]
 have t2 : ∀ v1 v2 Fp k W',F2 v1 v2 Fp W' -> ¬ Fp k -> Blk W' k z ty -> w.heap.size <= k -> Below w.heap.size w W' -> wpAnyD P md ops Q S [] (fuel + m + 0) (((listed.setIfInBounds c1 true).setIfInBounds c2 true).setIfInBounds i true) (((a.put oi.dst (.pointer (some ⟨k,0,none⟩))).put oc1.dst v1).put oc2.dst v2) W':=fun v1 v2 Fp k W' f nk q hk b => by
  exact htk1 v1 v2 _ Fp W' f (hSm _ _ hSw b) (h v1 v2 Fp k W' f nk (hSm _ _ hSw b) q hk b)
 have t1 : ∀ v1 Fp k W',F1 v1 Fp W' -> ¬ Fp k -> Blk W' k z ty -> w.heap.size <= k -> Below w.heap.size w W' -> wpAnyD P md ops Q S [] (fuel + m + 1) ((listed.setIfInBounds c1 true).setIfInBounds i true) ((a.put oi.dst (.pointer (some ⟨k,0,none⟩))).put oc1.dst v1) W':=fun v1 Fp k W' f nk q hk b => by
  refine wpAnyD_one hs1 hoc2 (hwc2 _) ?_
  refine step2 v1 Fp W' _ f _ fun v2 Fp2 W2 f2 hf2 b2 => ⟨fun _ => hSm _ _ hSw (b.trans (b2.mono b.size)),?_⟩
  rw [Array.setIfInBounds_comm _ _ (Ne.symm hdc2)]
  exact t2 v1 v2 Fp2 k W2 f2 (fun h2 => (hf2 k h2).elim nk fun h3 => absurd h3.1 (Nat.not_le_of_lt q.lt)) ((b2.block k q.lt).trans q) hk (b.trans (b2.mono b.size))
 have t0 : ∀ Fp k W',F0 Fp W' -> ¬ Fp k -> Blk W' k z ty -> w.heap.size <= k -> Below w.heap.size w W' -> wpAnyD P md ops Q S [] (fuel + m + 2) (listed.setIfInBounds i true) (a.put oi.dst (.pointer (some ⟨k,0,none⟩))) W':=fun Fp k W' f nk q hk b => by
  refine wpAnyD_one hs0 hoc1 (hwc1 _) ?_
  refine step1 Fp W' _ f _ fun v1 Fp2 W2 f2 hf2 b2 => ⟨fun _ => hSm _ _ hSw (b.trans (b2.mono b.size)),?_⟩
  rw [Array.setIfInBounds_comm _ _ (Ne.symm hdc1)]
  exact t1 v1 Fp2 k W2 f2 (fun h2 => (hf2 k h2).elim nk fun h3 => absurd h3.1 (Nat.not_le_of_lt q.lt)) ((b2.block k q.lt).trans q) hk (b.trans (b2.mono b.size))
 have g2 : ∀ v1 v2 Fp W',F2 v1 v2 Fp W' -> (∀ b,Fp b -> b < W'.heap.size) -> Below w.heap.size w W' -> wpAnyD P md ops Q S [] (fuel + m + 0 + 1) ((listed.setIfInBounds c1 true).setIfInBounds c2 true) ((a.put oc1.dst v1).put oc2.dst v2) W':=fun v1 v2 Fp W' f lf b => by
  obtain ⟨p,hp⟩:=put_same ((a.put oc1.dst v1).put oc2.dst v2) oi.dst
  rw [e2] at hp
  rw [<- hp]
  refine htk0 v1 v2 p Fp W' f (hSm _ _ hSw b) ?_
  refine wpAnyD_one hrn hoi (hwi _) (halloc _ _ _ ⟨fun _ => hSm _ _ hSw (b.trans ((al W').mono b.size)),?_⟩)
  rw [hA,hL]
  exact h v1 v2 Fp _ _ (st2 v1 v2 Fp _ _ f (al W')) (fun h2 => absurd (lf _ h2) (Nat.lt_irrefl _)) (hSm _ _ hSw (b.trans ((al W').mono b.size))) (Blk.new W' _ _) b.size (b.trans ((al W').mono b.size))
 have g1 : ∀ v1 Fp W',F1 v1 Fp W' -> (∀ b,Fp b -> b < W'.heap.size) -> Below w.heap.size w W' -> wpAnyD P md ops Q S [] (fuel + m + 1 + 1) (listed.setIfInBounds c1 true) (a.put oc1.dst v1) W':=fun v1 Fp W' f lf b => by
  refine wpAnyD_two hr1 hoc2 hoi (hwc2 _) (hwi _) ?_ (halloc _ _ _ ⟨fun _ => hSm _ _ hSw (b.trans ((al W').mono b.size)),(e1 v1 _).symm ▸ t1 v1 Fp _ _ (st1 v1 Fp _ _ f (al W')) (fun h2 => absurd (lf _ h2) (Nat.lt_irrefl _)) (Blk.new W' _ _) b.size (b.trans ((al W').mono b.size))⟩)
  obtain ⟨p,hp⟩:=put_same (a.put oc1.dst v1) oi.dst
  rw [e1] at hp
  rw [<- hp]
  refine step2 v1 Fp W' p f _ fun v2 Fp2 W2 f2 hf2 b2 => ⟨fun _ => hSm _ _ hSw (b.trans (b2.mono b.size)),?_⟩
  rw [hp]
  exact g2 v1 v2 Fp2 W2 f2 (fun b3 h3 => (hf2 b3 h3).elim (fun h4 => Nat.lt_of_lt_of_le (lf b3 h4) b2.size) fun h4 => h4.2) (b.trans (b2.mono b.size))
 have g0 : ∀ Fp W',F0 Fp W' -> (∀ b,Fp b -> b < W'.heap.size) -> Below w.heap.size w W' -> wpAnyD P md ops Q S [] (fuel + m + 2 + 1) listed a W':=fun Fp W' f lf b => by
  refine wpAnyD_two hr0 hoc1 hoi (hwc1 _) (hwi _) ?_ (halloc _ _ _ ⟨fun _ => hSm _ _ hSw (b.trans ((al W').mono b.size)),(e0 _).symm ▸ t0 Fp _ _ (st0 Fp _ _ f (al W')) (fun h2 => absurd (lf _ h2) (Nat.lt_irrefl _)) (Blk.new W' _ _) b.size (b.trans ((al W').mono b.size))⟩)
  obtain ⟨p,hp⟩:=put_same a oi.dst
  rw [e0] at hp
  rw [<- hp]
  refine step1 Fp W' p f _ fun v1 Fp2 W2 f2 hf2 b2 => ⟨fun _ => hSm _ _ hSw (b.trans (b2.mono b.size)),?_⟩
  rw [hp]
  exact g1 v1 Fp2 W2 f2 (fun b3 h3 => (hf2 b3 h3).elim (fun h4 => Nat.lt_of_lt_of_le (lf b3 h4) b2.size) fun h4 => h4.2) (b.trans (b2.mono b.size))
 exact g0 _ w h0 (fun _ h => h.elim) (Below.refl _ _)
theorem wpAnyD_chain3X {c1 c2 c3 i : Nat} {oc1 oc2 oc3 oi : Oper} {fuel : Nat} (d1 d2 d3 di : Option Tmp) (m : Nat) {listed L0 L1 : Array Bool} {A : Value -> Value -> Value -> Value -> Act} {a : Act} {w : World} (ty : TypeId) (z : Array Value)
  (F0 : (Nat -> Prop) -> World -> Prop)
  (F1 : Value -> (Nat -> Prop) -> World -> Prop)
  (F2 : Value -> Value -> (Nat -> Prop) -> World -> Prop)
  (F3 : Value -> Value -> Value -> (Nat -> Prop) -> World -> Prop)
  (hr0 : Region.ready md ops listed = [c1,i]) (hs0 : Region.ready md ops (listed.setIfInBounds i true) = [c1])
  (hr1 : Region.ready md ops (listed.setIfInBounds c1 true) = [c2,i]) (hs1 : Region.ready md ops ((listed.setIfInBounds c1 true).setIfInBounds i true) = [c2])
  (hr2 : Region.ready md ops ((listed.setIfInBounds c1 true).setIfInBounds c2 true) = [c3,i]) (hs2 : Region.ready md ops (((listed.setIfInBounds c1 true).setIfInBounds c2 true).setIfInBounds i true) = [c3])
  (hrn : Region.ready md ops L0 = [i]) (hL : L0.setIfInBounds i true = L1)
  (hd1 : oc1.dst = d1) (hoc1 : ops[c1]? = some oc1) (hwc1 : ∀ t,Region.wanted oc1 (yielded ops t) = true) (hnec1 : d1 ≠ di)
  (hd2 : oc2.dst = d2) (hoc2 : ops[c2]? = some oc2) (hwc2 : ∀ t,Region.wanted oc2 (yielded ops t) = true) (hnec2 : d2 ≠ di)
  (hd3 : oc3.dst = d3) (hoc3 : ops[c3]? = some oc3) (hwc3 : ∀ t,Region.wanted oc3 (yielded ops t) = true) (hnec3 : d3 ≠ di)
  (hSm : ∀ W W',S W -> Below W.heap.size W W' -> S W') (hSw : S w)
  (hdi : oi.dst = di) (hoi : ops[i]? = some oi) (hwi : ∀ t,Region.wanted oi (yielded ops t) = true)
  (halloc : ∀ (a : Act) (W : World) (K : Act -> World -> Prop),K (a.put di (.pointer (some ⟨W.heap.size,0,none⟩))) (W.alloc (.cells z ty)) -> oi.wp P a W K Q)
  (st0 : ∀ Fp W W',F0 Fp W -> Below W.heap.size W W' -> F0 Fp W')
  (st1 : ∀ v1 Fp W W',F1 v1 Fp W -> Below W.heap.size W W' -> F1 v1 Fp W')
  (st2 : ∀ v1 v2 Fp W W',F2 v1 v2 Fp W -> Below W.heap.size W W' -> F2 v1 v2 Fp W')
  (st3 : ∀ v1 v2 v3 Fp W W',F3 v1 v2 v3 Fp W -> Below W.heap.size W W' -> F3 v1 v2 v3 Fp W')
  (step1 : ∀ Fp W p,F0 Fp W -> ∀ KK : Act -> World -> Prop,(∀ v1 Fp' W',F1 v1 Fp' W' -> (∀ b,Fp' b -> Fp b \/ Btw W.heap.size W'.heap.size b) -> Below W.heap.size W W' -> KK ((a.put di p).put d1 v1) W') -> oc1.wp P (a.put di p) W KK Q)
  (step2 : ∀ v1 Fp W p,F1 v1 Fp W -> ∀ KK : Act -> World -> Prop,(∀ v2 Fp' W',F2 v1 v2 Fp' W' -> (∀ b,Fp' b -> Fp b \/ Btw W.heap.size W'.heap.size b) -> Below W.heap.size W W' -> KK (((a.put di p).put d1 v1).put d2 v2) W') -> oc2.wp P ((a.put di p).put d1 v1) W KK Q)
  (step3 : ∀ v1 v2 Fp W p,F2 v1 v2 Fp W -> ∀ KK : Act -> World -> Prop,(∀ v3 Fp' W',F3 v1 v2 v3 Fp' W' -> (∀ b,Fp' b -> Fp b \/ Btw W.heap.size W'.heap.size b) -> Below W.heap.size W W' -> KK ((((a.put di p).put d1 v1).put d2 v2).put d3 v3) W') -> oc3.wp P (((a.put di p).put d1 v1).put d2 v2) W KK Q)
  (htk0 : ∀ v1 v2 v3 p Fp W',F3 v1 v2 v3 Fp W' -> S W' -> wpAnyD P md ops Q S [] (fuel + 1) L0 (A p v1 v2 v3) W' -> wpAnyD P md ops Q S [] (fuel + m + 1) (((listed.setIfInBounds c1 true).setIfInBounds c2 true).setIfInBounds c3 true) ((((a.put di p).put d1 v1).put d2 v2).put d3 v3) W')
  (htk1 : ∀ v1 v2 v3 p Fp W',F3 v1 v2 v3 Fp W' -> S W' -> wpAnyD P md ops Q S [] fuel L1 (A p v1 v2 v3) W' -> wpAnyD P md ops Q S [] (fuel + m) ((((listed.setIfInBounds c1 true).setIfInBounds c2 true).setIfInBounds c3 true).setIfInBounds i true) ((((a.put di p).put d1 v1).put d2 v2).put d3 v3) W')
  (hA : ∀ v1 v2 v3 p q,(A p v1 v2 v3).put di q = A q v1 v2 v3)
  (h0 : F0 (fun _ => False) w)
  (h : ∀ v1 v2 v3 Fp k W',F3 v1 v2 v3 Fp W' -> ¬ Fp k -> S W' -> Blk W' k z ty -> w.heap.size <= k -> Below w.heap.size w W' -> wpAnyD P md ops Q S [] fuel L1 (A (.pointer (some ⟨k,0,none⟩)) v1 v2 v3) W') :
  wpAnyD P md ops Q S [] (fuel + m + 3 + 1) listed a w:=by
 subst hd1 hd2 hd3 hdi
 have hdc1 : c1 ≠ i:=fun e => by subst e; rw [hoc1] at hoi; cases hoi; exact hnec1 rfl
 have hdc2 : c2 ≠ i:=fun e => by subst e; rw [hoc2] at hoi; cases hoi; exact hnec2 rfl
 have hdc3 : c3 ≠ i:=fun e => by subst e; rw [hoc3] at hoi; cases hoi; exact hnec3 rfl
 have al : ∀ (W : World),Below W.heap.size W (W.alloc (.cells z ty)):=fun W => (Below.refl _ _).alloc (Nat.le_refl _) _
 have e0 : ∀ p,(a).put oi.dst p = (a.put oi.dst p):=fun p => by
  rfl
 have e1 : ∀ v1 p,((a.put oc1.dst v1)).put oi.dst p = ((a.put oi.dst p).put oc1.dst v1):=fun v1 p => by
  rw [put_comm _ hnec1]
 have e2 : ∀ v1 v2 p,(((a.put oc1.dst v1).put oc2.dst v2)).put oi.dst p = (((a.put oi.dst p).put oc1.dst v1).put oc2.dst v2):=fun v1 v2 p => by
  rw [put_comm _ hnec2,put_comm _ hnec1]
 have e3 : ∀ v1 v2 v3 p,((((a.put oc1.dst v1).put oc2.dst v2).put oc3.dst v3)).put oi.dst p = ((((a.put oi.dst p).put oc1.dst v1).put oc2.dst v2).put oc3.dst v3):=fun v1 v2 v3 p => by
  rw [put_comm _ hnec3,put_comm _ hnec2,put_comm _ hnec1]
 have t3 : ∀ v1 v2 v3 Fp k W',F3 v1 v2 v3 Fp W' -> ¬ Fp k -> Blk W' k z ty -> w.heap.size <= k -> Below w.heap.size w W' -> wpAnyD P md ops Q S [] (fuel + m + 0) ((((listed.setIfInBounds c1 true).setIfInBounds c2 true).setIfInBounds c3 true).setIfInBounds i true) ((((a.put oi.dst (.pointer (some ⟨k,0,none⟩))).put oc1.dst v1).put oc2.dst v2).put oc3.dst v3) W':=fun v1 v2 v3 Fp k W' f nk q hk b => by
  exact htk1 v1 v2 v3 _ Fp W' f (hSm _ _ hSw b) (h v1 v2 v3 Fp k W' f nk (hSm _ _ hSw b) q hk b)
 have t2 : ∀ v1 v2 Fp k W',F2 v1 v2 Fp W' -> ¬ Fp k -> Blk W' k z ty -> w.heap.size <= k -> Below w.heap.size w W' -> wpAnyD P md ops Q S [] (fuel + m + 1) (((listed.setIfInBounds c1 true).setIfInBounds c2 true).setIfInBounds i true) (((a.put oi.dst (.pointer (some ⟨k,0,none⟩))).put oc1.dst v1).put oc2.dst v2) W':=fun v1 v2 Fp k W' f nk q hk b => by
  refine wpAnyD_one hs2 hoc3 (hwc3 _) ?_
  refine step3 v1 v2 Fp W' _ f _ fun v3 Fp2 W2 f2 hf2 b2 => ⟨fun _ => hSm _ _ hSw (b.trans (b2.mono b.size)),?_⟩
  rw [Array.setIfInBounds_comm _ _ (Ne.symm hdc3)]
  exact t3 v1 v2 v3 Fp2 k W2 f2 (fun h2 => (hf2 k h2).elim nk fun h3 => absurd h3.1 (Nat.not_le_of_lt q.lt)) ((b2.block k q.lt).trans q) hk (b.trans (b2.mono b.size))
 have t1 : ∀ v1 Fp k W',F1 v1 Fp W' -> ¬ Fp k -> Blk W' k z ty -> w.heap.size <= k -> Below w.heap.size w W' -> wpAnyD P md ops Q S [] (fuel + m + 2) ((listed.setIfInBounds c1 true).setIfInBounds i true) ((a.put oi.dst (.pointer (some ⟨k,0,none⟩))).put oc1.dst v1) W':=fun v1 Fp k W' f nk q hk b => by
  refine wpAnyD_one hs1 hoc2 (hwc2 _) ?_
  refine step2 v1 Fp W' _ f _ fun v2 Fp2 W2 f2 hf2 b2 => ⟨fun _ => hSm _ _ hSw (b.trans (b2.mono b.size)),?_⟩
  rw [Array.setIfInBounds_comm _ _ (Ne.symm hdc2)]
  exact t2 v1 v2 Fp2 k W2 f2 (fun h2 => (hf2 k h2).elim nk fun h3 => absurd h3.1 (Nat.not_le_of_lt q.lt)) ((b2.block k q.lt).trans q) hk (b.trans (b2.mono b.size))
 have t0 : ∀ Fp k W',F0 Fp W' -> ¬ Fp k -> Blk W' k z ty -> w.heap.size <= k -> Below w.heap.size w W' -> wpAnyD P md ops Q S [] (fuel + m + 3) (listed.setIfInBounds i true) (a.put oi.dst (.pointer (some ⟨k,0,none⟩))) W':=fun Fp k W' f nk q hk b => by
  refine wpAnyD_one hs0 hoc1 (hwc1 _) ?_
  refine step1 Fp W' _ f _ fun v1 Fp2 W2 f2 hf2 b2 => ⟨fun _ => hSm _ _ hSw (b.trans (b2.mono b.size)),?_⟩
  rw [Array.setIfInBounds_comm _ _ (Ne.symm hdc1)]
  exact t1 v1 Fp2 k W2 f2 (fun h2 => (hf2 k h2).elim nk fun h3 => absurd h3.1 (Nat.not_le_of_lt q.lt)) ((b2.block k q.lt).trans q) hk (b.trans (b2.mono b.size))
 have g3 : ∀ v1 v2 v3 Fp W',F3 v1 v2 v3 Fp W' -> (∀ b,Fp b -> b < W'.heap.size) -> Below w.heap.size w W' -> wpAnyD P md ops Q S [] (fuel + m + 0 + 1) (((listed.setIfInBounds c1 true).setIfInBounds c2 true).setIfInBounds c3 true) (((a.put oc1.dst v1).put oc2.dst v2).put oc3.dst v3) W':=fun v1 v2 v3 Fp W' f lf b => by
  obtain ⟨p,hp⟩:=put_same (((a.put oc1.dst v1).put oc2.dst v2).put oc3.dst v3) oi.dst
  rw [e3] at hp
  rw [<- hp]
  refine htk0 v1 v2 v3 p Fp W' f (hSm _ _ hSw b) ?_
  refine wpAnyD_one hrn hoi (hwi _) (halloc _ _ _ ⟨fun _ => hSm _ _ hSw (b.trans ((al W').mono b.size)),?_⟩)
  rw [hA,hL]
  exact h v1 v2 v3 Fp _ _ (st3 v1 v2 v3 Fp _ _ f (al W')) (fun h2 => absurd (lf _ h2) (Nat.lt_irrefl _)) (hSm _ _ hSw (b.trans ((al W').mono b.size))) (Blk.new W' _ _) b.size (b.trans ((al W').mono b.size))
 have g2 : ∀ v1 v2 Fp W',F2 v1 v2 Fp W' -> (∀ b,Fp b -> b < W'.heap.size) -> Below w.heap.size w W' -> wpAnyD P md ops Q S [] (fuel + m + 1 + 1) ((listed.setIfInBounds c1 true).setIfInBounds c2 true) ((a.put oc1.dst v1).put oc2.dst v2) W':=fun v1 v2 Fp W' f lf b => by
  refine wpAnyD_two hr2 hoc3 hoi (hwc3 _) (hwi _) ?_ (halloc _ _ _ ⟨fun _ => hSm _ _ hSw (b.trans ((al W').mono b.size)),(e2 v1 v2 _).symm ▸ t2 v1 v2 Fp _ _ (st2 v1 v2 Fp _ _ f (al W')) (fun h2 => absurd (lf _ h2) (Nat.lt_irrefl _)) (Blk.new W' _ _) b.size (b.trans ((al W').mono b.size))⟩)
  obtain ⟨p,hp⟩:=put_same ((a.put oc1.dst v1).put oc2.dst v2) oi.dst
  rw [e2] at hp
  rw [<- hp]
  refine step3 v1 v2 Fp W' p f _ fun v3 Fp2 W2 f2 hf2 b2 => ⟨fun _ => hSm _ _ hSw (b.trans (b2.mono b.size)),?_⟩
  rw [hp]
  exact g3 v1 v2 v3 Fp2 W2 f2 (fun b3 h3 => (hf2 b3 h3).elim (fun h4 => Nat.lt_of_lt_of_le (lf b3 h4) b2.size) fun h4 => h4.2) (b.trans (b2.mono b.size))
 have g1 : ∀ v1 Fp W',F1 v1 Fp W' -> (∀ b,Fp b -> b < W'.heap.size) -> Below w.heap.size w W' -> wpAnyD P md ops Q S [] (fuel + m + 2 + 1) (listed.setIfInBounds c1 true) (a.put oc1.dst v1) W':=fun v1 Fp W' f lf b => by
  refine wpAnyD_two hr1 hoc2 hoi (hwc2 _) (hwi _) ?_ (halloc _ _ _ ⟨fun _ => hSm _ _ hSw (b.trans ((al W').mono b.size)),(e1 v1 _).symm ▸ t1 v1 Fp _ _ (st1 v1 Fp _ _ f (al W')) (fun h2 => absurd (lf _ h2) (Nat.lt_irrefl _)) (Blk.new W' _ _) b.size (b.trans ((al W').mono b.size))⟩)
  obtain ⟨p,hp⟩:=put_same (a.put oc1.dst v1) oi.dst
  rw [e1] at hp
  rw [<- hp]
  refine step2 v1 Fp W' p f _ fun v2 Fp2 W2 f2 hf2 b2 => ⟨fun _ => hSm _ _ hSw (b.trans (b2.mono b.size)),?_⟩
  rw [hp]
  exact g2 v1 v2 Fp2 W2 f2 (fun b3 h3 => (hf2 b3 h3).elim (fun h4 => Nat.lt_of_lt_of_le (lf b3 h4) b2.size) fun h4 => h4.2) (b.trans (b2.mono b.size))
 have g0 : ∀ Fp W',F0 Fp W' -> (∀ b,Fp b -> b < W'.heap.size) -> Below w.heap.size w W' -> wpAnyD P md ops Q S [] (fuel + m + 3 + 1) listed a W':=fun Fp W' f lf b => by
  refine wpAnyD_two hr0 hoc1 hoi (hwc1 _) (hwi _) ?_ (halloc _ _ _ ⟨fun _ => hSm _ _ hSw (b.trans ((al W').mono b.size)),(e0 _).symm ▸ t0 Fp _ _ (st0 Fp _ _ f (al W')) (fun h2 => absurd (lf _ h2) (Nat.lt_irrefl _)) (Blk.new W' _ _) b.size (b.trans ((al W').mono b.size))⟩)
  obtain ⟨p,hp⟩:=put_same a oi.dst
  rw [e0] at hp
  rw [<- hp]
  refine step1 Fp W' p f _ fun v1 Fp2 W2 f2 hf2 b2 => ⟨fun _ => hSm _ _ hSw (b.trans (b2.mono b.size)),?_⟩
  rw [hp]
  exact g1 v1 Fp2 W2 f2 (fun b3 h3 => (hf2 b3 h3).elim (fun h4 => Nat.lt_of_lt_of_le (lf b3 h4) b2.size) fun h4 => h4.2) (b.trans (b2.mono b.size))
 exact g0 _ w h0 (fun _ h => h.elim) (Below.refl _ _)
end
theorem gsampleO_any (K : Nat) (s : Sc) (y : Sv) (c : Nat) (w : World) (hs : ScX K w s y) (hK : K <= w.heap.size) (hgo : ∀ v ∈ s.cuts,v.good = true) (hok : s.okB = true) (e0 : (s.kd == 0) = false) (hp : s.poss c = true) (hodd : c % 2 = 1) :
  Calls Tryz.prog 65 #[y.agg,.int .i64 c] w fun e w' => ∃ z : Vv,e = .returned (.tuple #[z.agg,.bool true]) /\ Zed (Btw w.heap.size w'.heap.size) w' (fun K W => VlX K W (s.cuts[c / 2]?.getD v0) z) /\ Below w.heap.size w w':=by
 have hn32:=okB_len hok
 have hcn : c < 2 * s.cuts.length + 1:=by
  unfold Sc.poss cntN at hp
  rw [if_neg (by simpa using e0)] at hp
  simp only [Bool.and_eq_true,decide_eq_true_eq] at hp
  omega
 have hn1 : 1 <= s.cuts.length:=by omega
 obtain ⟨W1,hW1⟩ : ∃ W1,(w.alloc (.cells y.cells 79)).alloc (.cells vv0.cells 47) = W1:=⟨_,rfl⟩
 have b1 : Below w.heap.size w W1:=by rw [<- hW1]; exact ((Below.refl _ _).alloc (Nat.le_refl _) _).alloc (by simp) _
 have q1 : Blk W1 w.heap.size y.cells 79:=by rw [<- hW1]; exact (Blk.new w _ _).alloc _
 have q2 : Blk W1 (w.heap.size + 1) vv0.cells 47:=by
  rw [<- hW1]
  have := Blk.new (w.alloc (.cells y.cells 79)) vv0.cells 47
  rwa [World.size_alloc] at this
 have s1 : W1.heap.size = w.heap.size + 2:=by rw [<- hW1]; simp
 obtain ⟨B,hB⟩ : ∃ B,w.heap.size = B:=⟨_,rfl⟩
 have HB:=Lib.hid hB
 have HW:=Lib.hid hW1
 rw [hB] at hK b1 q1 q2 s1 ⊢
 dsimp only [Vv.cells,vv0] at HW
 have hv:=gvalid_any B s y W1 (hs.below b1 hK hK) (by omega) hgo (by omega)
 rw [hok] at hv
 have hpo : ∀ W,Below W1.heap.size W1 W -> Calls Tryz.prog 78 #[.pointer (some ⟨B,0,none⟩),.int .i64 (c : Int)] W fun e w' => e = .returned (.bool true) /\ Below W.heap.size W w':=fun W hb => by
  have h3:=hb.size
  have h2:=(q1.below hb q1.lt)
  have := gposs_any B B 0 y.c.val s c W ((hs.cuts.below b1 hK hK).below hb (by omega) (Nat.le_refl _)) (by omega) (by omega) (by rw [Nat.zero_add,<- hs.kd]; exact h2.at rfl) (by rw [Nat.zero_add]; exact h2.at rfl) (by omega) (okB_cuts hok)
  rw [hp] at this
  exact this.mono (by rintro e w' ⟨rfl,h⟩; exact ⟨rfl,h⟩)
 have HPO:=Lib.hid hpo
 have hcx:=hs.cuts.below b1 hK hK
 have hkd:=hs.kd
 obtain ⟨g,hrow,hgs⟩:=hcx
 obtain ⟨cb,co,ccap,hse,_,hcm,hcb,hccl⟩:=hrow.pos (by omega)
 obtain ⟨⟨yop,ynm,yk,yb3,⟨y4,y4n,y4m⟩,yb5,⟨y6,y6n,y6m⟩,yi7,⟨y8,y8n,y8m⟩⟩,sk,⟨ca,cn,cm⟩⟩:=y
 simp only [Sl.val,Value.slice.injEq] at hse
 obtain ⟨rfl,rfl,rfl⟩:=hse
 dsimp only at hkd
 subst hkd
 obtain ⟨m,hm⟩ : ∃ m,c / 2 = m:=⟨_,rfl⟩
 have hq2 : Int.tdiv (c : Int) 2 = (m : Int):=by rw [Int.tdiv_eq_ediv_of_nonneg (by omega)]; omega
 have hall : ∀ j,j < s.cuts.length -> (s.cuts[j]?.getD v0).good = true /\ True:=fun j hj => by
  have h1 : s.cuts[j]?.getD v0 ∈ s.cuts:=by rw [List.getElem?_eq_getElem hj]; exact List.getElem_mem hj
  exact ⟨hgo _ h1,trivial⟩
 have hform : ∀ j,j < s.cuts.length -> ∃ a1 n1 m1 a2 n2 m2,g j = ⟨(g j).kd,(g j).b1,.slice a1 n1 m1,(g j).b2,.slice a2 n2 m2,(g j).i⟩:=fun j hj => by
  have h6:=hgs j hj
  obtain ⟨a1,m1,h7,_⟩:=h6.n.form
  obtain ⟨a2,m2,h8,_⟩:=h6.d.form
  exact ⟨a1,_,m1,a2,_,m2,by rw [<- h7,<- h8]⟩
 have HAL:=Lib.hid hall
 have HFO:=Lib.hid hform
 have HGS:=Lib.hid hgs
 have HCC:=Lib.hid hccl
 have HQ1:=Lib.hid q1
 have HQ2:=Lib.hid q2
 obtain ⟨n,hn⟩ : ∃ n,s.cuts.length = n:=⟨_,rfl⟩
 have HN:=Lib.hid hn
 obtain ⟨kd,hkd⟩ : ∃ kd,s.kd = kd:=⟨_,rfl⟩
 have HKD:=Lib.hid hkd
 rw [hm]
 rw [hn] at hv hn32 hn1 hcn HW HCC HAL HFO HGS HQ1 ⊢
 rw [hkd] at hv e0 HW HQ1 ⊢
 have HM:=Lib.hid hm
 obtain ⟨d0,d1,d2,d3,d4,d5,d6,d7,d8,d9,d10⟩:=HQ1.out.eleven
 clear hB hW1 hs hgo hok hp hpo hrow hgs hccl q1 q2 hall hform hn hkd
 go_enter Tryz.func65,Tryz.ntmps65
 go_upto_region 1 with fail
 simp only [HB.out]
 rw [HW.out]
 go_wp2_with fail
 refine hv.mono ?_
 rintro e w2 ⟨rfl,hb2⟩
 clear hv d0 d1 d2 d3 d4 d5 d6 d7 d8 d9 d10
 go_wp2_with fail
 refine (HPO.out w2 hb2).mono ?_
 rintro e w3 ⟨rfl,hb3⟩
 have b3' : Below W1.heap.size W1 w3:=hb2.trans (hb3.mono hb2.size)
 have b3 : Below B w w3:=b1.trans (b3'.mono (by omega))
 have hs3:=b3'.size
 clear hb2 hb3
 have hq1:=HQ1.out.below b3' (by omega)
 have hq2':=HQ2.out.below b3' (by omega)
 have d9:=hq1.at (i:=9) (x:=.int .u8 kd) rfl
 have d10:=hq1.at (i:=10) (x:=.slice (some ⟨cb,co,none⟩) n cm) rfl
 have HCC3 : Hid (∀ j,j < n -> w3.rangeAt cb (co + j * 6) (g j).cells.toList):=Lib.hid fun j hj => vv_range (cells_below b3' (by omega) HCC.out) hj
 have cb3 : cb < w3.heap.size:=by omega
 ·have hr1 : Int.tmod (c : Int) 2 = 1:=by rw [Int.tmod_eq_emod_of_nonneg (by omega)]; omega
  have hmn : m < n:=by omega
  obtain ⟨hgd,_⟩:=HAL.out m hmn
  have hcv:=copyValue_any w3.heap.size (s.cuts[m]?.getD v0) (g m) w3 ((HGS.out m hmn).below b3' (by omega) (by omega)) hgd (Nat.le_refl _)
  obtain ⟨a1,n1,m1,a2,n2,m2,hgf⟩:=HFO.out m hmn
  have hrg:=HCC3.out m hmn
  obtain ⟨gk,gb1,gb2,gi,hgm⟩ : ∃ gk gb1 gb2 gi,g m = ⟨gk,gb1,.slice a1 n1 m1,gb2,.slice a2 n2 m2,gi⟩:=⟨_,_,_,_,hgf⟩
  rw [hgm] at hcv hrg
  have HRG:=Lib.hid hrg
  clear hgf hgm hrg hgd hm
  go_wp2_with (refine wpList_load_mid rfl 47 (.tmp 30) rfl cb (co + m * 6) rfl (⟨gk,gb1,.slice a1 n1 m1,gb2,.slice a2 n2 m2,gi⟩ : Vv).cells.toList _ HRG.out Tryz.underlying47 rfl infoValN ?_)
  refine hcv.mono ?_
  rintro e w4 ⟨z,rfl,hz,hb4⟩
  clear hcv
  have hz0:=hz.get fun b hb => hb.2
  obtain ⟨b1a,b1m,hf1,_⟩:=hz0.n.form
  obtain ⟨b2a,b2m,hf2,_⟩:=hz0.d.form
  obtain ⟨x1,hx1⟩ : ∃ x,(s.cuts[m]?.getD v0).l1.length = x:=⟨_,rfl⟩
  obtain ⟨x2,hx2⟩ : ∃ x,(s.cuts[m]?.getD v0).l2.length = x:=⟨_,rfl⟩
  rw [hx1] at hf1
  rw [hx2] at hf2
  obtain ⟨zk,zb1,zs1,zb2,zs2,zi⟩:=z
  dsimp only at hf1 hf2
  subst hf1 hf2
  have hs4:=hb4.size
  have q4:=hq2'.below hb4 (by omega)
  have h1c : ∀ u ∈ (⟨zk,zb1,.slice b1a x1 b1m,zb2,.slice b2a x2 b2m,zi⟩ : Vv).cells,u.oneCell' = true:=by simp [Value.oneCell']
  have HZ:=Lib.hid hz
  have HQ4:=Lib.hid q4
  clear hz hz0 hx1 hx2 hq1 hq2' q4 d9 d10
  go_wp2_with (refine wpList_store_blk rfl 47 47 (.tmp 4) (.tmp 32) rfl (⟨zk,zb1,.slice b1a x1 b1m,zb2,.slice b2a x2 b2m,zi⟩ : Vv).cells _ (B + 1) HQ4.out infoValN rfl h1c rfl rfl ?_; intro W2 t1 t2 t3 t4)
  refine bodyPost_ret (v:=.tuple #[(⟨zk,zb1,.slice b1a x1 b1m,zb2,.slice b2a x2 b2m,zi⟩ : Vv).agg,.bool true]) ?_ rfl ?_
  ·obtain ⟨e0,e1,e2,e3,e4,e5⟩:=t1.six
   simp [results,Tryz.results65,go_sem,e0,e1,e2,e3,e4,e5]
  exact ⟨_,rfl,(HZ.out.move (agr_grown t3 (fun b hb => hb.2) fun b hb h => by cases hb; have := h.1; omega)).mono fun b hb => ⟨by have := hb.1; omega,Nat.lt_of_lt_of_le hb.2 t3.size⟩,b3.trans ((hb4.mono (by omega)).trans (t2 B (by omega)))⟩
end Go.Proofs.YtlidpghnlloinaaGreatDoor
