/- Contracts and plain laws, several texts in one (GlM15, GlM16). No conditions beyond those stated. -/
import Derived.Test.YtlidpghnlloinaaGreatDoorPk36
set_option maxRecDepth 100000
set_option maxHeartbeats 40000000
namespace Go.Proofs.YtlidpghnlloinaaGreatDoor
open Go.RowKit
set_option linter.unusedVariables false
def cells12 (g : Nat -> Vv) : List Value:=(List.range 12).map fun j => (g (j / 6)).cell (j % 6)
def z12 : Array Value:=(cells12 fun _ => vv0).toArray
theorem cells12_at (g : Nat -> Vv) {i j : Nat} (hi : i < 2) (hj : j < 6) : (cells12 g)[i * 6 + j]? = some ((g i).cell j):=by
 unfold cells12
 rw [List.getElem?_map,List.getElem?_range (by omega)]
 simp only [Option.map_some]
 rw [show (i * 6 + j) / 6 = i by omega,show (i * 6 + j) % 6 = j by omega]
theorem z12_at {i j : Nat} (hi : i < 2) (hj : j < 6) : z12[i * 6 + j]? = some (vv0.cell j):=by unfold z12; rw [List.getElem?_toArray]; exact cells12_at _ hi hj
theorem xvv_range {w : World} {b t : Nat} {y : Xv} (h : Blk w b y.cells t) : w.rangeAt b 2 y.vv.cells.toList:=by
 intro j u hj
 have hj6 : j < 6:=(List.getElem?_eq_some_iff.1 hj).1
 refine h.at ?_
 rw [<- hj]
 have hj7 : j = 0 \/ j = 1 \/ j = 2 \/ j = 3 \/ j = 4 \/ j = 5:=by omega
 rcases hj7 with rfl | rfl | rfl | rfl | rfl | rfl <;> rfl
theorem arr_set {cs cs' : Array Value} {X : Vv} {v : Nat -> Vv} {i : Nat} (hs : cs.size = 12) (hcs : ∀ p,p < cs.size -> cs'[p]? = if i * 6 <= p /\ p < i * 6 + X.cells.toList.length then X.cells.toList[p - i * 6]? else cs[p]?)
  (hcc : ∀ p,p < 2 -> p ≠ i -> ∀ j,j < 6 -> cs[p * 6 + j]? = some ((if p < i then v p else vv0).cell j)) (hi : i < 2) (hv : v i = X) : ∀ p,p < 2 -> ∀ j,j < 6 -> cs'[p * 6 + j]? = some ((if p < i + 1 then v p else vv0).cell j):=by
 intro p hp j hj
 have hl : X.cells.toList.length = 6:=rfl
 rw [hcs (p * 6 + j) (by omega),hl]
 by_cases e : p = i
 ·subst e
  rw [if_pos (by omega),if_pos (by omega),hv,show p * 6 + j - p * 6 = j by omega]
  have hj7 : j = 0 \/ j = 1 \/ j = 2 \/ j = 3 \/ j = 4 \/ j = 5:=by omega
  rcases hj7 with rfl | rfl | rfl | rfl | rfl | rfl <;> rfl
 ·rw [if_neg (by omega),hcc p hp e j hj]
  by_cases h2 : p < i
  ·rw [if_pos h2,if_pos (by omega)]
  ·rw [if_neg h2,if_neg (by omega)]
theorem arr_keep {cs cs' : Array Value} {X : Vv} {i p j : Nat} (hs : cs.size = 12) (hcs : ∀ p,p < cs.size -> cs'[p]? = if i * 6 <= p /\ p < i * 6 + X.cells.toList.length then X.cells.toList[p - i * 6]? else cs[p]?) (hp : p < 2) (hj : j < 6) (e : p ≠ i) : cs'[p * 6 + j]? = cs[p * 6 + j]? := by
 have hl : X.cells.toList.length = 6:=rfl
 rw [hcs (p * 6 + j) (by omega),hl,if_neg (by omega)]
def ArgOk (q : Nat) (bb : UInt8) (g : Nat -> Vv) (x : Xv) (v : Vv) : Prop:=(x.op = 5 /\ x.nm = [115,bb] /\ v = g q) \/ (x.op = 1 /\ v = x.vv)
theorem twL_bound {l1 : List Nat} (h : ∀ d ∈ l1,d < 65536) (l2 : List Nat) : 0 <= twL l1 l2 /\ twL l1 l2 < 200000:=by
 have hb : l1[0]?.getD 0 < 65536:=by
  cases l1 with
  | nil => show 0 < 65536; omega
  | cons a r => exact h a (by simp)
 unfold twL
 split <;> omega
theorem valM_small (k n : Nat) : 0 <= (valM k n).i /\ (valM k n).i <= 8:=by
 have hm : n % 9 < 9:=Nat.mod_lt _ (by omega)
 unfold valM
 split
 ·show 0 <= ((n % 9 % 2 : Nat) : Int) /\ ((n % 9 % 2 : Nat) : Int) <= 8; omega
 ·split
  ·exact ⟨Int.le_refl _,by show (0 : Int) <= 8; omega⟩
  ·unfold wV
   split
   ·exact ⟨Int.le_refl _,by show (0 : Int) <= 8; omega⟩
   ·show 0 <= ((n % 9 : Nat) : Int) /\ ((n % 9 : Nat) : Int) <= 8; omega
theorem gtrue_tstW (K : Nat) (nl : List Nat) (g : Nat -> Vv) (x : Xv) (w : World) (hv : ∀ k,k < 12 -> VlX K w (valsM nl k) (g k)) (hK : K <= w.heap.size) (o : Int) (a b : Gx) (u : Nat -> Vq) (v : Nat -> Vv) (q : Nat) (bb : UInt8) (gx : Nat -> Xv)
  (ho : o = 13 \/ o = 14) (hop : x.op = o) (hrow : RowsV 9 (fun i j => (gx i).cell j) K w x.s8.val 2) (hq : q < 12) (hbi : (bb.toNat : Int) = 48 + (q : Int)) (harg : ∀ i,i < 2 -> ArgOk q bb g (gx i) (v i)) (hu : ∀ i,i < 2 -> VlX K w (u i) (v i)) (hi : ∀ i,i < 2 -> 0 <= (u i).i /\ (u i).i <= 8) :
  Calls Tryz.prog 39 #[x.agg,.agg (cells72 g).toArray] w fun en w' => en = .returned (.bool (cmpT o (u 0) (u 1))) /\ Below w.heap.size w w':=by
 obtain ⟨⟨xop,xnm,xk,xb3,⟨x4,x4n,x4m⟩,xb5,⟨x6,x6n,x6m⟩,xi7,⟨x8,x8n,x8m⟩⟩,hxx⟩ : ∃ y : Xv,y = x:=⟨x,rfl⟩
 subst hxx
 obtain ⟨arr,harr⟩ : ∃ arr : Array Value,(cells72 g).toArray = arr:=⟨_,rfl⟩
 have HA:=Lib.hid harr
 rw [harr]
 obtain ⟨W1,hW1⟩ : ∃ W1,(w.alloc (.cells (⟨xop,xnm,xk,xb3,⟨x4,x4n,x4m⟩,xb5,⟨x6,x6n,x6m⟩,xi7,⟨x8,x8n,x8m⟩⟩ : Xv).cells 49)).alloc (.cells arr 86) = W1:=⟨_,rfl⟩
 have b1 : Below w.heap.size w W1:=by rw [<- hW1]; exact ((Below.refl _ _).alloc (Nat.le_refl _) _).alloc (by simp) _
 have q1 : Blk W1 w.heap.size (⟨xop,xnm,xk,xb3,⟨x4,x4n,x4m⟩,xb5,⟨x6,x6n,x6m⟩,xi7,⟨x8,x8n,x8m⟩⟩ : Xv).cells 49:=by rw [<- hW1]; exact (Blk.new w _ _).alloc _
 have q2 : Blk W1 (w.heap.size + 1) arr 86:=by
  rw [<- hW1]
  have := Blk.new (w.alloc (.cells (⟨xop,xnm,xk,xb3,⟨x4,x4n,x4m⟩,xb5,⟨x6,x6n,x6m⟩,xi7,⟨x8,x8n,x8m⟩⟩ : Xv).cells 49)) arr 86
  rwa [World.size_alloc] at this
 have s1 : W1.heap.size = w.heap.size + 2:=by rw [<- hW1]; simp
 obtain ⟨B,hB⟩ : ∃ B,w.heap.size = B:=⟨_,rfl⟩
 have HB:=Lib.hid hB
 have HW:=Lib.hid hW1
 rw [hB] at b1 q1 q2 s1 hK ⊢
 dsimp only [Xv.cells] at HW
 have hop' : xop = o:=hop
 subst hop'
 obtain ⟨ab,ao,acap,hse,_,_,hab,hac⟩:=hrow.pos (by omega)
 have hse' : Value.slice x8 x8n x8m = .slice (some ⟨ab,ao,none⟩) 2 acap:=hse
 simp only [Value.slice.injEq] at hse'
 obtain ⟨rfl,rfl,rfl⟩:=hse'
 clear hse hop hrow
 have HAC:=Lib.hid hac
 have HARG:=Lib.hid harg
 have HU:=Lib.hid hu
 have HI:=Lib.hid hi
 have HV:=Lib.hid hv
 obtain ⟨W2,hW2⟩ : ∃ W2,W1.alloc (.cells z12 142) = W2:=⟨_,rfl⟩
 have b2 : Below W1.heap.size W1 W2:=by rw [<- hW2]; exact (Below.refl _ _).alloc (Nat.le_refl _) _
 have q3 : Blk W2 (B + 2) z12 142:=by
  have := Blk.new W1 z12 142
  rwa [hW2,s1] at this
 have s2 : W2.heap.size = B + 3:=by rw [<- hW2,World.size_alloc,s1]
 have HQ1:=Lib.hid (q1.below b2 (by omega))
 have HQ2:=Lib.hid (q2.below b2 (by omega))
 have HQ3:=Lib.hid q3
 have HB2:=Lib.hid (b1.trans (b2.mono (by omega)))
 have HW2:=Lib.hid hW2
 obtain ⟨c0,c1,c2,c3,c4,c5,c6,c7,c8⟩:=q1.nine
 clear hac harg hu hi hv hW2 b2 q3 q2
 clear hB hW1 harr
 go_enter Tryz.func39,Tryz.ntmps39
 go_upto_region 1 with fail
 simp only [HB.out]
 rw [HW.out]
 clear HW
 rcases ho with rfl | rfl
 ·go_upto_region 17 with fail
  generalize hWx : World.alloc W1 _ = Wx
  obtain rfl : Wx = W2:=by rw [<- hWx,<- HW2.out]; rfl
  clear hWx HW2 c0 c1 c2 c3 c4 c5 c6 c7 c8
  obtain ⟨c0,c1,c2,c3,c4,c5,c6,c7,c8⟩:=HQ1.out.nine
  go_wp2_with fail
  go_loopw [91] (fun iv wr => ∃ (i : Nat) (cs : Array Value),i <= 2 /\ iv = .int .i64 i /\ Blk wr (B + 2) cs 142 /\ cs.size = 12 /\ Hid (∀ p,p < 2 -> ∀ j,j < 6 -> cs[p * 6 + j]? = some ((if p < i then v p else vv0).cell j)) /\ Below B w wr /\ Below (B + 2) Wx wr /\ B + 3 <= wr.heap.size) (fun iv _ => 2 - (intOf iv).toNat)
  case atStart => exact ⟨0,z12,Nat.zero_le _,rfl,HQ3.out,by simp [z12,cells12],Lib.hid (fun p hp j hj => by rw [if_neg (by omega)]; exact z12_at hp hj),HB2.out,Below.refl _ _,by omega⟩
  case round =>
   obtain ⟨i,cs,hi2,rfl,hq,hsz,hcc,hbw,hbx,hbs⟩:=hrel
   obtain ⟨wo,rfl⟩ : ∃ wo : World,wo = wr:=⟨_,rfl⟩
   by_cases hlt : i < 2
   ·have hrg:=xv_range (cells_below hbw (Nat.lt_of_lt_of_le hab hK) HAC.out) hlt
    have ha:=HARG.out i hlt
    obtain ⟨y,hy⟩ : ∃ y,gx i = y:=⟨_,rfl⟩
    rw [hy] at hrg ha
    have h1c : ∀ u ∈ y.cells,u.oneCell' = true:=by simp [Value.oneCell']
    go_upto_region 20 with (first
     | (refine wpList_load_mid rfl 49 (.tmp 94) rfl ab (ao + i * 9) rfl y.cells.toList _ hrg Tryz.underlying49 rfl infoExN ?_)
     | (refine wpList_store_new rfl 49 (.tmp 7) (.tmp 95) rfl y.cells _ infoExN rfl h1c wo.heap.size rfl rfl rfl ?_))
    obtain ⟨T,hT⟩ : ∃ T,wo.heap.size = T:=⟨_,rfl⟩
    obtain ⟨W3,hW3⟩ : ∃ W3,wo.alloc (.cells y.cells 49) = W3:=⟨_,rfl⟩
    have b3 : Below wo.heap.size wo W3:=by rw [<- hW3]; exact (Below.refl _ _).alloc (Nat.le_refl _) _
    have qt : Blk W3 T y.cells 49:=by rw [<- hW3,<- hT]; exact Blk.new wo _ _
    have hq3:=hq.below b3 (by omega)
    have bw3:=hbw.trans (b3.mono (by omega))
    have bx3:=hbx.trans (b3.mono (by omega))
    have s3 : W3.heap.size = T + 1:=by rw [<- hW3,<- hT]; simp
    have sT : B + 3 <= T:=by omega
    have hr2 : W3.rangeAt T 2 y.vv.cells.toList:=xvv_range qt
    have HT:=Lib.hid hT
    have HW3:=Lib.hid hW3
    dsimp only [Xv.cells] at HW3
    simp only [HT.out]
    rw [HW3.out]
    clear hT hW3 HW3 HT hrg hq hbw hbx b3 c0 c1 c2 c3 c4 c5 c6 c7 c8
    obtain ⟨cs1,hq1,hsz1,hcs1⟩:=blk_setCells y.vv.cells.toList (i * 6) W3 cs hq3 (by rw [hsz]; show i * 6 + 6 <= 12; omega)
    have hth1 : W3.there (B + 2) (i * 6) y.vv.cells.size:=blk_there hq3 (by rw [hsz]; show i * 6 + 6 <= 12; omega)
    have hg1:=grown_setCells y.vv.cells.toList (i * 6) W3 (B + 2)
    have hs1:=size_setCellsG y.vv.cells.toList (i * 6) W3 (B + 2)
    obtain ⟨V1,hV1⟩ : ∃ V,W3.setCells (B + 2) (i * 6) y.vv.cells.toList = V:=⟨_,rfl⟩
    rw [hV1] at hq1 hg1 hs1
    have HV1:=Lib.hid hV1
    have HQ1':=Lib.hid hq1
    have HCS1:=Lib.hid hcs1
    have HG1:=Lib.hid hg1
    clear hV1 hq1 hcs1 hg1
    have hal1 : y.vv.cells.all (·.oneCell') = true:=Array.all_eq_true_iff_forall_mem.2 (by simp [Value.oneCell'])
    go_upto_region 21 with (first
     | (refine wpList_load_mid rfl 47 (.tmp 97) rfl T 2 rfl y.vv.cells.toList _ hr2 Tryz.underlying47 rfl infoValN ?_)
     | (refine wpList_store_mid rfl 47 (.tmp 99) (.tmp 98) rfl (B + 2) (i * 6) y.vv.cells rfl rfl hth1 infoValN hal1 ?_; rw [HV1.out]))
    have qt1 : Blk V1 T y.cells 49:=qt.kept HG1.out (by simp; omega)
    have k0 : V1.cell? ⟨T,0,none⟩ = some (.int .u8 y.op):=qt1.at rfl
    have k1 : V1.cell? ⟨T,1,none⟩ = some (S y.nm):=qt1.at rfl
    have bw1:=bw3.trans (below_of_grownBy (K:=B) HG1.out (by omega) (by omega))
    have bx1:=bx3.trans (below_of_grownBy (K:=B + 2) HG1.out (by omega) (by omega))
    clear qt hr2 hth1 hal1 bw3 bx3
    rcases ha with ⟨h5,hnm,hvi⟩ | ⟨h1,hvi⟩
    ·rw [h5] at k0
     rw [hnm] at k1
     have hsz1q : cs1.size = 12:=by omega
     have hb2 : (((⟨#[115,bb]⟩ : ByteArray)[1]'(by show 1 < 2; omega)).toNat : Int) = 48 + (q : Int):=hbi
     have hwk : IntKind.u8.wrap (48 + (q : Int) - 48) = q:=by rw [show 48 + (q : Int) - 48 = q by omega]; exact IntWalk.u8_in _ (by omega)
     have hk12 : (q : Int) < 12:=by omega
     have hrq : V1.rangeAt (B + 1) (q * 6) (g q).cells.toList:=row72 (HA.out ▸ (HQ2.out.below bx1 (by omega))) hq
     obtain ⟨ga1,gm1,ge1,_⟩:=(HV.out q hq).n.form
     obtain ⟨ga2,gm2,ge2,_⟩:=(HV.out q hq).d.form
     have hal2 : (g q).cells.all (·.oneCell') = true:=Array.all_eq_true_iff_forall_mem.2 (by simp [Value.oneCell',ge1,ge2])
     obtain ⟨cs2,hq2,hsz2,hcs2⟩:=blk_setCells (g q).cells.toList (i * 6) V1 cs1 HQ1'.out (by rw [hsz1q]; show i * 6 + 6 <= 12; omega)
     have hth2 : V1.there (B + 2) (i * 6) (g q).cells.size:=blk_there HQ1'.out (by rw [hsz1q]; show i * 6 + 6 <= 12; omega)
     have hg2:=grown_setCells (g q).cells.toList (i * 6) V1 (B + 2)
     have hs2:=size_setCellsG (g q).cells.toList (i * 6) V1 (B + 2)
     obtain ⟨V2,hV2⟩ : ∃ V,V1.setCells (B + 2) (i * 6) (g q).cells.toList = V:=⟨_,rfl⟩
     rw [hV2] at hq2 hg2 hs2
     have HV2:=Lib.hid hV2
     have HQ2':=Lib.hid hq2
     have HCS2:=Lib.hid hcs2
     have HG2:=Lib.hid hg2
     clear hV2 hq2 hcs2 hg2
     clear ge1 ge2
     go_upto_region 23 with (first
      | (refine wpList_load_mid rfl 47 (.tmp 108) rfl (B + 1) (q * 6) rfl (g q).cells.toList _ hrq Tryz.underlying47 rfl infoValN ?_)
      | (refine wpList_store_mid rfl 47 (.tmp 110) (.tmp 109) rfl (B + 2) (i * 6) (g q).cells rfl rfl hth2 infoValN hal2 ?_; rw [HV2.out]))
     have bw2:=bw1.trans (below_of_grownBy (K:=B) HG2.out (by omega) (by omega))
     have bx2:=bx1.trans (below_of_grownBy (K:=B + 2) HG2.out (by omega) (by omega))
     have HCC2 : Hid (∀ p,p < 2 -> ∀ j,j < 6 -> cs2[p * 6 + j]? = some ((if p < i + 1 then v p else vv0).cell j)):=Lib.hid (arr_set hsz1q HCS2.out (fun p hp e j hj => (arr_keep hsz HCS1.out hp hj e).trans (hcc.out p hp j hj)) hlt hvi)
     have hsz2' : cs2.size = 12:=by omega
     clear h5 hvi hnm hrq hal2 hth2
     go_wp2_with fail
     exact ⟨⟨i + 1,cs2,by omega,by go_num,HQ2'.out,hsz2',HCC2,bw2,bx2,by omega⟩,by simp [intOf]; omega⟩
    ·rw [h1] at k0
     have HCC1 : Hid (∀ p,p < 2 -> ∀ j,j < 6 -> cs1[p * 6 + j]? = some ((if p < i + 1 then v p else vv0).cell j)):=Lib.hid (arr_set hsz HCS1.out (fun p hp _ j hj => hcc.out p hp j hj) hlt hvi)
     have hsz1' : cs1.size = 12:=by omega
     clear h1 hvi
     go_wp2_with fail
     exact ⟨⟨i + 1,cs1,by omega,by go_num,HQ1'.out,hsz1',HCC1,bw1,bx1,by omega⟩,by simp [intOf]; omega⟩
   ·obtain rfl : i = 2:=by omega
    have n5 : wo.cell? ⟨B + 2,5,none⟩ = some (.int .i64 (v 0).i):=hq.at (hcc.out 0 (by omega) 5 (by omega))
    have n11 : wo.cell? ⟨B + 2,11,none⟩ = some (.int .i64 (v 1).i):=hq.at (hcc.out 1 (by omega) 5 (by omega))
    have n0 : wo.cell? ⟨B + 2,0,none⟩ = some (.int .u8 (v 0).kd):=hq.at (hcc.out 0 (by omega) 0 (by omega))
    have hi0:=HI.out 0 (by omega)
    have hi1:=HI.out 1 (by omega)
    have e0:=(HU.out 0 (by omega)).i
    have e1:=(HU.out 1 (by omega)).i
    have ek:=(HU.out 0 (by omega)).kd
    have hw : IntKind.i64.wrap ((v 0).i - (v 1).i) = (v 0).i - (v 1).i:=IntWalk.i64_in _ (by omega)
    obtain ⟨c0,c1,c2,c3,c4,c5,c6,c7,c8⟩:=(HQ1.out.below hbx (by omega)).nine
    by_cases hf : (u 0).kd = 2 \/ (u 0).kd = 3
    ·have hu0:=HU.out 0 (by omega)
     have hu1:=HU.out 1 (by omega)
     obtain ⟨T0,hT0⟩ : ∃ t,twL (u 0).l1 (u 0).l2 = t:=⟨_,rfl⟩
     obtain ⟨T1,hT1⟩ : ∃ t,twL (u 1).l1 (u 1).l2 = t:=⟨_,rfl⟩
     have ht0:=twL_bound hu0.n.2 (u 0).l2
     have ht1:=twL_bound hu1.n.2 (u 1).l2
     rw [hT0] at ht0
     rw [hT1] at ht1
     have hbs0 : B <= wo.heap.size:=by omega
     have HC0 : Hid (∀ W',Below wo.heap.size wo W' -> Calls Tryz.prog 84 #[.agg #[.bool (v 0).b1,(v 0).s1,.bool (v 0).b2,(v 0).s2]] W' fun en w' => en = .returned (.int .i64 T0) /\ Below W'.heap.size W' w'):=Lib.hid fun W' h => by
      rw [<- hT0]
      exact gtwice_any K _ _ _ _ _ _ W' (hu0.n.below (hbw.trans (h.mono hbs0)) hK (Nat.le_refl _)) (hu0.d.below (hbw.trans (h.mono hbs0)) hK (Nat.le_refl _)) (by have := h.size; omega)
     have HC1 : Hid (∀ W',Below wo.heap.size wo W' -> Calls Tryz.prog 84 #[.agg #[.bool (v 1).b1,(v 1).s1,.bool (v 1).b2,(v 1).s2]] W' fun en w' => en = .returned (.int .i64 T1) /\ Below W'.heap.size W' w'):=Lib.hid fun W' h => by
      rw [<- hT1]
      exact gtwice_any K _ _ _ _ _ _ W' (hu1.n.below (hbw.trans (h.mono hbs0)) hK (Nat.le_refl _)) (hu1.d.below (hbw.trans (h.mono hbs0)) hK (Nat.le_refl _)) (by have := h.size; omega)
     have HN01 : Hid (∀ W',Below wo.heap.size wo W' -> W'.cell? ⟨B + 2,1,none⟩ = some (.bool (v 0).b1)):=Lib.hid fun W' h => (hq.below h hq.lt).at (hcc.out 0 (by omega) 1 (by omega))
     have HN02 : Hid (∀ W',Below wo.heap.size wo W' -> W'.cell? ⟨B + 2,2,none⟩ = some ((v 0).s1)):=Lib.hid fun W' h => (hq.below h hq.lt).at (hcc.out 0 (by omega) 2 (by omega))
     have HN03 : Hid (∀ W',Below wo.heap.size wo W' -> W'.cell? ⟨B + 2,3,none⟩ = some (.bool (v 0).b2)):=Lib.hid fun W' h => (hq.below h hq.lt).at (hcc.out 0 (by omega) 3 (by omega))
     have HN04 : Hid (∀ W',Below wo.heap.size wo W' -> W'.cell? ⟨B + 2,4,none⟩ = some ((v 0).s2)):=Lib.hid fun W' h => (hq.below h hq.lt).at (hcc.out 0 (by omega) 4 (by omega))
     have HN11 : Hid (∀ W',Below wo.heap.size wo W' -> W'.cell? ⟨B + 2,7,none⟩ = some (.bool (v 1).b1)):=Lib.hid fun W' h => (hq.below h hq.lt).at (hcc.out 1 (by omega) 1 (by omega))
     have HN12 : Hid (∀ W',Below wo.heap.size wo W' -> W'.cell? ⟨B + 2,8,none⟩ = some ((v 1).s1)):=Lib.hid fun W' h => (hq.below h hq.lt).at (hcc.out 1 (by omega) 2 (by omega))
     have HN13 : Hid (∀ W',Below wo.heap.size wo W' -> W'.cell? ⟨B + 2,9,none⟩ = some (.bool (v 1).b2)):=Lib.hid fun W' h => (hq.below h hq.lt).at (hcc.out 1 (by omega) 3 (by omega))
     have HN14 : Hid (∀ W',Below wo.heap.size wo W' -> W'.cell? ⟨B + 2,10,none⟩ = some ((v 1).s2)):=Lib.hid fun W' h => (hq.below h hq.lt).at (hcc.out 1 (by omega) 4 (by omega))
     have HRF : Hid (cmpT 13 (u 0) (u 1) = decide (T0 - T1 < 0)):=Lib.hid (by unfold cmpT difV; rw [if_pos hf,twc_L,twc_L,hT0,hT1]; simp)
     have HWW : Hid (IntKind.i64.wrap (T0 - T1) = T0 - T1):=Lib.hid (IntWalk.i64_in _ (by omega))
     have ek':=ek
     clear hT0 hT1 e0 e1 ek
     rcases hf with hf | hf
     ·have hk2 : ((v 0).kd == 2) = true:=by rw [ek',hf]; rfl
      clear ek' hf hu0 hu1
      go_upto_region 26 with fail
      refine region_WQ (fun W' => Below wo.heap.size wo W') (by kernel_rfl) (by kernel_rfl) ⟨rfl,rfl,rfl,Nat.le_refl _,fun _ _ => rfl⟩ ?_
      refine WQ.take (.pointer (some ⟨B + 2,0,none⟩)) (.inl ⟨by kernel_rfl,fun W' hS => by go_simp <;> exact hS⟩) ?_
      refine WQ.take (.pointer (some ⟨B + 2,1,none⟩)) (.inl ⟨by kernel_rfl,fun W' hS => by go_simp <;> exact hS⟩) ?_
      refine WQ.take (.agg #[.bool (v 0).b1,(v 0).s1,.bool (v 0).b2,(v 0).s2]) (.inl ⟨by kernel_rfl,fun W' hS => by have m1:=HN01.out W' hS; have m2:=HN02.out W' hS; have m3:=HN03.out W' hS; have m4:=HN04.out W' hS; go_simp <;> exact hS⟩) ?_
      refine WQ.take (.int .i64 T0) (.inl ⟨by kernel_rfl,fun W' hS => by go_simp <;> exact (HC0.out W' hS).mono fun e W'' ⟨h1,h2⟩ => ⟨h1,hS.trans (h2.mono hS.size)⟩⟩) ?_
      refine WQ.take (.pointer (some ⟨B + 2,6,none⟩)) (.inl ⟨by kernel_rfl,fun W' hS => by go_simp <;> exact hS⟩) ?_
      refine WQ.take (.pointer (some ⟨B + 2,7,none⟩)) (.inl ⟨by kernel_rfl,fun W' hS => by go_simp <;> exact hS⟩) ?_
      refine WQ.take (.agg #[.bool (v 1).b1,(v 1).s1,.bool (v 1).b2,(v 1).s2]) (.inl ⟨by kernel_rfl,fun W' hS => by have m1:=HN11.out W' hS; have m2:=HN12.out W' hS; have m3:=HN13.out W' hS; have m4:=HN14.out W' hS; go_simp <;> exact hS⟩) ?_
      refine WQ.take (.int .i64 T1) (.inl ⟨by kernel_rfl,fun W' hS => by go_simp <;> exact (HC1.out W' hS).mono fun e W'' ⟨h1,h2⟩ => ⟨h1,hS.trans (h2.mono hS.size)⟩⟩) ?_
      refine WQ.take (.int .i64 (T0 - T1)) (.inl ⟨by kernel_rfl,fun W' hS => by have hww:=HWW.out; go_simp <;> exact hS⟩) ?_
      refine WQ.take (.int .i64 (T0 - T1)) (.inl ⟨by kernel_rfl,fun W' hS => by go_simp <;> exact hS⟩) ?_
      refine WQ.nil ?_
      intro W9 hS9
      have bw9:=hbw.trans (hS9.mono (by omega))
      have q9:=HQ1.out.below (hbx.trans (hS9.mono (by omega))) (by omega)
      obtain ⟨c0,c1,c2,c3,c4,c5,c6,c7,c8⟩:=q9.nine
      clear hS9 q9
      go_simp
      go_upto_region 27 with fail
      go_wp2_with fail
      all_goals go_ret
      all_goals
       refine ⟨?_,bw9⟩
       rw [HRF.out]
       first | rfl | (simp; omega) | simp
     ·have hk2 : ((v 0).kd == 2) = false:=by rw [ek',hf]; rfl
      have hk3 : ((v 0).kd == 3) = true:=by rw [ek',hf]; rfl
      clear ek' hf hu0 hu1
      go_upto_region 26 with fail
      refine region_WQ (fun W' => Below wo.heap.size wo W') (by kernel_rfl) (by kernel_rfl) ⟨rfl,rfl,rfl,Nat.le_refl _,fun _ _ => rfl⟩ ?_
      refine WQ.take (.pointer (some ⟨B + 2,0,none⟩)) (.inl ⟨by kernel_rfl,fun W' hS => by go_simp <;> exact hS⟩) ?_
      refine WQ.take (.pointer (some ⟨B + 2,1,none⟩)) (.inl ⟨by kernel_rfl,fun W' hS => by go_simp <;> exact hS⟩) ?_
      refine WQ.take (.agg #[.bool (v 0).b1,(v 0).s1,.bool (v 0).b2,(v 0).s2]) (.inl ⟨by kernel_rfl,fun W' hS => by have m1:=HN01.out W' hS; have m2:=HN02.out W' hS; have m3:=HN03.out W' hS; have m4:=HN04.out W' hS; go_simp <;> exact hS⟩) ?_
      refine WQ.take (.int .i64 T0) (.inl ⟨by kernel_rfl,fun W' hS => by go_simp <;> exact (HC0.out W' hS).mono fun e W'' ⟨h1,h2⟩ => ⟨h1,hS.trans (h2.mono hS.size)⟩⟩) ?_
      refine WQ.take (.pointer (some ⟨B + 2,6,none⟩)) (.inl ⟨by kernel_rfl,fun W' hS => by go_simp <;> exact hS⟩) ?_
      refine WQ.take (.pointer (some ⟨B + 2,7,none⟩)) (.inl ⟨by kernel_rfl,fun W' hS => by go_simp <;> exact hS⟩) ?_
      refine WQ.take (.agg #[.bool (v 1).b1,(v 1).s1,.bool (v 1).b2,(v 1).s2]) (.inl ⟨by kernel_rfl,fun W' hS => by have m1:=HN11.out W' hS; have m2:=HN12.out W' hS; have m3:=HN13.out W' hS; have m4:=HN14.out W' hS; go_simp <;> exact hS⟩) ?_
      refine WQ.take (.int .i64 T1) (.inl ⟨by kernel_rfl,fun W' hS => by go_simp <;> exact (HC1.out W' hS).mono fun e W'' ⟨h1,h2⟩ => ⟨h1,hS.trans (h2.mono hS.size)⟩⟩) ?_
      refine WQ.take (.int .i64 (T0 - T1)) (.inl ⟨by kernel_rfl,fun W' hS => by have hww:=HWW.out; go_simp <;> exact hS⟩) ?_
      refine WQ.take (.int .i64 (T0 - T1)) (.inl ⟨by kernel_rfl,fun W' hS => by go_simp <;> exact hS⟩) ?_
      refine WQ.nil ?_
      intro W9 hS9
      have bw9:=hbw.trans (hS9.mono (by omega))
      have q9:=HQ1.out.below (hbx.trans (hS9.mono (by omega))) (by omega)
      obtain ⟨c0,c1,c2,c3,c4,c5,c6,c7,c8⟩:=q9.nine
      clear hS9 q9
      go_simp
      go_upto_region 27 with fail
      go_wp2_with fail
      all_goals go_ret
      all_goals
       refine ⟨?_,bw9⟩
       rw [HRF.out]
       first | rfl | (simp; omega) | simp
    ·have hk2 : ((v 0).kd == 2) = false:=by simp; omega
     have hk3 : ((v 0).kd == 3) = false:=by simp; omega
     have hr : cmpT 13 (u 0) (u 1) = decide ((v 0).i - (v 1).i < 0):=by
      unfold cmpT difV
      rw [if_neg hf,e0,e1]; simp
     have HR:=Lib.hid hr
     clear e0 e1 ek hr
     go_wp2_with fail
     all_goals go_ret
     all_goals
      refine ⟨?_,hbw⟩
      rw [HR.out]
      first | rfl | (simp; omega) | simp
 ·go_upto_region 17 with fail
  generalize hWx : World.alloc W1 _ = Wx
  obtain rfl : Wx = W2:=by rw [<- hWx,<- HW2.out]; rfl
  clear hWx HW2 c0 c1 c2 c3 c4 c5 c6 c7 c8
  obtain ⟨c0,c1,c2,c3,c4,c5,c6,c7,c8⟩:=HQ1.out.nine
  go_wp2_with fail
  go_loopw [91] (fun iv wr => ∃ (i : Nat) (cs : Array Value),i <= 2 /\ iv = .int .i64 i /\ Blk wr (B + 2) cs 142 /\ cs.size = 12 /\ Hid (∀ p,p < 2 -> ∀ j,j < 6 -> cs[p * 6 + j]? = some ((if p < i then v p else vv0).cell j)) /\ Below B w wr /\ Below (B + 2) Wx wr /\ B + 3 <= wr.heap.size) (fun iv _ => 2 - (intOf iv).toNat)
  case atStart => exact ⟨0,z12,Nat.zero_le _,rfl,HQ3.out,by simp [z12,cells12],Lib.hid (fun p hp j hj => by rw [if_neg (by omega)]; exact z12_at hp hj),HB2.out,Below.refl _ _,by omega⟩
  case round =>
   obtain ⟨i,cs,hi2,rfl,hq,hsz,hcc,hbw,hbx,hbs⟩:=hrel
   obtain ⟨wo,rfl⟩ : ∃ wo : World,wo = wr:=⟨_,rfl⟩
   by_cases hlt : i < 2
   ·have hrg:=xv_range (cells_below hbw (Nat.lt_of_lt_of_le hab hK) HAC.out) hlt
    have ha:=HARG.out i hlt
    obtain ⟨y,hy⟩ : ∃ y,gx i = y:=⟨_,rfl⟩
    rw [hy] at hrg ha
    have h1c : ∀ u ∈ y.cells,u.oneCell' = true:=by simp [Value.oneCell']
    go_upto_region 20 with (first
     | (refine wpList_load_mid rfl 49 (.tmp 94) rfl ab (ao + i * 9) rfl y.cells.toList _ hrg Tryz.underlying49 rfl infoExN ?_)
     | (refine wpList_store_new rfl 49 (.tmp 7) (.tmp 95) rfl y.cells _ infoExN rfl h1c wo.heap.size rfl rfl rfl ?_))
    obtain ⟨T,hT⟩ : ∃ T,wo.heap.size = T:=⟨_,rfl⟩
    obtain ⟨W3,hW3⟩ : ∃ W3,wo.alloc (.cells y.cells 49) = W3:=⟨_,rfl⟩
    have b3 : Below wo.heap.size wo W3:=by rw [<- hW3]; exact (Below.refl _ _).alloc (Nat.le_refl _) _
    have qt : Blk W3 T y.cells 49:=by rw [<- hW3,<- hT]; exact Blk.new wo _ _
    have hq3:=hq.below b3 (by omega)
    have bw3:=hbw.trans (b3.mono (by omega))
    have bx3:=hbx.trans (b3.mono (by omega))
    have s3 : W3.heap.size = T + 1:=by rw [<- hW3,<- hT]; simp
    have sT : B + 3 <= T:=by omega
    have hr2 : W3.rangeAt T 2 y.vv.cells.toList:=xvv_range qt
    have HT:=Lib.hid hT
    have HW3:=Lib.hid hW3
    dsimp only [Xv.cells] at HW3
    simp only [HT.out]
    rw [HW3.out]
    clear hT hW3 HW3 HT hrg hq hbw hbx b3 c0 c1 c2 c3 c4 c5 c6 c7 c8
    obtain ⟨cs1,hq1,hsz1,hcs1⟩:=blk_setCells y.vv.cells.toList (i * 6) W3 cs hq3 (by rw [hsz]; show i * 6 + 6 <= 12; omega)
    have hth1 : W3.there (B + 2) (i * 6) y.vv.cells.size:=blk_there hq3 (by rw [hsz]; show i * 6 + 6 <= 12; omega)
    have hg1:=grown_setCells y.vv.cells.toList (i * 6) W3 (B + 2)
    have hs1:=size_setCellsG y.vv.cells.toList (i * 6) W3 (B + 2)
    obtain ⟨V1,hV1⟩ : ∃ V,W3.setCells (B + 2) (i * 6) y.vv.cells.toList = V:=⟨_,rfl⟩
    rw [hV1] at hq1 hg1 hs1
    have HV1:=Lib.hid hV1
    have HQ1':=Lib.hid hq1
    have HCS1:=Lib.hid hcs1
    have HG1:=Lib.hid hg1
    clear hV1 hq1 hcs1 hg1
    have hal1 : y.vv.cells.all (·.oneCell') = true:=Array.all_eq_true_iff_forall_mem.2 (by simp [Value.oneCell'])
    go_upto_region 21 with (first
     | (refine wpList_load_mid rfl 47 (.tmp 97) rfl T 2 rfl y.vv.cells.toList _ hr2 Tryz.underlying47 rfl infoValN ?_)
     | (refine wpList_store_mid rfl 47 (.tmp 99) (.tmp 98) rfl (B + 2) (i * 6) y.vv.cells rfl rfl hth1 infoValN hal1 ?_; rw [HV1.out]))
    have qt1 : Blk V1 T y.cells 49:=qt.kept HG1.out (by simp; omega)
    have k0 : V1.cell? ⟨T,0,none⟩ = some (.int .u8 y.op):=qt1.at rfl
    have k1 : V1.cell? ⟨T,1,none⟩ = some (S y.nm):=qt1.at rfl
    have bw1:=bw3.trans (below_of_grownBy (K:=B) HG1.out (by omega) (by omega))
    have bx1:=bx3.trans (below_of_grownBy (K:=B + 2) HG1.out (by omega) (by omega))
    clear qt hr2 hth1 hal1 bw3 bx3
    rcases ha with ⟨h5,hnm,hvi⟩ | ⟨h1,hvi⟩
    ·rw [h5] at k0
     rw [hnm] at k1
     have hsz1q : cs1.size = 12:=by omega
     have hb2 : (((⟨#[115,bb]⟩ : ByteArray)[1]'(by show 1 < 2; omega)).toNat : Int) = 48 + (q : Int):=hbi
     have hwk : IntKind.u8.wrap (48 + (q : Int) - 48) = q:=by rw [show 48 + (q : Int) - 48 = q by omega]; exact IntWalk.u8_in _ (by omega)
     have hk12 : (q : Int) < 12:=by omega
     have hrq : V1.rangeAt (B + 1) (q * 6) (g q).cells.toList:=row72 (HA.out ▸ (HQ2.out.below bx1 (by omega))) hq
     obtain ⟨ga1,gm1,ge1,_⟩:=(HV.out q hq).n.form
     obtain ⟨ga2,gm2,ge2,_⟩:=(HV.out q hq).d.form
     have hal2 : (g q).cells.all (·.oneCell') = true:=Array.all_eq_true_iff_forall_mem.2 (by simp [Value.oneCell',ge1,ge2])
     obtain ⟨cs2,hq2,hsz2,hcs2⟩:=blk_setCells (g q).cells.toList (i * 6) V1 cs1 HQ1'.out (by rw [hsz1q]; show i * 6 + 6 <= 12; omega)
     have hth2 : V1.there (B + 2) (i * 6) (g q).cells.size:=blk_there HQ1'.out (by rw [hsz1q]; show i * 6 + 6 <= 12; omega)
     have hg2:=grown_setCells (g q).cells.toList (i * 6) V1 (B + 2)
     have hs2:=size_setCellsG (g q).cells.toList (i * 6) V1 (B + 2)
     obtain ⟨V2,hV2⟩ : ∃ V,V1.setCells (B + 2) (i * 6) (g q).cells.toList = V:=⟨_,rfl⟩
     rw [hV2] at hq2 hg2 hs2
     have HV2:=Lib.hid hV2
     have HQ2':=Lib.hid hq2
     have HCS2:=Lib.hid hcs2
     have HG2:=Lib.hid hg2
     clear hV2 hq2 hcs2 hg2
     clear ge1 ge2
     go_upto_region 23 with (first
      | (refine wpList_load_mid rfl 47 (.tmp 108) rfl (B + 1) (q * 6) rfl (g q).cells.toList _ hrq Tryz.underlying47 rfl infoValN ?_)
      | (refine wpList_store_mid rfl 47 (.tmp 110) (.tmp 109) rfl (B + 2) (i * 6) (g q).cells rfl rfl hth2 infoValN hal2 ?_; rw [HV2.out]))
     have bw2:=bw1.trans (below_of_grownBy (K:=B) HG2.out (by omega) (by omega))
     have bx2:=bx1.trans (below_of_grownBy (K:=B + 2) HG2.out (by omega) (by omega))
     have HCC2 : Hid (∀ p,p < 2 -> ∀ j,j < 6 -> cs2[p * 6 + j]? = some ((if p < i + 1 then v p else vv0).cell j)):=Lib.hid (arr_set hsz1q HCS2.out (fun p hp e j hj => (arr_keep hsz HCS1.out hp hj e).trans (hcc.out p hp j hj)) hlt hvi)
     have hsz2' : cs2.size = 12:=by omega
     clear h5 hvi hnm hrq hal2 hth2
     go_wp2_with fail
     exact ⟨⟨i + 1,cs2,by omega,by go_num,HQ2'.out,hsz2',HCC2,bw2,bx2,by omega⟩,by simp [intOf]; omega⟩
    ·rw [h1] at k0
     have HCC1 : Hid (∀ p,p < 2 -> ∀ j,j < 6 -> cs1[p * 6 + j]? = some ((if p < i + 1 then v p else vv0).cell j)):=Lib.hid (arr_set hsz HCS1.out (fun p hp _ j hj => hcc.out p hp j hj) hlt hvi)
     have hsz1' : cs1.size = 12:=by omega
     clear h1 hvi
     go_wp2_with fail
     exact ⟨⟨i + 1,cs1,by omega,by go_num,HQ1'.out,hsz1',HCC1,bw1,bx1,by omega⟩,by simp [intOf]; omega⟩
   ·obtain rfl : i = 2:=by omega
    have n5 : wo.cell? ⟨B + 2,5,none⟩ = some (.int .i64 (v 0).i):=hq.at (hcc.out 0 (by omega) 5 (by omega))
    have n11 : wo.cell? ⟨B + 2,11,none⟩ = some (.int .i64 (v 1).i):=hq.at (hcc.out 1 (by omega) 5 (by omega))
    have n0 : wo.cell? ⟨B + 2,0,none⟩ = some (.int .u8 (v 0).kd):=hq.at (hcc.out 0 (by omega) 0 (by omega))
    have hi0:=HI.out 0 (by omega)
    have hi1:=HI.out 1 (by omega)
    have e0:=(HU.out 0 (by omega)).i
    have e1:=(HU.out 1 (by omega)).i
    have ek:=(HU.out 0 (by omega)).kd
    have hw : IntKind.i64.wrap ((v 0).i - (v 1).i) = (v 0).i - (v 1).i:=IntWalk.i64_in _ (by omega)
    obtain ⟨c0,c1,c2,c3,c4,c5,c6,c7,c8⟩:=(HQ1.out.below hbx (by omega)).nine
    by_cases hf : (u 0).kd = 2 \/ (u 0).kd = 3
    ·have hu0:=HU.out 0 (by omega)
     have hu1:=HU.out 1 (by omega)
     obtain ⟨T0,hT0⟩ : ∃ t,twL (u 0).l1 (u 0).l2 = t:=⟨_,rfl⟩
     obtain ⟨T1,hT1⟩ : ∃ t,twL (u 1).l1 (u 1).l2 = t:=⟨_,rfl⟩
     have ht0:=twL_bound hu0.n.2 (u 0).l2
     have ht1:=twL_bound hu1.n.2 (u 1).l2
     rw [hT0] at ht0
     rw [hT1] at ht1
     have hbs0 : B <= wo.heap.size:=by omega
     have HC0 : Hid (∀ W',Below wo.heap.size wo W' -> Calls Tryz.prog 84 #[.agg #[.bool (v 0).b1,(v 0).s1,.bool (v 0).b2,(v 0).s2]] W' fun en w' => en = .returned (.int .i64 T0) /\ Below W'.heap.size W' w'):=Lib.hid fun W' h => by
      rw [<- hT0]
      exact gtwice_any K _ _ _ _ _ _ W' (hu0.n.below (hbw.trans (h.mono hbs0)) hK (Nat.le_refl _)) (hu0.d.below (hbw.trans (h.mono hbs0)) hK (Nat.le_refl _)) (by have := h.size; omega)
     have HC1 : Hid (∀ W',Below wo.heap.size wo W' -> Calls Tryz.prog 84 #[.agg #[.bool (v 1).b1,(v 1).s1,.bool (v 1).b2,(v 1).s2]] W' fun en w' => en = .returned (.int .i64 T1) /\ Below W'.heap.size W' w'):=Lib.hid fun W' h => by
      rw [<- hT1]
      exact gtwice_any K _ _ _ _ _ _ W' (hu1.n.below (hbw.trans (h.mono hbs0)) hK (Nat.le_refl _)) (hu1.d.below (hbw.trans (h.mono hbs0)) hK (Nat.le_refl _)) (by have := h.size; omega)
     have HN01 : Hid (∀ W',Below wo.heap.size wo W' -> W'.cell? ⟨B + 2,1,none⟩ = some (.bool (v 0).b1)):=Lib.hid fun W' h => (hq.below h hq.lt).at (hcc.out 0 (by omega) 1 (by omega))
     have HN02 : Hid (∀ W',Below wo.heap.size wo W' -> W'.cell? ⟨B + 2,2,none⟩ = some ((v 0).s1)):=Lib.hid fun W' h => (hq.below h hq.lt).at (hcc.out 0 (by omega) 2 (by omega))
     have HN03 : Hid (∀ W',Below wo.heap.size wo W' -> W'.cell? ⟨B + 2,3,none⟩ = some (.bool (v 0).b2)):=Lib.hid fun W' h => (hq.below h hq.lt).at (hcc.out 0 (by omega) 3 (by omega))
     have HN04 : Hid (∀ W',Below wo.heap.size wo W' -> W'.cell? ⟨B + 2,4,none⟩ = some ((v 0).s2)):=Lib.hid fun W' h => (hq.below h hq.lt).at (hcc.out 0 (by omega) 4 (by omega))
     have HN11 : Hid (∀ W',Below wo.heap.size wo W' -> W'.cell? ⟨B + 2,7,none⟩ = some (.bool (v 1).b1)):=Lib.hid fun W' h => (hq.below h hq.lt).at (hcc.out 1 (by omega) 1 (by omega))
     have HN12 : Hid (∀ W',Below wo.heap.size wo W' -> W'.cell? ⟨B + 2,8,none⟩ = some ((v 1).s1)):=Lib.hid fun W' h => (hq.below h hq.lt).at (hcc.out 1 (by omega) 2 (by omega))
     have HN13 : Hid (∀ W',Below wo.heap.size wo W' -> W'.cell? ⟨B + 2,9,none⟩ = some (.bool (v 1).b2)):=Lib.hid fun W' h => (hq.below h hq.lt).at (hcc.out 1 (by omega) 3 (by omega))
     have HN14 : Hid (∀ W',Below wo.heap.size wo W' -> W'.cell? ⟨B + 2,10,none⟩ = some ((v 1).s2)):=Lib.hid fun W' h => (hq.below h hq.lt).at (hcc.out 1 (by omega) 4 (by omega))
     have HRF : Hid (cmpT 14 (u 0) (u 1) = (T0 - T1 == 0)):=Lib.hid (by unfold cmpT difV; rw [if_pos hf,twc_L,twc_L,hT0,hT1]; simp)
     have HWW : Hid (IntKind.i64.wrap (T0 - T1) = T0 - T1):=Lib.hid (IntWalk.i64_in _ (by omega))
     have ek':=ek
     clear hT0 hT1 e0 e1 ek
     rcases hf with hf | hf
     ·have hk2 : ((v 0).kd == 2) = true:=by rw [ek',hf]; rfl
      clear ek' hf hu0 hu1
      go_upto_region 26 with fail
      refine region_WQ (fun W' => Below wo.heap.size wo W') (by kernel_rfl) (by kernel_rfl) ⟨rfl,rfl,rfl,Nat.le_refl _,fun _ _ => rfl⟩ ?_
      refine WQ.take (.pointer (some ⟨B + 2,0,none⟩)) (.inl ⟨by kernel_rfl,fun W' hS => by go_simp <;> exact hS⟩) ?_
      refine WQ.take (.pointer (some ⟨B + 2,1,none⟩)) (.inl ⟨by kernel_rfl,fun W' hS => by go_simp <;> exact hS⟩) ?_
      refine WQ.take (.agg #[.bool (v 0).b1,(v 0).s1,.bool (v 0).b2,(v 0).s2]) (.inl ⟨by kernel_rfl,fun W' hS => by have m1:=HN01.out W' hS; have m2:=HN02.out W' hS; have m3:=HN03.out W' hS; have m4:=HN04.out W' hS; go_simp <;> exact hS⟩) ?_
      refine WQ.take (.int .i64 T0) (.inl ⟨by kernel_rfl,fun W' hS => by go_simp <;> exact (HC0.out W' hS).mono fun e W'' ⟨h1,h2⟩ => ⟨h1,hS.trans (h2.mono hS.size)⟩⟩) ?_
      refine WQ.take (.pointer (some ⟨B + 2,6,none⟩)) (.inl ⟨by kernel_rfl,fun W' hS => by go_simp <;> exact hS⟩) ?_
      refine WQ.take (.pointer (some ⟨B + 2,7,none⟩)) (.inl ⟨by kernel_rfl,fun W' hS => by go_simp <;> exact hS⟩) ?_
      refine WQ.take (.agg #[.bool (v 1).b1,(v 1).s1,.bool (v 1).b2,(v 1).s2]) (.inl ⟨by kernel_rfl,fun W' hS => by have m1:=HN11.out W' hS; have m2:=HN12.out W' hS; have m3:=HN13.out W' hS; have m4:=HN14.out W' hS; go_simp <;> exact hS⟩) ?_
      refine WQ.take (.int .i64 T1) (.inl ⟨by kernel_rfl,fun W' hS => by go_simp <;> exact (HC1.out W' hS).mono fun e W'' ⟨h1,h2⟩ => ⟨h1,hS.trans (h2.mono hS.size)⟩⟩) ?_
      refine WQ.take (.int .i64 (T0 - T1)) (.inl ⟨by kernel_rfl,fun W' hS => by have hww:=HWW.out; go_simp <;> exact hS⟩) ?_
      refine WQ.take (.int .i64 (T0 - T1)) (.inl ⟨by kernel_rfl,fun W' hS => by go_simp <;> exact hS⟩) ?_
      refine WQ.nil ?_
      intro W9 hS9
      have bw9:=hbw.trans (hS9.mono (by omega))
      have q9:=HQ1.out.below (hbx.trans (hS9.mono (by omega))) (by omega)
      obtain ⟨c0,c1,c2,c3,c4,c5,c6,c7,c8⟩:=q9.nine
      clear hS9 q9
      go_simp
      go_upto_region 27 with fail
      go_wp2_with fail
      all_goals go_ret
      all_goals
       refine ⟨?_,bw9⟩
       rw [HRF.out]
       first | rfl | (simp; omega) | simp
     ·have hk2 : ((v 0).kd == 2) = false:=by rw [ek',hf]; rfl
      have hk3 : ((v 0).kd == 3) = true:=by rw [ek',hf]; rfl
      clear ek' hf hu0 hu1
      go_upto_region 26 with fail
      refine region_WQ (fun W' => Below wo.heap.size wo W') (by kernel_rfl) (by kernel_rfl) ⟨rfl,rfl,rfl,Nat.le_refl _,fun _ _ => rfl⟩ ?_
      refine WQ.take (.pointer (some ⟨B + 2,0,none⟩)) (.inl ⟨by kernel_rfl,fun W' hS => by go_simp <;> exact hS⟩) ?_
      refine WQ.take (.pointer (some ⟨B + 2,1,none⟩)) (.inl ⟨by kernel_rfl,fun W' hS => by go_simp <;> exact hS⟩) ?_
      refine WQ.take (.agg #[.bool (v 0).b1,(v 0).s1,.bool (v 0).b2,(v 0).s2]) (.inl ⟨by kernel_rfl,fun W' hS => by have m1:=HN01.out W' hS; have m2:=HN02.out W' hS; have m3:=HN03.out W' hS; have m4:=HN04.out W' hS; go_simp <;> exact hS⟩) ?_
      refine WQ.take (.int .i64 T0) (.inl ⟨by kernel_rfl,fun W' hS => by go_simp <;> exact (HC0.out W' hS).mono fun e W'' ⟨h1,h2⟩ => ⟨h1,hS.trans (h2.mono hS.size)⟩⟩) ?_
      refine WQ.take (.pointer (some ⟨B + 2,6,none⟩)) (.inl ⟨by kernel_rfl,fun W' hS => by go_simp <;> exact hS⟩) ?_
      refine WQ.take (.pointer (some ⟨B + 2,7,none⟩)) (.inl ⟨by kernel_rfl,fun W' hS => by go_simp <;> exact hS⟩) ?_
      refine WQ.take (.agg #[.bool (v 1).b1,(v 1).s1,.bool (v 1).b2,(v 1).s2]) (.inl ⟨by kernel_rfl,fun W' hS => by have m1:=HN11.out W' hS; have m2:=HN12.out W' hS; have m3:=HN13.out W' hS; have m4:=HN14.out W' hS; go_simp <;> exact hS⟩) ?_
      refine WQ.take (.int .i64 T1) (.inl ⟨by kernel_rfl,fun W' hS => by go_simp <;> exact (HC1.out W' hS).mono fun e W'' ⟨h1,h2⟩ => ⟨h1,hS.trans (h2.mono hS.size)⟩⟩) ?_
      refine WQ.take (.int .i64 (T0 - T1)) (.inl ⟨by kernel_rfl,fun W' hS => by have hww:=HWW.out; go_simp <;> exact hS⟩) ?_
      refine WQ.take (.int .i64 (T0 - T1)) (.inl ⟨by kernel_rfl,fun W' hS => by go_simp <;> exact hS⟩) ?_
      refine WQ.nil ?_
      intro W9 hS9
      have bw9:=hbw.trans (hS9.mono (by omega))
      have q9:=HQ1.out.below (hbx.trans (hS9.mono (by omega))) (by omega)
      obtain ⟨c0,c1,c2,c3,c4,c5,c6,c7,c8⟩:=q9.nine
      clear hS9 q9
      go_simp
      go_upto_region 27 with fail
      go_wp2_with fail
      all_goals go_ret
      all_goals
       refine ⟨?_,bw9⟩
       rw [HRF.out]
       first | rfl | (simp; omega) | simp
    ·have hk2 : ((v 0).kd == 2) = false:=by simp; omega
     have hk3 : ((v 0).kd == 3) = false:=by simp; omega
     have hr : cmpT 14 (u 0) (u 1) = ((v 0).i - (v 1).i == 0):=by
      unfold cmpT difV
      rw [if_neg hf,e0,e1]; simp
     have HR:=Lib.hid hr
     clear e0 e1 ek hr
     go_wp2_with fail
     all_goals go_ret
     all_goals
      refine ⟨?_,hbw⟩
      rw [HR.out]
      first | rfl | (simp; omega) | simp
theorem exg_sub {K : Nat} {w : World} {k : Nat} {y : Xv} (h : ExG K w (subG k) y) : y.op = 5 /\ y.nm = [115,UInt8.ofNat (48 + k % 12)]:=by
 obtain ⟨h1,h2,_⟩:=h.open
 exact ⟨h1,h2⟩
theorem exg_conv {K : Nat} {w : World} {v : Vq} {y : Xv} (h : ExG K w (conV v) y) : y.op = 1 /\ VlX K w v y.vv:=by
 obtain ⟨h1,_,_,h4,_⟩:=h.open
 exact ⟨h1,h4⟩
theorem wV_small (kd : Int) (n : Nat) (hn : n < 8) : 0 <= (wV kd n).i /\ (wV kd n).i <= 8:=by
 unfold wV
 split
 ·exact ⟨Int.le_refl _,by show (0 : Int) <= 8; omega⟩
 ·show 0 <= ((n : Nat) : Int) /\ ((n : Nat) : Int) <= 8; omega
theorem sub_byte (k : Nat) (hk : k < 12) : ((UInt8.ofNat (48 + k)).toNat : Int) = 48 + (k : Int):=by rw [UInt8.toNat_ofNat']; omega
theorem gtrue_tst (nl : List Nat) (g : Nat -> Vv) (x n : Nat) (hk : kindN (x / 3) ≠ 1) (hn : n < 8) : TrueAt nl g (tstG x n):=by
 intro K X w hv hK hx
 obtain ⟨hop,_,_,_,gx,hgx,hgs⟩:=hx.open
 have hq : x / 3 % 12 < 12:=Nat.mod_lt _ (by omega)
 have ha:=tst_args x n (valsM nl)
 have hs0:=valM_small (x / 3 % 12) (nl[x / 3 % 12]?.getD 0)
 have hw0:=wV_small (kindN (x / 3)) n hn
 by_cases h2 : x % 2 = 0
 ·have hargs : (tstG x n).args = [subG (x / 3),conV (wV (kindN (x / 3)) n)]:=by simp [tstG,Gx.args,h2]
  rw [hargs] at hgx hgs
  rw [if_pos h2] at ha
  obtain ⟨a1,a2⟩:=exg_sub (hgs 0 _ rfl)
  obtain ⟨b1,b2⟩:=exg_conv (hgs 1 _ rfl)
  have := gtrue_tstW K nl g X w hv hK (if x % 4 < 2 then 13 else 14) truG truG (fun i => if i = 0 then valsM nl (x / 3 % 12) else wV (kindN (x / 3)) n) (fun i => if i = 0 then g (x / 3 % 12) else (gx 1).vv) (x / 3 % 12) _ gx
   (by split <;> simp) hop hgx hq (sub_byte _ hq) (fun i hi => by
    rcases i with _ | _ | i
    ·exact .inl ⟨a1,a2,rfl⟩
    ·exact .inr ⟨b1,rfl⟩
    ·omega) (fun i hi => by
    rcases i with _ | _ | i
    ·exact hv _ hq
    ·exact b2
    ·omega) (fun i hi => by
    rcases i with _ | _ | i
    ·exact hs0
    ·exact hw0
    ·omega)
  rw [tst_true,(Prod.mk.inj ha).1,(Prod.mk.inj ha).2]
  exact this
 ·have hargs : (tstG x n).args = [conV (wV (kindN (x / 3)) n),subG (x / 3)]:=by simp [tstG,Gx.args,h2]
  rw [hargs] at hgx hgs
  rw [if_neg h2] at ha
  obtain ⟨a1,a2⟩:=exg_sub (hgs 1 _ rfl)
  obtain ⟨b1,b2⟩:=exg_conv (hgs 0 _ rfl)
  have := gtrue_tstW K nl g X w hv hK (if x % 4 < 2 then 13 else 14) truG truG (fun i => if i = 0 then wV (kindN (x / 3)) n else valsM nl (x / 3 % 12)) (fun i => if i = 0 then (gx 0).vv else g (x / 3 % 12)) (x / 3 % 12) _ gx
   (by split <;> simp) hop hgx hq (sub_byte _ hq) (fun i hi => by
    rcases i with _ | _ | i
    ·exact .inr ⟨b1,rfl⟩
    ·exact .inl ⟨a1,a2,rfl⟩
    ·omega) (fun i hi => by
    rcases i with _ | _ | i
    ·exact b2
    ·exact hv _ hq
    ·omega) (fun i hi => by
    rcases i with _ | _ | i
    ·exact hw0
    ·exact hs0
    ·omega)
  rw [tst_true,(Prod.mk.inj ha).1,(Prod.mk.inj ha).2]
  exact this
theorem gtrue_any (nl : List Nat) (g : Nat -> Vv) {e : Gx} (h : Md e) : TrueAt nl g e:=by
 induction h with
 | tru => intro K x w hv hK hx; exact gtrue_tru K nl g x w hv hK hx
 | sub k hk => intro K x w hv hK hx; rw [<- subG_mod] at hx ⊢; exact gtrue_sub K nl g x w hv hK (k % 12) (Nat.mod_lt _ (by omega)) hx
 | tst x n hk hn => exact gtrue_tst nl g x n hk hn
 | no a ha ih => intro K x w hv hK hx; exact gtrue_no K nl g x w hv hK a ih hx
 | two o a b ho ha hb i1 i2 =>
  intro K x w hv hK hx
  rcases ho with rfl | rfl
  ·exact gtrue_and K nl g x w hv hK a b i1 i2 hx
  ·exact gtrue_or K nl g x w hv hK a b i1 i2 hx
 | ite a b c ha hb hc i1 i2 i3 => intro K x w hv hK hx; exact gtrue_ite K nl g x w hv hK a b c i1 i2 i3 hx
end Go.Proofs.YtlidpghnlloinaaGreatDoor
