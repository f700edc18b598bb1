/- Contracts and plain laws, several texts in one (DlReg, DlLess, DCmp, DCndW). No conditions beyond those stated. -/
import Derived.Test.YtlidpghnlloinaaGreatDoorPk26
set_option maxRecDepth 100000
set_option maxHeartbeats 40000000
namespace Go.Proofs.YtlidpghnlloinaaGreatDoor
open Go.RowKit
set_option linter.unusedVariables false
def regL : List Nat -> Nat -> Nat
 | [],acc => acc
 | k :: r,acc => if 300 < acc * k then 301 else regL r (acc * k)
theorem regL_prod : ∀ (l : List (List Nat)) (acc : Nat),acc <= 300 -> (∀ p ∈ l,p ≠ []) -> (regL (l.map (·.length)) acc <= 300 ↔ acc * prodL l <= 300)
 | [],acc,h,_ => by show acc <= 300 ↔ acc * 1 <= 300; omega
 | p :: l,acc,h,hp => by
  show (if 300 < acc * p.length then 301 else regL (l.map (·.length)) (acc * p.length)) <= 300 ↔ acc * (p.length * prodL l) <= 300
  rw [<- Nat.mul_assoc]
  have h1:=prodL_pos (P:=l) fun q hq => hp q (List.mem_cons_of_mem _ hq)
  by_cases h2 : 300 < acc * p.length
  ·rw [if_pos h2]
   have := Nat.le_mul_of_pos_right (acc * p.length) h1
   omega
  ·rw [if_neg h2]
   exact regL_prod l _ (by omega) fun q hq => hp q (List.mem_cons_of_mem _ hq)
theorem cellsS_len (s : Sc) (h : s.cuts.length <= 2 ^ 38) : (cellsS s).length <= 2 ^ 40:=by
 unfold cellsS
 split
 ·refine Nat.le_trans (possL_len s _) ?_
  unfold cntN
  split <;> omega
 ·simp
theorem dlregions_any (K : Nat) (lv : Value) (l : List Sc) (w : World) (hs : ScsX K w lv l) (hg : ScGood l) (hn : l.length <= 2 ^ 20) (hK : K <= w.heap.size) :
  Calls Tryz.prog 58 #[lv] w fun e w' => e = .returned (.int .i64 (regL ((pcs l).map (·.length)) 1)) /\ Below w.heap.size w w':=by
 obtain ⟨la,lc,rfl,_,hlm⟩:=hs.form
 obtain ⟨gy,hrow,hsc⟩:=hs
 obtain ⟨n,hnn⟩ : ∃ n,l.length = n:=⟨_,rfl⟩
 have HN:=Lib.hid hnn
 rw [hnn] at hrow hsc hn ⊢
 obtain ⟨B,hB⟩ : ∃ B,w.heap.size = B:=⟨_,rfl⟩
 have HB:=Lib.hid hB
 rw [hB] at hK ⊢
 obtain ⟨z,hz⟩ : ∃ z,regL ((pcs l).map (·.length)) 1 = z:=⟨_,rfl⟩
 have HZ:=Lib.hid hz
 rw [hz]
 have HROW:=Lib.hid hrow
 have HSC:=Lib.hid hsc
 have HG:=Lib.hid hg
 clear hB hnn hrow hsc hg hz
 go_enter Tryz.func58,Tryz.ntmps58
 go_wp2_with fail
 go_loopw [3,8] (fun ov iv wr => ∃ (i acc : Nat),i <= n /\ iv = .int .i64 i /\ ov = .int .i64 acc /\ acc <= 300 /\ Hid (regL (((pcs l).map (·.length)).drop i) acc = z) /\ Below B w wr) (fun _ iv _ => n - (intOf iv).toNat)
 case atStart => exact ⟨0,1,Nat.zero_le _,rfl,rfl,by decide,HZ,Below.refl _ _⟩
 case round =>
  obtain ⟨i,acc,hi,rfl,rfl,hacc,HR,hbw⟩:=hrel
  obtain ⟨wo,rfl⟩ : ∃ wo : World,wo = wr:=⟨_,rfl⟩
  have HBW:=Lib.hid hbw
  have hBo : B <= wo.heap.size:=by have := hbw.size; have := HB.out; omega
  clear hbw
  by_cases hlt : i < n
  ·obtain ⟨b,o,cap,he,_,_,hbK,hc⟩:=HROW.out.pos (by omega)
   simp only [Value.slice.injEq,true_and] at he
   obtain ⟨rfl,rfl⟩:=he
   have hli : i < l.length:=by rw [HN.out]; exact hlt
   obtain ⟨s,hs⟩ : ∃ s,l[i]?.getD default = s:=⟨_,rfl⟩
   have hsm : s ∈ l:=by rw [<- hs,List.getElem?_eq_getElem hli,Option.getD_some]; exact List.getElem_mem hli
   have hgs : l[i]? = some s:=by rw [<- hs,List.getElem?_eq_getElem hli]; rfl
   have hx:=HSC.out i hlt
   rw [hs] at hx
   have hrg:=sv_range (g:=gy) (cells_below HBW.out (Nat.lt_of_lt_of_le hbK hK) hc) hlt
   obtain ⟨y,hy⟩ : ∃ y,gy i = y:=⟨_,rfl⟩
   rw [hy] at hx hrg
   have H1C : Hid (∀ u ∈ y.cells,u.oneCell' = true):=Lib.hid (by simp [Value.oneCell'])
   have hdr : ((pcs l).map (·.length)).drop i = (cellsS s).length :: ((pcs l).map (·.length)).drop (i + 1):=by
    rw [List.drop_eq_getElem_cons (by unfold pcs; simpa using hli)]
    unfold pcs
    simp only [List.getElem_map]
    rw [List.getElem?_eq_getElem hli] at hgs
    cases hgs; rfl
   have hreg:=HR.out
   rw [hdr] at hreg
   have hreg2 : (if 300 < acc * (cellsS s).length then 301 else regL (((pcs l).map (·.length)).drop (i + 1)) (acc * (cellsS s).length)) = z:=hreg
   have hlen:=cellsS_len s (HG.out s hsm).2
   have HREG:=Lib.hid hreg2
   have HX:=Lib.hid hx
   have HGS:=Lib.hid (HG.out s hsm)
   have HLEN:=Lib.hid hlen
   clear hc hs hsm hgs hx hy hdr hreg hreg2 hlen
   go_upto_region 5 with (first
    | (refine wpList_load_mid rfl 79 (.tmp 10) rfl b (o + i * 11) rfl y.cells.toList _ hrg Tryz.underlying79 rfl infoScaleN ?_)
    | (refine wpList_store_new rfl 79 (.tmp 5) (.tmp 11) rfl y.cells _ infoScaleN rfl H1C.out wo.heap.size rfl rfl rfl ?_))
   obtain ⟨T,hT⟩ : ∃ T,wo.heap.size = T:=⟨_,rfl⟩
   obtain ⟨W2,hW2⟩ : ∃ W,wo.alloc (.cells y.cells 79) = W:=⟨_,rfl⟩
   have b2 : Below T wo W2:=by rw [<- hW2,<- hT]; exact (Below.refl _ _).alloc (Nat.le_refl _) _
   have q2 : Blk W2 T y.cells 79:=by rw [<- hW2,<- hT]; exact Blk.new wo _ _
   have hr2 : W2.rangeAt T 0 y.cells.toList:=q2.range
   have hs2:=b2.size
   have HW2:=Lib.hid hW2
   have HT:=Lib.hid hT
   rw [hT] at hBo
   have hce:=gcells_any K s y W2 (HX.out.below (HBW.out.trans (b2.mono (by omega))) hK (Nat.le_refl _)) (by omega) HGS.out.1 HGS.out.2
   have HCE:=Lib.hid hce
   have B2:=Lib.hid b2
   have hTo : T <= W2.heap.size:=by rw [<- hT]; rw [hT]; have := b2.size; rw [hT] at this; exact this
   rw [HT.out]
   rw [HW2.out]
   clear hT hW2 HW2 q2 b2 hce hrg H1C
   go_wp2_with (first
    | (refine wpList_load_mid rfl 79 (.tmp 5) rfl T 0 rfl y.cells.toList _ hr2 Tryz.underlying79 rfl infoScaleN ?_))
   refine HCE.out.mono ?_
   rintro e w3 ⟨pv,rfl,hpv,hb3⟩
   clear HCE hr2
   obtain ⟨pa,pc,hpf,_,_⟩:=id hpv.form
   obtain ⟨pn,hpn⟩ : ∃ k,(cellsS s).length = k:=⟨_,rfl⟩
   rw [hpn] at hpf HREG HLEN
   subst hpf
   have hpl:=HLEN.out
   have hb13 : Below B w w3:=HBW.out.trans ((B2.out.trans (hb3.mono hTo)).mono (by omega))
   have HB13:=Lib.hid hb13
   obtain ⟨m,hm⟩ : ∃ m,acc * pn = m:=⟨_,rfl⟩
   have hm50 : m <= 300 * 2 ^ 40:=by rw [<- hm]; exact Nat.mul_le_mul hacc hpl
   have hwr : IntKind.i64.wrap ((acc : Int) * (pn : Int)) = (m : Int):=by rw [<- hm,Int.natCast_mul]; exact IntWalk.i64_in _ (by rw [<- Int.natCast_mul,hm]; omega)
   rw [hm] at HREG
   clear hm hpn hpv hb3 hb13
   by_cases hbig : 300 < m
   ·have t0 : decide ((300 : Int) < (m : Int)) = true:=decide_eq_true (by omega)
    have hz : 301 = z:=by have := HREG.out; rwa [if_pos hbig] at this
    have HZ2:=Lib.hid hz
    clear hz hbig
    go_wp2_with fail
    go_ret
    exact ⟨by rw [<- HZ2.out]; rfl,HB13.out⟩
   ·have t0 : decide ((300 : Int) < (m : Int)) = false:=decide_eq_false (by omega)
    have hz : regL (((pcs l).map (·.length)).drop (i + 1)) m = z:=by have := HREG.out; rwa [if_neg hbig] at this
    have HZ2:=Lib.hid hz
    have hm3 : m <= 300:=by omega
    clear hz hbig
    go_wp2_with fail
    exact ⟨⟨i + 1,m,by omega,by go_num,rfl,hm3,HZ2,HB13.out⟩,by simp [intOf]; omega⟩
  ·obtain rfl : i = n:=by omega
   have hfin : acc = z:=by
    have h:=HR.out
    rw [List.drop_eq_nil_of_le (by unfold pcs; simp [HN.out])] at h
    exact h
   subst hfin
   have hbw:=HBW.out
   clear HBW HR HZ
   go_wp2_with fail
   go_ret
   exact ⟨rfl,hbw⟩
def agnG : Gx:=.mk 5 [97,103,101] v0 []
def lessG (n : Nat) : Gx:=.mk 13 [] v0 [agnG,conV (wV 2 n)]
abbrev agnX : Xv:=⟨5,[97,103,101],0,false,⟨none,0,0⟩,false,⟨none,0,0⟩,0,⟨none,0,0⟩⟩
theorem exn_age (L : Nat) (V : World) : ExN L V agnG agnX:=fun W hw => ExG.make rfl rfl (by simp [Gx.nm,agnG,maxLen]) (vv0_is _ W) (fun _ => xz) (RowsV.nil none 0 (Nat.zero_le _) (fun _ => rfl)) fun j a ha => by cases ha
theorem dlless_full (n : Nat) (h0 : 0 < n) (hn : n < 65536) (w : World) : Calls Tryz.prog 46 #[.int .i64 n] w fun e w' => ∃ (b : Nat) (s1 s2 : Sl),e = .returned (opX 13 ⟨some ⟨b,0,none⟩,2,2⟩).agg /\ w.heap.size < b /\ Blk w' b (cells2 agnX (conX 2 false s1 false s2 0)) 49 /\ VlN w.heap.size w' (wV 2 n) ⟨2,false,s1.val,false,s2.val,0⟩ /\ Below w.heap.size w w':=by
 obtain ⟨W1,hW1⟩ : ∃ W1,w.alloc (.cells xz.cells 49) = W1:=⟨_,rfl⟩
 have b1 : Below w.heap.size w W1:=by rw [<- hW1]; exact (Below.refl _ _).alloc (Nat.le_refl _) _
 have q1 : Blk W1 w.heap.size xz.cells 49:=by rw [<- hW1]; exact Blk.new w _ _
 have s1 : W1.heap.size = w.heap.size + 1:=by rw [<- hW1]; simp
 obtain ⟨B,hB⟩ : ∃ B,w.heap.size = B:=⟨_,rfl⟩
 have HB:=Lib.hid hB
 have HW1 : Hid (w.alloc (.cells #[.int .u8 0,.string ⟨#[]⟩,.int .u8 0,.bool false,.slice none 0 0,.bool false,.slice none 0 0,.int .i64 0,.slice none 0 0] 49) = W1):=Lib.hid hW1
 rw [hB] at b1 q1 s1 ⊢
 have hcall:=kfrac1_any n W1 h0 hn
 clear hB hW1
 go_enter Tryz.func46,Tryz.ntmps46
 go_upto_region 1 with fail
 simp only [HB.out]
 rw [HW1.out]
 go_wp2_with fail
 refine hcall.mono ?_
 rintro e w2 ⟨u,v,rfl,⟨a1,m1,rfl⟩,⟨a2,m2,rfl⟩,hu,hv,hb2,hnu,hnv⟩
 have hs2:=hb2.size
 have hvl : VlN W1.heap.size w2 (wV 2 n) ⟨2,false,.slice a1 1 m1,false,.slice a2 1 m2,0⟩:=fun W hw => by
  unfold wV
  rw [if_pos (.inl rfl)]
  exact ⟨rfl,rfl,rfl,rfl,by rw [if_neg (by omega)]; exact lm_newW hu hnu hw (Nat.le_refl _),lm_newW hv hnv hw (Nat.le_refl _)⟩
 have b3 : Below w2.heap.size w2 (w2.alloc (.cells (cells2 agnX (conX 2 false ⟨a1,1,m1⟩ false ⟨a2,1,m2⟩ 0)) 49)):=(Below.refl _ _).alloc (Nat.le_refl _) _
 have q3:=Blk.new w2 (cells2 agnX (conX 2 false ⟨a1,1,m1⟩ false ⟨a2,1,m2⟩ 0)) 49
 have hvl3:=hvl.move (NewW.of b3)
 have hq:=(q1.below hb2 (by omega)).below b3 (by omega)
 have h1c : ∀ u ∈ (opX 13 ⟨some ⟨w2.heap.size,0,none⟩,2,2⟩).cells,u.oneCell' = true:=by simp [Value.oneCell']
 have HVL:=Lib.hid hvl3
 have HQ3:=Lib.hid q3
 have HB3:=Lib.hid (b1.trans ((hb2.mono (by omega)).trans (b3.mono (by omega))))
 clear hcall q3 b3 hvl hvl3 hu hv hnu hnv
 go_wp2_with (refine wpList_store_blk rfl 49 49 (.tmp 2) (.tmp 9) rfl (opX 13 ⟨some ⟨w2.heap.size,0,none⟩,2,2⟩).cells _ B hq infoExN rfl h1c rfl rfl ?_; intro W5 t1 t2 t3 t4)
 refine bodyPost_ret (results_blk rfl _ _ B _ _ t1 rfl Tryz.underlying49 rfl infoExN) rfl ?_
 exact ⟨w2.heap.size,⟨a1,1,m1⟩,⟨a2,1,m2⟩,rfl,by omega,(t3.block _ HQ3.out.lt (by simp; omega)).trans HQ3.out,(HVL.out.move (NewW.put t3 (by omega))).mono (by omega),HB3.out.trans (t2 B (Nat.le_refl _))⟩
theorem dlless_exn {n b : Nat} {s1 s2 : Sl} {L : Nat} {w' : World} (hb : L <= b) (hq : Blk w' b (cells2 agnX (conX 2 false s1 false s2 0)) 49) (hv : VlN L w' (wV 2 n) ⟨2,false,s1.val,false,s2.val,0⟩) : ExN L w' (lessG n) (opX 13 ⟨some ⟨b,0,none⟩,2,2⟩):=exn_two hq hb (exn_age _ _) (exn_con hv)
theorem dlless_any (n : Nat) (h0 : 0 < n) (hn : n < 65536) (w : World) : Calls Tryz.prog 46 #[.int .i64 n] w fun e w' => ∃ X : Xv,e = .returned X.agg /\ ExN w.heap.size w' (lessG n) X /\ Below w.heap.size w w' :=
 (dlless_full n h0 hn w).mono (by rintro e w' ⟨b,s1,s2,rfl,hb,hq,hv,hbw⟩; exact ⟨_,rfl,dlless_exn (Nat.le_of_lt hb) hq hv,hbw⟩)
theorem infoCond : (Tryz.prog.info? 113).map (fun i => (i.zero,i.size,i.bytes)) = some (some .nilFunc,1,8):=by kernel_rfl
theorem xv_range {g : Nat -> Xv} {w : World} {b o k n : Nat} (hc : ∀ i,i < n -> ∀ j,j < 9 -> w.cell? ⟨b,o + (i * 9 + j),none⟩ = some ((g i).cell j)) (hk : k < n) : w.rangeAt b (o + k * 9) (g k).cells.toList:=by
 intro j v hj
 have hj' : j < 9:=(List.getElem?_eq_some_iff.1 hj).1
 have := xv_cell_at (g k) hj'
 rw [hj,Option.getD_some] at this
 rw [this,Nat.add_assoc]; exact hc k hk j hj'
def CndC (bb : Nat) (sv pv : Sl) (scs : List Sc) (gv : Nat -> Value) (e : Gx) : Prop :=
 ∀ (x : Xv) (w : World),BC bb sv pv scs gv w.heap.size w -> ExG w.heap.size w e x →
  Calls Tryz.prog 49 #[.pointer (some ⟨bb,0,none⟩),x.agg] w fun en w' => ∃ u,en = .returned u /\ Zed (Btw w.heap.size w'.heap.size) w' (CondR (CellsIn (pcs scs)) (fun cs => evG scs cs e) u) /\ Below w.heap.size w w'
structure CpOk (scs : List Sc) (es : List Gx) (lb T k : Nat) (ca : Option Addr) (cm : Nat) (vs : List Value) (w : World) : Prop where
 box : Blk w lb #[.slice ca k cm] 109
 own : OwnR 1 113 T w (.slice ca k cm) (vs.map fun u => [u])
 len : vs.length = k
 dat : ∀ i,i < k -> Zed (Frz T w.heap.size (.slice ca k cm)) w (CondR (CellsIn (pcs scs)) (fun cs => evG scs cs (es[i]?.getD default)) (vs[i]?.getD undef))
theorem dcompo_any (K bb xb lb pb : Nat) (sv pv : Sl) (scs : List Sc) (gv : Nat -> Value) (e : Gx) (x : Xv) (k : Nat) (w : World) (hbc : BC bb sv pv scs gv K w) (he : ExG K w e x) (qx : Blk w xb x.cells 49) (ql : Blk w lb #[.slice none 0 0] 109)
  (qp : Blk w pb #[.pointer (some ⟨bb,0,none⟩)] 159) (hK : K <= lb) (ih : ∀ a ∈ e.args,CndC bb sv pv scs gv a) (hal : e.args.length <= 2 ^ 20) :
  Calls Tryz.prog 102 #[.int .i64 k,.pointer (some ⟨xb,0,none⟩),.pointer (some ⟨lb,0,none⟩),.pointer (some ⟨pb,0,none⟩)] w fun en w' =>
   (e.args.length ≠ k -> en = .returned (.bool false) /\ w' = w) /\ (e.args.length = k -> en = .returned (.bool true) /\ Below K w w' /\ w.heap.size <= w'.heap.size /\ (∀ b,b < w.heap.size -> b ≠ lb -> w'.heap[b]? = w.heap[b]?) /\ ∃ ca cm vs,CpOk scs e.args lb w.heap.size k ca cm vs w'):=by
 obtain ⟨h1,h2,h3,hv,g,hr,hgr⟩:=he.open
 obtain ⟨a8,m8,h8,hn8,hm8⟩:=hr.form
 obtain ⟨q,hq⟩ : ∃ q,e.args.length = q:=⟨_,rfl⟩
 rw [hq] at h8 hn8 hr hal ⊢
 have c8 : w.cell? ⟨xb,8,none⟩ = some (.slice a8 q m8):=by rw [<- h8]; exact qx.at rfl
 have hxl : xb ≠ lb:=fun e => by subst e; exact absurd (qx.ty_ne ql) (by decide)
 have hpl : pb ≠ lb:=fun e => by subst e; exact absurd (qp.ty_ne ql) (by decide)
 obtain ⟨T,hT⟩ : ∃ T,w.heap.size = T:=⟨_,rfl⟩
 have hlT : lb < T:=by rw [<- hT]; exact ql.lt
 have hpT : pb < T:=by rw [<- hT]; exact qp.lt
 have HT:=Lib.hid hT
 have HR : Hid (RowsV 9 (fun i j => (g i).cell j) K w (.slice a8 q m8) q):=Lib.hid (by rw [<- h8]; exact hr)
 have HA : Hid (∀ j,j < q -> ExG K w (argAt e j) (g j) /\ CndC bb sv pv scs gv (argAt e j) /\ e.args[j]? = some (argAt e j)):=Lib.hid fun j hj => by
  have e1:=arg_some (e:=e) (by rw [hq]; exact hj)
  exact ⟨hgr j _ e1,ih _ (List.mem_of_getElem? e1),e1⟩
 have HBC:=Lib.hid hbc
 have HQ:=Lib.hid hq
 have HQL:=Lib.hid ql
 have HQP:=Lib.hid qp
 rw [hT]
 clear h1 h2 h3 hv hr hgr h8 he hbc hq ih hT qx ql qp
 go_enter Tryz.func102,Tryz.ntmps102
 by_cases hqk : q = k
 ·subst hqk
  have hne : ((q : Int) != (q : Int)) = false:=by simp
  unfold maxLen at hm8
  go_wp2_with fail
  go_loopw [16] (fun iv wr => ∃ (j : Nat) (vs : List Value) (ca : Option Addr) (cm : Nat),j <= q /\ iv = .int .i64 j /\ CpOk scs e.args lb T j ca cm vs wr /\ Below K w wr /\ T <= wr.heap.size /\ Hid (∀ b,b < T -> b ≠ lb -> wr.heap[b]? = w.heap[b]?)) (fun iv _ => q - (intOf iv).toNat)
  case atStart => exact ⟨0,[],none,0,Nat.zero_le _,rfl,⟨HQL.out,OwnR.nil _ _ _ _,rfl,fun i hi => absurd hi (Nat.not_lt_zero i)⟩,Below.refl _ _,by rw [HT.out]; exact Nat.le_refl _,Lib.hid fun b _ _ => rfl⟩
  case round =>
   obtain ⟨j,vs,ca,cm,hj,rfl,hcp,hbr,hsr,HKP⟩:=hrel
   obtain ⟨wo,rfl⟩ : ∃ wo : World,wo = wr:=⟨_,rfl⟩
   have HCP:=Lib.hid hcp
   have HBR:=Lib.hid hbr
   by_cases hlt : j < q
   ·obtain ⟨b,o,cap,he,_,_,hbK,hc⟩:=HR.out.pos (by omega)
    simp only [Value.slice.injEq,true_and] at he
    obtain ⟨rfl,rfl⟩:=he
    have hrg:=xv_range (cells_below hbr hbK hc) hlt
    obtain ⟨ae,acn,aat⟩:=HA.out j hlt
    obtain ⟨y,hy⟩ : ∃ y,g j = y:=⟨_,rfl⟩
    rw [hy] at hrg ae
    have H1C : Hid (∀ u ∈ y.cells,u.oneCell' = true):=Lib.hid (by simp [Value.oneCell'])
    have hpp : wo.heap[pb]? = w.heap[pb]? := HKP.out pb hpT hpl
    have qp:=show Blk wo pb #[.pointer (some ⟨bb,0,none⟩)] 159 from hpp.trans HQP.out
    have HAC:=Lib.hid acn
    have HAA:=Lib.hid aat
    have HAE:=Lib.hid ae
    have HQP2:=Lib.hid qp
    clear hc hcp hbr hy ae acn aat hpp qp
    go_upto_region 6 with (first
     | (refine wpList_load_mid rfl 49 (.tmp 18) rfl b (o + j * 9) rfl y.cells.toList _ hrg Tryz.underlying49 rfl infoExprM ?_)
     | (refine wpList_store_new rfl 49 (.tmp 7) (.tmp 19) rfl y.cells _ infoExprM rfl H1C.out wo.heap.size rfl rfl rfl ?_))
    obtain ⟨A0,hA0⟩ : ∃ A0,wo.heap.size = A0:=⟨_,rfl⟩
    obtain ⟨W2,hW2⟩ : ∃ W,wo.alloc (.cells y.cells 49) = W:=⟨_,rfl⟩
    have b2 : Below A0 wo W2:=by rw [<- hW2,<- hA0]; exact (Below.refl _ _).alloc (Nat.le_refl _) _
    have q2 : Blk W2 A0 y.cells 49:=by rw [<- hW2,<- hA0]; exact Blk.new wo _ _
    have s2 : W2.heap.size = A0 + 1:=by rw [<- hW2,<- hA0]; simp
    rw [hA0]
    rw [hW2]
    have hTA : T <= A0:=by omega
    have hKT : K <= T:=by omega
    have bw2 : Below K w W2:=HBR.out.trans (b2.mono (by omega))
    have hcp2 : Blk W2 lb #[.slice ca j cm] 109:=HCP.out.box.below b2 (by omega)
    have hp2:=HQP2.out.below b2 (by omega)
    have qS : (fun W' => Below W2.heap.size W2 W') W2.drew:=below_quiet (Below.refl _ _)
    have hca:=HAC.out y W2.drew (HBC.out.below (bw2.trans (qS.mono (by omega))) (Nat.le_refl _) (by show K <= W2.heap.size; omega)) (HAE.out.below (bw2.trans (qS.mono (by omega))) (Nat.le_refl _) (by show K <= W2.heap.size; omega))
    have HCA:=Lib.hid hca
    have S2:=Lib.hid s2
    have HQ2:=Lib.hid q2
    have HCP2:=Lib.hid hcp2
    have HP2:=Lib.hid hp2
    have HB2:=Lib.hid b2
    have HWO:=Lib.hid hA0
    clear hca hW2 hcp2 hp2 b2 hA0 s2 hrg H1C
    refine region_plain (fun W' => Below W2.heap.size W2 W') [5,6] (by kernel_rfl) ?_
    refine wpAnyD_takeC [6,5] (i:=0) (v:=.slice ca j cm) rfl (by kernel_rfl) (by kernel_rfl) (by kernel_rfl) (by kernel_rfl) (by kernel_rfl) (by kernel_rfl) (fun _ _ _ h => h) (.inl ⟨by kernel_rfl,fun W' hS => by have u0:=(HCP2.out.below hS HCP2.out.lt).one.1; go_simp⟩) qS ?_
    refine wpAnyD_takeC [6,5,4,3] (i:=1) (v:=.pointer (some ⟨bb,0,none⟩)) rfl (by kernel_rfl) (by kernel_rfl) (by kernel_rfl) (by kernel_rfl) (by kernel_rfl) (by kernel_rfl) (fun _ _ _ h => h) (.inl ⟨by kernel_rfl,fun W' hS => by have u0:=(HP2.out.below hS HP2.out.lt).one.1; go_simp⟩) qS ?_
    refine wpAnyD_takeC [6,5,4,3] (i:=2) (v:=y.agg) rfl (by kernel_rfl) (by kernel_rfl) (by kernel_rfl) (by kernel_rfl) (by kernel_rfl) (by kernel_rfl) (fun _ _ _ h => h) (yieldsIf_load_mid (by kernel_rfl) 49 (.tmp 7) rfl A0 0 rfl y.cells.toList _ (fun W' hS => (HQ2.out.below hS HQ2.out.lt).range) Tryz.underlying49 rfl infoExprM) qS ?_
    refine wpAnyD_one (i:=3) (by kernel_rfl) rfl (by kernel_rfl) ?_
    go_simp
    refine HCA.out.mono ?_
    rintro en w3 ⟨u,rfl,hz3,hb3⟩
    have hb3 : Below W2.heap.size W2.drew w3:=hb3
    have qS3 : Below W2.heap.size W2 w3:=qS.trans hb3
    refine ⟨qS3,?_⟩
    obtain ⟨gg,caps,rfl,_,_⟩:=hz3.get fun b hb => hb.2
    obtain ⟨u,hu⟩ : ∃ u : Value,u = .func (.func gg) #[] caps:=⟨_,rfl⟩
    have hs3:=qS3.size
    have hs2 : W2.heap.size <= A0 + 1 /\ A0 + 1 <= W2.heap.size:=by have := S2.out; omega
    have bA : Below A0 wo w3:=HB2.out.trans (qS3.mono (by omega))
    have ho3:=HCP.out.own.old bA (by rw [HWO.out]; exact Nat.le_refl _)
    have hb4 : Below w3.heap.size w3 (w3.alloc (.cells #[.func (.func gg) #[] caps] 113)):=(Below.refl _ _).alloc (Nat.le_refl _) _
    have HO4 : Hid (OwnR 1 113 T (w3.alloc (.cells #[.func (.func gg) #[] caps] 113)) (.slice ca j cm) (vs.map fun u => [u])):=Lib.hid (ho3.old hb4 (Nat.le_refl _))
    obtain ⟨RS,hRS⟩ : ∃ RS,vs.map (fun u : Value => [u]) = RS:=⟨_,rfl⟩
    have HRL : Hid (RS.length = j):=Lib.hid (by rw [<- hRS,List.length_map]; exact HCP.out.len)
    rw [hRS] at HO4
    have HRS:=Lib.hid hRS
    have HROW1 : Hid (RowsOk 1 [[.func (.func gg) #[] caps]]):=Lib.hid (RowsOk.one rfl fun u hu => by rw [List.mem_singleton.1 hu]; rfl)
    have HRC : Hid (∀ (i : Nat) (r : List Value) (jj : Nat) (u : Value),([[.func (.func gg) #[] caps]] : List (List Value))[i]? = some r -> r[jj]? = some u -> (w3.alloc (.cells #[.func (.func gg) #[] caps] 113)).cell? ⟨w3.heap.size,0 + (i * 1 + jj),none⟩ = some u):=Lib.hid fun i r jj u h1 h2 => by
     have hi0 : i = 0:=by have := (List.getElem?_eq_some_iff.1 h1).1; simp at this; omega
     subst hi0
     cases h1
     have hj0 : jj = 0:=by have := (List.getElem?_eq_some_iff.1 h2).1; simp at this; omega
     subst hj0
     cases h2
     exact (Blk.new w3 #[.func (.func gg) #[] caps] 113).at rfl
    have HZ3:=Lib.hid hz3
    have HBA:=Lib.hid bA
    have HQS3:=Lib.hid qS3
    have hT3 : T <= w3.heap.size:=by omega
    clear hRS hz3 bA ho3 hb4 qS3 hb3 qS hu
    have qS4 : Below W2.heap.size W2 (w3.alloc (.cells #[.func (.func gg) #[] caps] 113)):=HQS3.out.alloc HQS3.out.size _
    refine wpAnyD_one (i:=4) (by kernel_rfl) rfl (by kernel_rfl) ?_
    go_simp
    refine wpAnyD_one (i:=5) (by kernel_rfl) rfl (by kernel_rfl) ?_
    refine wp_append_rows (.tmp 20) (.tmp 24) 109 rfl Tryz.underlying109 infoCond (by kernel_rfl) (by decide) (by simp [Act.eval]) HO4.out (b:=w3.heap.size) (off:=0) (m:=1) (cap:=1) (ms:=[[.func (.func gg) #[] caps]]) (by simp [Act.eval]) rfl HROW1.out HRC.out (by decide) (by rw [HRL.out]; simp [maxLen]; omega) (by rw [HRL.out]; omega) (by simp; omega) ?_
    intro g1 cap1 w5 hown5 hg5 hat5
    refine ⟨fun h => absurd h (by decide),?_⟩
    have hbl3 : Blk w3 lb #[.slice ca j cm] 109:=HCP.out.box.below HBA.out (by omega)
    have hlow : ∀ r,(Value.slice ca j cm).ownBlock = some r -> T <= r:=fun r hr => HCP.out.own.low hr
    have hlt : ∀ r,(Value.slice ca j cm).ownBlock = some r -> r < A0:=fun r hr => by have := HCP.out.own.lt hr; rw [HWO.out] at this; exact this
    have hbl5 : Blk w5 lb #[.slice ca j cm] 109:=(hbl3.alloc _).kept hg5 (fun e => by have := hlow lb e.symm; omega)
    have u5:=hbl5.one.1
    have f5:=hbl5.one.2
    refine wpAnyD_one (i:=6) (by kernel_rfl) rfl (by kernel_rfl) ?_
    go_simp
    refine wpAnyD_done (by kernel_rfl) ?_ _
    go_simp
    have HG5:=Lib.hid hg5
    have HAT:=Lib.hid hat5
    have HLOW:=Lib.hid hlow
    have HLT:=Lib.hid hlt
    have HOWN5:=Lib.hid hown5
    have HBL5:=Lib.hid hbl5
    clear hg5 hat5 hlow hlt hown5 hbl5 hbl3 u5 f5 qS4
    apply (show ∀ (a : Act) (w : World),_ -> _ from by assumption)
    go_wp2_with fail
    have hg5:=HG5.out
    have hat5:=HAT.out
    have hsz5:=hg5.size
    rw [World.size_alloc] at hsz5
    have hgT : T <= g1:=by
     rcases hat5 with h | h
     ·exact HLOW.out g1 h
     ·rw [World.size_alloc] at h; omega
    have hb34 : Below wo.heap.size wo (w3.alloc (.cells #[.func (.func gg) #[] caps] 113)):=by rw [HWO.out]; exact HBA.out.alloc (by omega) _
    have hs6 : (w5.setCell ⟨lb,0,none⟩ (.slice (some ⟨g1,0,none⟩) (RS.length + 1) cap1)).heap.size = w5.heap.size:=by simp [World.setCell]
    have hch : ∀ b,b ≠ lb -> (w5.setCell ⟨lb,0,none⟩ (.slice (some ⟨g1,0,none⟩) (RS.length + 1) cap1)).heap[b]? = w5.heap[b]? := fun b hb => Below.heap_setCell _ _ _ _ hb
    have hmv : ∀ R,Zed (Frz T w5.heap.size (.slice (some ⟨g1,0,none⟩) (RS.length + 1) cap1)) w5 R -> Zed (Frz T (w5.setCell ⟨lb,0,none⟩ (.slice (some ⟨g1,0,none⟩) (RS.length + 1) cap1)).heap.size (.slice (some ⟨g1,0,none⟩) (RS.length + 1) cap1)) (w5.setCell ⟨lb,0,none⟩ (.slice (some ⟨g1,0,none⟩) (RS.length + 1) cap1)) R:=fun R h => by
     rw [hs6]
     exact h.move (Agr.of fun b hb => hch b (by have := hb.1; omega))
    have hbK : Below K w (w5.setCell ⟨lb,0,none⟩ (.slice (some ⟨g1,0,none⟩) (RS.length + 1) cap1)):=((HBR.out.trans (hb34.mono (by omega))).grown hg5 (by simp; omega) (fun r hr => by have := HLOW.out r hr; omega)).setCell (p:=⟨lb,0,none⟩) hK _
    have hkp : ∀ b,b < T -> b ≠ lb -> (w5.setCell ⟨lb,0,none⟩ (.slice (some ⟨g1,0,none⟩) (RS.length + 1) cap1)).heap[b]? = w.heap[b]? := fun b hb hne =>
     (hch b hne).trans ((hg5.block b (by simp; omega) (fun e => by have := HLOW.out b e.symm; omega)).trans ((hb34.block b (by omega)).trans (HKP.out b hb hne)))
    have hcp6 : CpOk scs e.args lb T (RS.length + 1) (some ⟨g1,0,none⟩) cap1 (vs ++ [.func (.func gg) #[] caps]) (w5.setCell ⟨lb,0,none⟩ (.slice (some ⟨g1,0,none⟩) (RS.length + 1) cap1)):=by
     refine ⟨HBL5.out.set (i:=0) _,?_,by rw [List.length_append,HCP.out.len,HRL.out]; rfl,fun i hi => ?_⟩
     ·rw [List.map_append,HRS.out]
      exact HOWN5.out.moveEq fun q hq => hch q (by simp only [Value.ownBlock,Option.some.injEq] at hq; omega)
     ·by_cases hij : i = j
      ·subst hij
       refine hmv _ ?_
       rw [List.getElem?_append_right (by rw [HCP.out.len]; exact Nat.le_refl _),HCP.out.len,Nat.sub_self,HAA.out]
       exact frz_new hg5 hat5 rfl (lo':=W2.heap.size) (hi:=w3.heap.size) (by omega) (fun r hr => by have := HLT.out r hr; omega) (by simp) (HZ3.out.move (agr_below ((Below.refl w3.heap.size w3).alloc (Nat.le_refl _) _) fun b hb => hb.2))
      ·have hij' : i < j:=by have := HRL.out; omega
       refine hmv _ ?_
       rw [List.getElem?_append_left (by rw [HCP.out.len]; exact hij')]
       exact frz_step hg5 hat5 rfl hb34 (HCP.out.dat i hij')
    rw [HRL.out] at hcp6 hbK hkp hs6 ⊢
    exact ⟨⟨j + 1,vs ++ [.func (.func gg) #[] caps],_,_,by omega,by go_num,hcp6,hbK,by rw [hs6]; omega,Lib.hid hkp⟩,by simp [intOf]; omega⟩
   ·obtain rfl : j = q:=by omega
    clear hcp hbr
    go_wp2_with fail
    go_ret
    exact ⟨rfl,HBR.out,hsr,HKP.out,ca,cm,vs,HCP.out⟩
 ·have hne : ((q : Int) != (k : Int)) = true:=by simp; omega
  have hk : ¬ (q = k):=hqk
  go_wp2_with fail
  go_ret
  exact ⟨fun _ => ⟨rfl,rfl⟩,fun h => absurd h hqk⟩
theorem evG_0 {l : List Sc} {e : Gx} (h : (holdsS e [] []).2 = 0) (cs : List Nat) : evG l cs e = (holdsS e [] []).1:=by rw [evG_eq,if_pos h]
theorem evG_c {l : List Sc} {e : Gx} (h : ¬ (holdsS e [] []).2 = 0) (hc : e.composed = true) (cs : List Nat) : evG l cs e = combG e.op (fun k => (e.args.map (evG l cs))[k]?.getD false):=by rw [evG_eq,if_neg h,if_pos hc]
theorem evG_t {l : List Sc} {e : Gx} (h : ¬ (holdsS e [] []).2 = 0) (hc : e.composed = false) (cs : List Nat) : evG l cs e = evT l cs e:=by rw [evG_eq,if_neg h,if_neg (by rw [hc]; simp)]
theorem map_at (l : List Sc) (cs : List Nat) {es : List Gx} {k : Nat} (h : k < es.length) : (es.map (evG l cs))[k]?.getD false = evG l cs (es[k]?.getD default):=by
 rw [List.getElem?_map,List.getElem?_eq_getElem h]; rfl
theorem CpOk.cbox {scs : List Sc} {es : List Gx} {lb T T0 n : Nat} {ca : Option Addr} {cm : Nat} {vs : List Value} {w : World} (h : CpOk scs es lb T n ca cm vs w) (hT : T0 <= T) (hl : T0 <= lb) :
  Zed (Btw T0 w.heap.size) w fun K W => CBox (CellsIn (pcs scs)) lb n (fun i cs => evG scs cs (es[i]?.getD default)) K W:=by
 intro W K ha hK
 have hlt:=h.box.lt
 refine ⟨ca,cm,ha lb _ ⟨hl,hlt⟩ h.box rfl,hK lb ⟨hl,hlt⟩,fun i => vs[i]?.getD undef,?_,fun i hi => ?_⟩
 ·have := OwnR.zed h.own (F:=Btw T0 w.heap.size) (fun b hb => ⟨by have := h.own.low hb; omega,h.own.lt hb⟩) W K ha hK
  rw [List.length_map,h.len] at this
  refine this.congr fun i hi j hj => ?_
  obtain rfl : j = 0:=by omega
  rw [List.getElem?_map]
  cases hv : vs[i]? with
  | none => have := List.getElem?_eq_none_iff.1 hv; rw [h.len] at this; omega
  | some v => show v = vs[i]?.getD undef; rw [hv]; rfl
 ·exact ((h.dat i hi).mono fun b hb => (⟨by have := hb.1; omega,hb.2.1⟩ : Btw T0 w.heap.size b)) W K ha hK
theorem dcond_step (bb : Nat) (sv pv : Sl) (scs : List Sc) (gv : Nat -> Value) (e : Gx) (hok : ScOkD scs) (hn20 : scs.length <= 2 ^ 20) (hg : e.good = true) (hal : e.args.length <= 2 ^ 20) (ih : ∀ a ∈ e.args,CndC bb sv pv scs gv a) : CndC bb sv pv scs gv e:=by
 intro x w hbc he
 have hop:=he.open.1
 obtain ⟨W1,hW1⟩ : ∃ W1,(w.alloc (.cells #[.pointer (some ⟨bb,0,none⟩)] 159)).alloc (.cells x.cells 49) = W1:=⟨_,rfl⟩
 have b1 : Below w.heap.size w W1:=by rw [<- hW1]; exact ((Below.refl _ _).alloc (Nat.le_refl _) _).alloc (by simp) _
 have q0 : Blk W1 w.heap.size #[.pointer (some ⟨bb,0,none⟩)] 159:=by rw [<- hW1]; exact (Blk.new w _ _).alloc _
 have q1 : Blk W1 (w.heap.size + 1) x.cells 49:=by
  rw [<- hW1]
  have := Blk.new (w.alloc (.cells #[.pointer (some ⟨bb,0,none⟩)] 159)) x.cells 49
  rwa [World.size_alloc] at this
 have s1 : W1.heap.size = w.heap.size + 2:=by rw [<- hW1]; simp
 obtain ⟨T,hT⟩ : ∃ T,w.heap.size = T:=⟨_,rfl⟩
 have HT:=Lib.hid hT
 have HW:=Lib.hid hW1
 dsimp only [Xv.cells] at HW
 rw [hT] at b1 q0 q1 s1 hbc he ⊢
 have hho:=gholds_any W1.heap.size e x [] (.slice none 0 0) [] (.slice none 0 0) W1 (he.below b1 (Nat.le_refl _) (by omega)) hg ⟨fun _ => ⟨xz,0,⟨none,0,0⟩⟩,RowsV.nil none 0 (Nat.zero_le _) (fun _ => rfl),fun i hi => absurd hi (Nat.not_lt_zero i)⟩ (RowsV.nil none 0 (Nat.zero_le _) (fun _ => rfl)) (Nat.le_refl _) (fun s hs => by cases hs) (fun s hs => by cases hs)
 obtain ⟨r,hr⟩ : ∃ r,holdsS e [] [] = r:=⟨_,rfl⟩
 rw [hr] at hho
 have HHO:=Lib.hid hho
 have HRR:=Lib.hid hr
 have HBC:=Lib.hid hbc
 have HE:=Lib.hid he
 have HB1:=Lib.hid b1
 have HQ0:=Lib.hid q0
 have HQ1:=Lib.hid q1
 have S1:=Lib.hid s1
 have hr0 : W1.rangeAt (T + 1) 0 x.cells.toList:=q1.range
 have HOP:=Lib.hid hop
 have HIH:=Lib.hid ih
 have HSOK:=Lib.hid hok
 dsimp only [Xv.agg,Xv.cells] at HHO
 dsimp only [Xv.agg]
 clear hbc he hT hW1 b1 q0 q1 s1 hho hr hop ih hok
 go_enter Tryz.func49,Tryz.ntmps49
 go_upto_region 1 with fail
 simp only [HT.out]
 rw [HW.out]
 go_wp2_with (refine wpList_load_mid rfl 49 (.tmp 3) rfl (T + 1) 0 rfl x.cells.toList _ hr0 Tryz.underlying49 rfl infoExprM ?_)
 refine HHO.out.mono ?_
 clear HHO hr0
 rintro en w2 ⟨rfl,hb2⟩
 obtain ⟨r1,r2⟩:=r
 dsimp only at HRR ⊢
 have hs2 : T + 2 <= w2.heap.size:=by have := hb2.size; have := S1.out; omega
 have bT2 : Below T w w2:=HB1.out.trans (hb2.mono (by have := S1.out; omega))
 have HBT2:=Lib.hid bT2
 have HB2:=Lib.hid hb2
 by_cases hz : r2 = 0
 ·subst hz
  clear bT2 hb2
  go_wp2_with fail
  go_ret
  refine ⟨_,rfl,fun W K ha hK => ?_,HBT2.out.alloc (by omega) _⟩
  have hq:=Blk.new w2 #[.bool r1] 4
  have hlt : Btw T (w2.alloc (.cells #[.bool r1] 4)).heap.size w2.heap.size:=⟨by omega,by simp⟩
  have := cond_const (CellsIn (pcs scs)) K w2.heap.size r1 W (ha _ _ hlt hq rfl) (hK _ hlt)
  have e1 : (fun cs => evG scs cs e) = fun _ => r1:=by
   funext cs
   rw [evG_0 (by rw [HRR.out]),HRR.out]
  rw [e1]
  exact this
 ·have hne : (r2 == 0) = false:=by simpa using hz
  obtain ⟨L,hL⟩ : ∃ L,w2.heap.size = L:=⟨_,rfl⟩
  obtain ⟨W4,hW4⟩ : ∃ W4,(w2.alloc (.cells #[.bool r1] 4)).alloc (.cells #[.slice none 0 0] 109) = W4:=⟨_,rfl⟩
  have b4 : Below L w2 W4:=by rw [<- hW4,<- hL]; exact ((Below.refl _ _).alloc (Nat.le_refl _) _).alloc (by simp) _
  have ql : Blk W4 (L + 1) #[.slice none 0 0] 109:=by
   rw [<- hW4,<- hL]
   have := Blk.new (w2.alloc (.cells #[.bool r1] 4)) #[.slice none 0 0] 109
   rwa [World.size_alloc] at this
  have s4 : W4.heap.size = L + 2:=by rw [<- hW4,<- hL]; simp
  have hTL : T + 2 <= L:=by omega
  have bT4 : Below T w W4:=bT2.trans (b4.mono (by omega))
  have b14 : Below W1.heap.size W1 W4:=hb2.trans (b4.mono (by have := hb2.size; omega))
  have q0:=HQ0.out.below b14 HQ0.out.lt
  have q1:=HQ1.out.below b14 HQ1.out.lt
  have hNZ : Hid (¬ (holdsS e [] []).2 = 0):=Lib.hid (by rw [HRR.out]; exact hz)
  have HW4:=Lib.hid hW4
  have HL:=Lib.hid hL
  have S4:=Lib.hid s4
  have HQ0':=Lib.hid q0
  have HQ1':=Lib.hid q1
  have HQL:=Lib.hid ql
  have HB4:=Lib.hid bT4
  have hr4 : W4.rangeAt (T + 1) 0 x.cells.toList:=q1.range
  have c0 : W4.cell? ⟨T + 1,0,none⟩ = some (.int .u8 x.op):=q1.at rfl
  have p0 : W4.cell? ⟨T,0,none⟩ = some (.pointer (some ⟨bb,0,none⟩)):=q0.at rfl
  have HTS : Hid (Calls Tryz.prog 107 #[.pointer (some ⟨bb,0,none⟩),x.agg] W4 fun en w' => ∃ u,en = .returned u /\ Zed (Btw T w'.heap.size) w' (CondR (CellsIn (pcs scs)) (fun cs => evT scs cs e) u) /\ Below T w w'):=Lib.hid ((dtest_any bb sv pv scs gv e x W4 (HBC.out.below bT4 (Nat.le_refl _) (by omega)) HSOK.out (HE.out.below bT4 (Nat.le_refl _) (by omega)) hg hn20).mono fun en w' ⟨u,h1,h2,h3⟩ => ⟨u,h1,h2.mono fun b hb => ⟨by have := hb.1; omega,hb.2⟩,bT4.trans (h3.mono (by omega))⟩)
  have HCO : ∀ k : Nat,Hid (Calls Tryz.prog 102 #[.int .i64 k,.pointer (some ⟨T + 1,0,none⟩),.pointer (some ⟨L + 1,0,none⟩),.pointer (some ⟨T,0,none⟩)] W4 fun en w' =>
   (e.args.length ≠ k -> en = .returned (.bool false) /\ w' = W4) /\ (e.args.length = k -> en = .returned (.bool true) /\ Below T W4 w' /\ W4.heap.size <= w'.heap.size /\ (∀ b,b < W4.heap.size -> b ≠ L + 1 -> w'.heap[b]? = W4.heap[b]?) /\ ∃ ca cm vs,CpOk scs e.args (L + 1) W4.heap.size k ca cm vs w')):=fun k =>
   Lib.hid (dcompo_any T bb (T + 1) (L + 1) T sv pv scs gv e x k W4 (HBC.out.below bT4 (Nat.le_refl _) (Nat.le_refl _)) (HE.out.below bT4 (Nat.le_refl _) (Nat.le_refl _)) q1 ql q0 (by omega) HIH.out hal)
  have HTL:=Lib.hid hTL
  clear bT2 hb2 hW4 hL b4 ql s4 bT4 b14 q0 q1 hz
  go_upto_region 6 with fail
  simp only [HL.out]
  rw [HW4.out]
  have hopc : x.op = 15 \/ x.op = 16 \/ x.op = 17 \/ x.op = 18 \/ (x.op ≠ 15 /\ x.op ≠ 16 /\ x.op ≠ 17 /\ x.op ≠ 18):=by omega
  have HCO2:=HCO 2
  have HCO1:=HCO 1
  have HCO3:=HCO 3
  have HXA : Hid (x.agg = .agg #[.int .u8 x.op,S x.nm,.int .u8 x.kd,.bool x.b3,.slice x.s4.a x.s4.n x.s4.m,.bool x.b5,.slice x.s6.a x.s6.n x.s6.m,.int .i64 x.i7,.slice x.s8.a x.s8.n x.s8.m]):=Lib.hid rfl
  clear HCO
  rcases hopc with ho | ho | ho | ho | ho
  ·have heo : e.op = 15:=by rw [<- HOP.out]; exact ho
   have HEO:=Lib.hid heo
   rw [ho] at c0
   clear heo ho
   go_wp2_with fail
   refine HCO2.out.mono ?_
   clear HCO1 HCO2 HCO3
   rintro en w5 ⟨hA,hB⟩
   by_cases hn : e.args.length = 2
   ·obtain ⟨rfl,b5,s5,_,ca,cm,vs,hcp⟩:=hB hn
    have HB5:=Lib.hid b5
    have HCP:=Lib.hid hcp
    have HN:=Lib.hid hn
    clear hA hB b5 hcp hn hr4 c0 p0
    go_wp2_with fail
    go_ret
    refine ⟨_,rfl,?_,HB4.out.trans HB5.out⟩
    have e1 : (fun cs => evG scs cs e) = fun cs => evG scs cs (e.args[0]?.getD default) && evG scs cs (e.args[1]?.getD default):=by
     funext cs
     rw [evG_c hNZ.out (by simp [Gx.composed,HEO.out,HN.out]) cs,HEO.out]
     unfold combG
     rw [if_pos rfl]
     simp only [map_at scs cs (show 0 < e.args.length by rw [HN.out]; omega),map_at scs cs (show 1 < e.args.length by rw [HN.out]; omega)]
    rw [e1]
    exact (HCP.out.cbox (T0:=T) (by have := S4.out; omega) (by have := HTL.out; omega)).imp fun K W h => cond_and _ K (L + 1) (fun i cs => evG scs cs (e.args[i]?.getD default)) W h
   ·obtain ⟨rfl,rfl⟩:=hA hn
    have hcp : e.composed = false:=by simp [Gx.composed,HEO.out,hn]
    clear hA hB hn
    go_wp2_with (refine wpList_load_mid rfl 49 (.tmp 3) rfl (T + 1) 0 rfl x.cells.toList _ hr4 Tryz.underlying49 rfl infoExprM ?_)
    refine HTS.out.mono ?_
    clear HTS
    rintro en w5 ⟨u,rfl,hz5,hb5⟩
    go_wp2_with fail
    go_ret
    have e1 : (fun cs => evG scs cs e) = fun cs => evT scs cs e:=funext fun cs => evG_t hNZ.out hcp cs
    rw [e1]
    exact ⟨u,rfl,hz5,hb5⟩
  ·have heo : e.op = 16:=by rw [<- HOP.out]; exact ho
   have HEO:=Lib.hid heo
   rw [ho] at c0
   clear heo ho
   go_wp2_with fail
   refine HCO2.out.mono ?_
   clear HCO1 HCO2 HCO3
   rintro en w5 ⟨hA,hB⟩
   by_cases hn : e.args.length = 2
   ·obtain ⟨rfl,b5,s5,_,ca,cm,vs,hcp⟩:=hB hn
    have HB5:=Lib.hid b5
    have HCP:=Lib.hid hcp
    have HN:=Lib.hid hn
    clear hA hB b5 hcp hn hr4 c0 p0
    go_wp2_with fail
    go_ret
    refine ⟨_,rfl,?_,HB4.out.trans HB5.out⟩
    have e1 : (fun cs => evG scs cs e) = fun cs => evG scs cs (e.args[0]?.getD default) || evG scs cs (e.args[1]?.getD default):=by
     funext cs
     rw [evG_c hNZ.out (by simp [Gx.composed,HEO.out,HN.out]) cs,HEO.out]
     unfold combG
     rw [if_neg (by decide),if_pos rfl]
     simp only [map_at scs cs (show 0 < e.args.length by rw [HN.out]; omega),map_at scs cs (show 1 < e.args.length by rw [HN.out]; omega)]
    rw [e1]
    exact (HCP.out.cbox (T0:=T) (by have := S4.out; omega) (by have := HTL.out; omega)).imp fun K W h => cond_or _ K (L + 1) (fun i cs => evG scs cs (e.args[i]?.getD default)) W h
   ·obtain ⟨rfl,rfl⟩:=hA hn
    have hcp : e.composed = false:=by simp [Gx.composed,HEO.out,hn]
    clear hA hB hn
    go_wp2_with (refine wpList_load_mid rfl 49 (.tmp 3) rfl (T + 1) 0 rfl x.cells.toList _ hr4 Tryz.underlying49 rfl infoExprM ?_)
    refine HTS.out.mono ?_
    clear HTS
    rintro en w5 ⟨u,rfl,hz5,hb5⟩
    go_wp2_with fail
    go_ret
    have e1 : (fun cs => evG scs cs e) = fun cs => evT scs cs e:=funext fun cs => evG_t hNZ.out hcp cs
    rw [e1]
    exact ⟨u,rfl,hz5,hb5⟩
  ·have heo : e.op = 17:=by rw [<- HOP.out]; exact ho
   have HEO:=Lib.hid heo
   rw [ho] at c0
   clear heo ho
   go_wp2_with fail
   refine HCO1.out.mono ?_
   clear HCO1 HCO2 HCO3
   rintro en w5 ⟨hA,hB⟩
   by_cases hn : e.args.length = 1
   ·obtain ⟨rfl,b5,s5,_,ca,cm,vs,hcp⟩:=hB hn
    have HB5:=Lib.hid b5
    have HCP:=Lib.hid hcp
    have HN:=Lib.hid hn
    clear hA hB b5 hcp hn hr4 c0 p0
    go_wp2_with fail
    go_ret
    refine ⟨_,rfl,?_,HB4.out.trans HB5.out⟩
    have e1 : (fun cs => evG scs cs e) = fun cs => !evG scs cs (e.args[0]?.getD default):=by
     funext cs
     rw [evG_c hNZ.out (by simp [Gx.composed,HEO.out,HN.out]) cs,HEO.out]
     unfold combG
     rw [if_neg (by decide),if_neg (by decide),if_pos rfl]
     simp only [map_at scs cs (show 0 < e.args.length by rw [HN.out]; omega)]
    rw [e1]
    exact (HCP.out.cbox (T0:=T) (by have := S4.out; omega) (by have := HTL.out; omega)).imp fun K W h => cond_not _ K (L + 1) (fun i cs => evG scs cs (e.args[i]?.getD default)) W h
   ·obtain ⟨rfl,rfl⟩:=hA hn
    have hcp : e.composed = false:=by simp [Gx.composed,HEO.out,hn]
    clear hA hB hn
    go_wp2_with (refine wpList_load_mid rfl 49 (.tmp 3) rfl (T + 1) 0 rfl x.cells.toList _ hr4 Tryz.underlying49 rfl infoExprM ?_)
    refine HTS.out.mono ?_
    clear HTS
    rintro en w5 ⟨u,rfl,hz5,hb5⟩
    go_wp2_with fail
    go_ret
    have e1 : (fun cs => evG scs cs e) = fun cs => evT scs cs e:=funext fun cs => evG_t hNZ.out hcp cs
    rw [e1]
    exact ⟨u,rfl,hz5,hb5⟩
  ·have heo : e.op = 18:=by rw [<- HOP.out]; exact ho
   have HEO:=Lib.hid heo
   rw [ho] at c0
   clear heo ho
   go_wp2_with fail
   refine HCO3.out.mono ?_
   clear HCO1 HCO2 HCO3
   rintro en w5 ⟨hA,hB⟩
   by_cases hn : e.args.length = 3
   ·obtain ⟨rfl,b5,s5,_,ca,cm,vs,hcp⟩:=hB hn
    have HB5:=Lib.hid b5
    have HCP:=Lib.hid hcp
    have HN:=Lib.hid hn
    clear hA hB b5 hcp hn hr4 c0 p0
    go_wp2_with fail
    go_ret
    refine ⟨_,rfl,?_,HB4.out.trans HB5.out⟩
    have e1 : (fun cs => evG scs cs e) = fun cs => if evG scs cs (e.args[0]?.getD default) then evG scs cs (e.args[1]?.getD default) else evG scs cs (e.args[2]?.getD default):=by
     funext cs
     rw [evG_c hNZ.out (by simp [Gx.composed,HEO.out,HN.out]) cs,HEO.out]
     unfold combG
     rw [if_neg (by decide),if_neg (by decide),if_neg (by decide)]
     simp only [map_at scs cs (show 0 < e.args.length by rw [HN.out]; omega),map_at scs cs (show 1 < e.args.length by rw [HN.out]; omega),map_at scs cs (show 2 < e.args.length by rw [HN.out]; omega)]
    rw [e1]
    exact (HCP.out.cbox (T0:=T) (by have := S4.out; omega) (by have := HTL.out; omega)).imp fun K W h => cond_if _ K (L + 1) (fun i cs => evG scs cs (e.args[i]?.getD default)) W h
   ·obtain ⟨rfl,rfl⟩:=hA hn
    have hcp : e.composed = false:=by simp [Gx.composed,HEO.out,hn]
    clear hA hB hn
    go_wp2_with (refine wpList_load_mid rfl 49 (.tmp 3) rfl (T + 1) 0 rfl x.cells.toList _ hr4 Tryz.underlying49 rfl infoExprM ?_)
    refine HTS.out.mono ?_
    clear HTS
    rintro en w5 ⟨u,rfl,hz5,hb5⟩
    go_wp2_with fail
    go_ret
    have e1 : (fun cs => evG scs cs e) = fun cs => evT scs cs e:=funext fun cs => evG_t hNZ.out hcp cs
    rw [e1]
    exact ⟨u,rfl,hz5,hb5⟩
  ·have heo : e.op ≠ 15 /\ e.op ≠ 16 /\ e.op ≠ 17 /\ e.op ≠ 18:=by rw [<- HOP.out]; exact ho
   have hcp : e.composed = false:=by simp [Gx.composed,heo.1,heo.2.1,heo.2.2.1,heo.2.2.2]
   have o1 : (x.op == 15) = false:=by simpa using ho.1
   have o2 : (x.op == 16) = false:=by simpa using ho.2.1
   have o3 : (x.op == 17) = false:=by simpa using ho.2.2.1
   have o4 : (x.op == 18) = false:=by simpa using ho.2.2.2
   clear heo ho HCO1 HCO2 HCO3
   go_wp2_with (refine wpList_load_mid rfl 49 (.tmp 3) rfl (T + 1) 0 rfl x.cells.toList _ hr4 Tryz.underlying49 rfl infoExprM ?_)
   refine HTS.out.mono ?_
   clear HTS
   rintro en w5 ⟨u,rfl,hz5,hb5⟩
   go_wp2_with fail
   go_ret
   have e1 : (fun cs => evG scs cs e) = fun cs => evT scs cs e:=funext fun cs => evG_t hNZ.out hcp cs
   rw [e1]
   exact ⟨u,rfl,hz5,hb5⟩
theorem dcond_any (bb : Nat) (sv pv : Sl) (scs : List Sc) (gv : Nat -> Value) (hok : ScOkD scs) (hn20 : scs.length <= 2 ^ 20) (m : Nat) : ∀ (e : Gx),e.parts <= m -> e.parts <= 2 ^ 20 -> e.good = true -> CndC bb sv pv scs gv e:=by
 induction m with
 | zero => intro e hm; cases e; rw [partsG_mk] at hm; omega
 | succ m ih =>
  intro e hm hbig hg
  have h0:=partsG_args e
  have hl : ∀ l : List Gx,l.length <= partsL l:=by
   intro l
   induction l with
   | nil => simp [partsL]
   | cons a r ih => have h1:=partsG_args a; rw [partsL,List.length_cons]; omega
  have hl2:=hl e.args
  refine dcond_step bb sv pv scs gv e hok hn20 hg (by omega) fun a ha => ?_
  have hp:=partsG_arg ha
  exact ih a (by omega) (by omega) (good_args hg a ha)
end Go.Proofs.YtlidpghnlloinaaGreatDoor
