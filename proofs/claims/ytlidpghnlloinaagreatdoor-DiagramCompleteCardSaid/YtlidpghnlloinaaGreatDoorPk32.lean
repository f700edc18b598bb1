/- Contracts and plain laws, several texts in one (DSmp, DlAwP, DTakeX). No conditions beyond those stated. -/
import Derived.Test.YtlidpghnlloinaaGreatDoorPk31
set_option maxRecDepth 100000
set_option maxHeartbeats 40000000
namespace Go.Proofs.YtlidpghnlloinaaGreatDoor
open Go.RowKit
set_option linter.unusedVariables false
theorem RO.low {α : Type} {c T : Nat} {row : α -> Value -> List Value} {R : α -> Value -> Nat -> World -> Prop} {base base' : Nat} {w : World} {v : Value} {L : List α} {vs : List Value} {F : Nat -> Prop} (h : RO c T row R base w v L vs F) (hb : base' <= base) : RO c T row R base' w v L vs F :=
 ⟨h.len,h.own.mono hb,fun b hF => ⟨Nat.le_trans hb (h.rng b hF).1,(h.rng b hF).2⟩,h.nv,h.dat⟩
abbrev VO:=@RO Vq 6 47 (fun _ u => u.cells.toList) (fun v u K W => ∃ z : Vv,u = z.agg /\ VlX K W v z)
theorem vv_agg_cells (z : Vv) : z.agg.cells.toList = z.cells.toList:=rfl
theorem dsample_ok (K : Nat) (x : Dv) (scs : List Sc) (st : DSt) (root : Int) (cv : Value) (cs : List Nat) (vals : Nat -> Vq) (w : World) (h : DgX K w x scs st root) (hv : DgV scs st root) (hg : ScGood scs) (hc : Nats K w cv cs) (hcs : CellsIn (pcs scs) cs) (hK : K <= w.heap.size)
  (hsm : ∀ (i : Nat) (s : Sc) (c : Nat) (y : Sv) (W : World),scs[i]? = some s -> cs[i]? = some c -> ScX W.heap.size W s y -> Calls Tryz.prog 65 #[y.agg,.int .i64 c] W fun e w' => ∃ z : Vv,e = .returned (.tuple #[z.agg,.bool true]) /\ Zed (Btw W.heap.size w'.heap.size) w' (fun K W => VlX K W (vals i) z) /\ Below W.heap.size W w') :
  Calls Tryz.prog 28 #[x.agg,cv] w fun e w' => ∃ v us F,e = .returned (.tuple #[v,.int .i64 0]) /\ VO w.heap.size w' v ((List.range scs.length).map vals) us F /\ Below w.heap.size w w':=by
 obtain ⟨l1,l2,l3⟩:=h.lens
 obtain ⟨n,hn⟩ : ∃ n,scs.length = n:=⟨_,rfl⟩
 have hn16:=hv.len
 have hcl : cs.length = n:=by rw [hcs.1]; unfold pcs; rw [List.length_map]; exact hn
 obtain ⟨ca,cm,rfl,hcm1,hcm2⟩:=hc.form
 have hft : ∀ W,Below w.heap.size w W -> Calls Tryz.prog 62 #[x.agg,.slice ca cs.length cm] W fun e w' => e = .returned (.bool true) /\ Below W.heap.size W w':=fun W hb => dfit_ok W.heap.size x scs st root _ cs W (h.below hb hK (by have := hb.size; omega)) hv hg (hc.below hb hK (by have := hb.size; omega)) hcs (Nat.le_refl _)
 obtain ⟨⟨sa,sn,sm⟩,⟨na,nn,nm⟩,⟨la,ln,lm⟩,rt⟩:=x
 simp only at l1
 have hs:=h.s
 dsimp only at hs
 subst l1
 clear l2 l3
 obtain ⟨_,_,hs1,hs2,hs3⟩:=hs.form
 simp only [Value.slice.injEq,Sl.val,true_and] at hs1
 obtain ⟨rfl,rfl⟩:=hs1
 obtain ⟨W1,hW1⟩ : ∃ W1,w.alloc (.cells #[.slice sa scs.length sm,.slice na nn nm,.slice la ln lm,.int .i64 rt] 29) = W1:=⟨_,rfl⟩
 have b1 : Below w.heap.size w W1:=by rw [<- hW1]; exact (Below.refl _ _).alloc (Nat.le_refl _) _
 have q1 : Blk W1 w.heap.size #[.slice sa scs.length sm,.slice na nn nm,.slice la ln lm,.int .i64 rt] 29:=by rw [<- hW1]; exact Blk.new w _ _
 have s1 : W1.heap.size = w.heap.size + 1:=by rw [<- hW1]; simp
 have hft1:=hft W1 b1
 obtain ⟨T,hT⟩ : ∃ T,w.heap.size = T:=⟨_,rfl⟩
 have HT:=Lib.hid hT
 have HW:=Lib.hid hW1
 rw [hT] at b1 q1 s1 hK ⊢
 rw [hn] at q1 hft1 hs hs2 HW hn16 ⊢
 rw [hcl] at hcm1 hft1 ⊢
 rw [hcl] at hc
 have HS:=Lib.hid hs
 have HC:=Lib.hid hc
 have HCS:=Lib.hid hcs
 have HN:=Lib.hid hn
 have HCL:=Lib.hid hcl
 have HSM:=Lib.hid hsm
 have HB1:=Lib.hid b1
 have HQ1:=Lib.hid q1
 have S1:=Lib.hid s1
 have HFT:=Lib.hid hft1
 unfold maxLen at hcm2 hs3
 have hT1 : T < W1.heap.size:=by omega
 obtain ⟨c0,c1,c2,c3⟩:=q1.four
 dsimp only [Dv.agg,Dv.cells,Sl.val] at HFT ⊢
 clear h hs hc hcs hn hcl hg hv b1 q1 s1 hft hft1 hT hW1 hsm
 go_enter Tryz.func28,Tryz.ntmps28
 go_upto_region 1 with fail
 simp only [HT.out]
 rw [HW.out]
 go_wp2_with fail
 refine HFT.out.mono ?_
 clear HFT c0 c1 c2 c3
 rintro en w2 ⟨rfl,hb2⟩
 have d0 : w2.cell? ⟨T,0,none⟩ = some (.slice sa n sm):=(HQ1.out.below hb2 hT1).at rfl
 have HB2:=Lib.hid hb2
 have hs2':=hb2.size
 clear hb2
 go_wp2_with fail
 go_loopw [6,18] (fun ov iv wr => ∃ (i : Nat) (us : List Value) (F : Nat -> Prop),i <= n /\ iv = .int .i64 i /\ VO w2.heap.size wr ov ((List.range i).map vals) us F /\ Below w2.heap.size w2 wr) (fun _ iv _ => n - (intOf iv).toNat)
 case atStart => exact ⟨0,[],fun _ => False,Nat.zero_le _,rfl,RO.nil _ _,Below.refl _ _⟩
 case round =>
  obtain ⟨i,us,F,hi,rfl,hno,hbr⟩:=hrel
  obtain ⟨wo,rfl⟩ : ∃ wo : World,wo = wr:=⟨_,rfl⟩
  obtain ⟨oa,oc,hov,_,_⟩:=hno.own.form
  have hlen : (List.zipWith (fun (_ : Vq) (u : Value) => u.cells.toList) ((List.range i).map vals) us).length = i:=by
   rw [List.length_zipWith,hno.len,Nat.min_self,List.length_map,List.length_range]
  rw [hlen] at hov
  subst hov
  have HLEN:=Lib.hid hlen
  have HNO:=Lib.hid hno
  have HBR:=Lib.hid hbr
  have hso:=hbr.size
  have bTo : Below T w wo:=(HB1.out.trans (HB2.out.mono (by omega))).trans (hbr.mono (by omega))
  clear hno hlen
  by_cases hlt : i < n
  ·obtain ⟨gy,hrow,hsc⟩:=HS.out
   rw [HN.out] at hrow hsc
   obtain ⟨b,o,cap,he,_,_,hbK,hcc⟩:=hrow.pos (by omega)
   simp only [Value.slice.injEq,true_and] at he
   obtain ⟨rfl,rfl⟩:=he
   have hil : i < scs.length:=by rw [HN.out]; exact hlt
   obtain ⟨s,hs⟩ : ∃ s,scs[i]?.getD default = s:=⟨_,rfl⟩
   have hgs : scs[i]? = some s:=by rw [<- hs,List.getElem?_eq_getElem hil]; rfl
   have hx:=hsc i hlt
   rw [hs] at hx
   have hrg:=sv_range (g:=gy) (cells_below bTo (by omega) hcc) hlt
   obtain ⟨y,hy⟩ : ∃ y,gy i = y:=⟨_,rfl⟩
   rw [hy] at hx hrg
   have H1C : Hid (∀ u ∈ y.cells,u.oneCell' = true):=Lib.hid (by simp [Value.oneCell'])
   have HX:=Lib.hid (hx.below bTo hK (show K <= wo.heap.size by omega))
   have hicl : i < cs.length:=by rw [HCL.out]; exact hlt
   obtain ⟨cb,co,ccap,hce,_,_,hcK,hccl⟩:=Nats.pos HC.out (by rw [HCL.out]; omega)
   rw [HCL.out] at hce
   simp only [Value.slice.injEq,true_and] at hce
   obtain ⟨rfl,rfl⟩:=hce
   obtain ⟨c,hcv⟩ : ∃ c,cs[i]? = some c:=⟨_,List.getElem?_eq_getElem hicl⟩
   have e0 : wo.cell? ⟨cb,co + i,none⟩ = some (.int .i64 (c : Int)):=(bTo.cell (p:=⟨cb,co + i,none⟩) (Nat.lt_of_lt_of_le hcK hK)).trans (by have := hccl i hicl; rw [hcv] at this; exact this)
   have HCALL : Hid (∀ W,ScX W.heap.size W s y -> Calls Tryz.prog 65 #[y.agg,.int .i64 c] W fun e w' => ∃ z : Vv,e = .returned (.tuple #[z.agg,.bool true]) /\ Zed (Btw W.heap.size w'.heap.size) w' (fun K W => VlX K W (vals i) z) /\ Below W.heap.size W w'):=Lib.hid fun W hX => HSM.out i s c y W hgs hcv hX
   have htk : (List.range (i + 1)).map vals = (List.range i).map vals ++ [vals i]:=by rw [List.range_succ]; simp
   have HTK:=Lib.hid htk
   clear hcc hs hgs hx hy hrow hsc bTo hbr hccl hcv htk
   go_upto_region 7 with (first
    | (refine wpList_load_mid rfl 79 (.tmp 21) rfl b (o + i * 11) rfl y.cells.toList _ hrg Tryz.underlying79 rfl infoScaleN ?_)
    | (refine wpList_store_new rfl 79 (.tmp 8) (.tmp 22) rfl y.cells _ infoScaleN rfl H1C.out wo.heap.size rfl rfl rfl ?_))
   obtain ⟨T2,hT2⟩ : ∃ T,wo.heap.size = T:=⟨_,rfl⟩
   obtain ⟨W2,hW2⟩ : ∃ W,wo.alloc (.cells y.cells 79) = W:=⟨_,rfl⟩
   have b2 : Below T2 wo W2:=by rw [<- hW2,<- hT2]; exact (Below.refl _ _).alloc (Nat.le_refl _) _
   have q2 : Blk W2 T2 y.cells 79:=by rw [<- hW2,<- hT2]; exact Blk.new wo _ _
   rw [hT2]
   rw [hW2]
   rw [hT2] at HX hso
   have e1:=(b2.cell (p:=⟨cb,co + i,none⟩) (show cb < T2 by omega)).trans e0
   have qS : (fun W' => Below W2.heap.size W2 W') W2.drew:=below_quiet (Below.refl _ _)
   have hcbl : cb < W2.heap.size:=by have := b2.size; omega
   have HSC : Hid (∀ W,Below W2.heap.size W2 W -> ScX W.heap.size W s y):=Lib.hid fun W hb => HX.out.below (b2.trans (hb.mono (by have := q2.lt; omega))) (Nat.le_refl _) (by have := q2.lt; have := hb.size; omega)
   have HB2':=Lib.hid b2
   have HT2:=Lib.hid hT2
   have HQ2:=Lib.hid q2
   have HE1:=Lib.hid e1
   clear hT2 hW2 q2 b2 hrg H1C e0 e1
   refine region_plain (fun W' => Below W2.heap.size W2 W') [] (by kernel_rfl) ?_
   refine wpAnyD_tk (i:=0) (v:=y.agg) rfl (yieldsIf_load_mid (by kernel_rfl) 79 (.tmp 8) rfl T2 0 rfl y.cells.toList _ (fun W' hS => (HQ2.out.below hS HQ2.out.lt).range) Tryz.underlying79 rfl infoScaleN) qS ?_
   refine wpAnyD_tp (i:=1) (v:=.slice (some ⟨cb,co,none⟩) n cm) rfl qS ?_
   refine wpAnyD_tp (i:=2) (v:=.int .i64 (i : Int)) rfl qS ?_
   refine wpAnyD_tp (i:=3) (v:=.pointer (some ⟨cb,co + i,none⟩)) rfl qS ?_
   refine wpAnyD_tk (i:=4) (v:=.int .i64 (c : Int)) rfl (.inl ⟨by kernel_rfl,fun W' hS => by have d0:=(hS.cell (p:=⟨cb,co + i,none⟩) hcbl).trans HE1.out; go_simp⟩) qS ?_
   refine wpAnyD_chain1X (c1:=5) (i:=9) (L0:=?L0) (L1:=?L1) (A:=?A) (some 29) (some 9) 3 47 vv0.cells (fun _ W => Below W2.heap.size W2 W) (fun v Fp W => Below W2.heap.size W2 W /\ ∃ z : Vv,v = .tuple #[z.agg,.bool true] /\ (∀ b,Fp b -> W2.heap.size <= b /\ b < W.heap.size) /\ Zed Fp W (fun K W => VlX K W (vals i) z)) (by kernel_rfl) (by kernel_rfl) ?hrn ?hL rfl rfl (fun _ => rfl) (by decide) (fun W W' h1 h2 => h1.trans (h2.mono h1.size)) qS rfl rfl (fun _ => rfl) (fun a W KK hK => by go_simp; exact hK) (fun _ W W' h1 h2 => h1.trans (h2.mono h1.size)) ?st1 ?step1 ?htk0 ?htk1 ?hA qS ?h
   case htk0 | htk1 =>
    intro v p Fp W' hF hS H
    refine wpAnyD_tp (i:=6) (v:=v) rfl hS ?_
    refine wpAnyD_tk (i:=7) (v:=tupA v 0) rfl (.inl ⟨by kernel_rfl,fun W' hS => by obtain ⟨_,z,rfl,_⟩:=hF; go_simp <;> rfl⟩) hS ?_
    refine wpAnyD_tk (i:=8) (v:=tupA v 1) rfl (.inl ⟨by kernel_rfl,fun W' hS => by obtain ⟨_,z,rfl,_⟩:=hF; go_simp <;> rfl⟩) hS ?_
    exact H
   case hrn => kernel_rfl
   case hL => rfl
   case hA => intro v p q; exact put_over (by decide) (put_over (by decide) (put_over (by decide) (put_over (by decide) (put_twice _ _ _ _))))
   case st1 =>
    rintro v Fp W W' ⟨h1,z,rfl,h3,h4⟩ hb
    exact ⟨h1.trans (hb.mono h1.size),z,rfl,fun b hF => ⟨(h3 b hF).1,Nat.lt_of_lt_of_le (h3 b hF).2 hb.size⟩,h4.move (Agr.of fun b hb' => hb.block b (h3 b hb').2)⟩
   case step1 =>
    intro Fp W p hF KK hKK
    go_simp
    refine (HCALL.out W (HSC.out W hF)).mono ?_
    rintro en w3 ⟨z,rfl,hz,hb3⟩
    exact hKK _ _ w3 ⟨hF.trans (hb3.mono hF.size),z,rfl,fun b hb => ⟨Nat.le_trans hF.size hb.1,hb.2⟩,hz⟩ (fun b hb => .inr hb) hb3
   case h =>
    rintro v Fp k w3 ⟨hB3,z,rfl,hrF,hz⟩ hnk _ hq hk hbk
    obtain ⟨zk,zb1,zs1,zb2,zs2,zi⟩:=z
    have hzz:=hz w3 w3.heap.size (Agr.of fun _ _ => rfl) (fun b hb => (hrF b hb).2)
    obtain ⟨z1a,z1m,hf1,_⟩:=hzz.n.form
    obtain ⟨z2a,z2m,hf2,_⟩:=hzz.d.form
    obtain ⟨z1n,hz1n⟩ : ∃ x,(vals i).l1.length = x:=⟨_,rfl⟩
    obtain ⟨z2n,hz2n⟩ : ∃ x,(vals i).l2.length = x:=⟨_,rfl⟩
    rw [hz1n] at hf1
    rw [hz2n] at hf2
    dsimp only at hf1 hf2
    subst hf1 hf2
    have HZ:=Lib.hid hz
    have HQK:=Lib.hid hq
    have h1c : ∀ u ∈ (⟨zk,zb1,.slice z1a z1n z1m,zb2,.slice z2a z2n z2m,zi⟩ : Vv).cells,u.oneCell' = true:=by simp [Value.oneCell']
    have H1C2:=Lib.hid h1c
    have hkW : W2.heap.size <= k:=hk
    clear hz hzz hz1n hz2n hbk h1c hq
    go_simp
    refine wpAnyD_one (i:=10) (by kernel_rfl) rfl (by kernel_rfl) ?_
    refine wp_store_blkD 47 47 (.tmp 9) (.tmp 30) rfl (⟨zk,zb1,.slice z1a z1n z1m,zb2,.slice z2a z2n z2m,zi⟩ : Vv).cells _ k HQK.out infoValN rfl H1C2.out rfl rfl ?_
    intro w4 t1 t2 t3 t4
    have hB4 : Below W2.heap.size W2 w4:=hB3.trans (t2 _ hkW)
    refine ⟨fun _ => hB4,?_⟩
    refine wpAnyD_tk (i:=11) (v:=.bool true) rfl (.inl ⟨by kernel_rfl,fun W' hS => by go_simp <;> rfl⟩) hB4 ?_
    refine wpAnyD_done (by kernel_rfl) ?_ _
    have q4:=t1
    have hz4:=HZ.out.move (agr_grown t3 (fun b hb => (hrF b hb).2) fun b hb => by cases hb; exact hnk)
    have HRF:=Lib.hid (show ∀ b,Fp b -> W2.heap.size <= b /\ b < w4.heap.size from fun b hb => ⟨(hrF b hb).1,Nat.lt_of_lt_of_le (hrF b hb).2 t3.size⟩)
    have HQ4:=Lib.hid q4
    have HZ4:=Lib.hid hz4
    have HB4:=Lib.hid hB4
    clear t1 t2 t3 t4 hz4 q4 HZ HQK hB3 hB4 hrF hnk
    go_simp
    obtain ⟨zv,hzv⟩ : ∃ z : Vv,z = ⟨zk,zb1,.slice z1a z1n z1m,zb2,.slice z2a z2n z2m,zi⟩:=⟨_,rfl⟩
    have HZV:=Lib.hid hzv
    have b2o : Below wo.heap.size wo W2:=by have := HB2'.out; rwa [<- HT2.out] at this
    have b14 : Below wo.heap.size wo (w4.alloc (.cells (⟨zk,zb1,.slice z1a z1n z1m,zb2,.slice z2a z2n z2m,zi⟩ : Vv).cells 47)):=(b2o.trans (HB4.out.mono b2o.size)).alloc (Nat.le_trans b2o.size HB4.out.size) _
    have hown4:=HNO.out.own.old b14 (Nat.le_refl _)
    have HOWN4:=Lib.hid hown4
    have HB14:=Lib.hid b14
    have HROW1 : Hid (RowsOk 6 [(⟨zk,zb1,.slice z1a z1n z1m,zb2,.slice z2a z2n z2m,zi⟩ : Vv).cells.toList]):=Lib.hid (RowsOk.one rfl fun u hu => by
     have := H1C2.out u (by simpa using hu); exact this)
    have HRC : Hid (∀ (i : Nat) (r : List Value) (j : Nat) (u : Value),([(⟨zk,zb1,.slice z1a z1n z1m,zb2,.slice z2a z2n z2m,zi⟩ : Vv).cells.toList] : List (List Value))[i]? = some r -> r[j]? = some u -> (w4.alloc (.cells (⟨zk,zb1,.slice z1a z1n z1m,zb2,.slice z2a z2n z2m,zi⟩ : Vv).cells 47)).cell? ⟨w4.heap.size,0 + (i * 6 + j),none⟩ = some u):=Lib.hid fun i r j u h1 h2 => by
     have hi0 : i = 0:=by have := (List.getElem?_eq_some_iff.1 h1).1; simp at this; omega
     subst hi0
     cases h1
     have := (Blk.new w4 (⟨zk,zb1,.slice z1a z1n z1m,zb2,.slice z2a z2n z2m,zi⟩ : Vv).cells 47).range j u h2
     rw [Nat.zero_mul,Nat.zero_add]; exact this
    obtain ⟨rs,hrs⟩ : ∃ rs,List.zipWith (fun (_ : Vq) (u : Value) => u.cells.toList) ((List.range i).map vals) us = rs:=⟨_,rfl⟩
    have HRS:=Lib.hid hrs
    have HOWN5 : Hid (OwnR 6 47 w2.heap.size (w4.alloc (.cells (⟨zk,zb1,.slice z1a z1n z1m,zb2,.slice z2a z2n z2m,zi⟩ : Vv).cells 47)) (.slice oa i oc) rs):=Lib.hid (by rw [<- hrs]; exact HOWN4.out)
    have HRL : Hid (rs.length = i):=Lib.hid (by rw [<- hrs]; exact HLEN.out)
    obtain ⟨d0,d1,d2,d3,d4,d5⟩:=HQ4.out.six
    have hTw4 : w2.heap.size <= w4.heap.size:=by have := HB4.out.size; have := b2o.size; have := HBR.out.size; omega
    have hso2 : w2.heap.size <= wo.heap.size:=HBR.out.size
    clear hrs hown4 b14 hzv
    apply (show ∀ (a : Act) (w : World),_ -> _ from by assumption)
    go_wp2_with (at_builtin; refine wpList_append_rows rfl (.tmp 34) (.tmp 36) 50 rfl Tryz.underlying50 Tryz.infoValG (by kernel_rfl) (by decide) rfl HOWN5.out (b:=w4.heap.size) (off:=0) (m:=1) (cap:=1) (ms:=[(⟨zk,zb1,.slice z1a z1n z1m,zb2,.slice z2a z2n z2m,zi⟩ : Vv).cells.toList]) rfl rfl HROW1.out HRC.out (by decide) (by rw [HRL.out]; simp [maxLen]; omega) (by rw [HRL.out]; omega) (by simp; omega) ?_; intro g1 cap1 w5 hown5 hg5 hat5)
    have hno5:=RO.add (a:=vals i) (u:=(⟨zk,zb1,.slice z1a z1n z1m,zb2,.slice z2a z2n z2m,zi⟩ : Vv).agg) (G:=Fp) HNO.out (grown_of_below HB14.out) (((HZ4.out.move (Agr.of fun b hb => ((Below.refl w4.heap.size w4).alloc (Nat.le_refl _) _).block b (HRF.out b hb).2)).imp fun K W h => ⟨_,rfl,h⟩))
     (fun b hb => ⟨Nat.le_trans b2o.size (HRF.out b hb).1,by have := (HRF.out b hb).2; simp; omega⟩) (by have := HBR.out.size; omega) hg5 (by rw [HRS.out]; exact hown5) (fun g hg => by
      simp only [Value.ownBlock,Option.some.injEq] at hg
      subst hg
      rcases hat5 with h | h
      ·exact .inl h
      ·exact .inr (by rw [h]; exact Nat.le_refl _))
    have hb5 : Below w2.heap.size w2 w5:=(HBR.out.trans (HB14.out.mono hso2)).grown hg5 (by simp; have := HB4.out.size; have := b2o.size; omega) (fun r hr => ?_)
    ·rw [<- HTK.out] at hno5
     exact ⟨⟨i + 1,_,_,by omega,by go_num,hno5,hb5⟩,by simp [intOf]; omega⟩
    ·exact HOWN5.out.low hr
  ·obtain rfl : i = n:=by omega
   have HBTO:=Lib.hid bTo
   have hno:=HNO.out
   have HNO2:=Lib.hid hno
   clear hno HNO hbr bTo hi hlt
   go_wp2_with fail
   refine bodyPost_ret (v:=.tuple #[.slice oa i oc,.int .i64 0]) (by simp [results,Tryz.results28,go_sem]) rfl ?_
   exact ⟨_,us,F,rfl,HNO2.out.low (by have := HB1.out.size; have := HB2.out.size; have := HT.out; omega),HBTO.out⟩
theorem blk_sndV {b t : Nat} {w : World} {x y : Xv} (hq : Blk w b (cells2 x y) t) : w.rangeAt b 11 y.vv.cells.toList:=by
 intro j v hj
 rcases j with _ | _ | _ | _ | _ | _ | j
 case succ.succ.succ.succ.succ.succ => simp at hj
 all_goals (simp at hj; subst hj; exact hq.at rfl)
theorem nats_new {w : World} {k c : Nat} {t : Nat} (hq : Blk w k #[Z c] t) : Nats w.heap.size w (.slice (some ⟨k,0,none⟩) 1 1) [c] :=
 RowsV.mk_cells (Nat.le_refl _) (by simp [maxLen]) hq.lt fun i hi j hj => by
  have hi0 : i = 0:=by simpa using hi
  have hj0 : j = 0:=by omega
  subst hi0 hj0
  exact hq.at rfl
structure AwE (T : Nat) (W : World) (B1 B2 B3 b : Nat) (X1 X2 X3 : Xv) (s1 s2 : Sl) : Prop where
 q1 : Blk W B1 X1.cells 49
 q2 : Blk W B2 X2.cells 49
 q3 : Blk W B3 X3.cells 49
 qb : Blk W b (cells2 agnX (conX 2 false s1 false s2 0)) 49
 x1 : ExN T W (lessG 60) X1
 x2 : ExN T W aboveG X2
 x3 : ExN T W nlessG X3
 vl : VlN T W (wV 2 60) ⟨2,false,s1.val,false,s2.val,0⟩
theorem AwE.move {T B1 B2 B3 b : Nat} {W W' : World} {X1 X2 X3 : Xv} {s1 s2 : Sl} (h : AwE T W B1 B2 B3 b X1 X2 X3 s1 s2) (hb : Below W.heap.size W W') : AwE T W' B1 B2 B3 b X1 X2 X3 s1 s2 :=
 ⟨h.q1.below hb h.q1.lt,h.q2.below hb h.q2.lt,h.q3.below hb h.q3.lt,h.qb.below hb h.qb.lt,h.x1.move (NewW.of hb),h.x2.move (NewW.of hb),h.x3.move (NewW.of hb),h.vl.move (NewW.of hb)⟩
theorem bld2 (W : World) (c : Nat) (X Y : Xv) (e1 e2 : Gx) (s : Sc) (hq : Blk W c (cells2 X Y) 49) (h1 : ExG W.heap.size W e1 X) (h2 : ExG W.heap.size W e2 Y) (g1 : e1.good = true) (g2 : e2.good = true) (p1 : e1.parts <= 2 ^ 20) (p2 : e2.parts <= 2 ^ 20)
  (hsc : scalesS [e1,e2] = ([s],0)) (ho : OneSc s) (htab : PTab W.heap.size W) :
  Calls Tryz.prog 13 #[.slice (some ⟨c,0,none⟩) 2 2] W fun e w' => ∃ y : Dv,e = .returned (.tuple #[y.agg,.int .i64 0]) /\ DgN W.heap.size w' y [s] [e1,e2] /\ Below W.heap.size W w' :=
 dbuild_any W.heap.size _ [e1,e2] (g2x X Y) W (rows_ex2 hq hq.lt) (fun i a ha => by
  rcases i with _ | _ | i
  ·cases ha; exact h1
  ·cases ha; exact h2
  ·cases ha) (fun a ha => by
  simp only [List.mem_cons,List.not_mem_nil,or_false] at ha
  rcases ha with rfl | rfl
  ·exact g1
  ·exact g2) (fun a ha => by
  simp only [List.mem_cons,List.not_mem_nil,or_false] at ha
  rcases ha with rfl | rfl
  ·exact p1
  ·exact p2) (Nat.le_refl _) (by simp) [s] hsc ho.okD (by simp) ho.prod htab
theorem bld0 (W : World) (htab : PTab W.heap.size W) :
  Calls Tryz.prog 13 #[.slice none 0 0] W fun e w' => ∃ y : Dv,e = .returned (.tuple #[y.agg,.int .i64 0]) /\ DgN W.heap.size w' y [] [] /\ Below W.heap.size W w' :=
 dbuild_any W.heap.size _ [] (fun _ => xz) W (RowsV.nil none 0 (Nat.zero_le _) (fun _ => rfl)) (fun i a ha => by cases ha) (fun a ha => by cases ha) (fun a ha => by cases ha) (Nat.le_refl _) (by simp) [] dl_sd (fun s hs => by cases hs) (by simp) (by decide) htab
theorem parts_small : (lessG 60).parts <= 2 ^ 20 /\ nlessG.parts <= 2 ^ 20 /\ aboveG.parts <= 2 ^ 20 /\ (lessG 65).parts <= 2 ^ 20:=by
 refine ⟨?_,?_,?_,?_⟩ <;> simp [lessG,nlessG,aboveG,agnG,conV,Gx.parts,partsL]
theorem vo_one {base : Nat} {w : World} {v : Value} {q : Vq} {us : List Value} {F : Nat -> Prop} (h : VO base w v [q] us F) : ∃ (b o c : Nat) (z : Vv),v = .slice (some ⟨b,o,none⟩) 1 c /\ w.rangeAt b o z.cells.toList /\ VlX w.heap.size w q z /\ b < w.heap.size:=by
 have hl:=h.len
 match us,hl with
 | [u],_ =>
  obtain ⟨z,rfl,hz⟩:=h.get (i:=0) (a:=q) (u:=u) rfl rfl
  obtain ⟨b,o,cap,he,_,_,hb,hc⟩:=RowsV.pos h.rows (by simp)
  refine ⟨b,o,cap,z,he,?_,hz,hb⟩
  intro j x hj
  have hj6 : j < 6:=(List.getElem?_eq_some_iff.1 hj).1
  have := hc 0 (by simp) j hj6
  rw [Nat.zero_mul,Nat.zero_add] at this
  rw [this]
  show some (((([z.agg.cells.toList] : List (List Value))[0]?.getD [])[j]?).getD undef) = some x
  rw [vv_agg_cells]
  simp only [List.getElem?_cons_zero,Option.getD_some,hj]
section
variable {P : Program} {ops : Array Oper} {Q : Exit -> Act -> World -> Prop} {md : Region.Mode} {S : World -> Prop} {D : List Nat}
theorem wpAnyD_takeX {i : Nat} {oi : Oper} {v : Value} {fuel : Nat} {listed : Array Bool} {a : Act} {w : World} (d : Option Tmp) (hi : ops[i]? = some oi) (hd : oi.dst = d)
  (hs : Region.noSelect ops = true) (hf : Region.free md ops listed i = true) (hr : (Region.ready md ops listed).contains i = true) (hm : marksWait md ops D i = true) (ho : marksOpen D listed = true)
  (hQ : ∀ c a w,Q (.panic c) (a.put d v) w -> Q (.panic c) a w) (hy : YieldsIf P ops S oi v a) (hS : S w)
  (h : wpAnyD P md ops Q S D fuel (listed.setIfInBounds i true) (a.put d v) w) : wpAnyD P md ops Q S D (fuel + 1) listed a w:=by
 subst hd
 exact wpAnyD_take hi hs hf hr hm ho hQ hy hS h
end
section
variable {P : Program} {ops : Array Oper} {Q : Exit -> Act -> World -> Prop} {md : Region.Mode} {S : World -> Prop} {D : List Nat}
theorem wpAnyD_tkX {i : Nat} {oi : Oper} {v : Value} {fuel : Nat} {listed : Array Bool} {a : Act} {w : World} (d : Option Tmp) (hi : ops[i]? = some oi) (hd : oi.dst = d) (hy : YieldsIf P ops S oi v a) (hS : S w)
  (h : wpAnyD P md ops Q S D fuel (listed.setIfInBounds i true) (a.put d v) w) (hs : Region.noSelect ops = true:=by kernel_rfl) (hf : Region.free md ops listed i = true:=by kernel_rfl) (hr : (Region.ready md ops listed).contains i = true:=by kernel_rfl) (hm : marksWait md ops D i = true:=by kernel_rfl) (ho : marksOpen D listed = true:=by kernel_rfl) (hQ : ∀ c a w,Q (.panic c) (a.put d v) w -> Q (.panic c) a w:=by exact fun _ _ _ h => h) : wpAnyD P md ops Q S D (fuel + 1) listed a w:=wpAnyD_takeX d hi hd hs hf hr hm ho hQ hy hS h
theorem wpAnyD_tpX {i : Nat} {oi : Oper} {v : Value} {fuel : Nat} {listed : Array Bool} {a : Act} {w : World} (d : Option Tmp) (hi : ops[i]? = some oi) (hd : oi.dst = d) (hS : S w)
  (h : wpAnyD P md ops Q S D fuel (listed.setIfInBounds i true) (a.put d v) w) (hs : Region.noSelect ops = true:=by kernel_rfl) (hf : Region.free md ops listed i = true:=by kernel_rfl) (hr : (Region.ready md ops listed).contains i = true:=by kernel_rfl) (hm : marksWait md ops D i = true:=by kernel_rfl) (ho : marksOpen D listed = true:=by kernel_rfl) (hy : YieldsIf P ops S oi v a:=by exact .inl ⟨by kernel_rfl,fun W' hS => by go_simp⟩) (hQ : ∀ c a w,Q (.panic c) (a.put d v) w -> Q (.panic c) a w:=by exact fun _ _ _ h => h) : wpAnyD P md ops Q S D (fuel + 1) listed a w:=wpAnyD_takeX d hi hd hs hf hr hm ho hQ hy hS h
end
end Go.Proofs.YtlidpghnlloinaaGreatDoor
