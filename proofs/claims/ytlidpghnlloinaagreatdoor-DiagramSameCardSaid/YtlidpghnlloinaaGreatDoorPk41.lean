/- Contracts and plain laws, several texts in one (DlSm). No conditions beyond those stated. -/
import Derived.Deep.CutBlock
import Derived.Deep.LoopGhost
import Derived.Test.YtlidpghnlloinaaGreatDoorPk32
import Derived.Test.YtlidpghnlloinaaGreatDoorPk36
import Derived.Test.YtlidpghnlloinaaGreatDoorPk40
set_option maxRecDepth 100000
set_option maxHeartbeats 40000000
namespace Go.Proofs.YtlidpghnlloinaaGreatDoor
open Go.RowKit
set_option linter.unusedVariables false
theorem dlsm_any (haw : AwOk) (K : Nat) (m : List Nat) (mv : Value) (n : List Nat) (nv : Value) (wy : Int) (w : World) (hm : U8s K w mv m) (hxm : ∀ y ∈ m,y < 256) (hn : U8s K w nv n) (hxn : ∀ y ∈ n,y < 256) (hway : 0 <= wy /\ wy <= 255) (hK : K <= w.heap.size) (htab : PTab K w) :
  Calls Tryz.prog 7 #[mv,nv,.int .u8 wy] w fun e w' => e = .returned (.bool true) /\ Below w.heap.size w w':=by
 obtain ⟨B,hB⟩ : ∃ B,w.heap.size = B:=⟨_,rfl⟩
 have HB:=Lib.hid hB
 have hf:=dlfits_any K m mv n nv w hm hxm hn hxn hK
 rw [hB] at hK hf ⊢
 obtain ⟨ft,hft⟩ : ∃ f,fitP m n = f:=⟨_,rfl⟩
 rw [hft] at hf
 have hmv : ∃ a k c,mv = .slice a k c:=by obtain ⟨a,c,h,_⟩:=id (RowsV.form hm); exact ⟨a,_,c,h⟩
 have hnv : ∃ a k c,nv = .slice a k c:=by obtain ⟨a,c,h,_⟩:=id (RowsV.form hn); exact ⟨a,_,c,h⟩
 obtain ⟨ma,mk,mc,rfl⟩:=hmv
 obtain ⟨na,nk,nc,rfl⟩:=hnv
 have HF:=Lib.hid hf
 have HM:=Lib.hid hm
 have HN:=Lib.hid hn
 have HXM:=Lib.hid hxm
 have HXN:=Lib.hid hxn
 have HTAB:=Lib.hid htab
 have HAW:=Lib.hid haw
 clear hB hm hn hxm hxn hf htab haw
 go_enter Tryz.func7,Tryz.ntmps7
 go_wp2_with fail
 refine HF.out.mono ?_
 clear HF
 rintro e w2 ⟨rfl,b2⟩
 have hs2 : B <= w2.heap.size:=by have := b2.size; have := HB.out; omega
 cases ft with
 | false =>
  have ha:=HAW.out B w2 hs2 ((HTAB.out.on (b2.mono hK)).up hK)
  have HA:=Lib.hid ha
  have HB2:=Lib.hid b2
  clear ha b2
  go_wp2_with fail
  refine HA.out.mono ?_
  rintro e wf ⟨rfl,hbf⟩
  have bf:=HB2.out.trans (hbf.mono hs2)
  clear hbf HA
  go_wp2_with fail
  go_ret
  exact ⟨rfl,bf⟩
 | true =>
  have hc:=dlconds_any K m (.slice ma mk mc) n (.slice na nk nc) w2 (HM.out.below b2 hK (Nat.le_refl K)) HXM.out (HN.out.below b2 hK (Nat.le_refl K)) HXN.out (by omega) hft (HTAB.out.on (b2.mono hK))
  have HC:=Lib.hid hc
  have HFT:=Lib.hid hft
  have HB2:=Lib.hid b2
  clear hc hft b2
  go_wp2_with fail
  refine HC.out.mono ?_
  clear HC
  rintro e w3 ⟨b,X,Y,y,rfl,hb,hq,hX,hY,hdg,hb3⟩
  obtain ⟨ls,hls,hsc,hLM,hLF,hHas⟩:=@pr_scs m n
  obtain ⟨l1,l2,l3⟩:=hdg.lens
  obtain ⟨⟨sa,sn,sm⟩,⟨da,dn,dm⟩,⟨fa,fn,fm⟩,rr⟩:=y
  dsimp only [Dv.agg,Dv.cells,Sl.val] at l1 l2 l3 hdg ⊢
  have hs3:=hb3.size
  obtain ⟨D,hD⟩ : ∃ D,w3.heap.size = D:=⟨_,rfl⟩
  obtain ⟨W4,hW4⟩ : ∃ W,w3.alloc (.cells #[.slice sa sn sm,.slice da dn dm,.slice fa fn fm,.int .i64 rr] 29) = W:=⟨_,rfl⟩
  have b4 : Below D w3 W4:=by rw [<- hW4,<- hD]; exact (Below.refl _ _).alloc (Nat.le_refl _) _
  have q4 : Blk W4 D #[.slice sa sn sm,.slice da dn dm,.slice fa fn fm,.int .i64 rr] 29:=by rw [<- hW4,<- hD]; exact Blk.new w3 _ _
  have s4 : W4.heap.size = D + 1:=by rw [<- hW4,<- hD]; simp
  have h1c : ∀ u ∈ (#[.slice sa sn sm,.slice da dn dm,.slice fa fn fm,.int .i64 rr] : Array Value),u.oneCell' = true:=by simp [Value.oneCell']
  have H1C:=Lib.hid h1c
  have HD:=Lib.hid hD
  have HW4:=Lib.hid hW4
  have hdv:=pr_dgv HFT.out
  have hdo:=dec_dg m n
  obtain ⟨st,hst⟩ : ∃ st,(prT m n).2 = st:=⟨_,rfl⟩
  obtain ⟨rt,hrt⟩ : ∃ rt,(prT m n).1 = rt:=⟨_,rfl⟩
  rw [hst,hrt,hls] at hdg hdv hdo
  rw [hst] at l2 l3
  have HL2:=Lib.hid l2
  have HL3:=Lib.hid l3
  have HST:=Lib.hid (And.intro hst hrt)
  have HLS:=Lib.hid hls
  rw [hls] at l1
  rw [hD] at hdg hX hY hs3
  have qb : b < D:=by have := hq.lt; omega
  have HDG:=Lib.hid (hdg.below b4 (Nat.le_refl _) (Nat.le_refl D))
  have HX4:=Lib.hid (hX.below b4 (Nat.le_refl _) (Nat.le_refl D))
  have HY4:=Lib.hid (hY.below b4 (Nat.le_refl _) (Nat.le_refl D))
  have HQ4:=Lib.hid q4
  have HQB:=Lib.hid (hq.below b4 qb)
  have S4:=Lib.hid s4
  have hB4 : B <= D:=by omega
  have HB24 : Hid (Below B w W4):=Lib.hid (HB2.out.trans ((hb3.mono (by omega)).trans (b4.mono hB4)))
  have HDV:=Lib.hid hdv
  have HDO:=Lib.hid hdo
  have HLM:=Lib.hid hLM
  have HLF:=Lib.hid hLF
  have HHAS:=Lib.hid hHas
  have HSC:=Lib.hid hsc
  obtain ⟨ln,hln⟩ : ∃ k,ls.length = k:=⟨_,rfl⟩
  have HLN:=Lib.hid hln
  rw [hln] at l1
  subst l1
  have hDW : D < W4.heap.size:=by omega
  clear hln hb hq hX hY hdg hb3 hls hsc hLM hLF hHas l2 l3 hD hW4 b4 q4 s4 h1c hdv hdo hst hrt HB2
  go_upto_region 4 with (refine wpList_store_new rfl 29 (.tmp 8) (.tmp 36) rfl #[.slice sa sn sm,.slice da dn dm,.slice fa fn fm,.int .i64 rr] _ infoDiagN rfl H1C.out w3.heap.size rfl rfl rfl ?_)
  simp only [HD.out]
  rw [HW4.out]
  clear HD HW4 H1C
  have hrgX : W4.rangeAt b 0 X.cells.toList:=blk_fst HQB.out
  have h1cX : ∀ u ∈ X.cells,u.oneCell' = true:=by simp [Value.oneCell']
  have H1CX:=Lib.hid h1cX
  obtain ⟨k,hki⟩ : ∃ k : Nat,wy % 4 = (k : Int):=⟨(wy % 4).toNat,by omega⟩
  have hk4 : k < 4:=by omega
  obtain ⟨W6,hW6⟩ : ∃ W,(W4.alloc (.cells X.cells 49)).alloc (.cells xz.cells 49) = W:=⟨_,rfl⟩
  have b46 : Below W4.heap.size W4 W6:=by rw [<- hW6]; exact ((Below.refl _ _).alloc (Nat.le_refl _) _).alloc (by simp) _
  have qa6 : Blk W6 (D + 1) X.cells 49:=by
   have := (Blk.new W4 X.cells 49).alloc (.cells xz.cells 49)
   rwa [hW6,S4.out] at this
  have qb6 : Blk W6 (D + 2) xz.cells 49:=by
   have := Blk.new (W4.alloc (.cells X.cells 49)) xz.cells 49
   rwa [hW6,World.size_alloc,S4.out] at this
  have s6 : W6.heap.size = D + 3:=by rw [<- hW6]; simp [S4.out]
  have HW6:=Lib.hid hW6
  have HB46:=Lib.hid b46
  have HQA6:=Lib.hid qa6
  have HQB6:=Lib.hid qb6
  have S6:=Lib.hid s6
  dsimp only [xz,Xv.cells] at HW6
  have HSAME:=Lib.hid (sm_same (m:=m) (n:=n) k HLS.out HLM.out HLF.out HHAS.out)
  have HP300 : Hid (prodL (pcs ls) <= 300):=Lib.hid (by rw [<- HLS.out]; exact prod_300 HFT.out)
  clear hW6 h1cX b46 qa6 qb6 s6
  go_upto_block 0 with (first
   | (refine wpList_load_mid rfl 49 (.tmp 41) rfl b 0 rfl X.cells.toList _ hrgX Tryz.underlying49 rfl infoExN ?_)
   | (refine wpList_store_new rfl 49 (.tmp 10) (.tmp 42) rfl X.cells _ infoExN rfl H1CX.out W4.heap.size rfl rfl rfl ?_))
  simp only [S4.out,Nat.add_assoc,Nat.reduceAdd]
  rw [HW6.out]
  go_cut [44] from 45 to 68 (fun _ wc => ∃ XB : Xv,Blk wc (D + 2) XB.cells 49 /\ ExG wc.heap.size wc (smB k (cmA m)) XB /\ Below (D + 2) W6 wc /\ D + 3 <= wc.heap.size)
  case first =>
   have hrgA : W6.rangeAt (D + 1) 0 X.cells.toList:=HQA6.out.range
   rcases (show k = 0 \/ k = 1 \/ k = 2 \/ k = 3 by omega) with rfl | rfl | rfl | rfl
   ·obtain ⟨W8,hW8⟩ : ∃ W,(W6.alloc (.cells X.cells 49)).alloc (.cells (opX 17 ⟨some ⟨W6.heap.size,0,none⟩,1,1⟩).cells 49) = W:=⟨_,rfl⟩
    have b68 : Below W6.heap.size W6 W8:=by rw [<- hW8]; exact ((Below.refl _ _).alloc (Nat.le_refl _) _).alloc (by simp) _
    have qb8 : Blk W8 (D + 2) xz.cells 49:=HQB6.out.below b68 (by rw [S6.out]; omega)
    have q8 : Blk W8 W6.heap.size X.cells 49:=by rw [<- hW8]; exact (Blk.new W6 _ _).alloc _
    have q9 : Blk W8 (W6.heap.size + 1) (opX 17 ⟨some ⟨W6.heap.size,0,none⟩,1,1⟩).cells 49:=by
     have := Blk.new (W6.alloc (.cells X.cells 49)) (opX 17 ⟨some ⟨W6.heap.size,0,none⟩,1,1⟩).cells 49
     rwa [hW8,World.size_alloc] at this
    have h1o : ∀ u ∈ (opX 17 ⟨some ⟨W6.heap.size + 1,0,none⟩,1,1⟩).cells,u.oneCell' = true:=by simp [Value.oneCell',opX]
    have HW8:=Lib.hid hW8
    dsimp only [cells2,cells3,opX,Xv.cells,Sl.val] at HW8
    clear hW8
    go_wp2_with (first
     | (refine wpList_load_mid rfl 49 (.tmp 10) rfl (D + 1) 0 rfl X.cells.toList _ hrgA Tryz.underlying49 rfl infoExN ?_)
     | (rw [HW8.out]; refine wpList_store_blk rfl 49 49 (.tmp 11) (.tmp 56) rfl (opX 17 ⟨some ⟨W6.heap.size + 1,0,none⟩,1,1⟩).cells _ (D + 2) qb8 infoExN rfl h1o rfl rfl ?_; intro W9 t1 t2 t3 t4))
    have b89:=t2 (D + 2) (Nat.le_refl _)
    have hs8:=b68.size
    have hs9:=b89.size
    have hs6:=S6.out
    have b69 : Below (D + 2) W6 W9:=(b68.mono (by omega)).trans b89
    have hX9 : ExG W9.heap.size W9 (cmA m) X:=(HX4.out.below ((HB46.out.mono (show D <= W4.heap.size by omega)).trans (b69.mono (by omega))) (Nat.le_refl _) (by omega))
    have q8':=q8.kept t3 (by simp; omega)
    have q9q:=q9.kept t3 (by simp; omega)
    go_meet
    exact ⟨opX 17 ⟨some ⟨W6.heap.size + 1,0,none⟩,1,1⟩,t1,exg_one q9q q9q.lt (exg_one q8' q8'.lt hX9 (by simp [maxLen])) (by simp [maxLen]),b69,by omega⟩
   ·obtain ⟨W8,hW8⟩ : ∃ W,W6.alloc (.cells (cells2 X X) 49) = W:=⟨_,rfl⟩
    have b68 : Below W6.heap.size W6 W8:=by rw [<- hW8]; exact (Below.refl _ _).alloc (Nat.le_refl _) _
    have qb8 : Blk W8 (D + 2) xz.cells 49:=HQB6.out.below b68 (by rw [S6.out]; omega)
    have q8 : Blk W8 W6.heap.size (cells2 X X) 49:=by rw [<- hW8]; exact Blk.new W6 _ _
    have h1o : ∀ u ∈ (opX 15 ⟨some ⟨W6.heap.size,0,none⟩,2,2⟩).cells,u.oneCell' = true:=by simp [Value.oneCell',opX]
    have HW8:=Lib.hid hW8
    dsimp only [cells2,cells3,opX,Xv.cells,Sl.val] at HW8
    clear hW8
    go_wp2_with (first
     | (refine wpList_load_mid rfl 49 (.tmp 10) rfl (D + 1) 0 rfl X.cells.toList _ hrgA Tryz.underlying49 rfl infoExN ?_)
     | (rw [HW8.out]; refine wpList_store_blk rfl 49 49 (.tmp 11) (.tmp 62) rfl (opX 15 ⟨some ⟨W6.heap.size,0,none⟩,2,2⟩).cells _ (D + 2) qb8 infoExN rfl h1o rfl rfl ?_; intro W9 t1 t2 t3 t4))
    have b89:=t2 (D + 2) (Nat.le_refl _)
    have hs8:=b68.size
    have hs9:=b89.size
    have hs6:=S6.out
    have b69 : Below (D + 2) W6 W9:=(b68.mono (by omega)).trans b89
    have hX9 : ExG W9.heap.size W9 (cmA m) X:=(HX4.out.below ((HB46.out.mono (show D <= W4.heap.size by omega)).trans (b69.mono (by omega))) (Nat.le_refl _) (by omega))
    have q8':=q8.kept t3 (by simp; omega)
    go_meet
    exact ⟨opX 15 ⟨some ⟨W6.heap.size,0,none⟩,2,2⟩,t1,exg_two q8' q8'.lt hX9 hX9 rfl,b69,by omega⟩
   ·obtain ⟨W8,hW8⟩ : ∃ W,W6.alloc (.cells (cells2 X X) 49) = W:=⟨_,rfl⟩
    have b68 : Below W6.heap.size W6 W8:=by rw [<- hW8]; exact (Below.refl _ _).alloc (Nat.le_refl _) _
    have qb8 : Blk W8 (D + 2) xz.cells 49:=HQB6.out.below b68 (by rw [S6.out]; omega)
    have q8 : Blk W8 W6.heap.size (cells2 X X) 49:=by rw [<- hW8]; exact Blk.new W6 _ _
    have h1o : ∀ u ∈ (opX 16 ⟨some ⟨W6.heap.size,0,none⟩,2,2⟩).cells,u.oneCell' = true:=by simp [Value.oneCell',opX]
    have HW8:=Lib.hid hW8
    dsimp only [cells2,cells3,opX,Xv.cells,Sl.val] at HW8
    clear hW8
    go_wp2_with (first
     | (refine wpList_load_mid rfl 49 (.tmp 10) rfl (D + 1) 0 rfl X.cells.toList _ hrgA Tryz.underlying49 rfl infoExN ?_)
     | (rw [HW8.out]; refine wpList_store_blk rfl 49 49 (.tmp 11) (.tmp 68) rfl (opX 16 ⟨some ⟨W6.heap.size,0,none⟩,2,2⟩).cells _ (D + 2) qb8 infoExN rfl h1o rfl rfl ?_; intro W9 t1 t2 t3 t4))
    have b89:=t2 (D + 2) (Nat.le_refl _)
    have hs8:=b68.size
    have hs9:=b89.size
    have hs6:=S6.out
    have b69 : Below (D + 2) W6 W9:=(b68.mono (by omega)).trans b89
    have hX9 : ExG W9.heap.size W9 (cmA m) X:=(HX4.out.below ((HB46.out.mono (show D <= W4.heap.size by omega)).trans (b69.mono (by omega))) (Nat.le_refl _) (by omega))
    have q8':=q8.kept t3 (by simp; omega)
    go_meet
    exact ⟨opX 16 ⟨some ⟨W6.heap.size,0,none⟩,2,2⟩,t1,exg_two q8' q8'.lt hX9 hX9 rfl,b69,by omega⟩
   ·obtain ⟨W8,hW8⟩ : ∃ W,W6.alloc (.cells (cells3 X X X) 49) = W:=⟨_,rfl⟩
    have b68 : Below W6.heap.size W6 W8:=by rw [<- hW8]; exact (Below.refl _ _).alloc (Nat.le_refl _) _
    have qb8 : Blk W8 (D + 2) xz.cells 49:=HQB6.out.below b68 (by rw [S6.out]; omega)
    have q8 : Blk W8 W6.heap.size (cells3 X X X) 49:=by rw [<- hW8]; exact Blk.new W6 _ _
    have h1o : ∀ u ∈ (opX 18 ⟨some ⟨W6.heap.size,0,none⟩,3,3⟩).cells,u.oneCell' = true:=by simp [Value.oneCell',opX]
    have HW8:=Lib.hid hW8
    dsimp only [cells2,cells3,opX,Xv.cells,Sl.val] at HW8
    clear hW8
    go_wp2_with (first
     | (refine wpList_load_mid rfl 49 (.tmp 10) rfl (D + 1) 0 rfl X.cells.toList _ hrgA Tryz.underlying49 rfl infoExN ?_)
     | (rw [HW8.out]; refine wpList_store_blk rfl 49 49 (.tmp 11) (.tmp 49) rfl (opX 18 ⟨some ⟨W6.heap.size,0,none⟩,3,3⟩).cells _ (D + 2) qb8 infoExN rfl h1o rfl rfl ?_; intro W9 t1 t2 t3 t4))
    have b89:=t2 (D + 2) (Nat.le_refl _)
    have hs8:=b68.size
    have hs9:=b89.size
    have hs6:=S6.out
    have b69 : Below (D + 2) W6 W9:=(b68.mono (by omega)).trans b89
    have hX9 : ExG W9.heap.size W9 (cmA m) X:=(HX4.out.below ((HB46.out.mono (show D <= W4.heap.size by omega)).trans (b69.mono (by omega))) (Nat.le_refl _) (by omega))
    have q8':=q8.kept t3 (by simp; omega)
    go_meet
    exact ⟨opX 18 ⟨some ⟨W6.heap.size,0,none⟩,3,3⟩,t1,exg_three q8' q8'.lt hX9 hX9 hX9,b69,by omega⟩
  case rest =>
  obtain ⟨XB,hqb,hxb,hb6c,hsc7⟩:=hcut
  obtain ⟨W7,hW7⟩ : ∃ W7,W7 = wc:=⟨_,rfl⟩
  rw [<- hW7] at hqb hxb hb6c hsc7 ⊢
  clear hW7
  have b4W7 : Below W4.heap.size W4 W7:=HB46.out.trans (hb6c.mono (by have := S4.out; omega))
  have HQXB:=Lib.hid hqb
  have HXB:=Lib.hid hxb
  clear hqb hxb hb6c HW6 HB46 HQA6 HQB6 S6 hrgX
  go_upto_region 16 with fail
  have qS : (fun W' => Below W7.heap.size W7 W') W7.drew:=below_quiet (Below.refl _ _)
  have HRX : Hid (∀ W',Below W7.heap.size W7 W' -> Blk W' b (cells2 X Y) 49):=Lib.hid fun W' hb => (HQB.out.below b4W7 HQB.out.lt).below hb (HQB.out.below b4W7 HQB.out.lt).lt
  have HRB : Hid (∀ W',Below W7.heap.size W7 W' -> Blk W' (D + 2) XB.cells 49):=Lib.hid fun W' hb => HQXB.out.below hb HQXB.out.lt
  have HRE : Hid (∀ W',Below W7.heap.size W7 W' -> ExG W'.heap.size W' (smB k (cmA m)) XB):=Lib.hid fun W' hb => HXB.out.below hb (Nat.le_refl _) hb.size
  have HRY : Hid (∀ W',Below W7.heap.size W7 W' -> ExG W'.heap.size W' (cmA n) Y):=Lib.hid fun W' hb => (HY4.out.below b4W7 (by have := S4.out; omega) (Nat.le_refl D)).below (Below.refl W7.heap.size W7) (by have := b4W7.size; omega) (show D <= W7.heap.size by have := b4W7.size; omega) |>.below hb (Nat.le_refl _) hb.size
  refine region_plain (fun W' => Below W7.heap.size W7 W') [] (by kernel_rfl) ?_
  refine wpAnyD_tkX (i:=0) (v:=XB.agg) (some 70) rfl rfl (yieldsIf_load_mid (by kernel_rfl) 49 (.tmp 11) rfl (D + 2) 0 (by first | rfl | go_simp) XB.cells.toList _ (fun W' hS => (HRB.out W' hS).range) Tryz.underlying49 rfl infoExN) qS ?_
  refine wpAnyD_tpX (i:=1) (v:=.slice (some ⟨b,0,none⟩) 2 2) (some 71) rfl rfl qS ?_
  refine wpAnyD_tpX (i:=2) (v:=.pointer (some ⟨b,9,none⟩)) (some 72) rfl rfl qS ?_
  refine wpAnyD_tkX (i:=3) (v:=Y.agg) (some 73) rfl rfl (yieldsIf_load_mid (by kernel_rfl) 49 (.tmp 72) rfl b 9 (by first | rfl | go_simp) Y.cells.toList _ (fun W' hS => blk_snd (HRX.out W' hS)) Tryz.underlying49 rfl infoExN) qS ?_
  go_simp
  refine wpAnyD_chain2X (c1:=4) (c2:=5) (i:=9) (L0:=?L0) (L1:=?L1) (A:=?A) (some 74) (some 75) (some 12) 3 29 #[.slice none 0 0,.slice none 0 0,.slice none 0 0,.int .i64 0]
   (fun _ W => Below W7.heap.size W7 W)
   (fun v _ W => Below W7.heap.size W7 W /\ ∃ c : Nat,v = .slice (some ⟨c,0,none⟩) 2 2 /\ Blk W c (cells2 XB Y) 49)
   (fun v v'' Fp W => Below W7.heap.size W7 W /\ ∃ (y : Dv) (L : Nat) (V : World),v'' = .tuple #[y.agg,.int .i64 0] /\ DgN L V y ls [smB k (cmA m),cmA n] /\ NewW L V W /\ ∀ b,L <= b -> b < V.heap.size -> Fp b)
   (by kernel_rfl) (by kernel_rfl) (by kernel_rfl) (by kernel_rfl) ?hrn ?hL rfl rfl (fun _ => rfl) (by decide) rfl rfl (fun _ => rfl) (by decide) (fun W W' h1 h2 => h1.trans (h2.mono h1.size)) qS rfl rfl (fun _ => rfl) (fun a W KK hK => by go_simp; exact hK) (fun _ W W' h1 h2 => h1.trans (h2.mono h1.size)) ?st1 ?st2 ?step1 ?step2 ?htk0 ?htk1 ?hA qS ?h
  case htk0 | htk1 =>
   intro v2 v p Fp W' hF hS H
   refine wpAnyD_tpX (i:=6) (v:=v) (some 69) rfl rfl hS ?_
   refine wpAnyD_tkX (i:=7) (v:=tupA v 0) (some 76) rfl rfl (.inl ⟨by kernel_rfl,fun W' hS => by obtain ⟨_,y,L,V,rfl,_⟩:=hF; go_simp <;> rfl⟩) hS ?_
   refine wpAnyD_tkX (i:=8) (v:=tupA v 1) (some 77) rfl rfl (.inl ⟨by kernel_rfl,fun W' hS => by obtain ⟨_,y,L,V,rfl,_⟩:=hF; go_simp <;> rfl⟩) hS ?_
   exact H
  case hrn => kernel_rfl
  case hL => rfl
  case hA => intro v2 v p q; exact put_over (by decide) (put_over (by decide) (put_over (by decide) (put_over (by decide) (put_over (by decide) (put_twice _ _ _ _)))))
  case st1 =>
   rintro v Fp W W' ⟨h1,c,rfl,h2⟩ hb
   exact ⟨h1.trans (hb.mono h1.size),c,rfl,h2.below hb h2.lt⟩
  case st2 =>
   rintro v v'' Fp W W' ⟨h1,y,L,V,rfl,h3,h4,h5⟩ hb
   exact ⟨h1.trans (hb.mono h1.size),y,L,V,rfl,h3,h4.trans (NewW.of hb),h5⟩
  case step1 =>
   rintro Fp W p hF KK hKK
   have hb : Below W.heap.size W (W.alloc (.cells (cells2 XB Y) 49)):=(Below.refl _ _).alloc (Nat.le_refl _) _
   have hk:=hKK (.slice (some ⟨W.heap.size,0,none⟩) 2 2) (fun _ => False) (W.alloc (.cells (cells2 XB Y) 49)) ⟨hF.trans (hb.mono hF.size),W.heap.size,rfl,Blk.new W _ _⟩ (fun _ h => h.elim) hb
   clear hKK hb
   go_simp
   exact hk
  case step2 =>
   rintro v1 Fp W p ⟨hF,c,rfl,hq⟩ KK hKK
   have hxx:=HRE.out W hF
   have hyy:=HRY.out W hF
   have hcall:=dbuild_any W.heap.size (.slice (some ⟨c,0,none⟩) 2 2) [smB k (cmA m),cmA n] (g2x XB Y) W (rows_ex2 hq hq.lt) (fun i a ha => by
    rcases i with _ | _ | i
    ·cases ha; exact hxx
    ·cases ha; exact hyy
    ·cases ha) (fun a ha => by
    simp only [List.mem_cons,List.not_mem_nil,or_false] at ha
    rcases ha with rfl | rfl
    ·exact md_good (smB_md k m).1
    ·exact md_good (cmA_md n).1) (fun a ha => by
    simp only [List.mem_cons,List.not_mem_nil,or_false] at ha
    rcases ha with rfl | rfl
    ·exact smB_parts k m
    ·exact (cm_parts n).1) (Nat.le_refl _) (by simp) ls HSAME.out.1 (sc_okD HLM.out HLF.out) (by have := LM.len HLM.out; omega) (by have := HP300.out; omega) ((HTAB.out.on ((HB24.out.trans ((b4W7.trans (hF.mono b4W7.size)).mono (by have := S4.out; omega))).mono hK)).up (by have := b4W7.size; have := hF.size; have := S4.out; omega))
   have HCALL:=Lib.hid hcall
   clear hcall hxx hyy hq
   go_simp
   refine HCALL.out.mono ?_
   rintro en w' ⟨y,rfl,hdg,hb⟩
   exact hKK _ (Btw W.heap.size w'.heap.size) w' ⟨hF.trans (hb.mono hF.size),y,W.heap.size,w',rfl,hdg,NewW.refl _ _,fun b h1 h2 => ⟨h1,h2⟩⟩ (fun _ h => .inr h) hb
  case h =>
   rintro v1 v2 Fp kk W' ⟨hB,⟨⟨ga,gn,gm⟩,⟨ga2,gn2,gm2⟩,⟨ga3,gn3,gm3⟩,gr⟩,L,V,rfl,hdg,hnw,hFp⟩ hnk _ hq hk hbk
   have h1c : ∀ u ∈ (#[.slice ga gn gm,.slice ga2 gn2 gm2,.slice ga3 gn3 gm3,.int .i64 gr] : Array Value),u.oneCell' = true:=by simp [Value.oneCell']
   have H1C:=Lib.hid h1c
   have hkr : kk < L \/ V.heap.size <= kk:=by
    by_cases h1 : kk < L
    ·exact .inl h1
    ·by_cases h2 : kk < V.heap.size
     ·exact absurd (hFp kk (by omega) h2) hnk
     ·exact .inr (by omega)
   have HDV2:=Lib.hid (And.intro hdg (And.intro hnw hkr))
   have HQK:=Lib.hid hq
   have HKW:=Lib.hid hk
   clear h1c hdg hnw hFp hnk hq hkr hbk hk
   go_simp
   refine wpAnyD_one (i:=10) (by kernel_rfl) rfl (by kernel_rfl) ?_
   refine wp_store_blkD 29 29 (.tmp 12) (.tmp 76) rfl #[.slice ga gn gm,.slice ga2 gn2 gm2,.slice ga3 gn3 gm3,.int .i64 gr] _ kk HQK.out infoDiagN rfl H1C.out rfl rfl ?_
   intro W8 t1 t2 t3 t4
   have bW8 : Below W7.heap.size W7 W8:=hB.trans (t2 _ HKW.out)
   refine ⟨fun _ => bW8,?_⟩
   refine wpAnyD_tkX (i:=11) (v:=.int .i64 0) (some 13) rfl rfl (.inl ⟨by kernel_rfl,fun W' hS => by go_simp <;> rfl⟩) bW8 ?_
   refine wpAnyD_done (by kernel_rfl) ?_ _
   obtain ⟨hdg,hnw,hkr⟩:=HDV2.out
   have hnw2:=hnw.puts t3 hkr
   have hdgS : ∀ W,NewW L W8 W -> DgX W.heap.size W ⟨⟨ga,gn,gm⟩,⟨ga2,gn2,gm2⟩,⟨ga3,gn3,gm3⟩,gr⟩ ls st rt:=fun W hw => by
    have h0:=hdg W (hnw2.trans hw)
    rw [HSAME.out.2.1,HSAME.out.2.2,HST.out.1,HST.out.2] at h0
    exact h0
   have HDGS:=Lib.hid hdgS
   have HQg:=Lib.hid t1
   have hlens:=(hdgS W8 (NewW.refl _ _)).lens
   dsimp only at hlens
   obtain ⟨g1,g2,g3⟩:=hlens
   have hgk : kk < W8.heap.size:=t1.lt
   have b4W8 : Below W4.heap.size W4 W8:=b4W7.trans (bW8.mono b4W7.size)
   obtain rfl : gn = sn:=by have := HLN.out; omega
   obtain rfl : gn2 = dn:=by have := HL2.out; omega
   obtain rfl : gn3 = fn:=by have := HL3.out; omega
   clear hdg hnw hkr hnw2 hdgS t1 t2 t3 t4 HDV2 HQK HKW H1C hB g1 g2 g3 HRX HRB HRE HRY qS HQXB HXB bW8 b4W7 hsc7
   obtain ⟨c0,c1,c2,c3⟩:=(HQ4.out.below b4W8 hDW).four
   obtain ⟨d0,d1,d2,d3⟩:=HQg.out.four
   have x1 : ((gn2 : Int) != (gn2 : Int)) = false:=by simp
   have x2 : ((gn3 : Int) != (gn3 : Int)) = false:=by simp
   have x3 : ((gn : Int) != (gn : Int)) = false:=by simp
   have hn38 : gn <= 2 ^ 38:=by have := LM.len HLM.out; have := HLN.out; omega
   have hmk1:=make_intssD gn hn38 W8
   have hmk2:=make_intsD gn hn38 (W8.alloc (.cells (arrD gn fun _ => .slice none 0 0) 56))
   obtain ⟨MC,hMC⟩ : ∃ k,W8.heap.size = k:=⟨_,rfl⟩
   obtain ⟨WA,hWA⟩ : ∃ W,(W8.alloc (.cells (arrD gn fun _ => .slice none 0 0) 56)).alloc (.cells (arrD gn fun _ => .int .i64 0) 3) = W:=⟨_,rfl⟩
   have b8A : Below MC W8 WA:=by rw [<- hWA,<- hMC]; exact ((Below.refl _ _).alloc (Nat.le_refl _) _).alloc (by simp) _
   have qc : Blk WA MC (arrD gn fun _ => .slice none 0 0) 56:=by rw [<- hWA,<- hMC]; exact (Blk.new W8 _ _).alloc _
   have qd : Blk WA (MC + 1) (arrD gn fun _ => .int .i64 0) 3:=by
    have := Blk.new (W8.alloc (.cells (arrD gn fun _ => .slice none 0 0) 56)) (arrD gn fun _ => .int .i64 0) 3
    rwa [hWA,World.size_alloc,hMC] at this
   have sA : WA.heap.size = MC + 2:=by rw [<- hWA,<- hMC]; simp
   have HMC:=Lib.hid hMC
   have HWA:=Lib.hid hWA
   have hDM : D < MC:=by rw [<- hMC]; exact Nat.lt_of_lt_of_le hDW b4W8.size
   have hkM : kk < MC:=by rw [<- hMC]; exact hgk
   have hd8 : D < W8.heap.size:=by rw [hMC]; exact hDM
   have HB8A:=Lib.hid b8A
   have HQC:=Lib.hid qc
   have HQD:=Lib.hid qd
   have SA:=Lib.hid sA
   have HB4W8:=Lib.hid b4W8
   clear b8A qc qd sA hWA hMC
   go_simp
   go_upto_region 21 with fail
   simp only [HMC.out]
   rw [HWA.out]
   clear c0 c1 c2 c3 d0 d1 d2 d3 hmk1 hmk2 hd8 hgk x1 x2 x3
   have c0 : WA.cell? ⟨D,0,none⟩ = some (.slice sa gn sm):=((HQ4.out.below b4W8 hDW).below HB8A.out hDM).at rfl
   clear b4W8
   go_wp2_with fail
   go_loopw [118] (fun iv wr => ∃ (i : Nat) (h : Nat -> Value),i <= gn /\ iv = .int .i64 i /\ Hid (CelT MC wr gn h (pcs ls) i) /\ Hid (Blk wr (MC + 1) (arrD gn fun _ => .int .i64 0) 3) /\ Hid (Below MC W8 wr) /\ MC + 2 <= wr.heap.size) (fun iv _ => gn - (intOf iv).toNat)
   case atStart => exact ⟨0,fun _ => .slice none 0 0,Nat.zero_le _,rfl,Lib.hid ⟨HQC.out,fun j p hj => by omega⟩,HQD,HB8A,by rw [SA.out]; exact Nat.le_refl _⟩
   case round =>
    obtain ⟨i,h,hi,rfl,HCT,HQ1,HBR,hso⟩:=hrel
    obtain ⟨wo,rfl⟩ : ∃ wo : World,wo = wr:=⟨_,rfl⟩
    clear c0
    by_cases hlt : i < gn
    ·obtain ⟨gy,hrow,hsx⟩:=HDG.out.s
     rw [HLN.out] at hrow hsx
     obtain ⟨sb,so,cap,he,_,_,hbK,hcc⟩:=hrow.pos (by omega)
     dsimp only [Sl.val] at he
     simp only [Value.slice.injEq,true_and] at he
     obtain ⟨rfl,rfl⟩:=he
     have hil : i < ls.length:=by rw [HLN.out]; exact hlt
     obtain ⟨s,hs⟩ : ∃ s,ls[i]?.getD default = s:=⟨_,rfl⟩
     have hgs : ls[i]? = some s:=by rw [<- hs,List.getElem?_eq_getElem hil]; rfl
     have hsm : s ∈ ls:=List.mem_of_getElem? hgs
     have hx:=hsx i hlt
     rw [hs] at hx
     have b4o : Below D W4 wo:=(HB4W8.out.mono (by have := S4.out; omega)).trans (HBR.out.mono (by omega))
     have hrg:=sv_range (g:=gy) (cells_below b4o (by omega) hcc) hlt
     obtain ⟨y,hy⟩ : ∃ y,gy i = y:=⟨_,rfl⟩
     rw [hy] at hx hrg
     have H1C : Hid (∀ u ∈ y.cells,u.oneCell' = true):=Lib.hid (by simp [Value.oneCell'])
     have HXS:=Lib.hid (hx.below b4o (Nat.le_refl _) (show D <= wo.heap.size by omega))
     have HGS:=Lib.hid (sc_good HLM.out HLF.out s hsm)
     have hPI : (pcs ls)[i]? = some (cellsS s):=by unfold pcs; rw [List.getElem?_map,hgs]; rfl
     have HPI:=Lib.hid hPI
     clear hcc hs hgs hsm hx hy hrow hsx b4o hPI hil
     go_upto_region 24 with (first
      | (refine wpList_load_mid rfl 79 (.tmp 121) rfl sb (so + i * 11) rfl y.cells.toList _ hrg Tryz.underlying79 rfl infoScaleN ?_)
      | (refine wpList_store_new rfl 79 (.tmp 17) (.tmp 122) rfl y.cells _ infoScaleN rfl H1C.out wo.heap.size rfl rfl rfl ?_))
     obtain ⟨T2,hT2⟩ : ∃ T,wo.heap.size = T:=⟨_,rfl⟩
     obtain ⟨W2,hW2⟩ : ∃ W,wo.alloc (.cells y.cells 79) = W:=⟨_,rfl⟩
     have b2 : Below T2 wo W2:=by rw [<- hW2,<- hT2]; exact (Below.refl _ _).alloc (Nat.le_refl _) _
     have q2 : Blk W2 T2 y.cells 79:=by rw [<- hW2,<- hT2]; exact Blk.new wo _ _
     have s2 : W2.heap.size = T2 + 1:=by rw [<- hW2,<- hT2]; simp
     rw [hT2]
     rw [hW2]
     have hce:=gcells_any T2 s y W2 (hT2 ▸ HXS.out.below (hT2 ▸ b2) (Nat.le_refl _) (Nat.le_refl _)) (by omega) HGS.out.1 HGS.out.2
     have HCE:=Lib.hid hce
     have hrg2:=q2.range
     have b2' : Below wo.heap.size wo W2:=by rw [hT2]; exact b2
     have HB2:=Lib.hid b2'
     clear hW2 b2 b2' hce hrg H1C q2
     go_wp2_with (refine wpList_load_mid rfl 79 (.tmp 17) rfl T2 0 rfl y.cells.toList _ hrg2 Tryz.underlying79 rfl infoScaleN ?_)
     refine HCE.out.mono ?_
     rintro en w3 ⟨pv,rfl,hpv,hb3⟩
     have hbo3 : Below wo.heap.size wo w3:=HB2.out.trans (hb3.mono (by omega))
     obtain ⟨pa,pc,hpf,_,_⟩:=hpv.nats.form
     have hpv2 : OwnN wo.heap.size w3 pv (cellsS s):=hpv.mono (by omega)
     rw [hpf] at hpv2 ⊢
     have hcm:=HCT.out.blk.below hbo3 (by omega)
     have m0 : w3.cell? ⟨MC,i,none⟩ = some (h i):=hcm.at (arrD_at h hlt)
     have m1 : w3.frozen? ⟨MC,i,none⟩ = false:=hcm.free i
     have hct2:=HCT.out.put hbo3 hpv2 HPI.out hlt hso
     have HCT2:=Lib.hid hct2
     have hsw : (w3.setCell ⟨MC,i,none⟩ (.slice pa (cellsS s).length pc)).heap.size = w3.heap.size:=by simp [World.setCell]
     have HQ12 : Hid (Blk (w3.setCell ⟨MC,i,none⟩ (.slice pa (cellsS s).length pc)) (MC + 1) (arrD gn fun _ => .int .i64 0) 3):=Lib.hid ((HQ1.out.below hbo3 (by omega)).other (by omega) _)
     have HBR2 : Hid (Below MC W8 (w3.setCell ⟨MC,i,none⟩ (.slice pa (cellsS s).length pc))):=Lib.hid ((HBR.out.trans (hbo3.mono (by omega))).setCell (p:=⟨MC,i,none⟩) (Nat.le_refl _) _)
     have hs3:=hbo3.size
     clear hpf hpv hpv2 hb3 hbo3 hcm hct2 HCE HB2 hrg2 HXS HGS HCT HQ1 HBR
     go_wp2_with fail
     exact ⟨⟨i + 1,_,by omega,by go_num,HCT2,HQ12,HBR2,by rw [hsw]; omega⟩,by simp [intOf]; omega⟩
    ·obtain rfl : gn = i:=by omega
     obtain ⟨P,hP⟩ : ∃ P,pcs ls = P:=⟨_,rfl⟩
     obtain ⟨ns,hns⟩ : ∃ ns,P.map List.length = ns:=⟨_,rfl⟩
     have hPl : P.length = gn:=by rw [<- hP]; unfold pcs; rw [List.length_map]; exact HLN.out
     have hnsl : ns.length = gn:=by rw [<- hns,List.length_map]; exact hPl
     have hpne : ∀ p ∈ P,p.Nodup /\ p ≠ []:=by rw [<- hP]; exact pcs_ok HLM.out HLF.out
     have hD0:=digs_zero ns (fun n hn => by
      rw [<- hns] at hn
      obtain ⟨p,hp,rfl⟩:=List.mem_map.1 hn
      exact List.length_pos_iff.2 (hpne p hp).2)
     obtain ⟨n0,hn0⟩ : ∃ n0,n0 + odV ns (List.replicate ns.length 0) = mulL ns:=⟨mulL ns - odV ns (List.replicate ns.length 0),by have := odV_lt _ _ hD0; omega⟩
     have hPM : ∀ p ∈ P,p.length <= 300:=fun p hp => Nat.le_trans (prodL_mem (fun q hq => (hpne q hq).2) hp) (by rw [<- hP]; exact HP300.out)
     have hev:=HDO.out.ev
     rw [hP] at hev
     have hlv : ∀ cs,CellsIn P cs -> (lfS (prS m n) (prM m n) cs).length <= 2 ^ 40:=fun cs hc => by
      unfold lfS
      refine Nat.le_trans (List.length_filter_le _ _) ?_
      rw [List.length_range]
      show 2 <= 2 ^ 40
      decide
     rw [HLS.out] at hlv
     have hct : ∀ W,wo.grownBy W (some (MC + 1)) -> CelT MC W gn h P gn:=fun W hg => by have := HCT.out.go hg; rwa [hP] at this
     have hq0 : Blk wo (MC + 1) (((List.replicate ns.length 0).map Z).toArray) 3:=by
      have := HQ1.out
      rw [arr_zero,<- hnsl] at this
      exact this
     have HP:=Lib.hid hP
     have HNS:=Lib.hid hns
     have HPL:=Lib.hid hPl
     have HNSL:=Lib.hid hnsl
     have HPM:=Lib.hid hPM
     have HEV:=Lib.hid hev
     have HLV:=Lib.hid hlv
     have HCTG:=Lib.hid hct
     have HQ0:=Lib.hid hq0
     have HN0:=Lib.hid hn0
     have HD0:=Lib.hid hD0
     have hW4M : W4.heap.size <= MC:=by have := HB4W8.out.size; rw [HMC.out] at this; exact this
     clear hP hns hPl hnsl hpne hD0 hn0 hPM hev hlv hct hq0 HCT HQ1 HQC HQD HB8A
     go_wp2_with fail
     go_loopg [18] n0 (fun gq _ wr => ∃ ds : List Nat,Hid (Digs ns ds) /\ Hid (gq + odV ns ds = mulL ns) /\ Hid (Blk wr (MC + 1) ((ds.map Z).toArray) 3) /\ Hid (wo.grownBy wr (some (MC + 1))))
     case atStart => exact ⟨List.replicate ns.length 0,HD0,HN0,HQ0,Lib.hid (World.grownBy.refl _ _)⟩
     case round =>
      obtain ⟨ds,HDS,HGQ,HQD2,HGR⟩:=hrel
      obtain ⟨wq,rfl⟩ : ∃ wq : World,wq = wr:=⟨_,rfl⟩
      have hdl : ds.length = gn:=by rw [HDS.out.1]; exact HNSL.out
      have hsq : MC + 2 <= wq.heap.size:=by have := HGR.out.size; omega
      obtain ⟨cs,hcs⟩ : ∃ cs,digC P ds = cs:=⟨_,rfl⟩
      have hcin : CellsIn P cs:=by
       have := digs_cells (P:=P) (ds:=ds) (by rw [HNS.out]; exact HDS.out)
       rw [<- hcs]; exact this
      have hcl : cs.length = gn:=by rw [hcin.1]; exact HPL.out
      have hct:=HCTG.out wq HGR.out
      have b8q : Below MC W8 wq:=HBR.out.trans ((grown_bel HGR.out (by omega)).mono (by omega))
      have HDL:=Lib.hid hdl
      have HCS:=Lib.hid hcs
      have HCIN:=Lib.hid hcin
      have HCL:=Lib.hid hcl
      have HCT2:=Lib.hid hct
      have HB8Q:=Lib.hid b8q
      clear hdl hcs hcin hcl hct b8q
      go_wp2_with fail
      go_loopw [18,131] (fun cv iv wr => ∃ i : Nat,i <= gn /\ iv = .int .i64 i /\ Hid (OwnN wq.heap.size wr cv (cs.take i)) /\ Hid (Below wq.heap.size wq wr)) (fun _ iv _ => gn - (intOf iv).toNat)
      case atStart => exact ⟨0,Nat.zero_le _,rfl,Lib.hid (OwnN.nil _ _),Lib.hid (Below.refl _ _)⟩
      case round =>
       obtain ⟨i,hi,rfl,HOW,HBW⟩:=hrel
       obtain ⟨wx,rfl⟩ : ∃ wx : World,wx = wr:=⟨_,rfl⟩
       have hown:=HOW.out
       obtain ⟨cl,hcl⟩ : ∃ cl,cs.take i = cl:=⟨_,rfl⟩
       have hll : cl.length = i:=by rw [<- hcl,List.length_take]; have := HCL.out; omega
       rw [hcl] at hown
       obtain ⟨oa,oc,hov,_,_⟩:=hown.form
       rw [hll] at hov
       subst hov
       have HOWN:=Lib.hid hown
       have HCLE:=Lib.hid hcl
       have HLL:=Lib.hid hll
       have hsx : wq.heap.size <= wx.heap.size:=HBW.out.size
       clear hown hcl hll HOW
       by_cases hlt : i < gn
       ·obtain ⟨a,ha⟩ : ∃ a,ds[i]? = some a:=⟨_,List.getElem?_eq_getElem (by rw [HDL.out]; exact hlt)⟩
        obtain ⟨p,hp⟩ : ∃ p,P[i]? = some p:=⟨_,List.getElem?_eq_getElem (by rw [HPL.out]; exact hlt)⟩
        have hap : a < p.length:=HDS.out.2 i a p.length ha (by rw [<- HNS.out,List.getElem?_map,hp]; rfl)
        obtain ⟨gb,go,gc,hgf,_,hgm,hgK,hgc⟩:=Nats.pos (HCT2.out.own i p hlt hp).nats (by omega)
        have e0 : wx.cell? ⟨MC + 1,i,none⟩ = some (.int .i64 (a : Int)):=(HBW.out.cell (p:=⟨MC + 1,i,none⟩) (show MC + 1 < wq.heap.size by omega)).trans (HQD2.out.at (by simp [ha,Z]))
        have e1 : wx.cell? ⟨MC,i,none⟩ = some (.slice (some ⟨gb,go,none⟩) p.length gc):=(HBW.out.cell (p:=⟨MC,i,none⟩) (show MC < wq.heap.size by omega)).trans (by rw [<- hgf]; exact HCT2.out.blk.at (arrD_at h hlt))
        obtain ⟨c,hc⟩ : ∃ c,p[a]?.getD 0 = c:=⟨_,rfl⟩
        have e2 : wx.cell? ⟨gb,go + a,none⟩ = some (.int .i64 (c : Int)):=(HBW.out.cell (p:=⟨gb,go + a,none⟩) hgK).trans (by have := hgc a hap; rw [hc] at this; exact this)
        have hci : cs[i]? = some c:=by rw [<- HCS.out,digC_at hp ha,hc]
        have hts : cs.take (i + 1) = cl ++ [c]:=by rw [List.take_add_one,hci,HCLE.out]; simp
        obtain ⟨pl,hpl⟩ : ∃ k,p.length = k:=⟨_,rfl⟩
        rw [hpl] at e1 hap
        have HTS:=Lib.hid hts
        have HL1 : Hid (cl.length + 1 <= 2 ^ 40):=Lib.hid (by rw [HLL.out]; omega)
        clear ha hp hgf hgc hc hci hts hpl
        go_wp2_with (at_builtin; refine wpList_append_N rfl (.tmp 136) (.tmp 144) rfl rfl rfl (HOWN.out.old ((Below.refl _ _).alloc (Nat.le_refl _) _) (Nat.le_refl _)) ((Blk.new wx #[Z c] _).at rfl) HL1.out (by simp; omega) ?_; intro g1 cap1 w5 hown5 hg5 hat5)
        have hb5 : Below wq.heap.size wq w5:=(HBW.out.alloc hsx _).grown hg5 (by simp; omega) (fun r hr => (ownsRow_cells HOWN.out hr).1)
        exact ⟨⟨i + 1,by omega,by go_num,Lib.hid (by rw [HTS.out]; exact hown5),Lib.hid hb5⟩,by simp [intOf]; omega⟩
       ·obtain rfl : gn = i:=by omega
        have hcN : Nats wx.heap.size wx (.slice oa gn oc) cs:=by
         have := HOWN.out.nats
         rw [<- HCLE.out,List.take_of_length_le (by rw [HCL.out]; exact Nat.le_refl _)] at this
         exact this
        have b8x : Below MC W8 wx:=HB8Q.out.trans (HBW.out.mono (by omega))
        have b4x : Below W4.heap.size W4 wx:=HB4W8.out.trans (b8x.mono hW4M)
        have hgx : wo.grownBy wx (some (MC + 1)):=grownBy_then HGR.out (grownBy_to (grown_of_below HBW.out))
        obtain ⟨l,hl⟩ : ∃ l,lfS ls (prM m n) cs = l:=⟨_,rfl⟩
        have hev:=HEV.out cs HCIN.out
        have hlv:=HLV.out cs HCIN.out
        rw [hl] at hev hlv
        have hcin2 : CellsIn (pcs ls) cs:=by rw [HP.out]; exact HCIN.out
        have hev2 : Evals (pcs ls) st cs rt l:=by rw [HP.out]; exact hev
        have hdgx:=(HDG.out.below b4x (by omega) (Nat.le_refl D)).below (Below.refl wx.heap.size wx) (show D <= wx.heap.size by have := b4x.size; omega) (show D <= wx.heap.size by have := b4x.size; omega)
        have hcall:=dfind_ok wx.heap.size ⟨⟨sa,gn,sm⟩,⟨da,gn2,dm⟩,⟨fa,gn3,fm⟩,rr⟩ ls st rt (.slice oa gn oc) cs l wx hdgx HDV.out (sc_good HLM.out HLF.out) hcN hcin2 hev2 hlv (Nat.le_refl _)
        dsimp only [Dv.agg,Dv.cells,Sl.val] at hcall
        have HCALL:=Lib.hid hcall
        have HCN:=Lib.hid hcN
        have HEV2:=Lib.hid hev2
        have HCIN2:=Lib.hid hcin2
        have HLV2:=Lib.hid hlv
        have HB8X:=Lib.hid b8x
        have HGX:=Lib.hid hgx
        have HQX:=Lib.hid (HQD2.out.below HBW.out HQD2.out.lt)
        obtain ⟨c0,c1,c2,c3⟩:=(HQ4.out.below b4x hDW).four
        clear hcall hdgx hcN b8x b4x hgx hl hev hlv hcin2 hev2
        go_wp2_with fail
        refine HCALL.out.mono ?_
        clear HCALL c0 c1 c2 c3
        rintro e w10 ⟨pv,rfl,hpv,hb10⟩
        have b8y : Below MC W8 w10:=HB8X.out.trans (hb10.mono (by omega))
        have hgy : wo.grownBy w10 (some (MC + 1)):=grownBy_then HGX.out (grownBy_to (grown_of_below hb10))
        have hdg2:=HDGS.out w10 (NewW.of (by rw [HMC.out]; exact b8y))
        have hcall:=dfind_ok w10.heap.size ⟨⟨ga,gn,gm⟩,⟨ga2,gn2,gm2⟩,⟨ga3,gn3,gm3⟩,gr⟩ ls st rt (.slice oa gn oc) cs l w10 hdg2 HDV.out (sc_good HLM.out HLF.out) (HCN.out.below hb10 (Nat.le_refl _) hb10.size) HCIN2.out HEV2.out HLV2.out (Nat.le_refl _)
        dsimp only [Dv.agg,Dv.cells,Sl.val] at hcall
        have HCALL:=Lib.hid hcall
        obtain ⟨c0,c1,c2,c3⟩:=(HQg.out.below (B:=MC) b8y (by omega)).four
        obtain ⟨pa,pc,hpf,_,_⟩:=hpv.form
        rw [hpf] at hpv ⊢
        have HPV:=Lib.hid hpv
        have HB8Y:=Lib.hid b8y
        have HGY:=Lib.hid hgy
        have HQY:=Lib.hid (HQX.out.below hb10 HQX.out.lt)
        have hs10:=hb10.size
        clear hcall hdg2 hpv b8y hgy hb10 hpf HQX
        go_wp2_with fail
        refine HCALL.out.mono ?_
        clear HCALL c0 c1 c2 c3
        rintro e w11 ⟨qv,rfl,hqv,hb11⟩
        obtain ⟨qa,qc,hqf,_,_⟩:=hqv.form
        rw [hqf] at hqv ⊢
        have hcall:=gints_any w11.heap.size _ _ l l w11 (HPV.out.nats.below hb11 (Nat.le_refl _) hb11.size) hqv.nats
        rw [show (l == l) = true from by simp] at hcall
        have HCALL:=Lib.hid hcall
        have HB8Z:=Lib.hid (HB8Y.out.trans (hb11.mono (by omega)))
        have HGZ:=Lib.hid (grownBy_then HGY.out (grownBy_to (grown_of_below hb11)))
        have HQZ:=Lib.hid (HQY.out.below hb11 HQY.out.lt)
        obtain ⟨ll,hll⟩ : ∃ k,l.length = k:=⟨_,rfl⟩
        rw [hll] at HCALL ⊢
        clear hcall hqv hb11 hqf hll HPV HQY
        go_wp2_with fail
        refine HCALL.out.mono ?_
        clear HCALL
        rintro e w12 ⟨rfl,kd,hkd⟩
        have HB8V : Hid (Below MC W8 w12):=Lib.hid (by rw [hkd]; exact below_drewN2 HB8Z.out kd)
        have HGV : Hid (wo.grownBy w12 (some (MC + 1))):=Lib.hid (by rw [hkd]; exact ⟨HGZ.out.os,HGZ.out.tape,HGZ.out.output,HGZ.out.size,HGZ.out.block⟩)
        have HQV : Hid (Blk w12 (MC + 1) ((ds.map Z).toArray) 3):=Lib.hid (by rw [hkd]; exact HQZ.out)
        clear hkd HB8Z HGZ HQZ
        go_upto_block 7 with fail
        go_cut [25] from 174 to 196 (fun sv wc => ∃ e : List Nat,Blk wc (MC + 1) ((e.map Z).toArray) 3 /\ wo.grownBy wc (some (MC + 1)) /\ ((∃ i : Nat,sv = .int .i64 i /\ Digs ns e /\ odV ns e = odV ns ds + 1) \/ sv = .int .i64 (-1)))
        case first =>
         go_wp2_with fail
         go_loopw [25] (fun sv wr => ∃ (i : Nat) (e : List Nat),sv = .int .i64 ((i : Int) - 1) /\ i <= gn /\ Hid (Odo ns ds e i) /\ Hid (Blk wr (MC + 1) ((e.map Z).toArray) 3) /\ Hid (wo.grownBy wr (some (MC + 1)))) (fun sv _ => (intOf sv + 1).toNat)
         case atStart => exact ⟨gn,ds,rfl,Nat.le_refl _,Lib.hid (by have := Odo.start HDS.out; rwa [HNSL.out] at this),HQV,HGV⟩
         case round =>
          obtain ⟨i,e,rfl,hi,HOD,HQE,HGE⟩:=hrel
          obtain ⟨wz,rfl⟩ : ∃ wz : World,wz = wr:=⟨_,rfl⟩
          cases i with
          | zero =>
           go_wp2_with fail
           go_meet
           exact ⟨e,HQE.out,HGE.out,.inr rfl⟩
          | succ i =>
           have hig : i < gn:=by omega
           have hiz : (((i + 1 : Nat) : Int) - 1) = (i : Int):=by omega
           rw [hiz]
           have hel : e.length = gn:=by rw [HOD.out.digs.1]; exact HNSL.out
           obtain ⟨a,ha⟩ : ∃ a,e[i]? = some a:=⟨_,List.getElem?_eq_getElem (by rw [hel]; omega)⟩
           obtain ⟨p,hp⟩ : ∃ p,P[i]? = some p:=⟨_,List.getElem?_eq_getElem (by rw [HPL.out]; omega)⟩
           have hnp : ns[i]? = some p.length:=by rw [<- HNS.out,List.getElem?_map,hp]; rfl
           have hap : a < p.length:=HOD.out.digs.2 i a p.length ha hnp
           have hp3:=HPM.out p (List.mem_of_getElem? hp)
           have hgw:=HCTG.out wz HGE.out
           obtain ⟨gb,go,gc,hgf,_,hgm,hgK,hgc⟩:=Nats.pos (hgw.own i p (by omega) hp).nats (by omega)
           have e0 : wz.cell? ⟨MC + 1,i,none⟩ = some (.int .i64 (a : Int)):=HQE.out.at (by simp [ha,Z])
           have m0 : wz.frozen? ⟨MC + 1,i,none⟩ = false:=HQE.out.free i
           obtain ⟨W13,hW13⟩ : ∃ W,wz.setCell ⟨MC + 1,i,none⟩ (.int .i64 ((a : Int) + 1)) = W:=⟨_,rfl⟩
           have hg13 : wo.grownBy W13 (some (MC + 1)):=grownBy_then HGE.out (by rw [<- hW13]; exact grownBy_setCell _ _ _ _)
           have hq13 : Blk W13 (MC + 1) (((e.set i (a + 1)).map Z).toArray) 3:=by
            rw [<- map_Z_set,<- hW13]
            exact HQE.out.set _
           have hgw2:=HCTG.out W13 hg13
           have f0 : W13.cell? ⟨MC + 1,i,none⟩ = some (.int .i64 ((a : Int) + 1)):=by
            have := hq13.at (i:=i) (x:=Z (a + 1)) (by
             rw [List.getElem?_toArray,List.getElem?_map,List.getElem?_set_self (by rw [hel]; omega)]; rfl)
            rw [this]; simp [Z]
           have f1 : W13.cell? ⟨MC,i,none⟩ = some (.slice (some ⟨gb,go,none⟩) p.length gc):=by rw [<- hgf]; exact hgw2.blk.at (arrD_at h (by omega))
           have f2 : W13.frozen? ⟨MC + 1,i,none⟩ = false:=hq13.free i
           obtain ⟨pl,hpl⟩ : ∃ k,p.length = k:=⟨_,rfl⟩
           rw [hpl] at f1 hap hp3 hnp
           have HW13:=Lib.hid hW13
           have HG13:=Lib.hid hg13
           have HQ13:=Lib.hid hq13
           have HA:=Lib.hid ha
           have HNP:=Lib.hid hnp
           have HF0:=Lib.hid f0
           have HF1:=Lib.hid f1
           have HF2:=Lib.hid f2
           clear ha hp hnp hgw hgf hgc hW13 hg13 hq13 hgw2 hpl hel hiz f0 f1 f2 hgm hgK
           go_upto_region 40 with fail
           rw [HW13.out]
           clear e0 m0
           have qS : (fun W' => W' = W13.drew) W13.drew:=rfl
           refine region_plain (fun W' => W' = W13.drew) [] (by kernel_rfl) ?_
           refine wpAnyD_tpX (i:=0) (v:=.slice (some ⟨MC + 1,0,none⟩) gn gn) (some 184) rfl rfl qS ?_
           refine wpAnyD_tpX (i:=1) (v:=.int .i64 i) (some 185) rfl rfl qS ?_
           refine wpAnyD_tpX (i:=2) (v:=.pointer (some ⟨MC + 1,i,none⟩)) (some 186) rfl rfl qS ?_
           refine wpAnyD_tkX (i:=3) (v:=.int .i64 ((a : Int) + 1)) (some 187) rfl rfl (.inl ⟨by kernel_rfl,fun W' hS => by obtain rfl:=hS; have f0:=HF0.out; have f1:=HF1.out; go_simp⟩) qS ?_
           refine wpAnyD_tpX (i:=4) (v:=.slice (some ⟨MC,0,none⟩) gn gn) (some 188) rfl rfl qS ?_
           refine wpAnyD_tpX (i:=5) (v:=.int .i64 i) (some 189) rfl rfl qS ?_
           refine wpAnyD_tpX (i:=6) (v:=.pointer (some ⟨MC,i,none⟩)) (some 190) rfl rfl qS ?_
           refine wpAnyD_tkX (i:=7) (v:=.slice (some ⟨gb,go,none⟩) pl gc) (some 191) rfl rfl (.inl ⟨by kernel_rfl,fun W' hS => by obtain rfl:=hS; have f0:=HF0.out; have f1:=HF1.out; go_simp⟩) qS ?_
           refine wpAnyD_tpX (i:=8) (v:=.int .i64 pl) (some 192) rfl rfl qS ?_
           by_cases hup : a + 1 < pl
           ·have tlt : decide ((a : Int) + 1 < (pl : Int)) = true:=decide_eq_true (by omega)
            refine wpAnyD_tpX (i:=9) (v:=.bool true) (some 193) rfl rfl qS ?_
            refine wpAnyD_done (by kernel_rfl) ?_ _
            go_simp
            go_wp2_with fail
            go_meet
            exact ⟨e.set i (a + 1),HQ13.out,grown_drew HG13.out,.inl ⟨i,rfl,HOD.out.up HA.out HNP.out hup⟩⟩
           ·have tlt : decide ((a : Int) + 1 < (pl : Int)) = false:=decide_eq_false (by omega)
            refine wpAnyD_tpX (i:=9) (v:=.bool false) (some 193) rfl rfl qS ?_
            refine wpAnyD_done (by kernel_rfl) ?_ _
            have f0 : W13.drew.cell? ⟨MC + 1,i,none⟩ = some (.int .i64 ((a : Int) + 1)):=HF0.out
            have f2 : W13.drew.frozen? ⟨MC + 1,i,none⟩ = false:=HF2.out
            have hq14 : Blk (W13.drew.setCell ⟨MC + 1,i,none⟩ (.int .i64 0)) (MC + 1) (((e.set i 0).map Z).toArray) 3:=by
             have h0:=(show Blk W13.drew (MC + 1) (((e.set i (a + 1)).map Z).toArray) 3 from HQ13.out).set (i:=i) (Z 0)
             rw [map_Z_set,List.set_set] at h0
             exact h0
            have hg14 : wo.grownBy (W13.drew.setCell ⟨MC + 1,i,none⟩ (.int .i64 0)) (some (MC + 1)):=grownBy_then (grown_drew HG13.out) (grownBy_setCell W13.drew _ _ _)
            have HQ14:=Lib.hid hq14
            have HG14:=Lib.hid hg14
            have HO14:=Lib.hid (HOD.out.carry HA.out HNP.out hup)
            clear hq14 hg14
            go_simp
            go_wp2_with fail
            exact ⟨⟨i,e.set i 0,rfl,by omega,HO14,HQ14,HG14⟩,by simp [intOf]⟩
        case rest =>
         obtain ⟨e,hqe,hge,hz⟩:=hcut
         have HQE:=Lib.hid hqe
         have HGE:=Lib.hid hge
         clear hqe hge
         rcases hz with ⟨i,rfl,hdg2,hod⟩ | rfl
         ·have HDG2:=Lib.hid hdg2
          have HOD:=Lib.hid hod
          have hlt2:=odV_lt _ _ hdg2
          have hgq:=HGQ.out
          have hgk0 : 0 < gk:=by omega
          have HGN : Hid (gk - 1 + odV ns e = mulL ns):=Lib.hid (by omega)
          clear hdg2 hod hlt2 hgq
          go_wp2_with fail
          go_roundg (gk - 1)
          case measure => omega
          case rel => exact ⟨e,HDG2,HGN,HQE,HGE⟩
         ·have b8w : Below MC W8 wc:=HBR.out.trans ((grown_bel HGE.out (by omega)).mono (by omega))
          have bw : Below B w wc:=HB24.out.trans ((HB4W8.out.trans (b8w.mono hW4M)).mono (by have := S4.out; omega))
          have hsB : B <= wc.heap.size:=by have := bw.size; have := HB.out; omega
          have ha:=HAW.out B wc hsB ((HTAB.out.on (bw.mono hK)).up hK)
          have HA:=Lib.hid ha
          have HBW2:=Lib.hid bw
          clear ha bw b8w
          go_wp2_with fail
          refine HA.out.mono ?_
          rintro e wf ⟨rfl,hbf⟩
          have bf:=HBW2.out.trans (hbf.mono hsB)
          clear hbf HA
          go_wp2_with fail
          go_ret
          exact ⟨rfl,bf⟩
end Go.Proofs.YtlidpghnlloinaaGreatDoor
