/- Contracts and plain laws, several texts in one (DlDec). No conditions beyond those stated. -/
import Derived.Test.YtlidpghnlloinaaGreatDoorPk32
import Derived.Test.YtlidpghnlloinaaGreatDoorPk35
import Derived.Test.YtlidpghnlloinaaGreatDoorPk37
set_option maxRecDepth 100000
set_option maxHeartbeats 40000000
namespace Go.Proofs.YtlidpghnlloinaaGreatDoor
open Go.RowKit
set_option linter.unusedVariables false
theorem dldec_any (haw : AwOk) (K : Nat) (m : List Nat) (mv : Value) (n : List Nat) (nv : Value) (nl : List Nat) (arr : Array Value) (w : World) (hm : U8s K w mv m) (hxm : ∀ y ∈ m,y < 256) (hn : U8s K w nv n) (hxn : ∀ y ∈ n,y < 256)
  (hl : nl.length = 12) (hx : ∀ y ∈ nl,y < 256) (harr : arr = (nl.map fun n : Nat => Value.int .u8 (n : Int)).toArray) (hK : K <= w.heap.size) (htab : PTab K w) :
  Calls Tryz.prog 9 #[mv,nv,.agg arr] w fun e w' => e = .returned (.bool true) /\ Below w.heap.size w w':=by
 obtain ⟨W1,hW1⟩ : ∃ W1,w.alloc (.cells arr 82) = W1:=⟨_,rfl⟩
 have b1 : Below w.heap.size w W1:=by rw [<- hW1]; exact (Below.refl _ _).alloc (Nat.le_refl _) _
 have q1 : Blk W1 w.heap.size arr 82:=by rw [<- hW1]; exact Blk.new w _ _
 have s1 : W1.heap.size = w.heap.size + 1:=by rw [<- hW1]; simp
 obtain ⟨B,hB⟩ : ∃ B,w.heap.size = B:=⟨_,rfl⟩
 have HB:=Lib.hid hB
 have HW:=Lib.hid hW1
 rw [hB] at b1 q1 s1 hK ⊢
 have hf:=dlfits_any K m mv n nv W1 (hm.below b1 hK (Nat.le_refl K)) hxm (hn.below b1 hK (Nat.le_refl K)) hxn (by omega)
 obtain ⟨ft,hft⟩ : ∃ f,fitP m n = f:=⟨_,rfl⟩
 rw [hft] at hf
 have hmv : ∃ a k c,mv = .slice a k c:=by obtain ⟨a,c,h,_⟩:=id (RowsV.form hm); exact ⟨a,_,c,h⟩
 have hnv : ∃ a k c,nv = .slice a k c:=by obtain ⟨a,c,h,_⟩:=id (RowsV.form hn); exact ⟨a,_,c,h⟩
 obtain ⟨ma,mk,mc,rfl⟩:=hmv
 obtain ⟨na,nk,nc,rfl⟩:=hnv
 have HF:=Lib.hid hf
 have HM:=Lib.hid hm
 have HN:=Lib.hid hn
 have HXM:=Lib.hid hxm
 have HXN:=Lib.hid hxn
 have HQ1:=Lib.hid q1
 have HB1:=Lib.hid b1
 have S1:=Lib.hid s1
 have HARR:=Lib.hid harr
 have HX:=Lib.hid hx
 have HL:=Lib.hid hl
 have HTAB:=Lib.hid htab
 have HAW:=Lib.hid haw
 have hB1 : B < W1.heap.size:=by omega
 clear hB hW1 hm hn q1 b1 s1 harr hx hl hxm hxn hf htab haw
 go_enter Tryz.func9,Tryz.ntmps9
 go_upto_region 1 with fail
 simp only [HB.out]
 rw [HW.out]
 clear HW
 go_wp2_with fail
 refine HF.out.mono ?_
 clear HF
 rintro e w2 ⟨rfl,hb2⟩
 have b2 : Below B w w2:=HB1.out.trans (hb2.mono (by omega))
 have hs2:=hb2.size
 cases ft with
 | false =>
  have ha:=HAW.out B w2 (by omega) ((HTAB.out.on (b2.mono hK)).up hK)
  have HA:=Lib.hid ha
  have HB2:=Lib.hid b2
  clear ha b2 hb2
  go_wp2_with fail
  refine HA.out.mono ?_
  rintro e wf ⟨rfl,hbf⟩
  have bf:=HB2.out.trans (hbf.mono (by omega))
  clear hbf HA
  go_wp2_with fail
  go_ret
  exact ⟨rfl,bf⟩
 | true =>
  have hc:=dlconds_any K m (.slice ma mk mc) n (.slice na nk nc) w2 (HM.out.below b2 hK (Nat.le_refl K)) HXM.out (HN.out.below b2 hK (Nat.le_refl K)) HXN.out (by omega) hft (HTAB.out.on (b2.mono hK))
  have HC:=Lib.hid hc
  have HFT:=Lib.hid hft
  have HB12:=Lib.hid hb2
  have HB2:=Lib.hid b2
  clear hc hft hb2 b2
  go_wp2_with fail
  refine HC.out.mono ?_
  clear HC
  rintro e w3 ⟨b,X,Y,y,rfl,hb,hq,hX,hY,hdg,hb3⟩
  obtain ⟨ls,hls,hsc,hLM,hLF,hHas⟩:=@pr_scs m n
  obtain ⟨l1,l2,l3⟩:=hdg.lens
  obtain ⟨⟨sa,sn,sm⟩,⟨da,dn,dm⟩,⟨fa,fn,fm⟩,rr⟩:=y
  dsimp only [Dv.agg,Dv.cells,Sl.val] at l1 l2 l3 hdg ⊢
  have hs3:=hb3.size
  obtain ⟨D,hD⟩ : ∃ D,w3.heap.size = D:=⟨_,rfl⟩
  obtain ⟨W4,hW4⟩ : ∃ W,w3.alloc (.cells #[.slice sa sn sm,.slice da dn dm,.slice fa fn fm,.int .i64 rr] 29) = W:=⟨_,rfl⟩
  have b4 : Below D w3 W4:=by rw [<- hW4,<- hD]; exact (Below.refl _ _).alloc (Nat.le_refl _) _
  have q4 : Blk W4 D #[.slice sa sn sm,.slice da dn dm,.slice fa fn fm,.int .i64 rr] 29:=by rw [<- hW4,<- hD]; exact Blk.new w3 _ _
  have s4 : W4.heap.size = D + 1:=by rw [<- hW4,<- hD]; simp
  have h1c : ∀ u ∈ (#[.slice sa sn sm,.slice da dn dm,.slice fa fn fm,.int .i64 rr] : Array Value),u.oneCell' = true:=by simp [Value.oneCell']
  have H1C:=Lib.hid h1c
  have HD:=Lib.hid hD
  have HW4:=Lib.hid hW4
  have hdgo:=dec_dg m n
  have hdv:=pr_dgv HFT.out
  have HEV:=Lib.hid (dec_ev nl m n)
  have HONE:=Lib.hid (dec_one nl m n)
  have HIN:=Lib.hid (dec_in nl m n)
  have HINT:=Lib.hid (dec_ints nl m n)
  obtain ⟨st,hst⟩ : ∃ st,(prT m n).2 = st:=⟨_,rfl⟩
  obtain ⟨rt,hrt⟩ : ∃ rt,(prT m n).1 = rt:=⟨_,rfl⟩
  rw [hst,hrt,hls] at hdg HEV hdv
  rw [hst,hrt] at HONE
  rw [hls] at l1 HIN HINT
  rw [hD] at hdg hX hY hs3
  have qb : b < D:=by have := hq.lt; omega
  have HDG:=Lib.hid (hdg.below b4 (Nat.le_refl _) (Nat.le_refl D))
  have HX4:=Lib.hid (hX.below b4 (Nat.le_refl _) (Nat.le_refl D))
  have HY4:=Lib.hid (hY.below b4 (Nat.le_refl _) (Nat.le_refl D))
  have HQ4:=Lib.hid q4
  have HQB:=Lib.hid (hq.below b4 qb)
  have S4:=Lib.hid s4
  have HB24 : Hid (Below B w W4):=Lib.hid (HB2.out.trans ((hb3.mono (by omega)).trans (b4.mono (by omega))))
  have HB14 : Hid (Below W1.heap.size W1 W4):=Lib.hid (HB12.out.trans ((hb3.mono hs2).trans (b4.mono (by omega))))
  have HDV:=Lib.hid hdv
  have HLM:=Lib.hid hLM
  have HLF:=Lib.hid hLF
  have HHAS:=Lib.hid hHas
  obtain ⟨ln,hln⟩ : ∃ k,ls.length = k:=⟨_,rfl⟩
  have HLN:=Lib.hid hln
  rw [hln] at l1
  subst l1
  clear hln hb hq hX hY hdg hb3 hls hsc hLM hLF hHas l2 l3 hD hW4 b4 q4 s4 h1c hdgo hdv hst hrt HB12 HB2
  go_upto_region 4 with (refine wpList_store_new rfl 29 (.tmp 8) (.tmp 28) rfl #[.slice sa sn sm,.slice da dn dm,.slice fa fn fm,.int .i64 rr] _ infoDiagN rfl H1C.out w3.heap.size rfl rfl rfl ?_)
  simp only [HD.out]
  rw [HW4.out]
  have hr4 : W4.rangeAt B 0 arr.toList:=(HQ1.out.below HB14.out HQ1.out.lt).range
  have hi12 : (Tryz.prog.info? 82).map (fun i => i.size) = some arr.toList.length:=by rw [show (Tryz.prog.info? 82).map (fun i => i.size) = some 12 by kernel_rfl,HARR.out]; simp [HL.out]
  have hval:=gvalues_any nl arr HL.out HX.out HARR.out W4
  have HVAL:=Lib.hid hval
  clear hval H1C HD HW4
  go_upto_region 6 with fail
  go_wp2_with (refine wpList_load_mid rfl 82 (.tmp 5) rfl B 0 rfl arr.toList _ hr4 Tryz.underlying82 rfl hi12 ?_)
  refine HVAL.out.mono ?_
  rintro e w8 ⟨g,rfl,hg,hb8⟩
  clear HVAL hr4 hi12
  have hs8:=hb8.size
  have hg8 : ∀ k,k < 12 -> VlX w8.heap.size w8 (valsM nl k) (g k):=fun k hk => hg k hk _ (NewW.refl _ _)
  have h72 : ∀ v ∈ (cells72 g).toArray,v.oneCell' = true:=by
   intro v hv
   rw [List.mem_toArray] at hv
   unfold cells72 at hv
   obtain ⟨j,hj,rfl⟩:=List.mem_map.1 hv
   rw [List.mem_range] at hj
   obtain ⟨a1,m1,e1,_⟩:=(hg8 (j / 6) (by omega)).n.form
   obtain ⟨a2,m2,e2,_⟩:=(hg8 (j / 6) (by omega)).d.form
   exact vv_cell_one _ (by rw [e1]; rfl) (by rw [e2]; rfl) _
  have hi72 : (Tryz.prog.info? 86).map (fun i => i.size) = some (cells72 g).toArray.size:=by rw [infoV12]; simp [cells72_len]
  have H72:=Lib.hid h72
  have HI72:=Lib.hid hi72
  have HG8:=Lib.hid hg8
  have HB8:=Lib.hid hb8
  clear h72 hi72 hg hg8 hb8
  go_upto_region 7 with (refine wpList_store_new rfl 86 (.tmp 10) (.tmp 33) rfl (cells72 g).toArray _ HI72.out (by simp [cells72_len]) H72.out w8.heap.size rfl rfl rfl ?_)
  obtain ⟨T9,hT9⟩ : ∃ T,w8.heap.size = T:=⟨_,rfl⟩
  obtain ⟨W9,hW9⟩ : ∃ W9,w8.alloc (.cells (cells72 g).toArray 86) = W9:=⟨_,rfl⟩
  have b9' : Below T9 w8 W9:=by rw [<- hW9,<- hT9]; exact (Below.refl _ _).alloc (Nat.le_refl _) _
  have q9 : Blk W9 T9 (cells72 g).toArray 86:=by rw [<- hW9,<- hT9]; exact Blk.new w8 _ _
  have s9 : W9.heap.size = T9 + 1:=by rw [<- hW9,<- hT9]; simp
  have HW9:=Lib.hid hW9
  have HT9:=Lib.hid hT9
  have hg8:=HG8.out
  rw [hT9] at hg8 hs8
  have HG9 : Hid (∀ k,k < 12 -> VlX T9 W9 (valsM nl k) (g k)):=Lib.hid fun k hk => (hg8 k hk).below b9' (Nat.le_refl _) (Nat.le_refl _)
  have b49 : Below W4.heap.size W4 W9:=HB8.out.trans (b9'.mono hs8)
  have r9 : W9.rangeAt T9 0 (cells72 g):=by have := q9.range; simpa using this
  have hi72l : (Tryz.prog.info? 86).map (fun i => i.size) = some (cells72 g).length:=by rw [infoV12,cells72_len]
  have hDW : D < W4.heap.size:=HQ4.out.lt
  have hdg9:=HDG.out.below b49 (by omega) (Nat.le_refl D)
  have hpl:=gplace_any W9.heap.size (.slice sa sn sm) ls nl g W9 (hdg9.s.below (Below.refl W9.heap.size W9) (by have := b49.size; omega) (by have := b49.size; omega)) HLM.out HLF.out (fun k hk => (HG9.out k hk).below (Below.refl _ _) (Nat.le_refl _) (by omega)) (Nat.le_refl _)
  obtain ⟨CS,hCS⟩ : ∃ l,cellsM (valsM nl) ls = l:=⟨_,rfl⟩
  rw [hCS] at hpl
  rw [hCS] at HINT
  have HPL:=Lib.hid hpl
  have HI72l:=Lib.hid hi72l
  have HQ9:=Lib.hid q9
  have HB49:=Lib.hid b49
  have S9:=Lib.hid s9
  have e0 : W9.cell? ⟨D,0,none⟩ = some (.slice sa sn sm):=(HQ4.out.below b49 hDW).at rfl
  simp only [HT9.out]
  rw [HW9.out]
  clear hCS hW9 hT9 HW9 hg8 b9' hpl hi72l HG8 HT9 q9 b49 hdg9 s9 H72 HI72 HB8
  go_upto_region 8 with (refine wpList_load_mid rfl 86 (.tmp 10) rfl T9 0 rfl (cells72 g) _ r9 Tryz.underlying86 rfl HI72l.out ?_)
  refine HPL.out.mono ?_
  clear HPL r9 e0
  rintro e w10 ⟨cv,rfl,hcv,hb10⟩
  have hnat:=ints_nats hcv HINT.out
  obtain ⟨ca,cc,rfl,_,_⟩:=id hnat.form
  obtain ⟨cn,hcn⟩ : ∃ k,(cNs (valsM nl) ls).length = k:=⟨_,rfl⟩
  rw [hcn] at hnat ⊢
  have hs10:=hb10.size
  have b410 : Below W4.heap.size W4 w10:=HB49.out.trans (hb10.mono HB49.out.size)
  have HB910:=Lib.hid hb10
  have hdg10:=HDG.out.below b410 (by omega) (Nat.le_refl D)
  have hdgK:=hdg10.below (Below.refl w10.heap.size w10) (show D <= w10.heap.size by have := b410.size; omega) (show D <= w10.heap.size by have := b410.size; omega)
  have hfd:=dfind_ok w10.heap.size ⟨⟨sa,sn,sm⟩,⟨da,dn,dm⟩,⟨fa,fn,fm⟩,rr⟩ ls st rt (.slice ca cn cc) (cNs (valsM nl) ls) (wantL nl m n 2) w10 hdgK HDV.out (sc_good HLM.out HLF.out) hnat HIN.out HEV.out (by have := wantL_len nl m n 2; omega) (Nat.le_refl _)
  dsimp only [Dv.agg,Dv.cells,Sl.val] at hfd
  have HFD:=Lib.hid hfd
  have HB410:=Lib.hid b410
  obtain ⟨c0,c1,c2,c3⟩:=(HQ4.out.below b410 hDW).four
  clear hcv hnat hcn hb10 b410 hdg10 hdgK hfd HB49
  go_wp2_with fail
  refine HFD.out.mono ?_
  clear HFD c0 c1 c2 c3
  rintro e w11 ⟨gv,rfl,hgv,hb11⟩
  have b411 : Below W4.heap.size W4 w11:=HB410.out.trans (hb11.mono HB410.out.size)
  obtain ⟨ga,gc,rfl,_,_⟩:=id hgv.form
  obtain ⟨gn,hgn⟩ : ∃ k,(wantL nl m n 2).length = k:=⟨_,rfl⟩
  rw [hgn]
  have HGV:=Lib.hid (show Nats w11.heap.size w11 (.slice ga gn gc) (wantL nl m n 2) by rw [<- hgn]; exact hgv.nats)
  have HGN:=Lib.hid hgn
  have B411:=Lib.hid b411
  have HG11 : Hid (∀ k,k < 12 -> VlX w11.heap.size w11 (valsM nl k) (g k)):=Lib.hid fun k hk => (HG9.out k hk).below ((Below.refl W9.heap.size W9).trans (show Below W9.heap.size W9 w11 from HB910.out.trans (hb11.mono HB910.out.size))) (by have := S9.out; omega) (by have := S9.out; have := HB910.out.size; have := hb11.size; omega)
  have hs11:=b411.size
  have hb11x : Hid (Below w10.heap.size w10 w11):=Lib.hid hb11
  clear hgv hgn hb11 b411 hs10
  go_wp2_with fail
  obtain ⟨BB,hBB⟩ : ∃ BB,w11.heap.size = BB:=⟨_,rfl⟩
  have HBB:=Lib.hid hBB
  go_loopw [15,51] (fun ov iv wr => ∃ i : Nat,i <= 2 /\ iv = .int .i64 i /\ OwnN BB wr ov (wantL nl m n i) /\ Below BB w11 wr) (fun _ iv _ => 2 - (intOf iv).toNat)
  case atStart => exact ⟨0,Nat.zero_le _,rfl,by rw [wantL_zero]; exact OwnN.nil _ _,Below.refl _ _⟩
  case round =>
   obtain ⟨i,hi2,rfl,how,hbr⟩:=hrel
   obtain ⟨wo,rfl⟩ : ∃ wo : World,wo = wr:=⟨_,rfl⟩
   obtain ⟨oa,oc,hof,_,_⟩:=id how.form
   obtain ⟨on,hon⟩ : ∃ k,(wantL nl m n i).length = k:=⟨_,rfl⟩
   rw [hon] at hof
   subst hof
   have hso : BB <= wo.heap.size:=by have := hbr.size; have := HBB.out; omega
   have b11o : Below w11.heap.size w11 wo:=by rw [HBB.out]; exact hbr
   have b4o : Below W4.heap.size W4 wo:=B411.out.trans (b11o.mono hs11)
   have HOW:=Lib.hid how
   have HBR:=Lib.hid hbr
   have HB4O:=Lib.hid b4o
   have HON:=Lib.hid hon
   have hgo : ∀ k,k < 12 -> VlX wo.heap.size wo (valsM nl k) (g k):=fun k hk => (HG11.out k hk).below b11o (Nat.le_refl _) b11o.size
   have r9o : wo.rangeAt T9 0 (cells72 g):=by
    have h1:=(HQ9.out.below (HB910.out.trans (hb11x.out.mono HB910.out.size)) HQ9.out.lt).below b11o (by have := HQ9.out.lt; have := HB910.out.size; have := hb11x.out.size; omega)
    have := h1.range; simpa using this
   have HGO:=Lib.hid hgo
   have R9O:=Lib.hid r9o
   clear how hbr hon b4o hgo r9o
   by_cases hlt : i < 2
   ·obtain ⟨y,hy⟩ : ∃ y,g2x X Y i = y:=⟨_,rfl⟩
    obtain ⟨ex,hex⟩ : ∃ ex,(prM m n)[i]?.getD default = ex:=⟨_,rfl⟩
    have hqo:=HQB.out.below HB4O.out HQB.out.lt
    have hrg : wo.rangeAt b (i * 9) y.cells.toList:=by
     rcases i with _ | _ | i
     ·subst hy; exact blk_fst hqo
     ·subst hy; exact blk_snd hqo
     ·omega
    have hexg : ExG wo.heap.size wo ex y:=by
     rcases i with _ | _ | i
     ·subst hy; subst hex; exact HX4.out.below HB4O.out (by omega) (by have := HB4O.out.size; omega)
     ·subst hy; subst hex; exact HY4.out.below HB4O.out (by omega) (by have := HB4O.out.size; omega)
     ·omega
    have hmem : ex ∈ prM m n:=by
     have hl2 : i < (prM m n).length:=hlt
     rw [<- hex,List.getElem?_eq_getElem hl2]; exact List.getElem_mem hl2
    have hmd:=(prM_md ex hmem).1
    have H1C : Hid (∀ u ∈ y.cells,u.oneCell' = true):=Lib.hid (by simp [Value.oneCell'])
    obtain ⟨t,ht⟩ : ∃ t,tru2 nl m n i = t:=⟨_,rfl⟩
    have htg : trueG (valsM nl) ex = t:=by rw [<- ht,<- hex]; rfl
    obtain ⟨S,hS⟩ : ∃ S,wo.heap.size = S:=⟨_,rfl⟩
    obtain ⟨W12,hW12⟩ : ∃ W,wo.alloc (.cells y.cells 49) = W:=⟨_,rfl⟩
    have b12 : Below S wo W12:=by rw [<- hW12,<- hS]; exact (Below.refl _ _).alloc (Nat.le_refl _) _
    have q12 : Blk W12 S y.cells 49:=by rw [<- hW12,<- hS]; exact Blk.new wo _ _
    have hs12:=b12.size
    rw [hS] at hexg hs12
    have htr:=gtrue_any nl g hmd W12.heap.size y W12 (fun k hk => (HGO.out k hk).below b12 (by omega) (by omega)) (Nat.le_refl _) (hexg.below b12 (Nat.le_refl _) hs12)
    rw [htg] at htr
    have HTR:=Lib.hid htr
    have r912 : W12.rangeAt T9 0 (cells72 g):=fun j v hj => (b12.cell (p:=⟨T9,0 + j,none⟩) (by have := HQ9.out.lt; have := HB910.out.size; have := hb11x.out.size; have := HBB.out; show T9 < S; omega)).trans (R9O.out j v hj)
    obtain ⟨f0,f1,f2,f3,f4,f5,f6,f7,f8⟩:=q12.nine
    have HS:=Lib.hid hS
    have HW12:=Lib.hid hW12
    dsimp only [Xv.cells] at HW12
    have HT:=Lib.hid ht
    have HB12:=Lib.hid b12
    clear hy hex hqo hexg hmem hmd htg hS hW12 b12 q12 htr ht HGO
    go_upto_region 15 with (first
     | (refine wpList_load_mid rfl 49 (.tmp 54) rfl b (i * 9) rfl y.cells.toList _ hrg Tryz.underlying49 rfl infoExN ?_)
     | (refine wpList_store_new rfl 49 (.tmp 17) (.tmp 55) rfl y.cells _ infoExN rfl H1C.out wo.heap.size rfl rfl rfl ?_))
    simp only [HS.out]
    rw [HW12.out]
    go_wp2_with (refine wpList_load_mid rfl 86 (.tmp 10) rfl T9 0 rfl (cells72 g) _ r912 Tryz.underlying86 rfl HI72l.out ?_)
    refine HTR.out.mono ?_
    rintro e2 w13 ⟨rfl,hb13⟩
    clear HTR r912 f0 f1 f2 f3 f4 f5 f6 f7 f8 hrg
    have bo13 : Below S wo w13:=HB12.out.trans (hb13.mono hs12)
    have how13:=HOW.out.old bo13 (by rw [HS.out]; exact Nat.le_refl _)
    have HO13:=Lib.hid how13
    have hs13 : S <= w13.heap.size:=by have := bo13.size; have := HS.out; omega
    have HB13 : Hid (Below BB w11 w13):=Lib.hid (HBR.out.trans (bo13.mono (by have := HS.out; omega)))
    clear hb13 bo13 how13
    cases t with
    | true =>
     have hL1 : Hid ((wantL nl m n i).length + 1 <= 2 ^ 40):=Lib.hid (by have := wantL_len nl m n i; omega)
     have hbw : BB <= w13.heap.size:=by have := HS.out; omega
     have hws : wantL nl m n (i + 1) = wantL nl m n i ++ [i]:=by rw [wantL_succ,if_pos HT.out]
     have HWS:=Lib.hid hws
     clear hws
     go_wp2_with (at_builtin; refine wpList_append_N rfl (.tmp 59) (.tmp 61) rfl rfl rfl (HO13.out.old ((Below.refl _ _).alloc (Nat.le_refl _) _) (Nat.le_refl _)) ((Blk.new w13 #[Z i] _).at rfl) hL1.out (by simp; omega) ?_; intro g1 cap1 w5 hown5 hg5 hat5)
     have hb5 : Below BB w11 w5:=(HB13.out.alloc hbw _).grown hg5 (by simp; omega) (fun r hr => (ownsRow_cells HO13.out hr).1)
     exact ⟨⟨i + 1,by omega,by go_num,by rw [HWS.out]; exact hown5,hb5⟩,by simp [intOf]; omega⟩
    | false =>
     have hws : wantL nl m n (i + 1) = wantL nl m n i:=by rw [wantL_succ,if_neg (by rw [HT.out]; simp)]
     have HWS:=Lib.hid hws
     clear hws
     go_wp2_with fail
     exact ⟨⟨i + 1,by omega,by go_num,by rw [HWS.out]; exact HO13.out,HB13.out⟩,by simp [intOf]; omega⟩
   ·obtain rfl : i = 2:=by omega
    have hin:=gints_any wo.heap.size (.slice ga gn gc) (.slice oa on oc) _ _ wo (HGV.out.below b11o (Nat.le_refl _) b11o.size) HOW.out.nats
    rw [beq_self_eq_true] at hin
    have HIN2:=Lib.hid hin
    obtain ⟨c0,c1,c2,c3⟩:=(HQ4.out.below HB4O.out hDW).four
    clear hin b11o
    go_wp2_with fail
    refine HIN2.out.mono ?_
    rintro e w12 ⟨rfl,kk,hkk⟩
    have hb12 : Below W4.heap.size W4 w12:=by rw [hkk]; exact below_drewN2 HB4O.out kk
    have hdg12:=(HDG.out.below hb12 (by omega) (Nat.le_refl D)).below (Below.refl w12.heap.size w12) (show D <= w12.heap.size by have := hb12.size; omega) (show D <= w12.heap.size by have := hb12.size; omega)
    have hcp:=dcomplete_ok w12.heap.size ⟨⟨sa,sn,sm⟩,⟨da,dn,dm⟩,⟨fa,fn,fm⟩,rr⟩ ls st rt w12 hdg12 HDV.out (sc_good HLM.out HLF.out) (pcs_ok HLM.out HLF.out) (Nat.le_refl _)
    dsimp only [Dv.agg,Dv.cells,Sl.val] at hcp
    have HCP:=Lib.hid hcp
    clear HIN2 c0 c1 c2 c3 hkk hdg12 hcp
    obtain ⟨c0,c1,c2,c3⟩:=(HQ4.out.below hb12 hDW).four
    have HB412:=Lib.hid hb12
    clear hb12
    go_wp2_with fail
    refine HCP.out.mono ?_
    rintro e w13 ⟨⟨r,rfl,hr⟩,hb13⟩
    have bw13 : Below B w w13:=HB24.out.trans ((HB412.out.trans (hb13.mono HB412.out.size)).mono (by omega))
    have ha:=HAW.out B w13 (by have := bw13.size; have := HB.out; omega) ((HTAB.out.on (bw13.mono hK)).up hK)
    have hon1 : r = true -> on = 1:=fun h => by rw [<- HON.out]; exact HONE.out (hr.1 h)
    have HA:=Lib.hid ha
    have HB13:=Lib.hid bw13
    have hsz13 : B <= w13.heap.size:=by have := bw13.size; have := HB.out; omega
    clear HCP c0 c1 c2 c3 hr hb13 bw13 ha
    cases r with
    | false =>
     clear hon1
     go_wp2_with fail
     refine HA.out.mono ?_
     rintro e wf ⟨rfl,hbf⟩
     have bf:=HB13.out.trans (hbf.mono hsz13)
     clear hbf HA
     go_wp2_with fail
     go_ret
     exact ⟨rfl,bf⟩
    | true =>
     obtain rfl:=hon1 rfl
     clear hon1
     go_wp2_with fail
     refine HA.out.mono ?_
     rintro e wf ⟨rfl,hbf⟩
     have bf:=HB13.out.trans (hbf.mono hsz13)
     clear hbf HA
     go_wp2_with fail
     go_ret
     exact ⟨rfl,bf⟩
end Go.Proofs.YtlidpghnlloinaaGreatDoor
