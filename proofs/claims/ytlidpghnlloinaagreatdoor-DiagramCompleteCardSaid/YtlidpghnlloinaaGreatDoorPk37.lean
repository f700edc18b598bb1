/- Contracts and plain laws, several texts in one (DlCm). No conditions beyond those stated. -/
import Derived.Test.YtlidpghnlloinaaGreatDoorPk32
import Derived.Test.YtlidpghnlloinaaGreatDoorPk35
import Derived.Test.YtlidpghnlloinaaGreatDoorPk36
set_option maxRecDepth 100000
set_option maxHeartbeats 40000000
namespace Go.Proofs.YtlidpghnlloinaaGreatDoor
open Go.RowKit
set_option linter.unusedVariables false
theorem dlcm_any (haw : AwOk) (K : Nat) (m : List Nat) (mv : Value) (n : List Nat) (nv : Value) (w : World) (hm : U8s K w mv m) (hxm : ∀ y ∈ m,y < 256) (hn : U8s K w nv n) (hxn : ∀ y ∈ n,y < 256) (hK : K <= w.heap.size) (htab : PTab K w) :
  Calls Tryz.prog 6 #[mv,nv] w fun e w' => e = .returned (.bool true) /\ Below w.heap.size w w':=by
 obtain ⟨B,hB⟩ : ∃ B,w.heap.size = B:=⟨_,rfl⟩
 have HB:=Lib.hid hB
 have hf:=dlfits_any K m mv n nv w hm hxm hn hxn hK
 rw [hB] at hK hf ⊢
 obtain ⟨ft,hft⟩ : ∃ f,fitP m n = f:=⟨_,rfl⟩
 rw [hft] at hf
 have hmv : ∃ a k c,mv = .slice a k c:=by obtain ⟨a,c,h,_⟩:=id (RowsV.form hm); exact ⟨a,_,c,h⟩
 have hnv : ∃ a k c,nv = .slice a k c:=by obtain ⟨a,c,h,_⟩:=id (RowsV.form hn); exact ⟨a,_,c,h⟩
 obtain ⟨ma,mk,mc,rfl⟩:=hmv
 obtain ⟨na,nk,nc,rfl⟩:=hnv
 have HF:=Lib.hid hf
 have HM:=Lib.hid hm
 have HN:=Lib.hid hn
 have HXM:=Lib.hid hxm
 have HXN:=Lib.hid hxn
 have HTAB:=Lib.hid htab
 have HAW:=Lib.hid haw
 clear hB hm hn hxm hxn hf htab haw
 go_enter Tryz.func6,Tryz.ntmps6
 go_wp2_with fail
 refine HF.out.mono ?_
 clear HF
 rintro e w2 ⟨rfl,b2⟩
 have hs2 : B <= w2.heap.size:=by have := b2.size; have := HB.out; omega
 cases ft with
 | false =>
  have ha:=HAW.out B w2 hs2 ((HTAB.out.on (b2.mono hK)).up hK)
  have HA:=Lib.hid ha
  have HB2:=Lib.hid b2
  clear ha b2
  go_wp2_with fail
  refine HA.out.mono ?_
  rintro e wf ⟨rfl,hbf⟩
  have bf:=HB2.out.trans (hbf.mono hs2)
  clear hbf HA
  go_wp2_with fail
  go_ret
  exact ⟨rfl,bf⟩
 | true =>
  have hc:=dlconds_any K m (.slice ma mk mc) n (.slice na nk nc) w2 (HM.out.below b2 hK (Nat.le_refl K)) HXM.out (HN.out.below b2 hK (Nat.le_refl K)) HXN.out (by omega) hft (HTAB.out.on (b2.mono hK))
  have HC:=Lib.hid hc
  have HFT:=Lib.hid hft
  have HB2:=Lib.hid b2
  clear hc hft b2
  go_wp2_with fail
  refine HC.out.mono ?_
  clear HC
  rintro e w3 ⟨b,X,Y,y,rfl,hb,hq,hX,hY,hdg,hb3⟩
  obtain ⟨ls,hls,hsc,hLM,hLF,hHas⟩:=@pr_scs m n
  obtain ⟨l1,l2,l3⟩:=hdg.lens
  obtain ⟨⟨sa,sn,sm⟩,⟨da,dn,dm⟩,⟨fa,fn,fm⟩,rr⟩:=y
  dsimp only [Dv.agg,Dv.cells,Sl.val] at l1 l2 l3 hdg ⊢
  have hs3:=hb3.size
  obtain ⟨D,hD⟩ : ∃ D,w3.heap.size = D:=⟨_,rfl⟩
  obtain ⟨W4,hW4⟩ : ∃ W,w3.alloc (.cells #[.slice sa sn sm,.slice da dn dm,.slice fa fn fm,.int .i64 rr] 29) = W:=⟨_,rfl⟩
  have b4 : Below D w3 W4:=by rw [<- hW4,<- hD]; exact (Below.refl _ _).alloc (Nat.le_refl _) _
  have q4 : Blk W4 D #[.slice sa sn sm,.slice da dn dm,.slice fa fn fm,.int .i64 rr] 29:=by rw [<- hW4,<- hD]; exact Blk.new w3 _ _
  have s4 : W4.heap.size = D + 1:=by rw [<- hW4,<- hD]; simp
  have h1c : ∀ u ∈ (#[.slice sa sn sm,.slice da dn dm,.slice fa fn fm,.int .i64 rr] : Array Value),u.oneCell' = true:=by simp [Value.oneCell']
  have H1C:=Lib.hid h1c
  have HD:=Lib.hid hD
  have HW4:=Lib.hid hW4
  have hdv:=pr_dgv HFT.out
  have hdo:=dec_dg m n
  obtain ⟨st,hst⟩ : ∃ st,(prT m n).2 = st:=⟨_,rfl⟩
  obtain ⟨rt,hrt⟩ : ∃ rt,(prT m n).1 = rt:=⟨_,rfl⟩
  rw [hst,hrt,hls] at hdg hdv hdo
  rw [hst] at l2 l3
  have HL2:=Lib.hid l2
  have HL3:=Lib.hid l3
  have HST:=Lib.hid (And.intro hst hrt)
  have HLS:=Lib.hid hls
  rw [hls] at l1
  rw [hD] at hdg hX hY hs3
  have qb : b < D:=by have := hq.lt; omega
  have HDG:=Lib.hid (hdg.below b4 (Nat.le_refl _) (Nat.le_refl D))
  have HX4:=Lib.hid (hX.below b4 (Nat.le_refl _) (Nat.le_refl D))
  have HY4:=Lib.hid (hY.below b4 (Nat.le_refl _) (Nat.le_refl D))
  have HQ4:=Lib.hid q4
  have HQB:=Lib.hid (hq.below b4 qb)
  have S4:=Lib.hid s4
  have hB4 : B <= D:=by omega
  have HB24 : Hid (Below B w W4):=Lib.hid (HB2.out.trans ((hb3.mono (by omega)).trans (b4.mono hB4)))
  have HDV:=Lib.hid hdv
  have HDO:=Lib.hid hdo
  have HLM:=Lib.hid hLM
  have HLF:=Lib.hid hLF
  have HHAS:=Lib.hid hHas
  have HSC:=Lib.hid hsc
  obtain ⟨ln,hln⟩ : ∃ k,ls.length = k:=⟨_,rfl⟩
  have HLN:=Lib.hid hln
  rw [hln] at l1
  subst l1
  have hDW : D < W4.heap.size:=by omega
  clear hln hb hq hX hY hdg hb3 hls hsc hLM hLF hHas l2 l3 hD hW4 b4 q4 s4 h1c hdv hdo hst hrt HB2
  go_upto_region 4 with (refine wpList_store_new rfl 29 (.tmp 6) (.tmp 30) rfl #[.slice sa sn sm,.slice da dn dm,.slice fa fn fm,.int .i64 rr] _ infoDiagN rfl H1C.out w3.heap.size rfl rfl rfl ?_)
  simp only [HD.out]
  rw [HW4.out]
  clear HD HW4 H1C
  have b44 : Below W4.heap.size W4 W4:=Below.refl _ _
  have hdgx:=(HDG.out.below b44 (by omega) (Nat.le_refl D)).below (Below.refl W4.heap.size W4) (show D <= W4.heap.size by have := b44.size; omega) (show D <= W4.heap.size by have := b44.size; omega)
  have hcall:=dgap_ok W4.heap.size ⟨⟨sa,sn,sm⟩,⟨da,dn,dm⟩,⟨fa,fn,fm⟩,rr⟩ ls st rt W4 hdgx HDV.out (sc_good HLM.out HLF.out) (pcs_ok HLM.out HLF.out) (Nat.le_refl _)
  dsimp only [Dv.agg,Dv.cells,Sl.val] at hcall
  have HCALL:=Lib.hid hcall
  obtain ⟨c0,c1,c2,c3⟩:=(HQ4.out.below b44 hDW).four
  clear hcall hdgx
  go_wp2_with fail
  refine HCALL.out.mono ?_
  clear HCALL c0 c1 c2 c3
  rintro e w5 ⟨hsq,hb5⟩
  obtain ⟨xa,xn,xc,x,rfl,hx,hxd⟩:=srch_uni hsq
  have HB5:=Lib.hid hb5
  have HXI:=Lib.hid hx
  have HXD:=Lib.hid hxd
  have b45:=hb5
  clear hsq hb5 hx hxd b44
  have hdgx:=(HDG.out.below b45 (by omega) (Nat.le_refl D)).below (Below.refl w5.heap.size w5) (show D <= w5.heap.size by have := b45.size; omega) (show D <= w5.heap.size by have := b45.size; omega)
  have hcall:=doverlap_ok w5.heap.size ⟨⟨sa,sn,sm⟩,⟨da,dn,dm⟩,⟨fa,fn,fm⟩,rr⟩ ls st rt w5 hdgx HDV.out (sc_good HLM.out HLF.out) (pcs_ok HLM.out HLF.out) (Nat.le_refl _)
  dsimp only [Dv.agg,Dv.cells,Sl.val] at hcall
  have HCALL:=Lib.hid hcall
  obtain ⟨c0,c1,c2,c3⟩:=(HQ4.out.below b45 hDW).four
  clear hcall hdgx
  go_wp2_with fail
  refine HCALL.out.mono ?_
  clear HCALL c0 c1 c2 c3
  rintro e w6 ⟨hsq,hb6⟩
  obtain ⟨ya,yn,yc,y,rfl,hy,hyd⟩:=srch_uni hsq
  have b46 : Below W4.heap.size W4 w6:=b45.trans (hb6.mono b45.size)
  have HB6:=Lib.hid hb6
  have HYI:=Lib.hid hy
  have HYD:=Lib.hid hyd
  clear hsq hb6 hy hyd
  have hdgx:=(HDG.out.below b46 (by omega) (Nat.le_refl D)).below (Below.refl w6.heap.size w6) (show D <= w6.heap.size by have := b46.size; omega) (show D <= w6.heap.size by have := b46.size; omega)
  have hcall:=dcomplete_ok w6.heap.size ⟨⟨sa,sn,sm⟩,⟨da,dn,dm⟩,⟨fa,fn,fm⟩,rr⟩ ls st rt w6 hdgx HDV.out (sc_good HLM.out HLF.out) (pcs_ok HLM.out HLF.out) (Nat.le_refl _)
  dsimp only [Dv.agg,Dv.cells,Sl.val] at hcall
  have HCALL:=Lib.hid hcall
  obtain ⟨c0,c1,c2,c3⟩:=(HQ4.out.below b46 hDW).four
  clear hcall hdgx
  go_wp2_with fail
  refine HCALL.out.mono ?_
  clear HCALL c0 c1 c2 c3
  rintro e w7 ⟨⟨r,rfl,hr⟩,hb7⟩
  obtain rfl : r = !(x || y):=comp_not HDO.out HXI.out HYI.out hr
  have b47 : Below W4.heap.size W4 w7:=b46.trans (hb7.mono b46.size)
  have HB7:=Lib.hid hb7
  have hs5:=b45.size
  have hs6:=b46.size
  clear hr b46
  have HLVB : Hid (∀ cs l,Evals (pcs ls) st cs rt l -> l.length <= 2 ^ 40):=Lib.hid fun cs l he => by
   obtain ⟨k,_,hl⟩:=he.reach
   obtain ⟨cs',_,rfl⟩:=HDO.out.wf.leaf k l hl
   rw [<- HLS.out]
   unfold lfS
   refine Nat.le_trans (List.length_filter_le _ _) ?_
   rw [List.length_range]
   show 2 <= 2 ^ 40
   decide
  have b4w7:=b47
  clear b47
  cases x
  ·cases y
   ·obtain ⟨lm,hlm⟩:=cm_scales HFT.out (b:=cmN m) (.inl rfl)
    have HSm:=Lib.hid hlm
    clear hlm
    go_upto_region 18 with fail
    have qS : (fun W' => Below w7.heap.size w7 W') w7.drew:=below_quiet (Below.refl _ _)
    have HRX : Hid (∀ W',Below w7.heap.size w7 W' -> Blk W' b (cells2 X Y) 49):=Lib.hid fun W' hb => (HQB.out.below b4w7 HQB.out.lt).below hb (HQB.out.below b4w7 HQB.out.lt).lt
    have HRE : Hid (∀ W',Below w7.heap.size w7 W' -> ExG W'.heap.size W' (cmA m) X):=Lib.hid fun W' hb => (HX4.out.below b4w7 (by omega) (Nat.le_refl D)).below (Below.refl w7.heap.size w7) (by have := b4w7.size; omega) (show D <= w7.heap.size by have := b4w7.size; omega) |>.below hb (Nat.le_refl _) hb.size
    refine region_plain (fun W' => Below w7.heap.size w7 W') [] (by kernel_rfl) ?_
    refine wpAnyD_tpX (i:=0) (v:=.slice (some ⟨b,0,none⟩) 2 2) (some 80) rfl rfl qS ?_
    refine wpAnyD_tpX (i:=1) (v:=.pointer (some ⟨b,0,none⟩)) (some 81) rfl rfl qS ?_
    refine wpAnyD_tkX (i:=2) (v:=X.agg) (some 82) rfl rfl (yieldsIf_load_mid (by kernel_rfl) 49 (.tmp 81) rfl b 0 (by first | rfl | go_simp) X.cells.toList _ (fun W' hS => blk_fst (HRX.out W' hS)) Tryz.underlying49 rfl infoExN) qS ?_
    refine wpAnyD_tpX (i:=3) (v:=.slice (some ⟨b,0,none⟩) 2 2) (some 83) rfl rfl qS ?_
    refine wpAnyD_tpX (i:=4) (v:=.slice (some ⟨b,0,none⟩) 1 2) (some 84) rfl rfl qS ?_
    refine wpAnyD_tpX (i:=5) (v:=(opX 17 ⟨some ⟨b,0,none⟩,1,2⟩).agg) (some 85) rfl rfl qS ?_
    go_simp
    refine wpAnyD_chain2X (c1:=6) (c2:=7) (i:=11) (L0:=?L0m00) (L1:=?L1m00) (A:=?Am00) (some 86) (some 87) (some 16) 3 29 #[.slice none 0 0,.slice none 0 0,.slice none 0 0,.int .i64 0]
     (fun _ W => Below w7.heap.size w7 W)
     (fun v _ W => Below w7.heap.size w7 W /\ ∃ c : Nat,v = .slice (some ⟨c,0,none⟩) 2 2 /\ Blk W c (cells2 X (opX 17 ⟨some ⟨b,0,none⟩,1,2⟩)) 49)
     (fun v v'' Fp W => Below w7.heap.size w7 W /\ ∃ (y : Dv) (L : Nat) (V : World),v'' = .tuple #[y.agg,.int .i64 0] /\ DgN L V y lm [cmA m,cmN m] /\ NewW L V W /\ ∀ b,L <= b -> b < V.heap.size -> Fp b)
     (by kernel_rfl) (by kernel_rfl) (by kernel_rfl) (by kernel_rfl) ?hrnm00 ?hLm00 rfl rfl (fun _ => rfl) (by decide) rfl rfl (fun _ => rfl) (by decide) (fun W W' h1 h2 => h1.trans (h2.mono h1.size)) qS rfl rfl (fun _ => rfl) (fun a W KK hK => by go_simp; exact hK) (fun _ W W' h1 h2 => h1.trans (h2.mono h1.size)) ?st1m00 ?st2m00 ?step1m00 ?step2m00 ?htk0m00 ?htk1m00 ?hAm00 qS ?hm00
    case htk0m00 | htk1m00 =>
     intro v2 v p Fp W' hF hS H
     refine wpAnyD_tpX (i:=8) (v:=v) (some 79) rfl rfl hS ?_
     refine wpAnyD_tkX (i:=9) (v:=tupA v 0) (some 88) rfl rfl (.inl ⟨by kernel_rfl,fun W' hS => by obtain ⟨_,y,L,V,rfl,_⟩:=hF; go_simp <;> rfl⟩) hS ?_
     refine wpAnyD_tkX (i:=10) (v:=tupA v 1) (some 89) rfl rfl (.inl ⟨by kernel_rfl,fun W' hS => by obtain ⟨_,y,L,V,rfl,_⟩:=hF; go_simp <;> rfl⟩) hS ?_
     exact H
    case hrnm00 => kernel_rfl
    case hLm00 => rfl
    case hAm00 => intro v2 v p q; exact put_over (by decide) (put_over (by decide) (put_over (by decide) (put_over (by decide) (put_over (by decide) (put_twice _ _ _ _)))))
    case st1m00 =>
     rintro v Fp W W' ⟨h1,c,rfl,h2⟩ hb
     exact ⟨h1.trans (hb.mono h1.size),c,rfl,h2.below hb h2.lt⟩
    case st2m00 =>
     rintro v v'' Fp W W' ⟨h1,y,L,V,rfl,h3,h4,h5⟩ hb
     exact ⟨h1.trans (hb.mono h1.size),y,L,V,rfl,h3,h4.trans (NewW.of hb),h5⟩
    case step1m00 =>
     rintro Fp W p hF KK hKK
     have hb : Below W.heap.size W (W.alloc (.cells (cells2 X (opX 17 ⟨some ⟨b,0,none⟩,1,2⟩)) 49)):=(Below.refl _ _).alloc (Nat.le_refl _) _
     have hk:=hKK (.slice (some ⟨W.heap.size,0,none⟩) 2 2) (fun _ => False) (W.alloc (.cells (cells2 X (opX 17 ⟨some ⟨b,0,none⟩,1,2⟩)) 49)) ⟨hF.trans (hb.mono hF.size),W.heap.size,rfl,Blk.new W _ _⟩ (fun _ h => h.elim) hb
     clear hKK hb
     go_simp
     exact hk
    case step2m00 =>
     rintro v1 Fp W p ⟨hF,c,rfl,hq⟩ KK hKK
     have hxx:=HRE.out W hF
     have hyy : ExG W.heap.size W (cmN m) (opX 17 ⟨some ⟨b,0,none⟩,1,2⟩):=exg_oneOf2 (HRX.out W hF) (HRX.out W hF).lt hxx
     have hcall:=dbuild_any W.heap.size (.slice (some ⟨c,0,none⟩) 2 2) [cmA m,cmN m] (g2x X (opX 17 ⟨some ⟨b,0,none⟩,1,2⟩)) W (rows_ex2 hq hq.lt) (fun i a ha => by
      rcases i with _ | _ | i
      ·cases ha; exact hxx
      ·cases ha; exact hyy
      ·cases ha) (fun a ha => by
      simp only [List.mem_cons,List.not_mem_nil,or_false] at ha
      rcases ha with rfl | rfl
      ·exact md_good (cmA_md m).1
      ·exact md_good (cmN_md m).1) (fun a ha => by
      simp only [List.mem_cons,List.not_mem_nil,or_false] at ha
      rcases ha with rfl | rfl
      ·exact (cm_parts m).1
      ·exact (cm_parts m).2) (Nat.le_refl _) (by simp) lm HSm.out.1 (sc_okD HSm.out.2.1 HSm.out.2.2.1) (by have := LM.len HSm.out.2.1; omega) (by have := HSm.out.2.2.2.2; omega) ((HTAB.out.on ((HB24.out.trans ((b4w7.trans (hF.mono b4w7.size)).mono (by omega))).mono hK)).up (by have := b4w7.size; have := hF.size; omega))
     have HCALL:=Lib.hid hcall
     clear hcall hxx hyy hq
     go_simp
     refine HCALL.out.mono ?_
     rintro en w' ⟨y,rfl,hdg,hb⟩
     exact hKK _ (Btw W.heap.size w'.heap.size) w' ⟨hF.trans (hb.mono hF.size),y,W.heap.size,w',rfl,hdg,NewW.refl _ _,fun b h1 h2 => ⟨h1,h2⟩⟩ (fun _ h => .inr h) hb
    case hm00 =>
     rintro v1 v2 Fp k W' ⟨hB,⟨⟨ga,gn,gm⟩,⟨ga2,gn2,gm2⟩,⟨ga3,gn3,gm3⟩,gr⟩,L,V,rfl,hdg,hnw,hFp⟩ hnk _ hq hk hbk
     have h1c : ∀ u ∈ (#[.slice ga gn gm,.slice ga2 gn2 gm2,.slice ga3 gn3 gm3,.int .i64 gr] : Array Value),u.oneCell' = true:=by simp [Value.oneCell']
     have H1C:=Lib.hid h1c
     have hkr : k < L \/ V.heap.size <= k:=by
      by_cases h1 : k < L
      ·exact .inl h1
      ·by_cases h2 : k < V.heap.size
       ·exact absurd (hFp k (by omega) h2) hnk
       ·exact .inr (by omega)
     have HDV2:=Lib.hid (And.intro hdg (And.intro hnw hkr))
     have HQK:=Lib.hid hq
     have HKW:=Lib.hid hk
     clear h1c hdg hnw hFp hnk hq hkr hbk hk
     go_simp
     refine wpAnyD_one (i:=12) (by kernel_rfl) rfl (by kernel_rfl) ?_
     refine wp_store_blkD 29 29 (.tmp 16) (.tmp 88) rfl #[.slice ga gn gm,.slice ga2 gn2 gm2,.slice ga3 gn3 gm3,.int .i64 gr] _ k HQK.out infoDiagN rfl H1C.out rfl rfl ?_
     intro W18 t1 t2 t3 t4
     have bW18 : Below w7.heap.size w7 W18:=hB.trans (t2 _ HKW.out)
     refine ⟨fun _ => bW18,?_⟩
     refine wpAnyD_tkX (i:=13) (v:=.int .i64 0) (some 17) rfl rfl (.inl ⟨by kernel_rfl,fun W' hS => by go_simp <;> rfl⟩) bW18 ?_
     refine wpAnyD_done (by kernel_rfl) ?_ _
     obtain ⟨hdg,hnw,hkr⟩:=HDV2.out
     have hnw2:=hnw.puts t3 hkr
     have HDg : Hid (DgN L W18 ⟨⟨ga,gn,gm⟩,⟨ga2,gn2,gm2⟩,⟨ga3,gn3,gm3⟩,gr⟩ lm [cmA m,cmN m]):=Lib.hid fun X hx => hdg X (hnw2.trans hx)
     have HQg:=Lib.hid t1
     have b4W18 : Below W4.heap.size W4 W18:=b4w7.trans (bW18.mono b4w7.size)
     clear hdg hnw hkr hnw2 t1 t2 t3 t4 HDV2 HQK HKW H1C hB
     obtain ⟨Dg,hDg⟩ : ∃ D,k = D:=⟨_,rfl⟩
     subst hDg
     have HWH:=Lib.hid (cm_whole HSm.out.2.1 HSm.out.2.2.1 HSm.out.2.2.2.1)
     have HGV:=Lib.hid (cm_dgv [cmA m,cmN m] HSm.out.2.1 HSm.out.2.2.1 HSm.out.2.2.2.2)
     have HMG:=Lib.hid (And.intro HSm.out.2.1 HSm.out.2.2.1)
     obtain ⟨lg,hlg⟩ : ∃ l,lm = l:=⟨_,rfl⟩
     have HLG:=Lib.hid hlg
     rw [hlg] at HDg HWH HGV HMG
     clear hlg HSm
     obtain ⟨lm,hlm⟩:=cm_scales HFT.out (b:=cmA m) (.inr rfl)
     have HSa:=Lib.hid hlm
     clear hlm HRX HRE qS
     go_simp
     go_upto_region 19 with fail
     have qS : (fun W' => Below W18.heap.size W18 W') W18.drew:=below_quiet (Below.refl _ _)
     have HRX : Hid (∀ W',Below W18.heap.size W18 W' -> Blk W' b (cells2 X Y) 49):=Lib.hid fun W' hb => (HQB.out.below b4W18 HQB.out.lt).below hb (HQB.out.below b4W18 HQB.out.lt).lt
     have HRE : Hid (∀ W',Below W18.heap.size W18 W' -> ExG W'.heap.size W' (cmA m) X):=Lib.hid fun W' hb => (HX4.out.below b4W18 (by omega) (Nat.le_refl D)).below (Below.refl W18.heap.size W18) (by have := b4W18.size; omega) (show D <= W18.heap.size by have := b4W18.size; omega) |>.below hb (Nat.le_refl _) hb.size
     refine region_plain (fun W' => Below W18.heap.size W18 W') [] (by kernel_rfl) ?_
     refine wpAnyD_tpX (i:=0) (v:=.slice (some ⟨b,0,none⟩) 2 2) (some 91) rfl rfl qS ?_
     refine wpAnyD_tpX (i:=1) (v:=.pointer (some ⟨b,0,none⟩)) (some 92) rfl rfl qS ?_
     refine wpAnyD_tkX (i:=2) (v:=X.agg) (some 93) rfl rfl (yieldsIf_load_mid (by kernel_rfl) 49 (.tmp 92) rfl b 0 (by first | rfl | go_simp) X.cells.toList _ (fun W' hS => blk_fst (HRX.out W' hS)) Tryz.underlying49 rfl infoExN) qS ?_
     refine wpAnyD_tpX (i:=3) (v:=.slice (some ⟨b,0,none⟩) 2 2) (some 94) rfl rfl qS ?_
     refine wpAnyD_tpX (i:=4) (v:=.pointer (some ⟨b,0,none⟩)) (some 95) rfl rfl qS ?_
     refine wpAnyD_tkX (i:=5) (v:=X.agg) (some 96) rfl rfl (yieldsIf_load_mid (by kernel_rfl) 49 (.tmp 95) rfl b 0 (by first | rfl | go_simp) X.cells.toList _ (fun W' hS => blk_fst (HRX.out W' hS)) Tryz.underlying49 rfl infoExN) qS ?_
     go_simp
     refine wpAnyD_chain2X (c1:=6) (c2:=7) (i:=11) (L0:=?L0a00) (L1:=?L1a00) (A:=?Aa00) (some 97) (some 98) (some 18) 3 29 #[.slice none 0 0,.slice none 0 0,.slice none 0 0,.int .i64 0]
      (fun _ W => Below W18.heap.size W18 W)
      (fun v _ W => Below W18.heap.size W18 W /\ ∃ c : Nat,v = .slice (some ⟨c,0,none⟩) 2 2 /\ Blk W c (cells2 X X) 49)
      (fun v v'' Fp W => Below W18.heap.size W18 W /\ ∃ (y : Dv) (L : Nat) (V : World),v'' = .tuple #[y.agg,.int .i64 0] /\ DgN L V y lm [cmA m,cmA m] /\ NewW L V W /\ ∀ b,L <= b -> b < V.heap.size -> Fp b)
      (by kernel_rfl) (by kernel_rfl) (by kernel_rfl) (by kernel_rfl) ?hrna00 ?hLa00 rfl rfl (fun _ => rfl) (by decide) rfl rfl (fun _ => rfl) (by decide) (fun W W' h1 h2 => h1.trans (h2.mono h1.size)) qS rfl rfl (fun _ => rfl) (fun a W KK hK => by go_simp; exact hK) (fun _ W W' h1 h2 => h1.trans (h2.mono h1.size)) ?st1a00 ?st2a00 ?step1a00 ?step2a00 ?htk0a00 ?htk1a00 ?hAa00 qS ?ha00
     case htk0a00 | htk1a00 =>
      intro v2 v p Fp W' hF hS H
      refine wpAnyD_tpX (i:=8) (v:=v) (some 90) rfl rfl hS ?_
      refine wpAnyD_tkX (i:=9) (v:=tupA v 0) (some 99) rfl rfl (.inl ⟨by kernel_rfl,fun W' hS => by obtain ⟨_,y,L,V,rfl,_⟩:=hF; go_simp <;> rfl⟩) hS ?_
      refine wpAnyD_tkX (i:=10) (v:=tupA v 1) (some 100) rfl rfl (.inl ⟨by kernel_rfl,fun W' hS => by obtain ⟨_,y,L,V,rfl,_⟩:=hF; go_simp <;> rfl⟩) hS ?_
      exact H
     case hrna00 => kernel_rfl
     case hLa00 => rfl
     case hAa00 => intro v2 v p q; exact put_over (by decide) (put_over (by decide) (put_over (by decide) (put_over (by decide) (put_over (by decide) (put_twice _ _ _ _)))))
     case st1a00 =>
      rintro v Fp W W' ⟨h1,c,rfl,h2⟩ hb
      exact ⟨h1.trans (hb.mono h1.size),c,rfl,h2.below hb h2.lt⟩
     case st2a00 =>
      rintro v v'' Fp W W' ⟨h1,y,L,V,rfl,h3,h4,h5⟩ hb
      exact ⟨h1.trans (hb.mono h1.size),y,L,V,rfl,h3,h4.trans (NewW.of hb),h5⟩
     case step1a00 =>
      rintro Fp W p hF KK hKK
      have hb : Below W.heap.size W (W.alloc (.cells (cells2 X X) 49)):=(Below.refl _ _).alloc (Nat.le_refl _) _
      have hk:=hKK (.slice (some ⟨W.heap.size,0,none⟩) 2 2) (fun _ => False) (W.alloc (.cells (cells2 X X) 49)) ⟨hF.trans (hb.mono hF.size),W.heap.size,rfl,Blk.new W _ _⟩ (fun _ h => h.elim) hb
      clear hKK hb
      go_simp
      exact hk
     case step2a00 =>
      rintro v1 Fp W p ⟨hF,c,rfl,hq⟩ KK hKK
      have hxx:=HRE.out W hF
      have hyy : ExG W.heap.size W (cmA m) X:=hxx
      have hcall:=dbuild_any W.heap.size (.slice (some ⟨c,0,none⟩) 2 2) [cmA m,cmA m] (g2x X X) W (rows_ex2 hq hq.lt) (fun i a ha => by
       rcases i with _ | _ | i
       ·cases ha; exact hxx
       ·cases ha; exact hyy
       ·cases ha) (fun a ha => by
       simp only [List.mem_cons,List.not_mem_nil,or_false] at ha
       rcases ha with rfl | rfl
       ·exact md_good (cmA_md m).1
       ·exact md_good (cmA_md m).1) (fun a ha => by
       simp only [List.mem_cons,List.not_mem_nil,or_false] at ha
       rcases ha with rfl | rfl
       ·exact (cm_parts m).1
       ·exact (cm_parts m).1) (Nat.le_refl _) (by simp) lm HSa.out.1 (sc_okD HSa.out.2.1 HSa.out.2.2.1) (by have := LM.len HSa.out.2.1; omega) (by have := HSa.out.2.2.2.2; omega) ((HTAB.out.on ((HB24.out.trans ((b4W18.trans (hF.mono b4W18.size)).mono (by omega))).mono hK)).up (by have := b4W18.size; have := hF.size; omega))
      have HCALL:=Lib.hid hcall
      clear hcall hxx hyy hq
      go_simp
      refine HCALL.out.mono ?_
      rintro en w' ⟨y,rfl,hdg,hb⟩
      exact hKK _ (Btw W.heap.size w'.heap.size) w' ⟨hF.trans (hb.mono hF.size),y,W.heap.size,w',rfl,hdg,NewW.refl _ _,fun b h1 h2 => ⟨h1,h2⟩⟩ (fun _ h => .inr h) hb
     case ha00 =>
      rintro v1 v2 Fp k W' ⟨hB,⟨⟨ha,hn,hm⟩,⟨ha2,hn2,hm2⟩,⟨ha3,hn3,hm3⟩,hr⟩,L,V,rfl,hdg,hnw,hFp⟩ hnk _ hq hk hbk
      have h1c : ∀ u ∈ (#[.slice ha hn hm,.slice ha2 hn2 hm2,.slice ha3 hn3 hm3,.int .i64 hr] : Array Value),u.oneCell' = true:=by simp [Value.oneCell']
      have H1C:=Lib.hid h1c
      have hkr : k < L \/ V.heap.size <= k:=by
       by_cases h1 : k < L
       ·exact .inl h1
       ·by_cases h2 : k < V.heap.size
        ·exact absurd (hFp k (by omega) h2) hnk
        ·exact .inr (by omega)
      have HDV2:=Lib.hid (And.intro hdg (And.intro hnw hkr))
      have HQK:=Lib.hid hq
      have HKW:=Lib.hid hk
      clear h1c hdg hnw hFp hnk hq hkr hbk hk
      go_simp
      refine wpAnyD_one (i:=12) (by kernel_rfl) rfl (by kernel_rfl) ?_
      refine wp_store_blkD 29 29 (.tmp 18) (.tmp 99) rfl #[.slice ha hn hm,.slice ha2 hn2 hm2,.slice ha3 hn3 hm3,.int .i64 hr] _ k HQK.out infoDiagN rfl H1C.out rfl rfl ?_
      intro W19 t1 t2 t3 t4
      have bW19 : Below W18.heap.size W18 W19:=hB.trans (t2 _ HKW.out)
      refine ⟨fun _ => bW19,?_⟩
      refine wpAnyD_tkX (i:=13) (v:=.int .i64 0) (some 19) rfl rfl (.inl ⟨by kernel_rfl,fun W' hS => by go_simp <;> rfl⟩) bW19 ?_
      refine wpAnyD_done (by kernel_rfl) ?_ _
      obtain ⟨hdg,hnw,hkr⟩:=HDV2.out
      have hnw2:=hnw.puts t3 hkr
      have HDh : Hid (DgN L W19 ⟨⟨ha,hn,hm⟩,⟨ha2,hn2,hm2⟩,⟨ha3,hn3,hm3⟩,hr⟩ lm [cmA m,cmA m]):=Lib.hid fun X hx => hdg X (hnw2.trans hx)
      have HQh:=Lib.hid t1
      have b4W19 : Below W4.heap.size W4 W19:=b4W18.trans (bW19.mono b4W18.size)
      clear hdg hnw hkr hnw2 t1 t2 t3 t4 HDV2 HQK HKW H1C hB
      obtain ⟨Dh,hDh⟩ : ∃ D,k = D:=⟨_,rfl⟩
      subst hDh
      have HTW:=Lib.hid (cm_twice (m:=m) HSa.out.2.1 HSa.out.2.2.1)
      have HHV:=Lib.hid (cm_dgv [cmA m,cmA m] HSa.out.2.1 HSa.out.2.2.1 HSa.out.2.2.2.2)
      have hQg:=HQg.out.below bW19 HQg.out.lt
      have hDg:=HDg.out.move bW19
      have hcall:=dcomplete_ok W19.heap.size ⟨⟨ga,gn,gm⟩,⟨ga2,gn2,gm2⟩,⟨ga3,gn3,gm3⟩,gr⟩ lg _ _ W19 hDg.now HGV.out (sc_good HMG.out.1 HMG.out.2) (pcs_ok HMG.out.1 HMG.out.2) (Nat.le_refl _)
      dsimp only [Dv.agg,Dv.cells,Sl.val] at hcall
      have HCALL:=Lib.hid hcall
      obtain ⟨c0,c1,c2,c3⟩:=hQg.four
      clear hcall hQg hDg
      go_simp
      go_wp2_with fail
      refine HCALL.out.mono ?_
      clear HCALL c0 c1 c2 c3
      rintro e w20 ⟨⟨r1,rfl,hr1⟩,hb20⟩
      obtain rfl : r1 = true:=hr1.2 HWH.out
      have hQh:=HQh.out.below hb20 HQh.out.lt
      have hDh:=HDh.out.move hb20
      have hcall:=dcomplete_ok w20.heap.size ⟨⟨ha,hn,hm⟩,⟨ha2,hn2,hm2⟩,⟨ha3,hn3,hm3⟩,hr⟩ lm _ _ w20 hDh.now HHV.out (sc_good HSa.out.2.1 HSa.out.2.2.1) (pcs_ok HSa.out.2.1 HSa.out.2.2.1) (Nat.le_refl _)
      dsimp only [Dv.agg,Dv.cells,Sl.val] at hcall
      have HCALL:=Lib.hid hcall
      obtain ⟨c0,c1,c2,c3⟩:=hQh.four
      have b4w20 : Below W4.heap.size W4 w20:=b4W19.trans (hb20.mono b4W19.size)
      clear hcall hQh hDh hr1 hb20
      go_wp2_with fail
      refine HCALL.out.mono ?_
      clear HCALL c0 c1 c2 c3
      rintro e w21 ⟨⟨r2,rfl,hr2⟩,hb21⟩
      obtain rfl : r2 = false:=by
       cases r2 with
       | false => rfl
       | true => exact absurd HTW.out (hr2.1 rfl)
      have bw21 : Below B w w21:=HB24.out.trans ((b4w20.trans (hb21.mono b4w20.size)).mono (by omega))
      have hs21 : B <= w21.heap.size:=by have := bw21.size; have := HB.out; omega
      have ha:=HAW.out B w21 hs21 ((HTAB.out.on (bw21.mono hK)).up hK)
      have HA:=Lib.hid ha
      have HB21:=Lib.hid bw21
      clear ha bw21 hr2 hb21
      go_wp2_with fail
      refine HA.out.mono ?_
      rintro e wf ⟨rfl,hbf⟩
      have bf:=HB21.out.trans (hbf.mono hs21)
      clear hbf HA
      go_wp2_with fail
      go_ret
      exact ⟨rfl,bf⟩
   ·obtain ⟨csy,ly,hoy,hcy,hey,hwy⟩:=HYD.out (by trivial)
    have hb0y : Below w6.heap.size w6 w7:=HB7.out
    have hny:=hoy.nats.below hb0y (Nat.le_refl _) hb0y.size
    obtain ⟨ky,hky⟩ : ∃ k,csy.length = k:=⟨_,rfl⟩
    obtain rfl : yn = ky:=by obtain ⟨_,_,he,_⟩:=id hoy.form; simp only [Value.slice.injEq] at he; omega
    have hly : 1 < ly.length:=by simpa using hwy
    have hdgx:=(HDG.out.below b4w7 (by omega) (Nat.le_refl D)).below (Below.refl w7.heap.size w7) (show D <= w7.heap.size by have := b4w7.size; omega) (show D <= w7.heap.size by have := b4w7.size; omega)
    have hcall:=dfind_ok w7.heap.size ⟨⟨sa,sn,sm⟩,⟨da,dn,dm⟩,⟨fa,fn,fm⟩,rr⟩ ls st rt (.slice ya yn yc) csy ly w7 hdgx HDV.out (sc_good HLM.out HLF.out) hny hcy hey (HLVB.out _ _ hey) (Nat.le_refl _)
    dsimp only [Dv.agg,Dv.cells,Sl.val] at hcall
    have HCALL:=Lib.hid hcall
    have HLV:=Lib.hid hly
    obtain ⟨c0,c1,c2,c3⟩:=(HQ4.out.below b4w7 hDW).four
    clear hcall hdgx hoy hcy hey hwy hb0y hny hly
    go_wp2_with fail
    refine HCALL.out.mono ?_
    clear HCALL c0 c1 c2 c3
    rintro e w9 ⟨fvy,rfl,hfy,hbfy⟩
    obtain ⟨fya,fyc,rfl,_,_⟩:=hfy.form
    obtain ⟨fyn,hfny⟩ : ∃ k,ly.length = k:=⟨_,rfl⟩
    have hlv:=HLV.out
    rw [hfny] at hlv ⊢
    have b4w9 : Below W4.heap.size W4 w9:=b4w7.trans (hbfy.mono b4w7.size)
    have t2 : decide ((fyn : Int) < 2) = false:=decide_eq_false (by omega)
    have HBFy:=Lib.hid hbfy
    clear hfy hfny HLV hbfy hky hlv
    obtain ⟨lm,hlm⟩:=cm_scales HFT.out (b:=cmN m) (.inl rfl)
    have HSm:=Lib.hid hlm
    clear hlm
    go_upto_region 18 with fail
    have qS : (fun W' => Below w9.heap.size w9 W') w9.drew:=below_quiet (Below.refl _ _)
    have HRX : Hid (∀ W',Below w9.heap.size w9 W' -> Blk W' b (cells2 X Y) 49):=Lib.hid fun W' hb => (HQB.out.below b4w9 HQB.out.lt).below hb (HQB.out.below b4w9 HQB.out.lt).lt
    have HRE : Hid (∀ W',Below w9.heap.size w9 W' -> ExG W'.heap.size W' (cmA m) X):=Lib.hid fun W' hb => (HX4.out.below b4w9 (by omega) (Nat.le_refl D)).below (Below.refl w9.heap.size w9) (by have := b4w9.size; omega) (show D <= w9.heap.size by have := b4w9.size; omega) |>.below hb (Nat.le_refl _) hb.size
    refine region_plain (fun W' => Below w9.heap.size w9 W') [] (by kernel_rfl) ?_
    refine wpAnyD_tpX (i:=0) (v:=.slice (some ⟨b,0,none⟩) 2 2) (some 80) rfl rfl qS ?_
    refine wpAnyD_tpX (i:=1) (v:=.pointer (some ⟨b,0,none⟩)) (some 81) rfl rfl qS ?_
    refine wpAnyD_tkX (i:=2) (v:=X.agg) (some 82) rfl rfl (yieldsIf_load_mid (by kernel_rfl) 49 (.tmp 81) rfl b 0 (by first | rfl | go_simp) X.cells.toList _ (fun W' hS => blk_fst (HRX.out W' hS)) Tryz.underlying49 rfl infoExN) qS ?_
    refine wpAnyD_tpX (i:=3) (v:=.slice (some ⟨b,0,none⟩) 2 2) (some 83) rfl rfl qS ?_
    refine wpAnyD_tpX (i:=4) (v:=.slice (some ⟨b,0,none⟩) 1 2) (some 84) rfl rfl qS ?_
    refine wpAnyD_tpX (i:=5) (v:=(opX 17 ⟨some ⟨b,0,none⟩,1,2⟩).agg) (some 85) rfl rfl qS ?_
    go_simp
    refine wpAnyD_chain2X (c1:=6) (c2:=7) (i:=11) (L0:=?L0m01) (L1:=?L1m01) (A:=?Am01) (some 86) (some 87) (some 16) 3 29 #[.slice none 0 0,.slice none 0 0,.slice none 0 0,.int .i64 0]
     (fun _ W => Below w9.heap.size w9 W)
     (fun v _ W => Below w9.heap.size w9 W /\ ∃ c : Nat,v = .slice (some ⟨c,0,none⟩) 2 2 /\ Blk W c (cells2 X (opX 17 ⟨some ⟨b,0,none⟩,1,2⟩)) 49)
     (fun v v'' Fp W => Below w9.heap.size w9 W /\ ∃ (y : Dv) (L : Nat) (V : World),v'' = .tuple #[y.agg,.int .i64 0] /\ DgN L V y lm [cmA m,cmN m] /\ NewW L V W /\ ∀ b,L <= b -> b < V.heap.size -> Fp b)
     (by kernel_rfl) (by kernel_rfl) (by kernel_rfl) (by kernel_rfl) ?hrnm01 ?hLm01 rfl rfl (fun _ => rfl) (by decide) rfl rfl (fun _ => rfl) (by decide) (fun W W' h1 h2 => h1.trans (h2.mono h1.size)) qS rfl rfl (fun _ => rfl) (fun a W KK hK => by go_simp; exact hK) (fun _ W W' h1 h2 => h1.trans (h2.mono h1.size)) ?st1m01 ?st2m01 ?step1m01 ?step2m01 ?htk0m01 ?htk1m01 ?hAm01 qS ?hm01
    case htk0m01 | htk1m01 =>
     intro v2 v p Fp W' hF hS H
     refine wpAnyD_tpX (i:=8) (v:=v) (some 79) rfl rfl hS ?_
     refine wpAnyD_tkX (i:=9) (v:=tupA v 0) (some 88) rfl rfl (.inl ⟨by kernel_rfl,fun W' hS => by obtain ⟨_,y,L,V,rfl,_⟩:=hF; go_simp <;> rfl⟩) hS ?_
     refine wpAnyD_tkX (i:=10) (v:=tupA v 1) (some 89) rfl rfl (.inl ⟨by kernel_rfl,fun W' hS => by obtain ⟨_,y,L,V,rfl,_⟩:=hF; go_simp <;> rfl⟩) hS ?_
     exact H
    case hrnm01 => kernel_rfl
    case hLm01 => rfl
    case hAm01 => intro v2 v p q; exact put_over (by decide) (put_over (by decide) (put_over (by decide) (put_over (by decide) (put_over (by decide) (put_twice _ _ _ _)))))
    case st1m01 =>
     rintro v Fp W W' ⟨h1,c,rfl,h2⟩ hb
     exact ⟨h1.trans (hb.mono h1.size),c,rfl,h2.below hb h2.lt⟩
    case st2m01 =>
     rintro v v'' Fp W W' ⟨h1,y,L,V,rfl,h3,h4,h5⟩ hb
     exact ⟨h1.trans (hb.mono h1.size),y,L,V,rfl,h3,h4.trans (NewW.of hb),h5⟩
    case step1m01 =>
     rintro Fp W p hF KK hKK
     have hb : Below W.heap.size W (W.alloc (.cells (cells2 X (opX 17 ⟨some ⟨b,0,none⟩,1,2⟩)) 49)):=(Below.refl _ _).alloc (Nat.le_refl _) _
     have hk:=hKK (.slice (some ⟨W.heap.size,0,none⟩) 2 2) (fun _ => False) (W.alloc (.cells (cells2 X (opX 17 ⟨some ⟨b,0,none⟩,1,2⟩)) 49)) ⟨hF.trans (hb.mono hF.size),W.heap.size,rfl,Blk.new W _ _⟩ (fun _ h => h.elim) hb
     clear hKK hb
     go_simp
     exact hk
    case step2m01 =>
     rintro v1 Fp W p ⟨hF,c,rfl,hq⟩ KK hKK
     have hxx:=HRE.out W hF
     have hyy : ExG W.heap.size W (cmN m) (opX 17 ⟨some ⟨b,0,none⟩,1,2⟩):=exg_oneOf2 (HRX.out W hF) (HRX.out W hF).lt hxx
     have hcall:=dbuild_any W.heap.size (.slice (some ⟨c,0,none⟩) 2 2) [cmA m,cmN m] (g2x X (opX 17 ⟨some ⟨b,0,none⟩,1,2⟩)) W (rows_ex2 hq hq.lt) (fun i a ha => by
      rcases i with _ | _ | i
      ·cases ha; exact hxx
      ·cases ha; exact hyy
      ·cases ha) (fun a ha => by
      simp only [List.mem_cons,List.not_mem_nil,or_false] at ha
      rcases ha with rfl | rfl
      ·exact md_good (cmA_md m).1
      ·exact md_good (cmN_md m).1) (fun a ha => by
      simp only [List.mem_cons,List.not_mem_nil,or_false] at ha
      rcases ha with rfl | rfl
      ·exact (cm_parts m).1
      ·exact (cm_parts m).2) (Nat.le_refl _) (by simp) lm HSm.out.1 (sc_okD HSm.out.2.1 HSm.out.2.2.1) (by have := LM.len HSm.out.2.1; omega) (by have := HSm.out.2.2.2.2; omega) ((HTAB.out.on ((HB24.out.trans ((b4w9.trans (hF.mono b4w9.size)).mono (by omega))).mono hK)).up (by have := b4w9.size; have := hF.size; omega))
     have HCALL:=Lib.hid hcall
     clear hcall hxx hyy hq
     go_simp
     refine HCALL.out.mono ?_
     rintro en w' ⟨y,rfl,hdg,hb⟩
     exact hKK _ (Btw W.heap.size w'.heap.size) w' ⟨hF.trans (hb.mono hF.size),y,W.heap.size,w',rfl,hdg,NewW.refl _ _,fun b h1 h2 => ⟨h1,h2⟩⟩ (fun _ h => .inr h) hb
    case hm01 =>
     rintro v1 v2 Fp k W' ⟨hB,⟨⟨ga,gn,gm⟩,⟨ga2,gn2,gm2⟩,⟨ga3,gn3,gm3⟩,gr⟩,L,V,rfl,hdg,hnw,hFp⟩ hnk _ hq hk hbk
     have h1c : ∀ u ∈ (#[.slice ga gn gm,.slice ga2 gn2 gm2,.slice ga3 gn3 gm3,.int .i64 gr] : Array Value),u.oneCell' = true:=by simp [Value.oneCell']
     have H1C:=Lib.hid h1c
     have hkr : k < L \/ V.heap.size <= k:=by
      by_cases h1 : k < L
      ·exact .inl h1
      ·by_cases h2 : k < V.heap.size
       ·exact absurd (hFp k (by omega) h2) hnk
       ·exact .inr (by omega)
     have HDV2:=Lib.hid (And.intro hdg (And.intro hnw hkr))
     have HQK:=Lib.hid hq
     have HKW:=Lib.hid hk
     clear h1c hdg hnw hFp hnk hq hkr hbk hk
     go_simp
     refine wpAnyD_one (i:=12) (by kernel_rfl) rfl (by kernel_rfl) ?_
     refine wp_store_blkD 29 29 (.tmp 16) (.tmp 88) rfl #[.slice ga gn gm,.slice ga2 gn2 gm2,.slice ga3 gn3 gm3,.int .i64 gr] _ k HQK.out infoDiagN rfl H1C.out rfl rfl ?_
     intro W18 t1 t2 t3 t4
     have bW18 : Below w9.heap.size w9 W18:=hB.trans (t2 _ HKW.out)
     refine ⟨fun _ => bW18,?_⟩
     refine wpAnyD_tkX (i:=13) (v:=.int .i64 0) (some 17) rfl rfl (.inl ⟨by kernel_rfl,fun W' hS => by go_simp <;> rfl⟩) bW18 ?_
     refine wpAnyD_done (by kernel_rfl) ?_ _
     obtain ⟨hdg,hnw,hkr⟩:=HDV2.out
     have hnw2:=hnw.puts t3 hkr
     have HDg : Hid (DgN L W18 ⟨⟨ga,gn,gm⟩,⟨ga2,gn2,gm2⟩,⟨ga3,gn3,gm3⟩,gr⟩ lm [cmA m,cmN m]):=Lib.hid fun X hx => hdg X (hnw2.trans hx)
     have HQg:=Lib.hid t1
     have b4W18 : Below W4.heap.size W4 W18:=b4w9.trans (bW18.mono b4w9.size)
     clear hdg hnw hkr hnw2 t1 t2 t3 t4 HDV2 HQK HKW H1C hB
     obtain ⟨Dg,hDg⟩ : ∃ D,k = D:=⟨_,rfl⟩
     subst hDg
     have HWH:=Lib.hid (cm_whole HSm.out.2.1 HSm.out.2.2.1 HSm.out.2.2.2.1)
     have HGV:=Lib.hid (cm_dgv [cmA m,cmN m] HSm.out.2.1 HSm.out.2.2.1 HSm.out.2.2.2.2)
     have HMG:=Lib.hid (And.intro HSm.out.2.1 HSm.out.2.2.1)
     obtain ⟨lg,hlg⟩ : ∃ l,lm = l:=⟨_,rfl⟩
     have HLG:=Lib.hid hlg
     rw [hlg] at HDg HWH HGV HMG
     clear hlg HSm
     obtain ⟨lm,hlm⟩:=cm_scales HFT.out (b:=cmA m) (.inr rfl)
     have HSa:=Lib.hid hlm
     clear hlm HRX HRE qS
     go_simp
     go_upto_region 19 with fail
     have qS : (fun W' => Below W18.heap.size W18 W') W18.drew:=below_quiet (Below.refl _ _)
     have HRX : Hid (∀ W',Below W18.heap.size W18 W' -> Blk W' b (cells2 X Y) 49):=Lib.hid fun W' hb => (HQB.out.below b4W18 HQB.out.lt).below hb (HQB.out.below b4W18 HQB.out.lt).lt
     have HRE : Hid (∀ W',Below W18.heap.size W18 W' -> ExG W'.heap.size W' (cmA m) X):=Lib.hid fun W' hb => (HX4.out.below b4W18 (by omega) (Nat.le_refl D)).below (Below.refl W18.heap.size W18) (by have := b4W18.size; omega) (show D <= W18.heap.size by have := b4W18.size; omega) |>.below hb (Nat.le_refl _) hb.size
     refine region_plain (fun W' => Below W18.heap.size W18 W') [] (by kernel_rfl) ?_
     refine wpAnyD_tpX (i:=0) (v:=.slice (some ⟨b,0,none⟩) 2 2) (some 91) rfl rfl qS ?_
     refine wpAnyD_tpX (i:=1) (v:=.pointer (some ⟨b,0,none⟩)) (some 92) rfl rfl qS ?_
     refine wpAnyD_tkX (i:=2) (v:=X.agg) (some 93) rfl rfl (yieldsIf_load_mid (by kernel_rfl) 49 (.tmp 92) rfl b 0 (by first | rfl | go_simp) X.cells.toList _ (fun W' hS => blk_fst (HRX.out W' hS)) Tryz.underlying49 rfl infoExN) qS ?_
     refine wpAnyD_tpX (i:=3) (v:=.slice (some ⟨b,0,none⟩) 2 2) (some 94) rfl rfl qS ?_
     refine wpAnyD_tpX (i:=4) (v:=.pointer (some ⟨b,0,none⟩)) (some 95) rfl rfl qS ?_
     refine wpAnyD_tkX (i:=5) (v:=X.agg) (some 96) rfl rfl (yieldsIf_load_mid (by kernel_rfl) 49 (.tmp 95) rfl b 0 (by first | rfl | go_simp) X.cells.toList _ (fun W' hS => blk_fst (HRX.out W' hS)) Tryz.underlying49 rfl infoExN) qS ?_
     go_simp
     refine wpAnyD_chain2X (c1:=6) (c2:=7) (i:=11) (L0:=?L0a01) (L1:=?L1a01) (A:=?Aa01) (some 97) (some 98) (some 18) 3 29 #[.slice none 0 0,.slice none 0 0,.slice none 0 0,.int .i64 0]
      (fun _ W => Below W18.heap.size W18 W)
      (fun v _ W => Below W18.heap.size W18 W /\ ∃ c : Nat,v = .slice (some ⟨c,0,none⟩) 2 2 /\ Blk W c (cells2 X X) 49)
      (fun v v'' Fp W => Below W18.heap.size W18 W /\ ∃ (y : Dv) (L : Nat) (V : World),v'' = .tuple #[y.agg,.int .i64 0] /\ DgN L V y lm [cmA m,cmA m] /\ NewW L V W /\ ∀ b,L <= b -> b < V.heap.size -> Fp b)
      (by kernel_rfl) (by kernel_rfl) (by kernel_rfl) (by kernel_rfl) ?hrna01 ?hLa01 rfl rfl (fun _ => rfl) (by decide) rfl rfl (fun _ => rfl) (by decide) (fun W W' h1 h2 => h1.trans (h2.mono h1.size)) qS rfl rfl (fun _ => rfl) (fun a W KK hK => by go_simp; exact hK) (fun _ W W' h1 h2 => h1.trans (h2.mono h1.size)) ?st1a01 ?st2a01 ?step1a01 ?step2a01 ?htk0a01 ?htk1a01 ?hAa01 qS ?ha01
     case htk0a01 | htk1a01 =>
      intro v2 v p Fp W' hF hS H
      refine wpAnyD_tpX (i:=8) (v:=v) (some 90) rfl rfl hS ?_
      refine wpAnyD_tkX (i:=9) (v:=tupA v 0) (some 99) rfl rfl (.inl ⟨by kernel_rfl,fun W' hS => by obtain ⟨_,y,L,V,rfl,_⟩:=hF; go_simp <;> rfl⟩) hS ?_
      refine wpAnyD_tkX (i:=10) (v:=tupA v 1) (some 100) rfl rfl (.inl ⟨by kernel_rfl,fun W' hS => by obtain ⟨_,y,L,V,rfl,_⟩:=hF; go_simp <;> rfl⟩) hS ?_
      exact H
     case hrna01 => kernel_rfl
     case hLa01 => rfl
     case hAa01 => intro v2 v p q; exact put_over (by decide) (put_over (by decide) (put_over (by decide) (put_over (by decide) (put_over (by decide) (put_twice _ _ _ _)))))
     case st1a01 =>
      rintro v Fp W W' ⟨h1,c,rfl,h2⟩ hb
      exact ⟨h1.trans (hb.mono h1.size),c,rfl,h2.below hb h2.lt⟩
     case st2a01 =>
      rintro v v'' Fp W W' ⟨h1,y,L,V,rfl,h3,h4,h5⟩ hb
      exact ⟨h1.trans (hb.mono h1.size),y,L,V,rfl,h3,h4.trans (NewW.of hb),h5⟩
     case step1a01 =>
      rintro Fp W p hF KK hKK
      have hb : Below W.heap.size W (W.alloc (.cells (cells2 X X) 49)):=(Below.refl _ _).alloc (Nat.le_refl _) _
      have hk:=hKK (.slice (some ⟨W.heap.size,0,none⟩) 2 2) (fun _ => False) (W.alloc (.cells (cells2 X X) 49)) ⟨hF.trans (hb.mono hF.size),W.heap.size,rfl,Blk.new W _ _⟩ (fun _ h => h.elim) hb
      clear hKK hb
      go_simp
      exact hk
     case step2a01 =>
      rintro v1 Fp W p ⟨hF,c,rfl,hq⟩ KK hKK
      have hxx:=HRE.out W hF
      have hyy : ExG W.heap.size W (cmA m) X:=hxx
      have hcall:=dbuild_any W.heap.size (.slice (some ⟨c,0,none⟩) 2 2) [cmA m,cmA m] (g2x X X) W (rows_ex2 hq hq.lt) (fun i a ha => by
       rcases i with _ | _ | i
       ·cases ha; exact hxx
       ·cases ha; exact hyy
       ·cases ha) (fun a ha => by
       simp only [List.mem_cons,List.not_mem_nil,or_false] at ha
       rcases ha with rfl | rfl
       ·exact md_good (cmA_md m).1
       ·exact md_good (cmA_md m).1) (fun a ha => by
       simp only [List.mem_cons,List.not_mem_nil,or_false] at ha
       rcases ha with rfl | rfl
       ·exact (cm_parts m).1
       ·exact (cm_parts m).1) (Nat.le_refl _) (by simp) lm HSa.out.1 (sc_okD HSa.out.2.1 HSa.out.2.2.1) (by have := LM.len HSa.out.2.1; omega) (by have := HSa.out.2.2.2.2; omega) ((HTAB.out.on ((HB24.out.trans ((b4W18.trans (hF.mono b4W18.size)).mono (by omega))).mono hK)).up (by have := b4W18.size; have := hF.size; omega))
      have HCALL:=Lib.hid hcall
      clear hcall hxx hyy hq
      go_simp
      refine HCALL.out.mono ?_
      rintro en w' ⟨y,rfl,hdg,hb⟩
      exact hKK _ (Btw W.heap.size w'.heap.size) w' ⟨hF.trans (hb.mono hF.size),y,W.heap.size,w',rfl,hdg,NewW.refl _ _,fun b h1 h2 => ⟨h1,h2⟩⟩ (fun _ h => .inr h) hb
     case ha01 =>
      rintro v1 v2 Fp k W' ⟨hB,⟨⟨ha,hn,hm⟩,⟨ha2,hn2,hm2⟩,⟨ha3,hn3,hm3⟩,hr⟩,L,V,rfl,hdg,hnw,hFp⟩ hnk _ hq hk hbk
      have h1c : ∀ u ∈ (#[.slice ha hn hm,.slice ha2 hn2 hm2,.slice ha3 hn3 hm3,.int .i64 hr] : Array Value),u.oneCell' = true:=by simp [Value.oneCell']
      have H1C:=Lib.hid h1c
      have hkr : k < L \/ V.heap.size <= k:=by
       by_cases h1 : k < L
       ·exact .inl h1
       ·by_cases h2 : k < V.heap.size
        ·exact absurd (hFp k (by omega) h2) hnk
        ·exact .inr (by omega)
      have HDV2:=Lib.hid (And.intro hdg (And.intro hnw hkr))
      have HQK:=Lib.hid hq
      have HKW:=Lib.hid hk
      clear h1c hdg hnw hFp hnk hq hkr hbk hk
      go_simp
      refine wpAnyD_one (i:=12) (by kernel_rfl) rfl (by kernel_rfl) ?_
      refine wp_store_blkD 29 29 (.tmp 18) (.tmp 99) rfl #[.slice ha hn hm,.slice ha2 hn2 hm2,.slice ha3 hn3 hm3,.int .i64 hr] _ k HQK.out infoDiagN rfl H1C.out rfl rfl ?_
      intro W19 t1 t2 t3 t4
      have bW19 : Below W18.heap.size W18 W19:=hB.trans (t2 _ HKW.out)
      refine ⟨fun _ => bW19,?_⟩
      refine wpAnyD_tkX (i:=13) (v:=.int .i64 0) (some 19) rfl rfl (.inl ⟨by kernel_rfl,fun W' hS => by go_simp <;> rfl⟩) bW19 ?_
      refine wpAnyD_done (by kernel_rfl) ?_ _
      obtain ⟨hdg,hnw,hkr⟩:=HDV2.out
      have hnw2:=hnw.puts t3 hkr
      have HDh : Hid (DgN L W19 ⟨⟨ha,hn,hm⟩,⟨ha2,hn2,hm2⟩,⟨ha3,hn3,hm3⟩,hr⟩ lm [cmA m,cmA m]):=Lib.hid fun X hx => hdg X (hnw2.trans hx)
      have HQh:=Lib.hid t1
      have b4W19 : Below W4.heap.size W4 W19:=b4W18.trans (bW19.mono b4W18.size)
      clear hdg hnw hkr hnw2 t1 t2 t3 t4 HDV2 HQK HKW H1C hB
      obtain ⟨Dh,hDh⟩ : ∃ D,k = D:=⟨_,rfl⟩
      subst hDh
      have HTW:=Lib.hid (cm_twice (m:=m) HSa.out.2.1 HSa.out.2.2.1)
      have HHV:=Lib.hid (cm_dgv [cmA m,cmA m] HSa.out.2.1 HSa.out.2.2.1 HSa.out.2.2.2.2)
      have hQg:=HQg.out.below bW19 HQg.out.lt
      have hDg:=HDg.out.move bW19
      have hcall:=dcomplete_ok W19.heap.size ⟨⟨ga,gn,gm⟩,⟨ga2,gn2,gm2⟩,⟨ga3,gn3,gm3⟩,gr⟩ lg _ _ W19 hDg.now HGV.out (sc_good HMG.out.1 HMG.out.2) (pcs_ok HMG.out.1 HMG.out.2) (Nat.le_refl _)
      dsimp only [Dv.agg,Dv.cells,Sl.val] at hcall
      have HCALL:=Lib.hid hcall
      obtain ⟨c0,c1,c2,c3⟩:=hQg.four
      clear hcall hQg hDg
      go_simp
      go_wp2_with fail
      refine HCALL.out.mono ?_
      clear HCALL c0 c1 c2 c3
      rintro e w20 ⟨⟨r1,rfl,hr1⟩,hb20⟩
      obtain rfl : r1 = true:=hr1.2 HWH.out
      have hQh:=HQh.out.below hb20 HQh.out.lt
      have hDh:=HDh.out.move hb20
      have hcall:=dcomplete_ok w20.heap.size ⟨⟨ha,hn,hm⟩,⟨ha2,hn2,hm2⟩,⟨ha3,hn3,hm3⟩,hr⟩ lm _ _ w20 hDh.now HHV.out (sc_good HSa.out.2.1 HSa.out.2.2.1) (pcs_ok HSa.out.2.1 HSa.out.2.2.1) (Nat.le_refl _)
      dsimp only [Dv.agg,Dv.cells,Sl.val] at hcall
      have HCALL:=Lib.hid hcall
      obtain ⟨c0,c1,c2,c3⟩:=hQh.four
      have b4w20 : Below W4.heap.size W4 w20:=b4W19.trans (hb20.mono b4W19.size)
      clear hcall hQh hDh hr1 hb20
      go_wp2_with fail
      refine HCALL.out.mono ?_
      clear HCALL c0 c1 c2 c3
      rintro e w21 ⟨⟨r2,rfl,hr2⟩,hb21⟩
      obtain rfl : r2 = false:=by
       cases r2 with
       | false => rfl
       | true => exact absurd HTW.out (hr2.1 rfl)
      have bw21 : Below B w w21:=HB24.out.trans ((b4w20.trans (hb21.mono b4w20.size)).mono (by omega))
      have hs21 : B <= w21.heap.size:=by have := bw21.size; have := HB.out; omega
      have ha:=HAW.out B w21 hs21 ((HTAB.out.on (bw21.mono hK)).up hK)
      have HA:=Lib.hid ha
      have HB21:=Lib.hid bw21
      clear ha bw21 hr2 hb21
      go_wp2_with fail
      refine HA.out.mono ?_
      rintro e wf ⟨rfl,hbf⟩
      have bf:=HB21.out.trans (hbf.mono hs21)
      clear hbf HA
      go_wp2_with fail
      go_ret
      exact ⟨rfl,bf⟩
  ·cases y
   ·obtain ⟨csx,lx,hox,hcx,hex,hwx⟩:=HXD.out (by trivial)
    have hb0x : Below w5.heap.size w5 w7:=HB6.out.trans (HB7.out.mono HB6.out.size)
    have hnx:=hox.nats.below hb0x (Nat.le_refl _) hb0x.size
    obtain ⟨kx,hkx⟩ : ∃ k,csx.length = k:=⟨_,rfl⟩
    obtain rfl : xn = kx:=by obtain ⟨_,_,he,_⟩:=id hox.form; simp only [Value.slice.injEq] at he; omega
    have hlx : lx.length = 0:=by simpa using hwx
    have hdgx:=(HDG.out.below b4w7 (by omega) (Nat.le_refl D)).below (Below.refl w7.heap.size w7) (show D <= w7.heap.size by have := b4w7.size; omega) (show D <= w7.heap.size by have := b4w7.size; omega)
    have hcall:=dfind_ok w7.heap.size ⟨⟨sa,sn,sm⟩,⟨da,dn,dm⟩,⟨fa,fn,fm⟩,rr⟩ ls st rt (.slice xa xn xc) csx lx w7 hdgx HDV.out (sc_good HLM.out HLF.out) hnx hcx hex (HLVB.out _ _ hex) (Nat.le_refl _)
    dsimp only [Dv.agg,Dv.cells,Sl.val] at hcall
    have HCALL:=Lib.hid hcall
    have HLV:=Lib.hid hlx
    obtain ⟨c0,c1,c2,c3⟩:=(HQ4.out.below b4w7 hDW).four
    clear hcall hdgx hox hcx hex hwx hb0x hnx hlx
    go_wp2_with fail
    refine HCALL.out.mono ?_
    clear HCALL c0 c1 c2 c3
    rintro e w8 ⟨fvx,rfl,hfx,hbfx⟩
    obtain ⟨fxa,fxc,rfl,_,_⟩:=hfx.form
    obtain ⟨fxn,hfnx⟩ : ∃ k,lx.length = k:=⟨_,rfl⟩
    have hlv:=HLV.out
    rw [hfnx] at hlv ⊢
    have b4w8 : Below W4.heap.size W4 w8:=b4w7.trans (hbfx.mono b4w7.size)
    subst hlv
    have HBFx:=Lib.hid hbfx
    clear hfx hfnx HLV hbfx hkx
    obtain ⟨lm,hlm⟩:=cm_scales HFT.out (b:=cmN m) (.inl rfl)
    have HSm:=Lib.hid hlm
    clear hlm
    go_upto_region 18 with fail
    have qS : (fun W' => Below w8.heap.size w8 W') w8.drew:=below_quiet (Below.refl _ _)
    have HRX : Hid (∀ W',Below w8.heap.size w8 W' -> Blk W' b (cells2 X Y) 49):=Lib.hid fun W' hb => (HQB.out.below b4w8 HQB.out.lt).below hb (HQB.out.below b4w8 HQB.out.lt).lt
    have HRE : Hid (∀ W',Below w8.heap.size w8 W' -> ExG W'.heap.size W' (cmA m) X):=Lib.hid fun W' hb => (HX4.out.below b4w8 (by omega) (Nat.le_refl D)).below (Below.refl w8.heap.size w8) (by have := b4w8.size; omega) (show D <= w8.heap.size by have := b4w8.size; omega) |>.below hb (Nat.le_refl _) hb.size
    refine region_plain (fun W' => Below w8.heap.size w8 W') [] (by kernel_rfl) ?_
    refine wpAnyD_tpX (i:=0) (v:=.slice (some ⟨b,0,none⟩) 2 2) (some 80) rfl rfl qS ?_
    refine wpAnyD_tpX (i:=1) (v:=.pointer (some ⟨b,0,none⟩)) (some 81) rfl rfl qS ?_
    refine wpAnyD_tkX (i:=2) (v:=X.agg) (some 82) rfl rfl (yieldsIf_load_mid (by kernel_rfl) 49 (.tmp 81) rfl b 0 (by first | rfl | go_simp) X.cells.toList _ (fun W' hS => blk_fst (HRX.out W' hS)) Tryz.underlying49 rfl infoExN) qS ?_
    refine wpAnyD_tpX (i:=3) (v:=.slice (some ⟨b,0,none⟩) 2 2) (some 83) rfl rfl qS ?_
    refine wpAnyD_tpX (i:=4) (v:=.slice (some ⟨b,0,none⟩) 1 2) (some 84) rfl rfl qS ?_
    refine wpAnyD_tpX (i:=5) (v:=(opX 17 ⟨some ⟨b,0,none⟩,1,2⟩).agg) (some 85) rfl rfl qS ?_
    go_simp
    refine wpAnyD_chain2X (c1:=6) (c2:=7) (i:=11) (L0:=?L0m10) (L1:=?L1m10) (A:=?Am10) (some 86) (some 87) (some 16) 3 29 #[.slice none 0 0,.slice none 0 0,.slice none 0 0,.int .i64 0]
     (fun _ W => Below w8.heap.size w8 W)
     (fun v _ W => Below w8.heap.size w8 W /\ ∃ c : Nat,v = .slice (some ⟨c,0,none⟩) 2 2 /\ Blk W c (cells2 X (opX 17 ⟨some ⟨b,0,none⟩,1,2⟩)) 49)
     (fun v v'' Fp W => Below w8.heap.size w8 W /\ ∃ (y : Dv) (L : Nat) (V : World),v'' = .tuple #[y.agg,.int .i64 0] /\ DgN L V y lm [cmA m,cmN m] /\ NewW L V W /\ ∀ b,L <= b -> b < V.heap.size -> Fp b)
     (by kernel_rfl) (by kernel_rfl) (by kernel_rfl) (by kernel_rfl) ?hrnm10 ?hLm10 rfl rfl (fun _ => rfl) (by decide) rfl rfl (fun _ => rfl) (by decide) (fun W W' h1 h2 => h1.trans (h2.mono h1.size)) qS rfl rfl (fun _ => rfl) (fun a W KK hK => by go_simp; exact hK) (fun _ W W' h1 h2 => h1.trans (h2.mono h1.size)) ?st1m10 ?st2m10 ?step1m10 ?step2m10 ?htk0m10 ?htk1m10 ?hAm10 qS ?hm10
    case htk0m10 | htk1m10 =>
     intro v2 v p Fp W' hF hS H
     refine wpAnyD_tpX (i:=8) (v:=v) (some 79) rfl rfl hS ?_
     refine wpAnyD_tkX (i:=9) (v:=tupA v 0) (some 88) rfl rfl (.inl ⟨by kernel_rfl,fun W' hS => by obtain ⟨_,y,L,V,rfl,_⟩:=hF; go_simp <;> rfl⟩) hS ?_
     refine wpAnyD_tkX (i:=10) (v:=tupA v 1) (some 89) rfl rfl (.inl ⟨by kernel_rfl,fun W' hS => by obtain ⟨_,y,L,V,rfl,_⟩:=hF; go_simp <;> rfl⟩) hS ?_
     exact H
    case hrnm10 => kernel_rfl
    case hLm10 => rfl
    case hAm10 => intro v2 v p q; exact put_over (by decide) (put_over (by decide) (put_over (by decide) (put_over (by decide) (put_over (by decide) (put_twice _ _ _ _)))))
    case st1m10 =>
     rintro v Fp W W' ⟨h1,c,rfl,h2⟩ hb
     exact ⟨h1.trans (hb.mono h1.size),c,rfl,h2.below hb h2.lt⟩
    case st2m10 =>
     rintro v v'' Fp W W' ⟨h1,y,L,V,rfl,h3,h4,h5⟩ hb
     exact ⟨h1.trans (hb.mono h1.size),y,L,V,rfl,h3,h4.trans (NewW.of hb),h5⟩
    case step1m10 =>
     rintro Fp W p hF KK hKK
     have hb : Below W.heap.size W (W.alloc (.cells (cells2 X (opX 17 ⟨some ⟨b,0,none⟩,1,2⟩)) 49)):=(Below.refl _ _).alloc (Nat.le_refl _) _
     have hk:=hKK (.slice (some ⟨W.heap.size,0,none⟩) 2 2) (fun _ => False) (W.alloc (.cells (cells2 X (opX 17 ⟨some ⟨b,0,none⟩,1,2⟩)) 49)) ⟨hF.trans (hb.mono hF.size),W.heap.size,rfl,Blk.new W _ _⟩ (fun _ h => h.elim) hb
     clear hKK hb
     go_simp
     exact hk
    case step2m10 =>
     rintro v1 Fp W p ⟨hF,c,rfl,hq⟩ KK hKK
     have hxx:=HRE.out W hF
     have hyy : ExG W.heap.size W (cmN m) (opX 17 ⟨some ⟨b,0,none⟩,1,2⟩):=exg_oneOf2 (HRX.out W hF) (HRX.out W hF).lt hxx
     have hcall:=dbuild_any W.heap.size (.slice (some ⟨c,0,none⟩) 2 2) [cmA m,cmN m] (g2x X (opX 17 ⟨some ⟨b,0,none⟩,1,2⟩)) W (rows_ex2 hq hq.lt) (fun i a ha => by
      rcases i with _ | _ | i
      ·cases ha; exact hxx
      ·cases ha; exact hyy
      ·cases ha) (fun a ha => by
      simp only [List.mem_cons,List.not_mem_nil,or_false] at ha
      rcases ha with rfl | rfl
      ·exact md_good (cmA_md m).1
      ·exact md_good (cmN_md m).1) (fun a ha => by
      simp only [List.mem_cons,List.not_mem_nil,or_false] at ha
      rcases ha with rfl | rfl
      ·exact (cm_parts m).1
      ·exact (cm_parts m).2) (Nat.le_refl _) (by simp) lm HSm.out.1 (sc_okD HSm.out.2.1 HSm.out.2.2.1) (by have := LM.len HSm.out.2.1; omega) (by have := HSm.out.2.2.2.2; omega) ((HTAB.out.on ((HB24.out.trans ((b4w8.trans (hF.mono b4w8.size)).mono (by omega))).mono hK)).up (by have := b4w8.size; have := hF.size; omega))
     have HCALL:=Lib.hid hcall
     clear hcall hxx hyy hq
     go_simp
     refine HCALL.out.mono ?_
     rintro en w' ⟨y,rfl,hdg,hb⟩
     exact hKK _ (Btw W.heap.size w'.heap.size) w' ⟨hF.trans (hb.mono hF.size),y,W.heap.size,w',rfl,hdg,NewW.refl _ _,fun b h1 h2 => ⟨h1,h2⟩⟩ (fun _ h => .inr h) hb
    case hm10 =>
     rintro v1 v2 Fp k W' ⟨hB,⟨⟨ga,gn,gm⟩,⟨ga2,gn2,gm2⟩,⟨ga3,gn3,gm3⟩,gr⟩,L,V,rfl,hdg,hnw,hFp⟩ hnk _ hq hk hbk
     have h1c : ∀ u ∈ (#[.slice ga gn gm,.slice ga2 gn2 gm2,.slice ga3 gn3 gm3,.int .i64 gr] : Array Value),u.oneCell' = true:=by simp [Value.oneCell']
     have H1C:=Lib.hid h1c
     have hkr : k < L \/ V.heap.size <= k:=by
      by_cases h1 : k < L
      ·exact .inl h1
      ·by_cases h2 : k < V.heap.size
       ·exact absurd (hFp k (by omega) h2) hnk
       ·exact .inr (by omega)
     have HDV2:=Lib.hid (And.intro hdg (And.intro hnw hkr))
     have HQK:=Lib.hid hq
     have HKW:=Lib.hid hk
     clear h1c hdg hnw hFp hnk hq hkr hbk hk
     go_simp
     refine wpAnyD_one (i:=12) (by kernel_rfl) rfl (by kernel_rfl) ?_
     refine wp_store_blkD 29 29 (.tmp 16) (.tmp 88) rfl #[.slice ga gn gm,.slice ga2 gn2 gm2,.slice ga3 gn3 gm3,.int .i64 gr] _ k HQK.out infoDiagN rfl H1C.out rfl rfl ?_
     intro W18 t1 t2 t3 t4
     have bW18 : Below w8.heap.size w8 W18:=hB.trans (t2 _ HKW.out)
     refine ⟨fun _ => bW18,?_⟩
     refine wpAnyD_tkX (i:=13) (v:=.int .i64 0) (some 17) rfl rfl (.inl ⟨by kernel_rfl,fun W' hS => by go_simp <;> rfl⟩) bW18 ?_
     refine wpAnyD_done (by kernel_rfl) ?_ _
     obtain ⟨hdg,hnw,hkr⟩:=HDV2.out
     have hnw2:=hnw.puts t3 hkr
     have HDg : Hid (DgN L W18 ⟨⟨ga,gn,gm⟩,⟨ga2,gn2,gm2⟩,⟨ga3,gn3,gm3⟩,gr⟩ lm [cmA m,cmN m]):=Lib.hid fun X hx => hdg X (hnw2.trans hx)
     have HQg:=Lib.hid t1
     have b4W18 : Below W4.heap.size W4 W18:=b4w8.trans (bW18.mono b4w8.size)
     clear hdg hnw hkr hnw2 t1 t2 t3 t4 HDV2 HQK HKW H1C hB
     obtain ⟨Dg,hDg⟩ : ∃ D,k = D:=⟨_,rfl⟩
     subst hDg
     have HWH:=Lib.hid (cm_whole HSm.out.2.1 HSm.out.2.2.1 HSm.out.2.2.2.1)
     have HGV:=Lib.hid (cm_dgv [cmA m,cmN m] HSm.out.2.1 HSm.out.2.2.1 HSm.out.2.2.2.2)
     have HMG:=Lib.hid (And.intro HSm.out.2.1 HSm.out.2.2.1)
     obtain ⟨lg,hlg⟩ : ∃ l,lm = l:=⟨_,rfl⟩
     have HLG:=Lib.hid hlg
     rw [hlg] at HDg HWH HGV HMG
     clear hlg HSm
     obtain ⟨lm,hlm⟩:=cm_scales HFT.out (b:=cmA m) (.inr rfl)
     have HSa:=Lib.hid hlm
     clear hlm HRX HRE qS
     go_simp
     go_upto_region 19 with fail
     have qS : (fun W' => Below W18.heap.size W18 W') W18.drew:=below_quiet (Below.refl _ _)
     have HRX : Hid (∀ W',Below W18.heap.size W18 W' -> Blk W' b (cells2 X Y) 49):=Lib.hid fun W' hb => (HQB.out.below b4W18 HQB.out.lt).below hb (HQB.out.below b4W18 HQB.out.lt).lt
     have HRE : Hid (∀ W',Below W18.heap.size W18 W' -> ExG W'.heap.size W' (cmA m) X):=Lib.hid fun W' hb => (HX4.out.below b4W18 (by omega) (Nat.le_refl D)).below (Below.refl W18.heap.size W18) (by have := b4W18.size; omega) (show D <= W18.heap.size by have := b4W18.size; omega) |>.below hb (Nat.le_refl _) hb.size
     refine region_plain (fun W' => Below W18.heap.size W18 W') [] (by kernel_rfl) ?_
     refine wpAnyD_tpX (i:=0) (v:=.slice (some ⟨b,0,none⟩) 2 2) (some 91) rfl rfl qS ?_
     refine wpAnyD_tpX (i:=1) (v:=.pointer (some ⟨b,0,none⟩)) (some 92) rfl rfl qS ?_
     refine wpAnyD_tkX (i:=2) (v:=X.agg) (some 93) rfl rfl (yieldsIf_load_mid (by kernel_rfl) 49 (.tmp 92) rfl b 0 (by first | rfl | go_simp) X.cells.toList _ (fun W' hS => blk_fst (HRX.out W' hS)) Tryz.underlying49 rfl infoExN) qS ?_
     refine wpAnyD_tpX (i:=3) (v:=.slice (some ⟨b,0,none⟩) 2 2) (some 94) rfl rfl qS ?_
     refine wpAnyD_tpX (i:=4) (v:=.pointer (some ⟨b,0,none⟩)) (some 95) rfl rfl qS ?_
     refine wpAnyD_tkX (i:=5) (v:=X.agg) (some 96) rfl rfl (yieldsIf_load_mid (by kernel_rfl) 49 (.tmp 95) rfl b 0 (by first | rfl | go_simp) X.cells.toList _ (fun W' hS => blk_fst (HRX.out W' hS)) Tryz.underlying49 rfl infoExN) qS ?_
     go_simp
     refine wpAnyD_chain2X (c1:=6) (c2:=7) (i:=11) (L0:=?L0a10) (L1:=?L1a10) (A:=?Aa10) (some 97) (some 98) (some 18) 3 29 #[.slice none 0 0,.slice none 0 0,.slice none 0 0,.int .i64 0]
      (fun _ W => Below W18.heap.size W18 W)
      (fun v _ W => Below W18.heap.size W18 W /\ ∃ c : Nat,v = .slice (some ⟨c,0,none⟩) 2 2 /\ Blk W c (cells2 X X) 49)
      (fun v v'' Fp W => Below W18.heap.size W18 W /\ ∃ (y : Dv) (L : Nat) (V : World),v'' = .tuple #[y.agg,.int .i64 0] /\ DgN L V y lm [cmA m,cmA m] /\ NewW L V W /\ ∀ b,L <= b -> b < V.heap.size -> Fp b)
      (by kernel_rfl) (by kernel_rfl) (by kernel_rfl) (by kernel_rfl) ?hrna10 ?hLa10 rfl rfl (fun _ => rfl) (by decide) rfl rfl (fun _ => rfl) (by decide) (fun W W' h1 h2 => h1.trans (h2.mono h1.size)) qS rfl rfl (fun _ => rfl) (fun a W KK hK => by go_simp; exact hK) (fun _ W W' h1 h2 => h1.trans (h2.mono h1.size)) ?st1a10 ?st2a10 ?step1a10 ?step2a10 ?htk0a10 ?htk1a10 ?hAa10 qS ?ha10
     case htk0a10 | htk1a10 =>
      intro v2 v p Fp W' hF hS H
      refine wpAnyD_tpX (i:=8) (v:=v) (some 90) rfl rfl hS ?_
      refine wpAnyD_tkX (i:=9) (v:=tupA v 0) (some 99) rfl rfl (.inl ⟨by kernel_rfl,fun W' hS => by obtain ⟨_,y,L,V,rfl,_⟩:=hF; go_simp <;> rfl⟩) hS ?_
      refine wpAnyD_tkX (i:=10) (v:=tupA v 1) (some 100) rfl rfl (.inl ⟨by kernel_rfl,fun W' hS => by obtain ⟨_,y,L,V,rfl,_⟩:=hF; go_simp <;> rfl⟩) hS ?_
      exact H
     case hrna10 => kernel_rfl
     case hLa10 => rfl
     case hAa10 => intro v2 v p q; exact put_over (by decide) (put_over (by decide) (put_over (by decide) (put_over (by decide) (put_over (by decide) (put_twice _ _ _ _)))))
     case st1a10 =>
      rintro v Fp W W' ⟨h1,c,rfl,h2⟩ hb
      exact ⟨h1.trans (hb.mono h1.size),c,rfl,h2.below hb h2.lt⟩
     case st2a10 =>
      rintro v v'' Fp W W' ⟨h1,y,L,V,rfl,h3,h4,h5⟩ hb
      exact ⟨h1.trans (hb.mono h1.size),y,L,V,rfl,h3,h4.trans (NewW.of hb),h5⟩
     case step1a10 =>
      rintro Fp W p hF KK hKK
      have hb : Below W.heap.size W (W.alloc (.cells (cells2 X X) 49)):=(Below.refl _ _).alloc (Nat.le_refl _) _
      have hk:=hKK (.slice (some ⟨W.heap.size,0,none⟩) 2 2) (fun _ => False) (W.alloc (.cells (cells2 X X) 49)) ⟨hF.trans (hb.mono hF.size),W.heap.size,rfl,Blk.new W _ _⟩ (fun _ h => h.elim) hb
      clear hKK hb
      go_simp
      exact hk
     case step2a10 =>
      rintro v1 Fp W p ⟨hF,c,rfl,hq⟩ KK hKK
      have hxx:=HRE.out W hF
      have hyy : ExG W.heap.size W (cmA m) X:=hxx
      have hcall:=dbuild_any W.heap.size (.slice (some ⟨c,0,none⟩) 2 2) [cmA m,cmA m] (g2x X X) W (rows_ex2 hq hq.lt) (fun i a ha => by
       rcases i with _ | _ | i
       ·cases ha; exact hxx
       ·cases ha; exact hyy
       ·cases ha) (fun a ha => by
       simp only [List.mem_cons,List.not_mem_nil,or_false] at ha
       rcases ha with rfl | rfl
       ·exact md_good (cmA_md m).1
       ·exact md_good (cmA_md m).1) (fun a ha => by
       simp only [List.mem_cons,List.not_mem_nil,or_false] at ha
       rcases ha with rfl | rfl
       ·exact (cm_parts m).1
       ·exact (cm_parts m).1) (Nat.le_refl _) (by simp) lm HSa.out.1 (sc_okD HSa.out.2.1 HSa.out.2.2.1) (by have := LM.len HSa.out.2.1; omega) (by have := HSa.out.2.2.2.2; omega) ((HTAB.out.on ((HB24.out.trans ((b4W18.trans (hF.mono b4W18.size)).mono (by omega))).mono hK)).up (by have := b4W18.size; have := hF.size; omega))
      have HCALL:=Lib.hid hcall
      clear hcall hxx hyy hq
      go_simp
      refine HCALL.out.mono ?_
      rintro en w' ⟨y,rfl,hdg,hb⟩
      exact hKK _ (Btw W.heap.size w'.heap.size) w' ⟨hF.trans (hb.mono hF.size),y,W.heap.size,w',rfl,hdg,NewW.refl _ _,fun b h1 h2 => ⟨h1,h2⟩⟩ (fun _ h => .inr h) hb
     case ha10 =>
      rintro v1 v2 Fp k W' ⟨hB,⟨⟨ha,hn,hm⟩,⟨ha2,hn2,hm2⟩,⟨ha3,hn3,hm3⟩,hr⟩,L,V,rfl,hdg,hnw,hFp⟩ hnk _ hq hk hbk
      have h1c : ∀ u ∈ (#[.slice ha hn hm,.slice ha2 hn2 hm2,.slice ha3 hn3 hm3,.int .i64 hr] : Array Value),u.oneCell' = true:=by simp [Value.oneCell']
      have H1C:=Lib.hid h1c
      have hkr : k < L \/ V.heap.size <= k:=by
       by_cases h1 : k < L
       ·exact .inl h1
       ·by_cases h2 : k < V.heap.size
        ·exact absurd (hFp k (by omega) h2) hnk
        ·exact .inr (by omega)
      have HDV2:=Lib.hid (And.intro hdg (And.intro hnw hkr))
      have HQK:=Lib.hid hq
      have HKW:=Lib.hid hk
      clear h1c hdg hnw hFp hnk hq hkr hbk hk
      go_simp
      refine wpAnyD_one (i:=12) (by kernel_rfl) rfl (by kernel_rfl) ?_
      refine wp_store_blkD 29 29 (.tmp 18) (.tmp 99) rfl #[.slice ha hn hm,.slice ha2 hn2 hm2,.slice ha3 hn3 hm3,.int .i64 hr] _ k HQK.out infoDiagN rfl H1C.out rfl rfl ?_
      intro W19 t1 t2 t3 t4
      have bW19 : Below W18.heap.size W18 W19:=hB.trans (t2 _ HKW.out)
      refine ⟨fun _ => bW19,?_⟩
      refine wpAnyD_tkX (i:=13) (v:=.int .i64 0) (some 19) rfl rfl (.inl ⟨by kernel_rfl,fun W' hS => by go_simp <;> rfl⟩) bW19 ?_
      refine wpAnyD_done (by kernel_rfl) ?_ _
      obtain ⟨hdg,hnw,hkr⟩:=HDV2.out
      have hnw2:=hnw.puts t3 hkr
      have HDh : Hid (DgN L W19 ⟨⟨ha,hn,hm⟩,⟨ha2,hn2,hm2⟩,⟨ha3,hn3,hm3⟩,hr⟩ lm [cmA m,cmA m]):=Lib.hid fun X hx => hdg X (hnw2.trans hx)
      have HQh:=Lib.hid t1
      have b4W19 : Below W4.heap.size W4 W19:=b4W18.trans (bW19.mono b4W18.size)
      clear hdg hnw hkr hnw2 t1 t2 t3 t4 HDV2 HQK HKW H1C hB
      obtain ⟨Dh,hDh⟩ : ∃ D,k = D:=⟨_,rfl⟩
      subst hDh
      have HTW:=Lib.hid (cm_twice (m:=m) HSa.out.2.1 HSa.out.2.2.1)
      have HHV:=Lib.hid (cm_dgv [cmA m,cmA m] HSa.out.2.1 HSa.out.2.2.1 HSa.out.2.2.2.2)
      have hQg:=HQg.out.below bW19 HQg.out.lt
      have hDg:=HDg.out.move bW19
      have hcall:=dcomplete_ok W19.heap.size ⟨⟨ga,gn,gm⟩,⟨ga2,gn2,gm2⟩,⟨ga3,gn3,gm3⟩,gr⟩ lg _ _ W19 hDg.now HGV.out (sc_good HMG.out.1 HMG.out.2) (pcs_ok HMG.out.1 HMG.out.2) (Nat.le_refl _)
      dsimp only [Dv.agg,Dv.cells,Sl.val] at hcall
      have HCALL:=Lib.hid hcall
      obtain ⟨c0,c1,c2,c3⟩:=hQg.four
      clear hcall hQg hDg
      go_simp
      go_wp2_with fail
      refine HCALL.out.mono ?_
      clear HCALL c0 c1 c2 c3
      rintro e w20 ⟨⟨r1,rfl,hr1⟩,hb20⟩
      obtain rfl : r1 = true:=hr1.2 HWH.out
      have hQh:=HQh.out.below hb20 HQh.out.lt
      have hDh:=HDh.out.move hb20
      have hcall:=dcomplete_ok w20.heap.size ⟨⟨ha,hn,hm⟩,⟨ha2,hn2,hm2⟩,⟨ha3,hn3,hm3⟩,hr⟩ lm _ _ w20 hDh.now HHV.out (sc_good HSa.out.2.1 HSa.out.2.2.1) (pcs_ok HSa.out.2.1 HSa.out.2.2.1) (Nat.le_refl _)
      dsimp only [Dv.agg,Dv.cells,Sl.val] at hcall
      have HCALL:=Lib.hid hcall
      obtain ⟨c0,c1,c2,c3⟩:=hQh.four
      have b4w20 : Below W4.heap.size W4 w20:=b4W19.trans (hb20.mono b4W19.size)
      clear hcall hQh hDh hr1 hb20
      go_wp2_with fail
      refine HCALL.out.mono ?_
      clear HCALL c0 c1 c2 c3
      rintro e w21 ⟨⟨r2,rfl,hr2⟩,hb21⟩
      obtain rfl : r2 = false:=by
       cases r2 with
       | false => rfl
       | true => exact absurd HTW.out (hr2.1 rfl)
      have bw21 : Below B w w21:=HB24.out.trans ((b4w20.trans (hb21.mono b4w20.size)).mono (by omega))
      have hs21 : B <= w21.heap.size:=by have := bw21.size; have := HB.out; omega
      have ha:=HAW.out B w21 hs21 ((HTAB.out.on (bw21.mono hK)).up hK)
      have HA:=Lib.hid ha
      have HB21:=Lib.hid bw21
      clear ha bw21 hr2 hb21
      go_wp2_with fail
      refine HA.out.mono ?_
      rintro e wf ⟨rfl,hbf⟩
      have bf:=HB21.out.trans (hbf.mono hs21)
      clear hbf HA
      go_wp2_with fail
      go_ret
      exact ⟨rfl,bf⟩
   ·obtain ⟨csx,lx,hox,hcx,hex,hwx⟩:=HXD.out (by trivial)
    have hb0x : Below w5.heap.size w5 w7:=HB6.out.trans (HB7.out.mono HB6.out.size)
    have hnx:=hox.nats.below hb0x (Nat.le_refl _) hb0x.size
    obtain ⟨kx,hkx⟩ : ∃ k,csx.length = k:=⟨_,rfl⟩
    obtain rfl : xn = kx:=by obtain ⟨_,_,he,_⟩:=id hox.form; simp only [Value.slice.injEq] at he; omega
    have hlx : lx.length = 0:=by simpa using hwx
    have hdgx:=(HDG.out.below b4w7 (by omega) (Nat.le_refl D)).below (Below.refl w7.heap.size w7) (show D <= w7.heap.size by have := b4w7.size; omega) (show D <= w7.heap.size by have := b4w7.size; omega)
    have hcall:=dfind_ok w7.heap.size ⟨⟨sa,sn,sm⟩,⟨da,dn,dm⟩,⟨fa,fn,fm⟩,rr⟩ ls st rt (.slice xa xn xc) csx lx w7 hdgx HDV.out (sc_good HLM.out HLF.out) hnx hcx hex (HLVB.out _ _ hex) (Nat.le_refl _)
    dsimp only [Dv.agg,Dv.cells,Sl.val] at hcall
    have HCALL:=Lib.hid hcall
    have HLV:=Lib.hid hlx
    obtain ⟨c0,c1,c2,c3⟩:=(HQ4.out.below b4w7 hDW).four
    clear hcall hdgx hox hcx hex hwx hb0x hnx hlx
    go_wp2_with fail
    refine HCALL.out.mono ?_
    clear HCALL c0 c1 c2 c3
    rintro e w8 ⟨fvx,rfl,hfx,hbfx⟩
    obtain ⟨fxa,fxc,rfl,_,_⟩:=hfx.form
    obtain ⟨fxn,hfnx⟩ : ∃ k,lx.length = k:=⟨_,rfl⟩
    have hlv:=HLV.out
    rw [hfnx] at hlv ⊢
    have b4w8 : Below W4.heap.size W4 w8:=b4w7.trans (hbfx.mono b4w7.size)
    subst hlv
    have HBFx:=Lib.hid hbfx
    clear hfx hfnx HLV hbfx hkx
    obtain ⟨csy,ly,hoy,hcy,hey,hwy⟩:=HYD.out (by trivial)
    have hb0y : Below w6.heap.size w6 w8:=HB7.out.trans (HBFx.out.mono HB7.out.size)
    have hny:=hoy.nats.below hb0y (Nat.le_refl _) hb0y.size
    obtain ⟨ky,hky⟩ : ∃ k,csy.length = k:=⟨_,rfl⟩
    obtain rfl : yn = ky:=by obtain ⟨_,_,he,_⟩:=id hoy.form; simp only [Value.slice.injEq] at he; omega
    have hly : 1 < ly.length:=by simpa using hwy
    have hdgx:=(HDG.out.below b4w8 (by omega) (Nat.le_refl D)).below (Below.refl w8.heap.size w8) (show D <= w8.heap.size by have := b4w8.size; omega) (show D <= w8.heap.size by have := b4w8.size; omega)
    have hcall:=dfind_ok w8.heap.size ⟨⟨sa,sn,sm⟩,⟨da,dn,dm⟩,⟨fa,fn,fm⟩,rr⟩ ls st rt (.slice ya yn yc) csy ly w8 hdgx HDV.out (sc_good HLM.out HLF.out) hny hcy hey (HLVB.out _ _ hey) (Nat.le_refl _)
    dsimp only [Dv.agg,Dv.cells,Sl.val] at hcall
    have HCALL:=Lib.hid hcall
    have HLV:=Lib.hid hly
    obtain ⟨c0,c1,c2,c3⟩:=(HQ4.out.below b4w8 hDW).four
    clear hcall hdgx hoy hcy hey hwy hb0y hny hly
    go_wp2_with fail
    refine HCALL.out.mono ?_
    clear HCALL c0 c1 c2 c3
    rintro e w9 ⟨fvy,rfl,hfy,hbfy⟩
    obtain ⟨fya,fyc,rfl,_,_⟩:=hfy.form
    obtain ⟨fyn,hfny⟩ : ∃ k,ly.length = k:=⟨_,rfl⟩
    have hlv:=HLV.out
    rw [hfny] at hlv ⊢
    have b4w9 : Below W4.heap.size W4 w9:=b4w8.trans (hbfy.mono b4w8.size)
    have t2 : decide ((fyn : Int) < 2) = false:=decide_eq_false (by omega)
    have HBFy:=Lib.hid hbfy
    clear hfy hfny HLV hbfy hky hlv
    obtain ⟨lm,hlm⟩:=cm_scales HFT.out (b:=cmN m) (.inl rfl)
    have HSm:=Lib.hid hlm
    clear hlm
    go_upto_region 18 with fail
    have qS : (fun W' => Below w9.heap.size w9 W') w9.drew:=below_quiet (Below.refl _ _)
    have HRX : Hid (∀ W',Below w9.heap.size w9 W' -> Blk W' b (cells2 X Y) 49):=Lib.hid fun W' hb => (HQB.out.below b4w9 HQB.out.lt).below hb (HQB.out.below b4w9 HQB.out.lt).lt
    have HRE : Hid (∀ W',Below w9.heap.size w9 W' -> ExG W'.heap.size W' (cmA m) X):=Lib.hid fun W' hb => (HX4.out.below b4w9 (by omega) (Nat.le_refl D)).below (Below.refl w9.heap.size w9) (by have := b4w9.size; omega) (show D <= w9.heap.size by have := b4w9.size; omega) |>.below hb (Nat.le_refl _) hb.size
    refine region_plain (fun W' => Below w9.heap.size w9 W') [] (by kernel_rfl) ?_
    refine wpAnyD_tpX (i:=0) (v:=.slice (some ⟨b,0,none⟩) 2 2) (some 80) rfl rfl qS ?_
    refine wpAnyD_tpX (i:=1) (v:=.pointer (some ⟨b,0,none⟩)) (some 81) rfl rfl qS ?_
    refine wpAnyD_tkX (i:=2) (v:=X.agg) (some 82) rfl rfl (yieldsIf_load_mid (by kernel_rfl) 49 (.tmp 81) rfl b 0 (by first | rfl | go_simp) X.cells.toList _ (fun W' hS => blk_fst (HRX.out W' hS)) Tryz.underlying49 rfl infoExN) qS ?_
    refine wpAnyD_tpX (i:=3) (v:=.slice (some ⟨b,0,none⟩) 2 2) (some 83) rfl rfl qS ?_
    refine wpAnyD_tpX (i:=4) (v:=.slice (some ⟨b,0,none⟩) 1 2) (some 84) rfl rfl qS ?_
    refine wpAnyD_tpX (i:=5) (v:=(opX 17 ⟨some ⟨b,0,none⟩,1,2⟩).agg) (some 85) rfl rfl qS ?_
    go_simp
    refine wpAnyD_chain2X (c1:=6) (c2:=7) (i:=11) (L0:=?L0m11) (L1:=?L1m11) (A:=?Am11) (some 86) (some 87) (some 16) 3 29 #[.slice none 0 0,.slice none 0 0,.slice none 0 0,.int .i64 0]
     (fun _ W => Below w9.heap.size w9 W)
     (fun v _ W => Below w9.heap.size w9 W /\ ∃ c : Nat,v = .slice (some ⟨c,0,none⟩) 2 2 /\ Blk W c (cells2 X (opX 17 ⟨some ⟨b,0,none⟩,1,2⟩)) 49)
     (fun v v'' Fp W => Below w9.heap.size w9 W /\ ∃ (y : Dv) (L : Nat) (V : World),v'' = .tuple #[y.agg,.int .i64 0] /\ DgN L V y lm [cmA m,cmN m] /\ NewW L V W /\ ∀ b,L <= b -> b < V.heap.size -> Fp b)
     (by kernel_rfl) (by kernel_rfl) (by kernel_rfl) (by kernel_rfl) ?hrnm11 ?hLm11 rfl rfl (fun _ => rfl) (by decide) rfl rfl (fun _ => rfl) (by decide) (fun W W' h1 h2 => h1.trans (h2.mono h1.size)) qS rfl rfl (fun _ => rfl) (fun a W KK hK => by go_simp; exact hK) (fun _ W W' h1 h2 => h1.trans (h2.mono h1.size)) ?st1m11 ?st2m11 ?step1m11 ?step2m11 ?htk0m11 ?htk1m11 ?hAm11 qS ?hm11
    case htk0m11 | htk1m11 =>
     intro v2 v p Fp W' hF hS H
     refine wpAnyD_tpX (i:=8) (v:=v) (some 79) rfl rfl hS ?_
     refine wpAnyD_tkX (i:=9) (v:=tupA v 0) (some 88) rfl rfl (.inl ⟨by kernel_rfl,fun W' hS => by obtain ⟨_,y,L,V,rfl,_⟩:=hF; go_simp <;> rfl⟩) hS ?_
     refine wpAnyD_tkX (i:=10) (v:=tupA v 1) (some 89) rfl rfl (.inl ⟨by kernel_rfl,fun W' hS => by obtain ⟨_,y,L,V,rfl,_⟩:=hF; go_simp <;> rfl⟩) hS ?_
     exact H
    case hrnm11 => kernel_rfl
    case hLm11 => rfl
    case hAm11 => intro v2 v p q; exact put_over (by decide) (put_over (by decide) (put_over (by decide) (put_over (by decide) (put_over (by decide) (put_twice _ _ _ _)))))
    case st1m11 =>
     rintro v Fp W W' ⟨h1,c,rfl,h2⟩ hb
     exact ⟨h1.trans (hb.mono h1.size),c,rfl,h2.below hb h2.lt⟩
    case st2m11 =>
     rintro v v'' Fp W W' ⟨h1,y,L,V,rfl,h3,h4,h5⟩ hb
     exact ⟨h1.trans (hb.mono h1.size),y,L,V,rfl,h3,h4.trans (NewW.of hb),h5⟩
    case step1m11 =>
     rintro Fp W p hF KK hKK
     have hb : Below W.heap.size W (W.alloc (.cells (cells2 X (opX 17 ⟨some ⟨b,0,none⟩,1,2⟩)) 49)):=(Below.refl _ _).alloc (Nat.le_refl _) _
     have hk:=hKK (.slice (some ⟨W.heap.size,0,none⟩) 2 2) (fun _ => False) (W.alloc (.cells (cells2 X (opX 17 ⟨some ⟨b,0,none⟩,1,2⟩)) 49)) ⟨hF.trans (hb.mono hF.size),W.heap.size,rfl,Blk.new W _ _⟩ (fun _ h => h.elim) hb
     clear hKK hb
     go_simp
     exact hk
    case step2m11 =>
     rintro v1 Fp W p ⟨hF,c,rfl,hq⟩ KK hKK
     have hxx:=HRE.out W hF
     have hyy : ExG W.heap.size W (cmN m) (opX 17 ⟨some ⟨b,0,none⟩,1,2⟩):=exg_oneOf2 (HRX.out W hF) (HRX.out W hF).lt hxx
     have hcall:=dbuild_any W.heap.size (.slice (some ⟨c,0,none⟩) 2 2) [cmA m,cmN m] (g2x X (opX 17 ⟨some ⟨b,0,none⟩,1,2⟩)) W (rows_ex2 hq hq.lt) (fun i a ha => by
      rcases i with _ | _ | i
      ·cases ha; exact hxx
      ·cases ha; exact hyy
      ·cases ha) (fun a ha => by
      simp only [List.mem_cons,List.not_mem_nil,or_false] at ha
      rcases ha with rfl | rfl
      ·exact md_good (cmA_md m).1
      ·exact md_good (cmN_md m).1) (fun a ha => by
      simp only [List.mem_cons,List.not_mem_nil,or_false] at ha
      rcases ha with rfl | rfl
      ·exact (cm_parts m).1
      ·exact (cm_parts m).2) (Nat.le_refl _) (by simp) lm HSm.out.1 (sc_okD HSm.out.2.1 HSm.out.2.2.1) (by have := LM.len HSm.out.2.1; omega) (by have := HSm.out.2.2.2.2; omega) ((HTAB.out.on ((HB24.out.trans ((b4w9.trans (hF.mono b4w9.size)).mono (by omega))).mono hK)).up (by have := b4w9.size; have := hF.size; omega))
     have HCALL:=Lib.hid hcall
     clear hcall hxx hyy hq
     go_simp
     refine HCALL.out.mono ?_
     rintro en w' ⟨y,rfl,hdg,hb⟩
     exact hKK _ (Btw W.heap.size w'.heap.size) w' ⟨hF.trans (hb.mono hF.size),y,W.heap.size,w',rfl,hdg,NewW.refl _ _,fun b h1 h2 => ⟨h1,h2⟩⟩ (fun _ h => .inr h) hb
    case hm11 =>
     rintro v1 v2 Fp k W' ⟨hB,⟨⟨ga,gn,gm⟩,⟨ga2,gn2,gm2⟩,⟨ga3,gn3,gm3⟩,gr⟩,L,V,rfl,hdg,hnw,hFp⟩ hnk _ hq hk hbk
     have h1c : ∀ u ∈ (#[.slice ga gn gm,.slice ga2 gn2 gm2,.slice ga3 gn3 gm3,.int .i64 gr] : Array Value),u.oneCell' = true:=by simp [Value.oneCell']
     have H1C:=Lib.hid h1c
     have hkr : k < L \/ V.heap.size <= k:=by
      by_cases h1 : k < L
      ·exact .inl h1
      ·by_cases h2 : k < V.heap.size
       ·exact absurd (hFp k (by omega) h2) hnk
       ·exact .inr (by omega)
     have HDV2:=Lib.hid (And.intro hdg (And.intro hnw hkr))
     have HQK:=Lib.hid hq
     have HKW:=Lib.hid hk
     clear h1c hdg hnw hFp hnk hq hkr hbk hk
     go_simp
     refine wpAnyD_one (i:=12) (by kernel_rfl) rfl (by kernel_rfl) ?_
     refine wp_store_blkD 29 29 (.tmp 16) (.tmp 88) rfl #[.slice ga gn gm,.slice ga2 gn2 gm2,.slice ga3 gn3 gm3,.int .i64 gr] _ k HQK.out infoDiagN rfl H1C.out rfl rfl ?_
     intro W18 t1 t2 t3 t4
     have bW18 : Below w9.heap.size w9 W18:=hB.trans (t2 _ HKW.out)
     refine ⟨fun _ => bW18,?_⟩
     refine wpAnyD_tkX (i:=13) (v:=.int .i64 0) (some 17) rfl rfl (.inl ⟨by kernel_rfl,fun W' hS => by go_simp <;> rfl⟩) bW18 ?_
     refine wpAnyD_done (by kernel_rfl) ?_ _
     obtain ⟨hdg,hnw,hkr⟩:=HDV2.out
     have hnw2:=hnw.puts t3 hkr
     have HDg : Hid (DgN L W18 ⟨⟨ga,gn,gm⟩,⟨ga2,gn2,gm2⟩,⟨ga3,gn3,gm3⟩,gr⟩ lm [cmA m,cmN m]):=Lib.hid fun X hx => hdg X (hnw2.trans hx)
     have HQg:=Lib.hid t1
     have b4W18 : Below W4.heap.size W4 W18:=b4w9.trans (bW18.mono b4w9.size)
     clear hdg hnw hkr hnw2 t1 t2 t3 t4 HDV2 HQK HKW H1C hB
     obtain ⟨Dg,hDg⟩ : ∃ D,k = D:=⟨_,rfl⟩
     subst hDg
     have HWH:=Lib.hid (cm_whole HSm.out.2.1 HSm.out.2.2.1 HSm.out.2.2.2.1)
     have HGV:=Lib.hid (cm_dgv [cmA m,cmN m] HSm.out.2.1 HSm.out.2.2.1 HSm.out.2.2.2.2)
     have HMG:=Lib.hid (And.intro HSm.out.2.1 HSm.out.2.2.1)
     obtain ⟨lg,hlg⟩ : ∃ l,lm = l:=⟨_,rfl⟩
     have HLG:=Lib.hid hlg
     rw [hlg] at HDg HWH HGV HMG
     clear hlg HSm
     obtain ⟨lm,hlm⟩:=cm_scales HFT.out (b:=cmA m) (.inr rfl)
     have HSa:=Lib.hid hlm
     clear hlm HRX HRE qS
     go_simp
     go_upto_region 19 with fail
     have qS : (fun W' => Below W18.heap.size W18 W') W18.drew:=below_quiet (Below.refl _ _)
     have HRX : Hid (∀ W',Below W18.heap.size W18 W' -> Blk W' b (cells2 X Y) 49):=Lib.hid fun W' hb => (HQB.out.below b4W18 HQB.out.lt).below hb (HQB.out.below b4W18 HQB.out.lt).lt
     have HRE : Hid (∀ W',Below W18.heap.size W18 W' -> ExG W'.heap.size W' (cmA m) X):=Lib.hid fun W' hb => (HX4.out.below b4W18 (by omega) (Nat.le_refl D)).below (Below.refl W18.heap.size W18) (by have := b4W18.size; omega) (show D <= W18.heap.size by have := b4W18.size; omega) |>.below hb (Nat.le_refl _) hb.size
     refine region_plain (fun W' => Below W18.heap.size W18 W') [] (by kernel_rfl) ?_
     refine wpAnyD_tpX (i:=0) (v:=.slice (some ⟨b,0,none⟩) 2 2) (some 91) rfl rfl qS ?_
     refine wpAnyD_tpX (i:=1) (v:=.pointer (some ⟨b,0,none⟩)) (some 92) rfl rfl qS ?_
     refine wpAnyD_tkX (i:=2) (v:=X.agg) (some 93) rfl rfl (yieldsIf_load_mid (by kernel_rfl) 49 (.tmp 92) rfl b 0 (by first | rfl | go_simp) X.cells.toList _ (fun W' hS => blk_fst (HRX.out W' hS)) Tryz.underlying49 rfl infoExN) qS ?_
     refine wpAnyD_tpX (i:=3) (v:=.slice (some ⟨b,0,none⟩) 2 2) (some 94) rfl rfl qS ?_
     refine wpAnyD_tpX (i:=4) (v:=.pointer (some ⟨b,0,none⟩)) (some 95) rfl rfl qS ?_
     refine wpAnyD_tkX (i:=5) (v:=X.agg) (some 96) rfl rfl (yieldsIf_load_mid (by kernel_rfl) 49 (.tmp 95) rfl b 0 (by first | rfl | go_simp) X.cells.toList _ (fun W' hS => blk_fst (HRX.out W' hS)) Tryz.underlying49 rfl infoExN) qS ?_
     go_simp
     refine wpAnyD_chain2X (c1:=6) (c2:=7) (i:=11) (L0:=?L0a11) (L1:=?L1a11) (A:=?Aa11) (some 97) (some 98) (some 18) 3 29 #[.slice none 0 0,.slice none 0 0,.slice none 0 0,.int .i64 0]
      (fun _ W => Below W18.heap.size W18 W)
      (fun v _ W => Below W18.heap.size W18 W /\ ∃ c : Nat,v = .slice (some ⟨c,0,none⟩) 2 2 /\ Blk W c (cells2 X X) 49)
      (fun v v'' Fp W => Below W18.heap.size W18 W /\ ∃ (y : Dv) (L : Nat) (V : World),v'' = .tuple #[y.agg,.int .i64 0] /\ DgN L V y lm [cmA m,cmA m] /\ NewW L V W /\ ∀ b,L <= b -> b < V.heap.size -> Fp b)
      (by kernel_rfl) (by kernel_rfl) (by kernel_rfl) (by kernel_rfl) ?hrna11 ?hLa11 rfl rfl (fun _ => rfl) (by decide) rfl rfl (fun _ => rfl) (by decide) (fun W W' h1 h2 => h1.trans (h2.mono h1.size)) qS rfl rfl (fun _ => rfl) (fun a W KK hK => by go_simp; exact hK) (fun _ W W' h1 h2 => h1.trans (h2.mono h1.size)) ?st1a11 ?st2a11 ?step1a11 ?step2a11 ?htk0a11 ?htk1a11 ?hAa11 qS ?ha11
     case htk0a11 | htk1a11 =>
      intro v2 v p Fp W' hF hS H
      refine wpAnyD_tpX (i:=8) (v:=v) (some 90) rfl rfl hS ?_
      refine wpAnyD_tkX (i:=9) (v:=tupA v 0) (some 99) rfl rfl (.inl ⟨by kernel_rfl,fun W' hS => by obtain ⟨_,y,L,V,rfl,_⟩:=hF; go_simp <;> rfl⟩) hS ?_
      refine wpAnyD_tkX (i:=10) (v:=tupA v 1) (some 100) rfl rfl (.inl ⟨by kernel_rfl,fun W' hS => by obtain ⟨_,y,L,V,rfl,_⟩:=hF; go_simp <;> rfl⟩) hS ?_
      exact H
     case hrna11 => kernel_rfl
     case hLa11 => rfl
     case hAa11 => intro v2 v p q; exact put_over (by decide) (put_over (by decide) (put_over (by decide) (put_over (by decide) (put_over (by decide) (put_twice _ _ _ _)))))
     case st1a11 =>
      rintro v Fp W W' ⟨h1,c,rfl,h2⟩ hb
      exact ⟨h1.trans (hb.mono h1.size),c,rfl,h2.below hb h2.lt⟩
     case st2a11 =>
      rintro v v'' Fp W W' ⟨h1,y,L,V,rfl,h3,h4,h5⟩ hb
      exact ⟨h1.trans (hb.mono h1.size),y,L,V,rfl,h3,h4.trans (NewW.of hb),h5⟩
     case step1a11 =>
      rintro Fp W p hF KK hKK
      have hb : Below W.heap.size W (W.alloc (.cells (cells2 X X) 49)):=(Below.refl _ _).alloc (Nat.le_refl _) _
      have hk:=hKK (.slice (some ⟨W.heap.size,0,none⟩) 2 2) (fun _ => False) (W.alloc (.cells (cells2 X X) 49)) ⟨hF.trans (hb.mono hF.size),W.heap.size,rfl,Blk.new W _ _⟩ (fun _ h => h.elim) hb
      clear hKK hb
      go_simp
      exact hk
     case step2a11 =>
      rintro v1 Fp W p ⟨hF,c,rfl,hq⟩ KK hKK
      have hxx:=HRE.out W hF
      have hyy : ExG W.heap.size W (cmA m) X:=hxx
      have hcall:=dbuild_any W.heap.size (.slice (some ⟨c,0,none⟩) 2 2) [cmA m,cmA m] (g2x X X) W (rows_ex2 hq hq.lt) (fun i a ha => by
       rcases i with _ | _ | i
       ·cases ha; exact hxx
       ·cases ha; exact hyy
       ·cases ha) (fun a ha => by
       simp only [List.mem_cons,List.not_mem_nil,or_false] at ha
       rcases ha with rfl | rfl
       ·exact md_good (cmA_md m).1
       ·exact md_good (cmA_md m).1) (fun a ha => by
       simp only [List.mem_cons,List.not_mem_nil,or_false] at ha
       rcases ha with rfl | rfl
       ·exact (cm_parts m).1
       ·exact (cm_parts m).1) (Nat.le_refl _) (by simp) lm HSa.out.1 (sc_okD HSa.out.2.1 HSa.out.2.2.1) (by have := LM.len HSa.out.2.1; omega) (by have := HSa.out.2.2.2.2; omega) ((HTAB.out.on ((HB24.out.trans ((b4W18.trans (hF.mono b4W18.size)).mono (by omega))).mono hK)).up (by have := b4W18.size; have := hF.size; omega))
      have HCALL:=Lib.hid hcall
      clear hcall hxx hyy hq
      go_simp
      refine HCALL.out.mono ?_
      rintro en w' ⟨y,rfl,hdg,hb⟩
      exact hKK _ (Btw W.heap.size w'.heap.size) w' ⟨hF.trans (hb.mono hF.size),y,W.heap.size,w',rfl,hdg,NewW.refl _ _,fun b h1 h2 => ⟨h1,h2⟩⟩ (fun _ h => .inr h) hb
     case ha11 =>
      rintro v1 v2 Fp k W' ⟨hB,⟨⟨ha,hn,hm⟩,⟨ha2,hn2,hm2⟩,⟨ha3,hn3,hm3⟩,hr⟩,L,V,rfl,hdg,hnw,hFp⟩ hnk _ hq hk hbk
      have h1c : ∀ u ∈ (#[.slice ha hn hm,.slice ha2 hn2 hm2,.slice ha3 hn3 hm3,.int .i64 hr] : Array Value),u.oneCell' = true:=by simp [Value.oneCell']
      have H1C:=Lib.hid h1c
      have hkr : k < L \/ V.heap.size <= k:=by
       by_cases h1 : k < L
       ·exact .inl h1
       ·by_cases h2 : k < V.heap.size
        ·exact absurd (hFp k (by omega) h2) hnk
        ·exact .inr (by omega)
      have HDV2:=Lib.hid (And.intro hdg (And.intro hnw hkr))
      have HQK:=Lib.hid hq
      have HKW:=Lib.hid hk
      clear h1c hdg hnw hFp hnk hq hkr hbk hk
      go_simp
      refine wpAnyD_one (i:=12) (by kernel_rfl) rfl (by kernel_rfl) ?_
      refine wp_store_blkD 29 29 (.tmp 18) (.tmp 99) rfl #[.slice ha hn hm,.slice ha2 hn2 hm2,.slice ha3 hn3 hm3,.int .i64 hr] _ k HQK.out infoDiagN rfl H1C.out rfl rfl ?_
      intro W19 t1 t2 t3 t4
      have bW19 : Below W18.heap.size W18 W19:=hB.trans (t2 _ HKW.out)
      refine ⟨fun _ => bW19,?_⟩
      refine wpAnyD_tkX (i:=13) (v:=.int .i64 0) (some 19) rfl rfl (.inl ⟨by kernel_rfl,fun W' hS => by go_simp <;> rfl⟩) bW19 ?_
      refine wpAnyD_done (by kernel_rfl) ?_ _
      obtain ⟨hdg,hnw,hkr⟩:=HDV2.out
      have hnw2:=hnw.puts t3 hkr
      have HDh : Hid (DgN L W19 ⟨⟨ha,hn,hm⟩,⟨ha2,hn2,hm2⟩,⟨ha3,hn3,hm3⟩,hr⟩ lm [cmA m,cmA m]):=Lib.hid fun X hx => hdg X (hnw2.trans hx)
      have HQh:=Lib.hid t1
      have b4W19 : Below W4.heap.size W4 W19:=b4W18.trans (bW19.mono b4W18.size)
      clear hdg hnw hkr hnw2 t1 t2 t3 t4 HDV2 HQK HKW H1C hB
      obtain ⟨Dh,hDh⟩ : ∃ D,k = D:=⟨_,rfl⟩
      subst hDh
      have HTW:=Lib.hid (cm_twice (m:=m) HSa.out.2.1 HSa.out.2.2.1)
      have HHV:=Lib.hid (cm_dgv [cmA m,cmA m] HSa.out.2.1 HSa.out.2.2.1 HSa.out.2.2.2.2)
      have hQg:=HQg.out.below bW19 HQg.out.lt
      have hDg:=HDg.out.move bW19
      have hcall:=dcomplete_ok W19.heap.size ⟨⟨ga,gn,gm⟩,⟨ga2,gn2,gm2⟩,⟨ga3,gn3,gm3⟩,gr⟩ lg _ _ W19 hDg.now HGV.out (sc_good HMG.out.1 HMG.out.2) (pcs_ok HMG.out.1 HMG.out.2) (Nat.le_refl _)
      dsimp only [Dv.agg,Dv.cells,Sl.val] at hcall
      have HCALL:=Lib.hid hcall
      obtain ⟨c0,c1,c2,c3⟩:=hQg.four
      clear hcall hQg hDg
      go_simp
      go_wp2_with fail
      refine HCALL.out.mono ?_
      clear HCALL c0 c1 c2 c3
      rintro e w20 ⟨⟨r1,rfl,hr1⟩,hb20⟩
      obtain rfl : r1 = true:=hr1.2 HWH.out
      have hQh:=HQh.out.below hb20 HQh.out.lt
      have hDh:=HDh.out.move hb20
      have hcall:=dcomplete_ok w20.heap.size ⟨⟨ha,hn,hm⟩,⟨ha2,hn2,hm2⟩,⟨ha3,hn3,hm3⟩,hr⟩ lm _ _ w20 hDh.now HHV.out (sc_good HSa.out.2.1 HSa.out.2.2.1) (pcs_ok HSa.out.2.1 HSa.out.2.2.1) (Nat.le_refl _)
      dsimp only [Dv.agg,Dv.cells,Sl.val] at hcall
      have HCALL:=Lib.hid hcall
      obtain ⟨c0,c1,c2,c3⟩:=hQh.four
      have b4w20 : Below W4.heap.size W4 w20:=b4W19.trans (hb20.mono b4W19.size)
      clear hcall hQh hDh hr1 hb20
      go_wp2_with fail
      refine HCALL.out.mono ?_
      clear HCALL c0 c1 c2 c3
      rintro e w21 ⟨⟨r2,rfl,hr2⟩,hb21⟩
      obtain rfl : r2 = false:=by
       cases r2 with
       | false => rfl
       | true => exact absurd HTW.out (hr2.1 rfl)
      have bw21 : Below B w w21:=HB24.out.trans ((b4w20.trans (hb21.mono b4w20.size)).mono (by omega))
      have hs21 : B <= w21.heap.size:=by have := bw21.size; have := HB.out; omega
      have ha:=HAW.out B w21 hs21 ((HTAB.out.on (bw21.mono hK)).up hK)
      have HA:=Lib.hid ha
      have HB21:=Lib.hid bw21
      clear ha bw21 hr2 hb21
      go_wp2_with fail
      refine HA.out.mono ?_
      rintro e wf ⟨rfl,hbf⟩
      have bf:=HB21.out.trans (hbf.mono hs21)
      clear hbf HA
      go_wp2_with fail
      go_ret
      exact ⟨rfl,bf⟩
end Go.Proofs.YtlidpghnlloinaaGreatDoor
