/- Contracts and plain laws, several texts in one (DlRed). No conditions beyond those stated. -/
import Derived.Deep.LoopGhost
import Derived.Test.YtlidpghnlloinaaGreatDoorPk32
import Derived.Test.YtlidpghnlloinaaGreatDoorPk36
import Derived.Test.YtlidpghnlloinaaGreatDoorPk38
set_option maxRecDepth 100000
set_option maxHeartbeats 40000000
namespace Go.Proofs.YtlidpghnlloinaaGreatDoor
open Go.RowKit
set_option linter.unusedVariables false
theorem dlred_any (haw : AwOk) (K : Nat) (m : List Nat) (mv : Value) (n : List Nat) (nv : Value) (w : World) (hm : U8s K w mv m) (hxm : ∀ y ∈ m,y < 256) (hn : U8s K w nv n) (hxn : ∀ y ∈ n,y < 256) (hK : K <= w.heap.size) (htab : PTab K w) :
  Calls Tryz.prog 4 #[mv,nv] w fun e w' => e = .returned (.bool true) /\ Below w.heap.size w w':=by
 obtain ⟨B,hB⟩ : ∃ B,w.heap.size = B:=⟨_,rfl⟩
 have HB:=Lib.hid hB
 have hf:=dlfits_any K m mv n nv w hm hxm hn hxn hK
 rw [hB] at hK hf ⊢
 obtain ⟨ft,hft⟩ : ∃ f,fitP m n = f:=⟨_,rfl⟩
 rw [hft] at hf
 have hmv : ∃ a k c,mv = .slice a k c:=by obtain ⟨a,c,h,_⟩:=id (RowsV.form hm); exact ⟨a,_,c,h⟩
 have hnv : ∃ a k c,nv = .slice a k c:=by obtain ⟨a,c,h,_⟩:=id (RowsV.form hn); exact ⟨a,_,c,h⟩
 obtain ⟨ma,mk,mc,rfl⟩:=hmv
 obtain ⟨na,nk,nc,rfl⟩:=hnv
 have HF:=Lib.hid hf
 have HM:=Lib.hid hm
 have HN:=Lib.hid hn
 have HXM:=Lib.hid hxm
 have HXN:=Lib.hid hxn
 have HTAB:=Lib.hid htab
 have HAW:=Lib.hid haw
 clear hB hm hn hxm hxn hf htab haw
 go_enter Tryz.func4,Tryz.ntmps4
 go_wp2_with fail
 refine HF.out.mono ?_
 clear HF
 rintro e w2 ⟨rfl,b2⟩
 have hs2 : B <= w2.heap.size:=by have := b2.size; have := HB.out; omega
 cases ft with
 | false =>
  have ha:=HAW.out B w2 hs2 ((HTAB.out.on (b2.mono hK)).up hK)
  have HA:=Lib.hid ha
  have HB2:=Lib.hid b2
  clear ha b2
  go_wp2_with fail
  refine HA.out.mono ?_
  rintro e wf ⟨rfl,hbf⟩
  have bf:=HB2.out.trans (hbf.mono hs2)
  clear hbf HA
  go_wp2_with fail
  go_ret
  exact ⟨rfl,bf⟩
 | true =>
  have hc:=dlconds_any K m (.slice ma mk mc) n (.slice na nk nc) w2 (HM.out.below b2 hK (Nat.le_refl K)) HXM.out (HN.out.below b2 hK (Nat.le_refl K)) HXN.out (by omega) hft (HTAB.out.on (b2.mono hK))
  have HC:=Lib.hid hc
  have HFT:=Lib.hid hft
  have HB2:=Lib.hid b2
  clear hc hft b2
  go_wp2_with fail
  refine HC.out.mono ?_
  clear HC
  rintro e w3 ⟨b,X,Y,y,rfl,hb,hq,hX,hY,hdg,hb3⟩
  obtain ⟨ls,hls,hsc,hLM,hLF,hHas⟩:=@pr_scs m n
  obtain ⟨l1,l2,l3⟩:=hdg.lens
  obtain ⟨⟨sa,sn,sm⟩,⟨da,dn,dm⟩,⟨fa,fn,fm⟩,rr⟩:=y
  dsimp only [Dv.agg,Dv.cells,Sl.val] at l1 l2 l3 hdg ⊢
  have hs3:=hb3.size
  obtain ⟨D,hD⟩ : ∃ D,w3.heap.size = D:=⟨_,rfl⟩
  obtain ⟨W4,hW4⟩ : ∃ W,w3.alloc (.cells #[.slice sa sn sm,.slice da dn dm,.slice fa fn fm,.int .i64 rr] 29) = W:=⟨_,rfl⟩
  have b4 : Below D w3 W4:=by rw [<- hW4,<- hD]; exact (Below.refl _ _).alloc (Nat.le_refl _) _
  have q4 : Blk W4 D #[.slice sa sn sm,.slice da dn dm,.slice fa fn fm,.int .i64 rr] 29:=by rw [<- hW4,<- hD]; exact Blk.new w3 _ _
  have s4 : W4.heap.size = D + 1:=by rw [<- hW4,<- hD]; simp
  have h1c : ∀ u ∈ (#[.slice sa sn sm,.slice da dn dm,.slice fa fn fm,.int .i64 rr] : Array Value),u.oneCell' = true:=by simp [Value.oneCell']
  have H1C:=Lib.hid h1c
  have HD:=Lib.hid hD
  have HW4:=Lib.hid hW4
  have hdv:=pr_dgv HFT.out
  have hdo:=dec_dg m n
  obtain ⟨st,hst⟩ : ∃ st,(prT m n).2 = st:=⟨_,rfl⟩
  obtain ⟨rt,hrt⟩ : ∃ rt,(prT m n).1 = rt:=⟨_,rfl⟩
  rw [hst,hrt,hls] at hdg hdv hdo
  rw [hst] at l2 l3
  have HL2:=Lib.hid l2
  have HL3:=Lib.hid l3
  have HST:=Lib.hid (And.intro hst hrt)
  have HLS:=Lib.hid hls
  rw [hls] at l1
  rw [hD] at hdg hX hY hs3
  have qb : b < D:=by have := hq.lt; omega
  have HDG:=Lib.hid (hdg.below b4 (Nat.le_refl _) (Nat.le_refl D))
  have HX4:=Lib.hid (hX.below b4 (Nat.le_refl _) (Nat.le_refl D))
  have HY4:=Lib.hid (hY.below b4 (Nat.le_refl _) (Nat.le_refl D))
  have HQ4:=Lib.hid q4
  have HQB:=Lib.hid (hq.below b4 qb)
  have S4:=Lib.hid s4
  have hB4 : B <= D:=by omega
  have HB24 : Hid (Below B w W4):=Lib.hid (HB2.out.trans ((hb3.mono (by omega)).trans (b4.mono hB4)))
  have HDV:=Lib.hid hdv
  have HDO:=Lib.hid hdo
  have HLM:=Lib.hid hLM
  have HLF:=Lib.hid hLF
  have HHAS:=Lib.hid hHas
  have HSC:=Lib.hid hsc
  obtain ⟨ln,hln⟩ : ∃ k,ls.length = k:=⟨_,rfl⟩
  have HLN:=Lib.hid hln
  rw [hln] at l1
  subst l1
  have hDW : D < W4.heap.size:=by omega
  clear hln hb hq hX hY hdg hb3 hls hsc hLM hLF hHas l2 l3 hD hW4 b4 q4 s4 h1c hdv hdo hst hrt HB2
  go_upto_region 4 with (refine wpList_store_new rfl 29 (.tmp 6) (.tmp 31) rfl #[.slice sa sn sm,.slice da dn dm,.slice fa fn fm,.int .i64 rr] _ infoDiagN rfl H1C.out w3.heap.size rfl rfl rfl ?_)
  simp only [HD.out]
  rw [HW4.out]
  clear HD HW4 H1C
  have e1 : W4.cell? ⟨D,1,none⟩ = some (.slice da dn dm):=HQ4.out.at rfl
  obtain ⟨M,hM⟩ : ∃ k,st.nds.length = k:=⟨_,rfl⟩
  have HM2:=Lib.hid hM
  have hl2:=HL2.out
  rw [hM] at hl2
  subst hl2
  clear hM
  have HDN : Hid (dn <= 2 ^ 63 - 1):=Lib.hid (by
   obtain ⟨_,_,_,hnc,hnm⟩:=HDG.out.n.form
   rw [HM2.out] at hnc
   exact Nat.le_trans hnc hnm)
  go_upto_region 6 with fail
  go_wp2_with fail
  go_loopw [38] (fun iv wr => ∃ i : Nat,i <= dn /\ iv = .int .i64 i /\ Below W4.heap.size W4 wr) (fun iv _ => dn - (intOf iv).toNat)
  case atStart => exact ⟨0,Nat.zero_le _,rfl,Below.refl _ _⟩
  case round =>
   obtain ⟨i,hi,rfl,hbr⟩:=hrel
   obtain ⟨wo,rfl⟩ : ∃ wo : World,wo = wr:=⟨_,rfl⟩
   have HBR:=Lib.hid hbr
   have hso:=hbr.size
   clear hbr e1
   by_cases hlt : i < dn
   ·obtain ⟨ng,hnr,hng⟩:=HDG.out.n
    have hil : i < st.nds.length:=by rw [HM2.out]; exact hlt
    obtain ⟨b1,o,cap,he,_,_,hbK,hcl⟩:=hnr.pos (by omega)
    dsimp only [Sl.val] at he
    simp only [Value.slice.injEq] at he
    obtain ⟨rfl,hzz,rfl⟩:=he
    clear hzz
    obtain ⟨x,hx⟩ : ∃ x,st.nds[i]? = some x:=⟨_,List.getElem?_eq_getElem hil⟩
    obtain ⟨sc,nx⟩:=x
    obtain ⟨hscl,hnl,hal,_⟩:=HDO.out.wf.node i sc nx hx
    have hgi:=hng i hil
    rw [hx] at hgi
    dsimp only [Option.getD_some] at hgi
    have hnp:=red_pos hal
    obtain ⟨xb,xo,xc,hxf,hxl,hxm,hxK,hxc⟩:=RowsV.pos hgi hnp
    have e0 : wo.cell? ⟨b1,o + i * 2,none⟩ = some (.int .i64 sc):=(HBR.out.cell (p:=⟨b1,o + i * 2,none⟩) (show b1 < W4.heap.size by omega)).trans (by have := hcl i hil 0 (by omega); rw [hx] at this; simpa using this)
    have e1 : wo.cell? ⟨b1,o + i * 2 + 1,none⟩ = some (ng i):=(HBR.out.cell (p:=⟨b1,o + i * 2 + 1,none⟩) (show b1 < W4.heap.size by omega)).trans (by have := hcl i hil 1 (by omega); rw [Nat.add_assoc]; simpa using this)
    rw [hxf] at e1
    obtain ⟨u,hu⟩ : ∃ u,nx.length = u:=⟨_,rfl⟩
    rw [hu] at e1 hxl hxf
    have hxcw : ∀ W,Below W4.heap.size W4 W -> ∀ j,j < u -> W.cell? ⟨xb,xo + j,none⟩ = some (.int .i64 (nx[j]?.getD 0)):=fun W hb j hj => (hb.cell (p:=⟨xb,xo + j,none⟩) (show xb < W4.heap.size by omega)).trans (by have := hxc j (by rw [hu]; exact hj) 0 (by omega); simpa using this)
    have hrows : ∀ W,Below W4.heap.size W4 W -> ∀ (k : Nat) y,st.nds[k]? = some y -> W.cell? ⟨b1,o + k * 2,none⟩ = some (.int .i64 y.1) /\ W.cell? ⟨b1,o + k * 2 + 1,none⟩ = some (ng k) /\ IntsX W.heap.size W (ng k) y.2:=fun W hb k y hk => by
     have hkl:=(List.getElem?_eq_some_iff.1 hk).1
     refine ⟨(hb.cell (p:=⟨b1,o + k * 2,none⟩) (show b1 < W4.heap.size by omega)).trans ?_,(hb.cell (p:=⟨b1,o + k * 2 + 1,none⟩) (show b1 < W4.heap.size by omega)).trans ?_,?_⟩
     ·have := hcl k hkl 0 (by omega); rw [hk] at this; simpa using this
     ·have := hcl k hkl 1 (by omega); rw [Nat.add_assoc]; simpa using this
     ·have := hng k hkl
      rw [hk] at this
      exact RowsV.below this hb (by omega) (by have := hb.size; omega)
    have HROWS:=Lib.hid hrows
    have HXC:=Lib.hid hxcw
    have HX:=Lib.hid hx
    have HAL:=Lib.hid hal
    have HU:=Lib.hid hu
    have HXF:=Lib.hid hxf
    have hu0 : 0 < u:=by omega
    unfold maxLen at hxm
    clear hnr hng hcl hx hal hgi hxc hrows hxcw hu hxf hnl hscl
    go_upto_region 9 with fail
    generalize hW5 : World.alloc wo _ = W5
    have b5 : Below wo.heap.size wo W5:=by rw [<- hW5]; exact (Below.refl _ _).alloc (Nat.le_refl _) _
    have q5 : Blk W5 wo.heap.size #[.int .i64 sc,.slice (some ⟨xb,xo,none⟩) u xc] 65:=by rw [<- hW5]; exact Blk.new wo _ _
    obtain ⟨A0,hA0⟩ : ∃ A,wo.heap.size = A:=⟨_,rfl⟩
    have b45 : Below W4.heap.size W4 W5:=HBR.out.trans (b5.mono hso)
    rw [hA0] at q5 hso ⊢
    have hz5 : A0 < W5.heap.size:=q5.lt
    have HQ5:=Lib.hid q5
    have HB45:=Lib.hid b45
    obtain ⟨k0,k1⟩:=q5.two
    clear hW5 b5 q5 b45 hA0 e0 e1
    go_wp2_with fail
    go_loopw [10,46] (fun dv jv wr => ∃ j : Nat,j <= u /\ jv = .int .i64 j /\ dv = .bool (anyD nx j) /\ W5 = wr) (fun _ jv _ => u - (intOf jv).toNat)
    case atStart => exact ⟨0,Nat.zero_le _,rfl,by rw [anyD_zero],rfl⟩
    case round =>
     obtain ⟨j,hj,rfl,rfl,rfl⟩:=hrel
     by_cases hjl : j < u
     ·obtain ⟨t,ht⟩ : ∃ t,nx[j]? = some t:=⟨_,List.getElem?_eq_getElem (by rw [HU.out]; exact hjl)⟩
      have c1:=HXC.out W5 HB45.out j hjl
      rw [ht,Option.getD_some] at c1
      have c0:=HXC.out W5 HB45.out 0 hu0
      rw [Nat.add_zero,head_getD] at c0
      obtain ⟨h0,hh0⟩ : ∃ x,nx.headD 0 = x:=⟨_,rfl⟩
      rw [hh0] at c0
      have hsucc:=anyD_succ ht
      rw [hh0] at hsucc
      obtain ⟨d,hd⟩ : ∃ d,anyD nx j = d:=⟨_,rfl⟩
      rw [hd] at hsucc ⊢
      have HSU:=Lib.hid hsucc
      clear ht hh0 hsucc hd
      cases d with
      | true =>
       go_wp2_with fail
       exact ⟨⟨j + 1,by omega,by go_num,by rw [HSU.out]; simp,by first | rfl | trivial⟩,by simp [intOf]; omega⟩
      | false =>
       go_wp2_with fail
       exact ⟨⟨j + 1,by omega,by go_num,by rw [HSU.out]; simp,by first | rfl | trivial⟩,by simp [intOf]; omega⟩
     ·obtain rfl : j = u:=by omega
      have hall:=anyD_all HAL.out HU.out
      rw [hall]
      clear hall k0 k1
      go_upto_region 17 with fail
      go_wp2_with fail
      go_loopw [63] (fun kv wr => ∃ k : Nat,k <= i /\ kv = .int .i64 k /\ Below W5.heap.size W5 wr) (fun kv _ => i - (intOf kv).toNat)
      case atStart => exact ⟨0,Nat.zero_le _,rfl,Below.refl _ _⟩
      case round =>
       obtain ⟨k,hk,rfl,hbq⟩:=hrel
       obtain ⟨wq,rfl⟩ : ∃ wq : World,wq = wr:=⟨_,rfl⟩
       have HBQ:=Lib.hid hbq
       clear hbq
       by_cases hkl : k < i
       ·have hkd : k < dn:=by omega
        have hk63 : k + 1 <= 2 ^ 63 - 1:=by have := HDN.out; omega
        obtain ⟨y,hy⟩ : ∃ y,st.nds[k]? = some y:=⟨_,List.getElem?_eq_getElem (by rw [HM2.out]; omega)⟩
        obtain ⟨sk,nk2⟩:=y
        have hne2:=nodup_ne HDO.out.wf.nnd HX.out hy hkl
        have HR : Hid (∀ W',Below W5.heap.size W5 W' -> W'.cell? ⟨D,1,none⟩ = some (.slice (some ⟨b1,o,none⟩) dn dm) /\ W'.cell? ⟨b1,o + k * 2,none⟩ = some (.int .i64 sk) /\ W'.cell? ⟨b1,o + k * 2 + 1,none⟩ = some (ng k) /\ IntsX W'.heap.size W' (ng k) nk2 /\ W'.cell? ⟨A0,0,none⟩ = some (.int .i64 sc) /\ W'.cell? ⟨A0,1,none⟩ = some (.slice (some ⟨xb,xo,none⟩) j xc) /\ IntsX W'.heap.size W' (.slice (some ⟨xb,xo,none⟩) j xc) nx):=Lib.hid fun W' hb => by
         have hb4 : Below W4.heap.size W4 W':=HB45.out.trans (hb.mono HB45.out.size)
         obtain ⟨h1,h2,h3⟩:=HROWS.out W' hb4 k _ hy
         obtain ⟨_,h5,h6⟩:=HROWS.out W' hb4 i _ HX.out
         obtain ⟨h7,h8⟩:=(HQ5.out.below hb hz5).two
         rw [HXF.out] at h6
         exact ⟨(HQ4.out.below hb4 hDW).at rfl,h1,h2,h3,h7,h8,h6⟩
        obtain ⟨ka,kc,hkf,_,_⟩:=RowsV.form (HR.out wq HBQ.out).2.2.2.1
        obtain ⟨kn,hkn⟩ : ∃ n,nk2.length = n:=⟨_,rfl⟩
        rw [hkn] at hkf
        rw [hkf] at HR
        have HNE:=Lib.hid hne2
        clear hne2 hkf hkn hy
        go_upto_region 20 with fail
        have qS : (fun W' => Below W5.heap.size W5 W') wq.drew:=below_quiet HBQ.out
        refine region_plain (fun W' => Below W5.heap.size W5 W') [] (by kernel_rfl) ?_
        refine wpAnyD_tpX (i:=0) (v:=.pointer (some ⟨D,1,none⟩)) (some 66) rfl rfl qS ?_
        refine wpAnyD_tkX (i:=1) (v:=.slice (some ⟨b1,o,none⟩) dn dm) (some 67) rfl rfl (.inl ⟨by kernel_rfl,fun W' hS => by obtain ⟨x0,x1,x2,x3,x4,x5,x6⟩:=HR.out W' hS; clear x3 x6; go_simp⟩) qS ?_
        refine wpAnyD_tpX (i:=2) (v:=.int .i64 k) (some 68) rfl rfl qS ?_
        refine wpAnyD_tpX (i:=3) (v:=.pointer (some ⟨b1,o + k * 2,none⟩)) (some 69) rfl rfl qS ?_
        refine wpAnyD_tpX (i:=4) (v:=.pointer (some ⟨b1,o + k * 2,none⟩)) (some 70) rfl rfl qS ?_
        refine wpAnyD_tkX (i:=5) (v:=.int .i64 sk) (some 71) rfl rfl (.inl ⟨by kernel_rfl,fun W' hS => by obtain ⟨x0,x1,x2,x3,x4,x5,x6⟩:=HR.out W' hS; clear x3 x6; go_simp⟩) qS ?_
        refine wpAnyD_tpX (i:=6) (v:=.pointer (some ⟨A0,0,none⟩)) (some 72) rfl rfl qS ?_
        refine wpAnyD_tkX (i:=7) (v:=.int .i64 sc) (some 73) rfl rfl (.inl ⟨by kernel_rfl,fun W' hS => by obtain ⟨x0,x1,x2,x3,x4,x5,x6⟩:=HR.out W' hS; clear x3 x6; go_simp⟩) qS ?_
        by_cases hsk : sk = sc
        ·have hkx : nk2 ≠ nx:=fun e => HNE.out (by rw [hsk,e])
         have hb1 : ((sk : Int) == (sc : Int)) = true:=by rw [hsk]; simp
         clear hsk
         refine wpAnyD_tpX (i:=8) (v:=.bool true) (some 74) rfl rfl qS ?_
         refine wpAnyD_tpX (i:=9) (v:=.bool true) (some 75) rfl rfl qS ?_
         refine wpAnyD_tpX (i:=10) (v:=.pointer (some ⟨D,1,none⟩)) (some 76) rfl rfl qS ?_
         refine wpAnyD_tkX (i:=11) (v:=.slice (some ⟨b1,o,none⟩) dn dm) (some 77) rfl rfl (.inl ⟨by kernel_rfl,fun W' hS => by obtain ⟨x0,x1,x2,x3,x4,x5,x6⟩:=HR.out W' hS; clear x3 x6; go_simp⟩) qS ?_
         refine wpAnyD_tpX (i:=12) (v:=.int .i64 k) (some 78) rfl rfl qS ?_
         refine wpAnyD_tpX (i:=13) (v:=.pointer (some ⟨b1,o + k * 2,none⟩)) (some 79) rfl rfl qS ?_
         refine wpAnyD_tpX (i:=14) (v:=.pointer (some ⟨b1,o + k * 2 + 1,none⟩)) (some 80) rfl rfl qS ?_
         refine wpAnyD_tkX (i:=15) (v:=.slice ka kn kc) (some 81) rfl rfl (.inl ⟨by kernel_rfl,fun W' hS => by obtain ⟨x0,x1,x2,x3,x4,x5,x6⟩:=HR.out W' hS; clear x3 x6; go_simp⟩) qS ?_
         refine wpAnyD_tpX (i:=16) (v:=.pointer (some ⟨A0,1,none⟩)) (some 82) rfl rfl qS ?_
         refine wpAnyD_tkX (i:=17) (v:=.slice (some ⟨xb,xo,none⟩) j xc) (some 83) rfl rfl (.inl ⟨by kernel_rfl,fun W' hS => by obtain ⟨x0,x1,x2,x3,x4,x5,x6⟩:=HR.out W' hS; clear x3 x6; go_simp⟩) qS ?_
         obtain ⟨_,_,_,h3,_,_,h6⟩:=HR.out _ qS
         have hcall:=gintsX_any _ _ _ nk2 nx wq.drew h3 h6
         rw [show (nk2 == nx) = false from by simpa using hkx] at hcall
         have HCALL:=Lib.hid hcall
         clear hcall h3 h6 hkx
         refine wpAnyD_one (i:=18) (by kernel_rfl) rfl (by kernel_rfl) ?_
         go_simp
         refine HCALL.out.mono ?_
         clear HCALL
         rintro e w9 ⟨rfl,kk,hkk⟩
         have qS9 : Below W5.heap.size W5 w9:=by rw [hkk]; exact below_drewN2 qS kk
         clear hkk
         refine ⟨qS9,?_⟩
         refine wpAnyD_tpX (i:=19) (v:=.bool false) (some 85) rfl rfl qS9 ?_
         refine wpAnyD_done (by kernel_rfl) ?_ _
         have HB9:=Lib.hid qS9
         clear qS
         go_simp
         go_wp2_with fail
         exact ⟨⟨k + 1,by omega,by go_num,HB9.out⟩,by simp [intOf]; omega⟩
        ·have hb1 : ((sk : Int) == (sc : Int)) = false:=by simp; omega
         clear hsk
         refine wpAnyD_tpX (i:=8) (v:=.bool false) (some 74) rfl rfl qS ?_
         refine wpAnyD_tpX (i:=9) (v:=.bool false) (some 75) rfl rfl qS ?_
         refine wpAnyD_tkX (i:=10) (v:=undef) (some 76) rfl rfl (.inr ⟨by kernel_rfl,rfl⟩) qS ?_
         refine wpAnyD_tkX (i:=11) (v:=undef) (some 77) rfl rfl (.inr ⟨by kernel_rfl,rfl⟩) qS ?_
         refine wpAnyD_tkX (i:=12) (v:=undef) (some 78) rfl rfl (.inr ⟨by kernel_rfl,rfl⟩) qS ?_
         refine wpAnyD_tkX (i:=13) (v:=undef) (some 79) rfl rfl (.inr ⟨by kernel_rfl,rfl⟩) qS ?_
         refine wpAnyD_tkX (i:=14) (v:=undef) (some 80) rfl rfl (.inr ⟨by kernel_rfl,rfl⟩) qS ?_
         refine wpAnyD_tkX (i:=15) (v:=undef) (some 81) rfl rfl (.inr ⟨by kernel_rfl,rfl⟩) qS ?_
         refine wpAnyD_tkX (i:=16) (v:=undef) (some 82) rfl rfl (.inr ⟨by kernel_rfl,rfl⟩) qS ?_
         refine wpAnyD_tkX (i:=17) (v:=undef) (some 83) rfl rfl (.inr ⟨by kernel_rfl,rfl⟩) qS ?_
         refine wpAnyD_tkX (i:=18) (v:=undef) (some 84) rfl rfl (.inr ⟨by kernel_rfl,rfl⟩) qS ?_
         refine wpAnyD_tpX (i:=19) (v:=.bool false) (some 85) rfl rfl qS ?_
         refine wpAnyD_done (by kernel_rfl) ?_ _
         have HB9:=Lib.hid qS
         clear qS
         go_simp
         go_wp2_with fail
         exact ⟨⟨k + 1,by omega,by go_num,HB9.out⟩,by simp [intOf]; omega⟩
       ·obtain rfl : k = i:=by omega
        have hk63 : k + 1 <= 2 ^ 63 - 1:=by have := HDN.out; omega
        have hb:=HB45.out.trans (HBQ.out.mono HB45.out.size)
        have HB9:=Lib.hid hb
        clear hb
        go_wp2_with fail
        exact ⟨⟨k + 1,by omega,by go_num,HB9.out⟩,by simp [intOf]; omega⟩
   ·obtain rfl : dn = i:=by omega
    obtain ⟨lg,hlr,hlg⟩:=HDG.out.l
    dsimp only [Sl.val] at hlr
    obtain ⟨M3,hM3⟩ : ∃ k,st.lvs.length = k:=⟨_,rfl⟩
    have HM3:=Lib.hid hM3
    have hl3:=HL3.out
    rw [hM3] at hl3
    subst hl3
    have HFN : Hid (fn <= 2 ^ 63 - 1):=Lib.hid (by
     obtain ⟨_,_,_,hnc,hnm⟩:=HDG.out.l.form
     rw [HM3.out] at hnc
     exact Nat.le_trans hnc hnm)
    have e2 : wo.cell? ⟨D,2,none⟩ = some (.slice fa fn fm):=(HQ4.out.below HBR.out hDW).at rfl
    have HLR : Hid (∀ W,Below W4.heap.size W4 W -> ∀ (k : Nat) y,st.lvs[k]? = some y -> ∃ b2 o2 ya yc,fa = some ⟨b2,o2,none⟩ /\ W.cell? ⟨b2,o2 + k,none⟩ = some (.slice ya y.length yc) /\ Nats W.heap.size W (.slice ya y.length yc) y):=Lib.hid fun W hb k y hk => by
     have hkl:=(List.getElem?_eq_some_iff.1 hk).1
     obtain ⟨b2,o2,cap,he,_,_,hbK,hcl⟩:=hlr.pos (by omega)
     simp only [Value.slice.injEq] at he
     have hgk:=hlg k hkl
     rw [hk,Option.getD_some] at hgk
     obtain ⟨ya,yc,hyf,_,_⟩:=hgk.form
     refine ⟨b2,o2,ya,yc,he.1,?_,?_⟩
     ·refine (hb.cell (p:=⟨b2,o2 + k,none⟩) (show b2 < W4.heap.size by omega)).trans ?_
      have := hcl k hkl 0 (by omega)
      rw [hyf] at this
      simpa using this
     ·rw [hyf] at hgk
      exact hgk.below hb (by omega) (by have := hb.size; omega)
    clear hM3 hlr hlg hlt hi
    go_upto_region 24 with fail
    go_wp2_with fail
    go_loopw [91] (fun iv wr => ∃ i : Nat,i <= fn /\ iv = .int .i64 i /\ Below W4.heap.size W4 wr) (fun iv _ => fn - (intOf iv).toNat)
    case atStart => exact ⟨0,Nat.zero_le _,rfl,HBR.out⟩
    case round =>
     obtain ⟨i,hi,rfl,hbr⟩:=hrel
     obtain ⟨wp,rfl⟩ : ∃ wp : World,wp = wr:=⟨_,rfl⟩
     have HBP:=Lib.hid hbr
     clear hbr e2
     by_cases hlt : i < fn
     ·obtain ⟨x,hx⟩ : ∃ x,st.lvs[i]? = some x:=⟨_,List.getElem?_eq_getElem (by rw [HM3.out]; exact hlt)⟩
      obtain ⟨b2,o2,xa,xc,hfa,e0,hnx⟩:=HLR.out wp HBP.out i x hx
      obtain ⟨xn,hxn⟩ : ∃ k,x.length = k:=⟨_,rfl⟩
      rw [hxn] at e0
      subst hfa
      have HX:=Lib.hid hx
      rw [hxn] at hnx
      have HNX:=Lib.hid hnx
      clear hx hxn hnx
      go_upto_region 27 with fail
      go_wp2_with fail
      go_loopw [97] (fun kv wr => ∃ k : Nat,k <= i /\ kv = .int .i64 k /\ Below wp.heap.size wp wr) (fun kv _ => i - (intOf kv).toNat)
      case atStart => exact ⟨0,Nat.zero_le _,rfl,Below.refl _ _⟩
      case round =>
       obtain ⟨k,hk,rfl,hbq⟩:=hrel
       obtain ⟨wq,rfl⟩ : ∃ wq : World,wq = wr:=⟨_,rfl⟩
       have HBQ:=Lib.hid hbq
       have HB4Q:=Lib.hid (HBP.out.trans (hbq.mono HBP.out.size))
       clear hbq e0
       by_cases hkl : k < i
       ·have hkd : k < fn:=by omega
        have hk63 : k + 1 <= 2 ^ 63 - 1:=by have := HFN.out; omega
        obtain ⟨y,hy⟩ : ∃ y,st.lvs[k]? = some y:=⟨_,List.getElem?_eq_getElem (by rw [HM3.out]; omega)⟩
        have hne2:=nodup_ne HDO.out.wf.lnd HX.out hy hkl
        obtain ⟨b4,o4,ya,yc,hfa,e0,hny⟩:=HLR.out wq HB4Q.out k y hy
        simp only [Option.some.injEq,Addr.mk.injEq,and_true] at hfa
        obtain ⟨rfl,rfl⟩:=hfa
        have e2 : wq.cell? ⟨D,2,none⟩ = some (.slice (some ⟨b2,o2,none⟩) fn fm):=(HQ4.out.below HB4Q.out hDW).at rfl
        have hcall:=gints_any _ _ _ y x wq hny (HNX.out.below HBQ.out (Nat.le_refl _) HBQ.out.size)
        rw [show (y == x) = false from by simpa using hne2] at hcall
        obtain ⟨yn,hyn⟩ : ∃ k,y.length = k:=⟨_,rfl⟩
        rw [hyn] at e0 hcall
        have HCALL:=Lib.hid hcall
        clear hcall hny hne2 hyn hy
        go_wp2_with fail
        refine HCALL.out.mono ?_
        clear HCALL e0 e2
        rintro e w9 ⟨rfl,kk,hkk⟩
        have HB9 : Hid (Below wp.heap.size wp w9):=Lib.hid (by rw [hkk]; exact below_drewN2 HBQ.out kk)
        clear hkk
        go_wp2_with fail
        exact ⟨⟨k + 1,by omega,by go_num,HB9.out⟩,by simp [intOf]; omega⟩
       ·obtain rfl : k = i:=by omega
        have hk63 : k + 1 <= 2 ^ 63 - 1:=by have := HFN.out; omega
        go_wp2_with fail
        exact ⟨⟨k + 1,by omega,by go_num,HB4Q.out⟩,by simp [intOf]; omega⟩
     ·obtain rfl : fn = i:=by omega
      have hmm:=@run_makeMap Tryz.prog
      have hE : (rt,st) = tgt (lfS ls (prM m n)) (pcs ls) 0 [] DSt.no:=by
       have h0 : tgt (lfS (prS m n) (prM m n)) (pcs (prS m n)) 0 [] DSt.no = prT m n:=rfl
       rw [<- HLS.out,h0,<- HST.out.1,<- HST.out.2]
      obtain ⟨hsn,hsl,hsx⟩:=red_small (fun p hp => (pcs_ok HLM.out HLF.out p hp).2) (by rw [<- HLS.out]; exact prod_300 HFT.out) hE HDO.out
      have hT:=restB_le hsx []
      have hroot : TOk st 0 rt:=HDO.out.tok
      have hrr : rr = rt:=HDG.out.r
      obtain ⟨T0,hT0⟩ : ∃ T,1 + restB st [] = T:=⟨_,rfl⟩
      have hT9 : T0 <= 90001:=by omega
      have HE:=Lib.hid hE
      have HSX:=Lib.hid hsx
      have hdn : dn <= 300:=by have := HM2.out; omega
      have hfn : fn <= 300:=by have := HM3.out; omega
      have HRT:=Lib.hid hroot
      have HRR:=Lib.hid hrr
      have HT0:=Lib.hid hT0
      have c3 : wp.cell? ⟨D,3,none⟩ = some (.int .i64 rr):=(HQ4.out.below HBP.out hDW).at rfl
      have hDp : D < wp.heap.size:=Nat.lt_of_lt_of_le hDW HBP.out.size
      obtain ⟨MN,hMN⟩ : ∃ k,wp.heap.size = k:=⟨_,rfl⟩
      obtain ⟨W6,hW6⟩ : ∃ W,(wp.alloc (.map #[] 0)).alloc (.map #[] 0) = W:=⟨_,rfl⟩
      have b6 : Below MN wp W6:=by rw [<- hW6,<- hMN]; exact ((Below.refl _ _).alloc (Nat.le_refl _) _).alloc (by simp) _
      have mn6 : MapIs W6 3 MN 0 (fun _ => none):=by rw [<- hW6,<- hMN]; exact (MapIs.made wp _).alloc _
      have ml6 : MapIs W6 3 (MN + 1) 0 (fun _ => none):=by
       have := MapIs.made (wp.alloc (.map #[] 0)) 3
       rw [World.size_alloc,hMN,hW6] at this
       exact this
      have s6 : W6.heap.size = MN + 2:=by rw [<- hW6,<- hMN]; simp
      obtain ⟨W7,hW7⟩ : ∃ W,((wp.alloc (.map #[] 0)).alloc (.map #[] 0)).alloc (.cells #[.int .i64 rr] 3) = W:=⟨_,rfl⟩
      have b67 : Below (MN + 2) W6 W7:=by rw [<- hW7,hW6,<- s6]; exact (Below.refl _ _).alloc (Nat.le_refl _) _
      have q7 : Blk W7 (MN + 2) #[.int .i64 rr] 3:=by rw [<- hW7,hW6,<- s6]; exact Blk.new W6 _ _
      have s7 : MN + 2 <= W7.heap.size:=by have := b67.size; omega
      have HN7 : Hid (CntM W7 MN [] 0):=Lib.hid ((CntM.start mn6).below b67 (by omega))
      have HL7 : Hid (CntM W7 (MN + 1) [] 0):=Lib.hid ((CntM.start ml6).below b67 (by omega))
      have HQ7 : Hid (QueO (MN + 2) W7 (MN + 2) 0 1 [rr]):=Lib.hid (QueO.one q7 (Nat.le_refl _))
      have HB7 : Hid (Below MN wp W7):=Lib.hid (b6.trans (b67.mono (by omega)))
      have HMN:=Lib.hid hMN
      have HW7:=Lib.hid hW7
      have hMD : D < MN:=by omega
      have hW4M : W4.heap.size <= MN:=by have := HBP.out.size; omega
      clear hE hsn hsl hsx hT hroot hrr hT0 hMN hW6 b6 mn6 ml6 s6 hW7 b67 q7
      go_upto_region 35 with fail
      go_wp2_with fail
      simp only [HMN.out,Nat.add_assoc,Nat.reduceAdd]
      rw [HW7.out]
      clear c3 hDp
      go_loopg [19] T0 (fun gn tv wr => ∃ (todo : List Int) (vn vl : List Nat) (qb q c tn : Nat),tv = .slice (some ⟨qb,q,none⟩) tn c /\ Hid (todo.length = tn) /\ QueO (MN + 2) wr qb q c todo /\ Hid (Bfs st rt todo vn vl) /\ Hid (CntM wr MN (nodeK vn) (T0 - gn)) /\ Hid (CntM wr (MN + 1) (leafK vl) (T0 - gn)) /\ Hid (gn = todo.length + restB st vn) /\ gn <= T0 /\ Hid (Below MN wp wr) /\ MN + 2 <= wr.heap.size)
      case atStart =>
       refine ⟨[rr],[],[],MN + 2,0,1,1,rfl,Lib.hid rfl,HQ7.out,Lib.hid (by rw [HRR.out]; exact Bfs.start HRT.out),Lib.hid (by rw [Nat.sub_self]; exact HN7.out),Lib.hid (by rw [Nat.sub_self]; exact HL7.out),Lib.hid HT0.out.symm,Nat.le_refl _,HB7,s7⟩
      case round =>
       obtain ⟨todo,vn,vl,qb,q,c,tn,rfl,HTN,hq,HBF,HCN,HCL,HG,hgT,HBO,hsz⟩:=hrel
       obtain ⟨wo,rfl⟩ : ∃ wo : World,wo = wr:=⟨_,rfl⟩
       have HQ:=Lib.hid hq
       clear hq
       cases todo with
       | nil =>
        obtain rfl : tn = 0:=by simpa using HTN.out.symm
        obtain ⟨hv1,hv2⟩:=HBF.out.done HDO.out
        have hb4 : Below W4.heap.size W4 wo:=HBP.out.trans (HBO.out.mono hW4M)
        obtain ⟨d0,d1,d2,d3⟩:=(HQ4.out.below hb4 hDW).four
        obtain ⟨f1,m1,_⟩:=id HCN.out
        obtain ⟨f2,m2,_⟩:=id HCL.out
        rw [nodeK_len,hv1,HM2.out] at m1
        rw [leafK_len,hv2,HM3.out] at m2
        have hl1:=m1.len (t:=66) Tryz.underlying66 3
        have hl2:=m2.len (t:=66) Tryz.underlying66 3
        have bw : Below B w wo:=HB24.out.trans (hb4.mono (by omega))
        have hsB : B <= wo.heap.size:=by have := bw.size; have := HB.out; omega
        have ha:=HAW.out B wo hsB ((HTAB.out.on (bw.mono hK)).up hK)
        have HA:=Lib.hid ha
        have HBW:=Lib.hid bw
        have e1 : ((dn : Int) == (dn : Int)) = true:=by simp
        have e2 : ((fn : Int) == (fn : Int)) = true:=by simp
        clear ha bw hv1 hv2 hb4 m1 m2
        go_wp2_with fail
        refine HA.out.mono ?_
        rintro e wf ⟨rfl,hbf⟩
        have bf:=HBW.out.trans (hbf.mono hsB)
        clear hbf HA
        go_wp2_with fail
        go_ret
        exact ⟨rfl,bf⟩
       | cons t l =>
        obtain ⟨c,rfl⟩ : ∃ c',c = c' + 1:=⟨c - 1,by have := HQ.out.len; simp at this; omega⟩
        obtain ⟨nl,hnl⟩ : ∃ k,l.length = k:=⟨_,rfl⟩
        obtain rfl : tn = nl + 1:=by have := HTN.out; simp at this; omega
        have e0 : wo.cell? ⟨qb,q,none⟩ = some (.int .i64 t):=HQ.out.head
        have hq2 : QueO (MN + 2) wo qb (popAt q c) c l:=HQ.out.next
        have hqb:=HQ.out.low
        have HQ2:=Lib.hid hq2
        have HNL:=Lib.hid hnl
        have htok:=HBF.out.todo t (List.mem_cons_self ..)
        have HTOK:=Lib.hid htok
        have t63 : -301 <= t /\ t <= 300:=by
         rcases htok with ⟨n,e,hn⟩ | ⟨n,x,e,hx,_⟩
         ·have := HM3.out; omega
         ·have h1:=(List.getElem?_eq_some_iff.1 hx).1
          have := HM2.out; omega
        obtain ⟨t1,t2⟩:=t63
        have HKEY:=Lib.hid (keyOf_I t (by omega) (by omega))
        have hgn : gk = nl + 1 + restB st vn:=by have := HG.out; simp [hnl] at this; omega
        have HGN:=Lib.hid hgn
        clear hq2 hnl htok hgn
        go_upto_region 39 with fail
        have hpe : (if c = 0 then (some ⟨qb,q,none⟩ : Option Addr) else some ⟨qb,q + 1,none⟩) = some ⟨qb,popAt q c,none⟩:=by unfold popAt; split <;> rfl
        try rw [hpe]
        obtain ⟨q2,hq2e⟩ : ∃ q2,popAt q c = q2:=⟨_,rfl⟩
        rw [hq2e] at HQ2 ⊢
        clear hpe hq2e e0
        rcases HTOK.out with ⟨n2,e,hn2⟩ | ⟨n2,x,e,hx,_⟩
        ·have hneg : decide (t < 0) = true:=by simp; omega
         obtain ⟨f,cc,hc1,hc2,hc3,hMP,hv,hput⟩:=HCL.out.step t
         have hcc : cc <= 90001:=by omega
         have hml : (leafK vl).length < maxLen:=by
          rw [leafK_len]
          have := HBF.out.few.2
          have := HM3.out
          unfold maxLen
          omega
         have HNE:=Lib.hid e
         have HMP:=Lib.hid hMP
         have HPUT:=Lib.hid hput
         clear e hput hMP hc2 hc3 hc1 hn2
         go_upto_region 41 with (first
          | (at_lookup; refine wpList_look_M _ rfl _ _ 66 rfl _ keyN Tryz.underlying66 (Tryz.zeroValue3 _) rfl HMP.out _ (.int .i64 t) rfl HKEY.out (.int .i64 cc) (hv) ?_)
          | (at_mapUpdate; refine wpList_put_M _ rfl _ _ _ 66 rfl _ keyN Tryz.underlying66 rfl HMP.out hml _ (.int .i64 t) rfl HKEY.out (.int .i64 ((cc : Int) + 1)) rfl ?_; intro w7 hm7 hg7))
         have hgn:=HGN.out
         have hq7 : QueO (MN + 2) w7 qb q2 c l:=HQ2.out.move (hg7.block qb HQ2.out.lt (by simp; omega))
         have HC7 : Hid (CntM w7 MN (nodeK vn) (T0 - (nl + restB st vn))):=Lib.hid ((HCN.out.mono (by omega)).kept hg7 (by simp))
         have HB7' : Hid (Below MN wp w7):=Lib.hid (HBO.out.trans (below_grown hg7 (fun r e => by cases e; omega) (by omega)))
         have hs7 : MN + 2 <= w7.heap.size:=Nat.le_trans hsz hg7.size
         have hBF:=HBF.out
         rw [HNE.out] at hBF
         have hpt:=HPUT.out w7 (T0 - (nl + restB st vn)) hm7 (by omega)
         rw [HNE.out] at hpt
         clear hm7 hg7 hv HPUT HMP
         try go_frame
         go_roundg (nl + restB st vn)
         case measure => omega
         case rel =>
          by_cases hin : n2 ∈ vl
          ·exact ⟨l,vn,vl,qb,q2,c,nl,rfl,HNL,hq7,Lib.hid (hBF.leaf_old hin),HC7,Lib.hid (hpt.2 (leafK_mem.2 hin)),Lib.hid (by rw [HNL.out]),by omega,HB7',hs7⟩
          ·exact ⟨l,vn,vl ++ [n2],qb,q2,c,nl,rfl,HNL,hq7,Lib.hid (hBF.leaf_new hin),HC7,Lib.hid (by rw [leafK_add]; exact hpt.1 (fun e => hin (leafK_mem.1 e))),Lib.hid (by rw [HNL.out]),by omega,HB7',hs7⟩
        ·obtain ⟨sc,nx⟩:=x
         subst e
         have hdl : n2 < dn:=by have := (List.getElem?_eq_some_iff.1 hx).1; have := HM2.out; omega
         have hneg : decide ((n2 : Int) < 0) = false:=by simp
         have hml : (nodeK vn).length < maxLen:=by
          rw [nodeK_len]
          have := HBF.out.few.1
          have := HM2.out
          unfold maxLen
          omega
         have HX:=Lib.hid hx
         clear hx
         by_cases hin : n2 ∈ vn
         ·obtain ⟨f,cc,hc0,hc1,hMP,hv,hput⟩:=HCN.out.old (t:=(n2 : Int)) (nodeK_mem.2 hin)
          have hcc : cc <= 90001:=by omega
          have hne1 : ((cc : Int) + 1 == 1) = false:=by simp; omega
          have HMP:=Lib.hid hMP
          have HPUT:=Lib.hid hput
          have HIN:=Lib.hid hin
          clear hput hMP hin hc1
          go_upto_region 42 with (first
           | (at_lookup; refine wpList_look_M _ rfl _ _ 66 rfl _ keyN Tryz.underlying66 (Tryz.zeroValue3 _) rfl HMP.out _ (.int .i64 (n2 : Int)) rfl HKEY.out (.int .i64 cc) (hv) ?_)
           | (at_mapUpdate; refine wpList_put_M _ rfl _ _ _ 66 rfl _ keyN Tryz.underlying66 rfl HMP.out hml _ (.int .i64 (n2 : Int)) rfl HKEY.out (.int .i64 ((cc : Int) + 1)) rfl ?_; intro w7 hm7 hg7))
          have hgn:=HGN.out
          have hq7 : QueO (MN + 2) w7 qb q2 c l:=HQ2.out.move (hg7.block qb HQ2.out.lt (by simp; omega))
          have HQ7':=Lib.hid hq7
          have HC7 : Hid (CntM w7 (MN + 1) (leafK vl) (T0 - (nl + restB st vn))):=Lib.hid ((HCL.out.mono (by omega)).kept hg7 (by simp))
          have HB7' : Hid (Below MN wp w7):=Lib.hid (HBO.out.trans (below_grown hg7 (fun r e => by cases e; omega) (by omega)))
          have hs7 : MN + 2 <= w7.heap.size:=Nat.le_trans hsz hg7.size
          have HPT:=Lib.hid (HPUT.out w7 (T0 - (nl + restB st vn)) hm7 (by omega))
          have HM7:=Lib.hid hm7
          clear hm7 hg7 hv HPUT HMP hgn hq7
          try go_frame
          go_wp2_with (at_lookup; refine wpList_look_M _ rfl _ _ 66 rfl _ keyN Tryz.underlying66 (Tryz.zeroValue3 _) rfl HM7.out _ (.int .i64 (n2 : Int)) rfl HKEY.out (.int .i64 ((cc : Int) + 1)) (upd_self _ _ _ _) ?_)
          go_roundg (nl + restB st vn)
          case measure => have := HGN.out; omega
          case rel => exact ⟨l,vn,vl,qb,q2,c,nl,rfl,HNL,HQ7'.out,Lib.hid (HBF.out.node_old HIN.out),HPT,HC7,Lib.hid (by rw [HNL.out]),by have := HGN.out; omega,HB7',hs7⟩
         ·obtain ⟨f,hMP,hv,hput⟩:=HCN.out.new (t:=(n2 : Int)) (fun e => hin (nodeK_mem.1 e))
          have HMP:=Lib.hid hMP
          have HPUT:=Lib.hid hput
          have HIN:=Lib.hid hin
          clear hput hMP hin
          go_upto_region 42 with (first
           | (at_lookup; refine wpList_look_M _ rfl _ _ 66 rfl _ keyN Tryz.underlying66 (Tryz.zeroValue3 _) rfl HMP.out _ (.int .i64 (n2 : Int)) rfl HKEY.out (.int .i64 0) (hv) ?_)
           | (at_mapUpdate; refine wpList_put_M _ rfl _ _ _ 66 rfl _ keyN Tryz.underlying66 rfl HMP.out hml _ (.int .i64 (n2 : Int)) rfl HKEY.out (.int .i64 1) rfl ?_; intro w7 hm7 hg7))
          have hgn:=HGN.out
          have hrs:=restB_step (st:=st) HIN.out HX.out
          have hq7 : QueO (MN + 2) w7 qb q2 c l:=HQ2.out.move (hg7.block qb HQ2.out.lt (by simp; omega))
          have HQ7':=Lib.hid hq7
          have HC7 : Hid (CntM w7 (MN + 1) (leafK vl) (T0 - (nl + restB st vn))):=Lib.hid ((HCL.out.mono (by omega)).kept hg7 (by simp))
          have hb7 : Below MN wp w7:=HBO.out.trans (below_grown hg7 (fun r e => by cases e; omega) (by omega))
          have hs7 : MN + 2 <= w7.heap.size:=Nat.le_trans hsz hg7.size
          have HPT:=Lib.hid (HPUT.out w7 (T0 - (nl + restB st vn)) hm7 (by omega))
          have HM7:=Lib.hid hm7
          have hb4 : Below W4.heap.size W4 w7:=HBP.out.trans (hb7.mono hW4M)
          have HB7':=Lib.hid hb7
          have d1 : w7.cell? ⟨D,1,none⟩ = some (.slice da dn dm):=(HQ4.out.below hb4 hDW).at rfl
          obtain ⟨ng,hnr,hng⟩:=HDG.out.n
          have hil : n2 < st.nds.length:=by rw [HM2.out]; exact hdl
          obtain ⟨b1,o,cap,he,_,_,hbK,hcl⟩:=hnr.pos (by omega)
          dsimp only [Sl.val] at he
          simp only [Value.slice.injEq] at he
          obtain ⟨rfl,hzz,rfl⟩:=he
          clear hzz
          obtain ⟨hz1,hz2,hal,htk⟩:=HDO.out.wf.node n2 sc nx HX.out
          clear hz1 hz2
          have hgi:=hng n2 hil
          rw [HX.out] at hgi
          dsimp only [Option.getD_some] at hgi
          obtain ⟨xb,xo,xc,hxf,hxl,hxm,hxK,hxc⟩:=RowsV.pos hgi (red_pos hal)
          obtain ⟨u,hu⟩ : ∃ u,nx.length = u:=⟨_,rfl⟩
          have d2 : w7.cell? ⟨b1,o + n2 * 2 + 1,none⟩ = some (.slice (some ⟨xb,xo,none⟩) u xc):=(hb4.cell (p:=⟨b1,o + n2 * 2 + 1,none⟩) (show b1 < W4.heap.size by omega)).trans (by have := hcl n2 hil 1 (by omega); rw [<- hu,<- hxf,Nat.add_assoc]; simpa using this)
          have hsrc : Src Tryz.prog 1 56 (.slice (some ⟨xb,xo,none⟩) u xc) nx.length (cellsI nx) w7:=by
           rw [hu]
           refine Src.ofSlice w7 Tryz.underlying56 ⟨xb,xo,none⟩ u xc (cellsI nx) (by rw [cellsI_len,hu,Nat.mul_one]) (fun j v hj => ?_) (fun v hv => ?_)
           ·have hjl : j < nx.length:=by have := (List.getElem?_eq_some_iff.1 hj).1; rwa [cellsI_len] at this
            have hnj:=List.getElem?_eq_getElem hjl
            rw [cellsI_at hnj] at hj
            cases hj
            have h0:=(hb4.cell (p:=⟨xb,xo + j,none⟩) (show xb < W4.heap.size by omega)).trans (by have := hxc j hjl 0 (by omega); simpa using this)
            rw [hnj,Option.getD_some] at h0
            by_cases hj0 : j = 0
            ·subst hj0; simpa [Addr.add] using h0
            ·simpa [Addr.add,hj0] using h0
           ·unfold cellsI at hv
            obtain ⟨t,_,rfl⟩:=List.mem_map.1 hv
            rfl
          have HSRC:=Lib.hid hsrc
          have h40 : Hid (l.length + nx.length <= 2 ^ 40):=Lib.hid (by have := HNL.out; omega)
          have HU:=Lib.hid hu
          have HTK : Hid (∀ t ∈ nx,TOk st 0 t):=Lib.hid fun t ht => tok_zero (htk t ht)
          have HRS:=Lib.hid hrs
          unfold maxLen at hxm
          clear hm7 hg7 hv HPUT HMP hgn hq7 hb7 hb4 hnr hng hcl hal htk hgi hxc hu hxf hsrc hrs
          try go_frame
          go_wp2_with (first
           | (at_lookup; refine wpList_look_M _ rfl _ _ 66 rfl _ keyN Tryz.underlying66 (Tryz.zeroValue3 _) rfl HM7.out _ (.int .i64 (n2 : Int)) rfl HKEY.out (.int .i64 1) (upd_self _ _ _ _) ?_)
           | (at_builtin; refine wpList_append_que rfl (.tmp 136) (.tmp 142) rfl rfl HNL.out rfl HQ7'.out rfl HSRC.out hs7 h40.out ?_; intro g' q' c' w8 hq8 hb8))
          have hs8:=hb8.size
          go_roundg (nl + restB st vn)
          case measure => have := HGN.out; omega
          case rel => exact ⟨l ++ nx,vn ++ [n2],vl,g',q',c',nl + nx.length,rfl,Lib.hid (by rw [List.length_append,HNL.out]),hq8,Lib.hid (HBF.out.node_new HIN.out HX.out HTK.out),Lib.hid (by rw [nodeK_add]; exact HPT.out.below hb8 (by omega)),Lib.hid (HC7.out.below hb8 (by omega)),Lib.hid (by rw [List.length_append,HNL.out]; have := HRS.out; omega),by have := HGN.out; omega,Lib.hid (HB7'.out.trans (hb8.mono (by omega))),by omega⟩
end Go.Proofs.YtlidpghnlloinaaGreatDoor
