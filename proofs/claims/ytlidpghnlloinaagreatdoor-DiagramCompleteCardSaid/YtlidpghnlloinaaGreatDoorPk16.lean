/- Contracts and plain laws, several texts in one (GHold3, GlAwP, GlM3, GlOpn2). No conditions beyond those stated. -/
import Derived.Test.YtlidpghnlloinaaGreatDoorPk15
set_option maxRecDepth 100000
set_option maxHeartbeats 40000000
namespace Go.Proofs.YtlidpghnlloinaaGreatDoor
open Go.RowKit
set_option linter.unusedVariables false
theorem holdsS_bad {e : Gx} {l : List Sc} {cs : List Int} {i : Nat} (hi : i < l.length) (h : cellB l cs i = false) : holdsS e l cs = (false,2):=by
 unfold holdsS
 split
 ·rfl
 ·rw [if_pos]
  rw [List.any_eq_true]
  exact ⟨i,List.mem_range.2 hi,by rw [h]; rfl⟩
theorem holdsS_ok {e : Gx} {l : List Sc} {cs : List Int} (hf : fits e = true) (hlen : cs.length = l.length) (h : ∀ i,i < l.length -> cellB l cs i = true) : holdsS e l cs = if (holdG l cs e).2 = false then (false,2) else ((holdG l cs e).1,0):=by
 unfold holdsS
 rw [if_neg (by rw [hf]; simp [hlen]),if_neg]
 intro h2
 rw [List.any_eq_true] at h2
 obtain ⟨i,hi,hh⟩:=h2
 rw [h i (List.mem_range.1 hi)] at hh
 cases hh
theorem cellB_ok {l : List Sc} {cs : List Int} {i : Nat} (hi : i < l.length) (h : cellB l cs i = true) : (l[i]).okB = true:=by
 unfold cellB at h
 rw [List.getElem?_eq_getElem hi] at h
 simp only [Bool.and_eq_true,Option.getD_some] at h
 exact h.1.1
theorem gholds_any (K : Nat) (e : Gx) (x : Xv) (l : List Sc) (lv : Value) (cs : List Int) (cv : Value) (w : World) (he : ExG K w e x) (hg : e.good = true) (hl : ScsX K w lv l) (hc : IntsX K w cv cs) (hK : K <= w.heap.size) (hgo : ∀ s ∈ l,∀ c ∈ s.cuts,c.good = true) (hbig : ∀ s ∈ l,s.cuts.length <= 2 ^ 38) :
  Calls Tryz.prog 100 #[x.agg,lv,cv] w fun en w' => en = .returned (.tuple #[.bool (holdsS e l cs).1,.int .i64 (holdsS e l cs).2]) /\ Below w.heap.size w w':=by
 obtain ⟨la,lc,hlv,hll,hlm⟩:=hl.form
 obtain ⟨ca,cc,hcv,hcl,hcm⟩:=hc.form
 have HLV:=Lib.hid hlv
 have HCV:=Lib.hid hcv
 have HX:=Lib.hid he
 have HL:=Lib.hid hl
 have HC:=Lib.hid hc
 have HGO:=Lib.hid hgo
 have HBIG:=Lib.hid hbig
 subst hlv hcv
 unfold maxLen at hlm hcm
 obtain ⟨xop,xnm,kd,b3,⟨a4,n4,m4⟩,b5,⟨a6,n6,m6⟩,i7,⟨a8,n8,m8⟩⟩:=x
 obtain ⟨W1,hW1⟩ : ∃ W1,((w.alloc (.cells (⟨xop,xnm,kd,b3,⟨a4,n4,m4⟩,b5,⟨a6,n6,m6⟩,i7,⟨a8,n8,m8⟩⟩ : Xv).cells 49)).alloc (.cells #[.slice la l.length lc] 25)).alloc (.cells #[.slice ca cs.length cc] 56) = W1:=⟨_,rfl⟩
 obtain ⟨b1,q0,q1,q2,s1⟩:=alloc3 w _ _ _ _ _ _ hW1
 obtain ⟨B,hB⟩ : ∃ B,w.heap.size = B:=⟨_,rfl⟩
 have HB:=Lib.hid hB
 rw [hB] at hK b1 q0 q1 q2 s1 ⊢
 have HW:=Lib.hid hW1
 have hsz:=sized_any K e _ W1 (he.below b1 hK (Nat.le_refl _)) (by omega)
 have HQ0:=Lib.hid q0
 have HQ1:=Lib.hid q1
 have HQ2:=Lib.hid q2
 obtain ⟨R,hR⟩ : ∃ R,holdsS e l cs = R:=⟨_,rfl⟩
 rw [hR]
 have HR:=Lib.hid hR
 obtain ⟨n,hn⟩ : ∃ n,l.length = n:=⟨_,rfl⟩
 obtain ⟨k0,hk0⟩ : ∃ k,cs.length = k:=⟨_,rfl⟩
 rw [hn] at hll HW ⊢
 rw [hk0] at hcl HW ⊢
 have HN:=Lib.hid hn
 have HK0:=Lib.hid hk0
 obtain ⟨d0,d1,d2,d3,d4,d5,d6,d7,d8⟩:=q0.nine
 obtain ⟨ft,hft⟩ : ∃ f,fits e = f:=⟨_,rfl⟩
 rw [hft] at hsz
 have HFT:=Lib.hid hft
 clear he hl hc hgo hbig hB hW1 q0 q1 q2 hR hn hk0 hft
 go_enter Tryz.func100,Tryz.ntmps100
 go_upto_region 1 with fail
 simp only [HB.out]
 rw [HW.out]
 cases ft with
 | false =>
  have hr : R = (false,2):=by rw [<- HR.out]; unfold holdsS; rw [if_pos (.inl HFT.out)]
  subst hr
  go_wp2_with fail
  refine hsz.mono ?_
  rintro en w2 ⟨rfl,hb2⟩
  go_wp2_with fail
  go_ret2
  exact ⟨rfl,b1.trans (hb2.mono (by omega))⟩
 | true =>
  go_wp2_with fail
  refine hsz.mono ?_
  rintro en w2 ⟨rfl,hb2⟩
  clear hsz d0 d1 d2 d3 d4 d5 d6 d7 d8
  have hs2:=hb2.size
  have c1:=(HQ1.out.below hb2 (by omega)).one.1
  have c2:=(HQ2.out.below hb2 (by omega)).one.1
  rw [HN.out] at c1
  rw [HK0.out] at c2
  by_cases hlen : k0 = n
  ·subst hlen
   have e0 : ((k0 : Int) != (k0 : Int)) = false:=by simp
   have HB2:=Lib.hid hb2
   go_wp2_with fail
   go_loopw [25] (fun i wr => ∃ (j : Nat),j <= k0 /\ i = .int .i64 j /\ Below W1.heap.size W1 wr /\ Hid (∀ i,i < j -> cellB l cs i = true)) (fun i _ => k0 - (intOf i).toNat)
   case atStart => exact ⟨0,Nat.zero_le _,rfl,HB2.out,Lib.hid fun i hi => absurd hi (Nat.not_lt_zero i)⟩
   case round =>
    obtain ⟨j,hj,rfl,hbr,HALL⟩:=hrel
    have hsr:=hbr.size
    by_cases hlt : j < k0
    ·obtain ⟨g,hg0,hgs⟩:=HL.out
     obtain ⟨sb,so,scap,hse,_,hsm,hsb,hscl⟩:=hg0.pos (by rw [HN.out]; omega)
     simp only [Value.slice.injEq,true_and] at hse
     obtain ⟨rfl,rfl⟩:=hse
     have hyx:=hgs j (by rw [HN.out]; exact hlt)
     have hscl2:=cells_below (b1.trans (hbr.mono (by omega))) (show sb < B by omega) hscl
     have hrg:=sv_range hscl2 (show j < l.length by rw [HN.out]; exact hlt)
     obtain ⟨kb,ko,kcap,hke,_,hkm,hkb,hkcl⟩:=HC.out.pos (by rw [HK0.out]; omega)
     simp only [Value.slice.injEq,true_and] at hke
     obtain ⟨rfl,rfl⟩:=hke
     obtain ⟨y,hy⟩ : ∃ y,g j = y:=⟨_,rfl⟩
     obtain ⟨sc,hsc⟩ : ∃ s,l[j]?.getD default = s:=⟨_,rfl⟩
     obtain ⟨ci,hci⟩ : ∃ c,cs[j]?.getD 0 = c:=⟨_,rfl⟩
     rw [hsc,hy] at hyx
     rw [hy] at hrg
     have HRG:=Lib.hid hrg
     have HKC : Hid (∀ W',Below w.heap.size w W' -> W'.cell? ⟨kb,ko + j,none⟩ = some (.int .i64 ci)):=Lib.hid fun W' hb => by
      have := cells_below hb (by rw [HB.out]; omega) hkcl j (by rw [HK0.out]; exact hlt) 0 (by omega)
      simpa [hci] using this
     have HYX:=Lib.hid hyx
     have HSC:=Lib.hid hsc
     have HCI:=Lib.hid hci
     obtain ⟨⟨yop,ynm,yk,yb3,⟨y4,y4n,y4m⟩,yb5,⟨y6,y6n,y6m⟩,yi7,⟨y8,y8n,y8m⟩⟩,sk,⟨sa,sn,sm⟩⟩:=y
     clear hg0 hgs hscl hscl2 hkcl hyx hrg hy hsc hci c1 c2
     have hsbl : sb < wr.heap.size:=by omega
     go_upto_region 6 with (first
      | refine wpList_load_mid rfl 79 (.tmp 28) rfl sb (so + j * 11) rfl (⟨⟨yop,ynm,yk,yb3,⟨y4,y4n,y4m⟩,yb5,⟨y6,y6n,y6m⟩,yi7,⟨y8,y8n,y8m⟩⟩,sk,⟨sa,sn,sm⟩⟩ : Sv).cells.toList _ HRG.out Tryz.underlying79 rfl infoScaleN ?_
      | refine wpList_store_new rfl 79 (.tmp 9) (.tmp 29) rfl (⟨⟨yop,ynm,yk,yb3,⟨y4,y4n,y4m⟩,yb5,⟨y6,y6n,y6m⟩,yi7,⟨y8,y8n,y8m⟩⟩,sk,⟨sa,sn,sm⟩⟩ : Sv).cells _ infoScaleN rfl (by simp [Value.oneCell']) wr.heap.size rfl rfl rfl ?_)
     generalize hW3 : wr.alloc _ = W3
     have b3' : Below wr.heap.size wr W3:=by rw [<- hW3]; exact (Below.refl _ _).alloc (Nat.le_refl _) _
     have q3 : Blk W3 wr.heap.size (⟨⟨yop,ynm,yk,yb3,⟨y4,y4n,y4m⟩,yb5,⟨y6,y6n,y6m⟩,yi7,⟨y8,y8n,y8m⟩⟩,sk,⟨sa,sn,sm⟩⟩ : Sv).cells 79:=by rw [<- hW3]; exact Blk.new wr _ _
     have b3 : Below W1.heap.size W1 W3:=hbr.trans (b3'.mono hsr)
     have q3lt:=q3.lt
     obtain ⟨u,hu⟩ : ∃ u,wr.heap.size = u:=⟨_,rfl⟩
     rw [hu] at q3 q3lt ⊢
     have hu2 : W1.heap.size <= u:=by omega
     have hs3:=b3.size
     have hgo:=HGO.out sc (by rw [<- HSC.out,List.getElem?_eq_getElem (by rw [HN.out]; exact hlt)]; exact List.getElem_mem _)
     have hbg:=HBIG.out sc (by rw [<- HSC.out,List.getElem?_eq_getElem (by rw [HN.out]; exact hlt)]; exact List.getElem_mem _)
     have hyx3:=HYX.out.below (b1.trans (b3.mono (by omega))) hK (Nat.le_refl _)
     have hv : ∀ W',Below W3.heap.size W3 W' -> Calls Tryz.prog 69 #[(⟨⟨yop,ynm,yk,yb3,⟨y4,y4n,y4m⟩,yb5,⟨y6,y6n,y6m⟩,yi7,⟨y8,y8n,y8m⟩⟩,sk,⟨sa,sn,sm⟩⟩ : Sv).agg] W' fun e w' => e = .returned (.bool sc.okB) /\ Below W'.heap.size W' w':=fun W' hb => gvalid_any K sc _ W' (hyx3.below hb (by omega) (Nat.le_refl _)) (by have := hb.size; omega) hgo hbg
     have hkds : sk = sc.kd:=hyx3.kd
     have hcls : sn = sc.cuts.length:=by obtain ⟨_,_,h9,_,_⟩:=hyx3.cuts.form; simp only [Sl.val,Value.slice.injEq] at h9; exact h9.2.1
     have hcb : cellB l cs j = (sc.okB && decide (0 <= ci) && decide (ci < cntN sk sn)):=by unfold cellB; rw [HSC.out,HCI.out,hkds,hcls]
     have HCB:=Lib.hid hcb
     have HV:=Lib.hid hv
     have HBG : Hid (sn <= 2 ^ 38):=Lib.hid (by rw [hcls]; exact hbg)
     have HQ3:=Lib.hid q3
     have HB3:=Lib.hid b3
     have HBAD : Hid (cellB l cs j = false -> R = (false,2)):=Lib.hid fun h => by rw [<- HR.out]; exact holdsS_bad (by rw [HN.out]; exact hlt) h
     obtain ⟨rv,hrv⟩ : ∃ r,sc.okB = r:=⟨_,rfl⟩
     rw [hrv] at hv hcb
     have HCB:=Lib.hid hcb
     have HV:=Lib.hid hv
     clear hW3 b3' q3 b3 hu hgo hbg hyx3 hkds hcls hcb hv hbr hrv
     refine region_plain (fun W' => Below W3.heap.size W3 W') [] (by kernel_rfl) ?_
     have qS : (fun W' => Below W3.heap.size W3 W') W3.drew:=below_quiet (Below.refl _ _)
     have b13 : ∀ W',Below W3.heap.size W3 W' -> Below W1.heap.size W1 W':=fun W' h => HB3.out.trans (h.mono hs3)
     refine wpAnyD_tk (i:=0) (v:=(⟨⟨yop,ynm,yk,yb3,⟨y4,y4n,y4m⟩,yb5,⟨y6,y6n,y6m⟩,yi7,⟨y8,y8n,y8m⟩⟩,sk,⟨sa,sn,sm⟩⟩ : Sv).agg) rfl (yieldsIf_load_mid (by kernel_rfl) 79 (.tmp 9) rfl u 0 rfl (⟨⟨yop,ynm,yk,yb3,⟨y4,y4n,y4m⟩,yb5,⟨y6,y6n,y6m⟩,yi7,⟨y8,y8n,y8m⟩⟩,sk,⟨sa,sn,sm⟩⟩ : Sv).cells.toList _ (fun W' hS => (HQ3.out.below hS q3lt).range) Tryz.underlying79 rfl infoScaleN) qS ?_
     refine wpAnyD_one (i:=1) (by kernel_rfl) rfl (by kernel_rfl) ?_
     go_simp
     refine (HV.out _ qS).mono ?_
     rintro en w4 ⟨rfl,hb4⟩
     have qS4 : Below W3.heap.size W3 w4:=qS.trans (hb4.mono qS.size)
     refine ⟨qS4,?_⟩
     clear hb4 qS
     cases rv with
     | false =>
      obtain rfl:=HBAD.out (by rw [HCB.out]; rfl)
      refine wpAnyD_tp (i:=2) (v:=.bool true) rfl qS4 ?_
      refine wpAnyD_tp (i:=3) (v:=.bool true) rfl qS4 ?_
      refine wpAnyD_tk (i:=4) (v:=undef) rfl (.inr ⟨by kernel_rfl,rfl⟩) qS4 ?_
      refine wpAnyD_tk (i:=5) (v:=undef) rfl (.inr ⟨by kernel_rfl,rfl⟩) qS4 ?_
      refine wpAnyD_tk (i:=6) (v:=undef) rfl (.inr ⟨by kernel_rfl,rfl⟩) qS4 ?_
      refine wpAnyD_tk (i:=7) (v:=undef) rfl (.inr ⟨by kernel_rfl,rfl⟩) qS4 ?_
      refine wpAnyD_tk (i:=8) (v:=undef) rfl (.inr ⟨by kernel_rfl,rfl⟩) qS4 ?_
      refine wpAnyD_tp (i:=9) (v:=.bool true) rfl qS4 ?_
      refine wpAnyD_tp (i:=10) (v:=.bool true) rfl qS4 ?_
      refine wpAnyD_tk (i:=11) (v:=undef) rfl (.inr ⟨by kernel_rfl,rfl⟩) qS4 ?_
      refine wpAnyD_tk (i:=12) (v:=undef) rfl (.inr ⟨by kernel_rfl,rfl⟩) qS4 ?_
      refine wpAnyD_tk (i:=13) (v:=undef) rfl (.inr ⟨by kernel_rfl,rfl⟩) qS4 ?_
      refine wpAnyD_tk (i:=14) (v:=undef) rfl (.inr ⟨by kernel_rfl,rfl⟩) qS4 ?_
      refine wpAnyD_tk (i:=15) (v:=undef) rfl (.inr ⟨by kernel_rfl,rfl⟩) qS4 ?_
      refine wpAnyD_tk (i:=16) (v:=undef) rfl (.inr ⟨by kernel_rfl,rfl⟩) qS4 ?_
      refine wpAnyD_tp (i:=17) (v:=.bool true) rfl qS4 ?_
      refine wpAnyD_done (by kernel_rfl) ?_ _
      go_simp
      iterate 14 go_step
      change bodyPost _ _ (fun en w' => en = .returned (.tuple #[.bool false,.int .i64 2]) /\ Below B w w') .ret _ _
      go_ret2
      exact ⟨rfl,b1.trans ((b13 _ qS4).mono (by omega))⟩
     | true =>
      refine wpAnyD_tp (i:=2) (v:=.bool false) rfl qS4 ?_
      refine wpAnyD_tp (i:=3) (v:=.bool false) rfl qS4 ?_
      refine wpAnyD_tk (i:=4) (v:=.slice (some ⟨kb,ko,none⟩) k0 cc) rfl (.inl ⟨by kernel_rfl,fun W' hS => by have d0:=(HQ2.out.below (b13 W' hS) (by omega)).one.1; rw [HK0.out] at d0; go_simp⟩) qS4 ?_
      refine wpAnyD_tp (i:=5) (v:=.int .i64 (j : Int)) rfl qS4 ?_
      refine wpAnyD_tp (i:=6) (v:=.pointer (some ⟨kb,ko + j,none⟩)) rfl qS4 ?_
      refine wpAnyD_tk (i:=7) (v:=.int .i64 ci) rfl (.inl ⟨by kernel_rfl,fun W' hS => by have d0:=HKC.out W' (HB.out.symm ▸ (b1.trans ((b13 W' hS).mono (by omega)))); go_simp⟩) qS4 ?_
      by_cases h0 : ci < 0
      ·obtain rfl:=HBAD.out (by rw [HCB.out]; simp; omega)
       have e0 : decide (ci < 0) = true:=by simp; omega
       refine wpAnyD_tp (i:=8) (v:=.bool true) rfl qS4 ?_
       refine wpAnyD_tp (i:=9) (v:=.bool true) rfl qS4 ?_
       refine wpAnyD_tp (i:=10) (v:=.bool true) rfl qS4 ?_
       refine wpAnyD_tk (i:=11) (v:=undef) rfl (.inr ⟨by kernel_rfl,rfl⟩) qS4 ?_
       refine wpAnyD_tk (i:=12) (v:=undef) rfl (.inr ⟨by kernel_rfl,rfl⟩) qS4 ?_
       refine wpAnyD_tk (i:=13) (v:=undef) rfl (.inr ⟨by kernel_rfl,rfl⟩) qS4 ?_
       refine wpAnyD_tk (i:=14) (v:=undef) rfl (.inr ⟨by kernel_rfl,rfl⟩) qS4 ?_
       refine wpAnyD_tk (i:=15) (v:=undef) rfl (.inr ⟨by kernel_rfl,rfl⟩) qS4 ?_
       refine wpAnyD_tk (i:=16) (v:=undef) rfl (.inr ⟨by kernel_rfl,rfl⟩) qS4 ?_
       refine wpAnyD_tp (i:=17) (v:=.bool true) rfl qS4 ?_
       refine wpAnyD_done (by kernel_rfl) ?_ _
       go_simp
       iterate 14 go_step
       change bodyPost _ _ (fun en w' => en = .returned (.tuple #[.bool false,.int .i64 2]) /\ Below B w w') .ret _ _
       go_ret2
       exact ⟨rfl,b1.trans ((b13 _ qS4).mono (by omega))⟩
      ·have e0 : decide (ci < 0) = false:=by simp; omega
       refine wpAnyD_tp (i:=8) (v:=.bool false) rfl qS4 ?_
       refine wpAnyD_tp (i:=9) (v:=.bool false) rfl qS4 ?_
       refine wpAnyD_tp (i:=10) (v:=.bool false) rfl qS4 ?_
       refine wpAnyD_tk (i:=11) (v:=.slice (some ⟨kb,ko,none⟩) k0 cc) rfl (.inl ⟨by kernel_rfl,fun W' hS => by have d0:=(HQ2.out.below (b13 W' hS) (by omega)).one.1; rw [HK0.out] at d0; go_simp⟩) qS4 ?_
       refine wpAnyD_tp (i:=12) (v:=.int .i64 (j : Int)) rfl qS4 ?_
       refine wpAnyD_tp (i:=13) (v:=.pointer (some ⟨kb,ko + j,none⟩)) rfl qS4 ?_
       refine wpAnyD_tk (i:=14) (v:=.int .i64 ci) rfl (.inl ⟨by kernel_rfl,fun W' hS => by have d0:=HKC.out W' (HB.out.symm ▸ (b1.trans ((b13 W' hS).mono (by omega)))); go_simp⟩) qS4 ?_
       refine wpAnyD_one (i:=15) (by kernel_rfl) rfl (by kernel_rfl) ?_
       go_simp
       have q4:=HQ3.out.below qS4 q3lt
       refine (gcount_any u 0 sn sm sa sk w4 (q4.at (i:=9) rfl) (q4.at (i:=10) rfl) HBG.out).mono ?_
       rintro en w5 ⟨rfl,hb5⟩
       have qS5 : Below W3.heap.size W3 w5:=qS4.trans (hb5.mono qS4.size)
       refine ⟨qS5,?_⟩
       obtain ⟨cn,hcn⟩ : ∃ c,cntN sk sn = c:=⟨_,rfl⟩
       have hcb:=HCB.out
       rw [hcn] at hcb ⊢
       clear qS4 q4 hb5 hcn
       by_cases h1 : (cn : Int) <= ci
       ·obtain rfl:=HBAD.out (by rw [hcb]; simp; omega)
        have e1 : decide ((cn : Int) <= ci) = true:=by simp; omega
        refine wpAnyD_tp (i:=16) (v:=.bool true) rfl qS5 ?_
        refine wpAnyD_tp (i:=17) (v:=.bool true) rfl qS5 ?_
        refine wpAnyD_done (by kernel_rfl) ?_ _
        go_simp
        iterate 14 go_step
        change bodyPost _ _ (fun en w' => en = .returned (.tuple #[.bool false,.int .i64 2]) /\ Below B w w') .ret _ _
        go_ret2
        exact ⟨rfl,b1.trans ((b13 _ qS5).mono (by omega))⟩
       ·have e1 : decide ((cn : Int) <= ci) = false:=by simp; omega
        have hok : cellB l cs j = true:=by rw [hcb]; simp; omega
        have HALL2 : Hid (∀ i,i < j + 1 -> cellB l cs i = true):=Lib.hid fun i hi => by
         by_cases h : i = j
         ·subst h; exact hok
         ·exact HALL.out i (by omega)
        clear hcb hok
        refine wpAnyD_tp (i:=16) (v:=.bool false) rfl qS5 ?_
        refine wpAnyD_tp (i:=17) (v:=.bool false) rfl qS5 ?_
        have b15:=b13 _ qS5
        refine wpAnyD_done (by kernel_rfl) ?_ _
        go_simp
        iterate 14 go_step
        change _ /\ _
        go_roundw
        case rel => exact ⟨j + 1,by omega,by simp,b15,HALL2⟩
        case measure => simp [intOf]; omega
    ·obtain rfl : j = k0:=by omega
     have hall : ∀ i,i < l.length -> cellB l cs i = true:=fun i hi => HALL.out i (by have := HN.out; omega)
     have hres:=holdsS_ok HFT.out (by rw [HN.out,HK0.out]) hall
     rw [HR.out] at hres
     have hinf : (Tryz.prog.info? 146).map (fun i => i.size) = some 1:=by kernel_rfl
     have HRES:=Lib.hid hres
     clear hres c1 c2 hall
     go_upto_region 11 with fail
     generalize hW2 : (wr.alloc _).alloc _ = W2
     have x2 : Below W1.heap.size W1 W2:=by rw [<- hW2]; exact (hbr.alloc hsr _).alloc (by simp; omega) _
     have p1 : Blk W2 wr.heap.size #[.bool true] 4:=by rw [<- hW2]; exact (Blk.new wr _ _).alloc _
     have p2 : Blk W2 (wr.heap.size + 1) #[.nilFunc] 146:=by
      rw [<- hW2]
      have := Blk.new (wr.alloc (.cells #[.bool true] 4)) #[.nilFunc] 146
      rwa [World.size_alloc] at this
     obtain ⟨u,hu⟩ : ∃ u,wr.heap.size = u:=⟨_,rfl⟩
     rw [hu] at p1 p2 hsr ⊢
     clear hW2 hu hbr
     iterate 4 go_step
     refine wpList_store_val rfl 146 146 (.tmp 11) (.tmp 49) rfl (hdF (B + 1) u (B + 1 + 1) (u + 1)) .nilFunc (u + 1) p2 hinf rfl rfl rfl ?_
     intro W3 t1 t2 t3 t4
     have hx : Below W1.heap.size W1 W3:=x2.trans (t2 _ (by omega))
     have hs3:=hx.size
     have h1:=HQ1.out.below hx (by omega)
     have h2:=HQ2.out.below hx (by omega)
     have h3:=HL.out.below (b1.trans (hx.mono (by omega))) hK (show K <= W1.heap.size by omega)
     have h4:=HC.out.below (b1.trans (hx.mono (by omega))) hK (show K <= W1.heap.size by omega)
     rw [HN.out] at h1 h3
     rw [HK0.out] at h2 h4
     have hpb : Blk W3 u #[.bool true] 4:=p1.below (t2 (u + 1) (Nat.le_refl _)) (by omega)
     have hcl : HdW W1.heap.size (B + 1) u (B + 1 + 1) (u + 1) l cs (.slice la j lc) (.slice ca j cc) true W3 :=
      ⟨h3,by unfold IntsX; rw [HK0.out]; exact h4,hpb,h1,h2,t1⟩
     have hfit:=HFT.out
     unfold fits at hfit
     simp only [Bool.and_eq_true,decide_eq_true_eq] at hfit
     have hoks : ∀ s ∈ l,CutsOk s.kd s.cuts /\ s.cuts.length <= 2 ^ 38:=fun s hs => by
      obtain ⟨i,hi,rfl⟩:=List.mem_iff_getElem.1 hs
      exact ⟨okB_cutsOk (cellB_ok hi (HALL.out i (by have := HN.out; omega))) (HGO.out _ (List.getElem_mem hi)),HBIG.out _ (List.getElem_mem hi)⟩
     have hcall:=holdsF_at W1.heap.size u (B + 1) (B + 1 + 1) (u + 1) l cs _ _ (by rw [HN.out,HK0.out]) hoks hsr e.parts e (Nat.le_refl _) hfit.1 hg true _ W3 (HX.out.below (b1.trans (hx.mono (by omega))) hK (show K <= W1.heap.size by omega)) hcl
     have f1:=t1.one.1
     obtain ⟨d0,d1,d2,d3,d4,d5,d6,d7,d8⟩:=(HQ0.out.below hx (by omega)).nine
     have hb3 : Below B w W3:=b1.trans (hx.mono (by omega))
     have ul : u < W3.heap.size:=hpb.lt
     obtain ⟨G,hG⟩ : ∃ G,holdG l cs e = G:=⟨_,rfl⟩
     rw [hG] at hcall
     have hR2:=HRES.out
     rw [hG] at hR2
     clear p1 p2 x2 t2 t3 t4 h1 h2 h3 h4 hpb hcl hoks hfit hG t1 hx
     go_wp2_with fail
     refine hcall.mono ?_
     rintro en W4 ⟨rfl,hg4,hq4⟩
     clear hcall d0 d1 d2 d3 d4 d5 d6 d7 d8 f1
     have hb4 : Below B w W4:=hb3.trans (below_of_grownBy hg4 (by have := hb3.size; omega) (by omega))
     obtain ⟨g1,g2⟩:=G
     have c4:=hq4.one.1
     cases g2 with
     | false =>
      rw [if_pos rfl] at hR2
      subst hR2
      go_wp2_with fail
      go_ret2
      exact ⟨rfl,hb4⟩
     | true =>
      rw [if_neg (by simp)] at hR2
      subst hR2
      go_wp2_with fail
      go_ret2
      exact ⟨rfl,hb4⟩
  ·have hr : R = (false,2):=by rw [<- HR.out]; unfold holdsS; rw [if_pos (.inr (by rw [HN.out,HK0.out]; exact hlen))]
   subst hr
   have e1 : ((k0 : Int) != (n : Int)) = true:=by simp; omega
   have e2 : ((k0 : Int) == (n : Int)) = false:=by simp; omega
   go_wp2_with fail
   go_ret2
   exact ⟨rfl,b1.trans (hb2.mono (by omega))⟩
theorem rows_ex {K b n : Nat} {w : World} {cs : Array Value} (hq : Blk w b cs 49) (hb : b < K) (g : Nat -> Xv) (h : ∀ i,i < n -> ∀ j,j < 9 -> cs[i * 9 + j]? = some ((g i).cell j)) (hm : n <= maxLen) : RowsV 9 (fun i j => (g i).cell j) K w (.slice (some ⟨b,0,none⟩) n n) n :=
 RowsV.mk_cells (Nat.le_refl _) hm hb fun i hi j hj => by rw [Nat.zero_add]; exact hq.at (h i hi j hj)
def g2x (x y : Xv) (i : Nat) : Xv:=if i = 0 then x else y
abbrev cells2 (x y : Xv) : Array Value:=#[.int .u8 x.op,S x.nm,.int .u8 x.kd,.bool x.b3,.slice x.s4.a x.s4.n x.s4.m,.bool x.b5,.slice x.s6.a x.s6.n x.s6.m,.int .i64 x.i7,.slice x.s8.a x.s8.n x.s8.m,.int .u8 y.op,S y.nm,.int .u8 y.kd,.bool y.b3,.slice y.s4.a y.s4.n y.s4.m,.bool y.b5,.slice y.s6.a y.s6.n y.s6.m,.int .i64 y.i7,.slice y.s8.a y.s8.n y.s8.m]
theorem rows_ex2 {K b : Nat} {w : World} {x y : Xv} (hq : Blk w b (cells2 x y) 49) (hb : b < K) : RowsV 9 (fun i j => (g2x x y i).cell j) K w (.slice (some ⟨b,0,none⟩) 2 2) 2:=by
 refine rows_ex hq hb _ (fun i hi j hj => ?_) (by simp [maxLen])
 rcases i with _ | _ | i
 ·rcases j with _ | _ | _ | _ | _ | _ | _ | _ | _ | j <;> first | rfl | omega
 ·rcases j with _ | _ | _ | _ | _ | _ | _ | _ | _ | j <;> first | rfl | omega
 ·omega
theorem rows_ex1 {K b : Nat} {w : World} {x : Xv} (hq : Blk w b x.cells 49) (hb : b < K) : RowsV 9 (fun i j => ((fun _ => x) i : Xv).cell j) K w (.slice (some ⟨b,0,none⟩) 1 1) 1:=by
 refine rows_ex hq hb (fun _ => x) (fun i hi j hj => ?_) (by simp [maxLen])
 obtain rfl : i = 0:=by omega
 rcases j with _ | _ | _ | _ | _ | _ | _ | _ | _ | j <;> first | rfl | omega
theorem exg_two {K b : Nat} {w : World} {o : Int} {e1 e2 : Gx} {x y z : Xv} (hq : Blk w b (cells2 x y) 49) (hb : b < K) (h1 : ExG K w e1 x) (h2 : ExG K w e2 y) (hz : z = opX o ⟨some ⟨b,0,none⟩,2,2⟩) : ExG K w (.mk o [] v0 [e1,e2]) z:=by
 subst hz
 refine ExG.make rfl rfl (by simp [Gx.nm,maxLen]) (vv0_is K w) (g2x x y) (rows_ex2 hq hb) fun j a ha => ?_
 rcases j with _ | _ | j
 ·cases ha; exact h1
 ·cases ha; exact h2
 ·cases ha
theorem exg_one {K b : Nat} {w : World} {o : Int} {nm : Str} {e1 : Gx} {x : Xv} (hq : Blk w b x.cells 49) (hb : b < K) (h1 : ExG K w e1 x) (hn : nm.length <= maxLen) : ExG K w (.mk o nm v0 [e1]) ⟨o,nm,0,false,⟨none,0,0⟩,false,⟨none,0,0⟩,0,⟨some ⟨b,0,none⟩,1,1⟩⟩:=by
 refine ExG.make rfl rfl hn (vv0_is K w) (fun _ => x) (rows_ex1 hq hb) fun j a ha => ?_
 rcases j with _ | j
 ·cases ha; exact h1
 ·cases ha
structure NewW (L : Nat) (V W : World) : Prop where
 size : V.heap.size <= W.heap.size
 block : ∀ k,L <= k -> k < V.heap.size -> W.heap[k]? = V.heap[k]?
theorem NewW.refl (L : Nat) (V : World) : NewW L V V:=⟨Nat.le_refl _,fun _ _ _ => rfl⟩
theorem NewW.trans {L : Nat} {V W X : World} (h : NewW L V W) (h' : NewW L W X) : NewW L V X:=⟨Nat.le_trans h.size h'.size,fun k h1 h2 => (h'.block k h1 (Nat.lt_of_lt_of_le h2 h.size)).trans (h.block k h1 h2)⟩
theorem NewW.mono {L L' : Nat} {V W : World} (h : NewW L V W) (hl : L <= L') : NewW L' V W:=⟨h.size,fun k h1 h2 => h.block k (Nat.le_trans hl h1) h2⟩
theorem NewW.of {L : Nat} {V W : World} (h : Below V.heap.size V W) : NewW L V W:=⟨h.size,fun k _ h2 => h.block k h2⟩
theorem NewW.put {L r : Nat} {V W : World} (h : V.grownBy W (some r)) (hr : r < L) : NewW L V W:=⟨h.size,fun k h1 h2 => h.block k h2 (fun e => by simp at e; omega)⟩
theorem NewW.cell {L : Nat} {V W : World} (h : NewW L V W) {a : Addr} {v : Value} (ha : L <= a.block) (hc : V.cell? a = some v) : W.cell? a = some v:=by
 have hlt:=World.block_lt_of_cell? _ _ hc
 unfold World.cell? at hc ⊢
 rw [h.block a.block ha hlt]; exact hc
theorem NewW.blk {L b t : Nat} {V W : World} {cs : Array Value} (h : NewW L V W) (hb : L <= b) (hq : Blk V b cs t) : Blk W b cs t:=(h.block b hb hq.lt).trans hq
def ExN (L : Nat) (V : World) (e : Gx) (x : Xv) : Prop:=∀ W,NewW L V W -> ExG W.heap.size W e x
def VlN (L : Nat) (V : World) (v : Vq) (x : Vv) : Prop:=∀ W,NewW L V W -> VlX W.heap.size W v x
theorem ExN.now {L : Nat} {V : World} {e : Gx} {x : Xv} (h : ExN L V e x) : ExG V.heap.size V e x:=h V (NewW.refl _ _)
theorem ExN.move {L : Nat} {V W : World} {e : Gx} {x : Xv} (h : ExN L V e x) (hw : NewW L V W) : ExN L W e x:=fun X hx => h X (hw.trans hx)
theorem ExN.mono {L L' : Nat} {V : World} {e : Gx} {x : Xv} (h : ExN L V e x) (hl : L' <= L) : ExN L' V e x:=fun X hx => h X (hx.mono hl)
theorem VlN.move {L : Nat} {V W : World} {v : Vq} {x : Vv} (h : VlN L V v x) (hw : NewW L V W) : VlN L W v x:=fun X hx => h X (hw.trans hx)
theorem lm_newW {K L : Nat} {V W : World} {v : Value} {l : List Nat} (h : Lm K V v l) (hv : NewV L v) (hw : NewW L V W) (hK : K <= V.heap.size) : Lm W.heap.size W v l:=by
 obtain ⟨a,cap,rfl,hn,hm,hz,hc⟩:=h.1
 have hs:=hw.size
 refine ⟨⟨a,cap,rfl,hn,hm,hz,fun i hi => ?_⟩,h.2⟩
 obtain ⟨b,o,he,hbK,hcell⟩:=hc i hi
 subst he
 exact ⟨b,o,rfl,by omega,fun j hj => hw.cell (hv b o _ _ rfl) (hcell j hj)⟩
theorem exn_two {L V b} {o : Int} {e1 e2 : Gx} {x y : Xv} (hq : Blk V b (cells2 x y) 49) (hb : L <= b) (h1 : ExN L V e1 x) (h2 : ExN L V e2 y) : ExN L V (.mk o [] v0 [e1,e2]) (opX o ⟨some ⟨b,0,none⟩,2,2⟩):=fun W hw => exg_two (hw.blk hb hq) (hw.blk hb hq).lt (h1 W hw) (h2 W hw) rfl
theorem exn_one {L V b} {o : Int} {e1 : Gx} {x : Xv} (hq : Blk V b x.cells 49) (hb : L <= b) (h1 : ExN L V e1 x) : ExN L V (.mk o [] v0 [e1]) (opX o ⟨some ⟨b,0,none⟩,1,1⟩):=fun W hw => exg_one (hw.blk hb hq) (hw.blk hb hq).lt (h1 W hw) (by simp [maxLen])
abbrev cells3 (x y z : Xv) : Array Value:=#[.int .u8 x.op,S x.nm,.int .u8 x.kd,.bool x.b3,.slice x.s4.a x.s4.n x.s4.m,.bool x.b5,.slice x.s6.a x.s6.n x.s6.m,.int .i64 x.i7,.slice x.s8.a x.s8.n x.s8.m,.int .u8 y.op,S y.nm,.int .u8 y.kd,.bool y.b3,.slice y.s4.a y.s4.n y.s4.m,.bool y.b5,.slice y.s6.a y.s6.n y.s6.m,.int .i64 y.i7,.slice y.s8.a y.s8.n y.s8.m,
 .int .u8 z.op,S z.nm,.int .u8 z.kd,.bool z.b3,.slice z.s4.a z.s4.n z.s4.m,.bool z.b5,.slice z.s6.a z.s6.n z.s6.m,.int .i64 z.i7,.slice z.s8.a z.s8.n z.s8.m]
def g3x (x y z : Xv) (i : Nat) : Xv:=if i = 0 then x else if i = 1 then y else z
theorem exn_three {L V b} {o : Int} {e1 e2 e3 : Gx} {x y z : Xv} (hq : Blk V b (cells3 x y z) 49) (hb : L <= b) (h1 : ExN L V e1 x) (h2 : ExN L V e2 y) (h3 : ExN L V e3 z) : ExN L V (.mk o [] v0 [e1,e2,e3]) (opX o ⟨some ⟨b,0,none⟩,3,3⟩):=fun W hw => by
 have hq':=hw.blk hb hq
 refine ExG.make rfl rfl (by simp [Gx.nm,maxLen]) (vv0_is _ W) (g3x x y z) (rows_ex hq' hq'.lt _ (fun i hi j hj => ?_) (by simp [maxLen])) fun j a ha => ?_
 ·rcases i with _ | _ | _ | i
  ·rcases j with _ | _ | _ | _ | _ | _ | _ | _ | _ | j <;> first | rfl | omega
  ·rcases j with _ | _ | _ | _ | _ | _ | _ | _ | _ | j <;> first | rfl | omega
  ·rcases j with _ | _ | _ | _ | _ | _ | _ | _ | _ | j <;> first | rfl | omega
  ·have hi3 : i + 1 + 1 + 1 < 3:=hi
   omega
 ·rcases j with _ | _ | _ | j
  ·cases ha; exact h1 W hw
  ·cases ha; exact h2 W hw
  ·cases ha; exact h3 W hw
  ·cases ha
theorem exn_con {L : Nat} {V : World} {v : Vq} {kd : Int} {f1 f2 : Bool} {s1 s2 : Sl} {i : Int} (h : VlN L V v ⟨kd,f1,s1.val,f2,s2.val,i⟩) : ExN L V (conV v) (conX kd f1 s1 f2 s2 i):=fun W hw => ExG.make rfl rfl (by simp [Gx.nm,conV,maxLen]) (h W hw) (fun _ => xz) (RowsV.nil none 0 (Nat.zero_le _) (fun _ => rfl)) fun j a ha => by cases ha
theorem gvalueN_any (kd : Int) (hk : 1 <= kd /\ kd <= 6) (n : Nat) (hn : n < 65536) (w : World) : Calls Tryz.prog 81 #[.int .u8 kd,.int .i64 n] w fun e w' => ∃ (k i : Int) (f1 f2 : Bool) (s1 s2 : Sl),e = .returned (⟨k,f1,s1.val,f2,s2.val,i⟩ : Vv).agg /\ VlN w.heap.size w' (wV kd n) ⟨k,f1,s1.val,f2,s2.val,i⟩ /\ Below w.heap.size w w':=by
 unfold wV
 by_cases h : kd = 2 \/ kd = 3
 ·rw [if_pos h]
  refine (gvalf_any kd h n w hn).mono ?_
  rintro e w' ⟨x,rfl,hx,h1,h2,hb⟩
  obtain ⟨a1,m1,hv1,_⟩:=hx.n.form
  obtain ⟨a2,m2,hv2,_⟩:=hx.d.form
  obtain ⟨k,f1,s1,f2,s2,i⟩:=x
  dsimp only at hv1 hv2
  subst hv1 hv2
  exact ⟨k,i,f1,f2,⟨a1,_,m1⟩,⟨a2,_,m2⟩,rfl,fun W hw => ⟨hx.kd,hx.b1,hx.b2,hx.i,lm_newW hx.n h1 hw (Nat.le_refl _),lm_newW hx.d h2 hw (Nat.le_refl _)⟩,hb⟩
 ·rw [if_neg h]
  refine (gvalw_any kd n (by omega) w).mono ?_
  rintro e w' ⟨rfl,hb⟩
  exact ⟨kd,n,false,false,⟨none,0,0⟩,⟨none,0,0⟩,rfl,fun W hw => wholeX_is _ _ _ _,hb⟩
theorem refX_new {L b : Nat} {nm : Str} {V : World} (h : Blk V b todX.cells 49) (hb : L <= b) (hn : nm.length <= maxLen) : ExN L V (.mk 5 nm v0 [.mk 2 [] v0 []]) (refX nm b):=fun W hw => refX_is (hw.blk hb h) (hw.blk hb h).lt hn
def U8s (K : Nat) (w : World) (v : Value) (l : List Nat) : Prop:=RowsV 1 (fun i _ => .int .u8 ((l[i]?.getD 0 : Nat) : Int)) K w v l.length
theorem U8s.below {K K' B : Nat} {w w' : World} {v : Value} {l : List Nat} (h : U8s K w v l) (hb : Below B w w') (hB : K <= B) (hK : K <= K') : U8s K' w' v l:=RowsV.below h hb hB hK
theorem U8s.grow {K K' : Nat} {w : World} {v : Value} {l : List Nat} (h : U8s K w v l) (hK : K <= K') : U8s K' w v l:=RowsV.below h (Below.refl K w) (Nat.le_refl _) hK
theorem U8s.nil (K : Nat) (w : World) : U8s K w (.slice none 0 0) []:=RowsV.nil none 0 (Nat.zero_le _) (fun _ => rfl)
theorem U8s.head {K : Nat} {w : World} {v : Value} {x : Nat} {r : List Nat} (h : U8s K w v (x :: r)) : ∃ b o cap,v = .slice (some ⟨b,o,none⟩) (r.length + 1) cap /\ r.length + 1 <= cap /\ cap <= maxLen /\ b < K /\ w.cell? ⟨b,o,none⟩ = some (.int .u8 (x : Int)) /\ U8s K w (.slice (if cap = 1 then some ⟨b,o,none⟩ else some ⟨b,o + 1,none⟩) r.length (cap - 1)) r:=by
 obtain ⟨b,o,cap,hv,h1,h2,h3,h4⟩:=RowsV.pos h (by simp)
 have hl : (x :: r).length = r.length + 1:=rfl
 rw [hl] at hv h1 h4
 refine ⟨b,o,cap,hv,h1,h2,h3,?_,?_⟩
 ·have := h4 0 (by omega) 0 (by omega)
  simp only [Nat.zero_mul,Nat.add_zero] at this
  rw [this]; rfl
 ·by_cases hc : cap = 1
  ·rw [if_pos hc]
   have h0 : r.length = 0:=by omega
   unfold U8s
   rw [h0]
   exact RowsV.nil _ _ (by omega) (fun e => by cases e)
  ·rw [if_neg hc]
   refine RowsV.mk_cells (by omega) (by omega) h3 fun i hi j hj => ?_
   obtain rfl : j = 0:=by omega
   have := h4 (i + 1) (by omega) 0 (by omega)
   rw [show o + ((i + 1) * 1 + 0) = o + 1 + (i * 1 + 0) by omega] at this
   rw [this]; rfl
open Go.RowKit Go.ChangeShapes Go.WideShapes Go.ChangeAt Go.Deep
section
variable {H : Type} {enc : TypeId × Value -> H} {W : World}
theorem u8_wf {q : Int} (h : (Lit.int .u8 q).wf = true) : ∃ y : Nat,y < 256 /\ q = y:=by
 simp [Lit.wf,IntKind.min,IntKind.max,IntKind.signed,IntKind.bits] at h
 exact ⟨q.toNat,by omega,by omega⟩
theorem u8s_of_trod {fuel : Nat} {v : Value} {x : DataW H × List MemPlace} (h : DataW.trod enc Tryz.prog W 0 (fun _ => true) true fuel 60 [v] = some x) : ∃ l,U8s W.heap.size W v l /\ ∀ y ∈ l,y < 256:=by
 obtain ⟨a,len,cap,rfl,hlc,hcm,hz,hrow⟩:=rows_of_trod Tryz.underlying60 (show Tryz.prog.cellsOf 5 = 1 by kernel_rfl) (by decide) h
 by_cases hp : 0 < len
 ·obtain ⟨b,o,n',rfl,rfl,hb,hi⟩:=hrow hp
  have hch : ∀ i,i < len -> ∃ y : Nat,y < 256 /\ W.cell? ⟨b,o + (i * 1 + 0),none⟩ = some (.int .u8 (y : Int)):=by
   intro i hil
   obtain ⟨cs',y,hcl,hy,hcell⟩:=hi i hil
   obtain ⟨q,e,_,hw⟩:=DataW.trod_int Tryz.underlying5 hy
   obtain ⟨y,hy1,rfl⟩:=u8_wf hw
   exact ⟨y,hy1,hcell 0 _ (by rw [e]; rfl)⟩
  obtain ⟨f,hf⟩:=choose_lt (α:=Nat) hch
  refine ⟨(List.range len).map f,?_,fun y hy => ?_⟩
  ·unfold U8s
   rw [List.length_map,List.length_range]
   refine RowsV.mk_cells hlc hcm hb fun i hil j hj => ?_
   obtain rfl : j = 0:=by omega
   rw [(hf i hil).2,List.getElem?_map,List.getElem?_range hil]; rfl
  ·obtain ⟨i,hi,rfl⟩:=List.mem_map.1 hy
   exact (hf i (List.mem_range.1 hi)).1
 ·obtain rfl : len = 0:=by omega
  exact ⟨[],RowsV.nil a cap hcm hz,fun y hy => by cases hy⟩
end
end Go.Proofs.YtlidpghnlloinaaGreatDoor
