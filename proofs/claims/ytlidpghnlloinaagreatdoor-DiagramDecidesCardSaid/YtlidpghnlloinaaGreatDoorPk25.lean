/- Contracts and plain laws, several texts in one (DTst, DVal). No conditions beyond those stated. -/
import Derived.Test.YtlidpghnlloinaaGreatDoorPk24
set_option maxRecDepth 100000
set_option maxHeartbeats 40000000
namespace Go.Proofs.YtlidpghnlloinaaGreatDoor
open Go.RowKit
set_option linter.unusedVariables false
theorem infoExprM : (Tryz.prog.info? 49).map (fun i => i.size) = some 9:=by kernel_rfl
theorem dtest_any (bb : Nat) (sv pv : Sl) (scs : List Sc) (gv : Nat -> Value) (e : Gx) (xv : Xv) (w : World) (h : BC bb sv pv scs gv w.heap.size w) (hok : ScOkD scs) (he : ExG w.heap.size w e xv) (hg : e.good = true) (hn20 : scs.length <= 2 ^ 20) :
  Calls Tryz.prog 107 #[.pointer (some ⟨bb,0,none⟩),xv.agg] w fun en w' => ∃ u,en = .returned u /\ Zed (Btw w.heap.size w'.heap.size) w' (CondR (CellsIn (pcs scs)) (fun cs => evT scs cs e) u) /\ Below w.heap.size w w':=by
 obtain ⟨W1,hW1⟩ : ∃ W1,w.alloc (.cells xv.cells 49) = W1:=⟨_,rfl⟩
 have b1 : Below w.heap.size w W1:=by rw [<- hW1]; exact (Below.refl _ _).alloc (Nat.le_refl _) _
 have q1 : Blk W1 w.heap.size xv.cells 49:=by rw [<- hW1]; exact Blk.new w _ _
 have s1 : W1.heap.size = w.heap.size + 1:=by rw [<- hW1]; simp
 have hbc:=h.below b1 (Nat.le_refl _) b1.size
 have hex:=he.below b1 (Nat.le_refl _) b1.size
 obtain ⟨T,hT⟩ : ∃ T,w.heap.size = T:=⟨_,rfl⟩
 have HT:=Lib.hid hT
 have HW:=Lib.hid hW1
 dsimp only [Xv.cells] at HW
 rw [hT] at b1 q1 s1 ⊢
 obtain ⟨n,hn⟩ : ∃ n,scs.length = n:=⟨_,rfl⟩
 rw [hn] at hn20
 obtain ⟨sa,sm,hsv,hsl,hsm⟩:=hbc.s.form
 obtain ⟨pa,pm,hpv,hpl,hpm⟩:=RowsV.form hbc.p
 rw [hn] at hsv hsl hpv hpl
 obtain ⟨cs,hq,hc0,hc5⟩:=hbc.blk
 rw [hsv] at hc0
 rw [hpv] at hc5
 have c0 : W1.cell? ⟨bb,0,none⟩ = some (.slice sa n sm):=hq.at hc0
 have c5 : W1.cell? ⟨bb,5,none⟩ = some (.slice pa n pm):=hq.at hc5
 have hbb:=hq.lt
 have HBC:=Lib.hid hbc
 have HEX:=Lib.hid hex
 have HN:=Lib.hid hn
 have HSV:=Lib.hid hsv
 have HPV:=Lib.hid hpv
 have HOK:=Lib.hid hok
 have HB1:=Lib.hid b1
 have HQ1:=Lib.hid q1
 unfold maxLen at hsm hpm
 clear h hok he hT hW1 hbc hex hn hsv hpv hq hc0 hc5 b1 q1
 dsimp only [Xv.agg]
 go_enter Tryz.func107,Tryz.ntmps107
 go_upto_region 1 with fail
 simp only [HT.out]
 rw [HW.out]
 go_wp2_with fail
 go_loopw [20] (fun iv wr => ∃ (i : Nat),i <= n /\ iv = .int .i64 i /\ Below W1.heap.size W1 wr /\ ∀ j,j < i -> tstOk e (scs[j]?.getD default) = false) (fun iv _ => n - (intOf iv).toNat)
 case atStart => exact ⟨0,Nat.zero_le _,rfl,Below.refl _ _,fun j hj => absurd hj (Nat.not_lt_zero j)⟩
 case round =>
  obtain ⟨i,hi,rfl,hbw,hno⟩:=hrel
  obtain ⟨wo,rfl⟩ : ∃ wo : World,wo = wr:=⟨_,rfl⟩
  have HBW:=Lib.hid hbw
  have HNO:=Lib.hid hno
  have hso:=hbw.size
  clear hno
  by_cases hlt : i < n
  ·obtain ⟨s,hs⟩ : ∃ s,scs[i]?.getD default = s:=⟨_,rfl⟩
   have hil : i < scs.length:=by rw [HN.out]; exact hlt
   have hsm' : s ∈ scs:=by rw [<- hs,List.getElem?_eq_getElem hil]; exact List.getElem_mem hil
   obtain ⟨k1,k2,k3,k4⟩:=HOK.out s hsm'
   obtain ⟨sb,so,sc',hse,_,_,hsbK⟩:=(by obtain ⟨g,h1,_⟩:=HBC.out.s; have := h1.pos (by omega); rw [HN.out,HSV.out] at this; obtain ⟨b,o,cap,h1,h2,h3,h4,_⟩:=this; exact ⟨b,o,cap,h1,h2,h3,h4⟩ : ∃ b o cap,(Value.slice sa n sm) = .slice (some ⟨b,o,none⟩) n cap /\ n <= cap /\ cap <= maxLen /\ b < W1.heap.size)
   simp only [Value.slice.injEq,true_and] at hse
   obtain ⟨rfl,rfl⟩:=hse
   obtain ⟨pb,po,pc',hpe,_,_,hpbK,hpc⟩:=(by have := HBC.out.p; rw [HN.out,HPV.out] at this; exact RowsV.pos this (by omega) : ∃ b o cap,(Value.slice pa n pm) = .slice (some ⟨b,o,none⟩) n cap /\ n <= cap /\ cap <= maxLen /\ b < W1.heap.size /\ ∀ i,i < n -> ∀ j,j < 1 -> W1.cell? ⟨b,o + (i * 1 + j),none⟩ = some (gv i))
   simp only [Value.slice.injEq,true_and] at hpe
   obtain ⟨rfl,rfl⟩:=hpe
   have hgn:=HBC.out.pn i hil
   rw [hs] at hgn
   have hml : 0 < (cellsS s).length:=List.length_pos_iff.2 k3
   obtain ⟨gb,go',gc,hge,_,hgc,hgK,hgcl⟩:=hgn.pos hml
   obtain ⟨m,hm⟩ : ∃ m,(cellsS s).length = m:=⟨_,rfl⟩
   rw [hm] at hml hge hgcl
   have hlast : ∀ c ∈ cellsS s,c <= (cellsS s)[(cellsS s).length - 1]?.getD 0:=fun c hc => last_le (cells_inc s) hc
   obtain ⟨la,hla⟩ : ∃ la,(cellsS s)[(cellsS s).length - 1]?.getD 0 = la:=⟨_,rfl⟩
   rw [hla] at hlast
   rw [hm] at hla
   have hla30 : la <= 2 ^ 30:=by rw [<- hla]; exact k4 _ (by rw [List.getElem?_eq_getElem (by omega)]; exact List.getElem_mem _)
   obtain ⟨W2,hW2⟩ : ∃ W2,wo.alloc (.cells #[.int .i64 (i : Int)] 3) = W2:=⟨_,rfl⟩
   have b2 : Below wo.heap.size wo W2:=by rw [<- hW2]; exact (Below.refl _ _).alloc (Nat.le_refl _) _
   have q2 : Blk W2 wo.heap.size #[.int .i64 (i : Int)] 3:=by rw [<- hW2]; exact Blk.new wo _ _
   have s2 : W2.heap.size = wo.heap.size + 1:=by rw [<- hW2]; simp
   have b12 : Below W1.heap.size W1 W2:=hbw.trans (b2.mono hso)
   have d0:=(b12.cell (p:=⟨bb,0,none⟩) hbb).trans c0
   have d5:=(b12.cell (p:=⟨bb,5,none⟩) hbb).trans c5
   have e1 : W2.cell? ⟨pb,po + i,none⟩ = some (.slice (some ⟨gb,go',none⟩) m gc):=(b12.cell (p:=⟨pb,po + i,none⟩) hpbK).trans (by have := hpc i hlt 0 (by omega); rw [hge] at this; simpa using this)
   have e2 : W2.cell? ⟨gb,go' + (m - 1),none⟩ = some (.int .i64 la):=(b12.cell (p:=⟨gb,go' + (m - 1),none⟩) hgK).trans (by have := hgcl (m - 1) (by omega); rw [hla] at this; exact this)
   have e3 : W2.cell? ⟨wo.heap.size,0,none⟩ = some (.int .i64 i):=q2.at rfl
   have hiw : IntKind.i64.wrap ((i : Int) + 1) = (i : Int) + 1:=IntWalk.i64_in _ (by omega)
   have hmw : IntKind.i64.wrap ((m : Int) - 1) = ((m - 1 : Nat) : Int):=by rw [show ((m - 1 : Nat) : Int) = (m : Int) - 1 by omega]; exact IntWalk.i64_in _ (by unfold maxLen at hgc; omega)
   obtain ⟨l1,hl1⟩ : ∃ l1,la + 1 = l1:=⟨_,rfl⟩
   have hlw : IntKind.i64.wrap ((la : Int) + 1) = (l1 : Int):=by rw [show (l1 : Int) = (la : Int) + 1 by omega]; exact IntWalk.i64_in _ (by omega)
   have hmk:=make_boolsD l1 (by omega)
   have HW2:=Lib.hid hW2
   have HGN:=Lib.hid hgn
   have HGE:=Lib.hid hge
   have HM:=Lib.hid hm
   have HLAST:=Lib.hid hlast
   have hmM : m <= 9223372036854775807:=by have := hgn.form; obtain ⟨_,cc,_,h1,h2⟩:=this; unfold maxLen at h2; omega
   have HS:=Lib.hid hs
   have HK:=Lib.hid (And.intro k1 (And.intro k2 k4))
   clear hbw hpc hgn hge hgcl hm hlast hla hW2 hs k1 k2 k3 k4 hsm' hil
   go_upto_region 4 with fail
   rw [HW2.out]
   go_quiet (fail)
   generalize hW3 : World.drewN W2 _ = W3
   have b3 : Below W2.heap.size W2 W3:=by rw [<- hW3]; exact below_drewN2 (Below.refl _ _) _
   have s3 : W3.heap.size = W2.heap.size:=by rw [<- hW3]; rfl
   have b13 : Below W1.heap.size W1 W3:=b12.trans (b3.mono b12.size)
   have d5:=(b3.cell (p:=⟨bb,5,none⟩) (Nat.lt_of_lt_of_le hbb b12.size)).trans d5
   have e1:=(b3.cell (p:=⟨pb,po + i,none⟩) (Nat.lt_of_lt_of_le hpbK b12.size)).trans e1
   have e2:=(b3.cell (p:=⟨gb,go' + (m - 1),none⟩) (Nat.lt_of_lt_of_le hgK b12.size)).trans e2
   have e3:=(b3.cell (p:=⟨wo.heap.size,0,none⟩) (show wo.heap.size < W2.heap.size by omega)).trans e3
   have q3:=q2.below b3 q2.lt
   clear hW3 HW2 d0 q2
   go_upto_region 5 with fail
   go_quiet (fail)
   generalize hW4 : World.drewN W3 _ = W4
   have b4 : Below W3.heap.size W3 W4:=by rw [<- hW4]; exact below_drewN2 (Below.refl _ _) _
   have s4 : W4.heap.size = W3.heap.size:=by rw [<- hW4]; rfl
   have b14 : Below W1.heap.size W1 W4:=b13.trans (b4.mono b13.size)
   have e2:=(b4.cell (p:=⟨gb,go' + (m - 1),none⟩) (Nat.lt_of_lt_of_le hgK b13.size)).trans e2
   have q4:=q3.below b4 q3.lt
   obtain ⟨R,hR⟩ : ∃ R,W4.heap.size = R:=⟨_,rfl⟩
   have HR:=Lib.hid hR
   obtain ⟨W5,hW5⟩ : ∃ W5,(W4.alloc (.cells (arrD l1 fun _ => .bool false) 4)).alloc (.cells #[.slice (some ⟨W4.heap.size,0,none⟩) l1 l1] 193) = W5:=⟨_,rfl⟩
   have b5 : Below R W4 W5:=by rw [<- hW5,<- hR]; exact ((Below.refl _ _).alloc (Nat.le_refl _) _).alloc (by simp) _
   have r5 : Blk W5 R (arrD l1 fun _ => .bool false) 4:=by rw [<- hW5,<- hR]; exact (Blk.new W4 _ _).alloc _
   have t5 : Blk W5 (R + 1) #[.slice (some ⟨R,0,none⟩) l1 l1] 193:=by
    rw [<- hW5,<- hR]
    have := Blk.new (W4.alloc (.cells (arrD l1 fun _ => .bool false) 4)) #[.slice (some ⟨W4.heap.size,0,none⟩) l1 l1] 193
    rwa [World.size_alloc] at this
   have s5 : W5.heap.size = R + 2:=by rw [<- hW5,<- hR]; simp
   have HW5:=Lib.hid hW5
   have s14:=b14.size
   have SS:=Lib.hid (And.intro s2 (And.intro s3 s4))
   clear hW4 d5 e1 e3 q3 hW5 b2 b3 b4 b12 b13 s2 s3 s4 hR
   go_wp2_with fail
   rw [HW5.out]
   rw [HR.out]
   have hR:=HR.out
   obtain ⟨s2,s3,s4⟩:=SS.out
   obtain ⟨hF,hhF⟩ : ∃ hF : Nat -> Bool,(fun c : Nat => (holdsS e [s] [(c : Int)]).1) = hF:=⟨_,rfl⟩
   have HHF : Hid (∀ c : Nat,(holdsS e [s] [(c : Int)]).1 = hF c):=Lib.hid fun c => by rw [<- hhF]
   have q5:=q4.below b5 (by omega)
   have HB14:=Lib.hid b14
   have HB5:=Lib.hid b5
   have HQ4:=Lib.hid q4
   have s14R : W1.heap.size <= R:=by omega
   have hwoR : wo.heap.size < R:=by omega
   clear hR hhF e2 b14 b5 HW5 s2 s3 s4
   go_loopw [9,49] (fun bv iv wr => ∃ (j : Nat),j <= m /\ bv = .bool true /\ iv = .int .i64 j /\ Below R W4 wr /\ R + 2 <= wr.heap.size /\ Blk wr R (arrD l1 (sawB ((cellsS s).take j) hF)) 4 /\ Blk wr (R + 1) #[.slice (some ⟨R,0,none⟩) l1 l1] 193 ∧
    Hid (∀ c ∈ (cellsS s).take j,(holdsS e [s] [(c : Int)]).2 = 0)) (fun _ iv _ => m - (intOf iv).toNat)
   case atStart => exact ⟨0,Nat.zero_le _,rfl,rfl,HB5.out,by omega,r5,t5,Lib.hid fun c hc => by simp at hc⟩
   case round =>
    obtain ⟨j,hj,rfl,rfl,hbj,hsj,rj,tj,HALL⟩:=hrel
    obtain ⟨wi,rfl⟩ : ∃ wi : World,wi = wr:=⟨_,rfl⟩
    have b1i : Below W1.heap.size W1 wi:=HB14.out.trans (hbj.mono (by omega))
    have HBJ:=Lib.hid hbj
    have HRJ:=Lib.hid rj
    have HTJ:=Lib.hid tj
    have H1I:=Lib.hid b1i
    have s1i:=b1i.size
    by_cases hlj : j < m
    ·have hgn:=HGN.out
     obtain ⟨c,hcc⟩ : ∃ c,(cellsS s)[j]? = some c:=⟨_,List.getElem?_eq_getElem (by rw [HM.out]; exact hlj)⟩
     obtain ⟨gb',go2,gc',hge',_,_,hgK',hgcl'⟩:=hgn.pos (by rw [HM.out]; omega)
     rw [HGE.out,HM.out] at hge'
     simp only [Value.slice.injEq,Option.some.injEq,Addr.mk.injEq,and_true,true_and] at hge'
     obtain ⟨⟨rfl,rfl⟩,rfl⟩:=hge'
     have e4 : wi.cell? ⟨gb,go' + j,none⟩ = some (.int .i64 (c : Int)):=(b1i.cell (p:=⟨gb,go' + j,none⟩) hgK').trans (by have := hgcl' j (by rw [HM.out]; exact hlj); rw [hcc] at this; exact this)
     have hcl : c <= la:=HLAST.out c (List.mem_of_getElem? hcc)
     have hqx:=HQ1.out.below b1i (by omega)
     have hr0 : wi.rangeAt T 0 xv.cells.toList:=hqx.range
     obtain ⟨W6,hW6⟩ : ∃ W6,wi.alloc (.cells #[.int .i64 (c : Int)] 3) = W6:=⟨_,rfl⟩
     have b6 : Below wi.heap.size wi W6:=by rw [<- hW6]; exact (Below.refl _ _).alloc (Nat.le_refl _) _
     have q6 : Blk W6 wi.heap.size #[.int .i64 (c : Int)] 3:=by rw [<- hW6]; exact Blk.new wi _ _
     have b16 : Below W1.heap.size W1 W6:=b1i.trans (b6.mono s1i)
     have hls : ScsX W1.heap.size W1 (.slice (some ⟨sb,so + i * 11,none⟩) 1 (sm - i)) [s]:=by
      have := HBC.out.s
      rw [HSV.out] at this
      have h2:=ScsX.one this HN.out hlt (c:=sm - i) (by omega) (by unfold maxLen; omega)
      rwa [HS.out] at h2
     have hci : IntsX W6.heap.size W6 (.slice (some ⟨wi.heap.size,0,none⟩) 1 1) [(c : Int)]:=RowsV.mk_cells (n:=1) (Nat.le_refl _) (by simp [maxLen]) q6.lt fun k hk jj hjj => by
      have hk0 : k = 0:=by omega
      have hj0 : jj = 0:=by omega
      subst hk0; subst hj0
      exact q6.at rfl
     have hho:=gholds_any W6.heap.size e xv [s] _ [(c : Int)] _ W6 (HEX.out.below b16 (Nat.le_refl _) b16.size) hg (hls.below b16 (Nat.le_refl _) b16.size) hci (Nat.le_refl _) (fun s' hs' => by rw [List.mem_singleton.1 hs']; exact HK.out.1) (fun s' hs' => by rw [List.mem_singleton.1 hs']; exact HK.out.2.1)
     have hfc:=HHF.out c
     obtain ⟨r,hr⟩ : ∃ r,holdsS e [s] [(c : Int)] = r:=⟨_,rfl⟩
     rw [hr] at hho hfc
     have HHO:=Lib.hid hho
     have HRR:=Lib.hid hr
     have HFC:=Lib.hid hfc
     have HW6:=Lib.hid hW6
     have HCC:=Lib.hid hcc
     have HB6:=Lib.hid b6
     dsimp only [Xv.agg,Xv.cells] at HHO
     clear hgn hcc hgcl' hqx hls hci hho hr hfc hW6 b16 hbj rj tj b1i b6 q6
     go_wp2_with (refine wpList_load_mid rfl 49 (.tmp 3) rfl T 0 rfl xv.cells.toList _ hr0 Tryz.underlying49 rfl infoExprM ?_)
     rw [HW6.out]
     refine HHO.out.mono ?_
     clear HHO hr0 e4
     rintro en w7 ⟨rfl,hb7⟩
     have hbi7 : Below wi.heap.size wi w7:=HB6.out.trans (hb7.mono HB6.out.size)
     have HB7:=Lib.hid hbi7
     have s7:=hbi7.size
     have r7:=HRJ.out.below hbi7 (by omega)
     have t7:=HTJ.out.below hbi7 (by omega)
     obtain ⟨r1,r2⟩:=r
     dsimp only at HFC HRR ⊢
     by_cases hz : r2 = 0
     ·subst hz
      have u0 : w7.cell? ⟨R + 1,0,none⟩ = some (.slice (some ⟨R,0,none⟩) l1 l1):=t7.at rfl
      have u1 : w7.cell? ⟨R,c,none⟩ = some (sawB ((cellsS s).take j) hF c):=r7.at (arrD_at _ (by omega))
      have u2 : w7.frozen? ⟨R,c,none⟩ = false:=r7.free c
      have hcl1 : c < l1:=by omega
      have rz : Blk (w7.setCell ⟨R,c,none⟩ (.bool r1)) R (arrD l1 (sawB ((cellsS s).take (j + 1)) hF)) 4:=by
       have := r7.set (i:=c) (.bool r1)
       rw [show r1 = hF c from HFC.out,saw_set] at this
       rw [take_snoc HCC.out]
       rwa [show r1 = hF c from HFC.out]
      have tz : Blk (w7.setCell ⟨R,c,none⟩ (.bool r1)) (R + 1) #[.slice (some ⟨R,0,none⟩) l1 l1] 193:=t7.other (by omega) _
      have bz : Below R W4 (w7.setCell ⟨R,c,none⟩ (.bool r1)):=(HBJ.out.trans (hbi7.mono (by omega))).setCell (p:=⟨R,c,none⟩) (Nat.le_refl _) _
      have hal : Hid (∀ c ∈ (cellsS s).take (j + 1),(holdsS e [s] [(c : Int)]).2 = 0):=Lib.hid fun c' hc' => by
       rw [take_snoc HCC.out] at hc'
       rcases List.mem_append.1 hc' with hc' | hc'
       ·exact HALL.out c' hc'
       ·rw [List.mem_singleton.1 hc',HRR.out]
      have HRZ:=Lib.hid rz
      have HTZ:=Lib.hid tz
      have HBZ:=Lib.hid bz
      clear rz tz bz r7 t7 hb7 hbi7
      go_wp2_with fail
      exact ⟨⟨j + 1,by omega,rfl,by go_num,HBZ.out,by simp [World.setCell]; omega,HRZ.out,HTZ.out,hal⟩,by simp [intOf]; omega⟩
     ·have hne : (r2 != 0) = true:=by simpa using hz
      have hbad : Hid (∀ k,k < i + 1 -> tstOk e (scs[k]?.getD default) = false):=Lib.hid fun k hk => by
       by_cases hki : k < i
       ·exact HNO.out k hki
       ·obtain rfl : k = i:=by omega
        rw [HS.out]
        unfold tstOk
        rw [List.all_eq_false]
        exact ⟨c,List.mem_of_getElem? HCC.out,by rw [HRR.out]; simpa using hz⟩
      have hb17 : Below W1.heap.size W1 w7:=H1I.out.trans (hbi7.mono s1i)
      have HB17:=Lib.hid hb17
      clear r7 t7 hb7 hbi7 hb17 hz
      go_wp2_with fail
      exact ⟨⟨i + 1,by omega,by go_num,HB17.out,hbad.out⟩,by simp [intOf]; omega⟩
    ·obtain rfl : j = m:=by omega
     have htk : (cellsS s).take j = cellsS s:=List.take_of_length_le (by rw [HM.out]; exact Nat.le_refl _)
     rw [htk] at rj
     have hall:=HALL.out
     rw [htk] at hall
     have q6:=HQ4.out.below hbj (by omega)
     have HQ6:=Lib.hid q6
     have hix : tstIx scs e = i:=by
      unfold tstIx
      have hil : i < scs.length:=by rw [HN.out]; exact hlt
      rw [List.findIdx_eq hil]
      have hsi : scs[i] = s:=by have := HS.out; rw [List.getElem?_eq_getElem hil] at this; exact this
      refine ⟨?_,fun k hk => ?_⟩
      ·rw [hsi]
       unfold tstOk
       rw [List.all_eq_true]
       intro c hc
       rw [hall c hc]; rfl
      ·have := HNO.out k hk
       rwa [List.getElem?_eq_getElem (by omega)] at this
     have HIX:=Lib.hid hix
     have HRJ2:=Lib.hid rj
     clear hix hall htk rj tj hbj q6 b1i
     go_wp2_with fail
     go_ret
     refine ⟨_,rfl,fun W K ha hK => ?_,HB1.out.trans (H1I.out.mono (by omega))⟩
     have hin : ∀ b,T <= b -> b < wi.heap.size -> Btw T wi.heap.size b:=fun b h1 h2 => ⟨h1,h2⟩
     have z1 : Blk W (R + 1) #[.slice (some ⟨R,0,none⟩) l1 l1] 193:=ha _ _ (hin _ (by omega) (by omega)) HTJ.out rfl
     have z2 : Blk W R (arrD l1 (sawB (cellsS s) hF)) 4:=ha _ _ (hin _ (by omega) (by omega)) HRJ2.out rfl
     have z3 : Blk W wo.heap.size #[.int .i64 (i : Int)] 3:=ha _ _ (hin _ (by omega) (by omega)) HQ6.out rfl
     refine cond_test _ _ K (R + 1) R wo.heap.size l1 i (sawB (cellsS s) hF) W z1 z2 z3 (hK _ (hin _ (by omega) (by omega))) (hK _ (hin _ (by omega) (by omega))) (hK _ (hin _ (by omega) (by omega))) fun cs hcs => ?_
     have hil : i < scs.length:=by rw [HN.out]; exact hlt
     have hcl : i < cs.length:=by rw [hcs.1]; unfold pcs; rw [List.length_map]; exact hil
     obtain ⟨p,hp,hc⟩:=hcs.2 i _ (List.getElem?_eq_getElem hcl)
     have hsi : scs[i]? = some s:=by have := HS.out; rw [List.getElem?_eq_getElem hil] at this ⊢; exact congrArg some this
     unfold pcs at hp
     rw [List.getElem?_map,hsi] at hp
     cases hp
     have hle:=HLAST.out _ hc
     refine ⟨hcl,by rw [List.getElem?_eq_getElem hcl,Option.getD_some]; omega,?_⟩
     unfold evT sawB
     rw [HIX.out,if_pos hil,hsi,List.getElem?_eq_getElem hcl,Option.getD_some,Option.getD_some]
     rw [HHF.out,List.contains_iff_mem.2 hc,Bool.true_and]
  ·obtain rfl : i = n:=by omega
   have hev : ∀ cs,evT scs cs e = false:=fun cs => by
    unfold evT tstIx
    rw [if_neg]
    rw [Nat.not_lt]
    refine Nat.le_of_eq (Eq.symm (List.findIdx_eq_length.2 fun s hs => ?_))
    obtain ⟨k,hk,rfl⟩:=List.getElem_of_mem hs
    have := HNO.out k (by rw [<- HN.out]; exact hk)
    rw [List.getElem?_eq_getElem hk] at this
    simpa using this
   have HEV:=Lib.hid hev
   clear hev
   go_wp2_with fail
   refine bodyPost_ret (v:=.func (.func 153) #[] #[]) (by simp [results,Tryz.results107,go_sem]) rfl ?_
   refine ⟨_,rfl,fun W K ha hK => ?_,HB1.out.trans (HBW.out.mono (by omega))⟩
   have := cond_no (CellsIn (pcs scs)) K W
   simp only [HEV.out]
   exact this
theorem infoDiagN : (Tryz.prog.info? 29).map (fun i => i.size) = some 4:=by kernel_rfl
theorem DgX.lens {K : Nat} {w : World} {x : Dv} {scs : List Sc} {st : DSt} {root : Int} (h : DgX K w x scs st root) : x.s.n = scs.length /\ x.n.n = st.nds.length /\ x.l.n = st.lvs.length:=by
 obtain ⟨_,_,h1,_,_⟩:=h.s.form
 obtain ⟨_,_,h2,_,_⟩:=h.n.form
 obtain ⟨_,_,h3,_,_⟩:=h.l.form
 simp only [Sl.val,Value.slice.injEq] at h1 h2 h3
 exact ⟨h1.2.1,h2.2.1,h3.2.1⟩
theorem tok_int {st : DSt} {sc : Nat} {t : Int} (h : TOk st sc t) (h1 : st.nds.length <= 2 ^ 40) (h2 : st.lvs.length <= 2 ^ 40) : -(2 ^ 62) < t /\ t < 2 ^ 62:=by
 rcases h with ⟨n,rfl,hn⟩ | ⟨n,x,rfl,hn,_⟩
 ·omega
 ·have := (List.getElem?_eq_some_iff.1 hn).1; omega
theorem dvalid_ok (K : Nat) (x : Dv) (scs : List Sc) (st : DSt) (root : Int) (w : World) (h : DgX K w x scs st root) (hv : DgV scs st root) (hg : ScGood scs) (hK : K <= w.heap.size) :
  Calls Tryz.prog 31 #[x.agg] w fun e w' => e = .returned (.bool true) /\ Below w.heap.size w w':=by
 obtain ⟨l1,l2,l3⟩:=h.lens
 obtain ⟨n,hn⟩ : ∃ n,scs.length = n:=⟨_,rfl⟩
 obtain ⟨m,hm⟩ : ∃ m,st.nds.length = m:=⟨_,rfl⟩
 obtain ⟨q,hq⟩ : ∃ q,st.lvs.length = q:=⟨_,rfl⟩
 have hn16:=hv.len
 have hm40:=hv.nsz
 have hq40:=hv.lsz
 obtain ⟨⟨sa,sn,sm⟩,⟨na,nn,nm⟩,⟨la,ln,lm⟩,rt⟩:=x
 simp only at l1 l2 l3
 have hrt : rt = root:=h.r
 obtain ⟨hs,hnd,hlv,_⟩:=h
 dsimp only at hs hnd hlv
 subst l1 l2 l3 hrt
 obtain ⟨_,_,hs1,hs2,hs3⟩:=hs.form
 obtain ⟨_,_,hd1,hd2,hd3⟩:=hnd.form
 obtain ⟨_,_,hl1,hl2,hl3⟩:=hlv.form
 simp only [Value.slice.injEq,Sl.val,true_and] at hs1 hd1 hl1
 obtain ⟨rfl,rfl⟩:=hs1
 obtain ⟨rfl,rfl⟩:=hd1
 obtain ⟨rfl,rfl⟩:=hl1
 have HS:=Lib.hid hs
 have HND:=Lib.hid hnd
 have HLV:=Lib.hid hlv
 rw [hn] at hn16 hs2
 rw [hm] at hm40 hd2
 rw [hq] at hq40 hl2
 obtain ⟨W1,hW1⟩ : ∃ W1,w.alloc (.cells #[.slice sa n sm,.slice na m nm,.slice la q lm,.int .i64 rt] 29) = W1:=⟨_,rfl⟩
 have b1 : Below w.heap.size w W1:=by rw [<- hW1]; exact (Below.refl _ _).alloc (Nat.le_refl _) _
 have q1 : Blk W1 w.heap.size #[.slice sa n sm,.slice na m nm,.slice la q lm,.int .i64 rt] 29:=by rw [<- hW1]; exact Blk.new w _ _
 have s1 : W1.heap.size = w.heap.size + 1:=by rw [<- hW1]; simp
 obtain ⟨T,hT⟩ : ∃ T,w.heap.size = T:=⟨_,rfl⟩
 have HT:=Lib.hid hT
 have HW:=Lib.hid hW1
 rw [hT] at b1 q1 s1 hK ⊢
 rw [hn] at HS ⊢
 rw [hm] at HND ⊢
 rw [hq] at HLV ⊢
 have HV:=Lib.hid hv
 have HN:=Lib.hid hn
 have HM:=Lib.hid hm
 have HQ:=Lib.hid hq
 have HG:=Lib.hid hg
 have HB1:=Lib.hid b1
 have HQ1:=Lib.hid q1
 have S1:=Lib.hid s1
 unfold maxLen at hs3 hd3 hl3
 obtain ⟨c0,c1,c2,c3⟩:=q1.four
 have h16 : decide ((16 : Int) < (n : Int)) = false:=decide_eq_false (by omega)
 have hT1 : T < W1.heap.size:=by omega
 clear hs hnd hlv hv hn hm hq hg hT hW1 b1 q1 s1
 go_enter Tryz.func31,Tryz.ntmps31
 go_upto_region 1 with fail
 simp only [HT.out]
 rw [HW.out]
 go_wp2_with fail
 go_loopw [21] (fun iv wr => ∃ i : Nat,i <= n /\ iv = .int .i64 i /\ Below W1.heap.size W1 wr) (fun iv _ => n - (intOf iv).toNat)
 case atStart => exact ⟨0,Nat.zero_le _,rfl,Below.refl _ _⟩
 case round =>
  obtain ⟨i,hi,rfl,hbr⟩:=hrel
  obtain ⟨wo,rfl⟩ : ∃ wo : World,wo = wr:=⟨_,rfl⟩
  have HBR:=Lib.hid hbr
  have hso:=hbr.size
  have bTo : Below T w wo:=HB1.out.trans (hbr.mono (by omega))
  by_cases hlt : i < n
  ·obtain ⟨gy,hrow,hsc⟩:=HS.out
   rw [HN.out] at hrow hsc
   obtain ⟨b,o,cap,he,_,_,hbK,hc⟩:=hrow.pos (by omega)
   simp only [Value.slice.injEq,true_and] at he
   obtain ⟨rfl,rfl⟩:=he
   have hil : i < scs.length:=by rw [HN.out]; exact hlt
   obtain ⟨s,hs⟩ : ∃ s,scs[i]?.getD default = s:=⟨_,rfl⟩
   have hsm : s ∈ scs:=by rw [<- hs,List.getElem?_eq_getElem hil,Option.getD_some]; exact List.getElem_mem hil
   have hx:=hsc i hlt
   rw [hs] at hx
   have hrg:=sv_range (g:=gy) (cells_below bTo (by omega) hc) hlt
   obtain ⟨y,hy⟩ : ∃ y,gy i = y:=⟨_,rfl⟩
   rw [hy] at hx hrg
   have H1C : Hid (∀ u ∈ y.cells,u.oneCell' = true):=Lib.hid (by simp [Value.oneCell'])
   have HX:=Lib.hid (hx.below bTo hK (show K <= wo.heap.size by omega))
   have hgs:=HG.out s hsm
   have hok:=HV.out.ok s hsm
   have HGS:=Lib.hid hgs
   have HOK:=Lib.hid hok
   clear hc hs hsm hx hy hrow hsc hgs hok bTo hbr
   go_upto_region 6 with (first
    | (refine wpList_load_mid rfl 79 (.tmp 23) rfl b (o + i * 11) rfl y.cells.toList _ hrg Tryz.underlying79 rfl infoScaleN ?_)
    | (refine wpList_store_new rfl 79 (.tmp 4) (.tmp 24) rfl y.cells _ infoScaleN rfl H1C.out wo.heap.size rfl rfl rfl ?_))
   obtain ⟨T2,hT2⟩ : ∃ T,wo.heap.size = T:=⟨_,rfl⟩
   obtain ⟨W2,hW2⟩ : ∃ W,wo.alloc (.cells y.cells 79) = W:=⟨_,rfl⟩
   have b2 : Below T2 wo W2:=by rw [<- hW2,<- hT2]; exact (Below.refl _ _).alloc (Nat.le_refl _) _
   have q2 : Blk W2 T2 y.cells 79:=by rw [<- hW2,<- hT2]; exact Blk.new wo _ _
   have hr2 : W2.rangeAt T2 0 y.cells.toList:=q2.range
   have hs2:=b2.size
   rw [hT2]
   rw [hW2]
   rw [hT2] at HX hso
   have hce:=gvalid_any T2 s y W2 (HX.out.below b2 (Nat.le_refl _) (Nat.le_refl _)) (by have := q2.lt; omega) HGS.out.1 HGS.out.2
   rw [HOK.out] at hce
   have HCE:=Lib.hid hce
   have HB2:=Lib.hid b2
   have HT2:=Lib.hid hT2
   clear hT2 hW2 q2 b2 hce hrg H1C
   go_wp2_with (first
    | (refine wpList_load_mid rfl 79 (.tmp 4) rfl T2 0 rfl y.cells.toList _ hr2 Tryz.underlying79 rfl infoScaleN ?_))
   refine HCE.out.mono ?_
   clear HCE hr2
   rintro en w3 ⟨rfl,hb3⟩
   have hb : Below W1.heap.size W1 w3:=HBR.out.trans ((HB2.out.trans (hb3.mono (by have := HB2.out.size; have := HT2.out; omega))).mono (by have := HT2.out; omega))
   have HB:=Lib.hid hb
   clear hb hb3
   go_wp2_with fail
   exact ⟨⟨i + 1,by omega,by go_num,HB.out⟩,by simp [intOf]; omega⟩
  ·obtain rfl : i = n:=by omega
   clear hi hlt
   have d0:=(hbr.cell (p:=⟨T,0,none⟩) hT1).trans c0
   have d1:=(hbr.cell (p:=⟨T,1,none⟩) hT1).trans c1
   have hps:=dposs_any K (.slice sa i sm) scs wo (HS.out.below bTo hK (Nat.le_refl _)) HG.out (by rw [HN.out]; omega) (by omega)
   have HPS:=Lib.hid hps
   clear hps hbr bTo
   go_wp2_with fail
   refine HPS.out.mono ?_
   clear HPS d0 d1
   rintro en w4 ⟨pv,pvs,pF,rfl,hno,hb4⟩
   have hnn:=hno.read
   obtain ⟨pa,pc,hpf,hpl,hpm⟩:=hnn.form
   have hpn : (scs.map cellsS).length = i:=by rw [List.length_map]; exact HN.out
   rw [hpn] at hpf hpl
   subst hpf
   unfold maxLen at hpm
   have b14 : Below W1.heap.size W1 w4:=HBR.out.trans (hb4.mono hso)
   have d1:=(b14.cell (p:=⟨T,1,none⟩) hT1).trans c1
   have HNN:=Lib.hid hnn
   have HB14:=Lib.hid b14
   have HPN:=Lib.hid hpn
   have hs4:=b14.size
   clear hno hnn hb4 b14 hpn HBR hso wo
   go_wp2_with fail
   go_loopw [35] (fun iv wr => ∃ j : Nat,j <= m /\ iv = .int .i64 j /\ Below w4.heap.size w4 wr) (fun iv _ => m - (intOf iv).toNat)
   case atStart => exact ⟨0,Nat.zero_le _,rfl,Below.refl _ _⟩
   case round =>
    obtain ⟨j,hj,rfl,hbr⟩:=hrel
    obtain ⟨wo,rfl⟩ : ∃ wo : World,wo = wr:=⟨_,rfl⟩
    have hso:=hbr.size
    have b1o : Below W1.heap.size W1 wo:=HB14.out.trans (hbr.mono hs4)
    have bTo : Below T w wo:=HB1.out.trans (b1o.mono (by omega))
    by_cases hlt : j < m
    ·obtain ⟨ng,hnr,hng⟩:=HND.out
     rw [HM.out] at hnr hng
     obtain ⟨b,o,cap,he,_,_,hbK,hc⟩:=hnr.pos (by omega)
     simp only [Value.slice.injEq,true_and] at he
     obtain ⟨rfl,rfl⟩:=he
     obtain ⟨nd,hnd⟩ : ∃ nd,st.nds[j]? = some nd:=⟨_,List.getElem?_eq_getElem (by rw [HM.out]; exact hlt)⟩
     obtain ⟨sc,nx⟩:=nd
     have e0 : w.cell? ⟨b,o + j * 2,none⟩ = some (.int .i64 sc):=by have := hc j hlt 0 (by omega); rw [hnd] at this; simpa using this
     have e1 : w.cell? ⟨b,o + j * 2 + 1,none⟩ = some (ng j):=by have := hc j hlt 1 (by omega); rw [Nat.add_assoc]; simpa using this
     obtain ⟨s,hs,hnl,htk⟩:=HV.out.node j sc nx hnd
     have hgj:=hng j hlt
     rw [hnd] at hgj
     dsimp only [Option.getD_some] at hgj
     obtain ⟨xa,xc,hxf,hxl,hxm⟩:=RowsV.form hgj
     obtain ⟨p,hp⟩ : ∃ p,nx.length = p:=⟨_,rfl⟩
     rw [hp] at hxf hnl hxl
     rw [hxf] at e1 hgj
     unfold maxLen at hxm
     have f0:=(bTo.cell (p:=⟨b,o + j * 2,none⟩) (Nat.lt_of_lt_of_le hbK hK)).trans e0
     have f1:=(bTo.cell (p:=⟨b,o + j * 2 + 1,none⟩) (Nat.lt_of_lt_of_le hbK hK)).trans e1
     have hscn : sc < i:=by rw [<- HN.out]; exact (List.getElem?_eq_some_iff.1 hs).1
     obtain ⟨pg,hpr,hpg⟩:=HNN.out
     rw [HPN.out] at hpr hpg
     obtain ⟨pb,po,pcap,hpe,_,_,hpbK,hpc⟩:=hpr.pos (by omega)
     simp only [Value.slice.injEq,true_and] at hpe
     obtain ⟨rfl,rfl⟩:=hpe
     have hps:=hpg sc hscn
     rw [List.getElem?_map,hs] at hps
     obtain ⟨ga,gc,hgf,_,_⟩:=hps.form
     rw [show (Option.map cellsS (some s)).getD [] = cellsS s from rfl,<- hnl] at hgf
     have g0 : wo.cell? ⟨pb,po + sc,none⟩ = some (.slice ga p gc):=(hbr.cell (p:=⟨pb,po + sc,none⟩) hpbK).trans (by have := hpc sc hscn 0 (by omega); rw [hgf] at this; simpa using this)
     have d0:=(b1o.cell (p:=⟨T,0,none⟩) hT1).trans c0
     have d1:=(b1o.cell (p:=⟨T,1,none⟩) hT1).trans c1
     have d2:=(b1o.cell (p:=⟨T,2,none⟩) hT1).trans c2
     have d3:=(b1o.cell (p:=⟨T,3,none⟩) hT1).trans c3
     have HTK:=Lib.hid htk
     have HGJ:=Lib.hid hgj
     have HBR:=Lib.hid hbr
     have HP:=Lib.hid hp
     have HND2:=Lib.hid hnd
     have hd1 : decide ((sc : Int) < 0) = false:=decide_eq_false (by omega)
     have hd2 : decide ((i : Int) <= (sc : Int)) = false:=decide_eq_false (by omega)
     have hd3 : ((p : Int) != (p : Int)) = false:=by simp
     have hd2n : decide (i <= sc) = false:=decide_eq_false (by omega)
     obtain ⟨A0,hA0⟩ : ∃ A0,wo.heap.size = A0:=⟨_,rfl⟩
     obtain ⟨W5,hW5⟩ : ∃ W,wo.alloc (.cells #[.int .i64 sc,.slice xa p xc] 65) = W:=⟨_,rfl⟩
     have b5 : Below A0 wo W5:=by rw [<- hW5,<- hA0]; exact (Below.refl _ _).alloc (Nat.le_refl _) _
     have q5 : Blk W5 A0 #[.int .i64 sc,.slice xa p xc] 65:=by rw [<- hW5,<- hA0]; exact Blk.new wo _ _
     have s5 : A0 < W5.heap.size:=q5.lt
     have hTA : T < A0:=by omega
     have k0:=(b5.cell (p:=⟨T,0,none⟩) hTA).trans d0
     have k1:=(b5.cell (p:=⟨T,1,none⟩) hTA).trans d1
     have k2:=(b5.cell (p:=⟨T,2,none⟩) hTA).trans d2
     have k3:=(b5.cell (p:=⟨T,3,none⟩) hTA).trans d3
     have g5:=(b5.cell (p:=⟨pb,po + sc,none⟩) (by rw [<- hA0]; exact Nat.lt_of_lt_of_le hpbK hso)).trans g0
     obtain ⟨m0,m1⟩:=q5.two
     have HW5:=Lib.hid hW5
     have HA0:=Lib.hid hA0
     have HB5:=Lib.hid b5
     have HQ5:=Lib.hid q5
     clear hc hnr hng hnd e0 e1 hs hnl htk hgj hxf hp hpr hpg hpc hps hgf hbr b1o bTo d0 d1 d2 d3 g0 hA0 hW5 b5 q5
     go_upto_region 13 with fail
     rw [HW5.out]
     rw [HA0.out]
     go_quiet (fail)
     generalize hW6 : World.drewN W5 _ = W6
     have b6 : Below W5.heap.size W5 W6:=by rw [<- hW6]; exact below_drewN2 (Below.refl _ _) _
     have m0:=(b6.cell (p:=⟨A0,0,none⟩) s5).trans m0
     have m1:=(b6.cell (p:=⟨A0,1,none⟩) s5).trans m1
     have b46 : Below w4.heap.size w4 W6:=HBR.out.trans ((HB5.out.mono (by rw [HA0.out] at hso; exact hso)).trans (b6.mono (by have := HB5.out.size; rw [HA0.out] at hso; omega)))
     have s6:=b6.size
     have HB46:=Lib.hid b46
     clear hW6 b6 b46 k0 k1 k2 k3 g5 HW5 f0 f1
     go_wp2_with fail
     go_loopw [65] (fun iv wr => ∃ k : Nat,k <= p /\ iv = .int .i64 k /\ Below W6.heap.size W6 wr) (fun iv _ => p - (intOf iv).toNat)
     case atStart => exact ⟨0,Nat.zero_le _,rfl,Below.refl _ _⟩
     case round =>
      obtain ⟨k,hk,rfl,hbk⟩:=hrel
      obtain ⟨wi,rfl⟩ : ∃ wi : World,wi = wr:=⟨_,rfl⟩
      have hsk:=hbk.size
      have b4k : Below w4.heap.size w4 wi:=HB46.out.trans (hbk.mono HB46.out.size)
      have b1k : Below W1.heap.size W1 wi:=HB14.out.trans (b4k.mono hs4)
      have bTk : Below T w wi:=HB1.out.trans (b1k.mono (by omega))
      have HB4K:=Lib.hid b4k
      by_cases hltk : k < p
      ·obtain ⟨xb,xo,xcap,hxe,_,_,hxK,hxc⟩:=RowsV.pos HGJ.out (by rw [HP.out]; omega)
       rw [HP.out] at hxe
       simp only [Value.slice.injEq,true_and] at hxe
       obtain ⟨rfl,rfl⟩:=hxe
       obtain ⟨t,ht⟩ : ∃ t,nx[k]? = some t:=⟨_,List.getElem?_eq_getElem (by rw [HP.out]; exact hltk)⟩
       have h0 : wi.cell? ⟨xb,xo + k,none⟩ = some (.int .i64 t):=(bTk.cell (p:=⟨xb,xo + k,none⟩) (Nat.lt_of_lt_of_le hxK hK)).trans (by have := hxc k (by rw [HP.out]; exact hltk) 0 (by omega); rw [ht] at this; simpa using this)
       have htok:=HTK.out t (List.mem_of_getElem? ht)
       have htb:=tok_int htok (by rw [HM.out]; exact hm40) (by rw [HQ.out]; exact hq40)
       have hexb:=exB_ok htok
       rw [HQ.out,HM.out] at hexb
       have hqT : Blk wi T #[.slice sa i sm,.slice (some ⟨b,o,none⟩) m nm,.slice la q lm,.int .i64 rt] 29:=HQ1.out.below b1k hT1
       have hexi : ∀ z,Calls Tryz.prog 70 #[.pointer (some ⟨T,0,none⟩),.int .i64 t] (wi.drewN z) fun e w' => e = .returned (.bool true) /\ w' = wi.drewN z:=fun z => by
        have := dexists_any T ⟨⟨sa,i,sm⟩,⟨some ⟨b,o,none⟩,m,nm⟩,⟨la,q,lm⟩,rt⟩ t (wi.drewN z) hqT htb
        dsimp only at this
        rwa [hexb] at this
       have HEX:=Lib.hid hexi
       have k1 : wi.cell? ⟨T,1,none⟩ = some (.slice (some ⟨b,o,none⟩) m nm):=hqT.at rfl
       have m0:=(hbk.cell (p:=⟨A0,0,none⟩) (Nat.lt_of_lt_of_le s5 s6)).trans m0
       have HBK:=Lib.hid hbk
       have hfin : ∀ W',Below wi.heap.size wi W' -> Below W6.heap.size W6 W':=fun W' h => HBK.out.trans (h.mono hsk)
       have HFIN:=Lib.hid hfin
       rcases htok with ⟨n',e',hn'⟩ | ⟨n',y,e',hn',hy⟩
       ·have t0 : decide ((0 : Int) <= t) = false:=decide_eq_false (by omega)
        clear e' hn' hxc ht hexb hqT hbk b4k b1k bTk htb hexi hfin
        go_upto_region 18 with fail
        have hexi:=HEX.out
        go_quiet (first | (go_at_call 70; refine Calls.quiet_of_same (hexi _)))
        clear hexi
        go_wp2_with fail
        exact ⟨⟨k + 1,by omega,by go_num,HFIN.out _ (below_drewN2 (Below.refl _ _) _)⟩,by simp [intOf]; omega⟩
       ·subst e'
        have hnm' : n' < m:=by rw [<- HM.out]; exact (List.getElem?_eq_some_iff.1 hn').1
        obtain ⟨ng,hnr,_⟩:=HND.out
        rw [HM.out] at hnr
        obtain ⟨b2,o2,cap2,he2,_,_,hb2K,hc2⟩:=hnr.pos (by omega)
        simp only [Value.slice.injEq,Option.some.injEq,Addr.mk.injEq,and_true,true_and] at he2
        obtain ⟨⟨rfl,rfl⟩,rfl⟩:=he2
        have z0 : wi.cell? ⟨b,o + n' * 2,none⟩ = some (.int .i64 y.1):=(bTk.cell (p:=⟨b,o + n' * 2,none⟩) (Nat.lt_of_lt_of_le hb2K hK)).trans (by have := hc2 n' hnm' 0 (by omega); rw [hn'] at this; simpa using this)
        have hysc : decide ((y.1 : Int) <= (sc : Int)) = false:=decide_eq_false (by omega)
        have hysn : decide (y.1 <= sc) = false:=decide_eq_false (by omega)
        have hnb : n' <= 2 ^ 40:=by omega
        obtain ⟨y1,y2⟩:=y
        dsimp only at z0 hysc hysn
        clear hn' hxc ht hexb hqT hbk b4k b1k bTk htb hexi hfin hnr hc2 hy
        go_upto_region 18 with fail
        have hexi:=HEX.out
        go_quiet (first | (go_at_call 70; refine Calls.quiet_of_same (hexi _)))
        clear hexi
        go_wp2_with fail
        exact ⟨⟨k + 1,by omega,by go_num,HFIN.out _ (below_drewN2 (Below.refl _ _) _)⟩,by simp [intOf]; omega⟩
      ·obtain rfl : k = p:=by omega
       clear hk hltk hbk b4k b1k bTk
       go_wp2_with fail
       exact ⟨⟨j + 1,by omega,by go_num,HB4K.out⟩,by simp [intOf]; omega⟩
    ·obtain rfl : j = m:=by omega
     clear hj hlt
     have d2:=(b1o.cell (p:=⟨T,2,none⟩) hT1).trans c2
     have d1:=(b1o.cell (p:=⟨T,1,none⟩) hT1).trans c1
     have HB1O:=Lib.hid b1o
     have hsz1:=b1o.size
     clear hbr b1o bTo
     go_wp2_with fail
     go_loopw [92] (fun iv wr => wo = wr /\ ∃ k : Nat,k <= q /\ iv = .int .i64 k) (fun iv _ => q - (intOf iv).toNat)
     case atStart => exact ⟨rfl,0,Nat.zero_le _,rfl⟩
     case round =>
      obtain ⟨rfl,k,hk,rfl⟩:=hrel
      have bTo : Below T w wo:=HB1.out.trans (HB1O.out.mono (by omega))
      by_cases hltk : k < q
      ·obtain ⟨lg,hlr,hlg⟩:=HLV.out
       rw [HQ.out] at hlr hlg
       obtain ⟨lb,lo,lcap,hle,_,_,hlbK,hlc⟩:=hlr.pos (by omega)
       simp only [Value.slice.injEq,true_and] at hle
       obtain ⟨rfl,rfl⟩:=hle
       obtain ⟨lf,hlf⟩ : ∃ lf,st.lvs[k]? = some lf:=⟨_,List.getElem?_eq_getElem (by rw [HQ.out]; exact hltk)⟩
       have hinc:=HV.out.leaf k lf hlf
       have hgk:=hlg k hltk
       rw [hlf,Option.getD_some] at hgk
       obtain ⟨ea,ec,hef,hel,hem⟩:=hgk.form
       obtain ⟨r,hr⟩ : ∃ r,lf.length = r:=⟨_,rfl⟩
       rw [hr] at hef hel
       rw [hef] at hgk
       unfold maxLen at hem
       have e0 : wo.cell? ⟨lb,lo + k,none⟩ = some (.slice ea r ec):=(bTo.cell (p:=⟨lb,lo + k,none⟩) (Nat.lt_of_lt_of_le hlbK hK)).trans (by have := hlc k hltk 0 (by omega); rw [hef] at this; simpa using this)
       have HGK:=Lib.hid hgk
       have HINC:=Lib.hid hinc
       have HR:=Lib.hid hr
       have HBTO:=Lib.hid bTo
       clear hlr hlg hlc hlf hinc hgk hef hr bTo
       go_wp2_with fail
       go_loopw [98] (fun iv wr => wo = wr /\ ∃ u : Nat,u <= r /\ iv = .int .i64 u) (fun iv _ => r - (intOf iv).toNat)
       case atStart => exact ⟨rfl,0,Nat.zero_le _,rfl⟩
       case round =>
        obtain ⟨rfl,u,hu,rfl⟩:=hrel
        by_cases hltu : u < r
        ·obtain ⟨eb,eo,ecap,hee,_,_,heK,hecl⟩:=Nats.pos HGK.out (by rw [HR.out]; omega)
         rw [HR.out] at hee
         simp only [Value.slice.injEq,true_and] at hee
         obtain ⟨rfl,rfl⟩:=hee
         have cl : ∀ i,i < r -> wo.cell? ⟨eb,eo + i,none⟩ = some (Z (lf[i]?.getD 0)):=fun i hi => (HBTO.out.cell (p:=⟨eb,eo + i,none⟩) (Nat.lt_of_lt_of_le heK hK)).trans (hecl i (by rw [HR.out]; exact hi))
         have CL:=Lib.hid cl
         obtain ⟨z,hz⟩ : ∃ z,lf[u]?.getD 0 = z:=⟨_,rfl⟩
         have f0 : wo.cell? ⟨eb,eo + u,none⟩ = some (.int .i64 (z : Int)):=by have := cl u hltu; rw [hz] at this; exact this
         have z0 : decide ((z : Int) < 0) = false:=decide_eq_false (by omega)
         by_cases hu0 : u = 0
         ·have u0 : decide ((0 : Int) < (u : Int)) = false:=decide_eq_false (by omega)
          have u0n : decide (0 < u) = false:=decide_eq_false (by omega)
          clear hecl cl hz hu0
          go_wp2_with fail
          exact ⟨⟨trivial,u + 1,by omega,by go_num⟩,by simp [intOf]; omega⟩
         ·have u0 : decide ((0 : Int) < (u : Int)) = true:=decide_eq_true (by omega)
          have u0n : decide (0 < u) = true:=decide_eq_true (by omega)
          have huw : IntKind.i64.wrap ((u : Int) - 1) = ((u - 1 : Nat) : Int):=by rw [show ((u - 1 : Nat) : Int) = (u : Int) - 1 by omega]; exact IntWalk.i64_in _ (by omega)
          obtain ⟨z',hz'⟩ : ∃ z,lf[u - 1]?.getD 0 = z:=⟨_,rfl⟩
          have f1 : wo.cell? ⟨eb,eo + (u - 1),none⟩ = some (.int .i64 (z' : Int)):=by have := cl (u - 1) (by omega); rw [hz'] at this; exact this
          have hlt2 : z' < z:=by
           have hul : u < lf.length:=by rw [HR.out]; exact hltu
           have := List.pairwise_iff_getElem.1 HINC.out (u - 1) u (by omega) hul (by omega)
           rw [List.getElem?_eq_getElem hul,Option.getD_some] at hz
           rw [List.getElem?_eq_getElem (by omega),Option.getD_some] at hz'
           omega
          have z1 : decide ((z : Int) <= (z' : Int)) = false:=decide_eq_false (by omega)
          have z1n : decide (z <= z') = false:=decide_eq_false (by omega)
          have hu1 : u - 1 < r:=by omega
          clear hecl cl hz hz' hu0 hlt2
          go_wp2_with fail
          exact ⟨⟨trivial,u + 1,by omega,by go_num⟩,by simp [intOf]; omega⟩
        ·obtain rfl : u = r:=by omega
         clear hu hltu
         go_wp2_with fail
         exact ⟨⟨trivial,k + 1,by omega,by go_num⟩,by simp [intOf]; omega⟩
      ·obtain rfl : k = q:=by omega
       clear hk hltk
       have hqT : Blk wo T #[.slice sa i sm,.slice na j nm,.slice la k lm,.int .i64 rt] 29:=HQ1.out.below HB1O.out hT1
       have d3 : wo.cell? ⟨T,3,none⟩ = some (.int .i64 rt):=hqT.at rfl
       have hrt:=HV.out.root
       have hexb:=exB_ok hrt
       rw [HQ.out,HM.out] at hexb
       have hex:=dexists_any T ⟨⟨sa,i,sm⟩,⟨na,j,nm⟩,⟨la,k,lm⟩,rt⟩ rt wo hqT (tok_int hrt (by rw [HM.out]; exact hm40) (by rw [HQ.out]; exact hq40))
       dsimp only at hex
       rw [hexb] at hex
       have HEX:=Lib.hid hex
       have HBTO:=Lib.hid bTo
       clear hqT hrt hexb hex bTo
       go_wp2_with fail
       refine HEX.out.mono ?_
       clear HEX
       rintro en w9 ⟨rfl,rfl⟩
       go_wp2_with fail
       go_ret
       exact ⟨rfl,HBTO.out⟩
end Go.Proofs.YtlidpghnlloinaaGreatDoor
