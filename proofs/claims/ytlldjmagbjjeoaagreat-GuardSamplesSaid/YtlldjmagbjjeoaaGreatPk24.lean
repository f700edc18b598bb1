/- Contracts and plain laws, several texts in one (GVal, GPos). No conditions beyond those stated. -/
import Derived.Test.YtlldjmagbjjeoaaGreatPk19
set_option maxRecDepth 100000
set_option maxHeartbeats 40000000
namespace Go.Proofs.YtlldjmagbjjeoaaGreat
open Go.RowKit
set_option linter.unusedVariables false
def cutB (kd : Int) (l : List Vq) (i : Nat) : Bool:=(l[i]?.getD v0).kd == kd && (l[i]?.getD v0).ok && (i == 0 || !vle (l[i]?.getD v0) (l[i - 1]?.getD v0))
def Sc.okB (s : Sc) : Bool:=if s.kd = 0 then s.cuts.length == 0 else decide (2 <= s.kd) && decide (s.kd <= 6) && decide (1 <= s.cuts.length) && decide (s.cuts.length <= 32) && (List.range s.cuts.length).all (cutB s.kd s.cuts)
theorem okB_bad {s : Sc} (h0 : s.kd ≠ 0) (h : s.kd < 2 \/ 6 < s.kd \/ s.cuts.length < 1 \/ 32 < s.cuts.length) : s.okB = false:=by
 unfold Sc.okB; rw [if_neg h0]
 rcases h with h | h | h | h
 ·rw [show decide (2 <= s.kd) = false by simpa using h]; simp
 ·rw [show decide (s.kd <= 6) = false by simpa using h]; simp
 ·rw [show decide (1 <= s.cuts.length) = false from decide_eq_false (by omega)]; simp
 ·rw [show decide (s.cuts.length <= 32) = false from decide_eq_false (by omega)]; simp
theorem okB_cut {s : Sc} {k : Nat} (h0 : s.kd ≠ 0) (hk : k < s.cuts.length) (h : cutB s.kd s.cuts k = false) : s.okB = false:=by
 unfold Sc.okB; rw [if_neg h0]
 rw [show (List.range s.cuts.length).all (cutB s.kd s.cuts) = false by
  rw [List.all_eq_false]; exact ⟨k,List.mem_range.2 hk,by simp [h]⟩]
 simp
theorem okB_all {s : Sc} (h0 : s.kd ≠ 0) (h1 : ¬ s.kd < 2) (h2 : ¬ 6 < s.kd) (h3 : ¬ s.cuts.length < 1) (h4 : ¬ 32 < s.cuts.length) (h : ∀ j,j < s.cuts.length -> cutB s.kd s.cuts j = true) : s.okB = true:=by
 unfold Sc.okB; rw [if_neg h0]
 rw [show (List.range s.cuts.length).all (cutB s.kd s.cuts) = true by rw [List.all_eq_true]; exact fun j hj => h j (List.mem_range.1 hj)]
 simp; omega
theorem infoValue : (Tryz.prog.info? 28).map (fun i => i.size) = some 6:=by kernel_rfl
theorem gvalid_any (K : Nat) (s : Sc) (y : Sv) (w : World) (hs : ScX K w s y) (hK : K <= w.heap.size) (hgo : ∀ c ∈ s.cuts,c.good = true) (hbig : s.cuts.length <= 2 ^ 38) :
  Calls Tryz.prog 11 #[y.agg] w fun e w' => e = .returned (.bool s.okB) /\ Below w.heap.size w w':=by
 obtain ⟨W1,hW1⟩ : ∃ W1,w.alloc (.cells y.cells 34) = W1:=⟨_,rfl⟩
 have b1 : Below w.heap.size w W1:=by rw [<- hW1]; exact (Below.refl _ _).alloc (Nat.le_refl _) _
 have q1 : Blk W1 w.heap.size y.cells 34:=by rw [<- hW1]; exact Blk.new w _ _
 have s1 : W1.heap.size = w.heap.size + 1:=by rw [<- hW1]; simp
 obtain ⟨B,hB⟩ : ∃ B,w.heap.size = B:=⟨_,rfl⟩
 have HB:=Lib.hid hB
 have HW:=Lib.hid hW1
 rw [hB] at hK b1 q1 s1 ⊢
 obtain ⟨g,hg,hgi⟩:=hs.cuts.below b1 hK hK
 obtain ⟨va,vcap,hve,hn,hm⟩:=id hg.form
 unfold maxLen at hm
 obtain ⟨n,hnl⟩ : ∃ n,s.cuts.length = n:=⟨_,rfl⟩
 have hkd:=hs.kd
 have HGO : Hid (∀ i,i < n -> (s.cuts[i]?.getD v0).good = true):=Lib.hid fun i hi => by
  rw [List.getElem?_eq_getElem (by omega)]; exact hgo _ (List.getElem_mem (by omega))
 clear hB hW1 hs hgo
 obtain ⟨⟨yop,ynm,yk,yb3,⟨y4,y4n,y4m⟩,yb5,⟨y6,y6n,y6m⟩,yi7,⟨y8,y8n,y8m⟩⟩,sk,⟨ca,cn,cm⟩⟩:=y
 dsimp only [Sl.val] at hve hkd
 simp only [Value.slice.injEq] at hve
 obtain ⟨rfl,rfl,rfl⟩:=hve
 subst hkd
 rw [hnl] at hg hn hgi hbig q1 HW ⊢
 have HN:=Lib.hid hnl
 clear hnl
 have c9 : W1.cell? ⟨B,9,none⟩ = some (.int .u8 s.kd):=q1.at rfl
 have c10 : W1.cell? ⟨B,10,none⟩ = some (.slice ca n cm):=q1.at rfl
 obtain ⟨r,hr⟩ : ∃ r,s.okB = r:=⟨_,rfl⟩
 obtain ⟨kd,hkd⟩ : ∃ kd,s.kd = kd:=⟨_,rfl⟩
 have HR:=Lib.hid hr
 have HKD:=Lib.hid hkd
 rw [hr]
 rw [hkd] at c9 q1 HW ⊢
 clear hr hkd
 have HG:=Lib.hid hg
 have HGI:=Lib.hid hgi
 clear hg hgi
 have HQ1:=Lib.hid q1
 clear q1
 by_cases h0 : kd = 0
 ·have hr : r = ((n : Int) == 0):=by rw [<- HR.out]; unfold Sc.okB; rw [if_pos (by rw [HKD.out]; exact h0),HN.out]; cases n <;> simp <;> omega
  subst h0 hr
  go_enter Tryz.func11,Tryz.ntmps11
  go_upto_region 1 with fail
  simp only [HB.out]
  rw [HW.out]
  go_wp2_with fail
  go_ret
  exact ⟨rfl,b1⟩
 have h0' : s.kd ≠ 0:=by rw [HKD.out]; exact h0
 have e0 : (kd == 0) = false:=by simpa using h0
 by_cases hbad : kd < 2 \/ 6 < kd \/ n < 1 \/ 32 < n
 ·have hr : r = false:=by rw [<- HR.out]; exact okB_bad h0' (by rw [HKD.out,HN.out]; exact hbad)
  subst hr
  by_cases h1 : kd < 2
  ·have e1 : decide (kd < 2) = true:=by simpa using h1
   clear hbad h0 h1
   go_enter Tryz.func11,Tryz.ntmps11
   go_upto_region 1 with fail
   simp only [HB.out]
   rw [HW.out]
   go_wp2_with fail
   go_ret
   exact ⟨rfl,b1⟩
  have e1 : decide (kd < 2) = false:=by simpa using h1
  by_cases h2 : 6 < kd
  ·have e2 : decide (6 < kd) = true:=by simpa using h2
   clear hbad h0 h1 h2
   go_enter Tryz.func11,Tryz.ntmps11
   go_upto_region 1 with fail
   simp only [HB.out]
   rw [HW.out]
   go_wp2_with fail
   go_ret
   exact ⟨rfl,b1⟩
  have e2 : decide (6 < kd) = false:=by simpa using h2
  by_cases h3 : n < 1
  ·have e3 : decide ((n : Int) < 1) = true:=by simp; omega
   clear hbad h0 h1 h2 h3
   go_enter Tryz.func11,Tryz.ntmps11
   go_upto_region 1 with fail
   simp only [HB.out]
   rw [HW.out]
   go_wp2_with fail
   go_ret
   exact ⟨rfl,b1⟩
  have e3 : decide ((n : Int) < 1) = false:=by simp; omega
  have h4 : 32 < n:=by omega
  have e4 : decide (32 < (n : Int)) = true:=by simp; omega
  clear hbad h0 h1 h2 h3 h4
  go_enter Tryz.func11,Tryz.ntmps11
  go_upto_region 1 with fail
  simp only [HB.out]
  rw [HW.out]
  go_wp2_with fail
  go_ret
  exact ⟨rfl,b1⟩
 have e1 : decide (kd < 2) = false:=by simp; omega
 have e2 : decide (6 < kd) = false:=by simp; omega
 have e3 : decide ((n : Int) < 1) = false:=by simp; omega
 have e4 : decide (32 < (n : Int)) = false:=by simp; omega
 have HBD:=Lib.hid hbad
 have HZ:=Lib.hid h0'
 clear hbad h0 h0'
 go_enter Tryz.func11,Tryz.ntmps11
 go_upto_region 1 with fail
 simp only [HB.out]
 rw [HW.out]
 go_wp2_with fail
 clear e0 e1 e2 e3 e4
 go_loopw [35] (fun i wr => ∃ k : Nat,k <= n /\ i = .int .i64 k /\ Below W1.heap.size W1 wr /\ Hid (∀ j,j < k -> cutB kd s.cuts j = true)) (fun i _ => n - (intOf i).toNat)
 case atStart => exact ⟨0,Nat.zero_le _,rfl,Below.refl _ _,Lib.hid fun i hi => absurd hi (Nat.not_lt_zero i)⟩
 case round =>
  obtain ⟨k,hk,rfl,hbr,HALL⟩:=hrel
  clear c9 c10
  have hsr:=hbr.size
  by_cases hlt : k < n
  ·obtain ⟨cb,co,cap,he,_,_,hbK,hc⟩:=HG.out.pos (by omega)
   simp only [Value.slice.injEq,true_and] at he
   obtain ⟨rfl,rfl⟩:=he
   have hcr:=cells_below hbr (by omega) hc
   obtain ⟨d0,d1,d2,d3,d4,d5⟩:=val_cells hcr hlt
   have hgx:=HGI.out k hlt
   have hbl : cb < wr.heap.size:=by omega
   have hgk:=HGO.out k hlt
   have hcall : ∀ W,Below wr.heap.size wr W -> Calls Tryz.prog 27 #[(g k).agg] W fun e w' => e = .returned (.bool (s.cuts[k]?.getD v0).ok) /\ Below W.heap.size W w':=fun W hb => by
    have hbb : Below W1.heap.size W1 W:=hbr.trans (hb.mono hsr)
    have := hbb.size
    exact tlvalid_any W.heap.size _ _ W (hgx.below hbb (by omega) (by omega)) (Nat.le_refl _) hgk
   have hkk : (g k).kd = (s.cuts[k]?.getD v0).kd:=hgx.kd
   have hcut : cutB kd s.cuts k = ((s.cuts[k]?.getD v0).kd == kd && (s.cuts[k]?.getD v0).ok && (k == 0 || !vle (s.cuts[k]?.getD v0) (s.cuts[k - 1]?.getD v0))):=rfl
   rw [<- hkk] at hcut
   have hcmp : Hid (∀ k',k = k' + 1 -> (g k).kd = kd -> (s.cuts[k]?.getD v0).ok = true -> ∀ W,Below wr.heap.size wr W -> Calls Tryz.prog 29 #[(g k').agg,(g k).agg] W fun e w' => e = .returned (.int .i64 (vcmp (s.cuts[k']?.getD v0) (s.cuts[k]?.getD v0))) /\ Below W.heap.size W w'):=Lib.hid fun k' he hkx hok W hb => by
    have hbb : Below W1.heap.size W1 W:=hbr.trans (hb.mono hsr)
    have := hbb.size
    have h9:=HALL.out k' (by omega)
    unfold cutB at h9
    simp only [Bool.and_eq_true,beq_iff_eq] at h9
    exact gcompare_any W.heap.size _ _ _ _ W ((HGI.out k' (by omega)).below hbb (by omega) (by omega)) (hgx.below hbb (by omega) (by omega)) (Nat.le_refl _) (HGO.out k' (by omega)) hgk h9.1.2 hok (by rw [h9.1.1,<- hkk,hkx])
   have hprev : Hid (∀ k',k = k' + 1 -> wr.cell? ⟨cb,co + k' * 6,none⟩ = some (.int .u8 (g k').kd) /\ wr.cell? ⟨cb,co + k' * 6 + 1,none⟩ = some (.bool (g k').b1) /\ wr.cell? ⟨cb,co + k' * 6 + 2,none⟩ = some (g k').s1 /\ wr.cell? ⟨cb,co + k' * 6 + 3,none⟩ = some (.bool (g k').b2) ∧
    wr.cell? ⟨cb,co + k' * 6 + 4,none⟩ = some (g k').s2 /\ wr.cell? ⟨cb,co + k' * 6 + 5,none⟩ = some (.int .i64 (g k').i)):=Lib.hid fun k' he => val_cells hcr (by omega)
   have HFAIL : Hid (cutB kd s.cuts k = false -> r = false):=Lib.hid fun h => by rw [<- HR.out]; exact okB_cut HZ.out (by rw [HN.out]; exact hlt) (by rw [HKD.out]; exact h)
   have HCALL:=Lib.hid hcall
   obtain ⟨rv,hrv⟩ : ∃ rv,(s.cuts[k]?.getD v0).ok = rv:=⟨_,rfl⟩
   simp only [hrv] at HCALL hcmp hcut
   have hcmp2:=hcmp
   have hvv : ∀ k',k = k' + 1 -> (!vle (s.cuts[k]?.getD v0) (s.cuts[k - 1]?.getD v0)) = !decide (0 <= vcmp (s.cuts[k']?.getD v0) (s.cuts[k]?.getD v0)):=fun k' he => by rw [vcmp_ge]; subst he; rfl
   have HVV:=Lib.hid hvv
   have HCUT:=Lib.hid hcut
   have hq:=HQ1.out.below hbr (by rw [s1]; omega)
   obtain ⟨a1,m1',hv1,_⟩:=hgx.n.form
   obtain ⟨a2,m2',hv2,_⟩:=hgx.d.form
   obtain ⟨n1',hn1⟩ : ∃ n,(s.cuts[k]?.getD v0).l1.length = n:=⟨_,rfl⟩
   obtain ⟨n2',hn2⟩ : ∃ n,(s.cuts[k]?.getD v0).l2.length = n:=⟨_,rfl⟩
   rw [hn1] at hv1
   rw [hn2] at hv2
   clear hcall hgx hkk hcut hvv hcr hc hgk hrv hcmp hn1 hn2
   obtain ⟨x,hx⟩ : ∃ x,g k = x:=⟨_,rfl⟩
   simp only [hx] at d0 d1 d2 d3 d4 d5 HCALL hcmp2 HCUT hv1 hv2
   clear hx
   obtain ⟨kx,m1,x1,m2,x2,xi⟩:=x
   dsimp only at hv1 hv2
   subst hv1 hv2
   have h1c : ∀ u ∈ (⟨kx,m1,.slice a1 n1' m1',m2,.slice a2 n2' m2',xi⟩ : Vv).cells,u.oneCell' = true:=by simp [Value.oneCell']
   go_upto_region 7 with fail
   iterate 16 go_step
   refine wpList_store_new rfl 28 (.tmp 4) (.tmp 39) rfl (⟨kx,m1,.slice a1 n1' m1',m2,.slice a2 n2' m2',xi⟩ : Vv).cells _ infoValue rfl h1c wr.heap.size rfl rfl rfl ?_
   obtain ⟨W2,hW2⟩ : ∃ W2,wr.alloc (.cells (⟨kx,m1,.slice a1 n1' m1',m2,.slice a2 n2' m2',xi⟩ : Vv).cells 28) = W2:=⟨_,rfl⟩
   have b2 : Below wr.heap.size wr W2:=by rw [<- hW2]; exact (Below.refl _ _).alloc (Nat.le_refl _) _
   have q2 : Blk W2 wr.heap.size (⟨kx,m1,.slice a1 n1' m1',m2,.slice a2 n2' m2',xi⟩ : Vv).cells 28:=by rw [<- hW2]; exact Blk.new wr _ _
   have s2 : W2.heap.size = wr.heap.size + 1:=by rw [<- hW2]; simp
   have qB : Blk W2 B _ 34:=hq.below b2 (by omega)
   have hW2':=hW2
   rw [hW2]
   clear hW2 hW2' d0 d1 d2 d3 d4 d5 hq
   obtain ⟨Bv,hBv⟩ : ∃ b,wr.heap.size = b:=⟨_,rfl⟩
   rw [hBv] at q2 hbl b2 s2 hsr HCALL hcmp2 ⊢
   have HBv:=Lib.hid hBv
   clear hBv
   go_upto_region 8 with fail
   obtain ⟨ckk,hckk⟩ : ∃ c,(kx == kd) = c:=⟨_,rfl⟩
   have hne : (kx != kd) = !ckk:=by rw [<- hckk]; rfl
   cases ckk with
   | false =>
    have hr : r = false:=HFAIL.out (by rw [HCUT.out]; simp [hckk])
    subst hr
    refine region_plain (fun W' => Below (Bv + 1) W2 W') [] (by kernel_rfl) ?_
    have qS : (fun W' => Below (Bv + 1) W2 W') W2.drew:=below_quiet (Below.refl _ _)
    refine wpAnyD_tp (i:=0) (v:=.pointer (some ⟨Bv,0,none⟩)) rfl qS ?_
    refine wpAnyD_tk (i:=1) (v:=.int .u8 kx) rfl (.inl ⟨by kernel_rfl,fun W' hS => by have u0:=(q2.below hS (by omega)).at (i:=0) rfl; go_simp⟩) qS ?_
    refine wpAnyD_tp (i:=2) (v:=.pointer (some ⟨B,9,none⟩)) rfl qS ?_
    refine wpAnyD_tk (i:=3) (v:=.int .u8 kd) rfl (.inl ⟨by kernel_rfl,fun W' hS => by have u9:=(qB.below hS (by omega)).at (i:=9) rfl; go_simp⟩) qS ?_
    refine wpAnyD_tp (i:=4) (v:=.bool true) rfl qS ?_
    refine wpAnyD_tp (i:=5) (v:=.bool true) rfl qS ?_
    refine wpAnyD_tk (i:=6) (v:=undef) rfl (.inr ⟨by kernel_rfl,rfl⟩) qS ?_
    refine wpAnyD_tk (i:=7) (v:=undef) rfl (.inr ⟨by kernel_rfl,rfl⟩) qS ?_
    refine wpAnyD_tk (i:=8) (v:=undef) rfl (.inr ⟨by kernel_rfl,rfl⟩) qS ?_
    refine wpAnyD_tp (i:=9) (v:=.bool true) rfl qS ?_
    refine wpAnyD_tp (i:=10) (v:=.bool true) rfl qS ?_
    refine wpAnyD_tk (i:=11) (v:=undef) rfl (.inr ⟨by kernel_rfl,rfl⟩) qS ?_
    refine wpAnyD_tk (i:=12) (v:=undef) rfl (.inr ⟨by kernel_rfl,rfl⟩) qS ?_
    refine wpAnyD_tk (i:=13) (v:=undef) rfl (.inr ⟨by kernel_rfl,rfl⟩) qS ?_
    refine wpAnyD_tk (i:=14) (v:=undef) rfl (.inr ⟨by kernel_rfl,rfl⟩) qS ?_
    refine wpAnyD_tk (i:=15) (v:=undef) rfl (.inr ⟨by kernel_rfl,rfl⟩) qS ?_
    refine wpAnyD_tk (i:=16) (v:=undef) rfl (.inr ⟨by kernel_rfl,rfl⟩) qS ?_
    refine wpAnyD_tk (i:=17) (v:=undef) rfl (.inr ⟨by kernel_rfl,rfl⟩) qS ?_
    refine wpAnyD_tk (i:=18) (v:=undef) rfl (.inr ⟨by kernel_rfl,rfl⟩) qS ?_
    refine wpAnyD_tk (i:=19) (v:=undef) rfl (.inr ⟨by kernel_rfl,rfl⟩) qS ?_
    refine wpAnyD_tk (i:=20) (v:=undef) rfl (.inr ⟨by kernel_rfl,rfl⟩) qS ?_
    refine wpAnyD_tk (i:=21) (v:=undef) rfl (.inr ⟨by kernel_rfl,rfl⟩) qS ?_
    refine wpAnyD_tk (i:=22) (v:=undef) rfl (.inr ⟨by kernel_rfl,rfl⟩) qS ?_
    refine wpAnyD_tk (i:=23) (v:=undef) rfl (.inr ⟨by kernel_rfl,rfl⟩) qS ?_
    refine wpAnyD_tp (i:=24) (v:=.bool true) rfl qS ?_
    refine wpAnyD_done (by kernel_rfl) ?_ _
    go_simp
    iterate 11 go_step
    change bodyPost _ _ (fun e w' => e = .returned (.bool false) /\ Below B w w') .ret _ _
    go_ret
    exact ⟨rfl,b1.trans ((hbr.mono (by omega)).trans ((b2.mono (by omega)).trans (qS.mono (by omega))))⟩
   | true =>
    obtain rfl : kx = kd:=by simpa using hckk
    clear hckk hne
    refine region_plain (fun W' => Below (Bv + 1) W2 W') [] (by kernel_rfl) ?_
    have qS : (fun W' => Below (Bv + 1) W2 W') W2.drew:=below_quiet (Below.refl _ _)
    refine wpAnyD_tp (i:=0) (v:=.pointer (some ⟨Bv,0,none⟩)) rfl qS ?_
    refine wpAnyD_tk (i:=1) (v:=.int .u8 kx) rfl (.inl ⟨by kernel_rfl,fun W' hS => by have u0:=(q2.below hS (by omega)).at (i:=0) rfl; go_simp⟩) qS ?_
    refine wpAnyD_tp (i:=2) (v:=.pointer (some ⟨B,9,none⟩)) rfl qS ?_
    refine wpAnyD_tk (i:=3) (v:=.int .u8 kx) rfl (.inl ⟨by kernel_rfl,fun W' hS => by have u9:=(qB.below hS (by omega)).at (i:=9) rfl; go_simp⟩) qS ?_
    refine wpAnyD_tp (i:=4) (v:=.bool false) rfl qS ?_
    refine wpAnyD_tp (i:=5) (v:=.bool false) rfl qS ?_
    refine wpAnyD_tk (i:=6) (v:=.agg #[.int .u8 kx,.bool m1,.slice a1 n1' m1',.bool m2,.slice a2 n2' m2',.int .i64 xi]) rfl (.inl ⟨by kernel_rfl,fun W' hS => by have u0:=(q2.below hS (by omega)).at (i:=0) rfl; have u1:=(q2.below hS (by omega)).at (i:=1) rfl; have u2:=(q2.below hS (by omega)).at (i:=2) rfl; have u3:=(q2.below hS (by omega)).at (i:=3) rfl; have u4:=(q2.below hS (by omega)).at (i:=4) rfl; have u5:=(q2.below hS (by omega)).at (i:=5) rfl; go_simp⟩) qS ?_
    refine wpAnyD_on (i:=7) rfl ?_
    go_simp
    refine (HCALL.out _ (b2.trans (qS.mono (by omega)))).mono ?_
    rintro e w3 ⟨rfl,hb3⟩
    have qS3 : Below (Bv + 1) W2 w3:=qS.trans (hb3.mono (by have := qS.size; omega))
    go_simp
    cases rv with
    | false =>
     have hr : r = false:=HFAIL.out (by rw [HCUT.out]; simp)
     subst hr
     refine wpAnyD_tp (i:=8) (v:=.bool true) rfl qS3 ?_
     refine wpAnyD_tp (i:=9) (v:=.bool true) rfl qS3 ?_
     refine wpAnyD_tp (i:=10) (v:=.bool true) rfl qS3 ?_
     refine wpAnyD_tk (i:=11) (v:=undef) rfl (.inr ⟨by kernel_rfl,rfl⟩) qS3 ?_
     refine wpAnyD_tk (i:=12) (v:=undef) rfl (.inr ⟨by kernel_rfl,rfl⟩) qS3 ?_
     refine wpAnyD_tk (i:=13) (v:=undef) rfl (.inr ⟨by kernel_rfl,rfl⟩) qS3 ?_
     refine wpAnyD_tk (i:=14) (v:=undef) rfl (.inr ⟨by kernel_rfl,rfl⟩) qS3 ?_
     refine wpAnyD_tk (i:=15) (v:=undef) rfl (.inr ⟨by kernel_rfl,rfl⟩) qS3 ?_
     refine wpAnyD_tk (i:=16) (v:=undef) rfl (.inr ⟨by kernel_rfl,rfl⟩) qS3 ?_
     refine wpAnyD_tk (i:=17) (v:=undef) rfl (.inr ⟨by kernel_rfl,rfl⟩) qS3 ?_
     refine wpAnyD_tk (i:=18) (v:=undef) rfl (.inr ⟨by kernel_rfl,rfl⟩) qS3 ?_
     refine wpAnyD_tk (i:=19) (v:=undef) rfl (.inr ⟨by kernel_rfl,rfl⟩) qS3 ?_
     refine wpAnyD_tk (i:=20) (v:=undef) rfl (.inr ⟨by kernel_rfl,rfl⟩) qS3 ?_
     refine wpAnyD_tk (i:=21) (v:=undef) rfl (.inr ⟨by kernel_rfl,rfl⟩) qS3 ?_
     refine wpAnyD_tk (i:=22) (v:=undef) rfl (.inr ⟨by kernel_rfl,rfl⟩) qS3 ?_
     refine wpAnyD_tk (i:=23) (v:=undef) rfl (.inr ⟨by kernel_rfl,rfl⟩) qS3 ?_
     refine wpAnyD_tp (i:=24) (v:=.bool true) rfl qS3 ?_
     refine wpAnyD_done (by kernel_rfl) ?_ _
     go_simp
     iterate 11 go_step
     change bodyPost _ _ (fun e w' => e = .returned (.bool false) /\ Below B w w') .ret _ _
     go_ret
     exact ⟨rfl,b1.trans ((hbr.mono (by omega)).trans ((b2.mono (by omega)).trans (qS3.mono (by omega))))⟩
    | true =>
     by_cases hk0 : k = 0
     ·have hct : cutB kx s.cuts 0 = true:=by rw [<- hk0,HCUT.out,hk0]; simp
      subst hk0
      refine wpAnyD_tp (i:=8) (v:=.bool false) rfl qS3 ?_
      refine wpAnyD_tp (i:=9) (v:=.bool false) rfl qS3 ?_
      refine wpAnyD_tp (i:=10) (v:=.bool false) rfl qS3 ?_
      refine wpAnyD_tp (i:=11) (v:=.int .i64 0) rfl qS3 ?_
      refine wpAnyD_tp (i:=12) (v:=.bool false) rfl qS3 ?_
      refine wpAnyD_tp (i:=13) (v:=.bool false) rfl qS3 ?_
      refine wpAnyD_tk (i:=14) (v:=undef) rfl (.inr ⟨by kernel_rfl,rfl⟩) qS3 ?_
      refine wpAnyD_tk (i:=15) (v:=undef) rfl (.inr ⟨by kernel_rfl,rfl⟩) qS3 ?_
      refine wpAnyD_tk (i:=16) (v:=undef) rfl (.inr ⟨by kernel_rfl,rfl⟩) qS3 ?_
      refine wpAnyD_tk (i:=17) (v:=undef) rfl (.inr ⟨by kernel_rfl,rfl⟩) qS3 ?_
      refine wpAnyD_tk (i:=18) (v:=undef) rfl (.inr ⟨by kernel_rfl,rfl⟩) qS3 ?_
      refine wpAnyD_tk (i:=19) (v:=undef) rfl (.inr ⟨by kernel_rfl,rfl⟩) qS3 ?_
      refine wpAnyD_tk (i:=20) (v:=undef) rfl (.inr ⟨by kernel_rfl,rfl⟩) qS3 ?_
      refine wpAnyD_tk (i:=21) (v:=undef) rfl (.inr ⟨by kernel_rfl,rfl⟩) qS3 ?_
      refine wpAnyD_tk (i:=22) (v:=undef) rfl (.inr ⟨by kernel_rfl,rfl⟩) qS3 ?_
      refine wpAnyD_tp (i:=23) (v:=.bool false) rfl qS3 ?_
      refine wpAnyD_tp (i:=24) (v:=.bool false) rfl qS3 ?_
      refine wpAnyD_done (by kernel_rfl) ?_ _
      go_simp
      iterate 14 go_step
      change _ /\ _
      go_roundw
      case rel => exact ⟨1,by omega,by simp,hbr.trans ((b2.mono (by omega)).trans (qS3.mono (by omega))),Lib.hid fun j hj => (by rw [show j = 0 by omega]; exact hct)⟩
      case measure => simp [intOf]; omega
     ·obtain ⟨k',hk'⟩ : ∃ k',k = k' + 1:=⟨k - 1,by omega⟩
      obtain ⟨p0,p1,p2,p3,p4,p5⟩:=hprev.out k' hk'
      have hcmp3:=hcmp2.out k' hk' rfl rfl
      have hvv:=HVV.out k' hk'
      obtain ⟨p,hp⟩ : ∃ p,g k' = p:=⟨_,rfl⟩
      obtain ⟨ci,hci⟩ : ∃ ci,vcmp (s.cuts[k']?.getD v0) (s.cuts[k]?.getD v0) = ci:=⟨_,rfl⟩
      rw [hp] at p0 p1 p2 p3 p4 p5 hcmp3
      simp only [hci] at hcmp3 hvv
      clear hp hci hcmp2 HVV hprev HCALL
      obtain ⟨kp,n1,y1,n2,y2,yi⟩:=p
      have hct : cutB kx s.cuts k = !decide (0 <= ci):=by rw [HCUT.out,hvv]; simp [hk0]
      have HCT:=Lib.hid hct
      clear hvv hct
      obtain ⟨cg,hcg⟩ : ∃ c,decide (0 <= ci) = c:=⟨_,rfl⟩
      subst hk'
      have HP:=Lib.hid (show _ /\ _ /\ _ /\ _ /\ _ /\ _ from ⟨p0,p1,p2,p3,p4,p5⟩)
      have bW : Below Bv wr W2:=b2
      clear p0 p1 p2 p3 p4 p5
      refine wpAnyD_tp (i:=8) (v:=.bool false) rfl qS3 ?_
      refine wpAnyD_tp (i:=9) (v:=.bool false) rfl qS3 ?_
      refine wpAnyD_tp (i:=10) (v:=.bool false) rfl qS3 ?_
      refine wpAnyD_tp (i:=11) (v:=.int .i64 (k' + 1 : Nat)) rfl qS3 ?_
      refine wpAnyD_tp (i:=12) (v:=.bool true) rfl qS3 ?_
      refine wpAnyD_tp (i:=13) (v:=.bool true) rfl qS3 ?_
      refine wpAnyD_tp (i:=14) (v:=.pointer (some ⟨B,10,none⟩)) rfl qS3 ?_
      refine wpAnyD_tk (i:=15) (v:=.slice (some ⟨cb,co,none⟩) n cm) rfl (.inl ⟨by kernel_rfl,fun W' hS => by have u9:=(qB.below hS (by omega)).at (i:=10) rfl; go_simp⟩) qS3 ?_
      refine wpAnyD_tp (i:=16) (v:=.int .i64 (k' + 1 : Nat)) rfl qS3 ?_
      refine wpAnyD_tk (i:=17) (v:=.int .i64 k') rfl (.inl ⟨by kernel_rfl,fun W' hS => by have hw1 : IntKind.i64.wrap (k' : Int) = (k' : Int):=IntWalk.i64_in _ (by omega); go_simp⟩) qS3 ?_
      refine wpAnyD_tk (i:=18) (v:=.pointer (some ⟨cb,co + k' * 6,none⟩)) rfl (.inl ⟨by kernel_rfl,fun W' hS => by have hkn : ¬ n <= k':=(by omega); go_simp⟩) qS3 ?_
      refine wpAnyD_tk (i:=19) (v:=.agg #[.int .u8 kp,.bool n1,y1,.bool n2,y2,.int .i64 yi]) rfl (.inl ⟨by kernel_rfl,fun W' hS => by obtain ⟨p0,p1,p2,p3,p4,p5⟩:=HP.out; have bz : Below Bv wr W':=bW.trans (hS.mono (by omega)); have z0:=(bz.cell (p:=⟨cb,_,none⟩) hbl).trans p0; have z1:=(bz.cell (p:=⟨cb,_,none⟩) hbl).trans p1; have z2:=(bz.cell (p:=⟨cb,_,none⟩) hbl).trans p2; have z3:=(bz.cell (p:=⟨cb,_,none⟩) hbl).trans p3; have z4:=(bz.cell (p:=⟨cb,_,none⟩) hbl).trans p4; have z5:=(bz.cell (p:=⟨cb,_,none⟩) hbl).trans p5; clear p0 p1 p2 p3 p4 p5; go_simp⟩) qS3 ?_
      refine wpAnyD_tk (i:=20) (v:=.agg #[.int .u8 kx,.bool m1,.slice a1 n1' m1',.bool m2,.slice a2 n2' m2',.int .i64 xi]) rfl (.inl ⟨by kernel_rfl,fun W' hS => by have u0:=(q2.below hS (by omega)).at (i:=0) rfl; have u1:=(q2.below hS (by omega)).at (i:=1) rfl; have u2:=(q2.below hS (by omega)).at (i:=2) rfl; have u3:=(q2.below hS (by omega)).at (i:=3) rfl; have u4:=(q2.below hS (by omega)).at (i:=4) rfl; have u5:=(q2.below hS (by omega)).at (i:=5) rfl; go_simp⟩) qS3 ?_
      refine wpAnyD_on (i:=21) rfl ?_
      go_simp
      refine (hcmp3 _ (b2.trans (qS3.mono (by omega)))).mono ?_
      rintro e w4 ⟨rfl,hb4⟩
      have qS4 : Below (Bv + 1) W2 w4:=qS3.trans (hb4.mono (by have := qS3.size; omega))
      go_simp
      refine wpAnyD_tp (i:=22) (v:=.bool cg) rfl qS4 ?_
      refine wpAnyD_tp (i:=23) (v:=.bool cg) rfl qS4 ?_
      refine wpAnyD_tp (i:=24) (v:=.bool cg) rfl qS4 ?_
      refine wpAnyD_done (by kernel_rfl) ?_ _
      cases cg with
      | false =>
       go_simp
       iterate 14 go_step
       change _ /\ _
       go_roundw
       case rel =>
        exact ⟨k' + 1 + 1,by omega,by simp,hbr.trans ((b2.mono (by omega)).trans (qS4.mono (by omega))),Lib.hid fun j hj => (by
        rcases Nat.lt_or_eq_of_le (Nat.le_of_lt_succ hj) with h | h
        ·exact HALL.out j h
        ·rw [h,HCT.out,hcg]; rfl)⟩
       case measure => simp [intOf]; omega
      | true =>
       have hr : r = false:=HFAIL.out (by rw [HCT.out,hcg]; rfl)
       subst hr
       go_simp
       iterate 11 go_step
       change bodyPost _ _ (fun e w' => e = .returned (.bool false) /\ Below B w w') .ret _ _
       go_ret
       exact ⟨rfl,b1.trans ((hbr.mono (by omega)).trans ((b2.mono (by omega)).trans (qS4.mono (by omega))))⟩
  ·obtain rfl : k = n:=by omega
   have hr : r = true:=by
    rw [<- HR.out]
    have hbd:=HBD.out
    exact okB_all HZ.out (by rw [HKD.out]; omega) (by rw [HKD.out]; omega) (by rw [HN.out]; omega) (by rw [HN.out]; omega) (fun j hj => by rw [HKD.out]; exact HALL.out j (by rw [HN.out] at hj; exact hj))
   subst hr
   go_wp2_with fail
   go_ret
   exact ⟨rfl,b1.trans (hbr.mono (by omega))⟩
def cntN (kd : Int) (n : Nat) : Nat:=if kd = 0 then 2 else 2 * n + 1
theorem gcount_any (sb so n cm : Nat) (a : Option Addr) (kd : Int) (w : World) (c9 : w.cell? ⟨sb,so + 9,none⟩ = some (.int .u8 kd)) (c10 : w.cell? ⟨sb,so + 10,none⟩ = some (.slice a n cm)) (hn : n <= 2 ^ 38) :
  Calls Tryz.prog 22 #[.pointer (some ⟨sb,so,none⟩)] w fun e w' => e = .returned (.int .i64 (cntN kd n)) /\ Below w.heap.size w w':=by
 by_cases h0 : kd = 0
 ·subst h0
  go_enter Tryz.func22,Tryz.ntmps22
  go_wp2_with fail
  go_ret
  exact ⟨rfl,Below.refl _ _⟩
 ·have e0 : (kd == 0) = false:=by simpa using h0
  have hw1 : IntKind.i64.wrap (2 * (n : Int)) = 2 * (n : Int):=IntWalk.i64_in _ (by omega)
  have hw2 : IntKind.i64.wrap (2 * (n : Int) + 1) = 2 * (n : Int) + 1:=IntWalk.i64_in _ (by omega)
  have hc : ((cntN kd n : Nat) : Int) = 2 * (n : Int) + 1:=by unfold cntN; rw [if_neg h0]; omega
  rw [hc]
  clear hc h0
  go_enter Tryz.func22,Tryz.ntmps22
  go_wp2_with fail
  go_ret
  exact ⟨rfl,Below.refl _ _⟩
def isDay (kd : Int) : Bool:=kd == 4 || kd == 5 || kd == 6
def loS (kd : Int) (l : List Vq) (c : Nat) : Int:=if 0 < c then (l[c / 2 - 1]?.getD v0).i else if kd = 4 then -1 else -1048577
def hiS (kd : Int) (l : List Vq) (c : Nat) : Int:=if c / 2 < l.length then (l[c / 2]?.getD v0).i else if kd = 4 then 65536 else 1048577
def possN (kd : Int) (l : List Vq) (c : Nat) : Bool:=!isDay kd || c % 2 == 1 || decide (1 < hiS kd l c - loS kd l c)
def Sc.poss (s : Sc) (c : Int) : Bool:=decide (0 <= c) && decide (c < cntN s.kd s.cuts.length) && possN s.kd s.cuts c.toNat
theorem isDay_not {kd : Int} (h : isDay kd = false) : (kd == 4) = false /\ (kd == 5) = false /\ (kd == 6) = false:=by
 unfold isDay at h; simp only [Bool.or_eq_false_iff] at h; exact ⟨h.1.1,h.1.2,h.2⟩
theorem day_bound {v : Vq} (h : v.ok = true) (hk : isDay v.kd = true) : -1048576 <= v.i /\ v.i <= 1048576:=by
 unfold isDay at hk
 simp only [Bool.or_eq_true,beq_iff_eq] at hk
 unfold Vq.ok Vq.fr at h
 rcases hk with (hk | hk) | hk <;> rw [hk] at h <;> simp at h <;> omega
theorem gposs_neg (sb so : Nat) (c : Int) (w : World) (hc : c < 0) :
  Calls Tryz.prog 23 #[.pointer (some ⟨sb,so,none⟩),.int .i64 c] w fun e w' => e = .returned (.bool false) /\ Below w.heap.size w w':=by
 have e0 : decide (c < 0) = true:=by simpa using hc
 clear hc
 go_enter Tryz.func23,Tryz.ntmps23
 go_wp2_with fail
 go_ret
 exact ⟨rfl,Below.refl _ _⟩
theorem gposs_big (sb so n cm : Nat) (a : Option Addr) (kd c : Int) (w : World) (hc0 : 0 <= c) (hc : (cntN kd n : Int) <= c) (c9 : w.cell? ⟨sb,so + 9,none⟩ = some (.int .u8 kd)) (c10 : w.cell? ⟨sb,so + 10,none⟩ = some (.slice a n cm)) (hn : n <= 2 ^ 38) :
  Calls Tryz.prog 23 #[.pointer (some ⟨sb,so,none⟩),.int .i64 c] w fun e w' => e = .returned (.bool false) /\ Below w.heap.size w w':=by
 have e0 : decide (c < 0) = false:=by simp; omega
 have hcall:=gcount_any sb so n cm a kd w c9 c10 hn
 obtain ⟨m,hm⟩ : ∃ m,((cntN kd n : Nat) : Int) = m:=⟨_,rfl⟩
 rw [hm] at hcall hc
 have e1 : decide (m <= c) = true:=by simpa using hc
 clear hc0 hc hm c9 c10
 go_enter Tryz.func23,Tryz.ntmps23
 go_wp2_with fail
 refine hcall.mono ?_
 rintro e w2 ⟨rfl,hb2⟩
 go_wp2_with fail
 go_ret
 exact ⟨rfl,hb2⟩
theorem gposs_other (sb so n cm : Nat) (a : Option Addr) (kd c : Int) (w : World) (hc0 : 0 <= c) (hc : c < cntN kd n) (hsb : sb < w.heap.size) (c9 : w.cell? ⟨sb,so + 9,none⟩ = some (.int .u8 kd)) (c10 : w.cell? ⟨sb,so + 10,none⟩ = some (.slice a n cm)) (hn : n <= 2 ^ 38) (hk : isDay kd = false) :
  Calls Tryz.prog 23 #[.pointer (some ⟨sb,so,none⟩),.int .i64 c] w fun e w' => e = .returned (.bool true) /\ Below w.heap.size w w':=by
 have e0 : decide (c < 0) = false:=by simp; omega
 obtain ⟨k4,k5,k6⟩:=isDay_not hk
 have hcall:=gcount_any sb so n cm a kd w c9 c10 hn
 obtain ⟨m,hm⟩ : ∃ m,((cntN kd n : Nat) : Int) = m:=⟨_,rfl⟩
 rw [hm] at hcall hc
 have e1 : decide (m <= c) = false:=by simp; omega
 have H9:=Lib.hid c9
 clear hc0 hc hm c9 c10 hk
 go_enter Tryz.func23,Tryz.ntmps23
 go_wp2_with fail
 refine hcall.mono ?_
 rintro e w2 ⟨rfl,hb2⟩
 have c9 : w2.cell? ⟨sb,so + 9,none⟩ = some (.int .u8 kd):=(hb2.cell (p:=⟨sb,so + 9,none⟩) hsb).trans H9.out
 go_wp2_with fail
 go_ret
 exact ⟨rfl,hb2⟩
theorem gposs_odd (sb so n cm m : Nat) (a : Option Addr) (kd : Int) (w : World) (hc : 2 * m + 1 < cntN kd n) (hsb : sb < w.heap.size) (c9 : w.cell? ⟨sb,so + 9,none⟩ = some (.int .u8 kd)) (c10 : w.cell? ⟨sb,so + 10,none⟩ = some (.slice a n cm)) (hn : n <= 2 ^ 38) (hk : isDay kd = true) :
  Calls Tryz.prog 23 #[.pointer (some ⟨sb,so,none⟩),.int .i64 ((2 * m + 1 : Nat) : Int)] w fun e w' => e = .returned (.bool true) /\ Below w.heap.size w w':=by
 have hcall:=gcount_any sb so n cm a kd w c9 c10 hn
 obtain ⟨c,hce⟩ : ∃ c,2 * m + 1 = c:=⟨_,rfl⟩
 have hb : cntN kd n <= 2 ^ 39 + 1:=by unfold cntN; split <;> omega
 have hmod : Int.tmod (c : Int) 2 = 1:=by rw [Int.tmod_eq_emod_of_nonneg (by omega)]; omega
 rw [hce] at hc ⊢
 obtain ⟨q,hm⟩ : ∃ q,cntN kd n = q:=⟨_,rfl⟩
 rw [hm] at hcall hc hb
 have e1 : decide ((q : Int) <= c) = false:=by simp; omega
 have e0 : decide ((c : Int) < 0) = false:=by simp
 have H9:=Lib.hid c9
 clear hm c9 c10 hce
 unfold isDay at hk
 simp only [Bool.or_eq_true,beq_iff_eq] at hk
 rcases hk with (rfl | rfl) | rfl
 all_goals
  go_enter Tryz.func23,Tryz.ntmps23
  go_wp2_with fail
  refine hcall.mono ?_
  rintro e w2 ⟨rfl,hb2⟩
  have c9:=(hb2.cell (p:=⟨sb,so + 9,none⟩) hsb).trans H9.out
  go_wp2_with fail
  go_ret
  exact ⟨rfl,hb2⟩
theorem gposs_even (K sb so m : Nat) (cv : Value) (l : List Vq) (kd : Int) (w : World) (hl : CutsX K w cv l) (hK : K <= w.heap.size) (hm : m <= l.length) (hsb : sb < w.heap.size) (c9 : w.cell? ⟨sb,so + 9,none⟩ = some (.int .u8 kd)) (c10 : w.cell? ⟨sb,so + 10,none⟩ = some cv) (hn : l.length <= 2 ^ 38) (hk : isDay kd = true)
  (hb : ∀ c ∈ l,-1048576 <= c.i /\ c.i <= 1048576) :
  Calls Tryz.prog 23 #[.pointer (some ⟨sb,so,none⟩),.int .i64 ((2 * m : Nat) : Int)] w fun e w' => e = .returned (.bool (decide (1 < hiS kd l (2 * m) - loS kd l (2 * m)))) /\ Below w.heap.size w w':=by
 obtain ⟨g,hg,hgi⟩:=hl
 obtain ⟨va,vcap,rfl,hv1,hv2⟩:=id hg.form
 unfold maxLen at hv2
 have hcall:=gcount_any sb so l.length vcap va kd w c9 c10 hn
 have hkd0 : kd ≠ 0:=by rintro rfl; revert hk; decide
 have hct : cntN kd l.length = 2 * l.length + 1:=by unfold cntN; rw [if_neg hkd0]
 rw [hct] at hcall
 obtain ⟨n,hnl⟩ : ∃ n,l.length = n:=⟨_,rfl⟩
 obtain ⟨H,hH⟩ : ∃ H,hiS kd l (2 * m) = H:=⟨_,rfl⟩
 obtain ⟨L,hL⟩ : ∃ L,loS kd l (2 * m) = L:=⟨_,rfl⟩
 have hbi : ∀ i,i < n -> -1048576 <= (l[i]?.getD v0).i /\ (l[i]?.getD v0).i <= 1048576:=fun i hi => by
  rw [List.getElem?_eq_getElem (by omega)]; exact hb _ (List.getElem_mem (by omega))
 have hlo : L = if 0 < m then (l[m - 1]?.getD v0).i else if kd = 4 then -1 else -1048577:=by
  rw [<- hL]; unfold loS
  rw [show 2 * m / 2 = m by omega]
  by_cases h : 0 < m
  ·rw [if_pos (by omega),if_pos h]
  ·rw [if_neg (by omega),if_neg h]
 have hhi : H = if m < n then (l[m]?.getD v0).i else if kd = 4 then 65536 else 1048577:=by
  rw [<- hH]; unfold hiS
  rw [show 2 * m / 2 = m by omega,hnl]
 have hLb : -1048577 <= L /\ L <= 1048576:=by
  rw [hlo]; split
  ·have := hbi (m - 1) (by omega); omega
  ·split <;> omega
 have hHb : -1048576 <= H /\ H <= 1048577:=by
  rw [hhi]; split
  ·have := hbi m (by omega); omega
  ·split <;> omega
 have hw : IntKind.i64.wrap (H - L) = H - L:=IntWalk.i64_in _ (by omega)
 rw [hH,hL]
 have hmod : Int.tmod ((2 * m : Nat) : Int) 2 = 0:=by rw [Int.tmod_eq_emod_of_nonneg (by omega)]; omega
 have hdiv : Int.tdiv ((2 * m : Nat) : Int) 2 = m:=by rw [Int.tdiv_eq_ediv_of_nonneg (by omega)]; omega
 rw [hnl] at hcall hn hm hv1 hg hgi
 have hcl : ∀ i,i < n -> ∃ cb co,va = some ⟨cb,co,none⟩ /\ cb < w.heap.size /\ w.cell? ⟨cb,co + i * 6 + 5,none⟩ = some (.int .i64 (l[i]?.getD v0).i):=fun i hi => by
  obtain ⟨cb,co,cap,he,_,_,hbK,hc⟩:=hg.pos (by omega)
  simp only [Value.slice.injEq] at he
  exact ⟨cb,co,he.1,by omega,by rw [(val_cells hc hi).2.2.2.2.2,(hgi i hi).i]⟩
 have hwm : IntKind.i64.wrap ((m : Int) - 1) = (m : Int) - 1:=IntWalk.i64_in _ (by omega)
 have HC10:=Lib.hid (show w.cell? ⟨sb,so + 10,none⟩ = some (.slice va n vcap) by rw [<- hnl]; exact c10)
 have H9:=Lib.hid c9
 have HLO:=Lib.hid hlo
 have HHI:=Lib.hid hhi
 have HCL:=Lib.hid hcl
 obtain ⟨c,hce⟩ : ∃ c,2 * m = c:=⟨_,rfl⟩
 rw [hce] at hmod hdiv ⊢
 have e1 : decide ((2 * (n : Int) + 1) <= c) = false:=by simp; omega
 have e0 : decide ((c : Int) < 0) = false:=by simp
 have ec : (0 < m) = (0 < (c : Int)):=by apply propext; omega
 have HEC:=Lib.hid ec
 have HCE:=Lib.hid hce
 clear hg hgi c9 c10 hlo hhi hcl hb hbi hkd0 hct hH hL hce ec
 unfold isDay at hk
 simp only [Bool.or_eq_true,beq_iff_eq] at hk
 cases m with
 | zero =>
  have hc0 : c = 0:=by have := HCE.out; omega
  subst hc0
  have hL:=HLO.out
  rw [if_neg (Nat.lt_irrefl 0)] at hL
  by_cases hmn : 0 < n
  ·obtain ⟨cb,co,rfl,hcb,hc5⟩:=HCL.out 0 hmn
   have hH:=HHI.out
   rw [if_pos hmn] at hH
   rw [<- hH,Nat.zero_mul,Nat.add_zero] at hc5
   have H5:=Lib.hid hc5
   clear hc5 hH
   rcases hk with (rfl | rfl) | rfl
   all_goals
    subst hL
    go_enter Tryz.func23,Tryz.ntmps23
    go_wp2_with fail
    refine hcall.mono ?_
    rintro e w2 ⟨rfl,hb2⟩
    have c9:=(hb2.cell (p:=⟨sb,so + 9,none⟩) hsb).trans H9.out
    have c10:=(hb2.cell (p:=⟨sb,so + 10,none⟩) hsb).trans HC10.out
    have c5:=(hb2.cell (p:=⟨cb,co + 5,none⟩) hcb).trans H5.out
    go_wp2_with fail
    go_ret
    exact ⟨rfl,hb2⟩
  ·have hH:=HHI.out
   rw [if_neg hmn] at hH
   obtain rfl : n = 0:=by omega
   rcases hk with (rfl | rfl) | rfl
   all_goals
    subst hL hH
    go_enter Tryz.func23,Tryz.ntmps23
    go_wp2_with fail
    refine hcall.mono ?_
    rintro e w2 ⟨rfl,hb2⟩
    have c9:=(hb2.cell (p:=⟨sb,so + 9,none⟩) hsb).trans H9.out
    have c10:=(hb2.cell (p:=⟨sb,so + 10,none⟩) hsb).trans HC10.out
    go_wp2_with fail
    go_ret
    exact ⟨rfl,hb2⟩
 | succ m =>
  have hL:=HLO.out
  rw [if_pos (Nat.succ_pos m),Nat.add_sub_cancel] at hL
  obtain ⟨cb,co,rfl,hcb,hc5⟩:=HCL.out m (by omega)
  rw [<- hL] at hc5
  have H5:=Lib.hid hc5
  have hw1 : IntKind.i64.wrap (m : Int) = (m : Int):=IntWalk.i64_in _ (by omega)
  have hkn : ¬ n <= m:=by omega
  have e2 : decide (0 < (c : Int)) = true:=by have := HCE.out; simp; omega
  have hc0 : 0 < c:=by have := HCE.out; omega
  clear hc5 hL hwm
  by_cases hmn : m + 1 < n
  ·obtain ⟨cb',co',he,_,hc6⟩:=HCL.out (m + 1) hmn
   simp only [Option.some.injEq,Addr.mk.injEq,and_true] at he
   obtain ⟨rfl,rfl⟩:=he
   have hH:=HHI.out
   rw [if_pos hmn] at hH
   rw [<- hH] at hc6
   have H6:=Lib.hid hc6
   clear hc6 hH
   have hkn2 : ¬ n <= m + 1:=by omega
   have e3 : decide (((m : Int) + 1) < n) = true:=by simp; omega
   rcases hk with (rfl | rfl) | rfl
   all_goals
    go_enter Tryz.func23,Tryz.ntmps23
    go_wp2_with fail
    refine hcall.mono ?_
    rintro e w2 ⟨rfl,hb2⟩
    have c9:=(hb2.cell (p:=⟨sb,so + 9,none⟩) hsb).trans H9.out
    have c10:=(hb2.cell (p:=⟨sb,so + 10,none⟩) hsb).trans HC10.out
    have c5:=(hb2.cell (p:=⟨cb,co + m * 6 + 5,none⟩) hcb).trans H5.out
    have c6:=(hb2.cell (p:=⟨cb,co + (m + 1) * 6 + 5,none⟩) hcb).trans H6.out
    go_wp2_with fail
    go_ret
    exact ⟨rfl,hb2⟩
  ·have hH:=HHI.out
   rw [if_neg hmn] at hH
   have e3 : decide (((m : Int) + 1) < n) = false:=by simp; omega
   rcases hk with (rfl | rfl) | rfl
   all_goals
    subst hH
    go_enter Tryz.func23,Tryz.ntmps23
    go_wp2_with fail
    refine hcall.mono ?_
    rintro e w2 ⟨rfl,hb2⟩
    have c9:=(hb2.cell (p:=⟨sb,so + 9,none⟩) hsb).trans H9.out
    have c10:=(hb2.cell (p:=⟨sb,so + 10,none⟩) hsb).trans HC10.out
    have c5:=(hb2.cell (p:=⟨cb,co + m * 6 + 5,none⟩) hcb).trans H5.out
    go_wp2_with fail
    go_ret
    exact ⟨rfl,hb2⟩
theorem gposs_any (K sb so : Nat) (cv : Value) (s : Sc) (c : Int) (w : World) (hl : CutsX K w cv s.cuts) (hK : K <= w.heap.size) (hsb : sb < w.heap.size) (c9 : w.cell? ⟨sb,so + 9,none⟩ = some (.int .u8 s.kd)) (c10 : w.cell? ⟨sb,so + 10,none⟩ = some cv) (hn : s.cuts.length <= 2 ^ 38)
  (hok : ∀ v ∈ s.cuts,v.ok = true /\ v.kd = s.kd) : Calls Tryz.prog 23 #[.pointer (some ⟨sb,so,none⟩),.int .i64 c] w fun e w' => e = .returned (.bool (s.poss c)) /\ Below w.heap.size w w':=by
 obtain ⟨va,vcap,hv,_,_⟩:=hl.form
 by_cases h0 : c < 0
 ·rw [show s.poss c = false by unfold Sc.poss; rw [show decide (0 <= c) = false by simp; omega]; simp]
  exact gposs_neg sb so c w h0
 by_cases h1 : (cntN s.kd s.cuts.length : Int) <= c
 ·rw [show s.poss c = false by unfold Sc.poss; rw [show decide (c < (cntN s.kd s.cuts.length : Int)) = false by simp; omega]; simp]
  exact gposs_big sb so s.cuts.length vcap va s.kd c w (by omega) h1 c9 (by rw [<- hv]; exact c10) hn
 have hp : s.poss c = possN s.kd s.cuts c.toNat:=by
  unfold Sc.poss
  rw [show decide (0 <= c) = true by simp; omega,show decide (c < (cntN s.kd s.cuts.length : Int)) = true by simp; omega]
  simp
 rw [hp]
 cases hk : isDay s.kd with
 | false =>
  rw [show possN s.kd s.cuts c.toNat = true by unfold possN; rw [hk]; rfl]
  exact gposs_other sb so s.cuts.length vcap va s.kd c w (by omega) (by omega) hsb c9 (by rw [<- hv]; exact c10) hn hk
 | true =>
  obtain ⟨k,rfl⟩ : ∃ k : Nat,c = k:=⟨c.toNat,by omega⟩
  rw [Int.toNat_natCast]
  rcases Nat.mod_two_eq_zero_or_one k with h2 | h2
  ·obtain ⟨m,rfl⟩ : ∃ m,k = 2 * m:=⟨k / 2,by omega⟩
   rw [show possN s.kd s.cuts (2 * m) = decide (1 < hiS s.kd s.cuts (2 * m) - loS s.kd s.cuts (2 * m)) by unfold possN; rw [hk,h2]; simp]
   have hkd0 : s.kd ≠ 0:=by intro e; rw [e] at hk; revert hk; decide
   have : cntN s.kd s.cuts.length = 2 * s.cuts.length + 1:=by unfold cntN; rw [if_neg hkd0]
   exact gposs_even K sb so m cv s.cuts s.kd w hl hK (by omega) hsb c9 c10 hn hk (fun v hv => day_bound (hok v hv).1 (by rw [(hok v hv).2]; exact hk))
  ·obtain ⟨m,rfl⟩ : ∃ m,k = 2 * m + 1:=⟨k / 2,by omega⟩
   rw [show possN s.kd s.cuts (2 * m + 1) = true by unfold possN; rw [h2]; simp]
   exact gposs_odd sb so s.cuts.length vcap m va s.kd w (by omega) hsb c9 (by rw [<- hv]; exact c10) hn hk
theorem okB_cuts {s : Sc} (h : s.okB = true) : ∀ v ∈ s.cuts,v.ok = true /\ v.kd = s.kd:=by
 intro v hv
 unfold Sc.okB at h
 split at h
 ·rw [beq_iff_eq] at h
  rw [List.length_eq_zero_iff.1 h] at hv
  cases hv
 ·simp only [Bool.and_eq_true,List.all_eq_true,List.mem_range] at h
  obtain ⟨j,hj,rfl⟩:=List.mem_iff_getElem.1 hv
  have := h.2 j hj
  unfold cutB at this
  rw [List.getElem?_eq_getElem hj,Option.getD_some] at this
  simp only [Bool.and_eq_true,beq_iff_eq] at this
  exact ⟨this.1.2,this.1.1⟩
end Go.Proofs.YtlldjmagbjjeoaaGreat
