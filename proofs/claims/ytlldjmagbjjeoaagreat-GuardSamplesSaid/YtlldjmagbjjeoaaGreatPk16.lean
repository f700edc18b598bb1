/- Contracts and plain laws, several texts in one (NZ2). No conditions beyond those stated. -/
import Derived.Test.YtlldjmagbjjeoaaGreatPk14
import Derived.Test.YtlldjmagbjjeoaaGreatPk15
set_option maxRecDepth 100000
set_option maxHeartbeats 40000000
namespace Go.Proofs.YtlldjmagbjjeoaaGreat
open Go.RowKit
set_option linter.unusedVariables false
theorem div_exact {y d q : Int} (hd : 0 < d) (h : y = q * d) : y.natAbs / d.natAbs = q.natAbs /\ y.natAbs % d.natAbs = 0 /\ decide (y < 0) = decide (q < 0):=by
 have h1 : y.natAbs = q.natAbs * d.natAbs:=by rw [h,Int.natAbs_mul]
 have hd0 : 0 < d.natAbs:=by omega
 refine ⟨by rw [h1,Nat.mul_div_cancel _ hd0],by rw [h1,Nat.mul_mod_left],?_⟩
 rcases Int.lt_or_le q 0 with hq | hq
 ·have : y < 0:=by rw [h]; exact Int.mul_neg_of_neg_of_pos hq hd
  simp [this,hq]
 ·have : ¬ y < 0:=by rw [h]; exact Int.not_lt.2 (Int.mul_nonneg hq (Int.le_of_lt hd))
  simp [this,Int.not_lt.2 hq]
theorem bn_zero {K : Nat} {w : World} {v : Value} (h : Bn K w v 0) : ∃ a c,v = .slice a 0 c:=by
 obtain ⟨l,h1,h2,h3⟩:=h
 have := (bv_zero_iff (b:=WB32) (by decide) h2).1 h3
 subst this
 obtain ⟨a,c,rfl,_⟩:=h1.form
 exact ⟨a,c,rfl⟩
theorem nDivX_any (K : Nat) (g : Bool) (u v : Value) (y d q : Int) (w : World) (hu : Zn K w g u y) (hv : Zn K w false v d) (hd0 : 0 < d) (hq : y = q * d) (hy : y.natAbs < LB 1000) (hd : d.natAbs < LB 1000) (hK : K <= w.heap.size) :
  Calls Tryz.prog 93 #[.agg #[.bool g,u],.agg #[.bool false,v]] w fun e w' => ∃ x r,e = .returned (.tuple #[x,r,.int .i64 0]) /\ ZxN w.heap.size w'.heap.size w' x q /\ ZxN w.heap.size w'.heap.size w' r 0 /\ Below w.heap.size w w':=by
 obtain ⟨ua,um,uc,rfl⟩:=hu.form
 obtain ⟨va,vm,vc,rfl,_,_,hvm,_⟩:=hv.ln.form
 have hvm0 : ((vm : Int) == 0) = false:=by simp; omega
 obtain ⟨k1,k2,k3⟩:=div_exact hd0 hq
 have hgz : sgz g q.natAbs = q:=by
  have h1:=hu.sg
  rw [k3] at h1
  rw [h1]; unfold sgz; by_cases h0 : q < 0 <;> simp [h0] <;> omega
 have hq1000 : q.natAbs < LB 1000:=by rw [<- k1]; exact Nat.lt_of_le_of_lt (Nat.div_le_self _ _) hy
 obtain ⟨W1,hW1⟩ : ∃ W1,((((w.alloc (.cells #[.bool g,.slice ua um uc] 24)).alloc (.cells #[.bool false,.slice va vm vc] 24)).alloc (.cells #[.bool false,.slice none 0 0] 24)).alloc (.cells #[.bool false,.slice none 0 0] 24)).alloc (.cells #[.bool g,.slice ua um uc,.bool false,.slice va vm vc] 24) = W1:=⟨_,rfl⟩
 obtain ⟨b1,q0,q1,q2,q3,q4,s1⟩:=alloc5 w _ _ _ _ _ _ _ _ _ _ hW1
 have HW:=Lib.hid hW1
 obtain ⟨B,hB⟩ : ∃ B,w.heap.size = B:=⟨_,rfl⟩
 have HB:=Lib.hid hB
 rw [hB] at hK b1 q0 q1 q2 q3 q4 s1 ⊢
 have hav:=nallvalid_any B (B + 4) g false _ _ y d W1 (hu.below b1 hK hK) (hv.below b1 hK hK) (LB_lt hy (by decide)) (LB_lt hd (by decide)) (by omega) q4
 have HAV:=Lib.hid hav
 have HHU:=Lib.hid hu
 have HHV:=Lib.hid hv
 have HY:=Lib.hid hy
 have HD:=Lib.hid hd
 have HQ:=Lib.hid hq1000
 have HGZ:=Lib.hid hgz
 have HK1:=Lib.hid k1
 have HK2:=Lib.hid k2
 have hdn : 0 < d.natAbs:=by omega
 clear hB hW1 hav hu hv hy hd hq1000 hgz hq k1 k2 k3 hvm
 go_enter Tryz.func93,Tryz.ntmps93
 go_wp2_with fail
 simp only [HB.out,Nat.add_assoc,Nat.reduceAdd]
 rw [HW.out]
 refine HAV.out.mono ?_
 rintro e w2 ⟨rfl,hb2⟩
 have b2 : Below B w w2:=b1.trans (hb2.mono (by omega))
 have hs2:=hb2.size
 have q0:=q0.below hb2 q0.lt
 have q1:=q1.below hb2 q1.lt
 have q2:=q2.below hb2 q2.lt
 have q3:=q3.below hb2 q3.lt
 have HU2 : Hid (Zn w2.heap.size w2 g (.slice ua um uc) y):=Lib.hid (HHU.out.below b2 hK (by omega))
 have HV2 : Hid (Zn w2.heap.size w2 false (.slice va vm vc) d):=Lib.hid (HHV.out.below b2 hK (by omega))
 obtain ⟨d0,d1⟩:=q0.two
 obtain ⟨d2,d3⟩:=q1.two
 clear HAV q4 HHU HHV
 have hp:=npackN_any w2.heap.size _ _ w2 HV2.out.ln (Nat.le_refl _) (LB_lt HD.out (by decide))
 have HP:=Lib.hid hp
 clear hp
 go_wp2_with fail
 refine HP.out.mono ?_
 rintro e w3 ⟨p3,rfl,hp3,hb3⟩
 obtain ⟨a3,m3,c3,rfl,_⟩:=hp3.form
 have b3 : Below B w w3:=b2.trans (hb3.mono (by omega))
 have hs3:=hb3.size
 have q0:=q0.below hb3 q0.lt
 have q1:=q1.below hb3 q1.lt
 have q2:=q2.below hb3 q2.lt
 have q3:=q3.below hb3 q3.lt
 clear d0 d1 d2 d3 HP
 obtain ⟨d0,d1⟩:=q0.two
 have HP3:=Lib.hid hp3
 have hp:=npackN_any w3.heap.size _ _ w3 (HU2.out.ln.below hb3 (Nat.le_refl _) hs3) (Nat.le_refl _) (LB_lt HY.out (by decide))
 have HP:=Lib.hid hp
 clear hp hp3
 go_wp2_with fail
 refine HP.out.mono ?_
 rintro e w4 ⟨p4,rfl,hp4,hb4⟩
 obtain ⟨a4,m4,c4,rfl,_⟩:=hp4.form
 have b4 : Below B w w4:=b3.trans (hb4.mono (by omega))
 have hs4:=hb4.size
 have q0:=q0.below hb4 q0.lt
 have q1:=q1.below hb4 q1.lt
 have q2:=q2.below hb4 q2.lt
 have q3:=q3.below hb4 q3.lt
 clear d0 d1 HP
 have hdv:=ndivide_any w4.heap.size _ _ _ _ w4 hp4 (HP3.out.below hb4 (Nat.le_refl _) hs4) (Nat.le_refl _) hdn (LB_wb (k:=268435456) HY.out (by decide))
 rw [HK1.out,HK2.out] at hdv
 have HDV:=Lib.hid hdv
 clear hdv hp4
 go_wp2_with fail
 refine HDV.out.mono ?_
 rintro e w5 ⟨p5,r5,rfl,hp5,hr5,hb5,_,_⟩
 obtain ⟨ra,rc,rfl⟩:=bn_zero hr5
 obtain ⟨lq,hlq,tlq,hvq⟩:=hp5
 obtain ⟨a5,c5,rfl,_⟩:=hlq.form
 have hl30:=tight_len tlq (k:=1000) (by rw [hvq]; exact LB_wb (k:=1000) HQ.out (Nat.le_refl _))
 have hlr : Ws w5.heap.size w5 (.slice ra 0 rc) []:=by
  obtain ⟨l,h1,h2,h3⟩:=hr5
  have := (bv_zero_iff (b:=WB32) (by decide) h2).1 h3
  subst this; exact h1
 have hu5:=fun W (hW : Below w5.heap.size w5 W) => nunpack_any w5.heap.size g _ lq W (hlq.below hW (Nat.le_refl _) (Nat.le_refl _)) hW.size (by omega)
 have hu6:=fun W (hW : Below w5.heap.size w5 W) => nunpack_any w5.heap.size false _ [] W (hlr.below hW (Nat.le_refl _) (Nat.le_refl _)) hW.size (by simp)
 rw [hvq] at hu5
 obtain ⟨m5,hm5⟩ : ∃ z,lq.length = z:=⟨_,rfl⟩
 rw [hm5] at hu5 ⊢
 have HU5:=Lib.hid hu5
 have HU6:=Lib.hid hu6
 have b5 : Below B w w5:=b4.trans (hb5.mono (by omega))
 have hs5:=hb5.size
 have q0:=q0.below hb5 q0.lt
 have q1:=q1.below hb5 q1.lt
 have q2:=q2.below hb5 q2.lt
 have q3:=q3.below hb5 q3.lt
 clear HDV hlq tlq hvq hr5 hl30 hlr hu5 hu6 hm5
 obtain ⟨d0,d1⟩:=q0.two
 obtain ⟨d2,d3⟩:=q1.two
 cases g with
 | true =>
  go_upto_region 10 with fail
  clear d0 d1 d2 d3
  refine region_plain (fun W' => Below w5.heap.size w5 W') [11,12,13] (by kernel_rfl) ?_
  have qS : (fun W' => Below w5.heap.size w5 W') w5.drew:=below_quiet (Below.refl _ _)
  refine wpAnyD_tpX (i:=0) (v:=.pointer (some ⟨B,0,none⟩)) (some 50) rfl rfl qS ?_
  refine wpAnyD_tkX (i:=1) (v:=.bool true) (some 51) rfl rfl (.inl ⟨by kernel_rfl,fun W' hS => by have d0:=(q0.below hS q0.lt).at (i:=0) rfl; go_simp⟩) qS ?_
  refine wpAnyD_tpX (i:=2) (v:=.pointer (some ⟨B + 1,0,none⟩)) (some 52) rfl rfl qS ?_
  refine wpAnyD_tkX (i:=3) (v:=.bool false) (some 53) rfl rfl (.inl ⟨by kernel_rfl,fun W' hS => by have d0:=(q1.below hS q1.lt).at (i:=0) rfl; go_simp⟩) qS ?_
  refine wpAnyD_tpX (i:=4) (v:=.bool true) (some 54) rfl rfl qS ?_
  refine wpAnyD_tpX (i:=5) (v:=.slice a5 m5 c5) (some 55) rfl rfl qS ?_
  refine wpAnyD_takeC [11,12,13,10,8] (i:=7) (v:=.pointer (some ⟨B + 1,0,none⟩)) rfl (by kernel_rfl) (by kernel_rfl) (by kernel_rfl) (by kernel_rfl) (by kernel_rfl) (by kernel_rfl) (fun _ _ _ h => h) (.inl ⟨by kernel_rfl,fun W' hS => by go_simp⟩) qS ?_
  refine wpAnyD_takeC [11,12,13,10] (i:=8) (v:=.bool false) rfl (by kernel_rfl) (by kernel_rfl) (by kernel_rfl) (by kernel_rfl) (by kernel_rfl) (by kernel_rfl) (fun _ _ _ h => h) (.inl ⟨by kernel_rfl,fun W' hS => by have d0:=(q1.below hS q1.lt).at (i:=0) rfl; go_simp⟩) qS ?_
  refine wpAnyD_takeC [11,12,13,10] (i:=9) (v:=.slice ra 0 rc) rfl (by kernel_rfl) (by kernel_rfl) (by kernel_rfl) (by kernel_rfl) (by kernel_rfl) (by kernel_rfl) (fun _ _ _ h => h) (.inl ⟨by kernel_rfl,fun W' hS => by go_simp⟩) qS ?_
  refine wpAnyD_on (i:=6) rfl ?_
  go_simp
  refine (HU5.out _ qS).mono ?_
  rintro e w6 ⟨p6,rfl,hp6,hb6,hn6⟩
  have qS6 : Below w5.heap.size w5 w6:=qS.trans (hb6.mono qS.size)
  have hz6:=Zn.mk' (g:=true) hp6 HGZ.out
  obtain ⟨a6,m6,c6,rfl⟩:=hz6.form
  obtain ⟨g6,hg6⟩ : ∃ g6,(true && decide (0 < q.natAbs)) = g6:=⟨_,rfl⟩
  rw [hg6] at hz6 ⊢
  clear hg6 hp6
  have HZ6:=Lib.hid hz6
  clear hz6
  go_simp
  refine wpAnyD_on (i:=10) rfl ?_
  go_simp
  refine (HU6.out _ qS6).mono ?_
  rintro e w7 ⟨p7,rfl,hp7,hb7,hn7⟩
  have qS7 : Below w5.heap.size w5 w7:=qS6.trans (hb7.mono qS6.size)
  have hp67:=HZ6.out.below hb7 (Nat.le_refl _) hb7.size
  have hz7:=Zn.mk' (g:=false) (z:=0) hp7 rfl
  obtain ⟨a7,m7,c7,rfl⟩:=hz7.form
  rw [show (false && decide (0 < bv WB32 [])) = false from rfl] at hz7
  simp only [Bool.false_and]
  go_simp
  have q2:=q2.below qS7 q2.lt
  have q3:=q3.below qS7 q3.lt
  obtain ⟨e0,e1⟩:=q2.two
  have f0:=q2.free 0
  have f1:=q2.free 1
  obtain ⟨e2,e3⟩:=q3.two
  have f2:=q3.free 0
  have f3:=q3.free 1
  have b7 : Below B w w7:=b5.trans (qS7.mono (by omega))
  have hs7:=qS7.size
  refine wpAnyD_on (i:=11) rfl ?_
  go_simp
  refine wpAnyD_on (i:=12) rfl ?_
  go_simp
  refine wpAnyD_on (i:=13) rfl ?_
  go_simp
  refine wpAnyD_done (by kernel_rfl) ?_ _
  clear e0 e1 e2 e3 f0 f1 f2 f3
  have r2:=(((q2.set (i:=0) (.bool g6)).set (i:=1) (.slice a6 m6 c6)).other (b':=B + 3) (i:=0) (by omega) (.bool false)).other (b':=B + 3) (i:=1) (by omega) (.slice a7 m7 c7)
  have r3:=(((q3.other (b':=B + 2) (i:=0) (by omega) (.bool g6)).other (b':=B + 2) (i:=1) (by omega) (.slice a6 m6 c6)).set (i:=0) (.bool false)).set (i:=1) (.slice a7 m7 c7)
  obtain ⟨e0,e1⟩:=r2.two
  obtain ⟨e2,e3⟩:=r3.two
  go_wp2_with fail
  refine bodyPost_ret (v:=.tuple #[.agg #[.bool g6,.slice a6 m6 c6],.agg #[.bool false,.slice a7 m7 c7],.int .i64 0]) (by simp [results,Tryz.results93,go_sem,e0,e1,e2,e3]) rfl ?_
  have n67 : NewV w5.heap.size (.slice a6 m6 c6):=hn6
  have n77 : NewV w5.heap.size (.slice a7 m7 c7):=hn7.mono qS6.size
  have z6:=((hp67.set2 (r:=B + 2) (x:=.bool g6) (y:=.slice a6 m6 c6) n67 (by omega)).set2 (r:=B + 3) (x:=.bool false) (y:=.slice a7 m7 c7) n67 (by omega))
  have z7:=((hz7.set2 (r:=B + 2) (x:=.bool g6) (y:=.slice a6 m6 c6) n77 (by omega)).set2 (r:=B + 3) (x:=.bool false) (y:=.slice a7 m7 c7) n77 (by omega))
  exact ⟨_,_,rfl,.mk (z6.below (Below.refl w7.heap.size _) (Nat.le_refl _) (by simp [World.setCell])) (n67.mono (by omega)),.mk (z7.below (Below.refl w7.heap.size _) (Nat.le_refl _) (by simp [World.setCell])) (n77.mono (by omega)),(((b7.setCell (p:=⟨B + 2,0,none⟩) (by simp) _).setCell (p:=⟨B + 2,1,none⟩) (by simp) _).setCell (p:=⟨B + 3,0,none⟩) (by simp) _).setCell (p:=⟨B + 3,1,none⟩) (by simp) _⟩
 | false =>
  go_upto_region 10 with fail
  clear d0 d1 d2 d3
  refine region_plain (fun W' => Below w5.heap.size w5 W') [11,12,13] (by kernel_rfl) ?_
  have qS : (fun W' => Below w5.heap.size w5 W') w5.drew:=below_quiet (Below.refl _ _)
  refine wpAnyD_tpX (i:=0) (v:=.pointer (some ⟨B,0,none⟩)) (some 50) rfl rfl qS ?_
  refine wpAnyD_tkX (i:=1) (v:=.bool false) (some 51) rfl rfl (.inl ⟨by kernel_rfl,fun W' hS => by have d0:=(q0.below hS q0.lt).at (i:=0) rfl; go_simp⟩) qS ?_
  refine wpAnyD_tpX (i:=2) (v:=.pointer (some ⟨B + 1,0,none⟩)) (some 52) rfl rfl qS ?_
  refine wpAnyD_tkX (i:=3) (v:=.bool false) (some 53) rfl rfl (.inl ⟨by kernel_rfl,fun W' hS => by have d0:=(q1.below hS q1.lt).at (i:=0) rfl; go_simp⟩) qS ?_
  refine wpAnyD_tpX (i:=4) (v:=.bool false) (some 54) rfl rfl qS ?_
  refine wpAnyD_tpX (i:=5) (v:=.slice a5 m5 c5) (some 55) rfl rfl qS ?_
  refine wpAnyD_takeC [11,12,13,10,8] (i:=7) (v:=.pointer (some ⟨B + 1,0,none⟩)) rfl (by kernel_rfl) (by kernel_rfl) (by kernel_rfl) (by kernel_rfl) (by kernel_rfl) (by kernel_rfl) (fun _ _ _ h => h) (.inl ⟨by kernel_rfl,fun W' hS => by go_simp⟩) qS ?_
  refine wpAnyD_takeC [11,12,13,10] (i:=8) (v:=.bool false) rfl (by kernel_rfl) (by kernel_rfl) (by kernel_rfl) (by kernel_rfl) (by kernel_rfl) (by kernel_rfl) (fun _ _ _ h => h) (.inl ⟨by kernel_rfl,fun W' hS => by have d0:=(q1.below hS q1.lt).at (i:=0) rfl; go_simp⟩) qS ?_
  refine wpAnyD_takeC [11,12,13,10] (i:=9) (v:=.slice ra 0 rc) rfl (by kernel_rfl) (by kernel_rfl) (by kernel_rfl) (by kernel_rfl) (by kernel_rfl) (by kernel_rfl) (fun _ _ _ h => h) (.inl ⟨by kernel_rfl,fun W' hS => by go_simp⟩) qS ?_
  refine wpAnyD_on (i:=6) rfl ?_
  go_simp
  refine (HU5.out _ qS).mono ?_
  rintro e w6 ⟨p6,rfl,hp6,hb6,hn6⟩
  have qS6 : Below w5.heap.size w5 w6:=qS.trans (hb6.mono qS.size)
  have hz6:=Zn.mk' (g:=false) hp6 HGZ.out
  obtain ⟨a6,m6,c6,rfl⟩:=hz6.form
  obtain ⟨g6,hg6⟩ : ∃ g6,(false && decide (0 < q.natAbs)) = g6:=⟨_,rfl⟩
  rw [hg6] at hz6 ⊢
  clear hg6 hp6
  have HZ6:=Lib.hid hz6
  clear hz6
  go_simp
  refine wpAnyD_on (i:=10) rfl ?_
  go_simp
  refine (HU6.out _ qS6).mono ?_
  rintro e w7 ⟨p7,rfl,hp7,hb7,hn7⟩
  have qS7 : Below w5.heap.size w5 w7:=qS6.trans (hb7.mono qS6.size)
  have hp67:=HZ6.out.below hb7 (Nat.le_refl _) hb7.size
  have hz7:=Zn.mk' (g:=false) (z:=0) hp7 rfl
  obtain ⟨a7,m7,c7,rfl⟩:=hz7.form
  rw [show (false && decide (0 < bv WB32 [])) = false from rfl] at hz7
  simp only [Bool.false_and]
  go_simp
  have q2:=q2.below qS7 q2.lt
  have q3:=q3.below qS7 q3.lt
  obtain ⟨e0,e1⟩:=q2.two
  have f0:=q2.free 0
  have f1:=q2.free 1
  obtain ⟨e2,e3⟩:=q3.two
  have f2:=q3.free 0
  have f3:=q3.free 1
  have b7 : Below B w w7:=b5.trans (qS7.mono (by omega))
  have hs7:=qS7.size
  refine wpAnyD_on (i:=11) rfl ?_
  go_simp
  refine wpAnyD_on (i:=12) rfl ?_
  go_simp
  refine wpAnyD_on (i:=13) rfl ?_
  go_simp
  refine wpAnyD_done (by kernel_rfl) ?_ _
  clear e0 e1 e2 e3 f0 f1 f2 f3
  have r2:=(((q2.set (i:=0) (.bool g6)).set (i:=1) (.slice a6 m6 c6)).other (b':=B + 3) (i:=0) (by omega) (.bool false)).other (b':=B + 3) (i:=1) (by omega) (.slice a7 m7 c7)
  have r3:=(((q3.other (b':=B + 2) (i:=0) (by omega) (.bool g6)).other (b':=B + 2) (i:=1) (by omega) (.slice a6 m6 c6)).set (i:=0) (.bool false)).set (i:=1) (.slice a7 m7 c7)
  obtain ⟨e0,e1⟩:=r2.two
  obtain ⟨e2,e3⟩:=r3.two
  go_wp2_with fail
  refine bodyPost_ret (v:=.tuple #[.agg #[.bool g6,.slice a6 m6 c6],.agg #[.bool false,.slice a7 m7 c7],.int .i64 0]) (by simp [results,Tryz.results93,go_sem,e0,e1,e2,e3]) rfl ?_
  have n67 : NewV w5.heap.size (.slice a6 m6 c6):=hn6
  have n77 : NewV w5.heap.size (.slice a7 m7 c7):=hn7.mono qS6.size
  have z6:=((hp67.set2 (r:=B + 2) (x:=.bool g6) (y:=.slice a6 m6 c6) n67 (by omega)).set2 (r:=B + 3) (x:=.bool false) (y:=.slice a7 m7 c7) n67 (by omega))
  have z7:=((hz7.set2 (r:=B + 2) (x:=.bool g6) (y:=.slice a6 m6 c6) n77 (by omega)).set2 (r:=B + 3) (x:=.bool false) (y:=.slice a7 m7 c7) n77 (by omega))
  exact ⟨_,_,rfl,.mk (z6.below (Below.refl w7.heap.size _) (Nat.le_refl _) (by simp [World.setCell])) (n67.mono (by omega)),.mk (z7.below (Below.refl w7.heap.size _) (Nat.le_refl _) (by simp [World.setCell])) (n77.mono (by omega)),(((b7.setCell (p:=⟨B + 2,0,none⟩) (by simp) _).setCell (p:=⟨B + 2,1,none⟩) (by simp) _).setCell (p:=⟨B + 3,0,none⟩) (by simp) _).setCell (p:=⟨B + 3,1,none⟩) (by simp) _⟩
theorem zdivisor_any (K : Nat) (g h : Bool) (u v : Value) (y z : Int) (w : World) (hu : Zn K w g u y) (hv : Zn K w h v z) (hy : y.natAbs < LB 1000) (hz : z.natAbs < LB 1000) (hK : K <= w.heap.size) :
  Calls Tryz.prog 78 #[.agg #[.bool g,u],.agg #[.bool h,v]] w fun e w' => ∃ x,e = .returned x /\ ZxN w.heap.size w'.heap.size w' x ((Nat.gcd y.natAbs z.natAbs : Nat)) /\ Below w.heap.size w w':=by
 obtain ⟨ua,um,uc,rfl⟩:=hu.form
 obtain ⟨va,vm,vc,rfl⟩:=hv.form
 obtain ⟨W1,hW1⟩ : ∃ W1,((w.alloc (.cells #[.bool g,.slice ua um uc] 24)).alloc (.cells #[.bool h,.slice va vm vc] 24)).alloc (.cells #[.bool false,.slice none 0 0] 24) = W1:=⟨_,rfl⟩
 obtain ⟨b1,q0,q1,q2,s1⟩:=alloc3 w _ _ _ _ _ _ hW1
 have HW:=Lib.hid hW1
 obtain ⟨B,hB⟩ : ∃ B,w.heap.size = B:=⟨_,rfl⟩
 have HB:=Lib.hid hB
 rw [hB] at hK b1 q0 q1 q2 s1 ⊢
 have hc:=nGcd_any B g h _ _ y z W1 (hu.below b1 hK hK) (hv.below b1 hK hK) hy hz (by omega)
 have HC:=Lib.hid hc
 clear hB hW1 hc hu hv hy hz
 go_enter Tryz.func78,Tryz.ntmps78
 go_wp2_with fail
 simp only [HB.out,Nat.add_assoc,Nat.reduceAdd]
 rw [HW.out]
 refine HC.out.mono ?_
 rintro e w2 ⟨x,rfl,hx,hb2⟩
 obtain ⟨g',p,rfl,hp,hnw⟩:=hx
 obtain ⟨pa,pm,pc,rfl⟩:=hp.form
 have b2 : Below B w w2:=b1.trans (hb2.mono (by omega))
 have hs2:=hb2.size
 have q2:=q2.below hb2 q2.lt
 obtain ⟨d0,d1⟩:=q2.two
 have f0:=q2.free 0
 have f1:=q2.free 1
 have hlt:=q2.lt
 have hne : ¬ B + 2 = w2.heap.size:=by omega
 have HP:=Lib.hid hp
 clear HC hp
 go_wp2_with fail
 have q4:=((q2.set (i:=0) (.bool g')).set (i:=1) (.slice pa pm pc)).alloc (.cells #[.bool g',.slice pa pm pc] 24)
 obtain ⟨e2,e3⟩:=q4.two
 refine bodyPost_ret (v:=.agg #[.bool g',.slice pa pm pc]) (by simp [results,Tryz.results78,go_sem,e2,e3]) rfl ?_
 have ws:=((HP.out.set (r:=B + 2) (i:=0) (x:=.bool g') hnw (by omega)).set (r:=B + 2) (i:=1) (x:=.slice pa pm pc) hnw (by omega))
 have b3:=(((Below.refl B w2).setCell (p:=⟨B + 2,0,none⟩) (by simp) (.bool g')).setCell (p:=⟨B + 2,1,none⟩) (by simp) (.slice pa pm pc)).alloc (by simp [World.setCell]; omega) (.cells #[.bool g',.slice pa pm pc] 24)
 exact ⟨_,rfl,.mk (ws.below ((Below.refl _ _).alloc (Nat.le_refl _) _) (by simp [World.setCell]) (by simp [World.setCell])) (hnw.mono (by omega)),b2.trans b3⟩
theorem ztimes_any (K : Nat) (g h : Bool) (u v : Value) (y z : Int) (w : World) (hu : Zn K w g u y) (hv : Zn K w h v z) (hy : y.natAbs < LB 512) (hz : z.natAbs < LB 512) (hK : K <= w.heap.size) :
  Calls Tryz.prog 64 #[.agg #[.bool g,u],.agg #[.bool h,v]] w fun e w' => ∃ x,e = .returned x /\ ZxN w.heap.size w'.heap.size w' x (y * z) /\ Below w.heap.size w w':=by
 obtain ⟨ua,um,uc,rfl⟩:=hu.form
 obtain ⟨va,vm,vc,rfl⟩:=hv.form
 obtain ⟨W1,hW1⟩ : ∃ W1,((w.alloc (.cells #[.bool g,.slice ua um uc] 24)).alloc (.cells #[.bool h,.slice va vm vc] 24)).alloc (.cells #[.bool false,.slice none 0 0] 24) = W1:=⟨_,rfl⟩
 obtain ⟨b1,q0,q1,q2,s1⟩:=alloc3 w _ _ _ _ _ _ hW1
 have HW:=Lib.hid hW1
 obtain ⟨B,hB⟩ : ∃ B,w.heap.size = B:=⟨_,rfl⟩
 have HB:=Lib.hid hB
 rw [hB] at hK b1 q0 q1 q2 s1 ⊢
 have hc:=nMul_any B g h _ _ y z W1 (hu.below b1 hK hK) (hv.below b1 hK hK) hy hz (by omega)
 have HC:=Lib.hid hc
 clear hB hW1 hc hu hv hy hz
 go_enter Tryz.func64,Tryz.ntmps64
 go_wp2_with fail
 simp only [HB.out,Nat.add_assoc,Nat.reduceAdd]
 rw [HW.out]
 refine HC.out.mono ?_
 rintro e w2 ⟨x,rfl,hx,hb2⟩
 obtain ⟨g',p,rfl,hp,hnw⟩:=hx
 obtain ⟨pa,pm,pc,rfl⟩:=hp.form
 have b2 : Below B w w2:=b1.trans (hb2.mono (by omega))
 have hs2:=hb2.size
 have q2:=q2.below hb2 q2.lt
 obtain ⟨d0,d1⟩:=q2.two
 have f0:=q2.free 0
 have f1:=q2.free 1
 have hlt:=q2.lt
 have hne : ¬ B + 2 = w2.heap.size:=by omega
 have HP:=Lib.hid hp
 clear HC hp
 go_wp2_with fail
 have q4:=((q2.set (i:=0) (.bool g')).set (i:=1) (.slice pa pm pc)).alloc (.cells #[.bool g',.slice pa pm pc] 24)
 obtain ⟨e2,e3⟩:=q4.two
 refine bodyPost_ret (v:=.agg #[.bool g',.slice pa pm pc]) (by simp [results,Tryz.results64,go_sem,e2,e3]) rfl ?_
 have ws:=((HP.out.set (r:=B + 2) (i:=0) (x:=.bool g') hnw (by omega)).set (r:=B + 2) (i:=1) (x:=.slice pa pm pc) hnw (by omega))
 have b3:=(((Below.refl B w2).setCell (p:=⟨B + 2,0,none⟩) (by simp) (.bool g')).setCell (p:=⟨B + 2,1,none⟩) (by simp) (.slice pa pm pc)).alloc (by simp [World.setCell]; omega) (.cells #[.bool g',.slice pa pm pc] 24)
 exact ⟨_,rfl,.mk (ws.below ((Below.refl _ _).alloc (Nat.le_refl _) _) (by simp [World.setCell]) (by simp [World.setCell])) (hnw.mono (by omega)),b2.trans b3⟩
theorem zplus_any (K : Nat) (g h : Bool) (u v : Value) (y z : Int) (w : World) (hu : Zn K w g u y) (hv : Zn K w h v z) (hy : y.natAbs < LB 999) (hz : z.natAbs < LB 999) (hK : K <= w.heap.size) :
  Calls Tryz.prog 63 #[.agg #[.bool g,u],.agg #[.bool h,v]] w fun e w' => ∃ x,e = .returned x /\ ZxN w.heap.size w'.heap.size w' x (y + z) /\ Below w.heap.size w w':=by
 obtain ⟨ua,um,uc,rfl⟩:=hu.form
 obtain ⟨va,vm,vc,rfl⟩:=hv.form
 obtain ⟨W1,hW1⟩ : ∃ W1,((w.alloc (.cells #[.bool g,.slice ua um uc] 24)).alloc (.cells #[.bool h,.slice va vm vc] 24)).alloc (.cells #[.bool false,.slice none 0 0] 24) = W1:=⟨_,rfl⟩
 obtain ⟨b1,q0,q1,q2,s1⟩:=alloc3 w _ _ _ _ _ _ hW1
 have HW:=Lib.hid hW1
 obtain ⟨B,hB⟩ : ∃ B,w.heap.size = B:=⟨_,rfl⟩
 have HB:=Lib.hid hB
 rw [hB] at hK b1 q0 q1 q2 s1 ⊢
 have hc:=nAdd_any B g h _ _ y z W1 (hu.below b1 hK hK) (hv.below b1 hK hK) hy hz (by omega)
 have HC:=Lib.hid hc
 clear hB hW1 hc hu hv hy hz
 go_enter Tryz.func63,Tryz.ntmps63
 go_wp2_with fail
 simp only [HB.out,Nat.add_assoc,Nat.reduceAdd]
 rw [HW.out]
 refine HC.out.mono ?_
 rintro e w2 ⟨x,rfl,hx,hb2⟩
 obtain ⟨g',p,rfl,hp,hnw⟩:=hx
 obtain ⟨pa,pm,pc,rfl⟩:=hp.form
 have b2 : Below B w w2:=b1.trans (hb2.mono (by omega))
 have hs2:=hb2.size
 have q2:=q2.below hb2 q2.lt
 obtain ⟨d0,d1⟩:=q2.two
 have f0:=q2.free 0
 have f1:=q2.free 1
 have hlt:=q2.lt
 have hne : ¬ B + 2 = w2.heap.size:=by omega
 have HP:=Lib.hid hp
 clear HC hp
 go_wp2_with fail
 have q4:=((q2.set (i:=0) (.bool g')).set (i:=1) (.slice pa pm pc)).alloc (.cells #[.bool g',.slice pa pm pc] 24)
 obtain ⟨e2,e3⟩:=q4.two
 refine bodyPost_ret (v:=.agg #[.bool g',.slice pa pm pc]) (by simp [results,Tryz.results63,go_sem,e2,e3]) rfl ?_
 have ws:=((HP.out.set (r:=B + 2) (i:=0) (x:=.bool g') hnw (by omega)).set (r:=B + 2) (i:=1) (x:=.slice pa pm pc) hnw (by omega))
 have b3:=(((Below.refl B w2).setCell (p:=⟨B + 2,0,none⟩) (by simp) (.bool g')).setCell (p:=⟨B + 2,1,none⟩) (by simp) (.slice pa pm pc)).alloc (by simp [World.setCell]; omega) (.cells #[.bool g',.slice pa pm pc] 24)
 exact ⟨_,rfl,.mk (ws.below ((Below.refl _ _).alloc (Nat.le_refl _) _) (by simp [World.setCell]) (by simp [World.setCell])) (hnw.mono (by omega)),b2.trans b3⟩
theorem zdivX_any (K : Nat) (g : Bool) (u v : Value) (y d q : Int) (w : World) (hu : Zn K w g u y) (hv : Zn K w false v d) (hd0 : 0 < d) (hq : y = q * d) (hy : y.natAbs < LB 1000) (hd : d.natAbs < LB 1000) (hK : K <= w.heap.size) :
  Calls Tryz.prog 79 #[.agg #[.bool g,u],.agg #[.bool false,v]] w fun e w' => ∃ x r,e = .returned (.tuple #[x,r]) /\ ZxN w.heap.size w'.heap.size w' x q /\ (∃ rg ru,r = .agg #[.bool rg,ru] /\ ∃ a m c,ru = .slice a m c) /\ Below w.heap.size w w':=by
 obtain ⟨ua,um,uc,rfl⟩:=hu.form
 obtain ⟨va,vm,vc,rfl⟩:=hv.form
 obtain ⟨W1,hW1⟩ : ∃ W1,(((w.alloc (.cells #[.bool g,.slice ua um uc] 24)).alloc (.cells #[.bool false,.slice va vm vc] 24)).alloc (.cells #[.bool false,.slice none 0 0] 24)).alloc (.cells #[.bool false,.slice none 0 0] 24) = W1:=⟨_,rfl⟩
 obtain ⟨b1,q0,q1,q2,q3,s1⟩:=alloc4 w _ _ _ _ _ _ _ _ hW1
 have HW:=Lib.hid hW1
 obtain ⟨B,hB⟩ : ∃ B,w.heap.size = B:=⟨_,rfl⟩
 have HB:=Lib.hid hB
 rw [hB] at hK b1 q0 q1 q2 q3 s1 ⊢
 have hc:=nDivX_any B g _ _ y d q W1 (hu.below b1 hK hK) (hv.below b1 hK hK) hd0 hq hy hd (by omega)
 have HC:=Lib.hid hc
 clear hB hW1 hc hu hv hy hd hq hd0
 go_enter Tryz.func79,Tryz.ntmps79
 go_wp2_with fail
 simp only [HB.out,Nat.add_assoc,Nat.reduceAdd]
 rw [HW.out]
 refine HC.out.mono ?_
 rintro e w2 ⟨x,r,rfl,hx,hr,hb2⟩
 obtain ⟨gp,p,rfl,hp,hn⟩:=hx
 obtain ⟨gr,r,rfl,hr,_⟩:=hr
 obtain ⟨pa,pm,pc,rfl⟩:=hp.form
 obtain ⟨ra,rm,rc,rfl⟩:=hr.form
 have b2 : Below B w w2:=b1.trans (hb2.mono (by omega))
 have hs2:=hb2.size
 have q2:=q2.below hb2 q2.lt
 have q3:=q3.below hb2 q3.lt
 have HP:=Lib.hid hp
 clear HC hr hp
 obtain ⟨e0,e1⟩:=q2.two
 have f0:=q2.free 0
 have f1:=q2.free 1
 obtain ⟨e2,e3⟩:=q3.two
 have f2:=q3.free 0
 have f3:=q3.free 1
 go_upto_region 2 with fail
 clear e0 e1 e2 e3 f0 f1 f2 f3
 have r2:=(((q2.set (i:=0) (.bool gp)).set (i:=1) (.slice pa pm pc)).other (b':=B + 3) (i:=0) (by omega) (.bool gr)).other (b':=B + 3) (i:=1) (by omega) (.slice ra rm rc)
 have r3:=(((q3.other (b':=B + 2) (i:=0) (by omega) (.bool gp)).other (b':=B + 2) (i:=1) (by omega) (.slice pa pm pc)).set (i:=0) (.bool gr)).set (i:=1) (.slice ra rm rc)
 have z6:=((HP.out.set2 (r:=B + 2) (x:=.bool gp) (y:=.slice pa pm pc) hn (by omega)).set2 (r:=B + 3) (x:=.bool gr) (y:=.slice ra rm rc) hn (by omega))
 have b4:=(((b2.setCell (p:=⟨B + 2,0,none⟩) (by simp) (.bool gp)).setCell (p:=⟨B + 2,1,none⟩) (by simp) (.slice pa pm pc)).setCell (p:=⟨B + 3,0,none⟩) (by simp) (.bool gr)).setCell (p:=⟨B + 3,1,none⟩) (by simp) (.slice ra rm rc)
 generalize hW4 : (((w2.setCell ⟨B + 2,0,none⟩ (.bool gp)).setCell ⟨B + 2,1,none⟩ (.slice pa pm pc)).setCell ⟨B + 3,0,none⟩ (.bool gr)).setCell ⟨B + 3,1,none⟩ (.slice ra rm rc) = W4 at r2 r3 z6 b4 ⊢
 have s4 : W4.heap.size = w2.heap.size:=by rw [<- hW4]; simp [World.setCell]
 have HZ6:=Lib.hid z6
 clear hW4 z6
 obtain ⟨e0,e1⟩:=r2.two
 have f0:=r2.free 0
 have f1:=r2.free 1
 obtain ⟨e2,e3⟩:=r3.two
 have f2:=r3.free 0
 have f3:=r3.free 1
 go_region
 clear e0 e1 e2 e3 f0 f1 f2 f3
 have t2:=(((r2.set (i:=0) (.bool gp)).set (i:=1) (.slice pa pm pc)).other (b':=B + 3) (i:=0) (by omega) (.bool gr)).other (b':=B + 3) (i:=1) (by omega) (.slice ra rm rc)
 have t3:=(((r3.other (b':=B + 2) (i:=0) (by omega) (.bool gp)).other (b':=B + 2) (i:=1) (by omega) (.slice pa pm pc)).set (i:=0) (.bool gr)).set (i:=1) (.slice ra rm rc)
 obtain ⟨e0,e1⟩:=t2.two
 obtain ⟨e2,e3⟩:=t3.two
 go_wp2_with fail
 refine bodyPost_ret (v:=.tuple #[.agg #[.bool gp,.slice pa pm pc],.agg #[.bool gr,.slice ra rm rc]]) (by simp [results,Tryz.results79,go_sem,e0,e1,e2,e3]) rfl ?_
 have z8:=((HZ6.out.set2 (r:=B + 2) (x:=.bool gp) (y:=.slice pa pm pc) hn (by omega)).set2 (r:=B + 3) (x:=.bool gr) (y:=.slice ra rm rc) hn (by omega))
 have b8:=(((b4.setCell (p:=⟨B + 2,0,none⟩) (by simp) (.bool gp)).setCell (p:=⟨B + 2,1,none⟩) (by simp) (.slice pa pm pc)).setCell (p:=⟨B + 3,0,none⟩) (by simp) (.bool gr)).setCell (p:=⟨B + 3,1,none⟩) (by simp) (.slice ra rm rc)
 exact ⟨_,_,rfl,.mk (z8.below (below_quiet (Below.refl w2.heap.size _)) (Nat.le_refl _) (by simp [World.setCell,World.drew]; omega)) (hn.mono (by omega)),⟨_,_,rfl,_,_,_,rfl⟩,below_quiet b8⟩
def FxN (L K : Nat) (w : World) (x : Value) (p : Int) (q : Nat) : Prop:=∃ g u v,x = .agg #[.bool g,u,.bool false,v] /\ Zn K w g u p /\ Zn K w false v q /\ NewV L u /\ NewV L v
theorem Zn.pos {K : Nat} {w : World} {g : Bool} {u : Value} {z : Int} (h : Zn K w g u z) (hz : 0 <= z) : g = false:=by rw [h.sg]; simp; omega
theorem zlowest_any (K : Nat) (g : Bool) (u v : Value) (y d p : Int) (q : Nat) (w : World) (hu : Zn K w g u y) (hv : Zn K w false v d) (hd0 : 0 < d) (hp : y = p * (Nat.gcd y.natAbs d.natAbs : Nat)) (hq : d = (q : Int) * (Nat.gcd y.natAbs d.natAbs : Nat)) (hy : y.natAbs < LB 1000) (hd : d.natAbs < LB 1000) (hK : K <= w.heap.size) :
  Calls Tryz.prog 62 #[.agg #[.bool g,u],.agg #[.bool false,v]] w fun e w' => ∃ x,e = .returned x /\ FxN w.heap.size w'.heap.size w' x p q /\ Below w.heap.size w w':=by
 obtain ⟨ua,um,uc,rfl⟩:=hu.form
 obtain ⟨va,vm,vc,rfl⟩:=hv.form
 have hG0 : (0 : Int) < (Nat.gcd y.natAbs d.natAbs : Nat):=by
  have := Nat.gcd_pos_of_pos_right y.natAbs (show 0 < d.natAbs by omega)
  omega
 have hG1000 : (((Nat.gcd y.natAbs d.natAbs : Nat) : Int)).natAbs < LB 1000:=Nat.lt_of_le_of_lt (Nat.gcd_le_right _ (by omega)) hd
 obtain ⟨W1,hW1⟩ : ∃ W1,((w.alloc (.cells #[.bool g,.slice ua um uc] 24)).alloc (.cells #[.bool false,.slice va vm vc] 24)).alloc (.cells #[.bool false,.slice none 0 0,.bool false,.slice none 0 0] 101) = W1:=⟨_,rfl⟩
 obtain ⟨b1,q0,q1,q2,s1⟩:=alloc3 w _ _ _ _ _ _ hW1
 have HW:=Lib.hid hW1
 obtain ⟨B,hB⟩ : ∃ B,w.heap.size = B:=⟨_,rfl⟩
 have HB:=Lib.hid hB
 rw [hB] at hK b1 q0 q1 q2 s1 ⊢
 have hdv:=zdivisor_any B g false _ _ y d W1 (hu.below b1 hK hK) (hv.below b1 hK hK) hy hd (by omega)
 obtain ⟨G,hG⟩ : ∃ G : Int,((Nat.gcd y.natAbs d.natAbs : Nat) : Int) = G:=⟨_,rfl⟩
 rw [hG] at hdv hp hq hG0 hG1000
 have HDV:=Lib.hid hdv
 have HP:=Lib.hid hp
 have HQ:=Lib.hid hq
 have HU:=Lib.hid hu
 have HV:=Lib.hid hv
 have HY:=Lib.hid hy
 have HD:=Lib.hid hd
 have HG0:=Lib.hid hG0
 have HG1:=Lib.hid hG1000
 clear hB hW1 hdv hp hq hu hv hy hd hG0 hG1000 hG hd0
 obtain ⟨d0,d1⟩:=q0.two
 obtain ⟨d2,d3⟩:=q1.two
 go_enter Tryz.func62,Tryz.ntmps62
 go_upto_region 1 with fail
 simp only [HB.out,Nat.add_assoc,Nat.reduceAdd]
 rw [HW.out]
 go_wp2_with fail
 refine HDV.out.mono ?_
 rintro e w2 ⟨x,rfl,hx,hb2⟩
 obtain ⟨gg,gu,rfl,hgd,hng⟩:=hx
 obtain rfl:=hgd.pos (Int.le_of_lt HG0.out)
 obtain ⟨ga,gm,gc,rfl⟩:=hgd.form
 have b2 : Below B w w2:=b1.trans (hb2.mono (by omega))
 have hs2:=hb2.size
 have q0:=q0.below hb2 q0.lt
 have q1:=q1.below hb2 q1.lt
 have q2:=q2.below hb2 q2.lt
 have HGD:=Lib.hid hgd
 clear HDV d0 d1 d2 d3 hgd
 go_upto_region 4 with fail
 generalize hW3 : w2.alloc _ = W3
 have b3' : Below w2.heap.size w2 W3:=by rw [<- hW3]; exact (Below.refl _ _).alloc (Nat.le_refl _) _
 have q3 : Blk W3 w2.heap.size #[.bool false,.slice ga gm gc] 24:=by rw [<- hW3]; exact Blk.new w2 _ _
 have s3 : W3.heap.size = w2.heap.size + 1:=by rw [<- hW3]; simp
 have b3 : Below B w W3:=b2.trans (b3'.mono (by omega))
 have q0:=q0.below b3' q0.lt
 have q1:=q1.below b3' q1.lt
 have q2:=q2.below b3' q2.lt
 have hg3:=HGD.out.below b3' (Nat.le_refl _) (show w2.heap.size <= W3.heap.size by omega)
 obtain ⟨GB,hGB⟩ : ∃ G,w2.heap.size = G:=⟨_,rfl⟩
 rw [hGB] at s3 q3 ⊢
 have hGBB : B + 3 <= GB:=by omega
 have HG3:=Lib.hid hg3
 clear hW3 hGB b3' b2 hb2 hs2 hg3
 have hdv:=zdivX_any W3.heap.size g _ _ y G p W3 (HU.out.below b3 hK (by omega)) HG3.out HG0.out HP.out HY.out HG1.out (Nat.le_refl _)
 have HDV:=Lib.hid hdv
 clear hdv
 obtain ⟨d0,d1⟩:=q0.two
 obtain ⟨d2,d3⟩:=q3.two
 go_wp2_with fail
 refine HDV.out.mono ?_
 rintro e w4 ⟨x,r,rfl,hx,hr,hb4⟩
 obtain ⟨gp,pu,rfl,hp,hnp⟩:=hx
 obtain ⟨_,_,rfl,_,_,_,rfl⟩:=hr
 obtain ⟨pa,pm,pc,rfl⟩:=hp.form
 have b4 : Below B w w4:=b3.trans (hb4.mono (by omega))
 have hs4:=hb4.size
 have q0:=q0.below hb4 q0.lt
 have q1:=q1.below hb4 q1.lt
 have q2:=q2.below hb4 q2.lt
 have q3:=q3.below hb4 q3.lt
 have hg4:=HG3.out.below hb4 (Nat.le_refl _) hs4
 clear HDV d0 d1 d2 d3
 obtain ⟨d0,d1⟩:=q0.two
 have f0:=q0.free 0
 have f1:=q0.free 1
 have HPP:=Lib.hid hp
 have HG4:=Lib.hid hg4
 clear hp hg4
 go_upto_region 5 with fail
 clear d0 d1 f0 f1
 have z0:=(q0.set (i:=0) (.bool gp)).set (i:=1) (.slice pa pm pc)
 have z1:=(q1.other (b':=B) (i:=0) (by omega) (.bool gp)).other (b':=B) (i:=1) (by omega) (.slice pa pm pc)
 have z2:=(q2.other (b':=B) (i:=0) (by omega) (.bool gp)).other (b':=B) (i:=1) (by omega) (.slice pa pm pc)
 have z3:=(q3.other (b':=B) (i:=0) (by omega) (.bool gp)).other (b':=B) (i:=1) (by omega) (.slice pa pm pc)
 have b5:=zbelow_set2 b4 (Nat.le_refl B) (.bool gp) (.slice pa pm pc)
 have s5:=zsize_set2 w4 B (.bool gp) (.slice pa pm pc)
 have hp5:=HPP.out.set2 (x:=.bool gp) (y:=.slice pa pm pc) hnp (show B < W3.heap.size by omega)
 have hg5:=HG4.out.set2 (x:=.bool gp) (y:=.slice pa pm pc) hng (show B < W1.heap.size by omega)
 generalize hW5 : (w4.setCell ⟨B,0,none⟩ (.bool gp)).setCell ⟨B,1,none⟩ (.slice pa pm pc) = W5 at z0 z1 z2 z3 b5 s5 hp5 hg5 ⊢
 have HP5:=Lib.hid hp5
 have HG5:=Lib.hid hg5
 clear hW5 q0 q1 q2 q3 HPP HG4 hp5 hg5
 have hdv:=zdivX_any W5.heap.size false _ _ d G q W5 (HV.out.below b5 hK (by omega)) (by rw [s5]; exact HG5.out) HG0.out HQ.out HD.out HG1.out (Nat.le_refl _)
 have HDV:=Lib.hid hdv
 clear hdv
 obtain ⟨d0,d1⟩:=z1.two
 obtain ⟨d2,d3⟩:=z3.two
 go_wp2_with fail
 refine HDV.out.mono ?_
 rintro e w6 ⟨x,r',rfl,hx,hr,hb6⟩
 obtain ⟨gq,qu,rfl,hq,hnq⟩:=hx
 obtain ⟨_,_,rfl,_,_,_,rfl⟩:=hr
 obtain rfl:=hq.pos (by omega)
 obtain ⟨qa,qm,qc,rfl⟩:=hq.form
 have b6 : Below B w w6:=b5.trans (hb6.mono (by omega))
 have hs6:=hb6.size
 have z0:=z0.below hb6 z0.lt
 have z1:=z1.below hb6 z1.lt
 have z2:=z2.below hb6 z2.lt
 have hp6:=HP5.out.below hb6 (by omega) (show w4.heap.size <= w6.heap.size by omega)
 clear HDV d0 d1 d2 d3
 obtain ⟨d0,d1⟩:=z1.two
 have f0:=z1.free 0
 have f1:=z1.free 1
 have HP6:=Lib.hid hp6
 have HQ6:=Lib.hid hq
 clear hp6 hq
 go_upto_region 6 with fail
 clear d0 d1 f0 f1
 have y0:=(z0.other (b':=B + 1) (i:=0) (by omega) (.bool false)).other (b':=B + 1) (i:=1) (by omega) (.slice qa qm qc)
 have y1:=(z1.set (i:=0) (.bool false)).set (i:=1) (.slice qa qm qc)
 have y2:=(z2.other (b':=B + 1) (i:=0) (by omega) (.bool false)).other (b':=B + 1) (i:=1) (by omega) (.slice qa qm qc)
 have b7:=zbelow_set2 b6 (show B <= B + 1 by omega) (.bool false) (.slice qa qm qc)
 have s7:=zsize_set2 w6 (B + 1) (.bool false) (.slice qa qm qc)
 have hp7:=HP6.out.set2 (x:=.bool false) (y:=.slice qa qm qc) hnp (show B + 1 < W3.heap.size by omega)
 have hq7:=HQ6.out.set2 (x:=.bool false) (y:=.slice qa qm qc) hnq (show B + 1 < W5.heap.size by omega)
 generalize hW7 : (w6.setCell ⟨B + 1,0,none⟩ (.bool false)).setCell ⟨B + 1,1,none⟩ (.slice qa qm qc) = W7 at y0 y1 y2 b7 s7 hp7 hq7 ⊢
 have HP7:=Lib.hid hp7
 have HQ7:=Lib.hid hq7
 clear hW7 hp7 hq7 HP6 HQ6
 obtain ⟨d0,d1⟩:=y0.two
 obtain ⟨d2,d3⟩:=y1.two
 obtain ⟨d4,d5,d6,d7⟩:=y2.four
 have f4:=y2.free 0
 have f5:=y2.free 1
 have f6:=y2.free 2
 have f7:=y2.free 3
 go_wp2_with fail
 have x2:=(((y2.set (i:=0) (.bool gp)).set (i:=1) (.slice pa pm pc)).set (i:=2) (.bool false)).set (i:=3) (.slice qa qm qc)
 obtain ⟨e0,e1,e2,e3⟩:=x2.four
 refine bodyPost_ret (v:=.agg #[.bool gp,.slice pa pm pc,.bool false,.slice qa qm qc]) (by simp [results,Tryz.results62,go_sem,e0,e1,e2,e3]) rfl ?_
 have n1 : NewV (B + 3) (.slice pa pm pc):=hnp.mono (by omega)
 have n2 : NewV (B + 3) (.slice qa qm qc):=hnq.mono (by omega)
 have hp9:=(((HP7.out.set (r:=B + 2) (i:=0) (x:=.bool gp) n1 (by omega)).set (r:=B + 2) (i:=1) (x:=.slice pa pm pc) n1 (by omega)).set (r:=B + 2) (i:=2) (x:=.bool false) n1 (by omega)).set (r:=B + 2) (i:=3) (x:=.slice qa qm qc) n1 (by omega)
 have hq9:=(((HQ7.out.set (r:=B + 2) (i:=0) (x:=.bool gp) n2 (by omega)).set (r:=B + 2) (i:=1) (x:=.slice pa pm pc) n2 (by omega)).set (r:=B + 2) (i:=2) (x:=.bool false) n2 (by omega)).set (r:=B + 2) (i:=3) (x:=.slice qa qm qc) n2 (by omega)
 exact ⟨_,rfl,⟨_,_,_,rfl,hp9.below (Below.refl w6.heap.size _) (Nat.le_refl _) (by simp [World.setCell]; omega),hq9.below (Below.refl w6.heap.size _) (Nat.le_refl _) (by simp [World.setCell]; omega),n1.mono (by omega),n2.mono (by omega)⟩,(((b7.setCell (p:=⟨B + 2,0,none⟩) (by simp) _).setCell (p:=⟨B + 2,1,none⟩) (by simp) _).setCell (p:=⟨B + 2,2,none⟩) (by simp) _).setCell (p:=⟨B + 2,3,none⟩) (by simp) _⟩
end Go.Proofs.YtlldjmagbjjeoaaGreat
