/- Contracts and plain laws, several texts in one (GlAw). No conditions beyond those stated. -/
import Derived.Deep.CutRange
import Derived.Test.YtlldjmagbjjeoaaGreatPk37
set_option maxRecDepth 100000
set_option maxHeartbeats 40000000
namespace Go.Proofs.YtlldjmagbjjeoaaGreat
open Go.RowKit
set_option linter.unusedVariables false
theorem glawake_any (w : World) : Calls Tryz.prog 6 #[] w fun e w' => e = .returned (.bool true) /\ Below w.heap.size w w':=by
 have hr:=gref_any [97,103,101] w
 go_enter Tryz.func6,Tryz.ntmps6
 go_wp2_with fail
 refine hr.mono ?_
 rintro e w1 ⟨ba,rfl,hba,hb1⟩
 clear hr
 have hbal:=hba.lt
 go_upto_region 2 with (refine wpList_store_new rfl 31 (.tmp 1) (.tmp 20) rfl (⟨5,[97,103,101],0,false,⟨none,0,0⟩,false,⟨none,0,0⟩,0,⟨some ⟨ba,0,none⟩,1,1⟩⟩ : Xv).cells _ infoExN rfl (by simp [Value.oneCell']) w1.heap.size rfl rfl rfl ?_)
 generalize hW2 : w1.alloc _ = W2
 have b12 : Below w1.heap.size w1 W2:=by rw [<- hW2]; exact (Below.refl _ _).alloc (Nat.le_refl _) _
 have qa : Blk W2 w1.heap.size (⟨5,[97,103,101],0,false,⟨none,0,0⟩,false,⟨none,0,0⟩,0,⟨some ⟨ba,0,none⟩,1,1⟩⟩ : Xv).cells 31:=by rw [<- hW2]; exact Blk.new w1 _ _
 have b2 : Below w.heap.size w W2:=hb1.trans (b12.mono hb1.size)
 have hba2:=hba.below b12 hbal
 obtain ⟨ta,hta⟩ : ∃ t,w1.heap.size = t:=⟨_,rfl⟩
 rw [hta] at qa hbal ⊢
 clear hW2 hta hba b12 hb1
 go_frame
 go_cut [2] from 21 to 25 (fun s2 wx => ∃ p y,s2 = .pointer (some ⟨p,0,none⟩) /\ Blk wx p (opX 13 y).cells 31 /\ ExG wx.heap.size wx youngG (opX 13 y) /\ Below W2.heap.size W2 wx)
 case first =>
  refine region_plain (fun W' => Below W2.heap.size W2 W') [] (by kernel_rfl) ?_
  have qS : (fun W' => Below W2.heap.size W2 W') W2.drew:=below_quiet (Below.refl _ _)
  refine wpAnyD_tk (i:=0) (v:=(⟨5,[97,103,101],0,false,⟨none,0,0⟩,false,⟨none,0,0⟩,0,⟨some ⟨ba,0,none⟩,1,1⟩⟩ : Xv).agg) rfl (.inl ⟨by kernel_rfl,fun W' hS => by obtain ⟨c0,c1,c2,c3,c4,c5,c6,c7,c8⟩:=(qa.below hS qa.lt).nine; go_simp⟩) qS ?_
  obtain ⟨X0,hX0⟩ : ∃ X,W2.drew = X:=⟨_,rfl⟩
  rw [hX0] at qS ⊢
  have qS : Below W2.heap.size W2 X0:=qS
  have hbt:=hba2.below qS hba2.lt
  have hag:=Sol.of (exg_age hbt hbt.lt)
  clear hX0
  refine wpAnyD_two (i:=1) (j:=5) (by kernel_rfl) rfl rfl (by kernel_rfl) (by kernel_rfl) ?_ ?_
  ·go_simp
   refine (gval2_any 60 X0 (by omega)).mono ?_
   rintro e V1 ⟨x,rfl,hx60,hm1,hm2,hb2⟩
   have q3 : Below W2.heap.size W2 V1:=qS.trans (hb2.mono qS.size)
   have hag:=hag.move hb2
   have hx60 : VlX V1.heap.size V1 (numV [60] [1]) x:=hx60
   have hx60' : SolV none V1 (numV [60] [1]) x:=SolV.new hx60 hm1 hm2 (fun r e => by cases e)
   obtain ⟨s60a,s60b,rfl⟩:=vlx_shape hx60
   clear hx60 hm1 hm2
   refine ⟨q3,?_⟩
   refine wpAnyD_two (i:=2) (j:=5) (by kernel_rfl) rfl rfl (by kernel_rfl) (by kernel_rfl) ?_ ?_
   ·go_simp
    refine (gcon_any 2 false false s60a s60b 0 V1).mono ?_
    rintro e V4 ⟨rfl,hb5⟩
    have q6 : Below W2.heap.size W2 V4:=q3.trans (hb5.mono q3.size)
    have hag:=hag.move hb5
    have hx60':=hx60'.move hb5
    have hc60 : Sol none V4 (conG 60) (conX 2 false s60a false s60b 0):=Sol.con hx60'
    refine ⟨q6,?_⟩
    refine wpAnyD_two (i:=3) (j:=5) (by kernel_rfl) rfl rfl (by kernel_rfl) (by kernel_rfl) ?_ ?_
    ·go_simp
     generalize hV10 : World.alloc V4 _ = V7
     have hb8 : Below V4.heap.size V4 V7:=by rw [<- hV10]; exact (Below.refl _ _).alloc (Nat.le_refl _) _
     have hq24 : Blk V7 V4.heap.size (cells2 (⟨5,[97,103,101],0,false,⟨none,0,0⟩,false,⟨none,0,0⟩,0,⟨some ⟨ba,0,none⟩,1,1⟩⟩ : Xv) (conX 2 false s60a false s60b 0)) 31:=by rw [<- hV10]; exact Blk.new V4 _ _
     have q9 : Below W2.heap.size W2 V7:=q6.trans (hb8.mono q6.size)
     have hag:=hag.move hb8
     have hx60':=hx60'.move hb8
     have hc60:=hc60.move hb8
     have la24:=q6.size
     obtain ⟨ad11,had11⟩ : ∃ a,V4.heap.size = a:=⟨_,rfl⟩
     rw [had11] at hq24 la24  ⊢
     refine ⟨q9,?_⟩
     clear hV10
     refine wpAnyD_two (i:=4) (j:=5) (by kernel_rfl) rfl rfl (by kernel_rfl) (by kernel_rfl) ?_ ?_
     ·go_simp
      refine (gop_any 13 ⟨some ⟨ad11,0,none⟩,2,2⟩ V7).mono ?_
      rintro e V12 ⟨rfl,hb13⟩
      have q14 : Below W2.heap.size W2 V12:=q9.trans (hb13.mono q9.size)
      have hag:=hag.move hb13
      have hx60':=hx60'.move hb13
      have hc60:=hc60.move hb13
      have hq24:=hq24.below hb13 hq24.lt
      have hyo:=Sol.two (o:=13) hq24 (by simp) hag hc60
      refine ⟨q14,?_⟩
      refine wpAnyD_on (i:=5) rfl ?_
      go_simp
      generalize hV16 : World.alloc V12 _ = V15
      have hb17 : Below V12.heap.size V12 V15:=by rw [<- hV16]; exact (Below.refl _ _).alloc (Nat.le_refl _) _
      have hz : Blk V15 V12.heap.size xz.cells 31:=by rw [<- hV16]; exact Blk.new V12 _ _
      have q18 : Below W2.heap.size W2 V15:=q14.trans (hb17.mono q14.size)
      have ohq24:=hq24.lt
      have hb17s : V12.heap.size < V15.heap.size:=by rw [<- hV16]; simp
      have hag:=hag.skip hb17 hb17s
      have hx60':=hx60'.skip hb17 hb17s
      have hc60:=hc60.skip hb17 hb17s
      have hq24:=hq24.below hb17 hq24.lt
      have hyo:=hyo.skip hb17 hb17s
      have hzl : W2.heap.size <= V12.heap.size:=q14.size
      obtain ⟨ad19,had19⟩ : ∃ a,V12.heap.size = a:=⟨_,rfl⟩
      rw [had19] at hz hzl ohq24 hag hx60' hc60 hyo ⊢
      refine ⟨q18,?_⟩
      clear hV16
      refine wpAnyD_on (i:=6) rfl ?_
      refine wp_store_blk 31 31 (.tmp 2) (.tmp 25) rfl (opX 13 ⟨some ⟨ad11,0,none⟩,2,2⟩).cells _ ad19 hz infoExN rfl (by simp [Value.oneCell']) rfl rfl ?_
      intro V20 t1 t2 t3 t4
      have hqz : Below W2.heap.size W2 V20:=q18.trans (t2 _ hzl)
      refine ⟨fun _ => hqz,?_⟩
      refine wpAnyD_done (by kernel_rfl) ?_ _
      have hE : ExG V20.heap.size V20 youngG (opX 13 ⟨some ⟨ad11,0,none⟩,2,2⟩):=hyo _ t3
      go_wp2_with fail
      go_meet
      exact ⟨ad19,_,rfl,t1,hE,hqz⟩
     ·go_simp
      generalize hV22 : World.alloc V7 _ = V21
      have hb23 : Below V7.heap.size V7 V21:=by rw [<- hV22]; exact (Below.refl _ _).alloc (Nat.le_refl _) _
      have hz : Blk V21 V7.heap.size xz.cells 31:=by rw [<- hV22]; exact Blk.new V7 _ _
      have q24 : Below W2.heap.size W2 V21:=q9.trans (hb23.mono q9.size)
      have ohq24:=hq24.lt
      have hb23s : V7.heap.size < V21.heap.size:=by rw [<- hV22]; simp
      have hag:=hag.skip hb23 hb23s
      have hx60':=hx60'.skip hb23 hb23s
      have hc60:=hc60.skip hb23 hb23s
      have hq24:=hq24.below hb23 hq24.lt
      have hzl : W2.heap.size <= V7.heap.size:=q9.size
      obtain ⟨ad25,had25⟩ : ∃ a,V7.heap.size = a:=⟨_,rfl⟩
      rw [had25] at hz hzl ohq24 hag hx60' hc60 ⊢
      refine ⟨q24,?_⟩
      clear hV22
      have hz0:=hz.lt
      refine wpAnyD_on (i:=4) rfl ?_
      go_simp
      refine (gop_any 13 ⟨some ⟨ad11,0,none⟩,2,2⟩ V21).mono ?_
      rintro e V26 ⟨rfl,hb27⟩
      have q28 : Below W2.heap.size W2 V26:=q24.trans (hb27.mono q24.size)
      have hag:=hag.move hb27
      have hx60':=hx60'.move hb27
      have hc60:=hc60.move hb27
      have hq24:=hq24.below hb27 hq24.lt
      have hz:=hz.below hb27 hz.lt
      have hyo:=Sol.two (o:=13) hq24 (by simp; omega) hag hc60
      refine ⟨q28,?_⟩
      refine wpAnyD_on (i:=6) rfl ?_
      refine wp_store_blk 31 31 (.tmp 2) (.tmp 25) rfl (opX 13 ⟨some ⟨ad11,0,none⟩,2,2⟩).cells _ ad25 hz infoExN rfl (by simp [Value.oneCell']) rfl rfl ?_
      intro V29 t1 t2 t3 t4
      have hqz : Below W2.heap.size W2 V29:=q28.trans (t2 _ hzl)
      refine ⟨fun _ => hqz,?_⟩
      refine wpAnyD_done (by kernel_rfl) ?_ _
      have hE : ExG V29.heap.size V29 youngG (opX 13 ⟨some ⟨ad11,0,none⟩,2,2⟩):=hyo _ t3
      go_wp2_with fail
      go_meet
      exact ⟨ad25,_,rfl,t1,hE,hqz⟩
    ·go_simp
     generalize hV31 : World.alloc V4 _ = V30
     have hb32 : Below V4.heap.size V4 V30:=by rw [<- hV31]; exact (Below.refl _ _).alloc (Nat.le_refl _) _
     have hz : Blk V30 V4.heap.size xz.cells 31:=by rw [<- hV31]; exact Blk.new V4 _ _
     have q33 : Below W2.heap.size W2 V30:=q6.trans (hb32.mono q6.size)
     have hb32s : V4.heap.size < V30.heap.size:=by rw [<- hV31]; simp
     have hag:=hag.skip hb32 hb32s
     have hx60':=hx60'.skip hb32 hb32s
     have hc60:=hc60.skip hb32 hb32s
     have hzl : W2.heap.size <= V4.heap.size:=q6.size
     obtain ⟨ad34,had34⟩ : ∃ a,V4.heap.size = a:=⟨_,rfl⟩
     rw [had34] at hz hzl  hag hx60' hc60 ⊢
     refine ⟨q33,?_⟩
     clear hV31
     have hz0:=hz.lt
     refine wpAnyD_on (i:=3) rfl ?_
     go_simp
     generalize hV38 : World.alloc V30 _ = V35
     have hb36 : Below V30.heap.size V30 V35:=by rw [<- hV38]; exact (Below.refl _ _).alloc (Nat.le_refl _) _
     have hq24 : Blk V35 V30.heap.size (cells2 (⟨5,[97,103,101],0,false,⟨none,0,0⟩,false,⟨none,0,0⟩,0,⟨some ⟨ba,0,none⟩,1,1⟩⟩ : Xv) (conX 2 false s60a false s60b 0)) 31:=by rw [<- hV38]; exact Blk.new V30 _ _
     have q37 : Below W2.heap.size W2 V35:=q33.trans (hb36.mono q33.size)
     have hag:=hag.move hb36
     have hx60':=hx60'.move hb36
     have hc60:=hc60.move hb36
     have hz:=hz.below hb36 hz.lt
     have la24:=q33.size
     have na24 : ad34 < V30.heap.size:=hz0
     obtain ⟨ad39,had39⟩ : ∃ a,V30.heap.size = a:=⟨_,rfl⟩
     rw [had39] at hq24 la24 na24 ⊢
     refine ⟨q37,?_⟩
     clear hV38
     have hz0:=hz.lt
     refine wpAnyD_on (i:=4) rfl ?_
     go_simp
     refine (gop_any 13 ⟨some ⟨ad39,0,none⟩,2,2⟩ V35).mono ?_
     rintro e V40 ⟨rfl,hb41⟩
     have q42 : Below W2.heap.size W2 V40:=q37.trans (hb41.mono q37.size)
     have hag:=hag.move hb41
     have hx60':=hx60'.move hb41
     have hc60:=hc60.move hb41
     have hz:=hz.below hb41 hz.lt
     have hq24:=hq24.below hb41 hq24.lt
     have hyo:=Sol.two (o:=13) hq24 (by simp; omega) hag hc60
     refine ⟨q42,?_⟩
     refine wpAnyD_on (i:=6) rfl ?_
     refine wp_store_blk 31 31 (.tmp 2) (.tmp 25) rfl (opX 13 ⟨some ⟨ad39,0,none⟩,2,2⟩).cells _ ad34 hz infoExN rfl (by simp [Value.oneCell']) rfl rfl ?_
     intro V43 t1 t2 t3 t4
     have hqz : Below W2.heap.size W2 V43:=q42.trans (t2 _ hzl)
     refine ⟨fun _ => hqz,?_⟩
     refine wpAnyD_done (by kernel_rfl) ?_ _
     have hE : ExG V43.heap.size V43 youngG (opX 13 ⟨some ⟨ad39,0,none⟩,2,2⟩):=hyo _ t3
     go_wp2_with fail
     go_meet
     exact ⟨ad34,_,rfl,t1,hE,hqz⟩
   ·go_simp
    generalize hV45 : World.alloc V1 _ = V44
    have hb46 : Below V1.heap.size V1 V44:=by rw [<- hV45]; exact (Below.refl _ _).alloc (Nat.le_refl _) _
    have hz : Blk V44 V1.heap.size xz.cells 31:=by rw [<- hV45]; exact Blk.new V1 _ _
    have q47 : Below W2.heap.size W2 V44:=q3.trans (hb46.mono q3.size)
    have hb46s : V1.heap.size < V44.heap.size:=by rw [<- hV45]; simp
    have hag:=hag.skip hb46 hb46s
    have hx60':=hx60'.skip hb46 hb46s
    have hzl : W2.heap.size <= V1.heap.size:=q3.size
    obtain ⟨ad48,had48⟩ : ∃ a,V1.heap.size = a:=⟨_,rfl⟩
    rw [had48] at hz hzl  hag hx60' ⊢
    refine ⟨q47,?_⟩
    clear hV45
    have hz0:=hz.lt
    refine wpAnyD_on (i:=2) rfl ?_
    go_simp
    refine (gcon_any 2 false false s60a s60b 0 V44).mono ?_
    rintro e V49 ⟨rfl,hb50⟩
    have q51 : Below W2.heap.size W2 V49:=q47.trans (hb50.mono q47.size)
    have hag:=hag.move hb50
    have hx60':=hx60'.move hb50
    have hz:=hz.below hb50 hz.lt
    have hc60 : Sol (some ad48) V49 (conG 60) (conX 2 false s60a false s60b 0):=Sol.con hx60'
    refine ⟨q51,?_⟩
    have hz0:=hz.lt
    refine wpAnyD_on (i:=3) rfl ?_
    go_simp
    generalize hV55 : World.alloc V49 _ = V52
    have hb53 : Below V49.heap.size V49 V52:=by rw [<- hV55]; exact (Below.refl _ _).alloc (Nat.le_refl _) _
    have hq24 : Blk V52 V49.heap.size (cells2 (⟨5,[97,103,101],0,false,⟨none,0,0⟩,false,⟨none,0,0⟩,0,⟨some ⟨ba,0,none⟩,1,1⟩⟩ : Xv) (conX 2 false s60a false s60b 0)) 31:=by rw [<- hV55]; exact Blk.new V49 _ _
    have q54 : Below W2.heap.size W2 V52:=q51.trans (hb53.mono q51.size)
    have hag:=hag.move hb53
    have hx60':=hx60'.move hb53
    have hz:=hz.below hb53 hz.lt
    have hc60:=hc60.move hb53
    have la24:=q51.size
    have na24 : ad48 < V49.heap.size:=hz0
    obtain ⟨ad56,had56⟩ : ∃ a,V49.heap.size = a:=⟨_,rfl⟩
    rw [had56] at hq24 la24 na24 ⊢
    refine ⟨q54,?_⟩
    clear hV55
    have hz0:=hz.lt
    refine wpAnyD_on (i:=4) rfl ?_
    go_simp
    refine (gop_any 13 ⟨some ⟨ad56,0,none⟩,2,2⟩ V52).mono ?_
    rintro e V57 ⟨rfl,hb58⟩
    have q59 : Below W2.heap.size W2 V57:=q54.trans (hb58.mono q54.size)
    have hag:=hag.move hb58
    have hx60':=hx60'.move hb58
    have hz:=hz.below hb58 hz.lt
    have hc60:=hc60.move hb58
    have hq24:=hq24.below hb58 hq24.lt
    have hyo:=Sol.two (o:=13) hq24 (by simp; omega) hag hc60
    refine ⟨q59,?_⟩
    refine wpAnyD_on (i:=6) rfl ?_
    refine wp_store_blk 31 31 (.tmp 2) (.tmp 25) rfl (opX 13 ⟨some ⟨ad56,0,none⟩,2,2⟩).cells _ ad48 hz infoExN rfl (by simp [Value.oneCell']) rfl rfl ?_
    intro V60 t1 t2 t3 t4
    have hqz : Below W2.heap.size W2 V60:=q59.trans (t2 _ hzl)
    refine ⟨fun _ => hqz,?_⟩
    refine wpAnyD_done (by kernel_rfl) ?_ _
    have hE : ExG V60.heap.size V60 youngG (opX 13 ⟨some ⟨ad56,0,none⟩,2,2⟩):=hyo _ t3
    go_wp2_with fail
    go_meet
    exact ⟨ad48,_,rfl,t1,hE,hqz⟩
  ·go_simp
   generalize hV62 : World.alloc X0 _ = V61
   have hb63 : Below X0.heap.size X0 V61:=by rw [<- hV62]; exact (Below.refl _ _).alloc (Nat.le_refl _) _
   have hz : Blk V61 X0.heap.size xz.cells 31:=by rw [<- hV62]; exact Blk.new X0 _ _
   have q64 : Below W2.heap.size W2 V61:=qS.trans (hb63.mono qS.size)
   have hb63s : X0.heap.size < V61.heap.size:=by rw [<- hV62]; simp
   have hag:=hag.skip hb63 hb63s
   have hzl : W2.heap.size <= X0.heap.size:=qS.size
   obtain ⟨ad65,had65⟩ : ∃ a,X0.heap.size = a:=⟨_,rfl⟩
   rw [had65] at hz hzl  hag ⊢
   refine ⟨q64,?_⟩
   clear hV62
   have hz0:=hz.lt
   refine wpAnyD_on (i:=1) rfl ?_
   go_simp
   refine (gval2_any 60 V61 (by omega)).mono ?_
   rintro e V66 ⟨x,rfl,hx60,hm1,hm2,hb67⟩
   have q68 : Below W2.heap.size W2 V66:=q64.trans (hb67.mono q64.size)
   have hag:=hag.move hb67
   have hz:=hz.below hb67 hz.lt
   have hx60 : VlX V66.heap.size V66 (numV [60] [1]) x:=hx60
   have hx60' : SolV (some ad65) V66 (numV [60] [1]) x:=SolV.new hx60 hm1 hm2 (fun r e => by cases e; exact hz0)
   obtain ⟨s60a,s60b,rfl⟩:=vlx_shape hx60
   clear hx60 hm1 hm2
   refine ⟨q68,?_⟩
   have hz0:=hz.lt
   refine wpAnyD_on (i:=2) rfl ?_
   go_simp
   refine (gcon_any 2 false false s60a s60b 0 V66).mono ?_
   rintro e V69 ⟨rfl,hb70⟩
   have q71 : Below W2.heap.size W2 V69:=q68.trans (hb70.mono q68.size)
   have hag:=hag.move hb70
   have hz:=hz.below hb70 hz.lt
   have hx60':=hx60'.move hb70
   have hc60 : Sol (some ad65) V69 (conG 60) (conX 2 false s60a false s60b 0):=Sol.con hx60'
   refine ⟨q71,?_⟩
   have hz0:=hz.lt
   refine wpAnyD_on (i:=3) rfl ?_
   go_simp
   generalize hV75 : World.alloc V69 _ = V72
   have hb73 : Below V69.heap.size V69 V72:=by rw [<- hV75]; exact (Below.refl _ _).alloc (Nat.le_refl _) _
   have hq24 : Blk V72 V69.heap.size (cells2 (⟨5,[97,103,101],0,false,⟨none,0,0⟩,false,⟨none,0,0⟩,0,⟨some ⟨ba,0,none⟩,1,1⟩⟩ : Xv) (conX 2 false s60a false s60b 0)) 31:=by rw [<- hV75]; exact Blk.new V69 _ _
   have q74 : Below W2.heap.size W2 V72:=q71.trans (hb73.mono q71.size)
   have hag:=hag.move hb73
   have hz:=hz.below hb73 hz.lt
   have hx60':=hx60'.move hb73
   have hc60:=hc60.move hb73
   have la24:=q71.size
   have na24 : ad65 < V69.heap.size:=hz0
   obtain ⟨ad76,had76⟩ : ∃ a,V69.heap.size = a:=⟨_,rfl⟩
   rw [had76] at hq24 la24 na24 ⊢
   refine ⟨q74,?_⟩
   clear hV75
   have hz0:=hz.lt
   refine wpAnyD_on (i:=4) rfl ?_
   go_simp
   refine (gop_any 13 ⟨some ⟨ad76,0,none⟩,2,2⟩ V72).mono ?_
   rintro e V77 ⟨rfl,hb78⟩
   have q79 : Below W2.heap.size W2 V77:=q74.trans (hb78.mono q74.size)
   have hag:=hag.move hb78
   have hz:=hz.below hb78 hz.lt
   have hx60':=hx60'.move hb78
   have hc60:=hc60.move hb78
   have hq24:=hq24.below hb78 hq24.lt
   have hyo:=Sol.two (o:=13) hq24 (by simp; omega) hag hc60
   refine ⟨q79,?_⟩
   refine wpAnyD_on (i:=6) rfl ?_
   refine wp_store_blk 31 31 (.tmp 2) (.tmp 25) rfl (opX 13 ⟨some ⟨ad76,0,none⟩,2,2⟩).cells _ ad65 hz infoExN rfl (by simp [Value.oneCell']) rfl rfl ?_
   intro V80 t1 t2 t3 t4
   have hqz : Below W2.heap.size W2 V80:=q79.trans (t2 _ hzl)
   refine ⟨fun _ => hqz,?_⟩
   refine wpAnyD_done (by kernel_rfl) ?_ _
   have hE : ExG V80.heap.size V80 youngG (opX 13 ⟨some ⟨ad76,0,none⟩,2,2⟩):=hyo _ t3
   go_wp2_with fail
   go_meet
   exact ⟨ad65,_,rfl,t1,hE,hqz⟩
 case rest =>
 obtain ⟨tb,⟨ya,yn,ym⟩,rfl,qy,hy,hbc⟩:=hcut
 have qa:=qa.below hbc qa.lt
 have hba2:=hba2.below hbc hba2.lt
 have b2:=b2.trans (hbc.mono b2.size)
 clear hbc
 go_upto_region 3 with fail
 try go_frame
 go_cut [3] from 26 to 35 (fun s3 wx => ∃ p y,s3 = .pointer (some ⟨p,0,none⟩) /\ Blk wx p (opX 16 y).cells 31 /\ ExG wx.heap.size wx oldG (opX 16 y) /\ Below wc.heap.size wc wx)
 case first =>
  refine region_plain (fun W' => Below wc.heap.size wc W') [] (by kernel_rfl) ?_
  have qS : (fun W' => Below wc.heap.size wc W') wc.drew:=below_quiet (Below.refl _ _)
  refine wpAnyD_tk (i:=0) (v:=(opX 13 ⟨ya,yn,ym⟩).agg) rfl (.inl ⟨by kernel_rfl,fun W' hS => by obtain ⟨c0,c1,c2,c3,c4,c5,c6,c7,c8⟩:=(qy.below hS qy.lt).nine; go_simp⟩) qS ?_
  refine wpAnyD_tk (i:=3) (v:=(⟨5,[97,103,101],0,false,⟨none,0,0⟩,false,⟨none,0,0⟩,0,⟨some ⟨ba,0,none⟩,1,1⟩⟩ : Xv).agg) rfl (.inl ⟨by kernel_rfl,fun W' hS => by obtain ⟨c0,c1,c2,c3,c4,c5,c6,c7,c8⟩:=(qa.below hS qa.lt).nine; go_simp⟩) qS ?_
  obtain ⟨X0,hX0⟩ : ∃ X,wc.drew = X:=⟨_,rfl⟩
  rw [hX0] at qS ⊢
  have qS : Below wc.heap.size wc X0:=qS
  have hbt:=hba2.below qS hba2.lt
  have hag:=Sol.of (exg_age hbt hbt.lt)
  have hyo : Sol none X0 youngG (opX 13 ⟨ya,yn,ym⟩):=Sol.of (hy.below qS (Nat.le_refl _) qS.size)
  clear hX0
  refine wpAnyD_two (i:=1) (j:=10) (by kernel_rfl) rfl rfl (by kernel_rfl) (by kernel_rfl) ?_ ?_
  ·go_simp
   generalize hV84 : World.alloc X0 _ = V81
   have hb82 : Below X0.heap.size X0 V81:=by rw [<- hV84]; exact (Below.refl _ _).alloc (Nat.le_refl _) _
   have hq27 : Blk V81 X0.heap.size (opX 13 ⟨ya,yn,ym⟩).cells 31:=by rw [<- hV84]; exact Blk.new X0 _ _
   have q83 : Below wc.heap.size wc V81:=qS.trans (hb82.mono qS.size)
   have hag:=hag.move hb82
   have hyo:=hyo.move hb82
   have la27:=qS.size
   obtain ⟨ad85,had85⟩ : ∃ a,X0.heap.size = a:=⟨_,rfl⟩
   rw [had85] at hq27 la27  ⊢
   refine ⟨q83,?_⟩
   clear hV84
   refine wpAnyD_two (i:=2) (j:=10) (by kernel_rfl) rfl rfl (by kernel_rfl) (by kernel_rfl) ?_ ?_
   ·go_simp
    refine (gop_any 17 ⟨some ⟨ad85,0,none⟩,1,1⟩ V81).mono ?_
    rintro e V86 ⟨rfl,hb87⟩
    have q88 : Below wc.heap.size wc V86:=q83.trans (hb87.mono q83.size)
    have hag:=hag.move hb87
    have hyo:=hyo.move hb87
    have hq27:=hq27.below hb87 hq27.lt
    have hnot:=Sol.one (o:=17) hq27 (by simp) hyo
    refine ⟨q88,?_⟩
    refine wpAnyD_two (i:=4) (j:=10) (by kernel_rfl) rfl rfl (by kernel_rfl) (by kernel_rfl) ?_ ?_
    ·go_simp
     refine (gval2_any 65 V86 (by omega)).mono ?_
     rintro e V89 ⟨x,rfl,hx65,hm1,hm2,hb90⟩
     have q91 : Below wc.heap.size wc V89:=q88.trans (hb90.mono q88.size)
     have hag:=hag.move hb90
     have hyo:=hyo.move hb90
     have hq27:=hq27.below hb90 hq27.lt
     have hnot:=hnot.move hb90
     have hx65 : VlX V89.heap.size V89 (numV [65] [1]) x:=hx65
     have hx65' : SolV none V89 (numV [65] [1]) x:=SolV.new hx65 hm1 hm2 (fun r e => by cases e)
     obtain ⟨s65a,s65b,rfl⟩:=vlx_shape hx65
     clear hx65 hm1 hm2
     refine ⟨q91,?_⟩
     refine wpAnyD_two (i:=5) (j:=10) (by kernel_rfl) rfl rfl (by kernel_rfl) (by kernel_rfl) ?_ ?_
     ·go_simp
      refine (gcon_any 2 false false s65a s65b 0 V89).mono ?_
      rintro e V92 ⟨rfl,hb93⟩
      have q94 : Below wc.heap.size wc V92:=q91.trans (hb93.mono q91.size)
      have hag:=hag.move hb93
      have hyo:=hyo.move hb93
      have hq27:=hq27.below hb93 hq27.lt
      have hnot:=hnot.move hb93
      have hx65':=hx65'.move hb93
      have hc65 : Sol none V92 (conG 65) (conX 2 false s65a false s65b 0):=Sol.con hx65'
      refine ⟨q94,?_⟩
      refine wpAnyD_two (i:=6) (j:=10) (by kernel_rfl) rfl rfl (by kernel_rfl) (by kernel_rfl) ?_ ?_
      ·go_simp
       generalize hV98 : World.alloc V92 _ = V95
       have hb96 : Below V92.heap.size V92 V95:=by rw [<- hV98]; exact (Below.refl _ _).alloc (Nat.le_refl _) _
       have hq32 : Blk V95 V92.heap.size (cells2 (⟨5,[97,103,101],0,false,⟨none,0,0⟩,false,⟨none,0,0⟩,0,⟨some ⟨ba,0,none⟩,1,1⟩⟩ : Xv) (conX 2 false s65a false s65b 0)) 31:=by rw [<- hV98]; exact Blk.new V92 _ _
       have q97 : Below wc.heap.size wc V95:=q94.trans (hb96.mono q94.size)
       have hag:=hag.move hb96
       have hyo:=hyo.move hb96
       have hq27:=hq27.below hb96 hq27.lt
       have hnot:=hnot.move hb96
       have hx65':=hx65'.move hb96
       have hc65:=hc65.move hb96
       have la32:=q94.size
       obtain ⟨ad99,had99⟩ : ∃ a,V92.heap.size = a:=⟨_,rfl⟩
       rw [had99] at hq32 la32  ⊢
       refine ⟨q97,?_⟩
       clear hV98
       refine wpAnyD_two (i:=7) (j:=10) (by kernel_rfl) rfl rfl (by kernel_rfl) (by kernel_rfl) ?_ ?_
       ·go_simp
        refine (gop_any 14 ⟨some ⟨ad99,0,none⟩,2,2⟩ V95).mono ?_
        rintro e V100 ⟨rfl,hb101⟩
        have q102 : Below wc.heap.size wc V100:=q97.trans (hb101.mono q97.size)
        have hag:=hag.move hb101
        have hyo:=hyo.move hb101
        have hq27:=hq27.below hb101 hq27.lt
        have hnot:=hnot.move hb101
        have hx65':=hx65'.move hb101
        have hc65:=hc65.move hb101
        have hq32:=hq32.below hb101 hq32.lt
        have hsm:=Sol.two (o:=14) hq32 (by simp) hag hc65
        refine ⟨q102,?_⟩
        refine wpAnyD_two (i:=8) (j:=10) (by kernel_rfl) rfl rfl (by kernel_rfl) (by kernel_rfl) ?_ ?_
        ·go_simp
         generalize hV106 : World.alloc V100 _ = V103
         have hb104 : Below V100.heap.size V100 V103:=by rw [<- hV106]; exact (Below.refl _ _).alloc (Nat.le_refl _) _
         have hq34 : Blk V103 V100.heap.size (cells2 (opX 17 ⟨some ⟨ad85,0,none⟩,1,1⟩) (opX 14 ⟨some ⟨ad99,0,none⟩,2,2⟩)) 31:=by rw [<- hV106]; exact Blk.new V100 _ _
         have q105 : Below wc.heap.size wc V103:=q102.trans (hb104.mono q102.size)
         have hag:=hag.move hb104
         have hyo:=hyo.move hb104
         have hq27:=hq27.below hb104 hq27.lt
         have hnot:=hnot.move hb104
         have hx65':=hx65'.move hb104
         have hc65:=hc65.move hb104
         have hq32:=hq32.below hb104 hq32.lt
         have hsm:=hsm.move hb104
         have la34:=q102.size
         obtain ⟨ad107,had107⟩ : ∃ a,V100.heap.size = a:=⟨_,rfl⟩
         rw [had107] at hq34 la34  ⊢
         refine ⟨q105,?_⟩
         clear hV106
         refine wpAnyD_two (i:=9) (j:=10) (by kernel_rfl) rfl rfl (by kernel_rfl) (by kernel_rfl) ?_ ?_
         ·go_simp
          refine (gop_any 16 ⟨some ⟨ad107,0,none⟩,2,2⟩ V103).mono ?_
          rintro e V108 ⟨rfl,hb109⟩
          have q110 : Below wc.heap.size wc V108:=q105.trans (hb109.mono q105.size)
          have hag:=hag.move hb109
          have hyo:=hyo.move hb109
          have hq27:=hq27.below hb109 hq27.lt
          have hnot:=hnot.move hb109
          have hx65':=hx65'.move hb109
          have hc65:=hc65.move hb109
          have hq32:=hq32.below hb109 hq32.lt
          have hsm:=hsm.move hb109
          have hq34:=hq34.below hb109 hq34.lt
          have hol:=Sol.two (o:=16) hq34 (by simp) hnot hsm
          refine ⟨q110,?_⟩
          refine wpAnyD_on (i:=10) rfl ?_
          go_simp
          generalize hV112 : World.alloc V108 _ = V111
          have hb113 : Below V108.heap.size V108 V111:=by rw [<- hV112]; exact (Below.refl _ _).alloc (Nat.le_refl _) _
          have hz : Blk V111 V108.heap.size xz.cells 31:=by rw [<- hV112]; exact Blk.new V108 _ _
          have q114 : Below wc.heap.size wc V111:=q110.trans (hb113.mono q110.size)
          have ohq27:=hq27.lt
          have ohq32:=hq32.lt
          have ohq34:=hq34.lt
          have hb113s : V108.heap.size < V111.heap.size:=by rw [<- hV112]; simp
          have hag:=hag.skip hb113 hb113s
          have hyo:=hyo.skip hb113 hb113s
          have hq27:=hq27.below hb113 hq27.lt
          have hnot:=hnot.skip hb113 hb113s
          have hx65':=hx65'.skip hb113 hb113s
          have hc65:=hc65.skip hb113 hb113s
          have hq32:=hq32.below hb113 hq32.lt
          have hsm:=hsm.skip hb113 hb113s
          have hq34:=hq34.below hb113 hq34.lt
          have hol:=hol.skip hb113 hb113s
          have hzl : wc.heap.size <= V108.heap.size:=q110.size
          obtain ⟨ad115,had115⟩ : ∃ a,V108.heap.size = a:=⟨_,rfl⟩
          rw [had115] at hz hzl ohq27 ohq32 ohq34 hag hyo hnot hx65' hc65 hsm hol ⊢
          refine ⟨q114,?_⟩
          clear hV112
          refine wpAnyD_on (i:=11) rfl ?_
          refine wp_store_blk 31 31 (.tmp 3) (.tmp 35) rfl (opX 16 ⟨some ⟨ad107,0,none⟩,2,2⟩).cells _ ad115 hz infoExN rfl (by simp [Value.oneCell']) rfl rfl ?_
          intro V116 t1 t2 t3 t4
          have hqz : Below wc.heap.size wc V116:=q114.trans (t2 _ hzl)
          refine ⟨fun _ => hqz,?_⟩
          refine wpAnyD_done (by kernel_rfl) ?_ _
          have hE : ExG V116.heap.size V116 oldG (opX 16 ⟨some ⟨ad107,0,none⟩,2,2⟩):=hol _ t3
          go_wp2_with fail
          go_meet
          exact ⟨ad115,_,rfl,t1,hE,hqz⟩
         ·go_simp
          generalize hV118 : World.alloc V103 _ = V117
          have hb119 : Below V103.heap.size V103 V117:=by rw [<- hV118]; exact (Below.refl _ _).alloc (Nat.le_refl _) _
          have hz : Blk V117 V103.heap.size xz.cells 31:=by rw [<- hV118]; exact Blk.new V103 _ _
          have q120 : Below wc.heap.size wc V117:=q105.trans (hb119.mono q105.size)
          have ohq27:=hq27.lt
          have ohq32:=hq32.lt
          have ohq34:=hq34.lt
          have hb119s : V103.heap.size < V117.heap.size:=by rw [<- hV118]; simp
          have hag:=hag.skip hb119 hb119s
          have hyo:=hyo.skip hb119 hb119s
          have hq27:=hq27.below hb119 hq27.lt
          have hnot:=hnot.skip hb119 hb119s
          have hx65':=hx65'.skip hb119 hb119s
          have hc65:=hc65.skip hb119 hb119s
          have hq32:=hq32.below hb119 hq32.lt
          have hsm:=hsm.skip hb119 hb119s
          have hq34:=hq34.below hb119 hq34.lt
          have hzl : wc.heap.size <= V103.heap.size:=q105.size
          obtain ⟨ad121,had121⟩ : ∃ a,V103.heap.size = a:=⟨_,rfl⟩
          rw [had121] at hz hzl ohq27 ohq32 ohq34 hag hyo hnot hx65' hc65 hsm ⊢
          refine ⟨q120,?_⟩
          clear hV118
          have hz0:=hz.lt
          refine wpAnyD_on (i:=9) rfl ?_
          go_simp
          refine (gop_any 16 ⟨some ⟨ad107,0,none⟩,2,2⟩ V117).mono ?_
          rintro e V122 ⟨rfl,hb123⟩
          have q124 : Below wc.heap.size wc V122:=q120.trans (hb123.mono q120.size)
          have hag:=hag.move hb123
          have hyo:=hyo.move hb123
          have hq27:=hq27.below hb123 hq27.lt
          have hnot:=hnot.move hb123
          have hx65':=hx65'.move hb123
          have hc65:=hc65.move hb123
          have hq32:=hq32.below hb123 hq32.lt
          have hsm:=hsm.move hb123
          have hq34:=hq34.below hb123 hq34.lt
          have hz:=hz.below hb123 hz.lt
          have hol:=Sol.two (o:=16) hq34 (by simp; omega) hnot hsm
          refine ⟨q124,?_⟩
          refine wpAnyD_on (i:=11) rfl ?_
          refine wp_store_blk 31 31 (.tmp 3) (.tmp 35) rfl (opX 16 ⟨some ⟨ad107,0,none⟩,2,2⟩).cells _ ad121 hz infoExN rfl (by simp [Value.oneCell']) rfl rfl ?_
          intro V125 t1 t2 t3 t4
          have hqz : Below wc.heap.size wc V125:=q124.trans (t2 _ hzl)
          refine ⟨fun _ => hqz,?_⟩
          refine wpAnyD_done (by kernel_rfl) ?_ _
          have hE : ExG V125.heap.size V125 oldG (opX 16 ⟨some ⟨ad107,0,none⟩,2,2⟩):=hol _ t3
          go_wp2_with fail
          go_meet
          exact ⟨ad121,_,rfl,t1,hE,hqz⟩
        ·go_simp
         generalize hV127 : World.alloc V100 _ = V126
         have hb128 : Below V100.heap.size V100 V126:=by rw [<- hV127]; exact (Below.refl _ _).alloc (Nat.le_refl _) _
         have hz : Blk V126 V100.heap.size xz.cells 31:=by rw [<- hV127]; exact Blk.new V100 _ _
         have q129 : Below wc.heap.size wc V126:=q102.trans (hb128.mono q102.size)
         have ohq27:=hq27.lt
         have ohq32:=hq32.lt
         have hb128s : V100.heap.size < V126.heap.size:=by rw [<- hV127]; simp
         have hag:=hag.skip hb128 hb128s
         have hyo:=hyo.skip hb128 hb128s
         have hq27:=hq27.below hb128 hq27.lt
         have hnot:=hnot.skip hb128 hb128s
         have hx65':=hx65'.skip hb128 hb128s
         have hc65:=hc65.skip hb128 hb128s
         have hq32:=hq32.below hb128 hq32.lt
         have hsm:=hsm.skip hb128 hb128s
         have hzl : wc.heap.size <= V100.heap.size:=q102.size
         obtain ⟨ad130,had130⟩ : ∃ a,V100.heap.size = a:=⟨_,rfl⟩
         rw [had130] at hz hzl ohq27 ohq32 hag hyo hnot hx65' hc65 hsm ⊢
         refine ⟨q129,?_⟩
         clear hV127
         have hz0:=hz.lt
         refine wpAnyD_on (i:=8) rfl ?_
         go_simp
         generalize hV134 : World.alloc V126 _ = V131
         have hb132 : Below V126.heap.size V126 V131:=by rw [<- hV134]; exact (Below.refl _ _).alloc (Nat.le_refl _) _
         have hq34 : Blk V131 V126.heap.size (cells2 (opX 17 ⟨some ⟨ad85,0,none⟩,1,1⟩) (opX 14 ⟨some ⟨ad99,0,none⟩,2,2⟩)) 31:=by rw [<- hV134]; exact Blk.new V126 _ _
         have q133 : Below wc.heap.size wc V131:=q129.trans (hb132.mono q129.size)
         have hag:=hag.move hb132
         have hyo:=hyo.move hb132
         have hq27:=hq27.below hb132 hq27.lt
         have hnot:=hnot.move hb132
         have hx65':=hx65'.move hb132
         have hc65:=hc65.move hb132
         have hq32:=hq32.below hb132 hq32.lt
         have hsm:=hsm.move hb132
         have hz:=hz.below hb132 hz.lt
         have la34:=q129.size
         have na34 : ad130 < V126.heap.size:=hz0
         obtain ⟨ad135,had135⟩ : ∃ a,V126.heap.size = a:=⟨_,rfl⟩
         rw [had135] at hq34 la34 na34 ⊢
         refine ⟨q133,?_⟩
         clear hV134
         have hz0:=hz.lt
         refine wpAnyD_on (i:=9) rfl ?_
         go_simp
         refine (gop_any 16 ⟨some ⟨ad135,0,none⟩,2,2⟩ V131).mono ?_
         rintro e V136 ⟨rfl,hb137⟩
         have q138 : Below wc.heap.size wc V136:=q133.trans (hb137.mono q133.size)
         have hag:=hag.move hb137
         have hyo:=hyo.move hb137
         have hq27:=hq27.below hb137 hq27.lt
         have hnot:=hnot.move hb137
         have hx65':=hx65'.move hb137
         have hc65:=hc65.move hb137
         have hq32:=hq32.below hb137 hq32.lt
         have hsm:=hsm.move hb137
         have hz:=hz.below hb137 hz.lt
         have hq34:=hq34.below hb137 hq34.lt
         have hol:=Sol.two (o:=16) hq34 (by simp; omega) hnot hsm
         refine ⟨q138,?_⟩
         refine wpAnyD_on (i:=11) rfl ?_
         refine wp_store_blk 31 31 (.tmp 3) (.tmp 35) rfl (opX 16 ⟨some ⟨ad135,0,none⟩,2,2⟩).cells _ ad130 hz infoExN rfl (by simp [Value.oneCell']) rfl rfl ?_
         intro V139 t1 t2 t3 t4
         have hqz : Below wc.heap.size wc V139:=q138.trans (t2 _ hzl)
         refine ⟨fun _ => hqz,?_⟩
         refine wpAnyD_done (by kernel_rfl) ?_ _
         have hE : ExG V139.heap.size V139 oldG (opX 16 ⟨some ⟨ad135,0,none⟩,2,2⟩):=hol _ t3
         go_wp2_with fail
         go_meet
         exact ⟨ad130,_,rfl,t1,hE,hqz⟩
       ·go_simp
        generalize hV141 : World.alloc V95 _ = V140
        have hb142 : Below V95.heap.size V95 V140:=by rw [<- hV141]; exact (Below.refl _ _).alloc (Nat.le_refl _) _
        have hz : Blk V140 V95.heap.size xz.cells 31:=by rw [<- hV141]; exact Blk.new V95 _ _
        have q143 : Below wc.heap.size wc V140:=q97.trans (hb142.mono q97.size)
        have ohq27:=hq27.lt
        have ohq32:=hq32.lt
        have hb142s : V95.heap.size < V140.heap.size:=by rw [<- hV141]; simp
        have hag:=hag.skip hb142 hb142s
        have hyo:=hyo.skip hb142 hb142s
        have hq27:=hq27.below hb142 hq27.lt
        have hnot:=hnot.skip hb142 hb142s
        have hx65':=hx65'.skip hb142 hb142s
        have hc65:=hc65.skip hb142 hb142s
        have hq32:=hq32.below hb142 hq32.lt
        have hzl : wc.heap.size <= V95.heap.size:=q97.size
        obtain ⟨ad144,had144⟩ : ∃ a,V95.heap.size = a:=⟨_,rfl⟩
        rw [had144] at hz hzl ohq27 ohq32 hag hyo hnot hx65' hc65 ⊢
        refine ⟨q143,?_⟩
        clear hV141
        have hz0:=hz.lt
        refine wpAnyD_on (i:=7) rfl ?_
        go_simp
        refine (gop_any 14 ⟨some ⟨ad99,0,none⟩,2,2⟩ V140).mono ?_
        rintro e V145 ⟨rfl,hb146⟩
        have q147 : Below wc.heap.size wc V145:=q143.trans (hb146.mono q143.size)
        have hag:=hag.move hb146
        have hyo:=hyo.move hb146
        have hq27:=hq27.below hb146 hq27.lt
        have hnot:=hnot.move hb146
        have hx65':=hx65'.move hb146
        have hc65:=hc65.move hb146
        have hq32:=hq32.below hb146 hq32.lt
        have hz:=hz.below hb146 hz.lt
        have hsm:=Sol.two (o:=14) hq32 (by simp; omega) hag hc65
        refine ⟨q147,?_⟩
        have hz0:=hz.lt
        refine wpAnyD_on (i:=8) rfl ?_
        go_simp
        generalize hV151 : World.alloc V145 _ = V148
        have hb149 : Below V145.heap.size V145 V148:=by rw [<- hV151]; exact (Below.refl _ _).alloc (Nat.le_refl _) _
        have hq34 : Blk V148 V145.heap.size (cells2 (opX 17 ⟨some ⟨ad85,0,none⟩,1,1⟩) (opX 14 ⟨some ⟨ad99,0,none⟩,2,2⟩)) 31:=by rw [<- hV151]; exact Blk.new V145 _ _
        have q150 : Below wc.heap.size wc V148:=q147.trans (hb149.mono q147.size)
        have hag:=hag.move hb149
        have hyo:=hyo.move hb149
        have hq27:=hq27.below hb149 hq27.lt
        have hnot:=hnot.move hb149
        have hx65':=hx65'.move hb149
        have hc65:=hc65.move hb149
        have hq32:=hq32.below hb149 hq32.lt
        have hz:=hz.below hb149 hz.lt
        have hsm:=hsm.move hb149
        have la34:=q147.size
        have na34 : ad144 < V145.heap.size:=hz0
        obtain ⟨ad152,had152⟩ : ∃ a,V145.heap.size = a:=⟨_,rfl⟩
        rw [had152] at hq34 la34 na34 ⊢
        refine ⟨q150,?_⟩
        clear hV151
        have hz0:=hz.lt
        refine wpAnyD_on (i:=9) rfl ?_
        go_simp
        refine (gop_any 16 ⟨some ⟨ad152,0,none⟩,2,2⟩ V148).mono ?_
        rintro e V153 ⟨rfl,hb154⟩
        have q155 : Below wc.heap.size wc V153:=q150.trans (hb154.mono q150.size)
        have hag:=hag.move hb154
        have hyo:=hyo.move hb154
        have hq27:=hq27.below hb154 hq27.lt
        have hnot:=hnot.move hb154
        have hx65':=hx65'.move hb154
        have hc65:=hc65.move hb154
        have hq32:=hq32.below hb154 hq32.lt
        have hz:=hz.below hb154 hz.lt
        have hsm:=hsm.move hb154
        have hq34:=hq34.below hb154 hq34.lt
        have hol:=Sol.two (o:=16) hq34 (by simp; omega) hnot hsm
        refine ⟨q155,?_⟩
        refine wpAnyD_on (i:=11) rfl ?_
        refine wp_store_blk 31 31 (.tmp 3) (.tmp 35) rfl (opX 16 ⟨some ⟨ad152,0,none⟩,2,2⟩).cells _ ad144 hz infoExN rfl (by simp [Value.oneCell']) rfl rfl ?_
        intro V156 t1 t2 t3 t4
        have hqz : Below wc.heap.size wc V156:=q155.trans (t2 _ hzl)
        refine ⟨fun _ => hqz,?_⟩
        refine wpAnyD_done (by kernel_rfl) ?_ _
        have hE : ExG V156.heap.size V156 oldG (opX 16 ⟨some ⟨ad152,0,none⟩,2,2⟩):=hol _ t3
        go_wp2_with fail
        go_meet
        exact ⟨ad144,_,rfl,t1,hE,hqz⟩
      ·go_simp
       generalize hV158 : World.alloc V92 _ = V157
       have hb159 : Below V92.heap.size V92 V157:=by rw [<- hV158]; exact (Below.refl _ _).alloc (Nat.le_refl _) _
       have hz : Blk V157 V92.heap.size xz.cells 31:=by rw [<- hV158]; exact Blk.new V92 _ _
       have q160 : Below wc.heap.size wc V157:=q94.trans (hb159.mono q94.size)
       have ohq27:=hq27.lt
       have hb159s : V92.heap.size < V157.heap.size:=by rw [<- hV158]; simp
       have hag:=hag.skip hb159 hb159s
       have hyo:=hyo.skip hb159 hb159s
       have hq27:=hq27.below hb159 hq27.lt
       have hnot:=hnot.skip hb159 hb159s
       have hx65':=hx65'.skip hb159 hb159s
       have hc65:=hc65.skip hb159 hb159s
       have hzl : wc.heap.size <= V92.heap.size:=q94.size
       obtain ⟨ad161,had161⟩ : ∃ a,V92.heap.size = a:=⟨_,rfl⟩
       rw [had161] at hz hzl ohq27 hag hyo hnot hx65' hc65 ⊢
       refine ⟨q160,?_⟩
       clear hV158
       have hz0:=hz.lt
       refine wpAnyD_on (i:=6) rfl ?_
       go_simp
       generalize hV165 : World.alloc V157 _ = V162
       have hb163 : Below V157.heap.size V157 V162:=by rw [<- hV165]; exact (Below.refl _ _).alloc (Nat.le_refl _) _
       have hq32 : Blk V162 V157.heap.size (cells2 (⟨5,[97,103,101],0,false,⟨none,0,0⟩,false,⟨none,0,0⟩,0,⟨some ⟨ba,0,none⟩,1,1⟩⟩ : Xv) (conX 2 false s65a false s65b 0)) 31:=by rw [<- hV165]; exact Blk.new V157 _ _
       have q164 : Below wc.heap.size wc V162:=q160.trans (hb163.mono q160.size)
       have hag:=hag.move hb163
       have hyo:=hyo.move hb163
       have hq27:=hq27.below hb163 hq27.lt
       have hnot:=hnot.move hb163
       have hx65':=hx65'.move hb163
       have hc65:=hc65.move hb163
       have hz:=hz.below hb163 hz.lt
       have la32:=q160.size
       have na32 : ad161 < V157.heap.size:=hz0
       obtain ⟨ad166,had166⟩ : ∃ a,V157.heap.size = a:=⟨_,rfl⟩
       rw [had166] at hq32 la32 na32 ⊢
       refine ⟨q164,?_⟩
       clear hV165
       have hz0:=hz.lt
       refine wpAnyD_on (i:=7) rfl ?_
       go_simp
       refine (gop_any 14 ⟨some ⟨ad166,0,none⟩,2,2⟩ V162).mono ?_
       rintro e V167 ⟨rfl,hb168⟩
       have q169 : Below wc.heap.size wc V167:=q164.trans (hb168.mono q164.size)
       have hag:=hag.move hb168
       have hyo:=hyo.move hb168
       have hq27:=hq27.below hb168 hq27.lt
       have hnot:=hnot.move hb168
       have hx65':=hx65'.move hb168
       have hc65:=hc65.move hb168
       have hz:=hz.below hb168 hz.lt
       have hq32:=hq32.below hb168 hq32.lt
       have hsm:=Sol.two (o:=14) hq32 (by simp; omega) hag hc65
       refine ⟨q169,?_⟩
       have hz0:=hz.lt
       refine wpAnyD_on (i:=8) rfl ?_
       go_simp
       generalize hV173 : World.alloc V167 _ = V170
       have hb171 : Below V167.heap.size V167 V170:=by rw [<- hV173]; exact (Below.refl _ _).alloc (Nat.le_refl _) _
       have hq34 : Blk V170 V167.heap.size (cells2 (opX 17 ⟨some ⟨ad85,0,none⟩,1,1⟩) (opX 14 ⟨some ⟨ad166,0,none⟩,2,2⟩)) 31:=by rw [<- hV173]; exact Blk.new V167 _ _
       have q172 : Below wc.heap.size wc V170:=q169.trans (hb171.mono q169.size)
       have hag:=hag.move hb171
       have hyo:=hyo.move hb171
       have hq27:=hq27.below hb171 hq27.lt
       have hnot:=hnot.move hb171
       have hx65':=hx65'.move hb171
       have hc65:=hc65.move hb171
       have hz:=hz.below hb171 hz.lt
       have hq32:=hq32.below hb171 hq32.lt
       have hsm:=hsm.move hb171
       have la34:=q169.size
       have na34 : ad161 < V167.heap.size:=hz0
       obtain ⟨ad174,had174⟩ : ∃ a,V167.heap.size = a:=⟨_,rfl⟩
       rw [had174] at hq34 la34 na34 ⊢
       refine ⟨q172,?_⟩
       clear hV173
       have hz0:=hz.lt
       refine wpAnyD_on (i:=9) rfl ?_
       go_simp
       refine (gop_any 16 ⟨some ⟨ad174,0,none⟩,2,2⟩ V170).mono ?_
       rintro e V175 ⟨rfl,hb176⟩
       have q177 : Below wc.heap.size wc V175:=q172.trans (hb176.mono q172.size)
       have hag:=hag.move hb176
       have hyo:=hyo.move hb176
       have hq27:=hq27.below hb176 hq27.lt
       have hnot:=hnot.move hb176
       have hx65':=hx65'.move hb176
       have hc65:=hc65.move hb176
       have hz:=hz.below hb176 hz.lt
       have hq32:=hq32.below hb176 hq32.lt
       have hsm:=hsm.move hb176
       have hq34:=hq34.below hb176 hq34.lt
       have hol:=Sol.two (o:=16) hq34 (by simp; omega) hnot hsm
       refine ⟨q177,?_⟩
       refine wpAnyD_on (i:=11) rfl ?_
       refine wp_store_blk 31 31 (.tmp 3) (.tmp 35) rfl (opX 16 ⟨some ⟨ad174,0,none⟩,2,2⟩).cells _ ad161 hz infoExN rfl (by simp [Value.oneCell']) rfl rfl ?_
       intro V178 t1 t2 t3 t4
       have hqz : Below wc.heap.size wc V178:=q177.trans (t2 _ hzl)
       refine ⟨fun _ => hqz,?_⟩
       refine wpAnyD_done (by kernel_rfl) ?_ _
       have hE : ExG V178.heap.size V178 oldG (opX 16 ⟨some ⟨ad174,0,none⟩,2,2⟩):=hol _ t3
       go_wp2_with fail
       go_meet
       exact ⟨ad161,_,rfl,t1,hE,hqz⟩
     ·go_simp
      generalize hV180 : World.alloc V89 _ = V179
      have hb181 : Below V89.heap.size V89 V179:=by rw [<- hV180]; exact (Below.refl _ _).alloc (Nat.le_refl _) _
      have hz : Blk V179 V89.heap.size xz.cells 31:=by rw [<- hV180]; exact Blk.new V89 _ _
      have q182 : Below wc.heap.size wc V179:=q91.trans (hb181.mono q91.size)
      have ohq27:=hq27.lt
      have hb181s : V89.heap.size < V179.heap.size:=by rw [<- hV180]; simp
      have hag:=hag.skip hb181 hb181s
      have hyo:=hyo.skip hb181 hb181s
      have hq27:=hq27.below hb181 hq27.lt
      have hnot:=hnot.skip hb181 hb181s
      have hx65':=hx65'.skip hb181 hb181s
      have hzl : wc.heap.size <= V89.heap.size:=q91.size
      obtain ⟨ad183,had183⟩ : ∃ a,V89.heap.size = a:=⟨_,rfl⟩
      rw [had183] at hz hzl ohq27 hag hyo hnot hx65' ⊢
      refine ⟨q182,?_⟩
      clear hV180
      have hz0:=hz.lt
      refine wpAnyD_on (i:=5) rfl ?_
      go_simp
      refine (gcon_any 2 false false s65a s65b 0 V179).mono ?_
      rintro e V184 ⟨rfl,hb185⟩
      have q186 : Below wc.heap.size wc V184:=q182.trans (hb185.mono q182.size)
      have hag:=hag.move hb185
      have hyo:=hyo.move hb185
      have hq27:=hq27.below hb185 hq27.lt
      have hnot:=hnot.move hb185
      have hx65':=hx65'.move hb185
      have hz:=hz.below hb185 hz.lt
      have hc65 : Sol (some ad183) V184 (conG 65) (conX 2 false s65a false s65b 0):=Sol.con hx65'
      refine ⟨q186,?_⟩
      have hz0:=hz.lt
      refine wpAnyD_on (i:=6) rfl ?_
      go_simp
      generalize hV190 : World.alloc V184 _ = V187
      have hb188 : Below V184.heap.size V184 V187:=by rw [<- hV190]; exact (Below.refl _ _).alloc (Nat.le_refl _) _
      have hq32 : Blk V187 V184.heap.size (cells2 (⟨5,[97,103,101],0,false,⟨none,0,0⟩,false,⟨none,0,0⟩,0,⟨some ⟨ba,0,none⟩,1,1⟩⟩ : Xv) (conX 2 false s65a false s65b 0)) 31:=by rw [<- hV190]; exact Blk.new V184 _ _
      have q189 : Below wc.heap.size wc V187:=q186.trans (hb188.mono q186.size)
      have hag:=hag.move hb188
      have hyo:=hyo.move hb188
      have hq27:=hq27.below hb188 hq27.lt
      have hnot:=hnot.move hb188
      have hx65':=hx65'.move hb188
      have hz:=hz.below hb188 hz.lt
      have hc65:=hc65.move hb188
      have la32:=q186.size
      have na32 : ad183 < V184.heap.size:=hz0
      obtain ⟨ad191,had191⟩ : ∃ a,V184.heap.size = a:=⟨_,rfl⟩
      rw [had191] at hq32 la32 na32 ⊢
      refine ⟨q189,?_⟩
      clear hV190
      have hz0:=hz.lt
      refine wpAnyD_on (i:=7) rfl ?_
      go_simp
      refine (gop_any 14 ⟨some ⟨ad191,0,none⟩,2,2⟩ V187).mono ?_
      rintro e V192 ⟨rfl,hb193⟩
      have q194 : Below wc.heap.size wc V192:=q189.trans (hb193.mono q189.size)
      have hag:=hag.move hb193
      have hyo:=hyo.move hb193
      have hq27:=hq27.below hb193 hq27.lt
      have hnot:=hnot.move hb193
      have hx65':=hx65'.move hb193
      have hz:=hz.below hb193 hz.lt
      have hc65:=hc65.move hb193
      have hq32:=hq32.below hb193 hq32.lt
      have hsm:=Sol.two (o:=14) hq32 (by simp; omega) hag hc65
      refine ⟨q194,?_⟩
      have hz0:=hz.lt
      refine wpAnyD_on (i:=8) rfl ?_
      go_simp
      generalize hV198 : World.alloc V192 _ = V195
      have hb196 : Below V192.heap.size V192 V195:=by rw [<- hV198]; exact (Below.refl _ _).alloc (Nat.le_refl _) _
      have hq34 : Blk V195 V192.heap.size (cells2 (opX 17 ⟨some ⟨ad85,0,none⟩,1,1⟩) (opX 14 ⟨some ⟨ad191,0,none⟩,2,2⟩)) 31:=by rw [<- hV198]; exact Blk.new V192 _ _
      have q197 : Below wc.heap.size wc V195:=q194.trans (hb196.mono q194.size)
      have hag:=hag.move hb196
      have hyo:=hyo.move hb196
      have hq27:=hq27.below hb196 hq27.lt
      have hnot:=hnot.move hb196
      have hx65':=hx65'.move hb196
      have hz:=hz.below hb196 hz.lt
      have hc65:=hc65.move hb196
      have hq32:=hq32.below hb196 hq32.lt
      have hsm:=hsm.move hb196
      have la34:=q194.size
      have na34 : ad183 < V192.heap.size:=hz0
      obtain ⟨ad199,had199⟩ : ∃ a,V192.heap.size = a:=⟨_,rfl⟩
      rw [had199] at hq34 la34 na34 ⊢
      refine ⟨q197,?_⟩
      clear hV198
      have hz0:=hz.lt
      refine wpAnyD_on (i:=9) rfl ?_
      go_simp
      refine (gop_any 16 ⟨some ⟨ad199,0,none⟩,2,2⟩ V195).mono ?_
      rintro e V200 ⟨rfl,hb201⟩
      have q202 : Below wc.heap.size wc V200:=q197.trans (hb201.mono q197.size)
      have hag:=hag.move hb201
      have hyo:=hyo.move hb201
      have hq27:=hq27.below hb201 hq27.lt
      have hnot:=hnot.move hb201
      have hx65':=hx65'.move hb201
      have hz:=hz.below hb201 hz.lt
      have hc65:=hc65.move hb201
      have hq32:=hq32.below hb201 hq32.lt
      have hsm:=hsm.move hb201
      have hq34:=hq34.below hb201 hq34.lt
      have hol:=Sol.two (o:=16) hq34 (by simp; omega) hnot hsm
      refine ⟨q202,?_⟩
      refine wpAnyD_on (i:=11) rfl ?_
      refine wp_store_blk 31 31 (.tmp 3) (.tmp 35) rfl (opX 16 ⟨some ⟨ad199,0,none⟩,2,2⟩).cells _ ad183 hz infoExN rfl (by simp [Value.oneCell']) rfl rfl ?_
      intro V203 t1 t2 t3 t4
      have hqz : Below wc.heap.size wc V203:=q202.trans (t2 _ hzl)
      refine ⟨fun _ => hqz,?_⟩
      refine wpAnyD_done (by kernel_rfl) ?_ _
      have hE : ExG V203.heap.size V203 oldG (opX 16 ⟨some ⟨ad199,0,none⟩,2,2⟩):=hol _ t3
      go_wp2_with fail
      go_meet
      exact ⟨ad183,_,rfl,t1,hE,hqz⟩
    ·go_simp
     generalize hV205 : World.alloc V86 _ = V204
     have hb206 : Below V86.heap.size V86 V204:=by rw [<- hV205]; exact (Below.refl _ _).alloc (Nat.le_refl _) _
     have hz : Blk V204 V86.heap.size xz.cells 31:=by rw [<- hV205]; exact Blk.new V86 _ _
     have q207 : Below wc.heap.size wc V204:=q88.trans (hb206.mono q88.size)
     have ohq27:=hq27.lt
     have hb206s : V86.heap.size < V204.heap.size:=by rw [<- hV205]; simp
     have hag:=hag.skip hb206 hb206s
     have hyo:=hyo.skip hb206 hb206s
     have hq27:=hq27.below hb206 hq27.lt
     have hnot:=hnot.skip hb206 hb206s
     have hzl : wc.heap.size <= V86.heap.size:=q88.size
     obtain ⟨ad208,had208⟩ : ∃ a,V86.heap.size = a:=⟨_,rfl⟩
     rw [had208] at hz hzl ohq27 hag hyo hnot ⊢
     refine ⟨q207,?_⟩
     clear hV205
     have hz0:=hz.lt
     refine wpAnyD_on (i:=4) rfl ?_
     go_simp
     refine (gval2_any 65 V204 (by omega)).mono ?_
     rintro e V209 ⟨x,rfl,hx65,hm1,hm2,hb210⟩
     have q211 : Below wc.heap.size wc V209:=q207.trans (hb210.mono q207.size)
     have hag:=hag.move hb210
     have hyo:=hyo.move hb210
     have hq27:=hq27.below hb210 hq27.lt
     have hnot:=hnot.move hb210
     have hz:=hz.below hb210 hz.lt
     have hx65 : VlX V209.heap.size V209 (numV [65] [1]) x:=hx65
     have hx65' : SolV (some ad208) V209 (numV [65] [1]) x:=SolV.new hx65 hm1 hm2 (fun r e => by cases e; exact hz0)
     obtain ⟨s65a,s65b,rfl⟩:=vlx_shape hx65
     clear hx65 hm1 hm2
     refine ⟨q211,?_⟩
     have hz0:=hz.lt
     refine wpAnyD_on (i:=5) rfl ?_
     go_simp
     refine (gcon_any 2 false false s65a s65b 0 V209).mono ?_
     rintro e V212 ⟨rfl,hb213⟩
     have q214 : Below wc.heap.size wc V212:=q211.trans (hb213.mono q211.size)
     have hag:=hag.move hb213
     have hyo:=hyo.move hb213
     have hq27:=hq27.below hb213 hq27.lt
     have hnot:=hnot.move hb213
     have hz:=hz.below hb213 hz.lt
     have hx65':=hx65'.move hb213
     have hc65 : Sol (some ad208) V212 (conG 65) (conX 2 false s65a false s65b 0):=Sol.con hx65'
     refine ⟨q214,?_⟩
     have hz0:=hz.lt
     refine wpAnyD_on (i:=6) rfl ?_
     go_simp
     generalize hV218 : World.alloc V212 _ = V215
     have hb216 : Below V212.heap.size V212 V215:=by rw [<- hV218]; exact (Below.refl _ _).alloc (Nat.le_refl _) _
     have hq32 : Blk V215 V212.heap.size (cells2 (⟨5,[97,103,101],0,false,⟨none,0,0⟩,false,⟨none,0,0⟩,0,⟨some ⟨ba,0,none⟩,1,1⟩⟩ : Xv) (conX 2 false s65a false s65b 0)) 31:=by rw [<- hV218]; exact Blk.new V212 _ _
     have q217 : Below wc.heap.size wc V215:=q214.trans (hb216.mono q214.size)
     have hag:=hag.move hb216
     have hyo:=hyo.move hb216
     have hq27:=hq27.below hb216 hq27.lt
     have hnot:=hnot.move hb216
     have hz:=hz.below hb216 hz.lt
     have hx65':=hx65'.move hb216
     have hc65:=hc65.move hb216
     have la32:=q214.size
     have na32 : ad208 < V212.heap.size:=hz0
     obtain ⟨ad219,had219⟩ : ∃ a,V212.heap.size = a:=⟨_,rfl⟩
     rw [had219] at hq32 la32 na32 ⊢
     refine ⟨q217,?_⟩
     clear hV218
     have hz0:=hz.lt
     refine wpAnyD_on (i:=7) rfl ?_
     go_simp
     refine (gop_any 14 ⟨some ⟨ad219,0,none⟩,2,2⟩ V215).mono ?_
     rintro e V220 ⟨rfl,hb221⟩
     have q222 : Below wc.heap.size wc V220:=q217.trans (hb221.mono q217.size)
     have hag:=hag.move hb221
     have hyo:=hyo.move hb221
     have hq27:=hq27.below hb221 hq27.lt
     have hnot:=hnot.move hb221
     have hz:=hz.below hb221 hz.lt
     have hx65':=hx65'.move hb221
     have hc65:=hc65.move hb221
     have hq32:=hq32.below hb221 hq32.lt
     have hsm:=Sol.two (o:=14) hq32 (by simp; omega) hag hc65
     refine ⟨q222,?_⟩
     have hz0:=hz.lt
     refine wpAnyD_on (i:=8) rfl ?_
     go_simp
     generalize hV226 : World.alloc V220 _ = V223
     have hb224 : Below V220.heap.size V220 V223:=by rw [<- hV226]; exact (Below.refl _ _).alloc (Nat.le_refl _) _
     have hq34 : Blk V223 V220.heap.size (cells2 (opX 17 ⟨some ⟨ad85,0,none⟩,1,1⟩) (opX 14 ⟨some ⟨ad219,0,none⟩,2,2⟩)) 31:=by rw [<- hV226]; exact Blk.new V220 _ _
     have q225 : Below wc.heap.size wc V223:=q222.trans (hb224.mono q222.size)
     have hag:=hag.move hb224
     have hyo:=hyo.move hb224
     have hq27:=hq27.below hb224 hq27.lt
     have hnot:=hnot.move hb224
     have hz:=hz.below hb224 hz.lt
     have hx65':=hx65'.move hb224
     have hc65:=hc65.move hb224
     have hq32:=hq32.below hb224 hq32.lt
     have hsm:=hsm.move hb224
     have la34:=q222.size
     have na34 : ad208 < V220.heap.size:=hz0
     obtain ⟨ad227,had227⟩ : ∃ a,V220.heap.size = a:=⟨_,rfl⟩
     rw [had227] at hq34 la34 na34 ⊢
     refine ⟨q225,?_⟩
     clear hV226
     have hz0:=hz.lt
     refine wpAnyD_on (i:=9) rfl ?_
     go_simp
     refine (gop_any 16 ⟨some ⟨ad227,0,none⟩,2,2⟩ V223).mono ?_
     rintro e V228 ⟨rfl,hb229⟩
     have q230 : Below wc.heap.size wc V228:=q225.trans (hb229.mono q225.size)
     have hag:=hag.move hb229
     have hyo:=hyo.move hb229
     have hq27:=hq27.below hb229 hq27.lt
     have hnot:=hnot.move hb229
     have hz:=hz.below hb229 hz.lt
     have hx65':=hx65'.move hb229
     have hc65:=hc65.move hb229
     have hq32:=hq32.below hb229 hq32.lt
     have hsm:=hsm.move hb229
     have hq34:=hq34.below hb229 hq34.lt
     have hol:=Sol.two (o:=16) hq34 (by simp; omega) hnot hsm
     refine ⟨q230,?_⟩
     refine wpAnyD_on (i:=11) rfl ?_
     refine wp_store_blk 31 31 (.tmp 3) (.tmp 35) rfl (opX 16 ⟨some ⟨ad227,0,none⟩,2,2⟩).cells _ ad208 hz infoExN rfl (by simp [Value.oneCell']) rfl rfl ?_
     intro V231 t1 t2 t3 t4
     have hqz : Below wc.heap.size wc V231:=q230.trans (t2 _ hzl)
     refine ⟨fun _ => hqz,?_⟩
     refine wpAnyD_done (by kernel_rfl) ?_ _
     have hE : ExG V231.heap.size V231 oldG (opX 16 ⟨some ⟨ad227,0,none⟩,2,2⟩):=hol _ t3
     go_wp2_with fail
     go_meet
     exact ⟨ad208,_,rfl,t1,hE,hqz⟩
   ·go_simp
    generalize hV233 : World.alloc V81 _ = V232
    have hb234 : Below V81.heap.size V81 V232:=by rw [<- hV233]; exact (Below.refl _ _).alloc (Nat.le_refl _) _
    have hz : Blk V232 V81.heap.size xz.cells 31:=by rw [<- hV233]; exact Blk.new V81 _ _
    have q235 : Below wc.heap.size wc V232:=q83.trans (hb234.mono q83.size)
    have ohq27:=hq27.lt
    have hb234s : V81.heap.size < V232.heap.size:=by rw [<- hV233]; simp
    have hag:=hag.skip hb234 hb234s
    have hyo:=hyo.skip hb234 hb234s
    have hq27:=hq27.below hb234 hq27.lt
    have hzl : wc.heap.size <= V81.heap.size:=q83.size
    obtain ⟨ad236,had236⟩ : ∃ a,V81.heap.size = a:=⟨_,rfl⟩
    rw [had236] at hz hzl ohq27 hag hyo ⊢
    refine ⟨q235,?_⟩
    clear hV233
    have hz0:=hz.lt
    refine wpAnyD_on (i:=2) rfl ?_
    go_simp
    refine (gop_any 17 ⟨some ⟨ad85,0,none⟩,1,1⟩ V232).mono ?_
    rintro e V237 ⟨rfl,hb238⟩
    have q239 : Below wc.heap.size wc V237:=q235.trans (hb238.mono q235.size)
    have hag:=hag.move hb238
    have hyo:=hyo.move hb238
    have hq27:=hq27.below hb238 hq27.lt
    have hz:=hz.below hb238 hz.lt
    have hnot:=Sol.one (o:=17) hq27 (by simp; omega) hyo
    refine ⟨q239,?_⟩
    have hz0:=hz.lt
    refine wpAnyD_on (i:=4) rfl ?_
    go_simp
    refine (gval2_any 65 V237 (by omega)).mono ?_
    rintro e V240 ⟨x,rfl,hx65,hm1,hm2,hb241⟩
    have q242 : Below wc.heap.size wc V240:=q239.trans (hb241.mono q239.size)
    have hag:=hag.move hb241
    have hyo:=hyo.move hb241
    have hq27:=hq27.below hb241 hq27.lt
    have hz:=hz.below hb241 hz.lt
    have hnot:=hnot.move hb241
    have hx65 : VlX V240.heap.size V240 (numV [65] [1]) x:=hx65
    have hx65' : SolV (some ad236) V240 (numV [65] [1]) x:=SolV.new hx65 hm1 hm2 (fun r e => by cases e; exact hz0)
    obtain ⟨s65a,s65b,rfl⟩:=vlx_shape hx65
    clear hx65 hm1 hm2
    refine ⟨q242,?_⟩
    have hz0:=hz.lt
    refine wpAnyD_on (i:=5) rfl ?_
    go_simp
    refine (gcon_any 2 false false s65a s65b 0 V240).mono ?_
    rintro e V243 ⟨rfl,hb244⟩
    have q245 : Below wc.heap.size wc V243:=q242.trans (hb244.mono q242.size)
    have hag:=hag.move hb244
    have hyo:=hyo.move hb244
    have hq27:=hq27.below hb244 hq27.lt
    have hz:=hz.below hb244 hz.lt
    have hnot:=hnot.move hb244
    have hx65':=hx65'.move hb244
    have hc65 : Sol (some ad236) V243 (conG 65) (conX 2 false s65a false s65b 0):=Sol.con hx65'
    refine ⟨q245,?_⟩
    have hz0:=hz.lt
    refine wpAnyD_on (i:=6) rfl ?_
    go_simp
    generalize hV249 : World.alloc V243 _ = V246
    have hb247 : Below V243.heap.size V243 V246:=by rw [<- hV249]; exact (Below.refl _ _).alloc (Nat.le_refl _) _
    have hq32 : Blk V246 V243.heap.size (cells2 (⟨5,[97,103,101],0,false,⟨none,0,0⟩,false,⟨none,0,0⟩,0,⟨some ⟨ba,0,none⟩,1,1⟩⟩ : Xv) (conX 2 false s65a false s65b 0)) 31:=by rw [<- hV249]; exact Blk.new V243 _ _
    have q248 : Below wc.heap.size wc V246:=q245.trans (hb247.mono q245.size)
    have hag:=hag.move hb247
    have hyo:=hyo.move hb247
    have hq27:=hq27.below hb247 hq27.lt
    have hz:=hz.below hb247 hz.lt
    have hnot:=hnot.move hb247
    have hx65':=hx65'.move hb247
    have hc65:=hc65.move hb247
    have la32:=q245.size
    have na32 : ad236 < V243.heap.size:=hz0
    obtain ⟨ad250,had250⟩ : ∃ a,V243.heap.size = a:=⟨_,rfl⟩
    rw [had250] at hq32 la32 na32 ⊢
    refine ⟨q248,?_⟩
    clear hV249
    have hz0:=hz.lt
    refine wpAnyD_on (i:=7) rfl ?_
    go_simp
    refine (gop_any 14 ⟨some ⟨ad250,0,none⟩,2,2⟩ V246).mono ?_
    rintro e V251 ⟨rfl,hb252⟩
    have q253 : Below wc.heap.size wc V251:=q248.trans (hb252.mono q248.size)
    have hag:=hag.move hb252
    have hyo:=hyo.move hb252
    have hq27:=hq27.below hb252 hq27.lt
    have hz:=hz.below hb252 hz.lt
    have hnot:=hnot.move hb252
    have hx65':=hx65'.move hb252
    have hc65:=hc65.move hb252
    have hq32:=hq32.below hb252 hq32.lt
    have hsm:=Sol.two (o:=14) hq32 (by simp; omega) hag hc65
    refine ⟨q253,?_⟩
    have hz0:=hz.lt
    refine wpAnyD_on (i:=8) rfl ?_
    go_simp
    generalize hV257 : World.alloc V251 _ = V254
    have hb255 : Below V251.heap.size V251 V254:=by rw [<- hV257]; exact (Below.refl _ _).alloc (Nat.le_refl _) _
    have hq34 : Blk V254 V251.heap.size (cells2 (opX 17 ⟨some ⟨ad85,0,none⟩,1,1⟩) (opX 14 ⟨some ⟨ad250,0,none⟩,2,2⟩)) 31:=by rw [<- hV257]; exact Blk.new V251 _ _
    have q256 : Below wc.heap.size wc V254:=q253.trans (hb255.mono q253.size)
    have hag:=hag.move hb255
    have hyo:=hyo.move hb255
    have hq27:=hq27.below hb255 hq27.lt
    have hz:=hz.below hb255 hz.lt
    have hnot:=hnot.move hb255
    have hx65':=hx65'.move hb255
    have hc65:=hc65.move hb255
    have hq32:=hq32.below hb255 hq32.lt
    have hsm:=hsm.move hb255
    have la34:=q253.size
    have na34 : ad236 < V251.heap.size:=hz0
    obtain ⟨ad258,had258⟩ : ∃ a,V251.heap.size = a:=⟨_,rfl⟩
    rw [had258] at hq34 la34 na34 ⊢
    refine ⟨q256,?_⟩
    clear hV257
    have hz0:=hz.lt
    refine wpAnyD_on (i:=9) rfl ?_
    go_simp
    refine (gop_any 16 ⟨some ⟨ad258,0,none⟩,2,2⟩ V254).mono ?_
    rintro e V259 ⟨rfl,hb260⟩
    have q261 : Below wc.heap.size wc V259:=q256.trans (hb260.mono q256.size)
    have hag:=hag.move hb260
    have hyo:=hyo.move hb260
    have hq27:=hq27.below hb260 hq27.lt
    have hz:=hz.below hb260 hz.lt
    have hnot:=hnot.move hb260
    have hx65':=hx65'.move hb260
    have hc65:=hc65.move hb260
    have hq32:=hq32.below hb260 hq32.lt
    have hsm:=hsm.move hb260
    have hq34:=hq34.below hb260 hq34.lt
    have hol:=Sol.two (o:=16) hq34 (by simp; omega) hnot hsm
    refine ⟨q261,?_⟩
    refine wpAnyD_on (i:=11) rfl ?_
    refine wp_store_blk 31 31 (.tmp 3) (.tmp 35) rfl (opX 16 ⟨some ⟨ad258,0,none⟩,2,2⟩).cells _ ad236 hz infoExN rfl (by simp [Value.oneCell']) rfl rfl ?_
    intro V262 t1 t2 t3 t4
    have hqz : Below wc.heap.size wc V262:=q261.trans (t2 _ hzl)
    refine ⟨fun _ => hqz,?_⟩
    refine wpAnyD_done (by kernel_rfl) ?_ _
    have hE : ExG V262.heap.size V262 oldG (opX 16 ⟨some ⟨ad258,0,none⟩,2,2⟩):=hol _ t3
    go_wp2_with fail
    go_meet
    exact ⟨ad236,_,rfl,t1,hE,hqz⟩
  ·go_simp
   generalize hV264 : World.alloc X0 _ = V263
   have hb265 : Below X0.heap.size X0 V263:=by rw [<- hV264]; exact (Below.refl _ _).alloc (Nat.le_refl _) _
   have hz : Blk V263 X0.heap.size xz.cells 31:=by rw [<- hV264]; exact Blk.new X0 _ _
   have q266 : Below wc.heap.size wc V263:=qS.trans (hb265.mono qS.size)
   have hb265s : X0.heap.size < V263.heap.size:=by rw [<- hV264]; simp
   have hag:=hag.skip hb265 hb265s
   have hyo:=hyo.skip hb265 hb265s
   have hzl : wc.heap.size <= X0.heap.size:=qS.size
   obtain ⟨ad267,had267⟩ : ∃ a,X0.heap.size = a:=⟨_,rfl⟩
   rw [had267] at hz hzl  hag hyo ⊢
   refine ⟨q266,?_⟩
   clear hV264
   have hz0:=hz.lt
   refine wpAnyD_on (i:=1) rfl ?_
   go_simp
   generalize hV271 : World.alloc V263 _ = V268
   have hb269 : Below V263.heap.size V263 V268:=by rw [<- hV271]; exact (Below.refl _ _).alloc (Nat.le_refl _) _
   have hq27 : Blk V268 V263.heap.size (opX 13 ⟨ya,yn,ym⟩).cells 31:=by rw [<- hV271]; exact Blk.new V263 _ _
   have q270 : Below wc.heap.size wc V268:=q266.trans (hb269.mono q266.size)
   have hag:=hag.move hb269
   have hyo:=hyo.move hb269
   have hz:=hz.below hb269 hz.lt
   have la27:=q266.size
   have na27 : ad267 < V263.heap.size:=hz0
   obtain ⟨ad272,had272⟩ : ∃ a,V263.heap.size = a:=⟨_,rfl⟩
   rw [had272] at hq27 la27 na27 ⊢
   refine ⟨q270,?_⟩
   clear hV271
   have hz0:=hz.lt
   refine wpAnyD_on (i:=2) rfl ?_
   go_simp
   refine (gop_any 17 ⟨some ⟨ad272,0,none⟩,1,1⟩ V268).mono ?_
   rintro e V273 ⟨rfl,hb274⟩
   have q275 : Below wc.heap.size wc V273:=q270.trans (hb274.mono q270.size)
   have hag:=hag.move hb274
   have hyo:=hyo.move hb274
   have hz:=hz.below hb274 hz.lt
   have hq27:=hq27.below hb274 hq27.lt
   have hnot:=Sol.one (o:=17) hq27 (by simp; omega) hyo
   refine ⟨q275,?_⟩
   have hz0:=hz.lt
   refine wpAnyD_on (i:=4) rfl ?_
   go_simp
   refine (gval2_any 65 V273 (by omega)).mono ?_
   rintro e V276 ⟨x,rfl,hx65,hm1,hm2,hb277⟩
   have q278 : Below wc.heap.size wc V276:=q275.trans (hb277.mono q275.size)
   have hag:=hag.move hb277
   have hyo:=hyo.move hb277
   have hz:=hz.below hb277 hz.lt
   have hq27:=hq27.below hb277 hq27.lt
   have hnot:=hnot.move hb277
   have hx65 : VlX V276.heap.size V276 (numV [65] [1]) x:=hx65
   have hx65' : SolV (some ad267) V276 (numV [65] [1]) x:=SolV.new hx65 hm1 hm2 (fun r e => by cases e; exact hz0)
   obtain ⟨s65a,s65b,rfl⟩:=vlx_shape hx65
   clear hx65 hm1 hm2
   refine ⟨q278,?_⟩
   have hz0:=hz.lt
   refine wpAnyD_on (i:=5) rfl ?_
   go_simp
   refine (gcon_any 2 false false s65a s65b 0 V276).mono ?_
   rintro e V279 ⟨rfl,hb280⟩
   have q281 : Below wc.heap.size wc V279:=q278.trans (hb280.mono q278.size)
   have hag:=hag.move hb280
   have hyo:=hyo.move hb280
   have hz:=hz.below hb280 hz.lt
   have hq27:=hq27.below hb280 hq27.lt
   have hnot:=hnot.move hb280
   have hx65':=hx65'.move hb280
   have hc65 : Sol (some ad267) V279 (conG 65) (conX 2 false s65a false s65b 0):=Sol.con hx65'
   refine ⟨q281,?_⟩
   have hz0:=hz.lt
   refine wpAnyD_on (i:=6) rfl ?_
   go_simp
   generalize hV285 : World.alloc V279 _ = V282
   have hb283 : Below V279.heap.size V279 V282:=by rw [<- hV285]; exact (Below.refl _ _).alloc (Nat.le_refl _) _
   have hq32 : Blk V282 V279.heap.size (cells2 (⟨5,[97,103,101],0,false,⟨none,0,0⟩,false,⟨none,0,0⟩,0,⟨some ⟨ba,0,none⟩,1,1⟩⟩ : Xv) (conX 2 false s65a false s65b 0)) 31:=by rw [<- hV285]; exact Blk.new V279 _ _
   have q284 : Below wc.heap.size wc V282:=q281.trans (hb283.mono q281.size)
   have hag:=hag.move hb283
   have hyo:=hyo.move hb283
   have hz:=hz.below hb283 hz.lt
   have hq27:=hq27.below hb283 hq27.lt
   have hnot:=hnot.move hb283
   have hx65':=hx65'.move hb283
   have hc65:=hc65.move hb283
   have la32:=q281.size
   have na32 : ad267 < V279.heap.size:=hz0
   obtain ⟨ad286,had286⟩ : ∃ a,V279.heap.size = a:=⟨_,rfl⟩
   rw [had286] at hq32 la32 na32 ⊢
   refine ⟨q284,?_⟩
   clear hV285
   have hz0:=hz.lt
   refine wpAnyD_on (i:=7) rfl ?_
   go_simp
   refine (gop_any 14 ⟨some ⟨ad286,0,none⟩,2,2⟩ V282).mono ?_
   rintro e V287 ⟨rfl,hb288⟩
   have q289 : Below wc.heap.size wc V287:=q284.trans (hb288.mono q284.size)
   have hag:=hag.move hb288
   have hyo:=hyo.move hb288
   have hz:=hz.below hb288 hz.lt
   have hq27:=hq27.below hb288 hq27.lt
   have hnot:=hnot.move hb288
   have hx65':=hx65'.move hb288
   have hc65:=hc65.move hb288
   have hq32:=hq32.below hb288 hq32.lt
   have hsm:=Sol.two (o:=14) hq32 (by simp; omega) hag hc65
   refine ⟨q289,?_⟩
   have hz0:=hz.lt
   refine wpAnyD_on (i:=8) rfl ?_
   go_simp
   generalize hV293 : World.alloc V287 _ = V290
   have hb291 : Below V287.heap.size V287 V290:=by rw [<- hV293]; exact (Below.refl _ _).alloc (Nat.le_refl _) _
   have hq34 : Blk V290 V287.heap.size (cells2 (opX 17 ⟨some ⟨ad272,0,none⟩,1,1⟩) (opX 14 ⟨some ⟨ad286,0,none⟩,2,2⟩)) 31:=by rw [<- hV293]; exact Blk.new V287 _ _
   have q292 : Below wc.heap.size wc V290:=q289.trans (hb291.mono q289.size)
   have hag:=hag.move hb291
   have hyo:=hyo.move hb291
   have hz:=hz.below hb291 hz.lt
   have hq27:=hq27.below hb291 hq27.lt
   have hnot:=hnot.move hb291
   have hx65':=hx65'.move hb291
   have hc65:=hc65.move hb291
   have hq32:=hq32.below hb291 hq32.lt
   have hsm:=hsm.move hb291
   have la34:=q289.size
   have na34 : ad267 < V287.heap.size:=hz0
   obtain ⟨ad294,had294⟩ : ∃ a,V287.heap.size = a:=⟨_,rfl⟩
   rw [had294] at hq34 la34 na34 ⊢
   refine ⟨q292,?_⟩
   clear hV293
   have hz0:=hz.lt
   refine wpAnyD_on (i:=9) rfl ?_
   go_simp
   refine (gop_any 16 ⟨some ⟨ad294,0,none⟩,2,2⟩ V290).mono ?_
   rintro e V295 ⟨rfl,hb296⟩
   have q297 : Below wc.heap.size wc V295:=q292.trans (hb296.mono q292.size)
   have hag:=hag.move hb296
   have hyo:=hyo.move hb296
   have hz:=hz.below hb296 hz.lt
   have hq27:=hq27.below hb296 hq27.lt
   have hnot:=hnot.move hb296
   have hx65':=hx65'.move hb296
   have hc65:=hc65.move hb296
   have hq32:=hq32.below hb296 hq32.lt
   have hsm:=hsm.move hb296
   have hq34:=hq34.below hb296 hq34.lt
   have hol:=Sol.two (o:=16) hq34 (by simp; omega) hnot hsm
   refine ⟨q297,?_⟩
   refine wpAnyD_on (i:=11) rfl ?_
   refine wp_store_blk 31 31 (.tmp 3) (.tmp 35) rfl (opX 16 ⟨some ⟨ad294,0,none⟩,2,2⟩).cells _ ad267 hz infoExN rfl (by simp [Value.oneCell']) rfl rfl ?_
   intro V298 t1 t2 t3 t4
   have hqz : Below wc.heap.size wc V298:=q297.trans (t2 _ hzl)
   refine ⟨fun _ => hqz,?_⟩
   refine wpAnyD_done (by kernel_rfl) ?_ _
   have hE : ExG V298.heap.size V298 oldG (opX 16 ⟨some ⟨ad294,0,none⟩,2,2⟩):=hol _ t3
   go_wp2_with fail
   go_meet
   exact ⟨ad267,_,rfl,t1,hE,hqz⟩
 case rest =>
 obtain ⟨tc,⟨oa,on,om⟩,rfl,qo,ho,hbc⟩:=hcut
 have qy:=qy.below hbc qy.lt
 have hy:=hy.below hbc (Nat.le_refl _) hbc.size
 have b3 : Below w.heap.size w wc:=b2.trans (hbc.mono b2.size)
 clear hbc b2 qa hba2
 obtain ⟨d0,d1,d2,d3,d4,d5,d6,d7,d8⟩:=qy.nine
 obtain ⟨e0,e1,e2,e3,e4,e5,e6,e7,e8⟩:=qo.nine
 go_wp2_with fail
 generalize hW4 : World.alloc wc _ = W4
 have b4' : Below wc.heap.size wc W4:=by rw [<- hW4]; exact (Below.refl _ _).alloc (Nat.le_refl _) _
 have q4 : Blk W4 wc.heap.size (cells2 (opX 13 ⟨ya,yn,ym⟩) (opX 16 ⟨oa,on,om⟩)) 31:=by rw [<- hW4]; exact Blk.new wc _ _
 have b4 : Below w.heap.size w W4:=b3.trans (b4'.mono b3.size)
 have hy4:=hy.below b4' (Nat.le_refl _) b4'.size
 have ho4:=ho.below b4' (Nat.le_refl _) b4'.size
 have qo4:=qo.below b4' qo.lt
 have hsc:=scales_any W4.heap.size (.slice (some ⟨wc.heap.size,0,none⟩) 2 2) [youngG,oldG] (g2x (opX 13 ⟨ya,yn,ym⟩) (opX 16 ⟨oa,on,om⟩)) W4 (rows_ex2 q4 q4.lt) (fun i a ha => by
  rcases i with _ | _ | i
  ·cases ha; exact hy4
  ·cases ha; exact ho4
  ·cases ha) (fun a ha => by
  simp only [List.mem_cons,List.not_mem_nil,or_false] at ha
  rcases ha with rfl | rfl
  ·exact aw_good.1
  ·exact aw_good.2) (Nat.le_refl _)
 rw [aw_scales] at hsc
 clear hW4 d0 d1 d2 d3 d4 d5 d6 d7 d8 e0 e1 e2 e3 e4 e5 e6 e7 e8 qy hy hy4 ho qo q4
 refine hsc.mono ?_
 rintro e w5 ⟨lv,rfl,hl,hb5⟩
 clear hsc
 have b5 : Below w.heap.size w w5:=b4.trans (hb5.mono b4.size)
 have ho5:=ho4.below hb5 (Nat.le_refl _) hb5.size
 have qo5:=qo4.below hb5 qo4.lt
 clear ho4 qo4 b4' b4 b3
 have HL:=Lib.hid hl
 obtain ⟨g,hrow,hgs⟩:=id hl
 obtain ⟨sb,so,sc,hse,_,_,hsb,hscl⟩:=hrow.pos (by simp)
 have hy5 : ScX w5.heap.size w5 scA (g 0):=hgs 0 (by simp)
 obtain ⟨c0,c1,c2,c3,c4,c5,c6,c7,c8,c9,c10⟩:=sc_cells hscl (k:=0) (by simp)
 rw [Nat.zero_mul,Nat.add_zero] at c0 c1 c2 c3 c4 c5 c6 c7 c8 c9 c10
 obtain ⟨y5,hyg⟩ : ∃ y,g 0 = y:=⟨_,rfl⟩
 rw [hyg] at hy5 c0 c1 c2 c3 c4 c5 c6 c7 c8 c9 c10
 have hlv : lv = .slice (some ⟨sb,so,none⟩) 1 sc:=hse
 have hcu : ∃ a m,y5.c = ⟨a,2,m⟩:=by
  obtain ⟨a,m,h9,_⟩:=hy5.cuts.form
  obtain ⟨⟨x1,x2,x3,x4,x5,x6,x7,x8,x9⟩,k,⟨ca,cn,cm⟩⟩:=y5
  simp only [Sl.val,Value.slice.injEq] at h9
  obtain ⟨rfl,rfl,rfl⟩:=h9
  exact ⟨_,_,rfl⟩
 have hce:=gcells_any w5.heap.size scA y5 w5 hy5 (Nat.le_refl _) aw_goodA (by simp [scA])
 rw [aw_cellsA] at hce
 have hlm : sc <= 2 ^ 63 - 1:=by obtain ⟨_,_,h9,_,h10⟩:=hl.form; rw [hlv] at h9; simp only [Value.slice.injEq] at h9; rw [h9.2.2]; exact h10
 obtain ⟨⟨⟨yop,ynm,yk,yb3,⟨y4,y4n,y4m⟩,yb5,⟨y6,y6n,y6m⟩,yi7,⟨y8,y8n,y8m⟩⟩,sk,cs⟩,hyy⟩ : ∃ y,y = y5:=⟨_,rfl⟩
 rw [<- hyy] at hce c0 c1 c2 c3 c4 c5 c6 c7 c8 c9 c10 hcu
 obtain ⟨cua,cum,hcu⟩:=hcu
 dsimp only at hcu
 subst hcu
 have HLV:=Lib.hid hlv
 have HCE:=Lib.hid hce
 subst hlv
 clear hl hrow hgs hse hscl hy5 hyg hce hyy
 go_wp2_with fail
 refine HCE.out.mono ?_
 rintro e w6 ⟨v6,rfl,hv6,hb6⟩
 have hn6:=hv6.nats
 clear c0 c1 c2 c3 c4 c5 c6 c7 c8 c9 c10
 obtain ⟨v6a,v6c,rfl,_,_⟩:=hv6.nats.form
 go_wp2_with fail
 generalize hW7 : World.alloc w6 _ = W7
 have b7' : Below w6.heap.size w6 W7:=by rw [<- hW7]; exact (Below.refl _ _).alloc (Nat.le_refl _) _
 have q7 : Blk W7 w6.heap.size #[.int .i64 0,.int .i64 1,.int .i64 2,.int .i64 3,.int .i64 4] 3:=by rw [<- hW7]; exact Blk.new w6 _ _
 have b57 : Below w5.heap.size w5 W7:=hb6.trans (b7'.mono hb6.size)
 have hin:=gints_any W7.heap.size _ _ [0,1,2,3,4] [0,1,2,3,4] W7 (hn6.below b7' (Nat.le_refl _) b7'.size) (nats_lit (l:=[0,1,2,3,4]) q7 q7.lt rfl (by simp [maxLen]))
 clear hW7 hv6 hn6 hb6 b7'
 refine hin.mono ?_
 rintro e w8 ⟨rfl,k8,rfl⟩
 clear hin
 have b58 : Below w5.heap.size w5 (W7.drewN k8):=below_drewN2 b57 _
 obtain ⟨W8,hW8⟩ : ∃ W,W7.drewN k8 = W:=⟨_,rfl⟩
 rw [hW8] at b58 ⊢
 clear hW8 b57 q7
 go_wp2_with fail
 go_loopw [67] (fun i wr => ∃ c : Nat,c <= 5 /\ i = .int .i64 c /\ Below w5.heap.size w5 wr) (fun i _ => 5 - (intOf i).toNat)
 case atStart => exact ⟨0,by omega,rfl,b58⟩
 case round =>
  obtain ⟨c,hc,rfl,hbr⟩:=hrel
  by_cases hlt : c < 5
  ·have qor:=qo5.below hbr qo5.lt
   obtain ⟨d0,d1,d2,d3,d4,d5,d6,d7,d8⟩:=qor.nine
   obtain ⟨V,hV⟩ : ∃ V,wr.alloc (.cells #[.int .i64 (c : Int)] 3) = V:=⟨_,rfl⟩
   have hbV' : Below wr.heap.size wr V:=by rw [<- hV]; exact (Below.refl _ _).alloc (Nat.le_refl _) _
   have qV : Blk V wr.heap.size #[.int .i64 (c : Int)] 3:=by rw [<- hV]; exact Blk.new wr _ _
   have hbV : Below w5.heap.size w5 V:=hbr.trans (hbV'.mono hbr.size)
   have hcv : IntsX V.heap.size V (.slice (some ⟨wr.heap.size,0,none⟩) 1 1) [(c : Int)]:=RowsV.mk_cells (Nat.le_refl _) (by simp [maxLen]) qV.lt fun i hi j hj => by
    obtain rfl : i = 0:=by have : i < 1:=hi; omega
    obtain rfl : j = 0:=by omega
    exact qV.at rfl
   have hho:=gholds_any V.heap.size oldG (opX 16 ⟨oa,on,om⟩) [scA] _ [(c : Int)] _ V (ho5.below hbV (Nat.le_refl _) hbV.size) aw_good.2 (HL.out.below hbV (Nat.le_refl _) hbV.size) hcv (Nat.le_refl _) (fun s hs => by rw [List.mem_singleton.1 hs]; exact aw_goodA) (fun s hs => by rw [List.mem_singleton.1 hs]; simp [scA])
   rw [aw_holds c hlt] at hho
   have HHO:=Lib.hid hho
   have HV:=Lib.hid hV
   clear hho hcv qV hV
   go_wp2_with fail
   rw [HV.out]
   refine HHO.out.mono ?_
   rintro e V2 ⟨rfl,hbW⟩
   have hbn : Below w5.heap.size w5 V2:=hbV.trans (hbW.mono hbV.size)
   clear d0 d1 d2 d3 d4 d5 d6 d7 d8 hbV' hbV hbW hbr qor
   by_cases h1 : 1 <= c
   ·have hd1 : decide (1 <= c) = true:=by simpa using h1
    have hd2 : decide ((1 : Int) <= (c : Int)) = true:=by simp; omega
    rw [hd1]
    clear hd1
    go_wp2_with fail
    exact ⟨⟨c + 1,by omega,by go_num,hbn⟩,by simp [intOf]; omega⟩
   ·have hd1 : decide (1 <= c) = false:=by simpa using h1
    have hd2 : decide ((1 : Int) <= (c : Int)) = false:=by simp; omega
    rw [hd1]
    clear hd1
    go_wp2_with fail
    exact ⟨⟨c + 1,by omega,by go_num,hbn⟩,by simp [intOf]; omega⟩
  ·obtain rfl : c = 5:=by omega
   have br : Below w.heap.size w wr:=b5.trans (hbr.mono b5.size)
   clear hbr b5 b58 HL ho5 qo5 HCE HLV hb5 hsb hlm hc hlt
   go_wp2_with fail
   refine (gval4_any 100 wr).mono ?_
   rintro e w9 ⟨rfl,hb9⟩
   go_wp2_with fail
   refine (gval4_any 101 w9).mono ?_
   rintro e w10 ⟨rfl,hb10⟩
   have b10 : Below w.heap.size w w10:=br.trans ((hb9.trans (hb10.mono hb9.size)).mono br.size)
   clear hb9 hb10 br
   go_upto_region 15 with fail
   generalize hWD : (w10.alloc _).alloc _ = WD
   have bD : Below w10.heap.size w10 WD:=by rw [<- hWD]; exact ((Below.refl _ _).alloc (Nat.le_refl _) _).alloc (by simp) _
   have qcut : Blk WD w10.heap.size (cellsV2 (wholeX 4 100) (wholeX 4 101)) 28:=by rw [<- hWD]; exact (Blk.new w10 _ _).alloc _
   have qD : Blk WD (w10.heap.size + 1) (⟨xz,4,⟨some ⟨w10.heap.size,0,none⟩,2,2⟩⟩ : Sv).cells 34:=by
    rw [<- hWD]
    have := Blk.new (w10.alloc (.cells (cellsV2 (wholeX 4 100) (wholeX 4 101)) 28)) (⟨xz,4,⟨some ⟨w10.heap.size,0,none⟩,2,2⟩⟩ : Sv).cells 34
    rw [World.size_alloc] at this
    exact this
   have bWD : Below w.heap.size w WD:=b10.trans (bD.mono b10.size)
   obtain ⟨td,htd⟩ : ∃ t,w10.heap.size = t:=⟨_,rfl⟩
   rw [htd] at qcut qD ⊢
   have hD : ScX WD.heap.size WD scD ⟨xz,4,⟨some ⟨td,0,none⟩,2,2⟩⟩:=⟨exg_no _ _,rfl,cuts_two qcut qcut.lt (wholeX_is _ _ _ _) (wholeX_is _ _ _ _)⟩
   clear hWD bD htd qcut b10
   go_wp2_with fail
   generalize hWL : World.alloc WD _ = WL
   have bL' : Below WD.heap.size WD WL:=by rw [<- hWL]; exact (Below.refl _ _).alloc (Nat.le_refl _) _
   have qL : Blk WL WD.heap.size #[.int .i64 0,.int .i64 1,.int .i64 3,.int .i64 4] 3:=by rw [<- hWL]; exact Blk.new WD _ _
   obtain ⟨tl,htl⟩ : ∃ t,WD.heap.size = t:=⟨_,rfl⟩
   rw [htl] at qL ⊢
   have qDL:=qD.below bL' qD.lt
   have hDL:=hD.below bL' (Nat.le_refl _) bL'.size
   have bWL : Below w.heap.size w WL:=bWD.trans (bL'.mono bWD.size)
   clear hWL htl bL' qD hD bWD
   go_loopw [93] (fun i wr => ∃ j : Nat,j <= 4 /\ i = .int .i64 j /\ Below WL.heap.size WL wr) (fun i _ => 4 - (intOf i).toNat)
   case atStart => exact ⟨0,by omega,rfl,Below.refl _ _⟩
   case round =>
    obtain ⟨j,hj,rfl,hbr⟩:=hrel
    by_cases hlt : j < 4
    ·have qr:=qDL.below hbr qDL.lt
     have qlr:=qL.below hbr qL.lt
     have hDr:=hDL.below hbr (Nat.le_refl _) hbr.size
     obtain ⟨d0,d1,d2,d3,d4,d5,d6,d7,d8,d9,d10⟩:=qr.eleven
     obtain ⟨l0,l1,l2,l3⟩:=qlr.four
     have hlr:=qlr.lt
     clear qr qlr qL qDL hDL
     obtain ⟨p0,p1,p2,p3⟩:=aw_possD
     obtain ⟨m0,m1,m2,m3⟩:=aw_smpD
     have hsm : ∀ c : Nat,scD.poss c = true -> Calls Tryz.prog 9 #[(⟨xz,4,⟨some ⟨td,0,none⟩,2,2⟩⟩ : Sv).agg,.int .i64 c] wr fun e w' => ∃ z : Vv,e = .returned (.tuple #[z.agg,.bool true]) /\ VlX w'.heap.size w' (smpW scD c) z /\ Below wr.heap.size wr w':=fun c hp => gsampleW_any wr.heap.size scD _ c wr hDr (Nat.le_refl _) aw_goodD aw_okD (by rfl) hp
     have h0:=hsm 0 p0
     have h1:=hsm 1 p1
     have h3:=hsm 3 p2
     have h4:=hsm 4 p3
     rw [m0] at h0
     rw [m1] at h1
     rw [m2] at h3
     rw [m3] at h4
     have H0:=Lib.hid h0
     have H1:=Lib.hid h1
     have H3:=Lib.hid h3
     have H4:=Lib.hid h4
     clear hsm h0 h1 h3 h4 p0 p1 p2 p3 m0 m1 m2 m3 hDr
     rcases j with _ | _ | _ | _ | j
     ·go_wp2_with fail
      refine H0.out.mono ?_
      rintro e w2 ⟨z,rfl,hz,hb2⟩
      obtain ⟨⟨z1a,z1n,z1m⟩,⟨z2a,z2n,z2m⟩,rfl⟩:=vlx_shapeW hz
      have hbn : Below WL.heap.size WL w2:=hbr.trans (hb2.mono hbr.size)
      clear hz d0 d1 d2 d3 d4 d5 d6 d7 d8 d9 d10 l0 l1 l2 l3
      have hbn2 : ∀ o,Below WL.heap.size WL (w2.alloc o):=fun o => hbn.alloc hbn.size o
      go_wp2_with fail
      exact ⟨⟨1,by omega,by go_num,hbn2 _⟩,by simp [intOf]⟩
     ·go_wp2_with fail
      refine H1.out.mono ?_
      rintro e w2 ⟨z,rfl,hz,hb2⟩
      obtain ⟨⟨z1a,z1n,z1m⟩,⟨z2a,z2n,z2m⟩,rfl⟩:=vlx_shapeW hz
      have hbn : Below WL.heap.size WL w2:=hbr.trans (hb2.mono hbr.size)
      clear hz d0 d1 d2 d3 d4 d5 d6 d7 d8 d9 d10 l0 l1 l2 l3
      have hbn2 : ∀ o,Below WL.heap.size WL (w2.alloc o):=fun o => hbn.alloc hbn.size o
      go_wp2_with fail
      exact ⟨⟨2,by omega,by go_num,hbn2 _⟩,by simp [intOf]⟩
     ·go_wp2_with fail
      refine H3.out.mono ?_
      rintro e w2 ⟨z,rfl,hz,hb2⟩
      obtain ⟨⟨z1a,z1n,z1m⟩,⟨z2a,z2n,z2m⟩,rfl⟩:=vlx_shapeW hz
      have hbn : Below WL.heap.size WL w2:=hbr.trans (hb2.mono hbr.size)
      clear hz d0 d1 d2 d3 d4 d5 d6 d7 d8 d9 d10 l0 l1 l2 l3
      have hbn2 : ∀ o,Below WL.heap.size WL (w2.alloc o):=fun o => hbn.alloc hbn.size o
      go_wp2_with fail
      exact ⟨⟨3,by omega,by go_num,hbn2 _⟩,by simp [intOf]⟩
     ·go_wp2_with fail
      refine H4.out.mono ?_
      rintro e w2 ⟨z,rfl,hz,hb2⟩
      obtain ⟨⟨z1a,z1n,z1m⟩,⟨z2a,z2n,z2m⟩,rfl⟩:=vlx_shapeW hz
      have hbn : Below WL.heap.size WL w2:=hbr.trans (hb2.mono hbr.size)
      clear hz d0 d1 d2 d3 d4 d5 d6 d7 d8 d9 d10 l0 l1 l2 l3
      have hbn2 : ∀ o,Below WL.heap.size WL (w2.alloc o):=fun o => hbn.alloc hbn.size o
      go_wp2_with fail
      exact ⟨⟨4,by omega,by go_num,hbn2 _⟩,by simp [intOf]⟩
     ·omega
    ·obtain rfl : j = 4:=by omega
     have qDr:=qDL.below hbr qDL.lt
     have hDr:=hDL.below hbr (Nat.le_refl _) hbr.size
     have br : Below w.heap.size w wr:=bWL.trans (hbr.mono bWL.size)
     clear qDL hDL qL hbr bWL hj hlt
     go_wp2_with fail
     refine (gval2_any 0 wr (by omega)).mono ?_
     rintro e w2 ⟨x0,rfl,hx0,_,_,hb2⟩
     have hx0 : VlX w2.heap.size w2 (numV [] [1]) x0:=hx0
     obtain ⟨⟨x0a,x0n,x0m⟩,⟨x0b,x0k,x0l⟩,rfl⟩:=vlx_shape hx0
     have HX0:=Lib.hid hx0
     clear hx0
     go_wp2_with fail
     refine (gval2_any 1 w2 (by omega)).mono ?_
     rintro e w3 ⟨x1,rfl,hx1,_,_,hb3⟩
     have hx1 : VlX w3.heap.size w3 (numV [1] [1]) x1:=hx1
     obtain ⟨⟨x1a,x1n,x1m⟩,⟨x1b,x1k,x1l⟩,rfl⟩:=vlx_shape hx1
     have HX1:=Lib.hid hx1
     have HX03:=Lib.hid (HX0.out.below hb3 (Nat.le_refl _) hb3.size)
     have b13 : Below wr.heap.size wr w3:=hb2.trans (hb3.mono hb2.size)
     clear hx1 HX0 hb2 hb3
     go_upto_region 23 with fail
     generalize hWN : (w3.alloc _).alloc _ = WN
     have bN : Below w3.heap.size w3 WN:=by rw [<- hWN]; exact ((Below.refl _ _).alloc (Nat.le_refl _) _).alloc (by simp) _
     have qcut : Blk WN w3.heap.size (cellsV2 ⟨2,false,.slice x0a x0n x0m,false,.slice x0b x0k x0l,0⟩ ⟨2,false,.slice x1a x1n x1m,false,.slice x1b x1k x1l,0⟩) 28:=by rw [<- hWN]; exact (Blk.new w3 _ _).alloc _
     have qN : Blk WN (w3.heap.size + 1) (⟨xz,2,⟨some ⟨w3.heap.size,0,none⟩,2,2⟩⟩ : Sv).cells 34:=by
      rw [<- hWN]
      have := Blk.new (w3.alloc (.cells (cellsV2 ⟨2,false,.slice x0a x0n x0m,false,.slice x0b x0k x0l,0⟩ ⟨2,false,.slice x1a x1n x1m,false,.slice x1b x1k x1l,0⟩) 28)) (⟨xz,2,⟨some ⟨w3.heap.size,0,none⟩,2,2⟩⟩ : Sv).cells 34
      rw [World.size_alloc] at this
      exact this
     have h0N:=HX03.out.below bN (Nat.le_refl _) bN.size
     have h1N:=HX1.out.below bN (Nat.le_refl _) bN.size
     have b1N : Below wr.heap.size wr WN:=b13.trans (bN.mono b13.size)
     obtain ⟨tn,htn⟩ : ∃ t,w3.heap.size = t:=⟨_,rfl⟩
     rw [htn] at qcut qN ⊢
     have hN : ScX WN.heap.size WN scN ⟨xz,2,⟨some ⟨tn,0,none⟩,2,2⟩⟩:=⟨exg_no _ _,rfl,cuts_two qcut qcut.lt h0N h1N⟩
     clear hWN bN htn qcut h0N h1N HX03 HX1 b13
     go_wp2_with fail
     refine (kfrac12_any WN).mono ?_
     rintro e w4 ⟨u,v,rfl,⟨ua,uc,rfl⟩,⟨va,vc,rfl⟩,hu,hv,hb4,_,_⟩
     have b14 : Below wr.heap.size wr w4:=b1N.trans (hb4.mono b1N.size)
     have hN4:=hN.below hb4 (Nat.le_refl _) hb4.size
     have qN4:=qN.below hb4 qN.lt
     clear hN qN hb4 b1N
     go_upto_region 24 with fail
     generalize hW5 : World.alloc w4 _ = W5
     have b5' : Below w4.heap.size w4 W5:=by rw [<- hW5]; exact (Below.refl _ _).alloc (Nat.le_refl _) _
     have qF : Blk W5 w4.heap.size #[.bool false,.slice ua 1 uc,.bool false,.slice va 1 vc] 26:=by rw [<- hW5]; exact Blk.new w4 _ _
     have b15 : Below wr.heap.size wr W5:=b14.trans (b5'.mono b14.size)
     have hN5:=hN4.below b5' (Nat.le_refl _) b5'.size
     have qN5:=qN4.below b5' qN4.lt
     have hu5:=hu.below b5' (Nat.le_refl _) b5'.size
     have hv5:=hv.below b5' (Nat.le_refl _) b5'.size
     obtain ⟨tf,htf⟩ : ∃ t,w4.heap.size = t:=⟨_,rfl⟩
     rw [htf] at qF ⊢
     clear hW5 htf b5' hN4 qN4 hu hv b14
     obtain ⟨d0,d1,d2,d3,d4,d5,d6,d7,d8,d9,d10⟩:=qN5.eleven
     have hsm:=gsample01_any W5.heap.size scN _ W5 hN5 (Nat.le_refl _) rfl rfl
     have HSM:=Lib.hid hsm
     clear hsm
     go_wp2_with fail
     refine HSM.out.mono ?_
     rintro e w6 ⟨z,rfl,hz,hb6⟩
     have hz : VlX w6.heap.size w6 (numV [1] [2]) z:=hz
     obtain ⟨⟨za,zn,zm⟩,⟨zb,zk,zl⟩,rfl⟩:=vlx_shape hz
     clear d0 d1 d2 d3 d4 d5 d6 d7 d8 d9 d10
     have b16 : Below wr.heap.size wr w6:=b15.trans (hb6.mono b15.size)
     have hN6:=hN5.below hb6 (Nat.le_refl _) hb6.size
     have qN6:=qN5.below hb6 qN5.lt
     have hu6:=hu5.below hb6 (Nat.le_refl _) hb6.size
     have hv6:=hv5.below hb6 (Nat.le_refl _) hb6.size
     have qF6:=qF.below hb6 qF.lt
     clear hN5 qN5 hu5 hv5 qF b15 hb6
     go_upto_region 25 with fail
     generalize hW7 : World.alloc w6 _ = W7
     have b7' : Below w6.heap.size w6 W7:=by rw [<- hW7]; exact (Below.refl _ _).alloc (Nat.le_refl _) _
     have qZ : Blk W7 w6.heap.size (⟨2,false,.slice za zn zm,false,.slice zb zk zl,0⟩ : Vv).cells 28:=by rw [<- hW7]; exact Blk.new w6 _ _
     have b17 : Below wr.heap.size wr W7:=b16.trans (b7'.mono b16.size)
     have hN7:=hN6.below b7' (Nat.le_refl _) b7'.size
     have qN7:=qN6.below b7' qN6.lt
     have hu7:=hu6.below b7' (Nat.le_refl _) b7'.size
     have hv7:=hv6.below b7' (Nat.le_refl _) b7'.size
     have qF7:=qF6.below b7' qF6.lt
     have hz7:=hz.below b7' (Nat.le_refl _) b7'.size
     obtain ⟨tz,htz⟩ : ∃ t,w6.heap.size = t:=⟨_,rfl⟩
     rw [htz] at qZ ⊢
     clear hW7 htz b7' hN6 qN6 hu6 hv6 qF6 hz b16
     obtain ⟨d0,d1,d2,d3,d4,d5,d6,d7,d8,d9,d10⟩:=qN7.eleven
     obtain ⟨f0,f1,f2,f3⟩:=qF7.four
     have hhv : VlX W7.heap.size W7 (numV [1] [2]) ⟨2,false,.slice ua 1 uc,false,.slice va 1 vc,0⟩:=⟨rfl,rfl,rfl,rfl,hu7,hv7⟩
     have hce:=gcell_any W7.heap.size scN _ (numV [1] [2]) ⟨2,false,.slice ua 1 uc,false,.slice va 1 vc,0⟩ W7 hN7 hhv (Nat.le_refl _) aw_goodN aw_goodH (by simp [scN])
     rw [aw_cellN] at hce
     have HCE:=Lib.hid hce
     have hnz:=hz7.n
     have hdz:=hz7.d
     have hzn : zn = 1:=by obtain ⟨_,_,h9,_⟩:=hz7.n.form; simp only [Sl.val,Value.slice.injEq] at h9; exact h9.2.1
     have hzk : zk = 1:=by obtain ⟨_,_,h9,_⟩:=hz7.d.form; simp only [Sl.val,Value.slice.injEq] at h9; exact h9.2.1
     subst hzn hzk
     clear hce hN7 qN7 hz7 hhv
     go_wp2_with fail
     refine HCE.out.mono ?_
     rintro e w8 ⟨rfl,hb8⟩
     clear d0 d1 d2 d3 d4 d5 d6 d7 d8 d9 d10 f0 f1 f2 f3
     have b18 : Below wr.heap.size wr w8:=b17.trans (hb8.mono b17.size)
     obtain ⟨f0,f1,f2,f3⟩:=(qF7.below hb8 qF7.lt).four
     obtain ⟨g0,g1,g2,g3,g4,g5⟩:=(qZ.below hb8 qZ.lt).six
     have qD8:=qDr.below b18 qDr.lt
     have hD8:=hDr.below b18 (Nat.le_refl _) b18.size
     obtain ⟨d0,d1,d2,d3,d4,d5,d6,d7,d8,d9,d10⟩:=qD8.eleven
     have hsf:=ksamefrac_any w8.heap.size 1 2 _ _ _ _ w8 (hnz.below hb8 (Nat.le_refl _) hb8.size) (hdz.below hb8 (Nat.le_refl _) hb8.size) (hu7.below hb8 (Nat.le_refl _) hb8.size) (hv7.below hb8 (Nat.le_refl _) hb8.size) (Nat.le_refl _)
     have HSF:=Lib.hid hsf
     have tzl : tz < w8.heap.size:=Nat.lt_of_lt_of_le qZ.lt hb8.size
     clear hsf hnz hdz hu7 hv7 qF7 qZ HCE
     go_wp2_with fail
     refine HSF.out.mono ?_
     rintro e w9 ⟨rfl,hb9⟩
     clear f0 f1 f2 f3 g0 g1 g2 g3 g4 g5 d0 d1 d2 d3 d4 d5 d6 d7 d8 d9 d10
     have b19 : Below wr.heap.size wr w9:=b18.trans (hb9.mono b18.size)
     have qD9:=qDr.below b19 qDr.lt
     have hD9:=hDr.below b19 (Nat.le_refl _) b19.size
     obtain ⟨d0,d1,d2,d3,d4,d5,d6,d7,d8,d9,d10⟩:=qD9.eleven
     have hcs:=gcells_any w9.heap.size scD _ w9 hD9 (Nat.le_refl _) aw_goodD (by simp [scD])
     rw [aw_cellsD] at hcs
     have HCS:=Lib.hid hcs
     clear hcs hD8 qD8 HSF hD9 qD9
     go_wp2_with fail
     refine HCS.out.mono ?_
     rintro e w10 ⟨v10,rfl,hv10,hb10⟩
     have hn10:=hv10.nats
     clear d0 d1 d2 d3 d4 d5 d6 d7 d8 d9 d10
     obtain ⟨v10a,v10c,rfl,_,_⟩:=hv10.nats.form
     go_wp2_with fail
     generalize hW11 : World.alloc w10 _ = W11
     have b11' : Below w10.heap.size w10 W11:=by rw [<- hW11]; exact (Below.refl _ _).alloc (Nat.le_refl _) _
     have q11 : Blk W11 w10.heap.size #[.int .i64 0,.int .i64 1,.int .i64 3,.int .i64 4] 3:=by rw [<- hW11]; exact Blk.new w10 _ _
     have b111 : Below wr.heap.size wr W11:=(b19.trans (hb10.mono b19.size)).trans (b11'.mono (b19.trans (hb10.mono b19.size)).size)
     have hin:=gints_any W11.heap.size _ _ [0,1,3,4] [0,1,3,4] W11 (hn10.below b11' (Nat.le_refl _) b11'.size) (nats_lit (l:=[0,1,3,4]) q11 q11.lt rfl (by simp [maxLen]))
     clear hW11
     refine hin.mono ?_
     rintro e w12 ⟨rfl,k12,rfl⟩
     go_wp2_with fail
     go_ret
     exact ⟨rfl,below_drewN2 (br.trans (b111.mono br.size)) _⟩
end Go.Proofs.YtlldjmagbjjeoaaGreat
