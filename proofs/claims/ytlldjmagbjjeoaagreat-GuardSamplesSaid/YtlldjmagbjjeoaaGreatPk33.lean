/- Contracts and plain laws, several texts in one (GMid, GSmp01, GlKit, GlK2). No conditions beyond those stated. -/
import Derived.Test.YtlldjmagbjjeoaaGreatPk30
set_option maxRecDepth 100000
set_option maxHeartbeats 40000000
namespace Go.Proofs.YtlldjmagbjjeoaaGreat
open Go.RowKit
set_option linter.unusedVariables false
theorem gmid01_any (K : Nat) (u v x y : Value) (w : World) (hu : Wd .u16 K w u 0) (hv : Wd .u16 K w v 1) (hx : Wd .u16 K w x 1) (hy : Wd .u16 K w y 1) (hK : K <= w.heap.size) :
  Calls Tryz.prog 26 #[(⟨2,false,u,false,v,0⟩ : Vv).agg,(⟨2,false,x,false,y,0⟩ : Vv).agg] w fun e w' => ∃ r t,e = .returned (.tuple #[(⟨2,false,r,false,t,0⟩ : Vv).agg,.bool true]) /\ Wd .u16 w'.heap.size w' r 1 /\ Wd .u16 w'.heap.size w' t 2 /\ Below w.heap.size w w' /\ NewV w.heap.size r /\ NewV w.heap.size t:=by
 have hadd : ∀ W,Below w.heap.size w W -> Calls Tryz.prog 46 #[Fv u v,Fv x y] W fun e w' => ∃ r t,e = .returned (.tuple #[Fv r t,.int .i64 0]) /\ Wd .u16 w'.heap.size w' r 1 /\ Wd .u16 w'.heap.size w' t 1 /\ Below W.heap.size W w' /\ NewV W.heap.size r /\ NewV W.heap.size t:=fun W hb =>
  fadd0_any W.heap.size u v x y 1 1 W (hu.below hb hK (Nat.le_trans hK hb.size)) (hv.below hb hK (Nat.le_trans hK hb.size)) (hx.below hb hK (Nat.le_trans hK hb.size)) (hy.below hb hK (Nat.le_trans hK hb.size)) (Nat.le_refl _) ⟨by omega,by omega,by omega,.inl rfl⟩ (by omega) (by decide)
 have HADD:=Lib.hid hadd
 obtain ⟨ua,um,uc,rfl⟩:=hu.form
 obtain ⟨va,vm,vc,rfl⟩:=hv.form
 obtain ⟨xa,xm,xc,rfl⟩:=hx.form
 obtain ⟨ya,ym,yc,rfl⟩:=hy.form
 obtain ⟨W1,hW1⟩ : ∃ W1,((w.alloc (.cells (⟨2,false,.slice ua um uc,false,.slice va vm vc,0⟩ : Vv).cells 28)).alloc (.cells (⟨2,false,.slice xa xm xc,false,.slice ya ym yc,0⟩ : Vv).cells 28)).alloc (.cells vv0.cells 28) = W1:=⟨_,rfl⟩
 obtain ⟨b1,q0,q1,q2,s1⟩:=alloc3 w _ _ _ _ _ _ hW1
 have HW:=Lib.hid hW1
 obtain ⟨B,hB⟩ : ∃ B,w.heap.size = B:=⟨_,rfl⟩
 have HB:=Lib.hid hB
 rw [hB] at hK b1 q0 q1 q2 s1 HADD ⊢
 dsimp only [Vv.cells,vv0] at HW
 clear hB hW1 hadd
 obtain ⟨c0,c1,c2,c3,c4,c5⟩:=q0.six
 obtain ⟨d0,d1,d2,d3,d4,d5⟩:=q1.six
 go_enter Tryz.func26,Tryz.ntmps26
 go_upto_region 1 with fail
 simp only [HB.out,Nat.add_assoc,Nat.reduceAdd]
 rw [HW.out]
 go_wp2_with fail
 refine (HADD.out W1 b1).mono ?_
 rintro e w2 ⟨r,t,rfl,hr,ht,hb2,hn1,hn2⟩
 obtain ⟨ra,rm,rc,rfl⟩:=hr.form
 obtain ⟨ta,tm,tc,rfl⟩:=ht.form
 have b2 : Below B w w2:=b1.trans (hb2.mono (by omega))
 have hs2:=hb2.size
 have q0:=q0.below hb2 q0.lt
 have q2:=q2.below hb2 q2.lt
 clear c0 c1 c2 c3 c4 c5 d0 d1 d2 d3 d4 d5
 go_upto_region 6 with fail
 generalize hW3 : w2.alloc _ = W3
 have b3' : Below w2.heap.size w2 W3:=by rw [<- hW3]; exact (Below.refl _ _).alloc (Nat.le_refl _) _
 have q3 : Blk W3 w2.heap.size #[.bool false,.slice ra rm rc,.bool false,.slice ta tm tc] 26:=by rw [<- hW3]; exact Blk.new w2 _ _
 have s3 : W3.heap.size = w2.heap.size + 1:=by rw [<- hW3]; simp
 have b3 : Below B w W3:=b2.trans (b3'.mono (by omega))
 have q0:=q0.below b3' q0.lt
 have q2:=q2.below b3' q2.lt
 have hr3:=hr.below b3' (Nat.le_refl _) (show w2.heap.size <= W3.heap.size by omega)
 have ht3:=ht.below b3' (Nat.le_refl _) (show w2.heap.size <= W3.heap.size by omega)
 obtain ⟨G,hG⟩ : ∃ G,w2.heap.size = G:=⟨_,rfl⟩
 rw [hG] at s3 q3 ⊢
 have hGB : B + 3 <= G:=by omega
 have q3lt : G < W3.heap.size:=by omega
 have hw3 : w2.heap.size <= W3.heap.size:=by omega
 have hsB : B + 3 <= W3.heap.size:=by omega
 clear hW3 hG b3' hr ht hb2 s3 hw3
 refine region_plain (fun W' => Below W3.heap.size W3 W') [5,6,7] (by kernel_rfl) ?_
 have qS : (fun W' => Below W3.heap.size W3 W') W3.drew:=below_quiet (Below.refl _ _)
 refine wpAnyD_takeC [5,6,7,3,2] (i:=0) (v:=Fv (.slice ra rm rc) (.slice ta tm tc)) rfl (by kernel_rfl) (by kernel_rfl) (by kernel_rfl) (by kernel_rfl) (by kernel_rfl) (by kernel_rfl) (fun _ _ _ h => h) (.inl ⟨by kernel_rfl,fun W' hS => by obtain ⟨c0,c1,c2,c3⟩:=(q3.below hS q3.lt).four; go_simp⟩) qS ?_
 refine wpAnyD_on (i:=1) rfl ?_
 go_simp
 refine (ffromint_any 2 _ (.inr rfl)).mono ?_
 rintro e w4 ⟨f,h,rfl,⟨fa,fc,rfl⟩,⟨ha,hc,rfl⟩,hz,hb4⟩
 have qS4 : Below W3.heap.size W3 w4:=qS.trans (hb4.mono qS.size)
 obtain ⟨hf4,hh4⟩:=hz.get fun b hb => hb.2
 go_simp
 refine wpAnyD_on (i:=2) rfl ?_
 go_simp
 refine (fdiv_any w4.heap.size _ _ _ _ 1 1 2 1 w4 (hr3.below qS4 (by omega) (by have := qS4.size; omega)) (ht3.below qS4 (by omega) (by have := qS4.size; omega)) hf4 hh4 (Nat.le_refl _) ⟨by omega,by omega,by omega,.inl rfl⟩ ⟨by omega,by omega,by omega,.inl rfl⟩ (by omega) (by omega) (by omega) (by omega) (by omega) (by decide)).mono ?_
 rintro e w5 ⟨r5,t5,rfl,hr5,ht5,hb5,hn5,hn6⟩
 have qS5 : Below W3.heap.size W3 w5:=qS4.trans (hb5.mono qS4.size)
 have hs4:=qS4.size
 obtain ⟨r5a,r5m,r5c,rfl⟩:=hr5.form
 obtain ⟨t5a,t5m,t5c,rfl⟩:=ht5.form
 go_simp
 refine wpAnyD_tp (i:=3) (v:=.tuple #[Fv (.slice r5a r5m r5c) (.slice t5a t5m t5c),.int .i64 0]) rfl qS5 ?_
 have q5:=q3.below qS5 q3.lt
 obtain ⟨c0,c1,c2,c3⟩:=q5.four
 have f0:=q5.free 0
 have f1:=q5.free 1
 have f2:=q5.free 2
 have f3:=q5.free 3
 refine wpAnyD_two (i:=4) (j:=5) (by kernel_rfl) rfl rfl (by kernel_rfl) (by kernel_rfl) ?_ ?_
 ·go_simp
  refine wpAnyD_two (i:=5) (j:=6) (by kernel_rfl) rfl rfl (by kernel_rfl) (by kernel_rfl) ?_ ?_
  ·go_simp
   refine wpAnyD_on (i:=6) rfl ?_
   go_simp
   refine wpAnyD_on (i:=7) rfl ?_
   go_simp
   refine wpAnyD_done (by kernel_rfl) ?_ _
   clear c0 c1 c2 c3 f0 f1 f2 f3
   have b5 : Below B w w5:=b3.trans (qS5.mono (by omega))
   have q0:=q0.below qS5 (by omega)
   have q2:=q2.below qS5 (by omega)
   have y5:=(((q5.set (i:=0) (.bool false)).set (i:=1) (.slice r5a r5m r5c)).set (i:=2) (.bool false)).set (i:=3) (.slice t5a t5m t5c)
   have y0:=(((q0.other (b':=G) (i:=0) (by omega) (.bool false)).other (b':=G) (i:=1) (by omega) (.slice r5a r5m r5c)).other (b':=G) (i:=2) (by omega) (.bool false)).other (b':=G) (i:=3) (by omega) (.slice t5a t5m t5c)
   have y2:=(((q2.other (b':=G) (i:=0) (by omega) (.bool false)).other (b':=G) (i:=1) (by omega) (.slice r5a r5m r5c)).other (b':=G) (i:=2) (by omega) (.bool false)).other (b':=G) (i:=3) (by omega) (.slice t5a t5m t5c)
   have z1:=(((hr5.set (r:=G) (i:=0) (x:=.bool false) hn5 (by omega)).set (r:=G) (i:=1) (x:=.slice r5a r5m r5c) hn5 (by omega)).set (r:=G) (i:=2) (x:=.bool false) hn5 (by omega)).set (r:=G) (i:=3) (x:=.slice t5a t5m t5c) hn5 (by omega)
   have z2:=(((ht5.set (r:=G) (i:=0) (x:=.bool false) hn6 (by omega)).set (r:=G) (i:=1) (x:=.slice r5a r5m r5c) hn6 (by omega)).set (r:=G) (i:=2) (x:=.bool false) hn6 (by omega)).set (r:=G) (i:=3) (x:=.slice t5a t5m t5c) hn6 (by omega)
   have b6:=(((b5.setCell (p:=⟨G,0,none⟩) (by simp; omega) (.bool false)).setCell (p:=⟨G,1,none⟩) (by simp; omega) (.slice r5a r5m r5c)).setCell (p:=⟨G,2,none⟩) (by simp; omega) (.bool false)).setCell (p:=⟨G,3,none⟩) (by simp; omega) (.slice t5a t5m t5c)
   have s6 : ((((w5.setCell ⟨G,0,none⟩ (.bool false)).setCell ⟨G,1,none⟩ (.slice r5a r5m r5c)).setCell ⟨G,2,none⟩ (.bool false)).setCell ⟨G,3,none⟩ (.slice t5a t5m t5c)).heap.size = w5.heap.size:=by simp [World.setCell]
   generalize hW6 : (((w5.setCell ⟨G,0,none⟩ (.bool false)).setCell ⟨G,1,none⟩ (.slice r5a r5m r5c)).setCell ⟨G,2,none⟩ (.bool false)).setCell ⟨G,3,none⟩ (.slice t5a t5m t5c) = W6 at y5 y0 y2 z1 z2 b6 s6 ⊢
   clear hW6
   have g0:=y0.at (i:=0) (x:=.int .u8 2) rfl
   obtain ⟨c0,c1,c2,c3⟩:=y5.four
   have h1c : ∀ u ∈ (⟨2,false,.slice r5a r5m r5c,false,.slice t5a t5m t5c,0⟩ : Vv).cells,u.oneCell' = true:=by simp [Value.oneCell']
   go_wp2_with (refine wpList_store_blk rfl 28 28 (.tmp 4) (.tmp 48) rfl (⟨2,false,.slice r5a r5m r5c,false,.slice t5a t5m t5c,0⟩ : Vv).cells _ (B + 2) y2 infoValN rfl h1c rfl rfl ?_; intro W7 t1 t2 t3 t4)
   refine bodyPost_ret (v:=.tuple #[(⟨2,false,.slice r5a r5m r5c,false,.slice t5a t5m t5c,0⟩ : Vv).agg,.bool true]) ?_ rfl ?_
   ·obtain ⟨e0,e1,e2,e3,e4,e5⟩:=t1.six
    simp [results,Tryz.results26,go_sem,e0,e1,e2,e3,e4,e5]
   have hkeep : ∀ (vv : Value) (n : Nat),Wd .u16 w5.heap.size W6 vv n -> NewV w4.heap.size vv -> Wd .u16 W7.heap.size W7 vv n:=fun vv n h hn => by
    rcases h with ⟨h0,h1⟩ | ⟨h0,b,o,c,rfl,h1,h2,h3,h4⟩
    ·exact .inl ⟨h0,h1⟩
    ·have := hn b o 1 c rfl
     exact .inr ⟨h0,b,o,c,rfl,h1,h2,by omega,t3.cell h4 (by simp; omega)⟩
   exact ⟨_,_,rfl,hkeep _ _ z1 hn5,hkeep _ _ z2 hn6,b6.trans (t2 B (by omega)),hn5.mono (by omega),hn6.mono (by omega)⟩
  ·go_simp
   refine wpAnyD_on (i:=5) rfl ?_
   go_simp
   refine wpAnyD_on (i:=7) rfl ?_
   go_simp
   refine wpAnyD_done (by kernel_rfl) ?_ _
   clear c0 c1 c2 c3 f0 f1 f2 f3
   have b5 : Below B w w5:=b3.trans (qS5.mono (by omega))
   have q0:=q0.below qS5 (by omega)
   have q2:=q2.below qS5 (by omega)
   have y5:=(((q5.set (i:=0) (.bool false)).set (i:=1) (.slice r5a r5m r5c)).set (i:=2) (.bool false)).set (i:=3) (.slice t5a t5m t5c)
   have y0:=(((q0.other (b':=G) (i:=0) (by omega) (.bool false)).other (b':=G) (i:=1) (by omega) (.slice r5a r5m r5c)).other (b':=G) (i:=2) (by omega) (.bool false)).other (b':=G) (i:=3) (by omega) (.slice t5a t5m t5c)
   have y2:=(((q2.other (b':=G) (i:=0) (by omega) (.bool false)).other (b':=G) (i:=1) (by omega) (.slice r5a r5m r5c)).other (b':=G) (i:=2) (by omega) (.bool false)).other (b':=G) (i:=3) (by omega) (.slice t5a t5m t5c)
   have z1:=(((hr5.set (r:=G) (i:=0) (x:=.bool false) hn5 (by omega)).set (r:=G) (i:=1) (x:=.slice r5a r5m r5c) hn5 (by omega)).set (r:=G) (i:=2) (x:=.bool false) hn5 (by omega)).set (r:=G) (i:=3) (x:=.slice t5a t5m t5c) hn5 (by omega)
   have z2:=(((ht5.set (r:=G) (i:=0) (x:=.bool false) hn6 (by omega)).set (r:=G) (i:=1) (x:=.slice r5a r5m r5c) hn6 (by omega)).set (r:=G) (i:=2) (x:=.bool false) hn6 (by omega)).set (r:=G) (i:=3) (x:=.slice t5a t5m t5c) hn6 (by omega)
   have b6:=(((b5.setCell (p:=⟨G,0,none⟩) (by simp; omega) (.bool false)).setCell (p:=⟨G,1,none⟩) (by simp; omega) (.slice r5a r5m r5c)).setCell (p:=⟨G,2,none⟩) (by simp; omega) (.bool false)).setCell (p:=⟨G,3,none⟩) (by simp; omega) (.slice t5a t5m t5c)
   have s6 : ((((w5.setCell ⟨G,0,none⟩ (.bool false)).setCell ⟨G,1,none⟩ (.slice r5a r5m r5c)).setCell ⟨G,2,none⟩ (.bool false)).setCell ⟨G,3,none⟩ (.slice t5a t5m t5c)).heap.size = w5.heap.size:=by simp [World.setCell]
   generalize hW6 : (((w5.setCell ⟨G,0,none⟩ (.bool false)).setCell ⟨G,1,none⟩ (.slice r5a r5m r5c)).setCell ⟨G,2,none⟩ (.bool false)).setCell ⟨G,3,none⟩ (.slice t5a t5m t5c) = W6 at y5 y0 y2 z1 z2 b6 s6 ⊢
   clear hW6
   have g0:=y0.at (i:=0) (x:=.int .u8 2) rfl
   obtain ⟨c0,c1,c2,c3⟩:=y5.four
   have h1c : ∀ u ∈ (⟨2,false,.slice r5a r5m r5c,false,.slice t5a t5m t5c,0⟩ : Vv).cells,u.oneCell' = true:=by simp [Value.oneCell']
   go_wp2_with (refine wpList_store_blk rfl 28 28 (.tmp 4) (.tmp 48) rfl (⟨2,false,.slice r5a r5m r5c,false,.slice t5a t5m t5c,0⟩ : Vv).cells _ (B + 2) y2 infoValN rfl h1c rfl rfl ?_; intro W7 t1 t2 t3 t4)
   refine bodyPost_ret (v:=.tuple #[(⟨2,false,.slice r5a r5m r5c,false,.slice t5a t5m t5c,0⟩ : Vv).agg,.bool true]) ?_ rfl ?_
   ·obtain ⟨e0,e1,e2,e3,e4,e5⟩:=t1.six
    simp [results,Tryz.results26,go_sem,e0,e1,e2,e3,e4,e5]
   have hkeep : ∀ (vv : Value) (n : Nat),Wd .u16 w5.heap.size W6 vv n -> NewV w4.heap.size vv -> Wd .u16 W7.heap.size W7 vv n:=fun vv n h hn => by
    rcases h with ⟨h0,h1⟩ | ⟨h0,b,o,c,rfl,h1,h2,h3,h4⟩
    ·exact .inl ⟨h0,h1⟩
    ·have := hn b o 1 c rfl
     exact .inr ⟨h0,b,o,c,rfl,h1,h2,by omega,t3.cell h4 (by simp; omega)⟩
   exact ⟨_,_,rfl,hkeep _ _ z1 hn5,hkeep _ _ z2 hn6,b6.trans (t2 B (by omega)),hn5.mono (by omega),hn6.mono (by omega)⟩
 ·go_simp
  refine wpAnyD_on (i:=4) rfl ?_
  go_simp
  refine wpAnyD_on (i:=6) rfl ?_
  go_simp
  refine wpAnyD_on (i:=7) rfl ?_
  go_simp
  refine wpAnyD_done (by kernel_rfl) ?_ _
  clear c0 c1 c2 c3 f0 f1 f2 f3
  have b5 : Below B w w5:=b3.trans (qS5.mono (by omega))
  have q0:=q0.below qS5 (by omega)
  have q2:=q2.below qS5 (by omega)
  have y5:=(((q5.set (i:=0) (.bool false)).set (i:=1) (.slice r5a r5m r5c)).set (i:=2) (.bool false)).set (i:=3) (.slice t5a t5m t5c)
  have y0:=(((q0.other (b':=G) (i:=0) (by omega) (.bool false)).other (b':=G) (i:=1) (by omega) (.slice r5a r5m r5c)).other (b':=G) (i:=2) (by omega) (.bool false)).other (b':=G) (i:=3) (by omega) (.slice t5a t5m t5c)
  have y2:=(((q2.other (b':=G) (i:=0) (by omega) (.bool false)).other (b':=G) (i:=1) (by omega) (.slice r5a r5m r5c)).other (b':=G) (i:=2) (by omega) (.bool false)).other (b':=G) (i:=3) (by omega) (.slice t5a t5m t5c)
  have z1:=(((hr5.set (r:=G) (i:=0) (x:=.bool false) hn5 (by omega)).set (r:=G) (i:=1) (x:=.slice r5a r5m r5c) hn5 (by omega)).set (r:=G) (i:=2) (x:=.bool false) hn5 (by omega)).set (r:=G) (i:=3) (x:=.slice t5a t5m t5c) hn5 (by omega)
  have z2:=(((ht5.set (r:=G) (i:=0) (x:=.bool false) hn6 (by omega)).set (r:=G) (i:=1) (x:=.slice r5a r5m r5c) hn6 (by omega)).set (r:=G) (i:=2) (x:=.bool false) hn6 (by omega)).set (r:=G) (i:=3) (x:=.slice t5a t5m t5c) hn6 (by omega)
  have b6:=(((b5.setCell (p:=⟨G,0,none⟩) (by simp; omega) (.bool false)).setCell (p:=⟨G,1,none⟩) (by simp; omega) (.slice r5a r5m r5c)).setCell (p:=⟨G,2,none⟩) (by simp; omega) (.bool false)).setCell (p:=⟨G,3,none⟩) (by simp; omega) (.slice t5a t5m t5c)
  have s6 : ((((w5.setCell ⟨G,0,none⟩ (.bool false)).setCell ⟨G,1,none⟩ (.slice r5a r5m r5c)).setCell ⟨G,2,none⟩ (.bool false)).setCell ⟨G,3,none⟩ (.slice t5a t5m t5c)).heap.size = w5.heap.size:=by simp [World.setCell]
  generalize hW6 : (((w5.setCell ⟨G,0,none⟩ (.bool false)).setCell ⟨G,1,none⟩ (.slice r5a r5m r5c)).setCell ⟨G,2,none⟩ (.bool false)).setCell ⟨G,3,none⟩ (.slice t5a t5m t5c) = W6 at y5 y0 y2 z1 z2 b6 s6 ⊢
  clear hW6
  have g0:=y0.at (i:=0) (x:=.int .u8 2) rfl
  obtain ⟨c0,c1,c2,c3⟩:=y5.four
  have h1c : ∀ u ∈ (⟨2,false,.slice r5a r5m r5c,false,.slice t5a t5m t5c,0⟩ : Vv).cells,u.oneCell' = true:=by simp [Value.oneCell']
  go_wp2_with (refine wpList_store_blk rfl 28 28 (.tmp 4) (.tmp 48) rfl (⟨2,false,.slice r5a r5m r5c,false,.slice t5a t5m t5c,0⟩ : Vv).cells _ (B + 2) y2 infoValN rfl h1c rfl rfl ?_; intro W7 t1 t2 t3 t4)
  refine bodyPost_ret (v:=.tuple #[(⟨2,false,.slice r5a r5m r5c,false,.slice t5a t5m t5c,0⟩ : Vv).agg,.bool true]) ?_ rfl ?_
  ·obtain ⟨e0,e1,e2,e3,e4,e5⟩:=t1.six
   simp [results,Tryz.results26,go_sem,e0,e1,e2,e3,e4,e5]
  have hkeep : ∀ (vv : Value) (n : Nat),Wd .u16 w5.heap.size W6 vv n -> NewV w4.heap.size vv -> Wd .u16 W7.heap.size W7 vv n:=fun vv n h hn => by
   rcases h with ⟨h0,h1⟩ | ⟨h0,b,o,c,rfl,h1,h2,h3,h4⟩
   ·exact .inl ⟨h0,h1⟩
   ·have := hn b o 1 c rfl
    exact .inr ⟨h0,b,o,c,rfl,h1,h2,by omega,t3.cell h4 (by simp; omega)⟩
  exact ⟨_,_,rfl,hkeep _ _ z1 hn5,hkeep _ _ z2 hn6,b6.trans (t2 B (by omega)),hn5.mono (by omega),hn6.mono (by omega)⟩
theorem Wd.lm {K n : Nat} {w : World} {v : Value} (h : Wd .u16 K w v n) (h0 : 0 < n) (hn : n < 65536) : Lm K w v [n]:=by
 rcases h with ⟨h1,_⟩ | ⟨_,b,o,c,rfl,h1,h2,h3,h4⟩
 ·omega
 ·refine ⟨RowsV.mk_cells (by simpa using h1) h2 h3 fun i hi j hj => ?_,fun d hd => by rw [List.mem_singleton.1 hd]; exact hn⟩
  obtain rfl : i = 0:=by simpa using hi
  obtain rfl : j = 0:=by omega
  simpa using h4
def num (m n : List Nat) : Vq:=⟨2,false,m,false,n,0⟩
theorem gsample01_any (K : Nat) (s : Sc) (y : Sv) (w : World) (hs : ScX K w s y) (hK : K <= w.heap.size) (hkd : s.kd = 2) (hcs : s.cuts = [num [] [1],num [1] [1]]) :
  Calls Tryz.prog 9 #[y.agg,.int .i64 2] w fun e w' => ∃ z : Vv,e = .returned (.tuple #[z.agg,.bool true]) /\ VlX w'.heap.size w' (num [1] [2]) z /\ Below w.heap.size w w':=by
 have hgo : ∀ v ∈ s.cuts,v.good = true:=by rw [hcs]; intro v hv; simp only [List.mem_cons,List.not_mem_nil,or_false] at hv; rcases hv with rfl | rfl <;> decide
 have hok : s.okB = true:=by unfold Sc.okB; rw [hcs,hkd]; decide
 have hp : s.poss 2 = true:=by unfold Sc.poss; rw [hcs,hkd]; decide
 have hlen : s.cuts.length = 2:=by rw [hcs]; rfl
 obtain ⟨W1,hW1⟩ : ∃ W1,(w.alloc (.cells y.cells 34)).alloc (.cells vv0.cells 28) = W1:=⟨_,rfl⟩
 have b1 : Below w.heap.size w W1:=by rw [<- hW1]; exact ((Below.refl _ _).alloc (Nat.le_refl _) _).alloc (by simp) _
 have q1 : Blk W1 w.heap.size y.cells 34:=by rw [<- hW1]; exact (Blk.new w _ _).alloc _
 have q2 : Blk W1 (w.heap.size + 1) vv0.cells 28:=by
  rw [<- hW1]
  have := Blk.new (w.alloc (.cells y.cells 34)) vv0.cells 28
  rwa [World.size_alloc] at this
 have s1 : W1.heap.size = w.heap.size + 2:=by rw [<- hW1]; simp
 obtain ⟨B,hB⟩ : ∃ B,w.heap.size = B:=⟨_,rfl⟩
 have HB:=Lib.hid hB
 have HW:=Lib.hid hW1
 rw [hB] at hK b1 q1 q2 s1 ⊢
 dsimp only [Vv.cells,vv0] at HW
 have hv:=gvalid_any B s y W1 (hs.below b1 hK hK) (by omega) hgo (by omega)
 rw [hok] at hv
 have hpo : ∀ W,Below W1.heap.size W1 W -> Calls Tryz.prog 23 #[.pointer (some ⟨B,0,none⟩),.int .i64 2] W fun e w' => e = .returned (.bool true) /\ Below W.heap.size W w':=fun W hb => by
  have h3:=hb.size
  have h2:=(q1.below hb q1.lt)
  have := gposs_any B B 0 y.c.val s 2 W ((hs.cuts.below b1 hK hK).below hb (by omega) (Nat.le_refl _)) (by omega) (by omega) (by rw [Nat.zero_add,<- hs.kd]; exact h2.at rfl) (by rw [Nat.zero_add]; exact h2.at rfl) (by omega) (okB_cuts hok)
  rw [hp] at this
  exact this.mono (by rintro e w' ⟨rfl,h⟩; exact ⟨rfl,h⟩)
 have HPO:=Lib.hid hpo
 have hcx:=hs.cuts.below b1 hK hK
 have hykd:=hs.kd
 obtain ⟨g,hrow,hgs⟩:=hcx
 obtain ⟨cb,co,ccap,hse,_,hcm,hcb,hccl⟩:=hrow.pos (by omega)
 have h0:=hgs 0 (by omega)
 have h1:=hgs 1 (by omega)
 rw [hcs] at h0 h1
 have h0 : VlX B W1 (num [] [1]) (g 0):=h0
 have h1 : VlX B W1 (num [1] [1]) (g 1):=h1
 rw [hlen] at hccl hse
 have hrg : ∀ W,Below W1.heap.size W1 W -> ∀ j,j < 2 -> W.rangeAt cb (co + j * 6) (g j).cells.toList:=fun W hb j hj => vv_range (cells_below hb (by omega) hccl) hj
 have hm : ∀ W,Below W1.heap.size W1 W -> Calls Tryz.prog 26 #[(⟨2,false,(g 0).s1,false,(g 0).s2,0⟩ : Vv).agg,(⟨2,false,(g 1).s1,false,(g 1).s2,0⟩ : Vv).agg] W fun e w' => ∃ r t,e = .returned (.tuple #[(⟨2,false,r,false,t,0⟩ : Vv).agg,.bool true]) /\ Wd .u16 w'.heap.size w' r 1 /\ Wd .u16 w'.heap.size w' t 2 /\ Below W.heap.size W w' /\ NewV W.heap.size r /\ NewV W.heap.size t:=fun W hb => by
  have hsz:=hb.size
  have a1:=(h0.n.below hb (show B <= W1.heap.size by omega) (Nat.le_refl B)).wd (m:=1024) (g:=false) (by simp [num]) (by decide)
  have a2:=(h0.d.below hb (show B <= W1.heap.size by omega) (Nat.le_refl B)).wd (m:=1024) (g:=false) (by simp [num]) (by decide)
  have a3:=(h1.n.below hb (show B <= W1.heap.size by omega) (Nat.le_refl B)).wd (m:=1024) (g:=false) (by simp [num]) (by decide)
  have a4:=(h1.d.below hb (show B <= W1.heap.size by omega) (Nat.le_refl B)).wd (m:=1024) (g:=false) (by simp [num]) (by decide)
  exact gmid01_any B _ _ _ _ W a1 a2 a3 a4 (by omega)
 obtain ⟨a1,m1,f1,_⟩:=h0.n.form
 obtain ⟨a2,m2,f2,_⟩:=h0.d.form
 obtain ⟨a3,m3,f3,_⟩:=h1.n.form
 obtain ⟨a4,m4,f4,_⟩:=h1.d.form
 have g0e : g 0 = ⟨2,false,.slice a1 0 m1,false,.slice a2 1 m2,0⟩:=by
  have e : g 0 = ⟨(g 0).kd,(g 0).b1,(g 0).s1,(g 0).b2,(g 0).s2,(g 0).i⟩:=rfl
  rw [e,h0.kd,h0.b1,h0.b2,h0.i,f1,f2]; rfl
 have g1e : g 1 = ⟨2,false,.slice a3 1 m3,false,.slice a4 1 m4,0⟩:=by
  have e : g 1 = ⟨(g 1).kd,(g 1).b1,(g 1).s1,(g 1).b2,(g 1).s2,(g 1).i⟩:=rfl
  rw [e,h1.kd,h1.b1,h1.b2,h1.i,f3,f4]; rfl
 have hrg0 : ∀ W,Below W1.heap.size W1 W -> W.rangeAt cb co (⟨2,false,.slice a1 0 m1,false,.slice a2 1 m2,0⟩ : Vv).cells.toList:=fun W hb => by
  have := hrg W hb 0 (by omega)
  rwa [g0e,Nat.zero_mul,Nat.add_zero] at this
 have hrg1 : ∀ W,Below W1.heap.size W1 W -> W.rangeAt cb (co + 6) (⟨2,false,.slice a3 1 m3,false,.slice a4 1 m4,0⟩ : Vv).cells.toList:=fun W hb => by
  have := hrg W hb 1 (by omega)
  rwa [g1e,Nat.one_mul] at this
 rw [g0e,g1e] at hm
 have HRG0:=Lib.hid hrg0
 have HRG1:=Lib.hid hrg1
 have HM:=Lib.hid hm
 obtain ⟨⟨yop,ynm,yk,yb3,⟨y4,y4n,y4m⟩,yb5,⟨y6,y6n,y6m⟩,yi7,⟨y8,y8n,y8m⟩⟩,sk,⟨ca,cn,cm⟩⟩:=y
 simp only [Sl.val,Value.slice.injEq] at hse
 obtain ⟨rfl,rfl,rfl⟩:=hse
 dsimp only at hykd
 rw [hkd] at hykd
 subst hykd
 have HQ1:=Lib.hid q1
 have HQ2:=Lib.hid q2
 obtain ⟨d0,d1,d2,d3,d4,d5,d6,d7,d8,d9,d10⟩:=q1.eleven
 clear hB hW1 hs hgo hok hp hpo hrow hgs hccl q1 q2 hrg hrg0 hrg1 hm g0e g1e h0 h1 f1 f2 f3 f4 hlen hcs hkd
 go_enter Tryz.func9,Tryz.ntmps9
 go_upto_region 1 with fail
 simp only [HB.out]
 rw [HW.out]
 go_wp2_with fail
 refine hv.mono ?_
 rintro e w2 ⟨rfl,hb2⟩
 clear hv d0 d1 d2 d3 d4 d5 d6 d7 d8 d9 d10
 go_wp2_with fail
 refine (HPO.out w2 hb2).mono ?_
 rintro e w3 ⟨rfl,hb3⟩
 have b3' : Below W1.heap.size W1 w3:=hb2.trans (hb3.mono hb2.size)
 have b3 : Below B w w3:=b1.trans (b3'.mono (by omega))
 have hs3:=b3'.size
 clear hb2 hb3
 have hq1:=HQ1.out.below b3' (by omega)
 have hq2':=HQ2.out.below b3' (by omega)
 have d9:=hq1.at (i:=9) (x:=.int .u8 2) rfl
 have d10:=hq1.at (i:=10) (x:=.slice (some ⟨cb,co,none⟩) 2 cm) rfl
 have l3 : B + 1 < w3.heap.size:=by omega
 go_upto_region 12 with fail
 have HQ1':=Lib.hid hq1
 clear d9 d10
 refine region_plain (fun W' => Below w3.heap.size w3 W') [14,15] (by kernel_rfl) ?_
 have qS : (fun W' => Below w3.heap.size w3 W') w3.drew:=below_quiet (Below.refl _ _)
 have hSS : ∀ W',Below w3.heap.size w3 W' -> Below W1.heap.size W1 W':=fun W' h => b3'.trans (h.mono hs3)
 refine wpAnyD_tp (i:=0) (v:=.pointer (some ⟨B,10,none⟩)) rfl qS ?_
 refine wpAnyD_tk (i:=1) (v:=.slice (some ⟨cb,co,none⟩) 2 cm) rfl (.inl ⟨by kernel_rfl,fun W' hS => by have d10:=(HQ1'.out.below hS (by omega)).at (i:=10) (x:=.slice (some ⟨cb,co,none⟩) 2 cm) rfl; go_simp⟩) qS ?_
 refine wpAnyD_tp (i:=2) (v:=.int .i64 1) rfl qS ?_
 refine wpAnyD_tk (i:=3) (v:=.int .i64 0) rfl (.inl ⟨by kernel_rfl,fun W' hS => by have hw0 : IntKind.i64.wrap 0 = 0:=IntWalk.i64_in _ (by omega); go_simp⟩) qS ?_
 refine wpAnyD_tp (i:=4) (v:=.pointer (some ⟨cb,co,none⟩)) rfl qS ?_
 refine wpAnyD_tk (i:=5) (v:=(⟨2,false,.slice a1 0 m1,false,.slice a2 1 m2,0⟩ : Vv).agg) rfl (yieldsIf_load_mid (by kernel_rfl) 28 (.tmp 62) rfl cb co rfl (⟨2,false,.slice a1 0 m1,false,.slice a2 1 m2,0⟩ : Vv).cells.toList _ (fun W' hS => HRG0.out W' (hSS W' hS)) Tryz.underlying28 rfl infoValN) qS ?_
 refine wpAnyD_tp (i:=6) (v:=.pointer (some ⟨B,10,none⟩)) rfl qS ?_
 refine wpAnyD_tk (i:=7) (v:=.slice (some ⟨cb,co,none⟩) 2 cm) rfl (.inl ⟨by kernel_rfl,fun W' hS => by have d10:=(HQ1'.out.below hS (by omega)).at (i:=10) (x:=.slice (some ⟨cb,co,none⟩) 2 cm) rfl; go_simp⟩) qS ?_
 refine wpAnyD_tp (i:=8) (v:=.int .i64 1) rfl qS ?_
 refine wpAnyD_tp (i:=9) (v:=.pointer (some ⟨cb,co + 6,none⟩)) rfl qS ?_
 refine wpAnyD_tk (i:=10) (v:=(⟨2,false,.slice a3 1 m3,false,.slice a4 1 m4,0⟩ : Vv).agg) rfl (yieldsIf_load_mid (by kernel_rfl) 28 (.tmp 67) rfl cb (co + 6) (by go_simp) (⟨2,false,.slice a3 1 m3,false,.slice a4 1 m4,0⟩ : Vv).cells.toList _ (fun W' hS => HRG1.out W' (hSS W' hS)) Tryz.underlying28 rfl infoValN) qS ?_
 refine wpAnyD_on (i:=11) rfl ?_
 go_simp
 refine (HM.out _ (hSS _ qS)).mono ?_
 rintro e w4 ⟨r,t,rfl,hr,ht,hb4,hn1,hn2⟩
 have qS4 : Below w3.heap.size w3 w4:=qS.trans (hb4.mono qS.size)
 obtain ⟨ra,rm,rc,rfl⟩:=hr.form
 obtain ⟨ta,tm,tc,rfl⟩:=ht.form
 go_simp
 refine wpAnyD_tp (i:=12) (v:=(⟨2,false,.slice ra rm rc,false,.slice ta tm tc,0⟩ : Vv).agg) rfl qS4 ?_
 refine wpAnyD_tp (i:=13) (v:=.bool true) rfl qS4 ?_
 have q4:=hq2'.below qS4 (by omega)
 obtain ⟨u0,u1,u2,u3,u4,u5⟩:=q4.six
 have v0':=q4.free 0
 have v1:=q4.free 1
 have v2:=q4.free 2
 have v3:=q4.free 3
 have v4:=q4.free 4
 have v5:=q4.free 5
 refine wpAnyD_on (i:=14) rfl ?_
 go_simp
 refine wpAnyD_on (i:=15) rfl ?_
 go_simp
 refine wpAnyD_done (by kernel_rfl) ?_ _
 have q5:=(((((q4.set (i:=0) (.int .u8 2)).set (i:=1) (.bool false)).set (i:=2) (.slice ra rm rc)).set (i:=3) (.bool false)).set (i:=4) (.slice ta tm tc)).set (i:=5) (.int .i64 0)
 obtain ⟨e0',e1,e2',e3',e4,e5⟩:=q5.six
 have b4 : Below B w w4:=b3.trans (qS4.mono (by omega))
 have hs4:=qS4.size
 clear u0 u1 u2 u3 u4 u5 v0' v1 v2 v3 v4 v5 q4 q5 hSS qS qS4 hb4
 go_wp2_with fail
 refine bodyPost_ret (v:=.tuple #[(⟨2,false,.slice ra rm rc,false,.slice ta tm tc,0⟩ : Vv).agg,.bool true]) (by simp [results,Tryz.results9,go_sem,e0',e1,e2',e3',e4,e5]) rfl ?_
 have key : ∀ (vv : Value) (n : Nat),Wd .u16 w4.heap.size w4 vv n -> NewV w3.heap.size vv -> Wd .u16 w4.heap.size ((((((w4.setCell ⟨B + 1,0,none⟩ (.int .u8 2)).setCell ⟨B + 1,1,none⟩ (.bool false)).setCell ⟨B + 1,2,none⟩ (.slice ra rm rc)).setCell ⟨B + 1,3,none⟩ (.bool false)).setCell ⟨B + 1,4,none⟩ (.slice ta tm tc)).setCell ⟨B + 1,5,none⟩ (.int .i64 0)) vv n:=fun vv n h hn =>
  ((((((h.set (r:=B + 1) (i:=0) (x:=.int .u8 2) hn l3).set (r:=B + 1) (i:=1) (x:=.bool false) hn l3).set (r:=B + 1) (i:=2) (x:=.slice ra rm rc) hn l3).set (r:=B + 1) (i:=3) (x:=.bool false) hn l3).set (r:=B + 1) (i:=4) (x:=.slice ta tm tc) hn l3).set (r:=B + 1) (i:=5) (x:=.int .i64 0) hn l3)
 have k1:=(key _ 1 hr hn1).lm (by omega) (by omega)
 have k2:=(key _ 2 ht hn2).lm (by omega) (by omega)
 refine ⟨_,rfl,⟨rfl,rfl,rfl,rfl,k1.below (Below.refl w4.heap.size _) (Nat.le_refl _) (by simp [World.setCell]),k2.below (Below.refl w4.heap.size _) (Nat.le_refl _) (by simp [World.setCell])⟩,(((((b4.setCell (p:=⟨B + 1,0,none⟩) (by simp) _).setCell (p:=⟨B + 1,1,none⟩) (by simp) _).setCell (p:=⟨B + 1,2,none⟩) (by simp) _).setCell (p:=⟨B + 1,3,none⟩) (by simp) _).setCell (p:=⟨B + 1,4,none⟩) (by simp) _).setCell (p:=⟨B + 1,5,none⟩) (by simp) _⟩
def mRows (l : List Nat) : List (List Value):=l.map fun x : Nat => [.int .u16 (x : Int)]
theorem mRows_ok (l : List Nat) : RowsOk 1 (mRows l):=fun r hr => by
 obtain ⟨x,_,rfl⟩:=List.mem_map.1 hr
 exact ⟨rfl,fun u hu => by rw [List.mem_singleton.1 hu]; rfl⟩
theorem lm_one {K n g o cap : Nat} {w : World} (h1 : 1 <= cap) (h2 : cap <= maxLen) (h3 : g < K) (h4 : w.cell? ⟨g,o,none⟩ = some (.int .u16 n)) (hn : n < 65536) : Lm K w (.slice (some ⟨g,o,none⟩) 1 cap) [n]:=by
 refine ⟨RowsV.mk_cells (by simpa using h1) h2 h3 fun i hi j hj => ?_,fun d hd => by rw [List.mem_singleton.1 hd]; exact hn⟩
 obtain rfl : i = 0:=by have : i < 1:=hi; omega
 obtain rfl : j = 0:=by omega
 simpa using h4
theorem Tryz.infoU16G : (Tryz.prog.info? 85).map (fun i => (i.zero,i.size,i.bytes)) = some (some (.int .u16 0),1,2):=by kernel_rfl
theorem kwhole_any (n : Nat) (w : World) (h0 : 0 < n) (hn : n < 65536) :
  Calls Tryz.prog 43 #[.int .i64 n] w fun e w' => ∃ v,e = .returned (Wv v) /\ Lm w'.heap.size w' v [n] /\ Below w.heap.size w w' /\ NewV w.heap.size v:=by
 have hw1 : IntKind.u64.wrap (n : Int) = (n : Int):=by rw [IntKind.wrap_u64]; omega
 have hw2 : IntKind.u16.wrap (n : Int) = (n : Int):=by rw [IntKind.wrap_u16]; omega
 have hdv : (n : Int) / 65536 = 0:=by omega
 have hlt : decide ((n : Int) < 0) = false:=by simp
 have hgt : decide ((0 : Int) < (n : Int)) = true:=by simp; omega
 obtain ⟨W1,hW1⟩ : ∃ W1,((w.alloc (.cells #[.bool false,.slice none 0 0] 24)).alloc (.cells #[.bool false,.slice none 0 0] 24)).alloc (.cells #[.int .u16 n] 85) = W1:=⟨_,rfl⟩
 obtain ⟨b1,q0,q1,q2,s1⟩:=alloc3 w _ _ _ _ _ _ hW1
 obtain ⟨B,hB⟩ : ∃ B,w.heap.size = B:=⟨_,rfl⟩
 have HB:=Lib.hid hB
 have HW:=Lib.hid hW1
 rw [hB] at b1 q0 q1 q2 s1 ⊢
 have hcell : ∀ (i : Nat) (r : List Value) (j : Nat) (u : Value),(mRows [n])[i]? = some r -> r[j]? = some u -> W1.cell? ⟨B + 2,0 + (i * 1 + j),none⟩ = some u:=fun i r j u hi hj => by
  match i,hi with
  | 0,hi =>
   simp only [mRows,List.map_cons,List.map_nil,List.getElem?_cons_zero,Option.some.injEq] at hi
   subst hi
   match j,hj with
   | 0,hj => cases hj; exact q2.at rfl
   | j + 1,hj => simp at hj
  | i + 1,hi => simp [mRows] at hi
 have HC:=Lib.hid hcell
 clear hB hW1 hcell
 go_enter Tryz.func43,Tryz.ntmps43
 go_wp2_with fail
 refine wp_loop_rounds 2 ?_
 rw [rounds_succ]
 go_wp2_with (at_builtin; simp only [HB.out,Nat.add_assoc,Nat.reduceAdd]; rw [HW.out]; refine wpList_append_rows rfl (.tmp 19) (.tmp 22) 22 rfl Tryz.underlying22 Tryz.infoU16G (by kernel_rfl) (by decide) (by simp [Act.eval]) (OwnR.nil 1 85 B W1) (b:=B + 2) (off:=0) (m:=1) (cap:=1) (ms:=mRows [n]) (by simp [Act.eval]) rfl (mRows_ok _) HC.out (by decide) (by simp [maxLen]) (by simp) (by omega) ?_)
 intro g cap w5 hown hg5 hat5
 have hg9 : g = B + 3:=by
  rcases hat5 with h | h
  ·cases h
  ·omega
 subst hg9
 have b5' : Below W1.heap.size W1 w5:=below_grown hg5 (fun r e => by cases e) (Nat.le_refl _)
 have hs5:=b5'.size
 have b5 : Below B w w5:=b1.trans (b5'.mono (by omega))
 have p0:=q0.below b5' q0.lt
 have p1:=q1.below b5' q1.lt
 obtain ⟨gb,go,gc,he,hc1,hc2,hc3,hc4⟩:=hown.rows.pos (by simp [mRows])
 simp only [Value.slice.injEq,Option.some.injEq,Addr.mk.injEq,and_true] at he
 obtain ⟨⟨hgb,rfl⟩,h11,rfl⟩:=he
 subst hgb
 clear h11
 have hc5 : w5.cell? ⟨B + 3,0,none⟩ = some (.int .u16 n):=hc4 0 (by simp [mRows]) 0 (by omega)
 have hc1 : 1 <= cap:=by simpa [mRows] using hc1
 obtain ⟨d0,d1⟩:=p1.two
 have f1:=p1.free 1
 have r1:=p1.set (i:=1) (.slice (some ⟨B + 3,0,none⟩) 1 cap)
 have r0:=p0.other (b':=B + 1) (i:=1) (by omega) (.slice (some ⟨B + 3,0,none⟩) 1 cap)
 obtain ⟨W6,hW6⟩ : ∃ W6,w5.setCell ⟨B + 1,1,none⟩ (.slice (some ⟨B + 3,0,none⟩) 1 cap) = W6:=⟨_,rfl⟩
 have b6 : Below B w W6:=by rw [<- hW6]; exact b5.setCell (p:=⟨B + 1,1,none⟩) (by simp) _
 have hg6 : w5.grownBy W6 (some (B + 1)):=by rw [<- hW6]; exact grownBy_setCell _ _ _ _
 rw [hW6] at r0 r1
 have HW6:=Lib.hid hW6
 have hc6 : W6.cell? ⟨B + 3,0,none⟩ = some (.int .u16 n):=hg6.cell hc5 (by simp)
 have HC6:=Lib.hid hc6
 have hs6:=hg6.size
 clear hW6 hc6 hc5 hc4 hg6 hown hg5 hat5 p0 p1 b5' q0 q1 q2
 go_upto_region 6 with fail
 rw [HW6.out]
 clear d0 d1 f1
 go_wp2_with fail
 rw [rounds_succ]
 obtain ⟨d0,d1⟩:=r1.two
 obtain ⟨d2,d3⟩:=r0.two
 have f2:=r0.free 0
 have f3:=r0.free 1
 go_wp2_with fail
 have r2:=(r0.set (i:=0) (.bool false)).set (i:=1) (.slice (some ⟨B + 3,0,none⟩) 1 cap)
 obtain ⟨e0,e1⟩:=r2.two
 refine bodyPost_ret (v:=Wv (.slice (some ⟨B + 3,0,none⟩) 1 cap)) (by simp [results,Tryz.results43,go_sem,e0,e1]) rfl ?_
 have hg8 : W6.grownBy ((W6.setCell ⟨B,0,none⟩ (.bool false)).setCell ⟨B,1,none⟩ (.slice (some ⟨B + 3,0,none⟩) 1 cap)) (some B):=grownBy_then (grownBy_setCell _ _ _ _) (grownBy_setCell _ _ _ _)
 have hs8:=hg8.size
 exact ⟨_,rfl,lm_one hc1 hc2 (by omega) (hg8.cell HC6.out (by simp)) hn,below_set2 b6 (Nat.le_refl _) _ _,NewV.at (by omega)⟩
theorem lm_put {K L r n : Nat} {w w' : World} {v : Value} (h : Lm K w v [n]) (hv : NewV L v) (hr : r < L) (hg : w.grownBy w' (some r)) (hK : K <= w'.heap.size) : Lm w'.heap.size w' v [n]:=by
 obtain ⟨b,o,c,rfl,h1,h2,h3,h4⟩:=h.pos (by simp)
 have hb:=hv b o _ c rfl
 have h40 : w.cell? ⟨b,o,none⟩ = some (.int .u16 n):=by have := h4 0 (by simp); simpa using this
 exact lm_one (by simpa using h1) h2 (by omega) (hg.cell h40 (by simp; omega)) (h.2 n (by simp))
theorem grown_set4 (w : World) (r : Nat) (x0 x1 x2 x3 : Value) : w.grownBy ((((w.setCell ⟨r,0,none⟩ x0).setCell ⟨r,1,none⟩ x1).setCell ⟨r,2,none⟩ x2).setCell ⟨r,3,none⟩ x3) (some r) :=
 grownBy_then (grownBy_then (grownBy_then (grownBy_setCell _ _ _ _) (grownBy_setCell _ _ _ _)) (grownBy_setCell _ _ _ _)) (grownBy_setCell _ _ _ _)
theorem size_set4 (w : World) (r : Nat) (x0 x1 x2 x3 : Value) : ((((w.setCell ⟨r,0,none⟩ x0).setCell ⟨r,1,none⟩ x1).setCell ⟨r,2,none⟩ x2).setCell ⟨r,3,none⟩ x3).heap.size = w.heap.size:=by simp [World.setCell]
theorem kfrac0_any (w : World) :
  Calls Tryz.prog 20 #[.int .i64 0,.int .i64 1] w fun e w' => ∃ v,e = .returned (Fv (.slice none 0 0) v) /\ (∃ a c,v = .slice a 1 c) /\ Lm w'.heap.size w' v [1] /\ Below w.heap.size w w' /\ NewV w.heap.size v:=by
 obtain ⟨W1,hW1⟩ : ∃ W1,w.alloc (.cells #[.bool false,.slice none 0 0,.bool false,.slice none 0 0] 26) = W1:=⟨_,rfl⟩
 have b1 : Below w.heap.size w W1:=by rw [<- hW1]; exact (Below.refl _ _).alloc (Nat.le_refl _) _
 have q1 : Blk W1 w.heap.size #[.bool false,.slice none 0 0,.bool false,.slice none 0 0] 26:=by rw [<- hW1]; exact Blk.new w _ _
 have s1 : W1.heap.size = w.heap.size + 1:=by rw [<- hW1]; simp
 obtain ⟨B,hB⟩ : ∃ B,w.heap.size = B:=⟨_,rfl⟩
 have HB:=Lib.hid hB
 have HW:=Lib.hid hW1
 rw [hB] at b1 q1 s1 ⊢
 have hc : Calls Tryz.prog 43 #[.int .i64 1] W1 fun e w' => ∃ v,e = .returned (Wv v) /\ Lm w'.heap.size w' v [1] /\ Below W1.heap.size W1 w' /\ NewV W1.heap.size v:=kwhole_any 1 W1 (by omega) (by omega)
 clear hB hW1
 go_enter Tryz.func20,Tryz.ntmps20
 go_wp2_with fail
 simp only [HB.out]
 rw [HW.out]
 refine hc.mono ?_
 rintro e w2 ⟨v,rfl,hl,hb2,hn⟩
 obtain ⟨a,c,rfl,_⟩:=hl.form
 have hs2:=hb2.size
 have q2:=q1.below hb2 (by omega)
 obtain ⟨d0,d1,d2,d3⟩:=q2.four
 have f0:=q2.free 0
 have f1:=q2.free 1
 have f2:=q2.free 2
 have f3:=q2.free 3
 have HL:=Lib.hid hl
 clear hc hl
 simp only [List.length_cons,List.length_nil,Nat.zero_add] at *
 go_wp2_with fail
 have q4:=(((q2.set (i:=0) (.bool false)).set (i:=1) (.slice none 0 0)).set (i:=2) (.bool false)).set (i:=3) (.slice a 1 c)
 obtain ⟨e0,e1,e2,e3⟩:=q4.four
 refine bodyPost_ret (v:=Fv (.slice none 0 0) (.slice a 1 c)) (by simp [results,Tryz.results20,go_sem,e0,e1,e2,e3]) rfl ?_
 exact ⟨_,rfl,⟨_,_,rfl⟩,lm_put HL.out hn (show B < W1.heap.size by omega) (grown_set4 _ _ _ _ _ _) (by rw [size_set4]; exact Nat.le_refl _),(((((b1.trans (hb2.mono (by omega))).setCell (p:=⟨B,0,none⟩) (by simp) _).setCell (p:=⟨B,1,none⟩) (by simp) _).setCell (p:=⟨B,2,none⟩) (by simp) _).setCell (p:=⟨B,3,none⟩) (by simp) _),hn.mono (by omega)⟩
end Go.Proofs.YtlldjmagbjjeoaaGreat
