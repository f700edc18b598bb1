/- Contracts and plain laws, several texts in one (GlK3, GlK4, GFew, GSmpO, GStore2). No conditions beyond those stated. -/
import Derived.Test.YtlldjmagbjjeoaaGreatPk32
import Derived.Test.YtlldjmagbjjeoaaGreatPk33
set_option maxRecDepth 100000
set_option maxHeartbeats 40000000
namespace Go.Proofs.YtlldjmagbjjeoaaGreat
open Go.RowKit
set_option linter.unusedVariables false
theorem kfrac1_any (n : Nat) (w : World) (h0 : 0 < n) (hn : n < 65536) :
  Calls Tryz.prog 20 #[.int .i64 n,.int .i64 1] w fun e w' => ∃ u v,e = .returned (Fv u v) /\ (∃ a c,u = .slice a 1 c) /\ (∃ a c,v = .slice a 1 c) /\ Lm w'.heap.size w' u [n] /\ Lm w'.heap.size w' v [1] /\ Below w.heap.size w w' /\ NewV w.heap.size u /\ NewV w.heap.size v:=by
 obtain ⟨W1,hW1⟩ : ∃ W1,w.alloc (.cells #[.bool false,.slice none 0 0,.bool false,.slice none 0 0] 26) = W1:=⟨_,rfl⟩
 have b1 : Below w.heap.size w W1:=by rw [<- hW1]; exact (Below.refl _ _).alloc (Nat.le_refl _) _
 have q1 : Blk W1 w.heap.size #[.bool false,.slice none 0 0,.bool false,.slice none 0 0] 26:=by rw [<- hW1]; exact Blk.new w _ _
 have s1 : W1.heap.size = w.heap.size + 1:=by rw [<- hW1]; simp
 obtain ⟨B,hB⟩ : ∃ B,w.heap.size = B:=⟨_,rfl⟩
 have HB:=Lib.hid hB
 have HW:=Lib.hid hW1
 rw [hB] at b1 q1 s1 ⊢
 have hc : ∀ W,Calls Tryz.prog 43 #[.int .i64 n] W fun e w' => ∃ v,e = .returned (Wv v) /\ Lm w'.heap.size w' v [n] /\ Below W.heap.size W w' /\ NewV W.heap.size v:=fun W => kwhole_any n W (by omega) (by omega)
 have hc2 : ∀ W,Calls Tryz.prog 43 #[.int .i64 1] W fun e w' => ∃ v,e = .returned (Wv v) /\ Lm w'.heap.size w' v [1] /\ Below W.heap.size W w' /\ NewV W.heap.size v:=fun W => kwhole_any 1 W (by omega) (by omega)
 have HC:=Lib.hid hc
 have HC2:=Lib.hid hc2
 have e0 : ((n : Int) == 0) = false:=by simp; omega
 have e1 : decide ((n : Int) < 0) = false:=by simp
 have hw1 : IntKind.u64.wrap (n : Int) = (n : Int):=by rw [IntKind.wrap_u64]; omega
 clear hB hW1 hc hc2
 go_enter Tryz.func20,Tryz.ntmps20
 go_upto_region 1 with fail
 simp only [HB.out]
 rw [HW.out]
 go_wp2_with fail
 refine wp_loop_rounds 2 ?_
 rw [rounds_succ]
 go_upto_region 7 with fail
 go_quiet (fail)
 go_wp2_with fail
 rw [rounds_succ]
 go_upto_region 8 with fail
 generalize hX : W1.drewN _ = W2
 have b2' : Below W1.heap.size W1 W2:=by rw [<- hX]; exact below_drewN2 (Below.refl _ _) _
 have hs2:=b2'.size
 have b2 : Below B w W2:=b1.trans (b2'.mono (by omega))
 have q2:=q1.below b2' (by omega)
 clear hX
 refine region_plain (fun W' => Below W2.heap.size W2 W') [11] (by kernel_rfl) ?_
 have qS : (fun W' => Below W2.heap.size W2 W') W2.drew:=below_quiet (Below.refl _ _)
 refine wpAnyD_tp (i:=0) (v:=.int .i64 (n : Int)) rfl qS ?_
 refine wpAnyD_tp (i:=1) (v:=.int .u64 1) rfl qS ?_
 refine wpAnyD_tk (i:=2) (v:=.int .i64 1) rfl (.inl ⟨by kernel_rfl,fun W' hS => by have w1 : IntKind.i64.wrap 1 = 1:=IntWalk.i64_in _ (by omega); go_simp⟩) qS ?_
 refine wpAnyD_tk (i:=3) (v:=.int .i64 (n : Int)) rfl (.inl ⟨by kernel_rfl,fun W' hS => by have wn : IntKind.i64.wrap (n : Int) = (n : Int):=IntWalk.i64_in _ (by omega); go_simp⟩) qS ?_
 refine wpAnyD_tp (i:=5) (v:=.int .i64 1) rfl qS ?_
 refine wpAnyD_tp (i:=6) (v:=.int .u64 1) rfl qS ?_
 refine wpAnyD_tk (i:=7) (v:=.int .i64 1) rfl (.inl ⟨by kernel_rfl,fun W' hS => by have w1 : IntKind.i64.wrap 1 = 1:=IntWalk.i64_in _ (by omega); go_simp⟩) qS ?_
 refine wpAnyD_tk (i:=8) (v:=.int .i64 1) rfl (.inl ⟨by kernel_rfl,fun W' hS => by have wn : IntKind.i64.wrap 1 = 1:=IntWalk.i64_in _ (by omega); go_simp⟩) qS ?_
 refine wpAnyD_on (i:=4) rfl ?_
 go_simp
 refine (HC.out _).mono ?_
 rintro e w3 ⟨v3,rfl,hl3,hb3,hn3⟩
 have qS3 : Below W2.heap.size W2 w3:=qS.trans (hb3.mono qS.size)
 obtain ⟨a3,c3,rfl,_⟩:=hl3.form
 have HL3:=Lib.hid hl3
 clear hl3
 go_simp
 refine wpAnyD_on (i:=9) rfl ?_
 go_simp
 refine (HC2.out _).mono ?_
 rintro e w4 ⟨v4,rfl,hl4,hb4,hn4⟩
 have qS4 : Below W2.heap.size W2 w4:=qS3.trans (hb4.mono qS3.size)
 obtain ⟨a4,c4,rfl,_⟩:=hl4.form
 have HL4:=Lib.hid hl4
 have hn43 : NewV W2.heap.size (.slice a3 1 c3):=hn3
 have hn44 : NewV W2.heap.size (.slice a4 1 c4):=hn4.mono qS3.size
 have HL34:=Lib.hid (HL3.out.below hb4 (Nat.le_refl _) hb4.size)
 clear hl4
 go_simp
 refine wpAnyD_tp (i:=10) (v:=Fv (.slice a3 1 c3) (.slice a4 1 c4)) rfl qS4 ?_
 have q4:=q2.below qS4 (by omega)
 obtain ⟨c0,c1,c2,c3'⟩:=q4.four
 have f0:=q4.free 0
 have f1:=q4.free 1
 have f2:=q4.free 2
 have f3:=q4.free 3
 refine wpAnyD_on (i:=11) rfl ?_
 go_simp
 refine wpAnyD_done (by kernel_rfl) ?_ _
 clear c0 c1 c2 c3' f0 f1 f2 f3
 have b4 : Below B w w4:=b2.trans (qS4.mono (by omega))
 have hs4:=qS4.size
 have x5:=(((q4.set (i:=0) (.bool false)).set (i:=1) (.slice a3 1 c3)).set (i:=2) (.bool false)).set (i:=3) (.slice a4 1 c4)
 obtain ⟨e0,e1,e2,e3⟩:=x5.four
 go_wp2_with fail
 refine bodyPost_ret (v:=Fv (.slice a3 1 c3) (.slice a4 1 c4)) (by simp [results,Tryz.results20,go_sem,e0,e1,e2,e3]) rfl ?_
 exact ⟨_,_,rfl,⟨_,_,rfl⟩,⟨_,_,rfl⟩,lm_put HL34.out hn43 (show B < W2.heap.size by omega) (grown_set4 _ _ _ _ _ _) (by rw [size_set4]; exact Nat.le_refl _),lm_put HL4.out hn44 (show B < W2.heap.size by omega) (grown_set4 _ _ _ _ _ _) (by rw [size_set4]; exact Nat.le_refl _),(((b4.setCell (p:=⟨B,0,none⟩) (by simp) _).setCell (p:=⟨B,1,none⟩) (by simp) _).setCell (p:=⟨B,2,none⟩) (by simp) _).setCell (p:=⟨B,3,none⟩) (by simp) _,hn43.mono (by omega),hn44.mono (by omega)⟩
theorem kfrac12_any (w : World) :
  Calls Tryz.prog 20 #[.int .i64 1,.int .i64 2] w fun e w' => ∃ u v,e = .returned (Fv u v) /\ (∃ a c,u = .slice a 1 c) /\ (∃ a c,v = .slice a 1 c) /\ Lm w'.heap.size w' u [1] /\ Lm w'.heap.size w' v [2] /\ Below w.heap.size w w' /\ NewV w.heap.size u /\ NewV w.heap.size v:=by
 obtain ⟨W1,hW1⟩ : ∃ W1,w.alloc (.cells #[.bool false,.slice none 0 0,.bool false,.slice none 0 0] 26) = W1:=⟨_,rfl⟩
 have b1 : Below w.heap.size w W1:=by rw [<- hW1]; exact (Below.refl _ _).alloc (Nat.le_refl _) _
 have q1 : Blk W1 w.heap.size #[.bool false,.slice none 0 0,.bool false,.slice none 0 0] 26:=by rw [<- hW1]; exact Blk.new w _ _
 have s1 : W1.heap.size = w.heap.size + 1:=by rw [<- hW1]; simp
 obtain ⟨B,hB⟩ : ∃ B,w.heap.size = B:=⟨_,rfl⟩
 have HB:=Lib.hid hB
 have HW:=Lib.hid hW1
 rw [hB] at b1 q1 s1 ⊢
 have hc : ∀ W,Calls Tryz.prog 43 #[.int .i64 1] W fun e w' => ∃ v,e = .returned (Wv v) /\ Lm w'.heap.size w' v [1] /\ Below W.heap.size W w' /\ NewV W.heap.size v:=fun W => kwhole_any 1 W (by omega) (by omega)
 have hc2 : ∀ W,Calls Tryz.prog 43 #[.int .i64 2] W fun e w' => ∃ v,e = .returned (Wv v) /\ Lm w'.heap.size w' v [2] /\ Below W.heap.size W w' /\ NewV W.heap.size v:=fun W => kwhole_any 2 W (by omega) (by omega)
 have HC:=Lib.hid hc
 have HC2:=Lib.hid hc2
 clear hB hW1 hc hc2
 go_enter Tryz.func20,Tryz.ntmps20
 go_upto_region 1 with fail
 simp only [HB.out]
 rw [HW.out]
 go_wp2_with fail
 refine wp_loop_rounds 3 ?_
 rw [rounds_succ]
 go_upto_region 7 with fail
 go_quiet (fail)
 go_wp2_with fail
 rw [rounds_succ]
 go_upto_region 7 with fail
 go_quiet (fail)
 go_wp2_with fail
 rw [rounds_succ]
 go_upto_region 8 with fail
 generalize hX : World.drewN _ _ = W2
 have b2' : Below W1.heap.size W1 W2:=by rw [<- hX]; first | exact below_drewN2 (Below.refl _ _) _ | exact below_drewN2 (below_drewN2 (Below.refl _ _) _) _
 have hs2:=b2'.size
 have b2 : Below B w W2:=b1.trans (b2'.mono (by omega))
 have q2:=q1.below b2' (by omega)
 clear hX
 refine region_plain (fun W' => Below W2.heap.size W2 W') [11] (by kernel_rfl) ?_
 have qS : (fun W' => Below W2.heap.size W2 W') W2.drew:=below_quiet (Below.refl _ _)
 refine wpAnyD_tp (i:=0) (v:=.int .i64 1) rfl qS ?_
 refine wpAnyD_tp (i:=1) (v:=.int .u64 1) rfl qS ?_
 refine wpAnyD_tk (i:=2) (v:=.int .i64 1) rfl (.inl ⟨by kernel_rfl,fun W' hS => by have w1 : IntKind.i64.wrap 1 = 1:=IntWalk.i64_in _ (by omega); go_simp⟩) qS ?_
 refine wpAnyD_tk (i:=3) (v:=.int .i64 1) rfl (.inl ⟨by kernel_rfl,fun W' hS => by have wn : IntKind.i64.wrap 1 = 1:=IntWalk.i64_in _ (by omega); go_simp⟩) qS ?_
 refine wpAnyD_tp (i:=5) (v:=.int .i64 2) rfl qS ?_
 refine wpAnyD_tp (i:=6) (v:=.int .u64 1) rfl qS ?_
 refine wpAnyD_tk (i:=7) (v:=.int .i64 1) rfl (.inl ⟨by kernel_rfl,fun W' hS => by have w1 : IntKind.i64.wrap 1 = 1:=IntWalk.i64_in _ (by omega); go_simp⟩) qS ?_
 refine wpAnyD_tk (i:=8) (v:=.int .i64 2) rfl (.inl ⟨by kernel_rfl,fun W' hS => by have wn : IntKind.i64.wrap 2 = 2:=IntWalk.i64_in _ (by omega); go_simp⟩) qS ?_
 refine wpAnyD_on (i:=4) rfl ?_
 go_simp
 refine (HC.out _).mono ?_
 rintro e w3 ⟨v3,rfl,hl3,hb3,hn3⟩
 have qS3 : Below W2.heap.size W2 w3:=qS.trans (hb3.mono qS.size)
 obtain ⟨a3,c3,rfl,_⟩:=hl3.form
 have HL3:=Lib.hid hl3
 clear hl3
 go_simp
 refine wpAnyD_on (i:=9) rfl ?_
 go_simp
 refine (HC2.out _).mono ?_
 rintro e w4 ⟨v4,rfl,hl4,hb4,hn4⟩
 have qS4 : Below W2.heap.size W2 w4:=qS3.trans (hb4.mono qS3.size)
 obtain ⟨a4,c4,rfl,_⟩:=hl4.form
 have HL4:=Lib.hid hl4
 have hn43 : NewV W2.heap.size (.slice a3 1 c3):=hn3
 have hn44 : NewV W2.heap.size (.slice a4 1 c4):=hn4.mono qS3.size
 have HL34:=Lib.hid (HL3.out.below hb4 (Nat.le_refl _) hb4.size)
 clear hl4
 go_simp
 refine wpAnyD_tp (i:=10) (v:=Fv (.slice a3 1 c3) (.slice a4 1 c4)) rfl qS4 ?_
 have q4:=q2.below qS4 (by omega)
 obtain ⟨c0,c1,c2,c3'⟩:=q4.four
 have f0:=q4.free 0
 have f1:=q4.free 1
 have f2:=q4.free 2
 have f3:=q4.free 3
 refine wpAnyD_on (i:=11) rfl ?_
 go_simp
 refine wpAnyD_done (by kernel_rfl) ?_ _
 clear c0 c1 c2 c3' f0 f1 f2 f3
 have b4 : Below B w w4:=b2.trans (qS4.mono (by omega))
 have hs4:=qS4.size
 have x5:=(((q4.set (i:=0) (.bool false)).set (i:=1) (.slice a3 1 c3)).set (i:=2) (.bool false)).set (i:=3) (.slice a4 1 c4)
 obtain ⟨e0,e1,e2,e3⟩:=x5.four
 go_wp2_with fail
 refine bodyPost_ret (v:=Fv (.slice a3 1 c3) (.slice a4 1 c4)) (by simp [results,Tryz.results20,go_sem,e0,e1,e2,e3]) rfl ?_
 exact ⟨_,_,rfl,⟨_,_,rfl⟩,⟨_,_,rfl⟩,lm_put HL34.out hn43 (show B < W2.heap.size by omega) (grown_set4 _ _ _ _ _ _) (by rw [size_set4]; exact Nat.le_refl _),lm_put HL4.out hn44 (show B < W2.heap.size by omega) (grown_set4 _ _ _ _ _ _) (by rw [size_set4]; exact Nat.le_refl _),(((b4.setCell (p:=⟨B,0,none⟩) (by simp) _).setCell (p:=⟨B,1,none⟩) (by simp) _).setCell (p:=⟨B,2,none⟩) (by simp) _).setCell (p:=⟨B,3,none⟩) (by simp) _,hn43.mono (by omega),hn44.mono (by omega)⟩
theorem infoExN : (Tryz.prog.info? 31).map (fun i => i.size) = some 9:=by kernel_rfl
theorem gval4_any (n : Int) (w : World) : Calls Tryz.prog 16 #[.int .u8 4,.int .i64 n] w fun e w' => e = .returned (wholeX 4 n).agg /\ Below w.heap.size w w':=by
 have b1 : Below w.heap.size w (w.alloc (.cells (wholeX 4 n).cells 28)):=(Below.refl _ _).alloc (Nat.le_refl _) _
 have h1c : ∀ u ∈ (wholeX 4 n).cells,u.oneCell' = true:=by simp [Value.oneCell']
 go_enter Tryz.func16,Tryz.ntmps16
 go_upto_region 3 with fail
 go_wp2_with (refine wpList_store_new rfl 28 (.tmp 4) (.tmp 17) rfl (wholeX 4 n).cells _ infoValN rfl h1c w.heap.size rfl rfl rfl ?_)
 refine bodyPost_ret (results_blk rfl _ _ w.heap.size _ _ (Blk.new w _ _) rfl Tryz.underlying28 rfl infoValN) rfl ?_
 exact ⟨rfl,b1⟩
theorem gval2_any (n : Nat) (w : World) (hn : n < 65536) : Calls Tryz.prog 16 #[.int .u8 2,.int .i64 n] w fun e w' => ∃ x : Vv,e = .returned x.agg /\ VlX w'.heap.size w' (num (if n = 0 then [] else [n]) [1]) x /\ NewV w.heap.size x.s1 /\ NewV w.heap.size x.s2 /\ Below w.heap.size w w':=by
 obtain ⟨W1,hW1⟩ : ∃ W1,w.alloc (.cells vv0.cells 28) = W1:=⟨_,rfl⟩
 have b1 : Below w.heap.size w W1:=by rw [<- hW1]; exact (Below.refl _ _).alloc (Nat.le_refl _) _
 have q1 : Blk W1 w.heap.size vv0.cells 28:=by rw [<- hW1]; exact Blk.new w _ _
 have s1 : W1.heap.size = w.heap.size + 1:=by rw [<- hW1]; simp
 have hc : Calls Tryz.prog 20 #[.int .i64 n,.int .i64 1] W1 fun e w' => ∃ au nu mu av mv,e = .returned (Fv (.slice au nu mu) (.slice av 1 mv)) /\ (∀ r,r < W1.heap.size -> ∀ w'',w'.grownBy w'' (some r) -> Lm w''.heap.size w'' (.slice au nu mu) (if n = 0 then [] else [n]) /\ Lm w''.heap.size w'' (.slice av 1 mv) [1]) /\ NewV W1.heap.size (.slice au nu mu) /\ NewV W1.heap.size (.slice av 1 mv) /\ Below W1.heap.size W1 w':=by
  by_cases h0 : n = 0
  ·subst h0
   refine (kfrac0_any W1).mono ?_
   rintro e w' ⟨v,rfl,⟨a,c,rfl⟩,hl,hb,hn⟩
   exact ⟨none,0,0,a,c,rfl,fun r hr w'' hg => ⟨Lm.nil _ _,lm_put hl hn hr hg hg.size⟩,NewV.nil _ _ _,hn,hb⟩
  ·refine (kfrac1_any n W1 (by omega) hn).mono ?_
   rintro e w' ⟨u,v,rfl,⟨a,c,rfl⟩,⟨a',c',rfl⟩,hl,hl',hb,hn,hn'⟩
   exact ⟨a,1,c,a',c',rfl,fun r hr w'' hg => ⟨by rw [if_neg h0]; exact lm_put hl hn hr hg hg.size,lm_put hl' hn' hr hg hg.size⟩,hn,hn',hb⟩
 obtain ⟨L,hL⟩ : ∃ L,(if n = 0 then [] else [n]) = L:=⟨_,rfl⟩
 rw [hL] at hc ⊢
 obtain ⟨B,hB⟩ : ∃ B,w.heap.size = B:=⟨_,rfl⟩
 have HB:=Lib.hid hB
 have HW:=Lib.hid hW1
 rw [hB] at b1 q1 s1 ⊢
 dsimp only [Vv.cells,vv0] at HW
 clear hB hW1 hL
 go_enter Tryz.func16,Tryz.ntmps16
 go_upto_region 1 with fail
 simp only [HB.out]
 rw [HW.out]
 go_wp2_with fail
 refine hc.mono ?_
 rintro e w2 ⟨au,nu,mu,av,mv,rfl,hk,hn1,hn2,hb2⟩
 have q2:=q1.below hb2 (by omega)
 have HK:=Lib.hid hk
 have h1c : ∀ u ∈ (⟨2,false,.slice au nu mu,false,.slice av 1 mv,0⟩ : Vv).cells,u.oneCell' = true:=by simp [Value.oneCell']
 clear hc hk
 go_wp2_with (refine wpList_store_blk rfl 28 28 (.tmp 4) (.tmp 14) rfl (⟨2,false,.slice au nu mu,false,.slice av 1 mv,0⟩ : Vv).cells _ B q2 infoValN rfl h1c rfl rfl ?_; intro W2 t1 t2 t3 t4)
 refine bodyPost_ret (results_blk rfl _ _ B _ _ t1 rfl Tryz.underlying28 rfl infoValN) rfl ?_
 obtain ⟨h1,h2⟩:=HK.out B (by omega) W2 t3
 exact ⟨⟨2,false,.slice au nu mu,false,.slice av 1 mv,0⟩,rfl,⟨rfl,rfl,rfl,rfl,h1,h2⟩,hn1.mono (by omega),hn2.mono (by omega),b1.trans ((hb2.mono (by omega)).trans (t2 B (Nat.le_refl _)))⟩
abbrev conX (kd : Int) (f1 : Bool) (s1 : Sl) (f2 : Bool) (s2 : Sl) (i : Int) : Xv:=⟨1,[],kd,f1,s1,f2,s2,i,⟨none,0,0⟩⟩
theorem gcon_any (kd : Int) (f1 f2 : Bool) (s1 s2 : Sl) (i : Int) (w : World) : Calls Tryz.prog 15 #[(⟨kd,f1,s1.val,f2,s2.val,i⟩ : Vv).agg] w fun e w' => e = .returned (conX kd f1 s1 f2 s2 i).agg /\ Below w.heap.size w w':=by
 obtain ⟨a1,n1,m1⟩:=s1
 obtain ⟨a2,n2,m2⟩:=s2
 have h1c : ∀ u ∈ (conX kd f1 ⟨a1,n1,m1⟩ f2 ⟨a2,n2,m2⟩ i).cells,u.oneCell' = true:=by simp [Value.oneCell']
 obtain ⟨W1,hW1⟩ : ∃ W1,w.alloc (.cells (⟨kd,f1,.slice a1 n1 m1,f2,.slice a2 n2 m2,i⟩ : Vv).cells 28) = W1:=⟨_,rfl⟩
 have q1 : Blk W1 w.heap.size (⟨kd,f1,.slice a1 n1 m1,f2,.slice a2 n2 m2,i⟩ : Vv).cells 28:=by rw [<- hW1]; exact Blk.new w _ _
 have b1 : Below w.heap.size w W1:=by rw [<- hW1]; exact (Below.refl _ _).alloc (Nat.le_refl _) _
 have s1 : W1.heap.size = w.heap.size + 1:=by rw [<- hW1]; simp
 have HW:=Lib.hid hW1
 dsimp only [Vv.cells] at HW
 obtain ⟨c0,c1,c2,c3,c4,c5⟩:=q1.six
 have hlt : w.heap.size < W1.heap.size:=by omega
 have hne : ¬ w.heap.size = W1.heap.size:=by omega
 clear hW1
 go_enter Tryz.func15,Tryz.ntmps15
 go_upto_region 1 with fail
 rw [HW.out]
 go_wp2_with (refine wpList_store_new rfl 31 (.tmp 2) (.tmp 4) rfl (conX kd f1 ⟨a1,n1,m1⟩ f2 ⟨a2,n2,m2⟩ i).cells _ infoExN rfl h1c (w.heap.size + 1) s1.symm rfl rfl ?_)
 have qn : Blk (W1.alloc (.cells (conX kd f1 ⟨a1,n1,m1⟩ f2 ⟨a2,n2,m2⟩ i).cells 31)) (w.heap.size + 1) (conX kd f1 ⟨a1,n1,m1⟩ f2 ⟨a2,n2,m2⟩ i).cells 31:=by
  have := Blk.new W1 (conX kd f1 ⟨a1,n1,m1⟩ f2 ⟨a2,n2,m2⟩ i).cells 31
  rwa [s1] at this
 refine bodyPost_ret (results_blk rfl _ _ (w.heap.size + 1) _ _ qn rfl Tryz.underlying31 rfl infoExN) rfl ?_
 exact ⟨rfl,b1.trans ((Below.refl _ _).alloc (by omega) _)⟩
abbrev opX (o : Int) (s : Sl) : Xv:=⟨o,[],0,false,⟨none,0,0⟩,false,⟨none,0,0⟩,0,s⟩
theorem gop_any (o : Int) (s : Sl) (w : World) : Calls Tryz.prog 14 #[.int .u8 o,s.val] w fun e w' => e = .returned (opX o s).agg /\ Below w.heap.size w w':=by
 obtain ⟨a1,n1,m1⟩:=s
 have h1c : ∀ u ∈ (opX o ⟨a1,n1,m1⟩).cells,u.oneCell' = true:=by simp [Value.oneCell']
 have b1 : Below w.heap.size w (w.alloc (.cells (opX o ⟨a1,n1,m1⟩).cells 31)):=(Below.refl _ _).alloc (Nat.le_refl _) _
 go_enter Tryz.func14,Tryz.ntmps14
 go_upto_region 1 with fail
 go_wp2_with (refine wpList_store_new rfl 31 (.tmp 4) (.tmp 7) rfl (opX o ⟨a1,n1,m1⟩).cells _ infoExN rfl h1c w.heap.size rfl rfl rfl ?_)
 refine bodyPost_ret (results_blk rfl _ _ w.heap.size _ _ (Blk.new w _ _) rfl Tryz.underlying31 rfl infoExN) rfl ?_
 exact ⟨rfl,b1⟩
abbrev todX : Xv:=⟨2,[],0,false,⟨none,0,0⟩,false,⟨none,0,0⟩,0,⟨none,0,0⟩⟩
theorem gref_any (nm : Str) (w : World) : Calls Tryz.prog 13 #[S nm] w fun e w' => ∃ b,e = .returned (⟨5,nm,0,false,⟨none,0,0⟩,false,⟨none,0,0⟩,0,⟨some ⟨b,0,none⟩,1,1⟩⟩ : Xv).agg /\ Blk w' b todX.cells 31 /\ Below w.heap.size w w':=by
 obtain ⟨W1,hW1⟩ : ∃ W1,(w.alloc (.cells xz.cells 31)).alloc (.cells todX.cells 31) = W1:=⟨_,rfl⟩
 have b1 : Below w.heap.size w W1:=by rw [<- hW1]; exact ((Below.refl _ _).alloc (Nat.le_refl _) _).alloc (by simp) _
 have q1 : Blk W1 w.heap.size xz.cells 31:=by rw [<- hW1]; exact (Blk.new w _ _).alloc _
 have q2 : Blk W1 (w.heap.size + 1) todX.cells 31:=by
  rw [<- hW1]
  have := Blk.new (w.alloc (.cells xz.cells 31)) todX.cells 31
  rwa [World.size_alloc] at this
 obtain ⟨B,hB⟩ : ∃ B,w.heap.size = B:=⟨_,rfl⟩
 have HB:=Lib.hid hB
 have HW : Hid ((w.alloc (.cells #[.int .u8 0,.string ⟨#[]⟩,.int .u8 0,.bool false,.slice none 0 0,.bool false,.slice none 0 0,.int .i64 0,.slice none 0 0] 31)).alloc (.cells #[.int .u8 2,.string ⟨#[]⟩,.int .u8 0,.bool false,.slice none 0 0,.bool false,.slice none 0 0,.int .i64 0,.slice none 0 0] 31) = W1):=Lib.hid hW1
 rw [hB] at b1 q1 q2 ⊢
 have h1c : ∀ u ∈ (⟨5,nm,0,false,⟨none,0,0⟩,false,⟨none,0,0⟩,0,⟨some ⟨B + 1,0,none⟩,1,1⟩⟩ : Xv).cells,u.oneCell' = true:=by simp [Value.oneCell']
 clear hB hW1
 go_enter Tryz.func13,Tryz.ntmps13
 go_upto_region 1 with fail
 go_wp2_with (simp only [HB.out]; rw [HW.out]; refine wpList_store_blk rfl 31 31 (.tmp 2) (.tmp 6) rfl (⟨5,nm,0,false,⟨none,0,0⟩,false,⟨none,0,0⟩,0,⟨some ⟨B + 1,0,none⟩,1,1⟩⟩ : Xv).cells _ B q1 infoExN rfl h1c rfl rfl ?_; intro W2 t1 t2 t3 t4)
 refine bodyPost_ret (results_blk rfl _ _ B _ _ t1 rfl Tryz.underlying31 rfl infoExN) rfl ?_
 exact ⟨B + 1,rfl,q2.kept t3 (by simp),b1.trans (t2 B (Nat.le_refl _))⟩
def fewC (s : Sc) : Bool:=(decide (s.cuts.length <= 40) && lightX 60 s.e) && s.cuts.all lightV
def fewS (l : List Sc) : Bool:=decide (l.length <= 20) && l.all fewC
theorem all_no {α : Type} {p : α -> Bool} {l : List α} {x : α} (hx : x ∈ l) (h : p x = false) : l.all p = false:=by
 rw [List.all_eq_false]
 exact ⟨x,hx,by rw [h]; simp⟩
theorem all_take {α : Type} {p : α -> Bool} {l : List α} {i : Nat} {x : α} (hx : l[i]? = some x) (h : (l.take i).all p = true) : (l.take (i + 1)).all p = p x:=by
 rw [List.take_add_one,hx,List.all_append,h]
 simp
theorem few_any (K : Nat) (lv : Value) (l : List Sc) (w : World) (hs : ScsX K w lv l) (hK : K <= w.heap.size) :
  Calls Tryz.prog 4 #[lv] w fun e w' => e = .returned (.bool (fewS l)) /\ Below w.heap.size w w':=by
 obtain ⟨la,lc,rfl,hlc,hlm⟩:=hs.form
 have hlm : l.length <= maxLen:=Nat.le_trans hlc hlm
 clear hlc
 obtain ⟨gy,hrow,hsc⟩:=hs
 unfold maxLen at hlm
 obtain ⟨n,hnn⟩ : ∃ n,l.length = n:=⟨_,rfl⟩
 have HN:=Lib.hid hnn
 obtain ⟨fb,hfb⟩ : ∃ b,fewS l = b:=⟨_,rfl⟩
 have HFB:=Lib.hid hfb
 rw [hfb]
 rw [hnn] at hrow hsc hlm ⊢
 obtain ⟨B,hB⟩ : ∃ B,w.heap.size = B:=⟨_,rfl⟩
 have HB:=Lib.hid hB
 rw [hB] at hK ⊢
 have HROW:=Lib.hid hrow
 have HSC:=Lib.hid hsc
 clear hB hnn hrow hsc hfb
 by_cases h20 : n <= 20
 ·have hd20 : decide (20 < (n : Int)) = false:=by simp; omega
  go_enter Tryz.func4,Tryz.ntmps4
  go_wp2_with fail
  go_loopw [12] (fun iv wr => ∃ i : Nat,i <= n /\ iv = .int .i64 i /\ Hid ((l.take i).all fewC = true) /\ Below B w wr) (fun iv _ => n - (intOf iv).toNat)
  case atStart => exact ⟨0,Nat.zero_le _,rfl,Lib.hid (by rw [List.take_zero]; rfl),Below.refl _ _⟩
  case round =>
   obtain ⟨i,hi,rfl,HT,hbw⟩:=hrel
   obtain ⟨wo,rfl⟩ : ∃ wo : World,wo = wr:=⟨_,rfl⟩
   have hBo : B <= wo.heap.size:=by have := hbw.size; have := HB.out; omega
   have HBW:=Lib.hid hbw
   clear hbw
   by_cases hlt : i < n
   ·obtain ⟨b,o,cap,he,_,_,hbK,hc⟩:=HROW.out.pos (by omega)
    simp only [Value.slice.injEq,true_and] at he
    obtain ⟨rfl,rfl⟩:=he
    have hli : i < l.length:=by rw [HN.out]; exact hlt
    obtain ⟨s,hs⟩ : ∃ s,l[i]?.getD default = s:=⟨_,rfl⟩
    have hsm : s ∈ l:=by rw [<- hs,List.getElem?_eq_getElem hli,Option.getD_some]; exact List.getElem_mem hli
    have hgs : l[i]? = some s:=by rw [<- hs,List.getElem?_eq_getElem hli]; rfl
    have hx:=HSC.out i hlt
    rw [hs] at hx
    have hrg:=sv_range (g:=gy) (cells_below HBW.out (Nat.lt_of_lt_of_le hbK hK) hc) hlt
    obtain ⟨y,hy⟩ : ∃ y,gy i = y:=⟨_,rfl⟩
    rw [hy] at hx hrg
    have H1C : Hid (∀ u ∈ y.cells,u.oneCell' = true):=Lib.hid (by simp [Value.oneCell'])
    have HTK : Hid ((l.take (i + 1)).all fewC = fewC s):=Lib.hid (all_take hgs HT.out)
    have HNO : Hid (fewC s = false -> fb = false):=Lib.hid fun h => by rw [<- HFB.out]; unfold fewS; rw [all_no hsm h,Bool.and_false]
    clear hc hs hsm hgs hy HT
    go_upto_region 6 with (first
     | (refine wpList_load_mid rfl 34 (.tmp 14) rfl b (o + i * 11) rfl y.cells.toList _ hrg Tryz.underlying34 rfl infoScaleN ?_)
     | (refine wpList_store_new rfl 34 (.tmp 4) (.tmp 15) rfl y.cells _ infoScaleN rfl H1C.out wo.heap.size rfl rfl rfl ?_))
    obtain ⟨T,hT⟩ : ∃ T,wo.heap.size = T:=⟨_,rfl⟩
    obtain ⟨W2,hW2⟩ : ∃ W,wo.alloc (.cells y.cells 34) = W:=⟨_,rfl⟩
    have b2 : Below T wo W2:=by rw [<- hW2,<- hT]; exact (Below.refl _ _).alloc (Nat.le_refl _) _
    have q2 : Blk W2 T y.cells 34:=by rw [<- hW2,<- hT]; exact Blk.new wo _ _
    have s2 : W2.heap.size = T + 1:=by rw [<- hW2,<- hT]; simp
    have HW2:=Lib.hid hW2
    have HT:=Lib.hid hT
    rw [hT] at hBo
    have hx2:=hx.below (HBW.out.trans (b2.mono (by omega))) hK (show K <= W2.heap.size by omega)
    obtain ⟨xe,xk,hcuts⟩:=hx2
    obtain ⟨ca,cm,hcf,hcl,hcm⟩:=hcuts.form
    have hcm : s.cuts.length <= maxLen:=Nat.le_trans hcl hcm
    clear hcl
    unfold maxLen at hcm
    rw [hcf] at hcuts
    obtain ⟨gv,hgrow,hgv⟩:=hcuts
    have hle:=lightX_any W2.heap.size 60 s.e y.x W2 xe (Nat.le_refl _) (by decide)
    obtain ⟨lx,hlx⟩ : ∃ b,lightX 60 s.e = b:=⟨_,rfl⟩
    rw [hlx] at hle
    have HLX:=Lib.hid hle
    obtain ⟨cs,hcs⟩ : ∃ cs,s.cuts = cs:=⟨_,rfl⟩
    rw [hcs] at hcf hcm hgrow hgv
    obtain ⟨cn,hcn⟩ : ∃ k,cs.length = k:=⟨_,rfl⟩
    have HCN:=Lib.hid hcn
    rw [hcn] at hcf hcm hgrow hgv
    have HFC : Hid (fewC s = (decide (cn <= 40) && lx && cs.all lightV)):=Lib.hid (by unfold fewC; rw [hcs,hcn,hlx])
    obtain ⟨d0,d1,d2,d3,d4,d5,d6,d7,d8,d9,d10⟩:=q2.eleven
    clear d9 d10
    have q10 : W2.cell? ⟨T,10,none⟩ = some (.slice ca cn cm):=by rw [<- hcf]; exact q2.at (i:=10) rfl
    have HGROW:=Lib.hid hgrow
    have HGV:=Lib.hid hgv
    have HB2 : Hid (Below B w W2):=Lib.hid (HBW.out.trans (b2.mono (by omega)))
    have S2:=Lib.hid s2
    have HQ2:=Lib.hid q2
    rw [HT.out]
    rw [HW2.out]
    clear hT hW2 HW2 q2 b2 hle hlx hcs hcn hcf hgrow hgv xe xk hx hrg H1C HBW s2
    by_cases h40 : cn <= 40
    ·have hd40 : decide (40 < (cn : Int)) = false:=by simp; omega
     go_wp2_with fail
     refine HLX.out.mono ?_
     rintro e w3 ⟨rfl,hb3⟩
     clear HLX d0 d1 d2 d3 d4 d5 d6 d7 d8
     have HB23:=Lib.hid hb3
     have HB3 : Hid (Below B w w3):=Lib.hid (HB2.out.trans (hb3.mono (by have := S2.out; omega)))
     have hT3 : T < w3.heap.size:=by have := hb3.size; have := S2.out; omega
     replace q10 : w3.cell? ⟨T,10,none⟩ = some (.slice ca cn cm):=(hb3.cell (p:=⟨T,10,none⟩) (by have := S2.out; show T < _; omega)).trans q10
     clear hb3
     cases lx with
     | false =>
      have HE : Hid (fb = false):=Lib.hid (HNO.out (by rw [HFC.out]; simp))
      go_wp2_with fail
      go_ret
      exact ⟨by rw [HE.out]; rfl,HB3.out⟩
     | true =>
      go_wp2_with fail
      go_loopw [29] (fun jv wr => ∃ j : Nat,j <= cn /\ jv = .int .i64 j /\ Hid ((cs.take j).all lightV = true) /\ Hid (Below B w wr) /\ Hid (Below W2.heap.size W2 wr) /\ T < wr.heap.size) (fun jv _ => cn - (intOf jv).toNat)
      case atStart => exact ⟨0,Nat.zero_le _,rfl,Lib.hid (by rw [List.take_zero]; rfl),HB3,HB23,hT3⟩
      case round =>
       obtain ⟨j,hj,rfl,HJ,HBI,HBI2,hTi⟩:=hrel
       obtain ⟨wi,rfl⟩ : ∃ wi : World,wi = wr:=⟨_,rfl⟩
       by_cases hjt : j < cn
       ·obtain ⟨vb,vo,vcap,hve,_,_,hvK,hvc⟩:=HGROW.out.pos (by omega)
        simp only [Value.slice.injEq,true_and] at hve
        obtain ⟨rfl,rfl⟩:=hve
        have hjl : j < cs.length:=by rw [HCN.out]; exact hjt
        obtain ⟨v,hv⟩ : ∃ v,cs[j]?.getD v0 = v:=⟨_,rfl⟩
        have hvm : v ∈ cs:=by rw [<- hv,List.getElem?_eq_getElem hjl,Option.getD_some]; exact List.getElem_mem hjl
        have hvs : cs[j]? = some v:=by rw [<- hv,List.getElem?_eq_getElem hjl]; rfl
        have hvx:=HGV.out j hjt
        rw [hv] at hvx
        obtain ⟨v0',v1,v2,v3,v4,v5⟩:=val_cells (g:=gv) (cells_below HBI2.out hvK hvc) hjt
        obtain ⟨x,hx⟩ : ∃ x,gv j = x:=⟨_,rfl⟩
        rw [hx] at hvx v0' v1 v2 v3 v4 v5
        obtain ⟨a1,c1,e1,_⟩:=hvx.n.form
        obtain ⟨a2,c2,e2,_⟩:=hvx.d.form
        obtain ⟨n1,hn1⟩ : ∃ n,v.l1.length = n:=⟨_,rfl⟩
        obtain ⟨n2,hn2⟩ : ∃ n,v.l2.length = n:=⟨_,rfl⟩
        rw [hn1] at e1
        rw [hn2] at e2
        clear hn1 hn2 hx
        obtain ⟨xk,f1,s1,f2,s2,xi⟩:=x
        dsimp only at e1 e2 v0' v1 v2 v3 v4 v5
        subst e1 e2
        obtain ⟨x,hx⟩ : ∃ x : Vv,x = ⟨xk,f1,.slice a1 n1 c1,f2,.slice a2 n2 c2,xi⟩:=⟨_,rfl⟩
        rw [<- hx] at hvx
        obtain ⟨W5,hW5⟩ : ∃ W,wi.alloc (.cells x.cells 28) = W:=⟨_,rfl⟩
        have b5 : Below wi.heap.size wi W5:=by rw [<- hW5]; exact (Below.refl _ _).alloc (Nat.le_refl _) _
        have s5 : W5.heap.size = wi.heap.size + 1:=by rw [<- hW5]; simp
        have hlv:=light_any W5.heap.size v x W5 ((hvx.below HBI2.out (Nat.le_refl _) HBI2.out.size).below b5 (Nat.le_refl _) b5.size)
        have HTJ : Hid ((cs.take (j + 1)).all lightV = lightV v):=Lib.hid (all_take hvs HJ.out)
        have HNJ : Hid (lightV v = false -> fb = false):=Lib.hid fun h => HNO.out (by rw [HFC.out,all_no hvm h,Bool.and_false])
        obtain ⟨bv,hbv⟩ : ∃ b,lightV v = b:=⟨_,rfl⟩
        rw [hbv] at hlv HTJ HNJ
        rw [hx] at hW5 hlv
        have HLV:=Lib.hid hlv
        dsimp only [Vv.cells] at hW5
        have HW5:=Lib.hid hW5
        have HBI5 : Hid (Below B w W5):=Lib.hid (HBI.out.trans (b5.mono (by have := HBI.out.size; have := HB.out; omega)))
        have HBI25 : Hid (Below W2.heap.size W2 W5):=Lib.hid (HBI2.out.trans (b5.mono HBI2.out.size))
        have hT5 : T < W5.heap.size:=by omega
        have HS5:=Lib.hid s5
        clear hlv hW5 b5 hvc hv hvm hvs hvx hx hbv HJ s5
        go_wp2_with fail
        rw [HW5.out]
        go_wp2_with fail
        refine HLV.out.mono ?_
        rintro e w6 ⟨rfl,hb6⟩
        have HB6 : Hid (Below B w w6):=Lib.hid (HBI5.out.trans (hb6.mono (by have := HBI5.out.size; have := HB.out; omega)))
        have HB26 : Hid (Below W2.heap.size W2 w6):=Lib.hid (HBI25.out.trans (hb6.mono HBI25.out.size))
        have hT6 : T < w6.heap.size:=by have := hb6.size; omega
        clear hb6 HLV
        cases bv with
        | false =>
         have HE : Hid (fb = false):=Lib.hid (HNJ.out rfl)
         go_wp2_with fail
         go_ret
         exact ⟨by rw [HE.out]; rfl,HB6.out⟩
        | true =>
         go_wp2_with fail
         exact ⟨⟨j + 1,by omega,by go_num,HTJ,HB6,HB26,hT6⟩,by simp [intOf]; omega⟩
       ·obtain rfl : j = cn:=by omega
        have HT1 : Hid ((l.take (i + 1)).all fewC = true):=Lib.hid (by
         rw [HTK.out,HFC.out]
         have := HJ.out
         rw [<- HCN.out,List.take_length] at this
         rw [this,decide_eq_true h40]; rfl)
        go_wp2_with fail
        exact ⟨⟨i + 1,by omega,by go_num,HT1,HBI.out⟩,by simp [intOf]; omega⟩
    ·have hd40 : decide (40 < (cn : Int)) = true:=by simp; omega
     have HE : Hid (fb = false):=Lib.hid (HNO.out (by rw [HFC.out,decide_eq_false h40]; rfl))
     go_wp2_with fail
     go_ret
     exact ⟨by rw [HE.out]; rfl,HB2.out⟩
   ·obtain rfl : i = n:=by omega
    have HE : Hid (fb = true):=Lib.hid (by
     rw [<- HFB.out]
     unfold fewS
     have := HT.out
     rw [<- HN.out,List.take_length] at this
     rw [this,HN.out,decide_eq_true h20]; rfl)
    go_wp2_with fail
    go_ret
    exact ⟨by rw [HE.out]; rfl,HBW.out⟩
 ·have hd20 : decide (20 < (n : Int)) = true:=by simp; omega
  have HE : Hid (fb = false):=Lib.hid (by rw [<- HFB.out]; unfold fewS; rw [HN.out,decide_eq_false h20]; rfl)
  go_enter Tryz.func4,Tryz.ntmps4
  go_wp2_with fail
  go_ret
  exact ⟨by rw [HE.out]; rfl,Below.refl _ _⟩
theorem gsampleO_any (K : Nat) (s : Sc) (y : Sv) (c : Nat) (w : World) (hs : ScX K w s y) (hK : K <= w.heap.size) (hgo : ∀ v ∈ s.cuts,v.good = true) (hok : s.okB = true) (e0 : (s.kd == 0) = false) (hp : s.poss c = true) (hodd : c % 2 = 1) :
  Calls Tryz.prog 9 #[y.agg,.int .i64 c] w fun e w' => ∃ z : Vv,e = .returned (.tuple #[z.agg,.bool true]) /\ Zed (Btw w.heap.size w'.heap.size) w' (fun K W => VlX K W (s.cuts[c / 2]?.getD v0) z) /\ Below w.heap.size w w':=by
 have hn32:=okB_len hok
 have hcn : c < 2 * s.cuts.length + 1:=by
  unfold Sc.poss cntN at hp
  rw [if_neg (by simpa using e0)] at hp
  simp only [Bool.and_eq_true,decide_eq_true_eq] at hp
  omega
 have hn1 : 1 <= s.cuts.length:=by omega
 obtain ⟨W1,hW1⟩ : ∃ W1,(w.alloc (.cells y.cells 34)).alloc (.cells vv0.cells 28) = W1:=⟨_,rfl⟩
 have b1 : Below w.heap.size w W1:=by rw [<- hW1]; exact ((Below.refl _ _).alloc (Nat.le_refl _) _).alloc (by simp) _
 have q1 : Blk W1 w.heap.size y.cells 34:=by rw [<- hW1]; exact (Blk.new w _ _).alloc _
 have q2 : Blk W1 (w.heap.size + 1) vv0.cells 28:=by
  rw [<- hW1]
  have := Blk.new (w.alloc (.cells y.cells 34)) vv0.cells 28
  rwa [World.size_alloc] at this
 have s1 : W1.heap.size = w.heap.size + 2:=by rw [<- hW1]; simp
 obtain ⟨B,hB⟩ : ∃ B,w.heap.size = B:=⟨_,rfl⟩
 have HB:=Lib.hid hB
 have HW:=Lib.hid hW1
 rw [hB] at hK b1 q1 q2 s1 ⊢
 dsimp only [Vv.cells,vv0] at HW
 have hv:=gvalid_any B s y W1 (hs.below b1 hK hK) (by omega) hgo (by omega)
 rw [hok] at hv
 have hpo : ∀ W,Below W1.heap.size W1 W -> Calls Tryz.prog 23 #[.pointer (some ⟨B,0,none⟩),.int .i64 (c : Int)] W fun e w' => e = .returned (.bool true) /\ Below W.heap.size W w':=fun W hb => by
  have h3:=hb.size
  have h2:=(q1.below hb q1.lt)
  have := gposs_any B B 0 y.c.val s c W ((hs.cuts.below b1 hK hK).below hb (by omega) (Nat.le_refl _)) (by omega) (by omega) (by rw [Nat.zero_add,<- hs.kd]; exact h2.at rfl) (by rw [Nat.zero_add]; exact h2.at rfl) (by omega) (okB_cuts hok)
  rw [hp] at this
  exact this.mono (by rintro e w' ⟨rfl,h⟩; exact ⟨rfl,h⟩)
 have HPO:=Lib.hid hpo
 have hcx:=hs.cuts.below b1 hK hK
 have hkd:=hs.kd
 obtain ⟨g,hrow,hgs⟩:=hcx
 obtain ⟨cb,co,ccap,hse,_,hcm,hcb,hccl⟩:=hrow.pos (by omega)
 obtain ⟨⟨yop,ynm,yk,yb3,⟨y4,y4n,y4m⟩,yb5,⟨y6,y6n,y6m⟩,yi7,⟨y8,y8n,y8m⟩⟩,sk,⟨ca,cn,cm⟩⟩:=y
 simp only [Sl.val,Value.slice.injEq] at hse
 obtain ⟨rfl,rfl,rfl⟩:=hse
 dsimp only at hkd
 subst hkd
 obtain ⟨m,hm⟩ : ∃ m,c / 2 = m:=⟨_,rfl⟩
 have hq2 : Int.tdiv (c : Int) 2 = (m : Int):=by rw [Int.tdiv_eq_ediv_of_nonneg (by omega)]; omega
 have hall : ∀ j,j < s.cuts.length -> (s.cuts[j]?.getD v0).good = true /\ True:=fun j hj => by
  have h1 : s.cuts[j]?.getD v0 ∈ s.cuts:=by rw [List.getElem?_eq_getElem hj]; exact List.getElem_mem hj
  exact ⟨hgo _ h1,trivial⟩
 have hform : ∀ j,j < s.cuts.length -> ∃ a1 n1 m1 a2 n2 m2,g j = ⟨(g j).kd,(g j).b1,.slice a1 n1 m1,(g j).b2,.slice a2 n2 m2,(g j).i⟩:=fun j hj => by
  have h6:=hgs j hj
  obtain ⟨a1,m1,h7,_⟩:=h6.n.form
  obtain ⟨a2,m2,h8,_⟩:=h6.d.form
  exact ⟨a1,_,m1,a2,_,m2,by rw [<- h7,<- h8]⟩
 have HAL:=Lib.hid hall
 have HFO:=Lib.hid hform
 have HGS:=Lib.hid hgs
 have HCC:=Lib.hid hccl
 have HQ1:=Lib.hid q1
 have HQ2:=Lib.hid q2
 obtain ⟨n,hn⟩ : ∃ n,s.cuts.length = n:=⟨_,rfl⟩
 have HN:=Lib.hid hn
 obtain ⟨kd,hkd⟩ : ∃ kd,s.kd = kd:=⟨_,rfl⟩
 have HKD:=Lib.hid hkd
 rw [hm]
 rw [hn] at hv hn32 hn1 hcn HW HCC HAL HFO HGS HQ1 ⊢
 rw [hkd] at hv e0 HW HQ1 ⊢
 have HM:=Lib.hid hm
 obtain ⟨d0,d1,d2,d3,d4,d5,d6,d7,d8,d9,d10⟩:=HQ1.out.eleven
 clear hB hW1 hs hgo hok hp hpo hrow hgs hccl q1 q2 hall hform hn hkd
 go_enter Tryz.func9,Tryz.ntmps9
 go_upto_region 1 with fail
 simp only [HB.out]
 rw [HW.out]
 go_wp2_with fail
 refine hv.mono ?_
 rintro e w2 ⟨rfl,hb2⟩
 clear hv d0 d1 d2 d3 d4 d5 d6 d7 d8 d9 d10
 go_wp2_with fail
 refine (HPO.out w2 hb2).mono ?_
 rintro e w3 ⟨rfl,hb3⟩
 have b3' : Below W1.heap.size W1 w3:=hb2.trans (hb3.mono hb2.size)
 have b3 : Below B w w3:=b1.trans (b3'.mono (by omega))
 have hs3:=b3'.size
 clear hb2 hb3
 have hq1:=HQ1.out.below b3' (by omega)
 have hq2':=HQ2.out.below b3' (by omega)
 have d9:=hq1.at (i:=9) (x:=.int .u8 kd) rfl
 have d10:=hq1.at (i:=10) (x:=.slice (some ⟨cb,co,none⟩) n cm) rfl
 have HCC3 : Hid (∀ j,j < n -> w3.rangeAt cb (co + j * 6) (g j).cells.toList):=Lib.hid fun j hj => vv_range (cells_below b3' (by omega) HCC.out) hj
 have cb3 : cb < w3.heap.size:=by omega
 ·have hr1 : Int.tmod (c : Int) 2 = 1:=by rw [Int.tmod_eq_emod_of_nonneg (by omega)]; omega
  have hmn : m < n:=by omega
  obtain ⟨hgd,_⟩:=HAL.out m hmn
  have hcv:=copyValue_any w3.heap.size (s.cuts[m]?.getD v0) (g m) w3 ((HGS.out m hmn).below b3' (by omega) (by omega)) hgd (Nat.le_refl _)
  obtain ⟨a1,n1,m1,a2,n2,m2,hgf⟩:=HFO.out m hmn
  have hrg:=HCC3.out m hmn
  obtain ⟨gk,gb1,gb2,gi,hgm⟩ : ∃ gk gb1 gb2 gi,g m = ⟨gk,gb1,.slice a1 n1 m1,gb2,.slice a2 n2 m2,gi⟩:=⟨_,_,_,_,hgf⟩
  rw [hgm] at hcv hrg
  have HRG:=Lib.hid hrg
  clear hgf hgm hrg hgd hm
  go_wp2_with (refine wpList_load_mid rfl 28 (.tmp 30) rfl cb (co + m * 6) rfl (⟨gk,gb1,.slice a1 n1 m1,gb2,.slice a2 n2 m2,gi⟩ : Vv).cells.toList _ HRG.out Tryz.underlying28 rfl infoValN ?_)
  refine hcv.mono ?_
  rintro e w4 ⟨z,rfl,hz,hb4⟩
  clear hcv
  have hz0:=hz.get fun b hb => hb.2
  obtain ⟨b1a,b1m,hf1,_⟩:=hz0.n.form
  obtain ⟨b2a,b2m,hf2,_⟩:=hz0.d.form
  obtain ⟨x1,hx1⟩ : ∃ x,(s.cuts[m]?.getD v0).l1.length = x:=⟨_,rfl⟩
  obtain ⟨x2,hx2⟩ : ∃ x,(s.cuts[m]?.getD v0).l2.length = x:=⟨_,rfl⟩
  rw [hx1] at hf1
  rw [hx2] at hf2
  obtain ⟨zk,zb1,zs1,zb2,zs2,zi⟩:=z
  dsimp only at hf1 hf2
  subst hf1 hf2
  have hs4:=hb4.size
  have q4:=hq2'.below hb4 (by omega)
  have h1c : ∀ u ∈ (⟨zk,zb1,.slice b1a x1 b1m,zb2,.slice b2a x2 b2m,zi⟩ : Vv).cells,u.oneCell' = true:=by simp [Value.oneCell']
  have HZ:=Lib.hid hz
  have HQ4:=Lib.hid q4
  clear hz hz0 hx1 hx2 hq1 hq2' q4 d9 d10
  go_wp2_with (refine wpList_store_blk rfl 28 28 (.tmp 4) (.tmp 32) rfl (⟨zk,zb1,.slice b1a x1 b1m,zb2,.slice b2a x2 b2m,zi⟩ : Vv).cells _ (B + 1) HQ4.out infoValN rfl h1c rfl rfl ?_; intro W2 t1 t2 t3 t4)
  refine bodyPost_ret (v:=.tuple #[(⟨zk,zb1,.slice b1a x1 b1m,zb2,.slice b2a x2 b2m,zi⟩ : Vv).agg,.bool true]) ?_ rfl ?_
  ·obtain ⟨e0,e1,e2,e3,e4,e5⟩:=t1.six
   simp [results,Tryz.results9,go_sem,e0,e1,e2,e3,e4,e5]
  exact ⟨_,rfl,(HZ.out.move (agr_grown t3 (fun b hb => hb.2) fun b hb h => by cases hb; have := h.1; omega)).mono fun b hb => ⟨by have := hb.1; omega,Nat.lt_of_lt_of_le hb.2 t3.size⟩,b3.trans ((hb4.mono (by omega)).trans (t2 B (by omega)))⟩
theorem wp_store_blkD {op : Oper} {a : Act} {w : World} {K : Act -> World -> Prop} {Q : Exit -> Act -> World -> Prop} (ty t : TypeId) (x y : Operand) (ho : op.op = .store ty x y) (cs old : Array Value) (b : Nat)
  (hq : Blk w b old t) (hi : (Tryz.prog.info? ty).map (fun i => i.size) = some cs.size) (hsz : old.size = cs.size) (h1 : ∀ v ∈ cs,v.oneCell' = true)
  (hx : a.eval x = .pointer (some ⟨b,0,none⟩)) (hy : a.eval y = .agg cs)
  (h : ∀ W',Blk W' b cs t -> (∀ B,B <= b -> Below B w W') -> w.grownBy W' (some b) -> W'.heap.size = w.heap.size -> K (a.put op.dst undef) W') : op.wp Tryz.prog a w K Q:=by
 have hs : (w.setRow b cs).heap.size = w.heap.size:=by simp [World.setRow]
 refine wp_store_row ty x y ho b cs hx hy t old hq hi hsz (by rw [Array.all_eq_true_iff_forall_mem]; exact h1) ?_
 exact h _ (setRow_heap w b old cs t _ hq) (fun B hB => ⟨rfl,rfl,rfl,Nat.le_of_eq hs.symm,fun k hk => setRow_other w b k cs (by omega)⟩) ⟨rfl,rfl,rfl,Nat.le_of_eq hs.symm,fun k _ hk => setRow_other w b k cs (fun e => hk (by rw [e]))⟩ hs
end Go.Proofs.YtlldjmagbjjeoaaGreat
