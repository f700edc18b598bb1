/- Contracts and plain laws, several texts in one (GWhole2, GFrac, GFrac2, GFCmp, GCond, GTime). No conditions beyond those stated. -/
import Derived.Test.YtlldjmagbjjeoaaGreatPk3
set_option maxRecDepth 100000
set_option maxHeartbeats 40000000
namespace Go.Proofs.YtlldjmagbjjeoaaGreat
open Go.RowKit
set_option linter.unusedVariables false
theorem alloc4 (w : World) (c0 c1 c2 c3 : Array Value) (t0 t1 t2 t3 : TypeId) {W : World} (h : (((w.alloc (.cells c0 t0)).alloc (.cells c1 t1)).alloc (.cells c2 t2)).alloc (.cells c3 t3) = W) :
  Below w.heap.size w W /\ Blk W w.heap.size c0 t0 /\ Blk W (w.heap.size + 1) c1 t1 /\ Blk W (w.heap.size + 2) c2 t2 /\ Blk W (w.heap.size + 3) c3 t3 /\ W.heap.size = w.heap.size + 4:=by
 subst h
 have q1:=Blk.new (w.alloc (.cells c0 t0)) c1 t1
 have q2:=Blk.new ((w.alloc (.cells c0 t0)).alloc (.cells c1 t1)) c2 t2
 have q3:=Blk.new (((w.alloc (.cells c0 t0)).alloc (.cells c1 t1)).alloc (.cells c2 t2)) c3 t3
 simp only [World.size_alloc] at q1 q2 q3
 exact ⟨((((Below.refl _ w).alloc (Nat.le_refl _) _).alloc (by simp) _).alloc (by simp; omega) _).alloc (by simp; omega) _,(((Blk.new w c0 t0).alloc _).alloc _).alloc _,(q1.alloc _).alloc _,q2.alloc _,q3,by simp⟩
theorem alloc3 (w : World) (c0 c1 c2 : Array Value) (t0 t1 t2 : TypeId) {W : World} (h : ((w.alloc (.cells c0 t0)).alloc (.cells c1 t1)).alloc (.cells c2 t2) = W) :
  Below w.heap.size w W /\ Blk W w.heap.size c0 t0 /\ Blk W (w.heap.size + 1) c1 t1 /\ Blk W (w.heap.size + 2) c2 t2 /\ W.heap.size = w.heap.size + 3:=by
 subst h
 have q1:=Blk.new (w.alloc (.cells c0 t0)) c1 t1
 have q2:=Blk.new ((w.alloc (.cells c0 t0)).alloc (.cells c1 t1)) c2 t2
 simp only [World.size_alloc] at q1 q2
 exact ⟨(((Below.refl _ w).alloc (Nat.le_refl _) _).alloc (by simp) _).alloc (by simp; omega) _,((Blk.new w c0 t0).alloc _).alloc _,q1.alloc _,q2,by simp⟩
theorem wmul_any (K : Nat) (u v : Value) (m n : Nat) (w : World) (hu : Wd .u16 K w u m) (hv : Wd .u16 K w v n) (hK : K <= w.heap.size) (hmn : m * n < 65536) (hm : m < 65536) (hn : n < 65536) :
  Calls Tryz.prog 81 #[Wv u,Wv v] w fun e w' => ∃ v',e = .returned (.tuple #[Wv v',.int .i64 0]) /\ Wd .u16 w'.heap.size w' v' (m * n) /\ Below w.heap.size w w' /\ NewV w.heap.size v':=by
 obtain ⟨ua,um,uc,rfl⟩:=hu.form
 obtain ⟨va,vm,vc,rfl⟩:=hv.form
 obtain ⟨W1,hW1⟩ : ∃ W1,(((w.alloc (.cells #[.bool false,.slice ua um uc] 24)).alloc (.cells #[.bool false,.slice va vm vc] 24)).alloc (.cells #[.bool false,.slice none 0 0] 24)).alloc (.cells #[.bool false,.slice ua um uc,.bool false,.slice va vm vc] 24) = W1:=⟨_,rfl⟩
 obtain ⟨b1,q0,q1,q2,q3,s1⟩:=alloc4 w _ _ _ _ _ _ _ _ hW1
 have HW:=Lib.hid hW1
 obtain ⟨B,hB⟩ : ∃ B,w.heap.size = B:=⟨_,rfl⟩
 have HB:=Lib.hid hB
 rw [hB] at hK b1 q0 q1 q2 q3 s1 ⊢
 clear hB hW1
 go_enter Tryz.func81,Tryz.ntmps81
 go_wp2_with fail
 simp only [HB.out,Nat.add_assoc,Nat.reduceAdd]
 rw [HW.out]
 refine (wallvalid_any B (B + 3) _ _ m n W1 (hu.below b1 hK hK) (hv.below b1 hK hK) (by omega) q3).mono ?_
 rintro e w2 ⟨rfl,hb2⟩
 have b2 : Below B w w2:=b1.trans (hb2.mono (by omega))
 have hs2:=hb2.size
 have q0:=q0.below hb2 q0.lt
 have q1:=q1.below hb2 q1.lt
 have q2:=q2.below hb2 q2.lt
 have hu2:=hu.below b2 hK (show K <= w2.heap.size by omega)
 have hv2:=hv.below b2 hK (show K <= w2.heap.size by omega)
 have hu3 : Wd .u16 w2.heap.size w2 (.slice ua um uc) m:=hu2.below (Below.refl w2.heap.size _) (by omega) (by omega)
 have hv3 : Wd .u16 w2.heap.size w2 (.slice va vm vc) n:=hv2.below (Below.refl w2.heap.size _) (by omega) (by omega)
 obtain ⟨d0,d1⟩:=q0.two
 obtain ⟨d2,d3⟩:=q1.two
 go_upto_region 3 with fail
 clear d0 d1 d2 d3
 refine region_plain (fun W' => Below w2.heap.size w2 W') [15,16] (by kernel_rfl) ?_
 have qS : (fun W' => Below w2.heap.size w2 W') w2.drew:=below_quiet (Below.refl _ _)
 refine wpAnyD_tp (i:=0) (v:=.pointer (some ⟨B,0,none⟩)) rfl qS ?_
 refine wpAnyD_tk (i:=1) (v:=.bool false) rfl (.inl ⟨by kernel_rfl,fun W' hS => by have d0:=(q0.below hS q0.lt).at (i:=0) rfl; go_simp⟩) qS ?_
 refine wpAnyD_tp (i:=2) (v:=.pointer (some ⟨B + 1,0,none⟩)) rfl qS ?_
 refine wpAnyD_tk (i:=3) (v:=.bool false) rfl (.inl ⟨by kernel_rfl,fun W' hS => by have d0:=(q1.below hS q1.lt).at (i:=0) rfl; go_simp⟩) qS ?_
 refine wpAnyD_tp (i:=4) (v:=.bool false) rfl qS ?_
 refine wpAnyD_tp (i:=5) (v:=.pointer (some ⟨B,1,none⟩)) rfl qS ?_
 refine wpAnyD_tk (i:=6) (v:=.slice ua um uc) rfl (.inl ⟨by kernel_rfl,fun W' hS => by have d0:=(q0.below hS q0.lt).at (i:=1) rfl; go_simp⟩) qS ?_
 refine wpAnyD_tp (i:=8) (v:=.pointer (some ⟨B + 1,1,none⟩)) rfl qS ?_
 refine wpAnyD_tk (i:=9) (v:=.slice va vm vc) rfl (.inl ⟨by kernel_rfl,fun W' hS => by have d0:=(q1.below hS q1.lt).at (i:=1) rfl; go_simp⟩) qS ?_
 refine wpAnyD_on (i:=7) rfl ?_
 go_simp
 refine (pack_any w2.heap.size _ m _ (hu3.below qS (Nat.le_refl _) (Nat.le_refl _)) qS.size hm).mono ?_
 rintro e w3 ⟨p3,rfl,hp3,hb3⟩
 have qS3 : Below w2.heap.size w2 w3:=qS.trans (hb3.mono qS.size)
 obtain ⟨a3,m3,c3,rfl⟩:=hp3.form
 go_simp
 refine wpAnyD_on (i:=10) rfl ?_
 go_simp
 refine (pack_any w2.heap.size _ n _ (hv3.below qS3 (Nat.le_refl _) (Nat.le_refl _)) qS3.size hn).mono ?_
 rintro e w4 ⟨p4,rfl,hp4,hb4⟩
 have qS4 : Below w2.heap.size w2 w4:=qS3.trans (hb4.mono qS3.size)
 obtain ⟨a4,m4,c4,rfl⟩:=hp4.form
 go_simp
 refine wpAnyD_on (i:=11) rfl ?_
 go_simp
 refine (times_any w4.heap.size _ _ m n _ (hp3.below hb4 (Nat.le_refl _) hb4.size) hp4 (Nat.le_refl _) hmn hm hn).mono ?_
 rintro e w5 ⟨p5,rfl,hp5,hb5⟩
 have qS5 : Below w2.heap.size w2 w5:=qS4.trans (hb5.mono qS4.size)
 obtain ⟨a5,m5,c5,rfl⟩:=hp5.form
 go_simp
 refine wpAnyD_on (i:=12) rfl ?_
 go_simp
 refine (wresult_any w5.heap.size _ (m * n) _ hp5 (Nat.le_refl _) hmn).mono ?_
 rintro e w6 ⟨p6,rfl,hp6,hb6,hnw⟩
 have qS6 : Below w2.heap.size w2 w6:=qS5.trans (hb6.mono qS5.size)
 obtain ⟨a6,m6,c6,rfl⟩:=hp6.form
 go_simp
 refine wpAnyD_tp (i:=13) (v:=Wv (.slice a6 m6 c6)) rfl qS6 ?_
 refine wpAnyD_tp (i:=14) (v:=.int .i64 0) rfl qS6 ?_
 have q2s:=q2.below qS6 q2.lt
 obtain ⟨e0,e1⟩:=q2s.two
 have f0:=q2s.free 0
 have f1:=q2s.free 1
 refine wpAnyD_on (i:=15) rfl ?_
 go_simp
 refine wpAnyD_on (i:=16) rfl ?_
 go_simp
 refine wpAnyD_done (by kernel_rfl) ?_ _
 go_wp2_with fail
 have q3s:=(q2s.set (i:=0) (.bool false)).set (i:=1) (.slice a6 m6 c6)
 obtain ⟨e0,e1⟩:=q3s.two
 refine bodyPost_ret (v:=.tuple #[Wv (.slice a6 m6 c6),.int .i64 0]) (by simp [results,Tryz.results81,go_sem,e0,e1]) rfl ?_
 have hBn : B + 2 < w5.heap.size:=by have := qS5.size; omega
 have ws:=((hp6.set (r:=B + 2) (i:=0) (x:=.bool false) hnw hBn).set (r:=B + 2) (i:=1) (x:=.slice a6 m6 c6) hnw hBn)
 have b6 : Below B w w6:=b2.trans (qS6.mono (by omega))
 exact ⟨_,rfl,ws.below (Below.refl w6.heap.size _) (Nat.le_refl _) (by simp [World.setCell]),(b6.setCell (p:=⟨B + 2,0,none⟩) (by simp) _).setCell (p:=⟨B + 2,1,none⟩) (by simp) _,hnw.mono (by omega)⟩
theorem wgcd_any (K : Nat) (u v : Value) (m n : Nat) (w : World) (hu : Wd .u16 K w u m) (hv : Wd .u16 K w v n) (hK : K <= w.heap.size) (hm : m < 65536) (hn : n < 65536) :
  Calls Tryz.prog 92 #[Wv u,Wv v] w fun e w' => ∃ v',e = .returned (.tuple #[Wv v',.int .i64 0]) /\ Wd .u16 w'.heap.size w' v' (Nat.gcd m n) /\ Below w.heap.size w w' /\ NewV w.heap.size v':=by
 have hg : Nat.gcd m n < 65536:=by
  by_cases h0 : m = 0
  ·subst h0; simpa using hn
  ·have := Nat.gcd_le_left n (show 0 < m by omega); omega
 obtain ⟨ua,um,uc,rfl⟩:=hu.form
 obtain ⟨va,vm,vc,rfl⟩:=hv.form
 obtain ⟨W1,hW1⟩ : ∃ W1,(((w.alloc (.cells #[.bool false,.slice ua um uc] 24)).alloc (.cells #[.bool false,.slice va vm vc] 24)).alloc (.cells #[.bool false,.slice none 0 0] 24)).alloc (.cells #[.bool false,.slice ua um uc,.bool false,.slice va vm vc] 24) = W1:=⟨_,rfl⟩
 obtain ⟨b1,q0,q1,q2,q3,s1⟩:=alloc4 w _ _ _ _ _ _ _ _ hW1
 have HW:=Lib.hid hW1
 obtain ⟨B,hB⟩ : ∃ B,w.heap.size = B:=⟨_,rfl⟩
 have HB:=Lib.hid hB
 rw [hB] at hK b1 q0 q1 q2 q3 s1 ⊢
 clear hB hW1
 go_enter Tryz.func92,Tryz.ntmps92
 go_wp2_with fail
 simp only [HB.out,Nat.add_assoc,Nat.reduceAdd]
 rw [HW.out]
 refine (wallvalid_any B (B + 3) _ _ m n W1 (hu.below b1 hK hK) (hv.below b1 hK hK) (by omega) q3).mono ?_
 rintro e w2 ⟨rfl,hb2⟩
 have b2 : Below B w w2:=b1.trans (hb2.mono (by omega))
 have hs2:=hb2.size
 have q0:=q0.below hb2 q0.lt
 have q1:=q1.below hb2 q1.lt
 have q2:=q2.below hb2 q2.lt
 have hu2:=hu.below b2 hK (show K <= w2.heap.size by omega)
 have hv2:=hv.below b2 hK (show K <= w2.heap.size by omega)
 have hu3 : Wd .u16 w2.heap.size w2 (.slice ua um uc) m:=hu2.below (Below.refl w2.heap.size _) (by omega) (by omega)
 have hv3 : Wd .u16 w2.heap.size w2 (.slice va vm vc) n:=hv2.below (Below.refl w2.heap.size _) (by omega) (by omega)
 obtain ⟨d0,d1⟩:=q0.two
 obtain ⟨d2,d3⟩:=q1.two
 go_upto_region 3 with fail
 clear d0 d1 d2 d3
 refine region_plain (fun W' => Below w2.heap.size w2 W') [8,9] (by kernel_rfl) ?_
 have qS : (fun W' => Below w2.heap.size w2 W') w2.drew:=below_quiet (Below.refl _ _)
 refine wpAnyD_tp (i:=0) (v:=.pointer (some ⟨B,1,none⟩)) rfl qS ?_
 refine wpAnyD_tk (i:=1) (v:=.slice ua um uc) rfl (.inl ⟨by kernel_rfl,fun W' hS => by have d0:=(q0.below hS q0.lt).at (i:=1) rfl; go_simp⟩) qS ?_
 refine wpAnyD_tp (i:=3) (v:=.pointer (some ⟨B + 1,1,none⟩)) rfl qS ?_
 refine wpAnyD_tk (i:=4) (v:=.slice va vm vc) rfl (.inl ⟨by kernel_rfl,fun W' hS => by have d0:=(q1.below hS q1.lt).at (i:=1) rfl; go_simp⟩) qS ?_
 refine wpAnyD_on (i:=2) rfl ?_
 go_simp
 refine (pack_any w2.heap.size _ m _ (hu3.below qS (Nat.le_refl _) (Nat.le_refl _)) qS.size hm).mono ?_
 rintro e w3 ⟨p3,rfl,hp3,hb3⟩
 have qS3 : Below w2.heap.size w2 w3:=qS.trans (hb3.mono qS.size)
 obtain ⟨a3,m3,c3,rfl⟩:=hp3.form
 go_simp
 refine wpAnyD_on (i:=5) rfl ?_
 go_simp
 refine (pack_any w2.heap.size _ n _ (hv3.below qS3 (Nat.le_refl _) (Nat.le_refl _)) qS3.size hn).mono ?_
 rintro e w4 ⟨p4,rfl,hp4,hb4⟩
 have qS4 : Below w2.heap.size w2 w4:=qS3.trans (hb4.mono qS3.size)
 obtain ⟨a4,m4,c4,rfl⟩:=hp4.form
 go_simp
 refine wpAnyD_on (i:=6) rfl ?_
 go_simp
 refine (common_any w4.heap.size _ _ m n _ (hp3.below hb4 (Nat.le_refl _) hb4.size) hp4 (Nat.le_refl _) hm hn).mono ?_
 rintro e w5 ⟨p5,rfl,hp5,hb5⟩
 have qS5 : Below w2.heap.size w2 w5:=qS4.trans (hb5.mono qS4.size)
 obtain ⟨a5,m5,c5,rfl⟩:=hp5.form
 go_simp
 refine wpAnyD_on (i:=7) rfl ?_
 go_simp
 refine (unpack_any w5.heap.size _ _ _ hp5.pre (Nat.le_refl _) hg).mono ?_
 rintro e w6 ⟨p6,rfl,hp6,hb6,hnw⟩
 have qS6 : Below w2.heap.size w2 w6:=qS5.trans (hb6.mono qS5.size)
 obtain ⟨a6,m6,c6,rfl⟩:=hp6.form
 go_simp
 have q2s:=q2.below qS6 q2.lt
 obtain ⟨e0,e1⟩:=q2s.two
 have f0:=q2s.free 0
 have f1:=q2s.free 1
 refine wpAnyD_on (i:=8) rfl ?_
 go_simp
 refine wpAnyD_on (i:=9) rfl ?_
 go_simp
 refine wpAnyD_done (by kernel_rfl) ?_ _
 go_wp2_with fail
 have q3s:=(q2s.set (i:=0) (.bool false)).set (i:=1) (.slice a6 m6 c6)
 obtain ⟨e0,e1⟩:=q3s.two
 refine bodyPost_ret (v:=.tuple #[Wv (.slice a6 m6 c6),.int .i64 0]) (by simp [results,Tryz.results92,go_sem,e0,e1]) rfl ?_
 have hBn : B + 2 < w5.heap.size:=by have := qS5.size; omega
 have ws:=((hp6.set (r:=B + 2) (i:=0) (x:=.bool false) hnw hBn).set (r:=B + 2) (i:=1) (x:=.slice a6 m6 c6) hnw hBn)
 have b6 : Below B w w6:=b2.trans (qS6.mono (by omega))
 exact ⟨_,rfl,ws.below (Below.refl w6.heap.size _) (Nat.le_refl _) (by simp [World.setCell]),(b6.setCell (p:=⟨B + 2,0,none⟩) (by simp) _).setCell (p:=⟨B + 2,1,none⟩) (by simp) _,hnw.mono (by omega)⟩
abbrev Fv (u v : Value) : Value:=.agg #[.bool false,u,.bool false,v]
theorem isone_any (K : Nat) (v : Value) (n : Nat) (w : World) (h : Wd .u16 K w v n) (hK : K <= w.heap.size) : Calls Tryz.prog 85 #[Wv v] w fun e w' => e = .returned (.bool (n == 1)) /\ Below w.heap.size w w':=by
 rcases h with ⟨rfl,a,c,rfl,hc⟩ | ⟨h0,b,o,c,rfl,h1,hc,hb,h5⟩
 ·go_enter Tryz.func85,Tryz.ntmps85
  go_wp2_with fail
  go_ret
  exact ⟨rfl,(Below.refl _ w).alloc (Nat.le_refl _) _⟩
 ·have hlt : b < w.heap.size:=by omega
  have hne : ¬ b = w.heap.size:=by omega
  by_cases hn : n = 1
  ·subst hn
   go_enter Tryz.func85,Tryz.ntmps85
   go_wp2_with fail
   go_ret
   exact ⟨rfl,(Below.refl _ w).alloc (Nat.le_refl _) _⟩
  ·have hx : ((n : Int) == 1) = false:=by simp; omega
   have hy : (n == 1) = false:=by simp; omega
   rw [hy]
   go_enter Tryz.func85,Tryz.ntmps85
   go_wp2_with fail
   go_ret
   exact ⟨rfl,(Below.refl _ w).alloc (Nat.le_refl _) _⟩
theorem Wd.len {q : IntKind} {K : Nat} {w : World} {n : Nat} {a : Option Addr} {m c : Nat} (h : Wd q K w (.slice a m c) n) : m <= 1 /\ (m = 0 ↔ n = 0):=by
 rcases h with ⟨h0,a',c',e,_⟩ | ⟨h0,b',o',c',e,_⟩
 ·simp only [Value.slice.injEq] at e; omega
 ·simp only [Value.slice.injEq] at e; omega
theorem fdivisor_any (K : Nat) (u v : Value) (m n : Nat) (w : World) (hu : Wd .u16 K w u m) (hv : Wd .u16 K w v n) (hK : K <= w.heap.size) (hm : m < 65536) (hn : n < 65536) :
  Calls Tryz.prog 78 #[Wv u,Wv v] w fun e w' => ∃ v',e = .returned (Wv v') /\ Wd .u16 w'.heap.size w' v' (Nat.gcd m n) /\ Below w.heap.size w w' /\ NewV w.heap.size v':=by
 obtain ⟨ua,um,uc,rfl⟩:=hu.form
 obtain ⟨va,vm,vc,rfl⟩:=hv.form
 obtain ⟨W1,hW1⟩ : ∃ W1,((w.alloc (.cells #[.bool false,.slice ua um uc] 24)).alloc (.cells #[.bool false,.slice va vm vc] 24)).alloc (.cells #[.bool false,.slice none 0 0] 24) = W1:=⟨_,rfl⟩
 obtain ⟨b1,q0,q1,q2,s1⟩:=alloc3 w _ _ _ _ _ _ hW1
 have HW:=Lib.hid hW1
 obtain ⟨B,hB⟩ : ∃ B,w.heap.size = B:=⟨_,rfl⟩
 have HB:=Lib.hid hB
 rw [hB] at hK b1 q0 q1 q2 s1 ⊢
 have hc:=wgcd_any B _ _ m n W1 (hu.below b1 hK hK) (hv.below b1 hK hK) (by omega) hm hn
 clear hB hW1
 go_enter Tryz.func78,Tryz.ntmps78
 go_wp2_with fail
 simp only [HB.out,Nat.add_assoc,Nat.reduceAdd]
 rw [HW.out]
 refine hc.mono ?_
 rintro e w2 ⟨p,rfl,hp,hb2,hnw⟩
 obtain ⟨pa,pm,pc,rfl⟩:=hp.form
 have b2 : Below B w w2:=b1.trans (hb2.mono (by omega))
 have hs2:=hb2.size
 have q2:=q2.below hb2 q2.lt
 obtain ⟨d0,d1⟩:=q2.two
 have f0:=q2.free 0
 have f1:=q2.free 1
 have hlt:=q2.lt
 have hne : ¬ B + 2 = w2.heap.size:=by omega
 clear hc
 go_wp2_with fail
 have q3:=((q2.alloc (.cells #[.bool false,.slice pa pm pc] 24)).set (i:=0) (.bool false)).set (i:=1) (.slice pa pm pc)
 have q4:=((q2.set (i:=0) (.bool false)).set (i:=1) (.slice pa pm pc)).alloc (.cells #[.bool false,.slice pa pm pc] 24)
 obtain ⟨e0,e1⟩:=q3.two
 obtain ⟨e2,e3⟩:=q4.two
 refine bodyPost_ret (v:=Wv (.slice pa pm pc)) (by simp [results,Tryz.results78,go_sem,e2,e3]) rfl ?_
 have ws:=((hp.set (r:=B + 2) (i:=0) (x:=.bool false) hnw (by omega)).set (r:=B + 2) (i:=1) (x:=.slice pa pm pc) hnw (by omega))
 have b3:=(((Below.refl B w2).setCell (p:=⟨B + 2,0,none⟩) (by simp) (.bool false)).setCell (p:=⟨B + 2,1,none⟩) (by simp) (.slice pa pm pc)).alloc (by simp [World.setCell]; omega) (.cells #[.bool false,.slice pa pm pc] 24)
 exact ⟨_,rfl,ws.below ((Below.refl _ _).alloc (Nat.le_refl _) _) (by simp [World.setCell]) (by simp [World.setCell]),b2.trans b3,hnw.mono (by omega)⟩
theorem ftimes_any (K : Nat) (u v : Value) (m n : Nat) (w : World) (hu : Wd .u16 K w u m) (hv : Wd .u16 K w v n) (hK : K <= w.heap.size) (hmn : m * n < 65536) (hm : m < 65536) (hn : n < 65536) :
  Calls Tryz.prog 64 #[Wv u,Wv v] w fun e w' => ∃ v',e = .returned (Wv v') /\ Wd .u16 w'.heap.size w' v' (m * n) /\ Below w.heap.size w w' /\ NewV w.heap.size v':=by
 obtain ⟨ua,um,uc,rfl⟩:=hu.form
 obtain ⟨va,vm,vc,rfl⟩:=hv.form
 obtain ⟨W1,hW1⟩ : ∃ W1,((w.alloc (.cells #[.bool false,.slice ua um uc] 24)).alloc (.cells #[.bool false,.slice va vm vc] 24)).alloc (.cells #[.bool false,.slice none 0 0] 24) = W1:=⟨_,rfl⟩
 obtain ⟨b1,q0,q1,q2,s1⟩:=alloc3 w _ _ _ _ _ _ hW1
 have HW:=Lib.hid hW1
 obtain ⟨B,hB⟩ : ∃ B,w.heap.size = B:=⟨_,rfl⟩
 have HB:=Lib.hid hB
 rw [hB] at hK b1 q0 q1 q2 s1 ⊢
 have hc:=wmul_any B _ _ m n W1 (hu.below b1 hK hK) (hv.below b1 hK hK) (by omega) hmn hm hn
 clear hB hW1
 go_enter Tryz.func64,Tryz.ntmps64
 go_wp2_with fail
 simp only [HB.out,Nat.add_assoc,Nat.reduceAdd]
 rw [HW.out]
 refine hc.mono ?_
 rintro e w2 ⟨p,rfl,hp,hb2,hnw⟩
 obtain ⟨pa,pm,pc,rfl⟩:=hp.form
 have b2 : Below B w w2:=b1.trans (hb2.mono (by omega))
 have hs2:=hb2.size
 have q2:=q2.below hb2 q2.lt
 obtain ⟨d0,d1⟩:=q2.two
 have f0:=q2.free 0
 have f1:=q2.free 1
 have hlt:=q2.lt
 have hne : ¬ B + 2 = w2.heap.size:=by omega
 clear hc
 go_wp2_with fail
 have q3:=((q2.alloc (.cells #[.bool false,.slice pa pm pc] 24)).set (i:=0) (.bool false)).set (i:=1) (.slice pa pm pc)
 have q4:=((q2.set (i:=0) (.bool false)).set (i:=1) (.slice pa pm pc)).alloc (.cells #[.bool false,.slice pa pm pc] 24)
 obtain ⟨e0,e1⟩:=q3.two
 obtain ⟨e2,e3⟩:=q4.two
 refine bodyPost_ret (v:=Wv (.slice pa pm pc)) (by simp [results,Tryz.results64,go_sem,e2,e3]) rfl ?_
 have ws:=((hp.set (r:=B + 2) (i:=0) (x:=.bool false) hnw (by omega)).set (r:=B + 2) (i:=1) (x:=.slice pa pm pc) hnw (by omega))
 have b3:=(((Below.refl B w2).setCell (p:=⟨B + 2,0,none⟩) (by simp) (.bool false)).setCell (p:=⟨B + 2,1,none⟩) (by simp) (.slice pa pm pc)).alloc (by simp [World.setCell]; omega) (.cells #[.bool false,.slice pa pm pc] 24)
 exact ⟨_,rfl,ws.below ((Below.refl _ _).alloc (Nat.le_refl _) _) (by simp [World.setCell]) (by simp [World.setCell]),b2.trans b3,hnw.mono (by omega)⟩
theorem flong_any (K : Nat) (u v : Value) (m n : Nat) (w : World) (hu : Wd .u16 K w u m) (hv : Wd .u16 K w v n) : Calls Tryz.prog 82 #[Fv u v] w fun e w' => e = .returned (.bool false) /\ Below w.heap.size w w':=by
 obtain ⟨ua,um,uc,rfl⟩:=hu.form
 obtain ⟨va,vm,vc,rfl⟩:=hv.form
 have h1 : decide ((256 : Int) < (um : Int)) = false:=by have := hu.len; simp; omega
 have h2 : decide ((256 : Int) < (vm : Int)) = false:=by have := hv.len; simp; omega
 go_enter Tryz.func82,Tryz.ntmps82
 go_wp2_with fail
 go_ret
 exact ⟨rfl,(Below.refl _ w).alloc (Nat.le_refl _) _⟩
theorem fintegral_any (K : Nat) (u v : Value) (n : Nat) (w : World) (hu : u.oneCell' = true) (hv : Wd .u16 K w v n) (hK : K <= w.heap.size) : Calls Tryz.prog 84 #[Fv u v] w fun e w' => e = .returned (.bool (n == 1)) /\ Below w.heap.size w w':=by
 obtain ⟨va,vm,vc,rfl⟩:=hv.form
 have b1 : Below w.heap.size w (w.alloc (.cells #[.bool false,u,.bool false,.slice va vm vc] 101)):=(Below.refl _ _).alloc (Nat.le_refl _) _
 have hc:=isone_any w.heap.size _ n _ (hv.below b1 hK hK) (by simp)
 obtain ⟨r,hr⟩ : ∃ r,(n == 1) = r:=⟨_,rfl⟩
 rw [hr] at hc ⊢
 clear hr
 cases u <;> simp [Value.oneCell'] at hu
 all_goals
  go_enter Tryz.func84,Tryz.ntmps84
  go_wp2_with fail
  refine hc.mono ?_
  rintro e w2 ⟨rfl,hb2⟩
  go_wp2_with fail
  go_ret
  exact ⟨rfl,b1.trans (hb2.mono (by simp))⟩
def FrOk (m n : Nat) : Prop:=m < 65536 /\ n < 65536 /\ 0 < n /\ (n = 1 \/ Nat.gcd m n = 1)
theorem fvalid_any (K : Nat) (u v : Value) (m n : Nat) (w : World) (hu : Wd .u16 K w u m) (hv : Wd .u16 K w v n) (hK : K <= w.heap.size) (ho : FrOk m n) :
  Calls Tryz.prog 68 #[Fv u v] w fun e w' => e = .returned (.bool true) /\ Below w.heap.size w w':=by
 obtain ⟨hm,hn,hn0,hg⟩:=ho
 obtain ⟨ua,um,uc,rfl⟩:=hu.form
 obtain ⟨va,vm,vc,rfl⟩:=hv.form
 have hvm : vm = 1:=by have := hv.len; omega
 subst hvm
 obtain ⟨W1,hW1⟩ : ∃ W1,w.alloc (.cells #[.bool false,.slice ua um uc,.bool false,.slice va 1 vc] 101) = W1:=⟨_,rfl⟩
 have q1 : Blk W1 w.heap.size #[.bool false,.slice ua um uc,.bool false,.slice va 1 vc] 101:=by rw [<- hW1]; exact Blk.new w _ _
 have b1 : Below w.heap.size w W1:=by rw [<- hW1]; exact (Below.refl _ _).alloc (Nat.le_refl _) _
 have s1 : W1.heap.size = w.heap.size + 1:=by rw [<- hW1]; simp
 obtain ⟨B,hB⟩ : ∃ B,w.heap.size = B:=⟨_,rfl⟩
 have HB:=Lib.hid hB
 have HW:=Lib.hid hW1
 rw [hB] at hK b1 q1 s1 ⊢
 clear hB hW1
 go_enter Tryz.func68,Tryz.ntmps68
 go_upto_region 1 with fail
 simp only [HB.out]
 rw [HW.out]
 obtain ⟨c0,c1,c2,c3⟩:=q1.four
 go_wp2_with fail
 refine (flong_any B _ _ m n W1 (hu.below b1 hK hK) (hv.below b1 hK hK)).mono ?_
 rintro e w2 ⟨rfl,hb2⟩
 clear c0 c1 c2 c3
 have b2 : Below B w w2:=b1.trans (hb2.mono (by omega))
 have q2:=q1.below hb2 q1.lt
 obtain ⟨c0,c1,c2,c3⟩:=q2.four
 go_wp2_with fail
 refine (wvalid_any B _ m w2 (hu.below b2 hK hK) (by have := hb2.size; omega)).mono ?_
 rintro e w3 ⟨rfl,hb3⟩
 clear c0 c1 c2 c3
 have b3 : Below B w w3:=b2.trans (hb3.mono (by have := hb2.size; omega))
 have q3:=q2.below hb3 q2.lt
 obtain ⟨c0,c1,c2,c3⟩:=q3.four
 have l3:=q3.lt
 go_wp2_with fail
 refine (wvalid_any B _ n w3 (hv.below b3 hK hK) (by omega)).mono ?_
 rintro e w4 ⟨rfl,hb4⟩
 clear c0 c1 c2 c3
 have b4 : Below B w w4:=b3.trans (hb4.mono (by omega))
 have q4:=q3.below hb4 q3.lt
 obtain ⟨c0,c1,c2,c3⟩:=q4.four
 have l4:=q4.lt
 have hi:=fintegral_any B (.slice ua um uc) _ n w4 rfl (hv.below b4 hK hK) (by omega)
 by_cases h1 : n = 1
 ·subst h1
  go_wp2_with fail
  refine hi.mono ?_
  rintro e w5 ⟨rfl,hb5⟩
  go_wp2_with fail
  go_ret
  exact ⟨rfl,b4.trans (hb5.mono (by omega))⟩
 ·have hx : (n == 1) = false:=by simp; omega
  have hgg : Nat.gcd m n = 1:=by omega
  rw [hx] at hi
  go_wp2_with fail
  refine hi.mono ?_
  rintro e w5 ⟨rfl,hb5⟩
  clear c0 c1 c2 c3 hi
  have b5 : Below B w w5:=b4.trans (hb5.mono (by omega))
  have q5:=q4.below hb5 q4.lt
  obtain ⟨c0,c1,c2,c3⟩:=q5.four
  have l5:=q5.lt
  have hd:=fdivisor_any B _ _ m n w5 (hu.below b5 hK hK) (hv.below b5 hK hK) (by omega) hm hn
  rw [hgg] at hd
  clear hgg
  go_wp2_with fail
  refine hd.mono ?_
  rintro e w6 ⟨p,rfl,hp,hb6,_⟩
  have ho:=isone_any w6.heap.size p 1 w6 hp (Nat.le_refl _)
  obtain ⟨pa,pm,pc,rfl⟩:=hp.form
  clear hd
  go_wp2_with fail
  refine ho.mono ?_
  rintro e w7 ⟨rfl,hb7⟩
  go_wp2_with fail
  go_ret
  exact ⟨rfl,b5.trans ((hb6.mono (by omega)).trans (hb7.mono (by have := hb6.size; omega)))⟩
theorem fValid_any (K : Nat) (u v : Value) (m n : Nat) (w : World) (hu : Wd .u16 K w u m) (hv : Wd .u16 K w v n) (hK : K <= w.heap.size) (ho : FrOk m n) :
  Calls Tryz.prog 49 #[Fv u v] w fun e w' => e = .returned (.bool true) /\ Below w.heap.size w w':=by
 have b1 : Below w.heap.size w (w.alloc (.cells #[.bool false,u,.bool false,v] 26)):=(Below.refl _ _).alloc (Nat.le_refl _) _
 have hc:=fvalid_any w.heap.size u v m n _ (hu.below b1 hK hK) (hv.below b1 hK hK) (by simp) ho
 obtain ⟨ua,um,uc,rfl⟩:=hu.form
 obtain ⟨va,vm,vc,rfl⟩:=hv.form
 go_enter Tryz.func49,Tryz.ntmps49
 go_wp2_with fail
 refine hc.mono ?_
 rintro e w2 ⟨rfl,hb2⟩
 go_wp2_with fail
 go_ret
 exact ⟨rfl,b1.trans (hb2.mono (by simp))⟩
theorem fNot_any (K : Nat) (u v : Value) (m n : Nat) (w : World) (hu : Wd .u16 K w u m) (hv : Wd .u16 K w v n) (hK : K <= w.heap.size) (ho : FrOk m n) :
  Calls Tryz.prog 76 #[Fv u v] w fun e w' => e = .returned (.bool false) /\ Below w.heap.size w w':=by
 have b1 : Below w.heap.size w (w.alloc (.cells #[.bool false,u,.bool false,v] 26)):=(Below.refl _ _).alloc (Nat.le_refl _) _
 have hc:=fValid_any w.heap.size u v m n _ (hu.below b1 hK hK) (hv.below b1 hK hK) (by simp) ho
 obtain ⟨ua,um,uc,rfl⟩:=hu.form
 obtain ⟨va,vm,vc,rfl⟩:=hv.form
 go_enter Tryz.func76,Tryz.ntmps76
 go_wp2_with fail
 refine hc.mono ?_
 rintro e w2 ⟨rfl,hb2⟩
 go_wp2_with fail
 go_ret
 exact ⟨rfl,b1.trans (hb2.mono (by simp))⟩
theorem Blk.eight {w : World} {b t : Nat} {x0 x1 x2 x3 x4 x5 x6 x7 : Value} (h : Blk w b #[x0,x1,x2,x3,x4,x5,x6,x7] t) : w.cell? ⟨b,0,none⟩ = some x0 /\ w.cell? ⟨b,1,none⟩ = some x1 /\ w.cell? ⟨b,2,none⟩ = some x2 ∧
  w.cell? ⟨b,3,none⟩ = some x3 /\ w.cell? ⟨b,4,none⟩ = some x4 /\ w.cell? ⟨b,5,none⟩ = some x5 /\ w.cell? ⟨b,6,none⟩ = some x6 /\ w.cell? ⟨b,7,none⟩ = some x7 :=
 ⟨h.at rfl,h.at rfl,h.at rfl,h.at rfl,h.at rfl,h.at rfl,h.at rfl,h.at rfl⟩
theorem idxFrac_any (K b : Nat) (u v x y : Value) (m n p q : Nat) (w : World) (hu : Wd .u16 K w u m) (hv : Wd .u16 K w v n) (hx : Wd .u16 K w x p) (hy : Wd .u16 K w y q) (hK : K <= w.heap.size) (h1 : FrOk m n) (h2 : FrOk p q)
  (hq : Blk w b #[.bool false,u,.bool false,v,.bool false,x,.bool false,y] 26) :
  Calls Tryz.prog 91 #[.slice (some ⟨b,0,none⟩) 2 2,.func (.func 76) #[] #[]] w fun e w' => e = .returned (.int .i64 (-1)) /\ Below w.heap.size w w':=by
 have hcf:=fNot_any K u v m n w hu hv hK h1
 have hb:=hq.lt
 have hc2 : ∀ W,Below w.heap.size w W -> Calls Tryz.prog 76 #[Fv x y] W fun e w' => e = .returned (.bool false) /\ Below W.heap.size W w':=fun W hb => fNot_any W.heap.size x y p q W (hx.below hb hK (Nat.le_trans hK hb.size)) (hy.below hb hK (Nat.le_trans hK hb.size)) (Nat.le_refl _) h2
 obtain ⟨ua,um,uc,rfl⟩:=hu.form
 obtain ⟨va,vm,vc,rfl⟩:=hv.form
 obtain ⟨xa,xm,xc,rfl⟩:=hx.form
 obtain ⟨ya,ym,yc,rfl⟩:=hy.form
 obtain ⟨d0,d1,d2,d3,d4,d5,d6,d7⟩:=hq.eight
 go_enter Tryz.func91,Tryz.ntmps91
 go_wp2_with fail
 refine wp_loop_rounds 3 ?_
 rw [rounds_succ]
 go_wp2_with fail
 refine hcf.mono ?_
 rintro e w2 ⟨rfl,hb2⟩
 clear d0 d1 d2 d3 d4 d5 d6 d7
 obtain ⟨d0,d1,d2,d3,d4,d5,d6,d7⟩:=(hq.below hb2 hb).eight
 go_wp2_with fail
 rw [rounds_succ]
 go_wp2_with fail
 refine (hc2 w2 hb2).mono ?_
 rintro e w3 ⟨rfl,hb3⟩
 go_wp2_with fail
 rw [rounds_succ]
 go_wp2_with fail
 go_ret
 exact ⟨rfl,hb2.trans (hb3.mono hb2.size)⟩
theorem fallvalid_any (K b : Nat) (u v x y : Value) (m n p q : Nat) (w : World) (hu : Wd .u16 K w u m) (hv : Wd .u16 K w v n) (hx : Wd .u16 K w x p) (hy : Wd .u16 K w y q) (hK : K <= w.heap.size) (h1 : FrOk m n) (h2 : FrOk p q)
  (hq : Blk w b #[.bool false,u,.bool false,v,.bool false,x,.bool false,y] 26) :
  Calls Tryz.prog 61 #[.slice (some ⟨b,0,none⟩) 2 2] w fun e w' => e = .returned (.bool true) /\ Below w.heap.size w w':=by
 have hi:=idxFrac_any K b u v x y m n p q w hu hv hx hy hK h1 h2 hq
 have hc : Calls Tryz.prog 75 #[.slice (some ⟨b,0,none⟩) 2 2,.func (.func 76) #[] #[]] w fun e w' => e = .returned (.bool false) /\ Below w.heap.size w w':=by
  go_enter Tryz.func75,Tryz.ntmps75
  go_wp2_with fail
  refine hi.mono ?_
  rintro e w2 ⟨rfl,hb2⟩
  go_wp2_with fail
  go_ret
  exact ⟨rfl,hb2⟩
 clear hi
 go_enter Tryz.func61,Tryz.ntmps61
 go_wp2_with fail
 refine hc.mono ?_
 rintro e w2 ⟨rfl,hb2⟩
 go_wp2_with fail
 go_ret
 exact ⟨rfl,hb2⟩
structure Vq where
 kd : Int
 g1 : Bool
 l1 : List Nat
 g2 : Bool
 l2 : List Nat
 i : Int
deriving DecidableEq,Inhabited
def v0 : Vq:=⟨0,false,[],false,[],0⟩
def lval : List Nat -> Nat
 | [] => 0
 | d :: r => d + 65536 * lval r
def Vq.fr (v : Vq) : Bool:=v.kd == 2 || v.kd == 3
def wOk (m : Nat) (g : Bool) (l : List Nat) : Bool:=if l.length = 0 then !g else decide (l.length <= m) && l[l.length - 1]?.getD 0 != 0
def frOk (g1 : Bool) (l1 : List Nat) (g2 : Bool) (l2 : List Nat) : Bool :=
 decide (l1.length <= 256) && decide (l2.length <= 256) && wOk 1024 g1 l1 && wOk 1024 g2 l2 && !g2 && l2.length != 0 && Nat.gcd (lval l1) (lval l2) == 1
def Vq.ok (v : Vq) : Bool :=
 if v.fr then v.i == 0 && frOk v.g1 v.l1 v.g2 v.l2
 else if v.kd == 1 \/ v.kd == 4 \/ v.kd == 5 \/ v.kd == 6 then
  v.l1.length == 0 && v.l2.length == 0 && !v.g1 && !v.g2 && (if v.kd == 1 then decide (0 <= v.i) && decide (v.i <= 1) else if v.kd == 4 then decide (0 <= v.i) && decide (v.i < 65536) else decide (-1048576 <= v.i) && decide (v.i <= 1048576))
 else false
def Vq.top (v : Vq) : Int:=if v.fr then (if v.g1 then -(lval v.l1 : Int) else lval v.l1) else v.i
def Vq.bot (v : Vq) : Int:=if v.fr then lval v.l2 else 1
def cmpI (a b : Int) : Int:=if a < b then -1 else if b < a then 1 else 0
def vcmp (a b : Vq) : Int:=cmpI (a.top * b.bot) (b.top * a.bot)
def vle (a b : Vq) : Bool:=decide (a.top * b.bot <= b.top * a.bot)
def veq (a b : Vq) : Bool:=decide (a.top * b.bot = b.top * a.bot)
def vlt (a b : Vq) : Prop:=a.top * b.bot < b.top * a.bot
def Vq.good (v : Vq) : Bool:=decide (v.l1.length <= 64) && decide (v.l2.length <= 64)
inductive Gx where
 | mk (op : Int) (nm : Str) (v : Vq) (args : List Gx)
deriving Inhabited
def Gx.op : Gx -> Int | .mk o _ _ _ => o
def Gx.nm : Gx -> Str | .mk _ n _ _ => n
def Gx.v : Gx -> Vq | .mk _ _ v _ => v
def Gx.args : Gx -> List Gx | .mk _ _ _ es => es
mutual
def Gx.parts : Gx -> Nat
 | .mk _ _ _ es => partsL es + 1
def partsL : List Gx -> Nat
 | [] => 0
 | e :: r => e.parts + partsL r
end
mutual
def Gx.depth : Gx -> Nat
 | .mk _ _ _ es => depthL es + 1
def depthL : List Gx -> Nat
 | [] => 0
 | e :: r => max e.depth (depthL r)
end
mutual
def sameG : Gx -> Gx -> Bool
 | .mk o n v es,.mk o' n' v' es' => o == o' && n == n' && v == v' && sameL es es'
def sameL : List Gx -> List Gx -> Bool
 | [],[] => true
 | a :: r,b :: s => sameG a b && sameL r s
 | _,_ => false
end
mutual
theorem sameG_iff : ∀ a b : Gx,sameG a b = true ↔ a = b
 | .mk o n v es,.mk o' n' v' es' => by
  have := sameL_iff es es'
  rw [sameG]
  simp [this,and_assoc]
theorem sameL_iff : ∀ a b : List Gx,sameL a b = true ↔ a = b
 | [],[] => by simp [sameL]
 | [],b :: s => by simp [sameL]
 | a :: r,[] => by simp [sameL]
 | a :: r,b :: s => by
  have h1:=sameG_iff a b
  have h2:=sameL_iff r s
  rw [sameL]
  simp [h1,h2]
end
mutual
def Gx.good : Gx -> Bool
 | .mk _ _ v es => v.good && goodL es
def goodL : List Gx -> Bool
 | [] => true
 | e :: r => e.good && goodL r
end
def Gx.settled (e : Gx) : Bool:=e.op == 1 && e.v.kd == 1 && e.v.ok
def Gx.composed (e : Gx) : Bool:=(e.op == 15 || e.op == 16) && e.args.length == 2 || e.op == 17 && e.args.length == 1 || e.op == 18 && e.args.length == 3
mutual
def Gx.tests : Gx -> List Gx
 | .mk o n v es => if (Gx.mk o n v es).settled then [] else if (Gx.mk o n v es).composed then testsL es else [.mk o n v es]
def testsL : List Gx -> List Gx
 | [] => []
 | e :: r => e.tests ++ testsL r
end
structure Tq where
 sub : Gx
 kd : Int
 cut : Vq
 op : Int
 snd : Bool
deriving Inhabited
def isCut (c s : Gx) : Bool:=c.op == 1 && s.op != 1 && c.v.kd != 1 && c.v.ok
def testOf (e : Gx) : Tq :=
 if (e.op == 13 || e.op == 14) && e.args.length == 2 then
  if isCut (e.args[0]?.getD default) (e.args[1]?.getD default) then ⟨e.args[1]?.getD default,(e.args[0]?.getD default).v.kd,(e.args[0]?.getD default).v,e.op,true⟩
  else if isCut (e.args[1]?.getD default) (e.args[0]?.getD default) then ⟨e.args[0]?.getD default,(e.args[1]?.getD default).v.kd,(e.args[1]?.getD default).v,e.op,false⟩
  else ⟨e,0,v0,0,false⟩
 else ⟨e,0,v0,0,false⟩
structure Sc where
 e : Gx
 kd : Int
 cuts : List Vq
deriving Inhabited
def Tq.belongs (t : Tq) (s : Sc) : Bool:=t.kd == s.kd && sameG t.sub s.e
def srch (l : List Vq) (v : Vq) : Nat:=l.findIdx fun c => vle v c
def fnd (l : List Vq) (v : Vq) : Bool:=decide (srch l v < l.length) && veq (l[srch l v]?.getD v0) v
def insC (l : List Vq) (v : Vq) : Option (List Vq):=if fnd l v then some l else if l.length = 32 then none else some (l.take (srch l v) ++ v :: l.drop (srch l v))
def insS (l : List Sc) (i : Nat) (t : Tq) : Option (List Sc) :=
 if t.kd = 0 then some l else (insC (l[i]?.getD default).cuts t.cut).map fun c => l.set i { (l[i]?.getD default) with cuts:=c }
def addT (l : List Sc) (t : Tq) : Option (List Sc) :=
 let i:=l.findIdx t.belongs
 if i < l.length then insS l i t
 else if l.length = 16 then none
 else insS (l ++ [⟨t.sub,t.kd,[]⟩]) l.length t
def addTs : List Sc -> List Tq -> Option (List Sc)
 | l,[] => some l
 | l,t :: r => (addT l t).bind fun l' => addTs l' r
def fits (e : Gx) : Bool:=decide (e.parts <= 200) && decide (e.depth <= 24)
def scalesS (l : List Gx) : List Sc × Int :=
 if l.all fits then
  match addTs [] ((testsL l).map testOf) with
  | none => ([],5)
  | some s => (s,0)
 else ([],2)
abbrev D16 (n : Nat) : Value:=.int .u16 (n : Int)
def Lm (K : Nat) (w : World) (v : Value) (l : List Nat) : Prop:=RowsV 1 (fun i _ => D16 (l[i]?.getD 0)) K w v l.length /\ ∀ d ∈ l,d < 65536
theorem Lm.below {K K' B : Nat} {w w' : World} {v : Value} {l : List Nat} (h : Lm K w v l) (hb : Below B w w') (hB : K <= B) (hK : K <= K') : Lm K' w' v l:=⟨h.1.below hb hB hK,h.2⟩
theorem Lm.form {K : Nat} {w : World} {v : Value} {l : List Nat} (h : Lm K w v l) : ∃ a cap,v = .slice a l.length cap /\ l.length <= cap /\ cap <= maxLen:=h.1.form
theorem Lm.pos {K : Nat} {w : World} {v : Value} {l : List Nat} (h : Lm K w v l) (hn : 0 < l.length) : ∃ b o cap,v = .slice (some ⟨b,o,none⟩) l.length cap /\ l.length <= cap /\ cap <= maxLen /\ b < K ∧
  ∀ i,i < l.length -> w.cell? ⟨b,o + i,none⟩ = some (D16 (l[i]?.getD 0)):=by
 obtain ⟨b,o,cap,h1,h2,h3,h4,h5⟩:=h.1.pos hn
 exact ⟨b,o,cap,h1,h2,h3,h4,fun i hi => by simpa using h5 i hi 0 (by omega)⟩
theorem Lm.nil (K : Nat) (w : World) : Lm K w (.slice none 0 0) []:=⟨RowsV.nil none 0 (by simp [maxLen]) (fun _ => rfl),fun d h => by cases h⟩
theorem Lm.wd {K m : Nat} {g : Bool} {w : World} {v : Value} {l : List Nat} (h : Lm K w v l) (h1 : l.length <= 1) (h2 : wOk m g l = true) : Wd .u16 K w v (lval l):=by
 match l,h1 with
 | [],_ => obtain ⟨a,c,rfl,_,hc⟩:=h.form; exact .inl ⟨rfl,a,c,rfl,hc⟩
 | [d],_ =>
  obtain ⟨b,o,c,rfl,hn,hm,hb,hc⟩:=h.pos (by simp)
  have hd : d ≠ 0:=by
   unfold wOk at h2
   have h3 : 1 <= m /\ ¬ d = 0:=by simpa using h2
   exact h3.2
  have hc0:=hc 0 (by simp)
  refine .inr ⟨by unfold lval lval; omega,b,o,c,rfl,by simpa using hn,hm,hb,?_⟩
  simpa [lval] using hc0
theorem lval_one (d : Nat) : lval [d] = d:=by simp [lval]
theorem lm_len_ne {l m : List Nat} (h : l.length ≠ m.length) : (l == m) = false:=beq_eq_false_iff_ne.2 fun e => h (by rw [e])
theorem equalLm_any (K : Nat) (u v : Value) (l m : List Nat) (w : World) (hu : Lm K w u l) (hv : Lm K w v m) :
  Calls Tryz.prog 86 #[u,v] w fun e w' => e = .returned (.bool (l == m)) /\ ∃ n,w' = w.drewN n:=by
 obtain ⟨ua,ucap,rfl,hu1,hu2⟩:=id hu.form
 obtain ⟨va,vcap,rfl,hv1,hv2⟩:=id hv.form
 unfold maxLen at hv2 hu2
 by_cases hne : l.length = m.length
 case neg =>
  have HE:=Lib.hid (lm_len_ne hne)
  have hne2 : ¬ ((l.length : Int) = (m.length : Int)):=by omega
  go_enter Tryz.func86,Tryz.ntmps86
  go_wp2_with fail
  go_ret
  exact ⟨by rw [HE.out]; rfl,0,rfl⟩
 case pos =>
 obtain ⟨q,hq⟩ : ∃ q,l.length = q:=⟨_,rfl⟩
 have hq' : m.length = q:=by rw [<- hne,hq]
 have HU:=Lib.hid hu
 have HV:=Lib.hid hv
 rw [hq] at hu1 ⊢
 rw [hq'] at hv1 ⊢
 have HM:=Lib.hid hq
 have HL:=Lib.hid hq'
 clear hq hq' hne hu hv
 have hqq : ((q : Int) != (q : Int)) = false:=by simp
 go_enter Tryz.func86,Tryz.ntmps86
 go_wp2_with fail
 go_loopw [13] (fun i wr => ∃ k n : Nat,k <= q /\ i = .int .i64 k /\ wr = w.drewN n /\ Hid (∀ i,i < k -> l[i]?.getD 0 = m[i]?.getD 0)) (fun i _ => q - (intOf i).toNat)
 case atStart => exact ⟨0,0,Nat.zero_le _,rfl,rfl,Lib.hid fun i hi => absurd hi (Nat.not_lt_zero i)⟩
 case round =>
  obtain ⟨k,n,hk,rfl,rfl,HALL⟩:=hrel
  by_cases hlt : k < q
  ·obtain ⟨b,o,cap,he,_,_,hbK,hc⟩:=HV.out.pos (by rw [HL.out]; omega)
   simp only [Value.slice.injEq] at he
   obtain ⟨rfl,_,rfl⟩:=he
   have c0:=hc k (by rw [HL.out]; exact hlt)
   obtain ⟨b',o',cap',he,_,_,hbK',hc'⟩:=HU.out.pos (by rw [HM.out]; omega)
   simp only [Value.slice.injEq] at he
   obtain ⟨rfl,_,rfl⟩:=he
   have c1:=hc' k (by rw [HM.out]; exact hlt)
   have HNE : Hid (l[k]?.getD 0 ≠ m[k]?.getD 0 -> (l == m) = false):=Lib.hid nats_at_ne
   have HEQ : Hid (l[k]?.getD 0 = m[k]?.getD 0 -> ∀ i,i < k + 1 -> l[i]?.getD 0 = m[i]?.getD 0):=Lib.hid fun he i hi => by
    by_cases h : i = k
    ·subst h; exact he
    ·exact HALL.out i (by omega)
   obtain ⟨x,hx⟩ : ∃ x,l[k]?.getD 0 = x:=⟨_,rfl⟩
   obtain ⟨y,hy⟩ : ∃ y,m[k]?.getD 0 = y:=⟨_,rfl⟩
   rw [hx] at c1 HNE HEQ
   rw [hy] at c0 HNE HEQ
   clear hx hy hc hc'
   by_cases hct : x = y
   ·have HE:=Lib.hid (HEQ.out hct)
    have hb1 : ((x : Int) != (y : Int)) = false:=by rw [hct]; simp
    clear hct
    go_upto_region 6 with fail
    go_quiet (fail)
    go_wp2_with fail
    exact ⟨⟨k + 1,_,by omega,by go_num,by first | rfl | exact drewN_two _ _ _,HE⟩,by simp [intOf]; omega⟩
   ·have HE:=Lib.hid (HNE.out hct)
    have hb1 : ((x : Int) != (y : Int)) = true:=by simp; omega
    clear hct
    go_upto_region 6 with fail
    go_quiet (fail)
    go_wp2_with fail
    go_ret
    exact ⟨by rw [HE.out]; rfl,_,by first | rfl | exact drewN_two _ _ _⟩
  ·obtain rfl : q = k:=by omega
   have HE : Hid ((l == m) = true):=Lib.hid (nats_all (by rw [HM.out,HL.out]) (fun i hi => HALL.out i (by have := HM.out; omega)))
   go_wp2_with fail
   go_ret
   exact ⟨by rw [HE.out]; rfl,_,by first | rfl | exact drewN_two _ _ _⟩
theorem wsame_any (K : Nat) (g g' : Bool) (u v : Value) (l l' : List Nat) (w : World) (hu : Lm K w u l) (hv : Lm K w v l') (hK : K <= w.heap.size) : Calls Tryz.prog 69 #[.agg #[.bool g,u],.agg #[.bool g',v]] w fun e w' => e = .returned (.bool (g == g' && l == l')) /\ Below w.heap.size w w':=by
 have b1 : Below w.heap.size w ((w.alloc (.cells #[.bool g,u] 24)).alloc (.cells #[.bool g',v] 24)):=((Below.refl _ _).alloc (Nat.le_refl _) _).alloc (by simp) _
 have hc:=equalLm_any K u v l l' _ (hu.below b1 hK (Nat.le_refl _)) (hv.below b1 hK (Nat.le_refl _))
 obtain ⟨ua,uc,rfl,_⟩:=hu.form
 obtain ⟨va,vc,rfl,_⟩:=hv.form
 obtain ⟨r,hr⟩ : ∃ r,(l == l') = r:=⟨_,rfl⟩
 rw [hr] at hc ⊢
 clear hr
 cases g <;> cases g'
 all_goals
  go_enter Tryz.func69,Tryz.ntmps69
  go_wp2_with fail
 all_goals try (
  refine hc.mono ?_
  rintro e w2 ⟨rfl,k,rfl⟩
  go_wp2_with fail
  go_ret
  exact ⟨rfl,below_drewN2 b1 k⟩)
 all_goals
  go_ret
  exact ⟨rfl,b1⟩
theorem fsame_any (K : Nat) (g1 g2 h1 h2 : Bool) (u v x y : Value) (m n p q : List Nat) (w : World) (hu : Lm K w u m) (hv : Lm K w v n) (hx : Lm K w x p) (hy : Lm K w y q) (hK : K <= w.heap.size) :
  Calls Tryz.prog 50 #[.agg #[.bool g1,u,.bool g2,v],.agg #[.bool h1,x,.bool h2,y]] w fun e w' => e = .returned (.bool ((g1 == h1 && m == p) && (g2 == h2 && n == q))) /\ Below w.heap.size w w':=by
 obtain ⟨W1,hW1⟩ : ∃ W1,(w.alloc (.cells #[.bool g1,u,.bool g2,v] 26)).alloc (.cells #[.bool h1,x,.bool h2,y] 26) = W1:=⟨_,rfl⟩
 have b1 : Below w.heap.size w W1:=by rw [<- hW1]; exact ((Below.refl _ _).alloc (Nat.le_refl _) _).alloc (by simp) _
 have q0 : Blk W1 w.heap.size #[.bool g1,u,.bool g2,v] 26:=by rw [<- hW1]; exact (Blk.new w _ _).alloc _
 have q1 : Blk W1 (w.heap.size + 1) #[.bool h1,x,.bool h2,y] 26:=by
  rw [<- hW1]
  have := Blk.new (w.alloc (.cells #[.bool g1,u,.bool g2,v] 26)) #[.bool h1,x,.bool h2,y] 26
  rwa [World.size_alloc] at this
 have s1 : W1.heap.size = w.heap.size + 2:=by rw [<- hW1]; simp
 obtain ⟨B,hB⟩ : ∃ B,w.heap.size = B:=⟨_,rfl⟩
 have HB:=Lib.hid hB
 have HW:=Lib.hid hW1
 rw [hB] at hK b1 q0 q1 s1 ⊢
 have hc:=wsame_any B g1 h1 u x m p W1 (hu.below b1 hK hK) (hx.below b1 hK hK) (by omega)
 have hc2 : ∀ W,Below B w W -> Calls Tryz.prog 69 #[.agg #[.bool g2,v],.agg #[.bool h2,y]] W fun e w' => e = .returned (.bool (g2 == h2 && n == q)) /\ Below W.heap.size W w':=fun W hb => wsame_any W.heap.size g2 h2 v y n q W (hv.below hb hK (by have := hb.size; rw [hB] at this; omega)) (hy.below hb hK (by have := hb.size; rw [hB] at this; omega)) (Nat.le_refl _)
 obtain ⟨ua,uc,rfl,_⟩:=hu.form
 obtain ⟨va,vc,rfl,_⟩:=hv.form
 obtain ⟨xa,xc,rfl,_⟩:=hx.form
 obtain ⟨ya,yc,rfl,_⟩:=hy.form
 clear hB hW1
 obtain ⟨r1,hr1⟩ : ∃ r,(g1 == h1 && m == p) = r:=⟨_,rfl⟩
 obtain ⟨r2,hr2⟩ : ∃ r,(g2 == h2 && n == q) = r:=⟨_,rfl⟩
 simp only [hr1] at hc
 simp only [hr2] at hc2
 rw [hr1,hr2]
 clear hr1 hr2
 obtain ⟨c0,c1,c2,c3⟩:=q0.four
 obtain ⟨d0,d1,d2,d3⟩:=q1.four
 go_enter Tryz.func50,Tryz.ntmps50
 go_upto_region 1 with fail
 simp only [HB.out]
 rw [HW.out]
 go_wp2_with fail
 refine hc.mono ?_
 rintro e w2 ⟨rfl,hb2⟩
 clear c0 c1 c2 c3 d0 d1 d2 d3 hc
 have b2 : Below B w w2:=b1.trans (hb2.mono (by omega))
 have q0:=q0.below hb2 q0.lt
 have q1:=q1.below hb2 q1.lt
 obtain ⟨c0,c1,c2,c3⟩:=q0.four
 obtain ⟨d0,d1,d2,d3⟩:=q1.four
 have hc2:=hc2 w2 b2
 have s2:=hb2.size
 cases r1 with
 | false =>
  go_wp2_with fail
  go_ret
  exact ⟨rfl,b2⟩
 | true =>
  go_wp2_with fail
  refine hc2.mono ?_
  rintro e w3 ⟨rfl,hb3⟩
  go_wp2_with fail
  go_ret
  exact ⟨rfl,b2.trans (hb3.mono (by omega))⟩
structure Vv where
 kd : Int
 b1 : Bool
 s1 : Value
 b2 : Bool
 s2 : Value
 i : Int
abbrev Vv.agg (x : Vv) : Value:=.agg #[.int .u8 x.kd,.bool x.b1,x.s1,.bool x.b2,x.s2,.int .i64 x.i]
abbrev Vv.cells (x : Vv) : Array Value:=#[.int .u8 x.kd,.bool x.b1,x.s1,.bool x.b2,x.s2,.int .i64 x.i]
structure VlX (K : Nat) (w : World) (v : Vq) (x : Vv) : Prop where
 kd : x.kd = v.kd
 b1 : x.b1 = v.g1
 b2 : x.b2 = v.g2
 i : x.i = v.i
 n : Lm K w x.s1 v.l1
 d : Lm K w x.s2 v.l2
theorem VlX.below {K K' B : Nat} {w w' : World} {v : Vq} {x : Vv} (h : VlX K w v x) (hb : Below B w w') (hB : K <= B) (hK : K <= K') : VlX K' w' v x:=⟨h.kd,h.b1,h.b2,h.i,h.n.below hb hB hK,h.d.below hb hB hK⟩
theorem Blk.six {w : World} {b t : Nat} {x0 x1 x2 x3 x4 x5 : Value} (h : Blk w b #[x0,x1,x2,x3,x4,x5] t) : w.cell? ⟨b,0,none⟩ = some x0 /\ w.cell? ⟨b,1,none⟩ = some x1 /\ w.cell? ⟨b,2,none⟩ = some x2 ∧
  w.cell? ⟨b,3,none⟩ = some x3 /\ w.cell? ⟨b,4,none⟩ = some x4 /\ w.cell? ⟨b,5,none⟩ = some x5:=⟨h.at rfl,h.at rfl,h.at rfl,h.at rfl,h.at rfl,h.at rfl⟩
theorem Vq.short {v : Vq} (h : v.good = true) : v.l1.length <= 64 /\ v.l2.length <= 64:=by
 unfold Vq.good at h
 simpa using h
end Go.Proofs.YtlldjmagbjjeoaaGreat
