/- Contracts and plain laws, several texts in one (GAdd, GFr3). No conditions beyond those stated. -/
import Derived.Test.YtlldjmagbjjeoaaGreatPk12
import Derived.Test.YtlldjmagbjjeoaaGreatPk13
set_option maxRecDepth 100000
set_option maxHeartbeats 40000000
namespace Go.Proofs.YtlldjmagbjjeoaaGreat
open Go.RowKit
set_option linter.unusedVariables false
theorem OwnR.pre2 {base n : Nat} {w : World} {v : Value} (h : OwnR 1 130 base w v (wRows [n,0])) : Pre .u32 w.heap.size w v n:=by
 obtain ⟨b,o,cap,he,h1,h2,h3,h4⟩:=h.rows.pos (by simp [wRows])
 subst he
 refine .inr (.inr ⟨b,o,cap,rfl,h1,h2,h3,?_,?_⟩)
 ·exact h4 0 (by simp [wRows]) 0 (by omega)
 ·exact h4 1 (by simp [wRows]) 0 (by omega)
theorem make_c2 (w : World) : (Instr.makeSlice 121 (.int .i64 0) (.int .i64 2)).run Tryz.prog w = .ok (.slice (some ⟨w.heap.size,0,none⟩) 0 2) (w.alloc (.cells #[.int .u32 0,.int .u32 0] 130)):=by
 obtain ⟨i0,hi,hz0,hz1,hz2⟩:=info_parts Tryz.infoU32
 have h:=run_make (P:=Tryz.prog) w 121 130 i0 _ Tryz.underlying121 hi hz0 .i64 .i64 0 2 (by omega) (by omega) (by rw [hz2]; omega) (by omega)
 rw [hz1,show madeCells (Value.int .u32 0).cells (Int.toNat 2 * 1) = (#[.int .u32 0,.int .u32 0] : Array Value) from by kernel_rfl] at h; exact h
theorem OwnR.none2 {base g : Nat} {W : World} (hq : Blk W g #[.int .u32 0,.int .u32 0] 130) (hb : base <= g) : OwnR 1 130 base W (.slice (some ⟨g,0,none⟩) 0 2) (wRows []) :=
 ⟨⟨rfl,.inr ⟨g,2,_,rfl,hb,hq,Nat.zero_le _,by simp [maxLen],rfl,rfl⟩⟩,RowsOk.nil 1⟩
theorem wplus0_any (K : Nat) (u v : Value) (n : Nat) (w : World) (hu : Wd .u32 K w u 0) (hv : Wd .u32 K w v n) (hn0 : 0 < n) (hK : K <= w.heap.size) (hn : n < 65536) :
  Calls Tryz.prog 101 #[u,v] w fun e w' => ∃ v',e = .returned v' /\ Wd .u32 w'.heap.size w' v' n /\ Below w.heap.size w w':=by
 rcases hu with ⟨_,a,c,rfl,hc⟩ | ⟨h0,_⟩
 rotate_left
 ·omega
 rcases hv with ⟨h0,_⟩ | ⟨h0,b,o,c',rfl,h1,hc',hb,h5⟩
 ·omega
 have hm:=make_c2
 obtain ⟨W1,hW1⟩ : ∃ W1,(w.alloc (.cells #[.int .u32 0,.int .u32 0] 130)).alloc (.cells #[.slice (some ⟨w.heap.size,0,none⟩) 0 2] 121) = W1:=⟨_,rfl⟩
 have b1 : Below w.heap.size w W1:=by rw [<- hW1]; exact ((Below.refl _ _).alloc (Nat.le_refl _) _).alloc (by simp) _
 have q0 : Blk W1 w.heap.size #[.int .u32 0,.int .u32 0] 130:=by rw [<- hW1]; exact (Blk.new w _ _).alloc _
 have q1 : Blk W1 (w.heap.size + 1) #[.slice (some ⟨w.heap.size,0,none⟩) 0 2] 121:=by
  rw [<- hW1]
  have := Blk.new (w.alloc (.cells #[.int .u32 0,.int .u32 0] 130)) #[.slice (some ⟨w.heap.size,0,none⟩) 0 2] 121
  rwa [World.size_alloc] at this
 have s1 : W1.heap.size = w.heap.size + 2:=by rw [<- hW1]; simp
 obtain ⟨B,hB⟩ : ∃ B,w.heap.size = B:=⟨_,rfl⟩
 have HB:=Lib.hid hB
 rw [hB] at hW1 hK b1 q0 q1 s1 ⊢
 have HW:=Lib.hid hW1
 clear hB hW1
 have hcol:=collector_any (B + 1) W1
 go_enter Tryz.func101,Tryz.ntmps101
 go_upto_region 4 with fail
 go_wp2_with fail
 simp only [HB.out]
 rw [HW.out]
 refine hcol.mono ?_
 rintro e w2 ⟨rfl,hw2⟩
 clear hcol
 simp only [s1]
 have b2' : Below W1.heap.size W1 w2:=by rw [hw2]; exact ((Below.refl _ _).alloc (Nat.le_refl _) _).alloc (by simp) _
 have qx : Blk w2 (B + 2) #[.pointer (some ⟨B + 1,0,none⟩)] 149:=by
  rw [hw2]; have := Blk.new W1 #[.pointer (some ⟨B + 1,0,none⟩)] 149; rw [s1] at this; exact this.alloc _
 have qc : Blk w2 (B + 3) #[.int .u64 0] 81:=by
  rw [hw2]; have := Blk.new (W1.alloc (.cells #[.pointer (some ⟨B + 1,0,none⟩)] 149)) #[.int .u64 0] 81
  rwa [World.size_alloc,s1] at this
 have q12:=q1.below b2' q1.lt
 have q02:=q0.below b2' q0.lt
 have s2 : w2.heap.size = B + 4:=by rw [hw2]; simp [s1]
 have b2 : Below B w w2:=b1.trans (b2'.mono (by omega))
 have hp : collP B (B + 3) (B + 2) (B + 1) [] 0 w2:=⟨qc,qx,_,q12,OwnR.none2 q02 (Nat.le_refl _)⟩
 have hc1:=coll_any B (B + 3) (B + 2) (B + 1) [] 0 n w2 hp (by omega) (by omega) (by simp)
 rw [show (n + 0) % 2 ^ 32 = n by omega,show (n + 0) / 2 ^ 32 = 0 by omega] at hc1
 have h52 : w2.cell? ⟨b,o,none⟩ = some (.int .u32 n):=(b2.cell (p:=⟨b,o,none⟩) (by simp; omega)).trans h5
 clear hw2 h5 hp q12 q02 qc qx b2' q0 q1 b1 s1 hm
 go_wp2_with fail
 refine wp_loop_rounds 2 ?_
 rw [rounds_succ]
 go_wp2_with fail
 refine hc1.mono ?_
 rintro e w3 ⟨rfl,hp3,hs3,hb3⟩
 clear hc1 h52
 have hc2:=coll_any B (B + 3) (B + 2) (B + 1) ([] ++ [n]) 0 0 w3 hp3 (by omega) (by omega) (by simp)
 go_wp2_with fail
 rw [rounds_succ]
 go_wp2_with fail
 refine hc2.mono ?_
 rintro e w4 ⟨rfl,hp4,hs4,hb4⟩
 clear hc2 hp3
 obtain ⟨_,_,vv,qv,ho⟩:=hp4
 have hpre:=ho.pre2
 have b4 : Below B w w4:=b2.trans ((hb3.mono (by omega)).trans (hb4.mono (by omega)))
 have c4:=qv.one.1
 obtain ⟨va,vn,hvf,_,_⟩:=ho.form
 subst hvf
 have ht:=trim_any w4.heap.size _ n w4 hpre
 go_wp2_with fail
 refine ht.mono ?_
 rintro e w5 ⟨v',rfl,hv',rfl⟩
 go_wp2_with fail
 go_ret
 exact ⟨_,rfl,hv',b4⟩
theorem wsum0_any (K : Nat) (u v : Value) (n : Nat) (w : World) (hu : Wd .u32 K w u 0) (hv : Wd .u32 K w v n) (hn0 : 0 < n) (hK : K <= w.heap.size) (hn : n < 65536) :
  Calls Tryz.prog 94 #[.bool false,u,.bool false,v] w fun e w' => ∃ v',e = .returned (.tuple #[Wv v',.int .i64 0]) /\ Wd .u16 w'.heap.size w' v' n /\ Below w.heap.size w w' /\ NewV w.heap.size v':=by
 obtain ⟨W1,hW1⟩ : ∃ W1,w.alloc (.cells #[.bool false,.slice none 0 0] 24) = W1:=⟨_,rfl⟩
 have b1 : Below w.heap.size w W1:=by rw [<- hW1]; exact (Below.refl _ _).alloc (Nat.le_refl _) _
 have q1 : Blk W1 w.heap.size #[.bool false,.slice none 0 0] 24:=by rw [<- hW1]; exact Blk.new w _ _
 have s1 : W1.heap.size = w.heap.size + 1:=by rw [<- hW1]; simp
 obtain ⟨B,hB⟩ : ∃ B,w.heap.size = B:=⟨_,rfl⟩
 have HB:=Lib.hid hB
 have HW:=Lib.hid hW1
 rw [hB] at hK b1 q1 s1 ⊢
 have hc:=wplus0_any B u v n W1 (hu.below b1 hK hK) (hv.below b1 hK hK) hn0 (by omega) hn
 obtain ⟨ua,um,uc,rfl⟩:=hu.form
 obtain ⟨va,vm,vc,rfl⟩:=hv.form
 clear hB hW1
 go_enter Tryz.func94,Tryz.ntmps94
 go_wp2_with fail
 simp only [HB.out]
 rw [HW.out]
 refine hc.mono ?_
 rintro e w2 ⟨p,rfl,hp,hb2⟩
 obtain ⟨pa,pm,pc,rfl⟩:=hp.form
 have b2 : Below B w w2:=b1.trans (hb2.mono (by omega))
 have q2:=q1.below hb2 q1.lt
 have hr:=wresult_any w2.heap.size _ n w2 hp (Nat.le_refl _) hn
 clear hc
 go_wp2_with fail
 refine hr.mono ?_
 rintro e w3 ⟨p',rfl,hp',hb3,hnw⟩
 obtain ⟨pa',pm',pc',rfl⟩:=hp'.form
 have hs2:=hb2.size
 have hs3:=hb3.size
 have b3 : Below B w w3:=b2.trans (hb3.mono (by omega))
 have q3:=q2.below hb3 q2.lt
 obtain ⟨d0,d1⟩:=q3.two
 have f0:=q3.free 0
 have f1:=q3.free 1
 clear hr
 go_wp2_with fail
 have q4:=(q3.set (i:=0) (.bool false)).set (i:=1) (.slice pa' pm' pc')
 obtain ⟨e0,e1⟩:=q4.two
 refine bodyPost_ret (v:=.tuple #[Wv (.slice pa' pm' pc'),.int .i64 0]) (by simp [results,Tryz.results94,go_sem,e0,e1]) rfl ?_
 have ws:=((hp'.set (r:=B) (i:=0) (x:=.bool false) hnw (by omega)).set (r:=B) (i:=1) (x:=.slice pa' pm' pc') hnw (by omega))
 exact ⟨_,rfl,ws.below (Below.refl w3.heap.size _) (Nat.le_refl _) (by simp [World.setCell]),(b3.setCell (p:=⟨B,0,none⟩) (by simp) _).setCell (p:=⟨B,1,none⟩) (by simp) _,hnw.mono (by omega)⟩
theorem wadd0_any (K : Nat) (u v : Value) (n : Nat) (w : World) (hu : Wd .u16 K w u 0) (hv : Wd .u16 K w v n) (hK : K <= w.heap.size) (hn0 : 0 < n) (hn : n < 65536) :
  Calls Tryz.prog 80 #[Wv u,Wv v] w fun e w' => ∃ v',e = .returned (.tuple #[Wv v',.int .i64 0]) /\ Wd .u16 w'.heap.size w' v' n /\ Below w.heap.size w w' /\ NewV w.heap.size v':=by
 obtain ⟨ua,um,uc,rfl⟩:=hu.form
 obtain ⟨va,vm,vc,rfl⟩:=hv.form
 obtain ⟨W1,hW1⟩ : ∃ W1,(((w.alloc (.cells #[.bool false,.slice ua um uc] 24)).alloc (.cells #[.bool false,.slice va vm vc] 24)).alloc (.cells #[.bool false,.slice none 0 0] 24)).alloc (.cells #[.bool false,.slice ua um uc,.bool false,.slice va vm vc] 24) = W1:=⟨_,rfl⟩
 obtain ⟨b1,q0,q1,q2,q3,s1⟩:=alloc4 w _ _ _ _ _ _ _ _ hW1
 have HW:=Lib.hid hW1
 obtain ⟨B,hB⟩ : ∃ B,w.heap.size = B:=⟨_,rfl⟩
 have HB:=Lib.hid hB
 rw [hB] at hK b1 q0 q1 q2 q3 s1 ⊢
 clear hB hW1
 go_enter Tryz.func80,Tryz.ntmps80
 go_wp2_with fail
 simp only [HB.out,Nat.add_assoc,Nat.reduceAdd]
 rw [HW.out]
 refine (wallvalid_any B (B + 3) _ _ 0 n W1 (hu.below b1 hK hK) (hv.below b1 hK hK) (by omega) q3).mono ?_
 rintro e w2 ⟨rfl,hb2⟩
 have b2 : Below B w w2:=b1.trans (hb2.mono (by omega))
 have hs2:=hb2.size
 have q0:=q0.below hb2 q0.lt
 have q1:=q1.below hb2 q1.lt
 have q2:=q2.below hb2 q2.lt
 have hu2:=hu.below b2 hK (show K <= w2.heap.size by omega)
 have hv2:=hv.below b2 hK (show K <= w2.heap.size by omega)
 have hu3 : Wd .u16 w2.heap.size w2 (.slice ua um uc) 0:=hu2.below (Below.refl w2.heap.size _) (by omega) (by omega)
 have hv3 : Wd .u16 w2.heap.size w2 (.slice va vm vc) n:=hv2.below (Below.refl w2.heap.size _) (by omega) (by omega)
 obtain ⟨d0,d1⟩:=q0.two
 obtain ⟨d2,d3⟩:=q1.two
 go_upto_region 3 with fail
 clear d0 d1 d2 d3
 refine region_plain (fun W' => Below w2.heap.size w2 W') [13,14] (by kernel_rfl) ?_
 have qS : (fun W' => Below w2.heap.size w2 W') w2.drew:=below_quiet (Below.refl _ _)
 refine wpAnyD_tp (i:=0) (v:=.pointer (some ⟨B,0,none⟩)) rfl qS ?_
 refine wpAnyD_tk (i:=1) (v:=.bool false) rfl (.inl ⟨by kernel_rfl,fun W' hS => by have d0:=(q0.below hS q0.lt).at (i:=0) rfl; go_simp⟩) qS ?_
 refine wpAnyD_tp (i:=2) (v:=.pointer (some ⟨B,1,none⟩)) rfl qS ?_
 refine wpAnyD_tk (i:=3) (v:=.slice ua um uc) rfl (.inl ⟨by kernel_rfl,fun W' hS => by have d0:=(q0.below hS q0.lt).at (i:=1) rfl; go_simp⟩) qS ?_
 refine wpAnyD_tp (i:=5) (v:=.pointer (some ⟨B + 1,0,none⟩)) rfl qS ?_
 refine wpAnyD_tk (i:=6) (v:=.bool false) rfl (.inl ⟨by kernel_rfl,fun W' hS => by have d0:=(q1.below hS q1.lt).at (i:=0) rfl; go_simp⟩) qS ?_
 refine wpAnyD_tp (i:=7) (v:=.pointer (some ⟨B + 1,1,none⟩)) rfl qS ?_
 refine wpAnyD_tk (i:=8) (v:=.slice va vm vc) rfl (.inl ⟨by kernel_rfl,fun W' hS => by have d0:=(q1.below hS q1.lt).at (i:=1) rfl; go_simp⟩) qS ?_
 refine wpAnyD_on (i:=4) rfl ?_
 go_simp
 refine (pack_any w2.heap.size _ 0 _ (hu3.below qS (Nat.le_refl _) (Nat.le_refl _)) qS.size (by omega)).mono ?_
 rintro e w3 ⟨p3,rfl,hp3,hb3⟩
 have qS3 : Below w2.heap.size w2 w3:=qS.trans (hb3.mono qS.size)
 obtain ⟨a3,m3,c3,rfl⟩:=hp3.form
 go_simp
 refine wpAnyD_on (i:=9) rfl ?_
 go_simp
 refine (pack_any w2.heap.size _ n _ (hv3.below qS3 (Nat.le_refl _) (Nat.le_refl _)) qS3.size hn).mono ?_
 rintro e w4 ⟨p4,rfl,hp4,hb4⟩
 have qS4 : Below w2.heap.size w2 w4:=qS3.trans (hb4.mono qS3.size)
 obtain ⟨a4,m4,c4,rfl⟩:=hp4.form
 go_simp
 refine wpAnyD_on (i:=10) rfl ?_
 go_simp
 refine (wsum0_any w4.heap.size _ _ n _ (hp3.below hb4 (Nat.le_refl _) hb4.size) hp4 hn0 (Nat.le_refl _) hn).mono ?_
 rintro e w6 ⟨p6,rfl,hp6,hb6,hnw⟩
 have qS6 : Below w2.heap.size w2 w6:=qS4.trans (hb6.mono qS4.size)
 obtain ⟨a6,m6,c6,rfl⟩:=hp6.form
 go_simp
 refine wpAnyD_tp (i:=11) (v:=Wv (.slice a6 m6 c6)) rfl qS6 ?_
 refine wpAnyD_tp (i:=12) (v:=.int .i64 0) rfl qS6 ?_
 have q2s:=q2.below qS6 q2.lt
 obtain ⟨e0,e1⟩:=q2s.two
 have f0:=q2s.free 0
 have f1:=q2s.free 1
 refine wpAnyD_on (i:=13) rfl ?_
 go_simp
 refine wpAnyD_on (i:=14) rfl ?_
 go_simp
 refine wpAnyD_done (by kernel_rfl) ?_ _
 go_wp2_with fail
 have q3s:=(q2s.set (i:=0) (.bool false)).set (i:=1) (.slice a6 m6 c6)
 obtain ⟨e0,e1⟩:=q3s.two
 refine bodyPost_ret (v:=.tuple #[Wv (.slice a6 m6 c6),.int .i64 0]) (by simp [results,Tryz.results80,go_sem,e0,e1]) rfl ?_
 have hBn : B + 2 < w4.heap.size:=by have := qS4.size; omega
 have ws:=((hp6.set (r:=B + 2) (i:=0) (x:=.bool false) hnw hBn).set (r:=B + 2) (i:=1) (x:=.slice a6 m6 c6) hnw hBn)
 have b6 : Below B w w6:=b2.trans (qS6.mono (by omega))
 exact ⟨_,rfl,ws.below (Below.refl w6.heap.size _) (Nat.le_refl _) (by simp [World.setCell]),(b6.setCell (p:=⟨B + 2,0,none⟩) (by simp) _).setCell (p:=⟨B + 2,1,none⟩) (by simp) _,hnw.mono (by omega)⟩
theorem fplus0_any (K : Nat) (u v : Value) (n : Nat) (w : World) (hu : Wd .u16 K w u 0) (hv : Wd .u16 K w v n) (hn0 : 0 < n) (hK : K <= w.heap.size) (hn : n < 65536) :
  Calls Tryz.prog 63 #[Wv u,Wv v] w fun e w' => ∃ v',e = .returned (Wv v') /\ Wd .u16 w'.heap.size w' v' n /\ Below w.heap.size w w' /\ NewV w.heap.size v':=by
 obtain ⟨ua,um,uc,rfl⟩:=hu.form
 obtain ⟨va,vm,vc,rfl⟩:=hv.form
 obtain ⟨W1,hW1⟩ : ∃ W1,((w.alloc (.cells #[.bool false,.slice ua um uc] 24)).alloc (.cells #[.bool false,.slice va vm vc] 24)).alloc (.cells #[.bool false,.slice none 0 0] 24) = W1:=⟨_,rfl⟩
 obtain ⟨b1,q0,q1,q2,s1⟩:=alloc3 w _ _ _ _ _ _ hW1
 have HW:=Lib.hid hW1
 obtain ⟨B,hB⟩ : ∃ B,w.heap.size = B:=⟨_,rfl⟩
 have HB:=Lib.hid hB
 rw [hB] at hK b1 q0 q1 q2 s1 ⊢
 have hc:=wadd0_any B _ _ n W1 (hu.below b1 hK hK) (hv.below b1 hK hK) (by omega) hn0 hn
 clear hB hW1
 go_enter Tryz.func63,Tryz.ntmps63
 go_wp2_with fail
 simp only [HB.out,Nat.add_assoc,Nat.reduceAdd]
 rw [HW.out]
 refine hc.mono ?_
 rintro e w2 ⟨p,rfl,hp,hb2,hnw⟩
 obtain ⟨pa,pm,pc,rfl⟩:=hp.form
 have b2 : Below B w w2:=b1.trans (hb2.mono (by omega))
 have hs2:=hb2.size
 have q2:=q2.below hb2 q2.lt
 obtain ⟨d0,d1⟩:=q2.two
 have f0:=q2.free 0
 have f1:=q2.free 1
 have hlt:=q2.lt
 have hne : ¬ B + 2 = w2.heap.size:=by omega
 clear hc
 go_wp2_with fail
 have q3:=((q2.alloc (.cells #[.bool false,.slice pa pm pc] 24)).set (i:=0) (.bool false)).set (i:=1) (.slice pa pm pc)
 have q4:=((q2.set (i:=0) (.bool false)).set (i:=1) (.slice pa pm pc)).alloc (.cells #[.bool false,.slice pa pm pc] 24)
 obtain ⟨e0,e1⟩:=q3.two
 obtain ⟨e2,e3⟩:=q4.two
 refine bodyPost_ret (v:=Wv (.slice pa pm pc)) (by simp [results,Tryz.results63,go_sem,e2,e3]) rfl ?_
 have ws:=((hp.set (r:=B + 2) (i:=0) (x:=.bool false) hnw (by omega)).set (r:=B + 2) (i:=1) (x:=.slice pa pm pc) hnw (by omega))
 have b3:=(((Below.refl B w2).setCell (p:=⟨B + 2,0,none⟩) (by simp) (.bool false)).setCell (p:=⟨B + 2,1,none⟩) (by simp) (.slice pa pm pc)).alloc (by simp [World.setCell]; omega) (.cells #[.bool false,.slice pa pm pc] 24)
 exact ⟨_,rfl,ws.below ((Below.refl _ _).alloc (Nat.le_refl _) _) (by simp [World.setCell]) (by simp [World.setCell]),b2.trans b3,hnw.mono (by omega)⟩
theorem alloc5 (w : World) (c0 c1 c2 c3 c4 : Array Value) (t0 t1 t2 t3 t4 : TypeId) {W : World} (h : ((((w.alloc (.cells c0 t0)).alloc (.cells c1 t1)).alloc (.cells c2 t2)).alloc (.cells c3 t3)).alloc (.cells c4 t4) = W) :
  Below w.heap.size w W /\ Blk W w.heap.size c0 t0 /\ Blk W (w.heap.size + 1) c1 t1 /\ Blk W (w.heap.size + 2) c2 t2 /\ Blk W (w.heap.size + 3) c3 t3 /\ Blk W (w.heap.size + 4) c4 t4 /\ W.heap.size = w.heap.size + 5:=by
 obtain ⟨h1,h2,h3,h4,h5,h6⟩:=alloc4 w c0 c1 c2 c3 t0 t1 t2 t3 rfl
 subst h
 have q4:=Blk.new ((((w.alloc (.cells c0 t0)).alloc (.cells c1 t1)).alloc (.cells c2 t2)).alloc (.cells c3 t3)) c4 t4
 rw [h6] at q4
 exact ⟨h1.alloc (by omega) _,h2.alloc _,h3.alloc _,h4.alloc _,h5.alloc _,q4,by rw [World.size_alloc,h6]⟩
theorem wdivmod1_any (K : Nat) (u v : Value) (m : Nat) (w : World) (hu : Wd .u16 K w u m) (hv : Wd .u16 K w v 1) (hm0 : 0 < m) (hK : K <= w.heap.size) (hm : m < 65536) :
  Calls Tryz.prog 93 #[Wv u,Wv v] w fun e w' => ∃ q r,e = .returned (.tuple #[Wv q,Wv r,.int .i64 0]) /\ Wd .u16 w'.heap.size w' q m /\ Wd .u16 w'.heap.size w' r 0 /\ Below w.heap.size w w' /\ NewV w.heap.size q:=by
 obtain ⟨ua,um,uc,rfl⟩:=hu.form
 obtain ⟨va,vm,vc,rfl⟩:=hv.form
 obtain rfl : vm = 1:=by have := hv.len; omega
 obtain ⟨W1,hW1⟩ : ∃ W1,((((w.alloc (.cells #[.bool false,.slice ua um uc] 24)).alloc (.cells #[.bool false,.slice va 1 vc] 24)).alloc (.cells #[.bool false,.slice none 0 0] 24)).alloc (.cells #[.bool false,.slice none 0 0] 24)).alloc (.cells #[.bool false,.slice ua um uc,.bool false,.slice va 1 vc] 24) = W1:=⟨_,rfl⟩
 obtain ⟨b1,q0,q1,q2,q3,q4,s1⟩:=alloc5 w _ _ _ _ _ _ _ _ _ _ hW1
 have HW:=Lib.hid hW1
 obtain ⟨B,hB⟩ : ∃ B,w.heap.size = B:=⟨_,rfl⟩
 have HB:=Lib.hid hB
 rw [hB] at hK b1 q0 q1 q2 q3 q4 s1 ⊢
 have hav:=wallvalid_any B (B + 4) _ _ m 1 W1 (hu.below b1 hK hK) (hv.below b1 hK hK) (by omega) q4
 clear hB hW1
 go_enter Tryz.func93,Tryz.ntmps93
 go_wp2_with fail
 simp only [HB.out,Nat.add_assoc,Nat.reduceAdd]
 rw [HW.out]
 refine hav.mono ?_
 rintro e w2 ⟨rfl,hb2⟩
 have b2 : Below B w w2:=b1.trans (hb2.mono (by omega))
 have hs2:=hb2.size
 have q0:=q0.below hb2 q0.lt
 have q1:=q1.below hb2 q1.lt
 have q2:=q2.below hb2 q2.lt
 have q3:=q3.below hb2 q3.lt
 have hu2 : Wd .u16 w2.heap.size w2 (.slice ua um uc) m:=hu.below b2 hK (by omega)
 have hv2 : Wd .u16 w2.heap.size w2 (.slice va 1 vc) 1:=hv.below b2 hK (by omega)
 obtain ⟨d0,d1⟩:=q0.two
 obtain ⟨d2,d3⟩:=q1.two
 clear hav q4
 have hp:=pack_any w2.heap.size _ 1 w2 hv2 (Nat.le_refl _) (by omega)
 go_wp2_with fail
 refine hp.mono ?_
 rintro e w3 ⟨p3,rfl,hp3,hb3⟩
 obtain ⟨a3,m3,c3,rfl⟩:=hp3.form
 have b3 : Below B w w3:=b2.trans (hb3.mono (by omega))
 have hs3:=hb3.size
 have q0:=q0.below hb3 q0.lt
 have q1:=q1.below hb3 q1.lt
 have q2:=q2.below hb3 q2.lt
 have q3:=q3.below hb3 q3.lt
 clear d0 d1 d2 d3 hp
 obtain ⟨d0,d1⟩:=q0.two
 have hp:=pack_any w2.heap.size _ m w3 (hu2.below hb3 (Nat.le_refl _) (Nat.le_refl _)) hs3 hm
 go_wp2_with fail
 refine hp.mono ?_
 rintro e w4 ⟨p4,rfl,hp4,hb4⟩
 obtain ⟨a4,m4,c4,rfl⟩:=hp4.form
 have b4 : Below B w w4:=b3.trans (hb4.mono (by omega))
 have hs4:=hb4.size
 have q0:=q0.below hb4 q0.lt
 have q1:=q1.below hb4 q1.lt
 have q2:=q2.below hb4 q2.lt
 have q3:=q3.below hb4 q3.lt
 clear d0 d1 hp
 have hd:=divide1_any w4.heap.size _ _ m w4 hp4 hm0 (hp3.below hb4 (Nat.le_refl _) hs4) (Nat.le_refl _) hm
 go_wp2_with fail
 refine hd.mono ?_
 rintro e w5 ⟨p5,r5,rfl,hp5,hr5,hb5⟩
 obtain ⟨a5,m5,c5,rfl⟩:=hp5.form
 obtain ⟨ra,rm,rc,rfl⟩:=hr5.form
 have b5 : Below B w w5:=b4.trans (hb5.mono (by omega))
 have hs5:=hb5.size
 have q0:=q0.below hb5 q0.lt
 have q1:=q1.below hb5 q1.lt
 have q2:=q2.below hb5 q2.lt
 have q3:=q3.below hb5 q3.lt
 clear hd
 obtain ⟨d0,d1⟩:=q0.two
 obtain ⟨d2,d3⟩:=q1.two
 go_upto_region 10 with fail
 clear d0 d1 d2 d3
 refine region_plain (fun W' => Below w5.heap.size w5 W') [11,12,13] (by kernel_rfl) ?_
 have qS : (fun W' => Below w5.heap.size w5 W') w5.drew:=below_quiet (Below.refl _ _)
 refine wpAnyD_tp (i:=0) (v:=.pointer (some ⟨B,0,none⟩)) rfl qS ?_
 refine wpAnyD_tk (i:=1) (v:=.bool false) rfl (.inl ⟨by kernel_rfl,fun W' hS => by have d0:=(q0.below hS q0.lt).at (i:=0) rfl; go_simp⟩) qS ?_
 refine wpAnyD_tp (i:=2) (v:=.pointer (some ⟨B + 1,0,none⟩)) rfl qS ?_
 refine wpAnyD_tk (i:=3) (v:=.bool false) rfl (.inl ⟨by kernel_rfl,fun W' hS => by have d0:=(q1.below hS q1.lt).at (i:=0) rfl; go_simp⟩) qS ?_
 refine wpAnyD_tp (i:=4) (v:=.bool false) rfl qS ?_
 refine wpAnyD_tp (i:=5) (v:=.slice a5 m5 c5) rfl qS ?_
 refine wpAnyD_takeC [11,12,13,10,8] (i:=7) (v:=.pointer (some ⟨B + 1,0,none⟩)) rfl (by kernel_rfl) (by kernel_rfl) (by kernel_rfl) (by kernel_rfl) (by kernel_rfl) (by kernel_rfl) (fun _ _ _ h => h) (.inl ⟨by kernel_rfl,fun W' hS => by go_simp⟩) qS ?_
 refine wpAnyD_takeC [11,12,13,10] (i:=8) (v:=.bool false) rfl (by kernel_rfl) (by kernel_rfl) (by kernel_rfl) (by kernel_rfl) (by kernel_rfl) (by kernel_rfl) (fun _ _ _ h => h) (.inl ⟨by kernel_rfl,fun W' hS => by have d0:=(q1.below hS q1.lt).at (i:=0) rfl; go_simp⟩) qS ?_
 refine wpAnyD_takeC [11,12,13,10] (i:=9) (v:=.slice ra rm rc) rfl (by kernel_rfl) (by kernel_rfl) (by kernel_rfl) (by kernel_rfl) (by kernel_rfl) (by kernel_rfl) (fun _ _ _ h => h) (.inl ⟨by kernel_rfl,fun W' hS => by go_simp⟩) qS ?_
 refine wpAnyD_on (i:=6) rfl ?_
 go_simp
 refine (unpack_any w5.heap.size _ m _ (hp5.pre.below qS (Nat.le_refl _) (Nat.le_refl _)) qS.size hm).mono ?_
 rintro e w6 ⟨p6,rfl,hp6,hb6,hn6⟩
 have qS6 : Below w5.heap.size w5 w6:=qS.trans (hb6.mono qS.size)
 obtain ⟨a6,m6,c6,rfl⟩:=hp6.form
 go_simp
 refine wpAnyD_on (i:=10) rfl ?_
 go_simp
 refine (unpack_any w5.heap.size _ 0 _ (hr5.pre.below qS6 (Nat.le_refl _) (Nat.le_refl _)) qS6.size (by omega)).mono ?_
 rintro e w7 ⟨p7,rfl,hp7,hb7,hn7⟩
 have qS7 : Below w5.heap.size w5 w7:=qS6.trans (hb7.mono qS6.size)
 have hp67:=hp6.below hb7 (Nat.le_refl _) hb7.size
 obtain ⟨a7,m7,c7,rfl⟩:=hp7.form
 go_simp
 have q2:=q2.below qS7 q2.lt
 have q3:=q3.below qS7 q3.lt
 obtain ⟨e0,e1⟩:=q2.two
 have f0:=q2.free 0
 have f1:=q2.free 1
 obtain ⟨e2,e3⟩:=q3.two
 have f2:=q3.free 0
 have f3:=q3.free 1
 have b7 : Below B w w7:=b5.trans (qS7.mono (by omega))
 have hs7:=qS7.size
 refine wpAnyD_on (i:=11) rfl ?_
 go_simp
 refine wpAnyD_on (i:=12) rfl ?_
 go_simp
 refine wpAnyD_on (i:=13) rfl ?_
 go_simp
 refine wpAnyD_done (by kernel_rfl) ?_ _
 clear e0 e1 e2 e3 f0 f1 f2 f3
 have r2:=(((q2.set (i:=0) (.bool false)).set (i:=1) (.slice a6 m6 c6)).other (b':=B + 3) (i:=0) (by omega) (.bool false)).other (b':=B + 3) (i:=1) (by omega) (.slice a7 m7 c7)
 have r3:=(((q3.other (b':=B + 2) (i:=0) (by omega) (.bool false)).other (b':=B + 2) (i:=1) (by omega) (.slice a6 m6 c6)).set (i:=0) (.bool false)).set (i:=1) (.slice a7 m7 c7)
 obtain ⟨e0,e1⟩:=r2.two
 obtain ⟨e2,e3⟩:=r3.two
 go_wp2_with fail
 refine bodyPost_ret (v:=.tuple #[Wv (.slice a6 m6 c6),Wv (.slice a7 m7 c7),.int .i64 0]) (by simp [results,Tryz.results93,go_sem,e0,e1,e2,e3]) rfl ?_
 have n67 : NewV w5.heap.size (.slice a6 m6 c6):=hn6
 have n77 : NewV w5.heap.size (.slice a7 m7 c7):=hn7.mono qS6.size
 have z6:=(((hp67.set (r:=B + 2) (i:=0) (x:=.bool false) n67 (by omega)).set (r:=B + 2) (i:=1) (x:=.slice a6 m6 c6) n67 (by omega)).set (r:=B + 3) (i:=0) (x:=.bool false) n67 (by omega)).set (r:=B + 3) (i:=1) (x:=.slice a7 m7 c7) n67 (by omega)
 have z7:=(((hp7.set (r:=B + 2) (i:=0) (x:=.bool false) n77 (by omega)).set (r:=B + 2) (i:=1) (x:=.slice a6 m6 c6) n77 (by omega)).set (r:=B + 3) (i:=0) (x:=.bool false) n77 (by omega)).set (r:=B + 3) (i:=1) (x:=.slice a7 m7 c7) n77 (by omega)
 exact ⟨_,_,rfl,z6.below (Below.refl w7.heap.size _) (Nat.le_refl _) (by simp [World.setCell]),z7.below (Below.refl w7.heap.size _) (Nat.le_refl _) (by simp [World.setCell]),(((b7.setCell (p:=⟨B + 2,0,none⟩) (by simp) _).setCell (p:=⟨B + 2,1,none⟩) (by simp) _).setCell (p:=⟨B + 3,0,none⟩) (by simp) _).setCell (p:=⟨B + 3,1,none⟩) (by simp) _,n67.mono (by omega)⟩
theorem fdivide1_any (K : Nat) (u v : Value) (m : Nat) (w : World) (hu : Wd .u16 K w u m) (hv : Wd .u16 K w v 1) (hm0 : 0 < m) (hK : K <= w.heap.size) (hm : m < 65536) :
  Calls Tryz.prog 79 #[Wv u,Wv v] w fun e w' => ∃ q r,e = .returned (.tuple #[Wv q,Wv r]) /\ Wd .u16 w'.heap.size w' q m /\ Below w.heap.size w w' /\ NewV w.heap.size q:=by
 obtain ⟨ua,um,uc,rfl⟩:=hu.form
 obtain ⟨va,vm,vc,rfl⟩:=hv.form
 obtain ⟨W1,hW1⟩ : ∃ W1,(((w.alloc (.cells #[.bool false,.slice ua um uc] 24)).alloc (.cells #[.bool false,.slice va vm vc] 24)).alloc (.cells #[.bool false,.slice none 0 0] 24)).alloc (.cells #[.bool false,.slice none 0 0] 24) = W1:=⟨_,rfl⟩
 obtain ⟨b1,q0,q1,q2,q3,s1⟩:=alloc4 w _ _ _ _ _ _ _ _ hW1
 have HW:=Lib.hid hW1
 obtain ⟨B,hB⟩ : ∃ B,w.heap.size = B:=⟨_,rfl⟩
 have HB:=Lib.hid hB
 rw [hB] at hK b1 q0 q1 q2 q3 s1 ⊢
 have hd:=wdivmod1_any B _ _ m W1 (hu.below b1 hK hK) (hv.below b1 hK hK) hm0 (by omega) hm
 clear hB hW1
 go_enter Tryz.func79,Tryz.ntmps79
 go_wp2_with fail
 simp only [HB.out,Nat.add_assoc,Nat.reduceAdd]
 rw [HW.out]
 refine hd.mono ?_
 rintro e w2 ⟨p,r,rfl,hp,hr,hb2,hn⟩
 obtain ⟨pa,pm,pc,rfl⟩:=hp.form
 obtain ⟨ra,rm,rc,rfl⟩:=hr.form
 have b2 : Below B w w2:=b1.trans (hb2.mono (by omega))
 have hs2:=hb2.size
 have q2:=q2.below hb2 q2.lt
 have q3:=q3.below hb2 q3.lt
 clear hd hr
 obtain ⟨e0,e1⟩:=q2.two
 have f0:=q2.free 0
 have f1:=q2.free 1
 obtain ⟨e2,e3⟩:=q3.two
 have f2:=q3.free 0
 have f3:=q3.free 1
 go_upto_region 2 with fail
 clear e0 e1 e2 e3 f0 f1 f2 f3
 have r2:=(((q2.set (i:=0) (.bool false)).set (i:=1) (.slice pa pm pc)).other (b':=B + 3) (i:=0) (by omega) (.bool false)).other (b':=B + 3) (i:=1) (by omega) (.slice ra rm rc)
 have r3:=(((q3.other (b':=B + 2) (i:=0) (by omega) (.bool false)).other (b':=B + 2) (i:=1) (by omega) (.slice pa pm pc)).set (i:=0) (.bool false)).set (i:=1) (.slice ra rm rc)
 have z6:=(((hp.set (r:=B + 2) (i:=0) (x:=.bool false) hn (by omega)).set (r:=B + 2) (i:=1) (x:=.slice pa pm pc) hn (by omega)).set (r:=B + 3) (i:=0) (x:=.bool false) hn (by omega)).set (r:=B + 3) (i:=1) (x:=.slice ra rm rc) hn (by omega)
 have b4:=(((b2.setCell (p:=⟨B + 2,0,none⟩) (by simp) (.bool false)).setCell (p:=⟨B + 2,1,none⟩) (by simp) (.slice pa pm pc)).setCell (p:=⟨B + 3,0,none⟩) (by simp) (.bool false)).setCell (p:=⟨B + 3,1,none⟩) (by simp) (.slice ra rm rc)
 generalize hW4 : (((w2.setCell ⟨B + 2,0,none⟩ (.bool false)).setCell ⟨B + 2,1,none⟩ (.slice pa pm pc)).setCell ⟨B + 3,0,none⟩ (.bool false)).setCell ⟨B + 3,1,none⟩ (.slice ra rm rc) = W4 at r2 r3 z6 b4 ⊢
 have s4 : W4.heap.size = w2.heap.size:=by rw [<- hW4]; simp [World.setCell]
 clear hW4
 obtain ⟨e0,e1⟩:=r2.two
 have f0:=r2.free 0
 have f1:=r2.free 1
 obtain ⟨e2,e3⟩:=r3.two
 have f2:=r3.free 0
 have f3:=r3.free 1
 go_region
 clear e0 e1 e2 e3 f0 f1 f2 f3
 have t2:=(((r2.set (i:=0) (.bool false)).set (i:=1) (.slice pa pm pc)).other (b':=B + 3) (i:=0) (by omega) (.bool false)).other (b':=B + 3) (i:=1) (by omega) (.slice ra rm rc)
 have t3:=(((r3.other (b':=B + 2) (i:=0) (by omega) (.bool false)).other (b':=B + 2) (i:=1) (by omega) (.slice pa pm pc)).set (i:=0) (.bool false)).set (i:=1) (.slice ra rm rc)
 obtain ⟨e0,e1⟩:=t2.two
 obtain ⟨e2,e3⟩:=t3.two
 go_wp2_with fail
 refine bodyPost_ret (v:=.tuple #[Wv (.slice pa pm pc),Wv (.slice ra rm rc)]) (by simp [results,Tryz.results79,go_sem,e0,e1,e2,e3]) rfl ?_
 have z8:=(((z6.set (r:=B + 2) (i:=0) (x:=.bool false) hn (by omega)).set (r:=B + 2) (i:=1) (x:=.slice pa pm pc) hn (by omega)).set (r:=B + 3) (i:=0) (x:=.bool false) hn (by omega)).set (r:=B + 3) (i:=1) (x:=.slice ra rm rc) hn (by omega)
 have b8:=(((b4.setCell (p:=⟨B + 2,0,none⟩) (by simp) (.bool false)).setCell (p:=⟨B + 2,1,none⟩) (by simp) (.slice pa pm pc)).setCell (p:=⟨B + 3,0,none⟩) (by simp) (.bool false)).setCell (p:=⟨B + 3,1,none⟩) (by simp) (.slice ra rm rc)
 exact ⟨_,_,rfl,z8.below (below_quiet (Below.refl w2.heap.size _)) (Nat.le_refl _) (by simp [World.setCell,World.drew]; omega),below_quiet b8,hn.mono (by omega)⟩
theorem Wd.set2 {q : IntKind} {K r L : Nat} {w : World} {v x y : Value} {n : Nat} (h : Wd q K w v n) (hn : NewV L v) (hr : r < L) : Wd q K ((w.setCell ⟨r,0,none⟩ x).setCell ⟨r,1,none⟩ y) v n:=(h.set hn hr).set hn hr
theorem size_set2 (w : World) (r : Nat) (x y : Value) : ((w.setCell ⟨r,0,none⟩ x).setCell ⟨r,1,none⟩ y).heap.size = w.heap.size:=by simp [World.setCell]
theorem below_set2 {B : Nat} {w w' : World} (h : Below B w w') {r : Nat} (hr : B <= r) (x y : Value) : Below B w ((w'.setCell ⟨r,0,none⟩ x).setCell ⟨r,1,none⟩ y):=(h.setCell (p:=⟨r,0,none⟩) hr x).setCell (p:=⟨r,1,none⟩) hr y
theorem flowest1_any (K : Nat) (u v : Value) (m k : Nat) (w : World) (hu : Wd .u16 K w u m) (hv : Wd .u16 K w v k) (hm0 : 0 < m) (hk0 : 0 < k) (hg : Nat.gcd m k = 1) (hK : K <= w.heap.size) (hm : m < 65536) (hk : k < 65536) :
  Calls Tryz.prog 62 #[Wv u,Wv v] w fun e w' => ∃ p q,e = .returned (Fv p q) /\ Wd .u16 w'.heap.size w' p m /\ Wd .u16 w'.heap.size w' q k /\ Below w.heap.size w w' /\ NewV w.heap.size p /\ NewV w.heap.size q:=by
 obtain ⟨ua,um,uc,rfl⟩:=hu.form
 obtain ⟨va,vm,vc,rfl⟩:=hv.form
 obtain ⟨W1,hW1⟩ : ∃ W1,((w.alloc (.cells #[.bool false,.slice ua um uc] 24)).alloc (.cells #[.bool false,.slice va vm vc] 24)).alloc (.cells #[.bool false,.slice none 0 0,.bool false,.slice none 0 0] 101) = W1:=⟨_,rfl⟩
 obtain ⟨b1,q0,q1,q2,s1⟩:=alloc3 w _ _ _ _ _ _ hW1
 have HW:=Lib.hid hW1
 obtain ⟨B,hB⟩ : ∃ B,w.heap.size = B:=⟨_,rfl⟩
 have HB:=Lib.hid hB
 rw [hB] at hK b1 q0 q1 q2 s1 ⊢
 have hd:=fdivisor_any B _ _ m k W1 (hu.below b1 hK hK) (hv.below b1 hK hK) (by omega) hm hk
 rw [hg] at hd
 clear hB hW1
 obtain ⟨d0,d1⟩:=q0.two
 obtain ⟨d2,d3⟩:=q1.two
 go_enter Tryz.func62,Tryz.ntmps62
 go_upto_region 1 with fail
 simp only [HB.out,Nat.add_assoc,Nat.reduceAdd]
 rw [HW.out]
 go_wp2_with fail
 refine hd.mono ?_
 rintro e w2 ⟨g,rfl,hgd,hb2,hng⟩
 obtain ⟨ga,gm,gc,rfl⟩:=hgd.form
 have b2 : Below B w w2:=b1.trans (hb2.mono (by omega))
 have hs2:=hb2.size
 have q0:=q0.below hb2 q0.lt
 have q1:=q1.below hb2 q1.lt
 have q2:=q2.below hb2 q2.lt
 clear hd d0 d1 d2 d3
 go_upto_region 4 with fail
 generalize hW3 : w2.alloc _ = W3
 have b3' : Below w2.heap.size w2 W3:=by rw [<- hW3]; exact (Below.refl _ _).alloc (Nat.le_refl _) _
 have q3 : Blk W3 w2.heap.size #[.bool false,.slice ga gm gc] 24:=by rw [<- hW3]; exact Blk.new w2 _ _
 have s3 : W3.heap.size = w2.heap.size + 1:=by rw [<- hW3]; simp
 have b3 : Below B w W3:=b2.trans (b3'.mono (by omega))
 have q0:=q0.below b3' q0.lt
 have q1:=q1.below b3' q1.lt
 have q2:=q2.below b3' q2.lt
 have hg3:=hgd.below b3' (Nat.le_refl _) (show w2.heap.size <= W3.heap.size by omega)
 obtain ⟨G,hG⟩ : ∃ G,w2.heap.size = G:=⟨_,rfl⟩
 rw [hG] at s3 q3 ⊢
 have hGB : B + 3 <= G:=by omega
 clear hW3 hG b3' b2 hgd hb2 hs2
 have hd:=fdivide1_any W3.heap.size _ _ m W3 (hu.below b3 hK (by omega)) hg3 hm0 (Nat.le_refl _) hm
 obtain ⟨d0,d1⟩:=q0.two
 obtain ⟨d2,d3⟩:=q3.two
 go_wp2_with fail
 refine hd.mono ?_
 rintro e w4 ⟨p,r,rfl,hp,hb4,hnp⟩
 obtain ⟨pa,pm,pc,rfl⟩:=hp.form
 have b4 : Below B w w4:=b3.trans (hb4.mono (by omega))
 have hs4:=hb4.size
 have q0:=q0.below hb4 q0.lt
 have q1:=q1.below hb4 q1.lt
 have q2:=q2.below hb4 q2.lt
 have q3:=q3.below hb4 q3.lt
 have hg4:=hg3.below hb4 (Nat.le_refl _) hs4
 clear hd d0 d1 d2 d3
 obtain ⟨d0,d1⟩:=q0.two
 have f0:=q0.free 0
 have f1:=q0.free 1
 go_upto_region 5 with fail
 clear d0 d1 f0 f1
 have z0:=(q0.set (i:=0) (.bool false)).set (i:=1) (.slice pa pm pc)
 have z1:=(q1.other (b':=B) (i:=0) (by omega) (.bool false)).other (b':=B) (i:=1) (by omega) (.slice pa pm pc)
 have z2:=(q2.other (b':=B) (i:=0) (by omega) (.bool false)).other (b':=B) (i:=1) (by omega) (.slice pa pm pc)
 have z3:=(q3.other (b':=B) (i:=0) (by omega) (.bool false)).other (b':=B) (i:=1) (by omega) (.slice pa pm pc)
 have b5:=below_set2 b4 (Nat.le_refl B) (.bool false) (.slice pa pm pc)
 have s5:=size_set2 w4 B (.bool false) (.slice pa pm pc)
 have hp5 : Wd .u16 w4.heap.size _ (.slice pa pm pc) m:=hp.set2 (x:=.bool false) (y:=.slice pa pm pc) hnp (show B < W3.heap.size by omega)
 have hg5 : Wd .u16 w4.heap.size _ (.slice ga gm gc) 1:=hg4.set2 (x:=.bool false) (y:=.slice pa pm pc) hng (show B < W1.heap.size by omega)
 generalize hW5 : (w4.setCell ⟨B,0,none⟩ (.bool false)).setCell ⟨B,1,none⟩ (.slice pa pm pc) = W5 at z0 z1 z2 z3 b5 s5 hp5 hg5 ⊢
 clear hW5 q0 q1 q2 q3
 have hd:=fdivide1_any W5.heap.size _ _ k W5 (hv.below b5 hK (by omega)) (by rw [s5]; exact hg5) hk0 (Nat.le_refl _) hk
 obtain ⟨d0,d1⟩:=z1.two
 obtain ⟨d2,d3⟩:=z3.two
 go_wp2_with fail
 refine hd.mono ?_
 rintro e w6 ⟨q,r',rfl,hq,hb6,hnq⟩
 obtain ⟨qa,qm,qc,rfl⟩:=hq.form
 have b6 : Below B w w6:=b5.trans (hb6.mono (by omega))
 have hs6:=hb6.size
 have z0:=z0.below hb6 z0.lt
 have z1:=z1.below hb6 z1.lt
 have z2:=z2.below hb6 z2.lt
 have hp6:=hp5.below hb6 (by omega) (show w4.heap.size <= w6.heap.size by omega)
 clear hd d0 d1 d2 d3
 obtain ⟨d0,d1⟩:=z1.two
 have f0:=z1.free 0
 have f1:=z1.free 1
 go_upto_region 6 with fail
 clear d0 d1 f0 f1
 have y0:=(z0.other (b':=B + 1) (i:=0) (by omega) (.bool false)).other (b':=B + 1) (i:=1) (by omega) (.slice qa qm qc)
 have y1:=(z1.set (i:=0) (.bool false)).set (i:=1) (.slice qa qm qc)
 have y2:=(z2.other (b':=B + 1) (i:=0) (by omega) (.bool false)).other (b':=B + 1) (i:=1) (by omega) (.slice qa qm qc)
 have b7:=below_set2 b6 (show B <= B + 1 by omega) (.bool false) (.slice qa qm qc)
 have s7:=size_set2 w6 (B + 1) (.bool false) (.slice qa qm qc)
 have hp7 : Wd .u16 w6.heap.size _ (.slice pa pm pc) m:=hp6.set2 (x:=.bool false) (y:=.slice qa qm qc) hnp (show B + 1 < W3.heap.size by omega)
 have hq7 : Wd .u16 w6.heap.size _ (.slice qa qm qc) k:=hq.set2 (x:=.bool false) (y:=.slice qa qm qc) hnq (show B + 1 < W5.heap.size by omega)
 generalize hW7 : (w6.setCell ⟨B + 1,0,none⟩ (.bool false)).setCell ⟨B + 1,1,none⟩ (.slice qa qm qc) = W7 at y0 y1 y2 b7 s7 hp7 hq7 ⊢
 clear hW7
 obtain ⟨d0,d1⟩:=y0.two
 obtain ⟨d2,d3⟩:=y1.two
 obtain ⟨d4,d5,d6,d7⟩:=y2.four
 have f4:=y2.free 0
 have f5:=y2.free 1
 have f6:=y2.free 2
 have f7:=y2.free 3
 go_wp2_with fail
 have x2:=(((y2.set (i:=0) (.bool false)).set (i:=1) (.slice pa pm pc)).set (i:=2) (.bool false)).set (i:=3) (.slice qa qm qc)
 obtain ⟨e0,e1,e2,e3⟩:=x2.four
 refine bodyPost_ret (v:=Fv (.slice pa pm pc) (.slice qa qm qc)) (by simp [results,Tryz.results62,go_sem,e0,e1,e2,e3]) rfl ?_
 have n1 : NewV (B + 3) (.slice pa pm pc):=hnp.mono (by omega)
 have n2 : NewV (B + 3) (.slice qa qm qc):=hnq.mono (by omega)
 have hp9:=(((hp7.set (r:=B + 2) (i:=0) (x:=.bool false) n1 (by omega)).set (r:=B + 2) (i:=1) (x:=.slice pa pm pc) n1 (by omega)).set (r:=B + 2) (i:=2) (x:=.bool false) n1 (by omega)).set (r:=B + 2) (i:=3) (x:=.slice qa qm qc) n1 (by omega)
 have hq9:=(((hq7.set (r:=B + 2) (i:=0) (x:=.bool false) n2 (by omega)).set (r:=B + 2) (i:=1) (x:=.slice pa pm pc) n2 (by omega)).set (r:=B + 2) (i:=2) (x:=.bool false) n2 (by omega)).set (r:=B + 2) (i:=3) (x:=.slice qa qm qc) n2 (by omega)
 exact ⟨_,_,rfl,hp9.below (Below.refl w6.heap.size _) (Nat.le_refl _) (by simp [World.setCell]; omega),hq9.below (Below.refl w6.heap.size _) (Nat.le_refl _) (by simp [World.setCell]; omega),(((b7.setCell (p:=⟨B + 2,0,none⟩) (by simp) _).setCell (p:=⟨B + 2,1,none⟩) (by simp) _).setCell (p:=⟨B + 2,2,none⟩) (by simp) _).setCell (p:=⟨B + 2,3,none⟩) (by simp) _,n1.mono (by omega),n2.mono (by omega)⟩
theorem fresult_any (K : Nat) (u v : Value) (m k : Nat) (w : World) (hu : Wd .u16 K w u m) (hv : Wd .u16 K w v k) (hK : K <= w.heap.size) :
  Calls Tryz.prog 65 #[Fv u v] w fun e w' => e = .returned (.tuple #[Fv u v,.int .i64 0]) /\ Below w.heap.size w w':=by
 obtain ⟨ua,um,uc,rfl⟩:=hu.form
 obtain ⟨va,vm,vc,rfl⟩:=hv.form
 obtain ⟨W1,hW1⟩ : ∃ W1,(w.alloc (.cells #[.bool false,.slice ua um uc,.bool false,.slice va vm vc] 101)).alloc (.cells #[.bool false,.slice none 0 0,.bool false,.slice none 0 0] 26) = W1:=⟨_,rfl⟩
 have b1 : Below w.heap.size w W1:=by rw [<- hW1]; exact ((Below.refl _ _).alloc (Nat.le_refl _) _).alloc (by simp) _
 have q0 : Blk W1 w.heap.size #[.bool false,.slice ua um uc,.bool false,.slice va vm vc] 101:=by rw [<- hW1]; exact (Blk.new w _ _).alloc _
 have q1 : Blk W1 (w.heap.size + 1) #[.bool false,.slice none 0 0,.bool false,.slice none 0 0] 26:=by
  rw [<- hW1]
  have := Blk.new (w.alloc (.cells #[.bool false,.slice ua um uc,.bool false,.slice va vm vc] 101)) #[.bool false,.slice none 0 0,.bool false,.slice none 0 0] 26
  rwa [World.size_alloc] at this
 have s1 : W1.heap.size = w.heap.size + 2:=by rw [<- hW1]; simp
 have HW:=Lib.hid hW1
 obtain ⟨B,hB⟩ : ∃ B,w.heap.size = B:=⟨_,rfl⟩
 have HB:=Lib.hid hB
 rw [hB] at hK b1 q0 q1 s1 ⊢
 have hl:=flong_any B _ _ m k W1 (hu.below b1 hK hK) (hv.below b1 hK hK)
 clear hB hW1
 obtain ⟨d0,d1,d2,d3⟩:=q0.four
 go_enter Tryz.func65,Tryz.ntmps65
 go_upto_region 1 with fail
 simp only [HB.out]
 rw [HW.out]
 go_wp2_with fail
 refine hl.mono ?_
 rintro e w2 ⟨rfl,hb2⟩
 have q0:=q0.below hb2 q0.lt
 have q1:=q1.below hb2 q1.lt
 clear hl d0 d1 d2 d3
 obtain ⟨d0,d1,d2,d3⟩:=q0.four
 obtain ⟨d4,d5,d6,d7⟩:=q1.four
 have f4:=q1.free 0
 have f5:=q1.free 1
 have f6:=q1.free 2
 have f7:=q1.free 3
 go_wp2_with fail
 have x2:=(((q1.set (i:=0) (.bool false)).set (i:=1) (.slice ua um uc)).set (i:=2) (.bool false)).set (i:=3) (.slice va vm vc)
 obtain ⟨e0,e1,e2,e3⟩:=x2.four
 refine bodyPost_ret (v:=.tuple #[Fv (.slice ua um uc) (.slice va vm vc),.int .i64 0]) (by simp [results,Tryz.results65,go_sem,e0,e1,e2,e3]) rfl ?_
 exact ⟨rfl,((((b1.trans (hb2.mono (by omega))).setCell (p:=⟨B + 1,0,none⟩) (by simp) _).setCell (p:=⟨B + 1,1,none⟩) (by simp) _).setCell (p:=⟨B + 1,2,none⟩) (by simp) _).setCell (p:=⟨B + 1,3,none⟩) (by simp) _⟩
end Go.Proofs.YtlldjmagbjjeoaaGreat
