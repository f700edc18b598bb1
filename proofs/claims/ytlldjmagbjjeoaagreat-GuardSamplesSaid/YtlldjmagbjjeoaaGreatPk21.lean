/- Contracts and plain laws, several texts in one (GFrom). No conditions beyond those stated. -/
import Derived.Test.YtlldjmagbjjeoaaGreatPk20
set_option maxRecDepth 100000
set_option maxHeartbeats 40000000
namespace Go.Proofs.YtlldjmagbjjeoaaGreat
open Go.RowKit
set_option linter.unusedVariables false
theorem Blk.limbs1 {W : World} {b n t : Nat} (h : Blk W b #[.int .u16 n,.int .u16 0,.int .u16 0,.int .u16 0] t) (hn : n < 65536) : Lm W.heap.size W (.slice (some ⟨b,0,none⟩) 1 4) [n]:=by
 refine ⟨RowsV.mk_cells (by simp) (by simp [maxLen]) h.lt fun i hi j hj => ?_,fun d hd => by rw [List.mem_singleton.1 hd]; exact hn⟩
 obtain rfl : i = 0:=by simpa using hi
 obtain rfl : j = 0:=by omega
 simpa using h.at (i:=0) (x:=.int .u16 n) rfl
def wfWorld (n : Nat) (w : World) : World:=(w.alloc (.cells #[.bool false,.slice none 0 0] 24)).alloc (.cells #[.int .u16 n,.int .u16 0,.int .u16 0,.int .u16 0] 117)
theorem wf_facts (n : Nat) (w : World) (hn : n < 65536) (h0 : 0 < n) : Below w.heap.size w (wfWorld n w) /\ Blk (wfWorld n w) w.heap.size #[.bool false,.slice none 0 0] 24 /\ (wfWorld n w).heap.size = w.heap.size + 2 ∧
  Calls Tryz.prog 45 #[.slice (some ⟨w.heap.size + 1,0,none⟩) 1 4] (wfWorld n w) fun e w' => ∃ v',e = .returned v' /\ (∃ a c,v' = .slice a 1 c) /\ Zed (Btw (w.heap.size + 2) w'.heap.size) w' (fun K W => Wd .u16 K W v' n) /\ Below (wfWorld n w).heap.size (wfWorld n w) w':=by
 have hq : Blk (wfWorld n w) (w.heap.size + 1) #[.int .u16 n,.int .u16 0,.int .u16 0,.int .u16 0] 117:=by
  have := Blk.new (w.alloc (.cells #[.bool false,.slice none 0 0] 24)) #[.int .u16 n,.int .u16 0,.int .u16 0,.int .u16 0] 117
  rwa [World.size_alloc] at this
 have hs : (wfWorld n w).heap.size = w.heap.size + 2:=by unfold wfWorld; simp
 refine ⟨((Below.refl _ _).alloc (Nat.le_refl _) _).alloc (by simp) _,(Blk.new w _ _).alloc _,hs,?_⟩
 refine (cloneL_any _ _ [n] _ (hq.limbs1 hn) (Nat.le_refl _) (by simp)).mono ?_
 rintro e w' ⟨v',rfl,hz,hb⟩
 rw [hs] at hz
 refine ⟨v',rfl,?_,fun W K ha hK => ?_,hb⟩
 ·obtain ⟨a,c,h,_⟩:=(hz.get fun b hb => hb.2).form; exact ⟨a,c,h⟩
 ·have := (hz W K ha hK).wd (m:=1024) (g:=false) (by simp) (by unfold wOk; simp; omega)
  rwa [lval_one] at this
theorem wfromint_any (n : Nat) (w : World) (hn : n = 1 \/ n = 2) :
  Calls Tryz.prog 66 #[.int .i64 n] w fun e w' => ∃ v,e = .returned (Wv v) /\ (∃ a c,v = .slice a 1 c) /\ Zed (Btw w.heap.size w'.heap.size) w' (fun K W => Wd .u16 K W v n) /\ Below w.heap.size w w':=by
 obtain ⟨b1,q1,s1,hc⟩:=wf_facts n w (by omega) (by omega)
 have HW : Hid (wfWorld n w = (w.alloc (.cells #[.bool false,.slice none 0 0] 24)).alloc (.cells #[.int .u16 n,.int .u16 0,.int .u16 0,.int .u16 0] 117)):=Lib.hid rfl
 obtain ⟨W1,hW1⟩ : ∃ W,wfWorld n w = W:=⟨_,rfl⟩
 rw [hW1] at b1 q1 s1 hc HW
 clear hW1
 rcases hn with rfl | rfl
 ·go_enter Tryz.func66,Tryz.ntmps66
  go_wp2_with fail
  refine wp_loop_rounds 5 ?_
  rw [rounds_succ]
  go_wp2_with fail
  rw [rounds_succ]
  go_wp2_with fail
  rw [rounds_succ]
  go_wp2_with fail
  rw [rounds_succ]
  go_wp2_with fail
  rw [rounds_succ]
  go_wp2_with fail
  rw [show (w.alloc (.cells #[.bool false,.slice none 0 0] 24)).alloc (.cells #[.int .u16 1,.int .u16 0,.int .u16 0,.int .u16 0] 117) = W1 from HW.out.symm]
  refine hc.mono ?_
  rintro e w2 ⟨v',rfl,⟨a,c,rfl⟩,hz,hb2⟩
  clear hc
  have hs2:=hb2.size
  have q2:=q1.below hb2 (by omega)
  obtain ⟨d0,d1⟩:=q2.two
  have f0:=q2.free 0
  have f1:=q2.free 1
  go_wp2_with fail
  have q3:=(q2.set (i:=0) (.bool false)).set (i:=1) (.slice a 1 c)
  obtain ⟨e0,e1⟩:=q3.two
  refine bodyPost_ret (v:=Wv (.slice a 1 c)) (by simp [results,Tryz.results66,go_sem,e0,e1]) rfl ?_
  refine ⟨_,rfl,⟨a,c,rfl⟩,(hz.move (Agr.of fun b hb => ?_)).mono fun b hb => ?_,below_set2 (b1.trans (hb2.mono (by omega))) (Nat.le_refl _) _ _⟩
  ·have := hb.1
   exact (Below.heap_setCell _ _ _ _ (by show b ≠ w.heap.size; omega)).trans (Below.heap_setCell _ _ _ _ (by show b ≠ w.heap.size; omega))
  ·exact ⟨by have := hb.1; omega,by rw [size_set2]; exact hb.2⟩
 ·go_enter Tryz.func66,Tryz.ntmps66
  go_wp2_with fail
  refine wp_loop_rounds 5 ?_
  rw [rounds_succ]
  go_wp2_with fail
  rw [rounds_succ]
  go_wp2_with fail
  rw [rounds_succ]
  go_wp2_with fail
  rw [rounds_succ]
  go_wp2_with fail
  rw [rounds_succ]
  go_wp2_with fail
  rw [show (w.alloc (.cells #[.bool false,.slice none 0 0] 24)).alloc (.cells #[.int .u16 2,.int .u16 0,.int .u16 0,.int .u16 0] 117) = W1 from HW.out.symm]
  refine hc.mono ?_
  rintro e w2 ⟨v',rfl,⟨a,c,rfl⟩,hz,hb2⟩
  clear hc
  have hs2:=hb2.size
  have q2:=q1.below hb2 (by omega)
  obtain ⟨d0,d1⟩:=q2.two
  have f0:=q2.free 0
  have f1:=q2.free 1
  go_wp2_with fail
  have q3:=(q2.set (i:=0) (.bool false)).set (i:=1) (.slice a 1 c)
  obtain ⟨e0,e1⟩:=q3.two
  refine bodyPost_ret (v:=Wv (.slice a 1 c)) (by simp [results,Tryz.results66,go_sem,e0,e1]) rfl ?_
  refine ⟨_,rfl,⟨a,c,rfl⟩,(hz.move (Agr.of fun b hb => ?_)).mono fun b hb => ?_,below_set2 (b1.trans (hb2.mono (by omega))) (Nat.le_refl _) _ _⟩
  ·have := hb.1
   exact (Below.heap_setCell _ _ _ _ (by show b ≠ w.heap.size; omega)).trans (Below.heap_setCell _ _ _ _ (by show b ≠ w.heap.size; omega))
  ·exact ⟨by have := hb.1; omega,by rw [size_set2]; exact hb.2⟩
theorem ffromint_any (n : Nat) (w : World) (hn : n = 1 \/ n = 2) :
  Calls Tryz.prog 47 #[.int .i64 n] w fun e w' => ∃ u v,e = .returned (Fv u v) /\ (∃ a c,u = .slice a 1 c) /\ (∃ a c,v = .slice a 1 c) /\ Zed (Btw w.heap.size w'.heap.size) w' (fun K W => Wd .u16 K W u n /\ Wd .u16 K W v 1) /\ Below w.heap.size w w':=by
 obtain ⟨W1,hW1⟩ : ∃ W1,w.alloc (.cells #[.bool false,.slice none 0 0,.bool false,.slice none 0 0] 26) = W1:=⟨_,rfl⟩
 have b1 : Below w.heap.size w W1:=by rw [<- hW1]; exact (Below.refl _ _).alloc (Nat.le_refl _) _
 have q1 : Blk W1 w.heap.size #[.bool false,.slice none 0 0,.bool false,.slice none 0 0] 26:=by rw [<- hW1]; exact Blk.new w _ _
 have s1 : W1.heap.size = w.heap.size + 1:=by rw [<- hW1]; simp
 have hc:=wfromint_any n W1 hn
 have hc2:=fun W => wfromint_any 1 W (.inl rfl)
 obtain ⟨B,hB⟩ : ∃ B,w.heap.size = B:=⟨_,rfl⟩
 have HB:=Lib.hid hB
 have HW:=Lib.hid hW1
 have HC2:=Lib.hid hc2
 rw [hB] at b1 q1 s1 ⊢
 clear hB hW1 hn hc2
 go_enter Tryz.func47,Tryz.ntmps47
 go_wp2_with fail
 simp only [HB.out]
 rw [HW.out]
 refine hc.mono ?_
 rintro e w2 ⟨v',rfl,⟨a,c,rfl⟩,hz,hb2⟩
 clear hc
 have hs2:=hb2.size
 have q2:=q1.below hb2 (by omega)
 have hc3 : Calls Tryz.prog 66 #[.int .i64 1] w2 fun e w' => ∃ v,e = .returned (Wv v) /\ (∃ a c,v = .slice a 1 c) /\ Zed (Btw w2.heap.size w'.heap.size) w' (fun K W => Wd .u16 K W v 1) /\ Below w2.heap.size w2 w':=HC2.out w2
 go_wp2_with fail
 refine hc3.mono ?_
 rintro e w3 ⟨v',rfl,⟨a3,c3,rfl⟩,hz3,hb3⟩
 clear hc3
 have hs3:=hb3.size
 have q3:=q2.below hb3 (by omega)
 obtain ⟨d0,d1,d2,d3⟩:=q3.four
 have f0:=q3.free 0
 have f1:=q3.free 1
 have f2:=q3.free 2
 have f3:=q3.free 3
 go_wp2_with fail
 have q4:=(((q3.set (i:=0) (.bool false)).set (i:=1) (.slice a 1 c)).set (i:=2) (.bool false)).set (i:=3) (.slice a3 1 c3)
 obtain ⟨e0,e1,e2,e3⟩:=q4.four
 refine bodyPost_ret (v:=Fv (.slice a 1 c) (.slice a3 1 c3)) (by simp [results,Tryz.results47,go_sem,e0,e1,e2,e3]) rfl ?_
 have hsz : ((((w3.setCell ⟨B,0,none⟩ (.bool false)).setCell ⟨B,1,none⟩ (.slice a 1 c)).setCell ⟨B,2,none⟩ (.bool false)).setCell ⟨B,3,none⟩ (.slice a3 1 c3)).heap.size = w3.heap.size:=by simp [World.setCell]
 have hag : ∀ b,B < b -> ((((w3.setCell ⟨B,0,none⟩ (.bool false)).setCell ⟨B,1,none⟩ (.slice a 1 c)).setCell ⟨B,2,none⟩ (.bool false)).setCell ⟨B,3,none⟩ (.slice a3 1 c3)).heap[b]? = w3.heap[b]? := fun b hb =>
  (Below.heap_setCell _ _ _ _ (by show b ≠ B; omega)).trans ((Below.heap_setCell _ _ _ _ (by show b ≠ B; omega)).trans ((Below.heap_setCell _ _ _ _ (by show b ≠ B; omega)).trans (Below.heap_setCell _ _ _ _ (by show b ≠ B; omega))))
 have z1:=((hz.move (agr_below hb3 fun b hb => hb.2)).move (Agr.of fun b hb => hag b (by have := hb.1; omega))).mono (G:=Btw B w3.heap.size) fun b hb => ⟨by have := hb.1; omega,by have := hb.2; omega⟩
 have z2:=(hz3.move (Agr.of fun b hb => hag b (by have := hb.1; omega))).mono (G:=Btw B w3.heap.size) fun b hb => ⟨by have := hb.1; omega,hb.2⟩
 rw [hsz]
 exact ⟨_,_,rfl,⟨_,_,rfl⟩,⟨_,_,rfl⟩,fun W K ha hK => ⟨z1 W K ha hK,z2 W K ha hK⟩,(((((b1.trans (hb2.mono (by omega))).trans (hb3.mono (by omega))).setCell (p:=⟨B,0,none⟩) (by simp) _).setCell (p:=⟨B,1,none⟩) (by simp) _).setCell (p:=⟨B,2,none⟩) (by simp) _).setCell (p:=⟨B,3,none⟩) (by simp) _⟩
end Go.Proofs.YtlldjmagbjjeoaaGreat
