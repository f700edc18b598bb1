/- Contracts and plain laws, several texts in one (GlM6, GlM7, GlM8, GlM9, GlM10). No conditions beyond those stated. -/
import Derived.Test.YtlidpghnlloinaaGreatDoorPk17
import Derived.Test.YtlidpghnlloinaaGreatDoorPk21
set_option maxRecDepth 100000
set_option maxHeartbeats 40000000
namespace Go.Proofs.YtlidpghnlloinaaGreatDoor
open Go.RowKit
set_option linter.unusedVariables false
def MadeAt (d : Nat) : Prop:=∀ (l : List Nat) (v : Value) (K : Nat) (w : World),U8s K w v l -> (∀ y ∈ l,y < 256) -> K <= w.heap.size -> l.length <= 2 ^ 40 →
 Calls Tryz.prog 118 #[v,.int .i64 d] w fun e w' => ∃ X v',e = .returned (.tuple #[X.agg,v']) /\ ExN w.heap.size w' (madeM d l).1 X /\ U8s K w' v' (madeM d l).2 /\ Below w.heap.size w w'
theorem gmade_comp (K d x : Nat) (r : List Nat) (v : Value) (w : World) (ih : MadeAt d) (hu : U8s K w v (x :: r)) (hx : ∀ y ∈ x :: r,y < 256) (hK : K <= w.heap.size) (hlen : r.length <= 2 ^ 40) (h3 : x % 3 = 0) (hd6 : d <= 5) : Calls Tryz.prog 118 #[v,.int .i64 ((d : Int) + 1)] w fun e w' => ∃ X v',e = .returned (.tuple #[X.agg,v']) /\ ExN w.heap.size w' (madeM (d + 1) (x :: r)).1 X /\ U8s K w' v' (madeM (d + 1) (x :: r)).2 /\ Below w.heap.size w w':=by
 obtain ⟨Rs,hRs⟩ : ∃ Rs,madeM (d + 1) (x :: r) = Rs:=⟨_,rfl⟩
 have HLM:=Lib.hid hRs
 rw [hRs]
 clear hRs
 obtain ⟨b,o,cap,rfl,hc1,hc2,hbK,hcell,hrest⟩:=hu.head
 unfold maxLen at hc2
 obtain ⟨W1,hW1⟩ : ∃ W1,w.alloc (.cells xz.cells 49) = W1:=⟨_,rfl⟩
 have b1 : Below w.heap.size w W1:=by rw [<- hW1]; exact (Below.refl _ _).alloc (Nat.le_refl _) _
 have q1 : Blk W1 w.heap.size xz.cells 49:=by rw [<- hW1]; exact Blk.new w _ _
 have s1 : W1.heap.size = w.heap.size + 1:=by rw [<- hW1]; simp
 obtain ⟨B,hB⟩ : ∃ B,w.heap.size = B:=⟨_,rfl⟩
 have HB:=Lib.hid hB
 have HW1 : Hid (w.alloc (.cells #[.int .u8 0,.string ⟨#[]⟩,.int .u8 0,.bool false,.slice none 0 0,.bool false,.slice none 0 0,.int .i64 0,.slice none 0 0] 49) = W1):=Lib.hid hW1
 rw [hB] at b1 q1 s1 hK ⊢
 have n0 : W1.cell? ⟨b,o,none⟩ = some (.int .u8 (x : Int)):=(b1.cell (p:=⟨b,o,none⟩) (by show b < B; omega)).trans hcell
 have hu1:=hrest.below (K':=K) b1 hK (Nat.le_refl _)
 have hx0 : x < 256:=hx x (List.mem_cons_self ..)
 have hxr : ∀ y ∈ r,y < 256:=fun y h => hx y (List.mem_cons_of_mem _ h)
 have hin : (0 : Int) < (r.length : Int) + 1:=by omega
 clear hB hW1 hu hcell hrest hx
 go_enter Tryz.func118,Tryz.ntmps118
 go_upto_region 1 with fail
 simp only [HB.out]
 rw [HW1.out]
 go_upto_region 3 with fail
 go_quiet (fail)
 generalize (if cap = 1 then some (⟨b,o,none⟩ : Addr) else some ⟨b,o + 1,none⟩) = ra at hu1 ⊢
 generalize cap - 1 = c1 at hu1 ⊢
 generalize hWq : W1.drewN _ = Wq
 have qq : Blk Wq B xz.cells 49:=by rw [<- hWq]; exact q1
 have bq : Below B w Wq:=by rw [<- hWq]; exact below_drewN2 b1 _
 have uq : U8s K Wq (.slice ra r.length c1) r:=by rw [<- hWq]; exact hu1
 have sq : Wq.heap.size = B + 1:=by rw [<- hWq]; exact s1
 have HUQ:=Lib.hid uq
 have HBQ:=Lib.hid bq
 clear q1 b1 hu1 s1 hWq n0 HW1 uq bq
 go_upto_region 4 with fail
 go_cut [31] from 25 to 31 (fun s wx => s = .bool true /\ Wq = wx)
 case first =>
  have hd1 : (0 : Int) < (d : Int) + 1:=by omega
  have h3' : (x : Int) % 3 = 0:=by omega
  go_wp2_with fail
  all_goals go_meet
  all_goals exact ⟨rfl,rfl⟩
 case rest =>
 obtain ⟨rfl,rfl⟩:=hcut
 obtain ⟨Wa,hWa⟩ : ∃ Wa,((Wq.alloc (.cells xz.cells 49)).alloc (.cells xz.cells 49)).alloc (.cells xz.cells 49) = Wa:=⟨_,rfl⟩
 have ba : Below Wq.heap.size Wq Wa:=by rw [<- hWa]; exact (((Below.refl _ _).alloc (Nat.le_refl _) _).alloc (by simp) _).alloc (by simp; omega) _
 have sa : Wa.heap.size = B + 4:=by rw [<- hWa]; simp; omega
 have HQ1 : Hid (Blk Wa (B + 1) xz.cells 49):=Lib.hid (by
  have := ((Blk.new Wq xz.cells 49).alloc (.cells xz.cells 49)).alloc (.cells xz.cells 49)
  rwa [hWa,sq] at this)
 have HQ2 : Hid (Blk Wa (B + 2) xz.cells 49):=Lib.hid (by
  have := (Blk.new (Wq.alloc (.cells xz.cells 49)) xz.cells 49).alloc (.cells xz.cells 49)
  rwa [hWa,World.size_alloc,sq] at this)
 have HQ3 : Hid (Blk Wa (B + 3) xz.cells 49):=Lib.hid (by
  have := Blk.new ((Wq.alloc (.cells xz.cells 49)).alloc (.cells xz.cells 49)) xz.cells 49
  rwa [hWa,World.size_alloc,World.size_alloc,sq] at this)
 have HQB0:=Lib.hid (qq.below ba (by omega))
 have HB0:=Lib.hid (HBQ.out.trans (ba.mono (by omega)))
 have HU:=Lib.hid (HUQ.out.below (K':=K) ba (by omega) (Nat.le_refl _))
 have HWa:=Lib.hid hWa
 dsimp only [xz,Xv.cells] at HWa
 have hx256:=hxr
 have h3h:=Lib.hid h3
 obtain ⟨m,hm⟩ : ∃ m,x % 4 = m:=⟨_,rfl⟩
 have hmi : (x : Int) % 4 = (m : Int):=by omega
 have hm4 : m < 4:=by omega
 have HM:=Lib.hid hm
 clear hWa qq HBQ HUQ ba hxr h3 hm
 go_upto_region 6 with fail
 rw [HWa.out]
 have hcall:=ih r _ K Wa HU.out hx256 (by omega) hlen
 obtain ⟨E1,hE1⟩ : ∃ ze,(madeM d r).1 = ze:=⟨_,rfl⟩
 obtain ⟨r1,hr1⟩ : ∃ zr,(madeM d r).2 = zr:=⟨_,rfl⟩
 have hrl : (∀ x ∈ r1,x < 256) /\ r1.length <= 2 ^ 40:=⟨fun x hx => hx256 x (by rw [<- hr1] at hx; exact madeM_sub d _ x hx),by have := madeM_size d r; have h1:=partsG_pos (madeM d r).1; rw [hr1] at this; omega⟩
 rw [hE1,hr1] at hcall
 have HE1:=Lib.hid hE1
 have HR1:=Lib.hid hr1
 clear hE1 hr1 hx256 hlen
 go_wp2_with fail
 refine hcall.mono ?_
 rintro e w1 ⟨X1,v1,rfl,hx1,hu1,hb1⟩
 have hx256:=hrl.1
 have hlen:=hrl.2
 have hsz1:=hb1.size
 have h1c1 : ∀ u ∈ X1.cells,u.oneCell' = true:=by simp [Value.oneCell']
 have qv:=HQ1.out.below hb1 (by omega)
 clear hcall hrl
 go_upto_region 7 with (refine wpList_store_blk rfl 49 49 (.tmp 8) (.tmp 37) rfl X1.cells _ (B + 1) qv infoExN rfl h1c1 rfl rfl ?_; intro V1 t1 t2 t3 t4)
 have nw1 : NewW (B + 4) Wa V1:=(NewW.of hb1).trans (NewW.put t3 (by omega))
 have HB1:=Lib.hid (HB0.out.trans ((hb1.mono (by omega)).trans (t2 B (by omega))))
 have HQB1:=Lib.hid ((HQB0.out.below hb1 (by omega)).kept t3 (by simp))
 have HX1:=Lib.hid ((hx1.mono (by omega : B + 4 <= Wa.heap.size)).move (NewW.put t3 (by omega)))
 have HC1:=Lib.hid t1
 have sv1 : B + 4 <= V1.heap.size:=by omega
 have HU':=Lib.hid ((hu1.below (K':=K) (t2 B (by omega)) (by omega) (Nat.le_refl _)))
 clear HU
 have HU:=HU'
 clear HU'
 have HQ2':=Lib.hid ((HQ2.out.below hb1 (by omega)).kept t3 (by simp))
 clear HQ2
 have HQ2:=HQ2'
 clear HQ2'
 have HQ3':=Lib.hid ((HQ3.out.below hb1 (by omega)).kept t3 (by simp))
 clear HQ3
 have HQ3:=HQ3'
 clear HQ3'
 clear hb1 hx1 hu1 t1 t2 t3 t4 qv nw1 HB0 HQB0 hsz1
 obtain ⟨p,hp⟩ : ∃ p,x % 2 = p:=⟨_,rfl⟩
 have hpi : (x : Int) % 2 = (p : Int):=by omega
 have HP:=Lib.hid hp
 clear hp
 by_cases hm0 : m = 0
 ·subst hm0
  have HTS : Hid (Rs = (Gx.mk 17 [] v0 [E1],r1)):=Lib.hid (by rw [<- HLM.out,madeM,if_pos h3h.out,if_pos HM.out,HE1.out,HR1.out])
  have hrg1:=HC1.out.range
  obtain ⟨T,hT⟩ : ∃ T,V1.heap.size = T:=⟨_,rfl⟩
  obtain ⟨W9,hW9⟩ : ∃ W9,V1.alloc (.cells X1.cells 49) = W9:=⟨_,rfl⟩
  have b89 : Below V1.heap.size V1 W9:=by rw [<- hW9]; exact (Below.refl _ _).alloc (Nat.le_refl _) _
  have q9 : Blk W9 T X1.cells 49:=by
   have := Blk.new V1 X1.cells 49
   rwa [hW9,hT] at this
  have s9 : W9.heap.size = T + 1:=by rw [<- hW9,World.size_alloc,hT]
  have hop:=gop_any 17 ⟨some ⟨T,0,none⟩,1,1⟩ W9
  have HW9:=Lib.hid hW9
  have HT:=Lib.hid hT
  dsimp only [Xv.cells] at HW9
  clear hW9
  go_wp2_with (first | (refine wpList_load_mid rfl 49 (.tmp 8) rfl (B + 1) 0 rfl X1.cells.toList _ hrg1 Tryz.underlying49 rfl infoExN ?_))
  try simp only [HT.out]
  rw [HW9.out]
  refine hop.mono ?_
  rintro e w10 ⟨rfl,hb10⟩
  have q10:=(HQB1.out.below b89 (by omega)).below hb10 (by omega)
  have h1o : ∀ u ∈ (opX 17 ⟨some ⟨T,0,none⟩,1,1⟩).cells,u.oneCell' = true:=by simp [Value.oneCell']
  clear hop
  go_wp2_with (refine wpList_store_blk rfl 49 49 (.tmp 4) (.tmp 44) rfl (opX 17 ⟨some ⟨T,0,none⟩,1,1⟩).cells _ B q10 infoExN rfl h1o rfl rfl ?_; intro W11 t1 t2 t3 t4)
  refine bodyPost_ret (results_blk2 rfl _ _ B _ _ t1 rfl Tryz.underlying49 rfl infoExN) rfl ?_
  rw [HTS.out]
  have w89 : NewW (B + 4) V1 W11:=(NewW.of b89).trans ((NewW.of hb10).trans (NewW.put t3 (by omega)))
  have w91 : NewW (B + 4) W9 W11:=(NewW.of hb10).trans (NewW.put t3 (by omega))
  exact ⟨_,_,rfl,(exn_one (w91.blk (by omega) q9) (by omega) (HX1.out.move w89)).mono (by omega),((HU.out.below (K':=K) b89 (by omega) (Nat.le_refl _)).below (K':=K) hb10 (by omega) (Nat.le_refl _)).below (t2 B (Nat.le_refl _)) (by omega) (Nat.le_refl _),HB1.out.trans ((b89.mono (by omega)).trans ((hb10.mono (by omega)).trans (t2 B (Nat.le_refl _))))⟩
 ·have hmn : ¬ (m : Int) = 0:=by omega
  have hmn2 : ((m : Int) == 0) = false:=by simpa using hmn
  go_upto_region 9 with fail
  have hcall:=ih r1 v1 K V1 HU.out hx256 (by omega) hlen
  obtain ⟨E2,hE2⟩ : ∃ ze,(madeM d r1).1 = ze:=⟨_,rfl⟩
  obtain ⟨r2,hr2⟩ : ∃ zr,(madeM d r1).2 = zr:=⟨_,rfl⟩
  have hrl : (∀ x ∈ r2,x < 256) /\ r2.length <= 2 ^ 40:=⟨fun x hx => hx256 x (by rw [<- hr2] at hx; exact madeM_sub d _ x hx),by have := madeM_size d r1; have h1:=partsG_pos (madeM d r1).1; rw [hr2] at this; omega⟩
  rw [hE2,hr2] at hcall
  have HE2:=Lib.hid hE2
  have HR2:=Lib.hid hr2
  clear hE2 hr2 hx256 hlen
  go_wp2_with fail
  refine hcall.mono ?_
  rintro e w2 ⟨X2,v2,rfl,hx2,hu2,hb2⟩
  have hx256:=hrl.1
  have hlen:=hrl.2
  have hsz2:=hb2.size
  have h1c2 : ∀ u ∈ X2.cells,u.oneCell' = true:=by simp [Value.oneCell']
  have qv:=HQ2.out.below hb2 (by omega)
  clear hcall hrl
  go_upto_region 10 with (refine wpList_store_blk rfl 49 49 (.tmp 9) (.tmp 51) rfl X2.cells _ (B + 2) qv infoExN rfl h1c2 rfl rfl ?_; intro V2 t1 t2 t3 t4)
  have nw2 : NewW (B + 4) V1 V2:=(NewW.of hb2).trans (NewW.put t3 (by omega))
  have HB2:=Lib.hid (HB1.out.trans ((hb2.mono (by omega)).trans (t2 B (by omega))))
  have HQB2:=Lib.hid ((HQB1.out.below hb2 (by omega)).kept t3 (by simp))
  have HX2:=Lib.hid ((hx2.mono (by omega : B + 4 <= V1.heap.size)).move (NewW.put t3 (by omega)))
  have HC2:=Lib.hid t1
  have sv2 : B + 4 <= V2.heap.size:=by omega
  have HU':=Lib.hid ((hu2.below (K':=K) (t2 B (by omega)) (by omega) (Nat.le_refl _)))
  clear HU
  have HU:=HU'
  clear HU'
  have HQ3':=Lib.hid ((HQ3.out.below hb2 (by omega)).kept t3 (by simp))
  clear HQ3
  have HQ3:=HQ3'
  clear HQ3'
  have HX1':=Lib.hid (HX1.out.move nw2)
  clear HX1
  have HX1:=HX1'
  clear HX1'
  have HC1':=Lib.hid ((HC1.out.below hb2 (by omega)).kept t3 (by simp))
  clear HC1
  have HC1:=HC1'
  clear HC1'
  clear hb2 hx2 hu2 t1 t2 t3 t4 qv nw2 HB1 HQB1 hsz2
  by_cases hm3 : m = 3
  ·subst hm3
   go_upto_region 11 with fail
   have hcall:=ih r2 v2 K V2 HU.out hx256 (by omega) hlen
   obtain ⟨E3,hE3⟩ : ∃ ze,(madeM d r2).1 = ze:=⟨_,rfl⟩
   obtain ⟨r3,hr3⟩ : ∃ zr,(madeM d r2).2 = zr:=⟨_,rfl⟩
   have hrl : (∀ x ∈ r3,x < 256) /\ r3.length <= 2 ^ 40:=⟨fun x hx => hx256 x (by rw [<- hr3] at hx; exact madeM_sub d _ x hx),by have := madeM_size d r2; have h1:=partsG_pos (madeM d r2).1; rw [hr3] at this; omega⟩
   rw [hE3,hr3] at hcall
   have HE3:=Lib.hid hE3
   have HR3:=Lib.hid hr3
   clear hE3 hr3 hx256 hlen
   go_wp2_with fail
   refine hcall.mono ?_
   rintro e w3 ⟨X3,v3,rfl,hx3,hu3,hb3⟩
   have hx256:=hrl.1
   have hlen:=hrl.2
   have hsz3:=hb3.size
   have h1c3 : ∀ u ∈ X3.cells,u.oneCell' = true:=by simp [Value.oneCell']
   have qv:=HQ3.out.below hb3 (by omega)
   clear hcall hrl
   go_upto_region 12 with (refine wpList_store_blk rfl 49 49 (.tmp 10) (.tmp 61) rfl X3.cells _ (B + 3) qv infoExN rfl h1c3 rfl rfl ?_; intro V3 t1 t2 t3 t4)
   have nw3 : NewW (B + 4) V2 V3:=(NewW.of hb3).trans (NewW.put t3 (by omega))
   have HB3:=Lib.hid (HB2.out.trans ((hb3.mono (by omega)).trans (t2 B (by omega))))
   have HQB3:=Lib.hid ((HQB2.out.below hb3 (by omega)).kept t3 (by simp))
   have HX3:=Lib.hid ((hx3.mono (by omega : B + 4 <= V2.heap.size)).move (NewW.put t3 (by omega)))
   have HC3:=Lib.hid t1
   have sv3 : B + 4 <= V3.heap.size:=by omega
   have HU':=Lib.hid ((hu3.below (K':=K) (t2 B (by omega)) (by omega) (Nat.le_refl _)))
   clear HU
   have HU:=HU'
   clear HU'
   have HX1':=Lib.hid (HX1.out.move nw3)
   clear HX1
   have HX1:=HX1'
   clear HX1'
   have HC1':=Lib.hid ((HC1.out.below hb3 (by omega)).kept t3 (by simp))
   clear HC1
   have HC1:=HC1'
   clear HC1'
   have HX2':=Lib.hid (HX2.out.move nw3)
   clear HX2
   have HX2:=HX2'
   clear HX2'
   have HC2':=Lib.hid ((HC2.out.below hb3 (by omega)).kept t3 (by simp))
   clear HC2
   have HC2:=HC2'
   clear HC2'
   clear hb3 hx3 hu3 t1 t2 t3 t4 qv nw3 HB2 HQB2 hsz3
   have HTS : Hid (Rs = (Gx.mk 18 [] v0 [E1,E2,E3],r3)):=Lib.hid (by rw [<- HLM.out,madeM,if_pos h3h.out,if_neg (by rw [HM.out]; omega),if_pos HM.out,HR1.out,HR2.out,HE1.out,HE2.out,HE3.out,HR3.out])
   have hrg1:=HC1.out.range
   have hrg2:=HC2.out.range
   have hrg3:=HC3.out.range
   obtain ⟨T,hT⟩ : ∃ T,V3.heap.size = T:=⟨_,rfl⟩
   obtain ⟨W9,hW9⟩ : ∃ W9,V3.alloc (.cells (cells3 X1 X2 X3) 49) = W9:=⟨_,rfl⟩
   have b89 : Below V3.heap.size V3 W9:=by rw [<- hW9]; exact (Below.refl _ _).alloc (Nat.le_refl _) _
   have q9 : Blk W9 T (cells3 X1 X2 X3) 49:=by
    have := Blk.new V3 (cells3 X1 X2 X3) 49
    rwa [hW9,hT] at this
   have s9 : W9.heap.size = T + 1:=by rw [<- hW9,World.size_alloc,hT]
   have hop:=gop_any 18 ⟨some ⟨T,0,none⟩,3,3⟩ W9
   have HW9:=Lib.hid hW9
   have HT:=Lib.hid hT
   dsimp only [cells3] at HW9
   clear hW9
   go_wp2_with (first | (refine wpList_load_mid rfl 49 (.tmp 8) rfl (B + 1) 0 rfl X1.cells.toList _ hrg1 Tryz.underlying49 rfl infoExN ?_) | (refine wpList_load_mid rfl 49 (.tmp 9) rfl (B + 2) 0 rfl X2.cells.toList _ hrg2 Tryz.underlying49 rfl infoExN ?_) | (refine wpList_load_mid rfl 49 (.tmp 10) rfl (B + 3) 0 rfl X3.cells.toList _ hrg3 Tryz.underlying49 rfl infoExN ?_))
   try simp only [HT.out]
   rw [HW9.out]
   refine hop.mono ?_
   rintro e w10 ⟨rfl,hb10⟩
   have q10:=(HQB3.out.below b89 (by omega)).below hb10 (by omega)
   have h1o : ∀ u ∈ (opX 18 ⟨some ⟨T,0,none⟩,3,3⟩).cells,u.oneCell' = true:=by simp [Value.oneCell']
   clear hop
   go_wp2_with (refine wpList_store_blk rfl 49 49 (.tmp 4) (.tmp 67) rfl (opX 18 ⟨some ⟨T,0,none⟩,3,3⟩).cells _ B q10 infoExN rfl h1o rfl rfl ?_; intro W11 t1 t2 t3 t4)
   refine bodyPost_ret (results_blk2 rfl _ _ B _ _ t1 rfl Tryz.underlying49 rfl infoExN) rfl ?_
   rw [HTS.out]
   have w89 : NewW (B + 4) V3 W11:=(NewW.of b89).trans ((NewW.of hb10).trans (NewW.put t3 (by omega)))
   have w91 : NewW (B + 4) W9 W11:=(NewW.of hb10).trans (NewW.put t3 (by omega))
   exact ⟨_,_,rfl,(exn_three (w91.blk (by omega) q9) (by omega) (HX1.out.move w89) (HX2.out.move w89) (HX3.out.move w89)).mono (by omega),((HU.out.below (K':=K) b89 (by omega) (Nat.le_refl _)).below (K':=K) hb10 (by omega) (Nat.le_refl _)).below (t2 B (Nat.le_refl _)) (by omega) (Nat.le_refl _),HB3.out.trans ((b89.mono (by omega)).trans ((hb10.mono (by omega)).trans (t2 B (Nat.le_refl _))))⟩
  ·have hmn3 : ((m : Int) == 3) = false:=by simp; omega
   have HTS : Hid (Rs = (Gx.mk (15 + (p : Int)) [] v0 [E1,E2],r2)):=Lib.hid (by rw [<- HLM.out,madeM,if_pos h3h.out,if_neg (by rw [HM.out]; exact hm0),if_neg (by rw [HM.out]; exact hm3),HP.out,HR1.out,HE1.out,HE2.out,HR2.out])
   have hp2 : p < 2:=by have := HP.out; omega
   have hrg1:=HC1.out.range
   have hrg2:=HC2.out.range
   obtain ⟨T,hT⟩ : ∃ T,V2.heap.size = T:=⟨_,rfl⟩
   obtain ⟨W9,hW9⟩ : ∃ W9,V2.alloc (.cells (cells2 X1 X2) 49) = W9:=⟨_,rfl⟩
   have b89 : Below V2.heap.size V2 W9:=by rw [<- hW9]; exact (Below.refl _ _).alloc (Nat.le_refl _) _
   have q9 : Blk W9 T (cells2 X1 X2) 49:=by
    have := Blk.new V2 (cells2 X1 X2) 49
    rwa [hW9,hT] at this
   have s9 : W9.heap.size = T + 1:=by rw [<- hW9,World.size_alloc,hT]
   have hop:=gop_any (15 + (p : Int)) ⟨some ⟨T,0,none⟩,2,2⟩ W9
   have HW9:=Lib.hid hW9
   have HT:=Lib.hid hT
   dsimp only [cells2] at HW9
   clear hW9
   go_wp2_with (first | (refine wpList_load_mid rfl 49 (.tmp 8) rfl (B + 1) 0 rfl X1.cells.toList _ hrg1 Tryz.underlying49 rfl infoExN ?_) | (refine wpList_load_mid rfl 49 (.tmp 9) rfl (B + 2) 0 rfl X2.cells.toList _ hrg2 Tryz.underlying49 rfl infoExN ?_))
   try simp only [HT.out]
   rw [HW9.out]
   refine hop.mono ?_
   rintro e w10 ⟨rfl,hb10⟩
   have q10:=(HQB2.out.below b89 (by omega)).below hb10 (by omega)
   have h1o : ∀ u ∈ (opX (15 + (p : Int)) ⟨some ⟨T,0,none⟩,2,2⟩).cells,u.oneCell' = true:=by simp [Value.oneCell']
   clear hop
   go_wp2_with (refine wpList_store_blk rfl 49 49 (.tmp 4) (.tmp 75) rfl (opX (15 + (p : Int)) ⟨some ⟨T,0,none⟩,2,2⟩).cells _ B q10 infoExN rfl h1o rfl rfl ?_; intro W11 t1 t2 t3 t4)
   refine bodyPost_ret (results_blk2 rfl _ _ B _ _ t1 rfl Tryz.underlying49 rfl infoExN) rfl ?_
   rw [HTS.out]
   have w89 : NewW (B + 4) V2 W11:=(NewW.of b89).trans ((NewW.of hb10).trans (NewW.put t3 (by omega)))
   have w91 : NewW (B + 4) W9 W11:=(NewW.of hb10).trans (NewW.put t3 (by omega))
   exact ⟨_,_,rfl,(exn_two (w91.blk (by omega) q9) (by omega) (HX1.out.move w89) (HX2.out.move w89)).mono (by omega),((HU.out.below (K':=K) b89 (by omega) (Nat.le_refl _)).below (K':=K) hb10 (by omega) (Nat.le_refl _)).below (t2 B (Nat.le_refl _)) (by omega) (Nat.le_refl _),HB2.out.trans ((b89.mono (by omega)).trans ((hb10.mono (by omega)).trans (t2 B (Nat.le_refl _))))⟩
theorem madeM_nil (d : Nat) : madeM d [] = (truG,[]):=by cases d <;> rfl
theorem gmade_any (d : Nat) : d <= 6 -> MadeAt d:=by
 induction d with
 | zero =>
  intro _ l v K w hu hx hK hlen
  cases l with
  | nil => rw [madeM_nil]; exact gmade_nil K 0 v w hu
  | cons x r =>
   rw [List.length_cons] at hlen
   have := gmade_leaf K 0 x r v w hu hx hK (by omega) (.inl rfl) (by omega)
   rw [madeM]; exact this
 | succ d ih =>
  intro hd l v K w hu hx hK hlen
  cases l with
  | nil => rw [madeM_nil]; exact gmade_nil K (d + 1) v w hu
  | cons x r =>
   rw [List.length_cons] at hlen
   by_cases h3 : x % 3 = 0
   ·exact gmade_comp K d x r v w (ih (by omega)) hu hx hK (by omega) h3 (by omega)
   ·have := gmade_leaf K (d + 1) x r v w hu hx hK (by omega) (.inr h3) (by omega)
    rw [madeM,if_neg h3]; exact this
theorem gMade_any (K : Nat) (l : List Nat) (v : Value) (w : World) (hu : U8s K w v l) (hx : ∀ y ∈ l,y < 256) (hK : K <= w.heap.size) (hlen : l.length <= 2 ^ 40) : Calls Tryz.prog 57 #[v] w fun e w' => ∃ X : Xv,e = .returned X.agg /\ ExN w.heap.size w' (madeM 6 l).1 X /\ Below w.heap.size w w':=by
 obtain ⟨W1,hW1⟩ : ∃ W1,w.alloc (.cells xz.cells 49) = W1:=⟨_,rfl⟩
 have b1 : Below w.heap.size w W1:=by rw [<- hW1]; exact (Below.refl _ _).alloc (Nat.le_refl _) _
 have q1 : Blk W1 w.heap.size xz.cells 49:=by rw [<- hW1]; exact Blk.new w _ _
 have s1 : W1.heap.size = w.heap.size + 1:=by rw [<- hW1]; simp
 obtain ⟨B,hB⟩ : ∃ B,w.heap.size = B:=⟨_,rfl⟩
 have HB:=Lib.hid hB
 have HW1 : Hid (w.alloc (.cells #[.int .u8 0,.string ⟨#[]⟩,.int .u8 0,.bool false,.slice none 0 0,.bool false,.slice none 0 0,.int .i64 0,.slice none 0 0] 49) = W1):=Lib.hid hW1
 rw [hB] at b1 q1 s1 hK ⊢
 have hcall : Calls Tryz.prog 118 #[v,.int .i64 6] W1 fun e w' => ∃ X v',e = .returned (.tuple #[X.agg,v']) /\ ExN W1.heap.size w' (madeM 6 l).1 X /\ U8s K w' v' (madeM 6 l).2 /\ Below W1.heap.size W1 w':=gmade_any 6 (Nat.le_refl _) l v K W1 (hu.below b1 hK (Nat.le_refl _)) hx (by omega) hlen
 obtain ⟨E,hE⟩ : ∃ E,(madeM 6 l).1 = E:=⟨_,rfl⟩
 rw [hE] at hcall ⊢
 clear hB hW1 hu hE hx hlen
 go_enter Tryz.func57,Tryz.ntmps57
 go_upto_region 1 with fail
 simp only [HB.out]
 rw [HW1.out]
 go_wp2_with fail
 refine hcall.mono ?_
 rintro e w2 ⟨X,v',rfl,hx,_,hb2⟩
 have hs2:=hb2.size
 have h1c : ∀ u ∈ X.cells,u.oneCell' = true:=by simp [Value.oneCell']
 clear hcall
 go_upto_region 2 with (refine wpList_store_new rfl 49 (.tmp 3) (.tmp 8) rfl X.cells _ infoExN rfl h1c w2.heap.size rfl rfl rfl ?_)
 obtain ⟨S,hS⟩ : ∃ S,w2.heap.size = S:=⟨_,rfl⟩
 obtain ⟨W3,hW3⟩ : ∃ W3,w2.alloc (.cells X.cells 49) = W3:=⟨_,rfl⟩
 have b3 : Below w2.heap.size w2 W3:=by rw [<- hW3]; exact (Below.refl _ _).alloc (Nat.le_refl _) _
 have qs : Blk W3 S X.cells 49:=by rw [<- hW3,<- hS]; exact Blk.new w2 _ _
 have q3:=(q1.below hb2 (by omega)).below b3 (by omega)
 have hrg:=qs.range
 have HS:=Lib.hid hS
 have HW3:=Lib.hid hW3
 simp only [HS.out]
 rw [HW3.out]
 clear hS hW3
 go_wp2_with (first
  | (refine wpList_load_mid rfl 49 (.tmp 3) rfl S 0 rfl X.cells.toList _ hrg Tryz.underlying49 rfl infoExN ?_)
  | (refine wpList_store_blk rfl 49 49 (.tmp 2) (.tmp 10) rfl X.cells _ B q3 infoExN rfl h1c rfl rfl ?_; intro W5 t1 t2 t3 t4))
 refine bodyPost_ret (results_blk rfl _ _ B _ _ t1 rfl Tryz.underlying49 rfl infoExN) rfl ?_
 exact ⟨X,rfl,((hx.mono (by omega : B + 1 <= W1.heap.size)).move ((NewW.of b3).trans (NewW.put t3 (by omega)))).mono (by omega),b1.trans ((hb2.mono (by omega)).trans ((b3.mono (by omega)).trans (t2 B (Nat.le_refl _))))⟩
def twL (l1 l2 : List Nat) : Int:=if l2[0]?.getD 0 = 1 then ((l1[0]?.getD 0 : Nat) : Int) * 2 else ((l1[0]?.getD 0 : Nat) : Int)
theorem twc_L (v : Vq) : twc v = twL v.l1 v.l2:=rfl
theorem lm_first {K : Nat} {w : World} {s : Value} {l : List Nat} (h : Lm K w s l) : ∃ a m,s = .slice a l.length m /\ (0 < l.length -> ∃ b o,a = some ⟨b,o,none⟩ /\ b < K /\ w.cell? ⟨b,o,none⟩ = some (.int .u16 ((l[0]?.getD 0 : Nat) : Int)) /\ l[0]?.getD 0 < 65536):=by
 obtain ⟨a,m,e,h1,h2,h3,h4⟩:=h.1
 refine ⟨a,m,e,fun h0 => ?_⟩
 obtain ⟨b,o,ha,hb,hc⟩:=h4 0 h0
 refine ⟨b,o,ha,hb,by simpa using hc 0 (by omega),?_⟩
 have := h.2 (l[0]?.getD 0) (by rw [List.getElem?_eq_getElem h0]; exact List.getElem_mem h0)
 exact this
theorem gtwice_any (K : Nat) (l1 l2 : List Nat) (s1 s2 : Value) (f1 f2 : Bool) (w : World) (h1 : Lm K w s1 l1) (h2 : Lm K w s2 l2) (hK : K <= w.heap.size) :
  Calls Tryz.prog 84 #[.agg #[.bool f1,s1,.bool f2,s2]] w fun e w' => e = .returned (.int .i64 (twL l1 l2)) /\ Below w.heap.size w w':=by
 obtain ⟨a1,m1,rfl,g1⟩:=lm_first h1
 obtain ⟨a2,m2,rfl,g2⟩:=lm_first h2
 obtain ⟨n1,hn1⟩ : ∃ n,l1.length = n:=⟨_,rfl⟩
 obtain ⟨n2,hn2⟩ : ∃ n,l2.length = n:=⟨_,rfl⟩
 obtain ⟨x,hx⟩ : ∃ x,l1[0]?.getD 0 = x:=⟨_,rfl⟩
 obtain ⟨y,hy⟩ : ∃ y,l2[0]?.getD 0 = y:=⟨_,rfl⟩
 have hR : twL l1 l2 = if y = 1 then (x : Int) * 2 else x:=by unfold twL; rw [hx,hy]
 have hz1 : n1 = 0 -> x = 0:=fun e => by rw [<- hx,List.getElem?_eq_none (by omega)]; rfl
 have hz2 : n2 = 0 -> y = 0:=fun e => by rw [<- hy,List.getElem?_eq_none (by omega)]; rfl
 rw [hn1,hx] at g1
 rw [hn2,hy] at g2
 rw [hn1,hn2,hR]
 obtain ⟨W1,hW1⟩ : ∃ W1,w.alloc (.cells #[.bool f1,.slice a1 n1 m1,.bool f2,.slice a2 n2 m2] 45) = W1:=⟨_,rfl⟩
 have b1 : Below w.heap.size w W1:=by rw [<- hW1]; exact (Below.refl _ _).alloc (Nat.le_refl _) _
 have q1 : Blk W1 w.heap.size #[.bool f1,.slice a1 n1 m1,.bool f2,.slice a2 n2 m2] 45:=by rw [<- hW1]; exact Blk.new w _ _
 obtain ⟨B,hB⟩ : ∃ B,w.heap.size = B:=⟨_,rfl⟩
 have HB:=Lib.hid hB
 have HW1:=Lib.hid hW1
 rw [hB] at b1 q1 hK ⊢
 obtain ⟨c0,c1,c2,c3⟩:=q1.four
 have k1 : 0 < n1 -> ∃ b o,a1 = some ⟨b,o,none⟩ /\ W1.cell? ⟨b,o,none⟩ = some (.int .u16 (x : Int)) /\ x < 65536:=fun h0 => by
  obtain ⟨b,o,e,hb,hc,hl⟩:=g1 h0
  exact ⟨b,o,e,(b1.cell (p:=⟨b,o,none⟩) (by show b < B; omega)).trans hc,hl⟩
 have k2 : 0 < n2 -> ∃ b o,a2 = some ⟨b,o,none⟩ /\ W1.cell? ⟨b,o,none⟩ = some (.int .u16 (y : Int)) /\ y < 65536:=fun h0 => by
  obtain ⟨b,o,e,hb,hc,hl⟩:=g2 h0
  exact ⟨b,o,e,(b1.cell (p:=⟨b,o,none⟩) (by show b < B; omega)).trans hc,hl⟩
 clear h1 h2 g1 g2 hn1 hn2 hx hy hR hB hW1
 by_cases hp1 : 0 < n1
 ·obtain ⟨e1,o1,rfl,z1,x16⟩:=k1 hp1
  have d1 : decide (0 < n1) = true:=by simpa using hp1
  by_cases hp2 : 0 < n2
  ·obtain ⟨e2,o2,rfl,z2,y16⟩:=k2 hp2
   have d2 : decide (0 < n2) = true:=by simpa using hp2
   by_cases hy1 : y = 1
   ·subst hy1
    rw [if_pos rfl]
    clear k1 k2 hz1 hz2
    go_enter Tryz.func84,Tryz.ntmps84
    go_upto_region 1 with fail
    simp only [HB.out]
    rw [HW1.out]
    go_wp2_with fail
    go_ret
    exact ⟨rfl,b1⟩
   ·have hy2 : ((y : Int) == 1) = false:=by simp; omega
    rw [if_neg hy1]
    clear k1 k2 hz1 hz2
    go_enter Tryz.func84,Tryz.ntmps84
    go_upto_region 1 with fail
    simp only [HB.out]
    rw [HW1.out]
    go_wp2_with fail
    go_ret
    exact ⟨rfl,b1⟩
  ·have h0 : n2 = 0:=by omega
   have hy0:=hz2 h0
   subst h0 hy0
   rw [if_neg (by omega)]
   clear k1 k2 hz1 hz2
   go_enter Tryz.func84,Tryz.ntmps84
   go_upto_region 1 with fail
   simp only [HB.out]
   rw [HW1.out]
   go_wp2_with fail
   go_ret
   exact ⟨rfl,b1⟩
 ·have h0 : n1 = 0:=by omega
  have hx0:=hz1 h0
  subst h0 hx0
  have hR : (if y = 1 then ((0 : Nat) : Int) * 2 else ((0 : Nat) : Int)) = 0:=by split <;> rfl
  rw [hR]
  by_cases hp2 : 0 < n2
  ·obtain ⟨e2,o2,rfl,z2,y16⟩:=k2 hp2
   have d2 : decide (0 < n2) = true:=by simpa using hp2
   by_cases hy1 : y = 1
   ·subst hy1
    clear k1 k2 hz1 hz2 hR
    go_enter Tryz.func84,Tryz.ntmps84
    go_upto_region 1 with fail
    simp only [HB.out]
    rw [HW1.out]
    go_wp2_with fail
    go_ret
    exact ⟨rfl,b1⟩
   ·have hy2 : ((y : Int) == 1) = false:=by simp; omega
    clear k1 k2 hz1 hz2 hR
    go_enter Tryz.func84,Tryz.ntmps84
    go_upto_region 1 with fail
    simp only [HB.out]
    rw [HW1.out]
    go_wp2_with fail
    go_ret
    exact ⟨rfl,b1⟩
  ·have h0 : n2 = 0:=by omega
   subst h0
   clear k1 k2 hz1 hz2 hR
   go_enter Tryz.func84,Tryz.ntmps84
   go_upto_region 1 with fail
   simp only [HB.out]
   rw [HW1.out]
   go_wp2_with fail
   go_ret
   exact ⟨rfl,b1⟩
theorem kfracJ_any (j : Nat) (hj : j < 65536) (h2 : j % 2 = 1) (w : World) :
  Calls Tryz.prog 83 #[.int .i64 j,.int .i64 2] w fun e w' => ∃ u v,e = .returned (Fv u v) /\ (∃ a c,u = .slice a 1 c) /\ (∃ a c,v = .slice a 1 c) /\ Lm w'.heap.size w' u [j] /\ Lm w'.heap.size w' v [2] /\ Below w.heap.size w w' /\ NewV w.heap.size u /\ NewV w.heap.size v:=by
 obtain ⟨W1,hW1⟩ : ∃ W1,w.alloc (.cells #[.bool false,.slice none 0 0,.bool false,.slice none 0 0] 45) = W1:=⟨_,rfl⟩
 have b1 : Below w.heap.size w W1:=by rw [<- hW1]; exact (Below.refl _ _).alloc (Nat.le_refl _) _
 have q1 : Blk W1 w.heap.size #[.bool false,.slice none 0 0,.bool false,.slice none 0 0] 45:=by rw [<- hW1]; exact Blk.new w _ _
 have s1 : W1.heap.size = w.heap.size + 1:=by rw [<- hW1]; simp
 obtain ⟨B,hB⟩ : ∃ B,w.heap.size = B:=⟨_,rfl⟩
 have HB:=Lib.hid hB
 have HW:=Lib.hid hW1
 rw [hB] at b1 q1 s1 ⊢
 have hc : ∀ W,Calls Tryz.prog 138 #[.int .i64 j] W fun e w' => ∃ v,e = .returned (Wv v) /\ Lm w'.heap.size w' v [j] /\ Below W.heap.size W w' /\ NewV W.heap.size v:=fun W => kwhole_any j W (by omega) (by omega)
 have hc2 : ∀ W,Calls Tryz.prog 138 #[.int .i64 2] W fun e w' => ∃ v,e = .returned (Wv v) /\ Lm w'.heap.size w' v [2] /\ Below W.heap.size W w' /\ NewV W.heap.size v:=fun W => kwhole_any 2 W (by omega) (by omega)
 have HC:=Lib.hid hc
 have HC2:=Lib.hid hc2
 clear hB hW1 hc hc2
 have hj2 : (j : Int) % 2 = 1:=by omega
 have hj0 : ((j : Int) == 0) = false:=by simp; omega
 have hjp : ¬ (j : Int) < 0:=by omega
 have hju : IntKind.u64.wrap (j : Int) = j:=IntWalk.u64_in _ (by omega)
 go_enter Tryz.func83,Tryz.ntmps83
 go_upto_region 1 with fail
 simp only [HB.out]
 rw [HW.out]
 go_wp2_with fail
 refine wp_loop_rounds 3 ?_
 rw [rounds_succ]
 go_upto_region 7 with fail
 go_quiet (fail)
 go_wp2_with fail
 rw [rounds_succ]
 go_upto_region 7 with fail
 go_quiet (fail)
 go_wp2_with fail
 rw [rounds_succ]
 go_upto_region 8 with fail
 generalize hX : World.drewN _ _ = W2
 have b2' : Below W1.heap.size W1 W2:=by rw [<- hX]; first | exact below_drewN2 (Below.refl _ _) _ | exact below_drewN2 (below_drewN2 (Below.refl _ _) _) _
 have hs2:=b2'.size
 have b2 : Below B w W2:=b1.trans (b2'.mono (by omega))
 have q2:=q1.below b2' (by omega)
 clear hX
 refine region_plain (fun W' => Below W2.heap.size W2 W') [11] (by kernel_rfl) ?_
 have qS : (fun W' => Below W2.heap.size W2 W') W2.drew:=below_quiet (Below.refl _ _)
 refine wpAnyD_tp (i:=0) (v:=.int .i64 j) rfl qS ?_
 refine wpAnyD_tp (i:=1) (v:=.int .u64 1) rfl qS ?_
 refine wpAnyD_tk (i:=2) (v:=.int .i64 1) rfl (.inl ⟨by kernel_rfl,fun W' hS => by have w1 : IntKind.i64.wrap 1 = 1:=IntWalk.i64_in _ (by omega); go_simp⟩) qS ?_
 refine wpAnyD_tk (i:=3) (v:=.int .i64 j) rfl (.inl ⟨by kernel_rfl,fun W' hS => by have wn : IntKind.i64.wrap (j : Int) = j:=IntWalk.i64_in _ (by omega); go_simp⟩) qS ?_
 refine wpAnyD_tp (i:=5) (v:=.int .i64 2) rfl qS ?_
 refine wpAnyD_tp (i:=6) (v:=.int .u64 1) rfl qS ?_
 refine wpAnyD_tk (i:=7) (v:=.int .i64 1) rfl (.inl ⟨by kernel_rfl,fun W' hS => by have w1 : IntKind.i64.wrap 1 = 1:=IntWalk.i64_in _ (by omega); go_simp⟩) qS ?_
 refine wpAnyD_tk (i:=8) (v:=.int .i64 2) rfl (.inl ⟨by kernel_rfl,fun W' hS => by have wn : IntKind.i64.wrap 2 = 2:=IntWalk.i64_in _ (by omega); go_simp⟩) qS ?_
 refine wpAnyD_one (i:=4) (by kernel_rfl) rfl (by kernel_rfl) ?_
 go_simp
 refine (HC.out _).mono ?_
 rintro e w3 ⟨v3,rfl,hl3,hb3,hn3⟩
 have qS3 : Below W2.heap.size W2 w3:=qS.trans (hb3.mono qS.size)
 obtain ⟨a3,c3,rfl,_⟩:=hl3.form
 have HL3:=Lib.hid hl3
 clear hl3
 go_simp
 refine wpAnyD_one (i:=9) (by kernel_rfl) rfl (by kernel_rfl) ?_
 go_simp
 refine (HC2.out _).mono ?_
 rintro e w4 ⟨v4,rfl,hl4,hb4,hn4⟩
 have qS4 : Below W2.heap.size W2 w4:=qS3.trans (hb4.mono qS3.size)
 obtain ⟨a4,c4,rfl,_⟩:=hl4.form
 have HL4:=Lib.hid hl4
 have hn43 : NewV W2.heap.size (.slice a3 1 c3):=hn3
 have hn44 : NewV W2.heap.size (.slice a4 1 c4):=hn4.mono qS3.size
 have HL34:=Lib.hid (HL3.out.below hb4 (Nat.le_refl _) hb4.size)
 clear hl4
 go_simp
 refine wpAnyD_tp (i:=10) (v:=Fv (.slice a3 1 c3) (.slice a4 1 c4)) rfl qS4 ?_
 have q4:=q2.below qS4 (by omega)
 obtain ⟨c0,c1,c2,c3'⟩:=q4.four
 have f0:=q4.free 0
 have f1:=q4.free 1
 have f2:=q4.free 2
 have f3:=q4.free 3
 refine wpAnyD_one (i:=11) (by kernel_rfl) rfl (by kernel_rfl) ?_
 go_simp
 refine wpAnyD_done (by kernel_rfl) ?_ _
 clear c0 c1 c2 c3' f0 f1 f2 f3
 have b4 : Below B w w4:=b2.trans (qS4.mono (by omega))
 have hs4:=qS4.size
 have x5:=(((q4.set (i:=0) (.bool false)).set (i:=1) (.slice a3 1 c3)).set (i:=2) (.bool false)).set (i:=3) (.slice a4 1 c4)
 obtain ⟨e0,e1,e2,e3⟩:=x5.four
 go_wp2_with fail
 refine bodyPost_ret (v:=Fv (.slice a3 1 c3) (.slice a4 1 c4)) (by simp [results,Tryz.results83,go_sem,e0,e1,e2,e3]) rfl ?_
 exact ⟨_,_,rfl,⟨_,_,rfl⟩,⟨_,_,rfl⟩,lm_put HL34.out hn43 (show B < W2.heap.size by omega) (grown_set4 _ _ _ _ _ _) (by rw [size_set4]; exact Nat.le_refl _),lm_put HL4.out hn44 (show B < W2.heap.size by omega) (grown_set4 _ _ _ _ _ _) (by rw [size_set4]; exact Nat.le_refl _),(((b4.setCell (p:=⟨B,0,none⟩) (by simp) _).setCell (p:=⟨B,1,none⟩) (by simp) _).setCell (p:=⟨B,2,none⟩) (by simp) _).setCell (p:=⟨B,3,none⟩) (by simp) _,hn43.mono (by omega),hn44.mono (by omega)⟩
def valM (k n : Nat) : Vq:=if kindN k = 1 then wholeV 1 ((n % 9 % 2 : Nat) : Int) else if (kindN k = 2 \/ kindN k = 3) /\ n % 2 = 1 then ⟨kindN k,false,[2 * (n % 9) + 1],false,[2],0⟩ else wV (kindN k) (n % 9)
def valsM (l : List Nat) (k : Nat) : Vq:=valM k (l[k]?.getD 0)
theorem valM_facts (k n : Nat) (hk : k < 12) : (valM k n).kd = kindN k /\ (valM k n).ok = true /\ (valM k n).good = true /\ Half (valM k n) /\ (kindN k = 2 \/ kindN k = 3 -> twc (valM k n) = tw (valM k n)) /\ (kindN k = 1 -> (valM k n).i = 0 \/ (valM k n).i = 1):=by
 have hm : n % 9 < 9:=Nat.mod_lt _ (by omega)
 have hp : n % 2 < 2:=Nat.mod_lt _ (by omega)
 have e : valM k n = if kindN k = 1 then wholeV 1 ((n % 9 % 2 : Nat) : Int) else if (kindN k = 2 \/ kindN k = 3) /\ n % 2 = 1 then ⟨kindN k,false,[2 * (n % 9) + 1],false,[2],0⟩ else wV (kindN k) (n % 9):=rfl
 rw [e]
 clear e
 generalize n % 9 = m at hm
 generalize n % 2 = p at hp
 have hkk : kindN k = 1 \/ kindN k = 2 \/ kindN k = 3 \/ kindN k = 4 \/ kindN k = 5 \/ kindN k = 6:=by have := kindN_range k; omega
 generalize kindN k = kd at hkk
 have hm9 : m = 0 \/ m = 1 \/ m = 2 \/ m = 3 \/ m = 4 \/ m = 5 \/ m = 6 \/ m = 7 \/ m = 8:=by omega
 have hp2 : p = 0 \/ p = 1:=by omega
 unfold Half
 rcases hkk with rfl | rfl | rfl | rfl | rfl | rfl <;> rcases hm9 with rfl | rfl | rfl | rfl | rfl | rfl | rfl | rfl | rfl <;> rcases hp2 with rfl | rfl <;> decide
theorem valsM_ok (l : List Nat) : ValOk (valsM l) where
 kd k hk:=(valM_facts k _ hk).1
 ok k hk:=(valM_facts k _ hk).2.1
 good k hk:=(valM_facts k _ hk).2.2.1
 half k hk:=(valM_facts k _ hk).2.2.2.1
 twc k hk:=(valM_facts k _ hk).2.2.2.2.1
theorem valsM_truth (l : List Nat) : ∀ k,k < 12 -> kindN k = 1 -> (valsM l k).i = 0 \/ (valsM l k).i = 1:=fun k hk => (valM_facts k _ hk).2.2.2.2.2
def cells72 (g : Nat -> Vv) : List Value:=(List.range 72).map fun j => (g (j / 6)).cell (j % 6)
theorem cells72_len (g : Nat -> Vv) : (cells72 g).length = 72:=by simp [cells72]
theorem cells72_at (g : Nat -> Vv) {i j : Nat} (hi : i < 12) (hj : j < 6) : (cells72 g)[i * 6 + j]? = some ((g i).cell j):=by
 unfold cells72
 rw [List.getElem?_map,List.getElem?_range (by omega)]
 simp only [Option.map_some]
 rw [show (i * 6 + j) / 6 = i by omega,show (i * 6 + j) % 6 = j by omega]
theorem vv_cell_one (x : Vv) (h1 : x.s1.oneCell' = true) (h2 : x.s2.oneCell' = true) (j : Nat) : (x.cell j).oneCell' = true:=by
 rcases j with _ | _ | _ | _ | _ | j <;> first | exact h1 | exact h2 | rfl
end Go.Proofs.YtlidpghnlloinaaGreatDoor
