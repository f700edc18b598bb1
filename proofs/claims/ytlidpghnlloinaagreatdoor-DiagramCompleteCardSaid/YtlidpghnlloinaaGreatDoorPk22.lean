/- Contracts and plain laws, several texts in one (GlM6, GlM7, GlM11, DLaw, DLaw2, DVal0, DExi, DCnd1). No conditions beyond those stated. -/
import Derived.Deep.Quiet
import Derived.Test.YtlidpghnlloinaaGreatDoorPk20
import Derived.Test.YtlidpghnlloinaaGreatDoorPk21
set_option maxRecDepth 100000
set_option maxHeartbeats 40000000
namespace Go.Proofs.YtlidpghnlloinaaGreatDoor
open Go.RowKit
set_option linter.unusedVariables false
def MadeAt (d : Nat) : Prop:=∀ (l : List Nat) (v : Value) (K : Nat) (w : World),U8s K w v l -> (∀ y ∈ l,y < 256) -> K <= w.heap.size -> l.length <= 2 ^ 40 →
 Calls Tryz.prog 118 #[v,.int .i64 d] w fun e w' => ∃ X v',e = .returned (.tuple #[X.agg,v']) /\ ExN w.heap.size w' (madeM d l).1 X /\ U8s K w' v' (madeM d l).2 /\ Below w.heap.size w w'
theorem gmade_comp (K d x : Nat) (r : List Nat) (v : Value) (w : World) (ih : MadeAt d) (hu : U8s K w v (x :: r)) (hx : ∀ y ∈ x :: r,y < 256) (hK : K <= w.heap.size) (hlen : r.length <= 2 ^ 40) (h3 : x % 3 = 0) (hd6 : d <= 5) : Calls Tryz.prog 118 #[v,.int .i64 ((d : Int) + 1)] w fun e w' => ∃ X v',e = .returned (.tuple #[X.agg,v']) /\ ExN w.heap.size w' (madeM (d + 1) (x :: r)).1 X /\ U8s K w' v' (madeM (d + 1) (x :: r)).2 /\ Below w.heap.size w w':=by
 obtain ⟨Rs,hRs⟩ : ∃ Rs,madeM (d + 1) (x :: r) = Rs:=⟨_,rfl⟩
 have HLM:=Lib.hid hRs
 rw [hRs]
 clear hRs
 obtain ⟨b,o,cap,rfl,hc1,hc2,hbK,hcell,hrest⟩:=hu.head
 unfold maxLen at hc2
 obtain ⟨W1,hW1⟩ : ∃ W1,w.alloc (.cells xz.cells 49) = W1:=⟨_,rfl⟩
 have b1 : Below w.heap.size w W1:=by rw [<- hW1]; exact (Below.refl _ _).alloc (Nat.le_refl _) _
 have q1 : Blk W1 w.heap.size xz.cells 49:=by rw [<- hW1]; exact Blk.new w _ _
 have s1 : W1.heap.size = w.heap.size + 1:=by rw [<- hW1]; simp
 obtain ⟨B,hB⟩ : ∃ B,w.heap.size = B:=⟨_,rfl⟩
 have HB:=Lib.hid hB
 have HW1 : Hid (w.alloc (.cells #[.int .u8 0,.string ⟨#[]⟩,.int .u8 0,.bool false,.slice none 0 0,.bool false,.slice none 0 0,.int .i64 0,.slice none 0 0] 49) = W1):=Lib.hid hW1
 rw [hB] at b1 q1 s1 hK ⊢
 have n0 : W1.cell? ⟨b,o,none⟩ = some (.int .u8 (x : Int)):=(b1.cell (p:=⟨b,o,none⟩) (by show b < B; omega)).trans hcell
 have hu1:=hrest.below (K':=K) b1 hK (Nat.le_refl _)
 have hx0 : x < 256:=hx x (List.mem_cons_self ..)
 have hxr : ∀ y ∈ r,y < 256:=fun y h => hx y (List.mem_cons_of_mem _ h)
 have hin : (0 : Int) < (r.length : Int) + 1:=by omega
 clear hB hW1 hu hcell hrest hx
 go_enter Tryz.func118,Tryz.ntmps118
 go_upto_region 1 with fail
 simp only [HB.out]
 rw [HW1.out]
 go_upto_region 3 with fail
 go_quiet (fail)
 generalize (if cap = 1 then some (⟨b,o,none⟩ : Addr) else some ⟨b,o + 1,none⟩) = ra at hu1 ⊢
 generalize cap - 1 = c1 at hu1 ⊢
 generalize hWq : W1.drewN _ = Wq
 have qq : Blk Wq B xz.cells 49:=by rw [<- hWq]; exact q1
 have bq : Below B w Wq:=by rw [<- hWq]; exact below_drewN2 b1 _
 have uq : U8s K Wq (.slice ra r.length c1) r:=by rw [<- hWq]; exact hu1
 have sq : Wq.heap.size = B + 1:=by rw [<- hWq]; exact s1
 have HUQ:=Lib.hid uq
 have HBQ:=Lib.hid bq
 clear q1 b1 hu1 s1 hWq n0 HW1 uq bq
 go_upto_region 4 with fail
 go_cut [31] from 25 to 31 (fun s wx => s = .bool true /\ Wq = wx)
 case first =>
  have hd1 : (0 : Int) < (d : Int) + 1:=by omega
  have h3' : (x : Int) % 3 = 0:=by omega
  go_wp2_with fail
  all_goals go_meet
  all_goals exact ⟨rfl,rfl⟩
 case rest =>
 obtain ⟨rfl,rfl⟩:=hcut
 obtain ⟨Wa,hWa⟩ : ∃ Wa,((Wq.alloc (.cells xz.cells 49)).alloc (.cells xz.cells 49)).alloc (.cells xz.cells 49) = Wa:=⟨_,rfl⟩
 have ba : Below Wq.heap.size Wq Wa:=by rw [<- hWa]; exact (((Below.refl _ _).alloc (Nat.le_refl _) _).alloc (by simp) _).alloc (by simp; omega) _
 have sa : Wa.heap.size = B + 4:=by rw [<- hWa]; simp; omega
 have HQ1 : Hid (Blk Wa (B + 1) xz.cells 49):=Lib.hid (by
  have := ((Blk.new Wq xz.cells 49).alloc (.cells xz.cells 49)).alloc (.cells xz.cells 49)
  rwa [hWa,sq] at this)
 have HQ2 : Hid (Blk Wa (B + 2) xz.cells 49):=Lib.hid (by
  have := (Blk.new (Wq.alloc (.cells xz.cells 49)) xz.cells 49).alloc (.cells xz.cells 49)
  rwa [hWa,World.size_alloc,sq] at this)
 have HQ3 : Hid (Blk Wa (B + 3) xz.cells 49):=Lib.hid (by
  have := Blk.new ((Wq.alloc (.cells xz.cells 49)).alloc (.cells xz.cells 49)) xz.cells 49
  rwa [hWa,World.size_alloc,World.size_alloc,sq] at this)
 have HQB0:=Lib.hid (qq.below ba (by omega))
 have HB0:=Lib.hid (HBQ.out.trans (ba.mono (by omega)))
 have HU:=Lib.hid (HUQ.out.below (K':=K) ba (by omega) (Nat.le_refl _))
 have HWa:=Lib.hid hWa
 dsimp only [xz,Xv.cells] at HWa
 have hx256:=hxr
 have h3h:=Lib.hid h3
 obtain ⟨m,hm⟩ : ∃ m,x % 4 = m:=⟨_,rfl⟩
 have hmi : (x : Int) % 4 = (m : Int):=by omega
 have hm4 : m < 4:=by omega
 have HM:=Lib.hid hm
 clear hWa qq HBQ HUQ ba hxr h3 hm
 go_upto_region 6 with fail
 rw [HWa.out]
 have hcall:=ih r _ K Wa HU.out hx256 (by omega) hlen
 obtain ⟨E1,hE1⟩ : ∃ ze,(madeM d r).1 = ze:=⟨_,rfl⟩
 obtain ⟨r1,hr1⟩ : ∃ zr,(madeM d r).2 = zr:=⟨_,rfl⟩
 have hrl : (∀ x ∈ r1,x < 256) /\ r1.length <= 2 ^ 40:=⟨fun x hx => hx256 x (by rw [<- hr1] at hx; exact madeM_sub d _ x hx),by have := madeM_size d r; have h1:=partsG_pos (madeM d r).1; rw [hr1] at this; omega⟩
 rw [hE1,hr1] at hcall
 have HE1:=Lib.hid hE1
 have HR1:=Lib.hid hr1
 clear hE1 hr1 hx256 hlen
 go_wp2_with fail
 refine hcall.mono ?_
 rintro e w1 ⟨X1,v1,rfl,hx1,hu1,hb1⟩
 have hx256:=hrl.1
 have hlen:=hrl.2
 have hsz1:=hb1.size
 have h1c1 : ∀ u ∈ X1.cells,u.oneCell' = true:=by simp [Value.oneCell']
 have qv:=HQ1.out.below hb1 (by omega)
 clear hcall hrl
 go_upto_region 7 with (refine wpList_store_blk rfl 49 49 (.tmp 8) (.tmp 37) rfl X1.cells _ (B + 1) qv infoExN rfl h1c1 rfl rfl ?_; intro V1 t1 t2 t3 t4)
 have nw1 : NewW (B + 4) Wa V1:=(NewW.of hb1).trans (NewW.put t3 (by omega))
 have HB1:=Lib.hid (HB0.out.trans ((hb1.mono (by omega)).trans (t2 B (by omega))))
 have HQB1:=Lib.hid ((HQB0.out.below hb1 (by omega)).kept t3 (by simp))
 have HX1:=Lib.hid ((hx1.mono (by omega : B + 4 <= Wa.heap.size)).move (NewW.put t3 (by omega)))
 have HC1:=Lib.hid t1
 have sv1 : B + 4 <= V1.heap.size:=by omega
 have HU':=Lib.hid ((hu1.below (K':=K) (t2 B (by omega)) (by omega) (Nat.le_refl _)))
 clear HU
 have HU:=HU'
 clear HU'
 have HQ2':=Lib.hid ((HQ2.out.below hb1 (by omega)).kept t3 (by simp))
 clear HQ2
 have HQ2:=HQ2'
 clear HQ2'
 have HQ3':=Lib.hid ((HQ3.out.below hb1 (by omega)).kept t3 (by simp))
 clear HQ3
 have HQ3:=HQ3'
 clear HQ3'
 clear hb1 hx1 hu1 t1 t2 t3 t4 qv nw1 HB0 HQB0 hsz1
 obtain ⟨p,hp⟩ : ∃ p,x % 2 = p:=⟨_,rfl⟩
 have hpi : (x : Int) % 2 = (p : Int):=by omega
 have HP:=Lib.hid hp
 clear hp
 by_cases hm0 : m = 0
 ·subst hm0
  have HTS : Hid (Rs = (Gx.mk 17 [] v0 [E1],r1)):=Lib.hid (by rw [<- HLM.out,madeM,if_pos h3h.out,if_pos HM.out,HE1.out,HR1.out])
  have hrg1:=HC1.out.range
  obtain ⟨T,hT⟩ : ∃ T,V1.heap.size = T:=⟨_,rfl⟩
  obtain ⟨W9,hW9⟩ : ∃ W9,V1.alloc (.cells X1.cells 49) = W9:=⟨_,rfl⟩
  have b89 : Below V1.heap.size V1 W9:=by rw [<- hW9]; exact (Below.refl _ _).alloc (Nat.le_refl _) _
  have q9 : Blk W9 T X1.cells 49:=by
   have := Blk.new V1 X1.cells 49
   rwa [hW9,hT] at this
  have s9 : W9.heap.size = T + 1:=by rw [<- hW9,World.size_alloc,hT]
  have hop:=gop_any 17 ⟨some ⟨T,0,none⟩,1,1⟩ W9
  have HW9:=Lib.hid hW9
  have HT:=Lib.hid hT
  dsimp only [Xv.cells] at HW9
  clear hW9
  go_wp2_with (first | (refine wpList_load_mid rfl 49 (.tmp 8) rfl (B + 1) 0 rfl X1.cells.toList _ hrg1 Tryz.underlying49 rfl infoExN ?_))
  try simp only [HT.out]
  rw [HW9.out]
  refine hop.mono ?_
  rintro e w10 ⟨rfl,hb10⟩
  have q10:=(HQB1.out.below b89 (by omega)).below hb10 (by omega)
  have h1o : ∀ u ∈ (opX 17 ⟨some ⟨T,0,none⟩,1,1⟩).cells,u.oneCell' = true:=by simp [Value.oneCell']
  clear hop
  go_wp2_with (refine wpList_store_blk rfl 49 49 (.tmp 4) (.tmp 44) rfl (opX 17 ⟨some ⟨T,0,none⟩,1,1⟩).cells _ B q10 infoExN rfl h1o rfl rfl ?_; intro W11 t1 t2 t3 t4)
  refine bodyPost_ret (results_blk2 rfl _ _ B _ _ t1 rfl Tryz.underlying49 rfl infoExN) rfl ?_
  rw [HTS.out]
  have w89 : NewW (B + 4) V1 W11:=(NewW.of b89).trans ((NewW.of hb10).trans (NewW.put t3 (by omega)))
  have w91 : NewW (B + 4) W9 W11:=(NewW.of hb10).trans (NewW.put t3 (by omega))
  exact ⟨_,_,rfl,(exn_one (w91.blk (by omega) q9) (by omega) (HX1.out.move w89)).mono (by omega),((HU.out.below (K':=K) b89 (by omega) (Nat.le_refl _)).below (K':=K) hb10 (by omega) (Nat.le_refl _)).below (t2 B (Nat.le_refl _)) (by omega) (Nat.le_refl _),HB1.out.trans ((b89.mono (by omega)).trans ((hb10.mono (by omega)).trans (t2 B (Nat.le_refl _))))⟩
 ·have hmn : ¬ (m : Int) = 0:=by omega
  have hmn2 : ((m : Int) == 0) = false:=by simpa using hmn
  go_upto_region 9 with fail
  have hcall:=ih r1 v1 K V1 HU.out hx256 (by omega) hlen
  obtain ⟨E2,hE2⟩ : ∃ ze,(madeM d r1).1 = ze:=⟨_,rfl⟩
  obtain ⟨r2,hr2⟩ : ∃ zr,(madeM d r1).2 = zr:=⟨_,rfl⟩
  have hrl : (∀ x ∈ r2,x < 256) /\ r2.length <= 2 ^ 40:=⟨fun x hx => hx256 x (by rw [<- hr2] at hx; exact madeM_sub d _ x hx),by have := madeM_size d r1; have h1:=partsG_pos (madeM d r1).1; rw [hr2] at this; omega⟩
  rw [hE2,hr2] at hcall
  have HE2:=Lib.hid hE2
  have HR2:=Lib.hid hr2
  clear hE2 hr2 hx256 hlen
  go_wp2_with fail
  refine hcall.mono ?_
  rintro e w2 ⟨X2,v2,rfl,hx2,hu2,hb2⟩
  have hx256:=hrl.1
  have hlen:=hrl.2
  have hsz2:=hb2.size
  have h1c2 : ∀ u ∈ X2.cells,u.oneCell' = true:=by simp [Value.oneCell']
  have qv:=HQ2.out.below hb2 (by omega)
  clear hcall hrl
  go_upto_region 10 with (refine wpList_store_blk rfl 49 49 (.tmp 9) (.tmp 51) rfl X2.cells _ (B + 2) qv infoExN rfl h1c2 rfl rfl ?_; intro V2 t1 t2 t3 t4)
  have nw2 : NewW (B + 4) V1 V2:=(NewW.of hb2).trans (NewW.put t3 (by omega))
  have HB2:=Lib.hid (HB1.out.trans ((hb2.mono (by omega)).trans (t2 B (by omega))))
  have HQB2:=Lib.hid ((HQB1.out.below hb2 (by omega)).kept t3 (by simp))
  have HX2:=Lib.hid ((hx2.mono (by omega : B + 4 <= V1.heap.size)).move (NewW.put t3 (by omega)))
  have HC2:=Lib.hid t1
  have sv2 : B + 4 <= V2.heap.size:=by omega
  have HU':=Lib.hid ((hu2.below (K':=K) (t2 B (by omega)) (by omega) (Nat.le_refl _)))
  clear HU
  have HU:=HU'
  clear HU'
  have HQ3':=Lib.hid ((HQ3.out.below hb2 (by omega)).kept t3 (by simp))
  clear HQ3
  have HQ3:=HQ3'
  clear HQ3'
  have HX1':=Lib.hid (HX1.out.move nw2)
  clear HX1
  have HX1:=HX1'
  clear HX1'
  have HC1':=Lib.hid ((HC1.out.below hb2 (by omega)).kept t3 (by simp))
  clear HC1
  have HC1:=HC1'
  clear HC1'
  clear hb2 hx2 hu2 t1 t2 t3 t4 qv nw2 HB1 HQB1 hsz2
  by_cases hm3 : m = 3
  ·subst hm3
   go_upto_region 11 with fail
   have hcall:=ih r2 v2 K V2 HU.out hx256 (by omega) hlen
   obtain ⟨E3,hE3⟩ : ∃ ze,(madeM d r2).1 = ze:=⟨_,rfl⟩
   obtain ⟨r3,hr3⟩ : ∃ zr,(madeM d r2).2 = zr:=⟨_,rfl⟩
   have hrl : (∀ x ∈ r3,x < 256) /\ r3.length <= 2 ^ 40:=⟨fun x hx => hx256 x (by rw [<- hr3] at hx; exact madeM_sub d _ x hx),by have := madeM_size d r2; have h1:=partsG_pos (madeM d r2).1; rw [hr3] at this; omega⟩
   rw [hE3,hr3] at hcall
   have HE3:=Lib.hid hE3
   have HR3:=Lib.hid hr3
   clear hE3 hr3 hx256 hlen
   go_wp2_with fail
   refine hcall.mono ?_
   rintro e w3 ⟨X3,v3,rfl,hx3,hu3,hb3⟩
   have hx256:=hrl.1
   have hlen:=hrl.2
   have hsz3:=hb3.size
   have h1c3 : ∀ u ∈ X3.cells,u.oneCell' = true:=by simp [Value.oneCell']
   have qv:=HQ3.out.below hb3 (by omega)
   clear hcall hrl
   go_upto_region 12 with (refine wpList_store_blk rfl 49 49 (.tmp 10) (.tmp 61) rfl X3.cells _ (B + 3) qv infoExN rfl h1c3 rfl rfl ?_; intro V3 t1 t2 t3 t4)
   have nw3 : NewW (B + 4) V2 V3:=(NewW.of hb3).trans (NewW.put t3 (by omega))
   have HB3:=Lib.hid (HB2.out.trans ((hb3.mono (by omega)).trans (t2 B (by omega))))
   have HQB3:=Lib.hid ((HQB2.out.below hb3 (by omega)).kept t3 (by simp))
   have HX3:=Lib.hid ((hx3.mono (by omega : B + 4 <= V2.heap.size)).move (NewW.put t3 (by omega)))
   have HC3:=Lib.hid t1
   have sv3 : B + 4 <= V3.heap.size:=by omega
   have HU':=Lib.hid ((hu3.below (K':=K) (t2 B (by omega)) (by omega) (Nat.le_refl _)))
   clear HU
   have HU:=HU'
   clear HU'
   have HX1':=Lib.hid (HX1.out.move nw3)
   clear HX1
   have HX1:=HX1'
   clear HX1'
   have HC1':=Lib.hid ((HC1.out.below hb3 (by omega)).kept t3 (by simp))
   clear HC1
   have HC1:=HC1'
   clear HC1'
   have HX2':=Lib.hid (HX2.out.move nw3)
   clear HX2
   have HX2:=HX2'
   clear HX2'
   have HC2':=Lib.hid ((HC2.out.below hb3 (by omega)).kept t3 (by simp))
   clear HC2
   have HC2:=HC2'
   clear HC2'
   clear hb3 hx3 hu3 t1 t2 t3 t4 qv nw3 HB2 HQB2 hsz3
   have HTS : Hid (Rs = (Gx.mk 18 [] v0 [E1,E2,E3],r3)):=Lib.hid (by rw [<- HLM.out,madeM,if_pos h3h.out,if_neg (by rw [HM.out]; omega),if_pos HM.out,HR1.out,HR2.out,HE1.out,HE2.out,HE3.out,HR3.out])
   have hrg1:=HC1.out.range
   have hrg2:=HC2.out.range
   have hrg3:=HC3.out.range
   obtain ⟨T,hT⟩ : ∃ T,V3.heap.size = T:=⟨_,rfl⟩
   obtain ⟨W9,hW9⟩ : ∃ W9,V3.alloc (.cells (cells3 X1 X2 X3) 49) = W9:=⟨_,rfl⟩
   have b89 : Below V3.heap.size V3 W9:=by rw [<- hW9]; exact (Below.refl _ _).alloc (Nat.le_refl _) _
   have q9 : Blk W9 T (cells3 X1 X2 X3) 49:=by
    have := Blk.new V3 (cells3 X1 X2 X3) 49
    rwa [hW9,hT] at this
   have s9 : W9.heap.size = T + 1:=by rw [<- hW9,World.size_alloc,hT]
   have hop:=gop_any 18 ⟨some ⟨T,0,none⟩,3,3⟩ W9
   have HW9:=Lib.hid hW9
   have HT:=Lib.hid hT
   dsimp only [cells3] at HW9
   clear hW9
   go_wp2_with (first | (refine wpList_load_mid rfl 49 (.tmp 8) rfl (B + 1) 0 rfl X1.cells.toList _ hrg1 Tryz.underlying49 rfl infoExN ?_) | (refine wpList_load_mid rfl 49 (.tmp 9) rfl (B + 2) 0 rfl X2.cells.toList _ hrg2 Tryz.underlying49 rfl infoExN ?_) | (refine wpList_load_mid rfl 49 (.tmp 10) rfl (B + 3) 0 rfl X3.cells.toList _ hrg3 Tryz.underlying49 rfl infoExN ?_))
   try simp only [HT.out]
   rw [HW9.out]
   refine hop.mono ?_
   rintro e w10 ⟨rfl,hb10⟩
   have q10:=(HQB3.out.below b89 (by omega)).below hb10 (by omega)
   have h1o : ∀ u ∈ (opX 18 ⟨some ⟨T,0,none⟩,3,3⟩).cells,u.oneCell' = true:=by simp [Value.oneCell']
   clear hop
   go_wp2_with (refine wpList_store_blk rfl 49 49 (.tmp 4) (.tmp 67) rfl (opX 18 ⟨some ⟨T,0,none⟩,3,3⟩).cells _ B q10 infoExN rfl h1o rfl rfl ?_; intro W11 t1 t2 t3 t4)
   refine bodyPost_ret (results_blk2 rfl _ _ B _ _ t1 rfl Tryz.underlying49 rfl infoExN) rfl ?_
   rw [HTS.out]
   have w89 : NewW (B + 4) V3 W11:=(NewW.of b89).trans ((NewW.of hb10).trans (NewW.put t3 (by omega)))
   have w91 : NewW (B + 4) W9 W11:=(NewW.of hb10).trans (NewW.put t3 (by omega))
   exact ⟨_,_,rfl,(exn_three (w91.blk (by omega) q9) (by omega) (HX1.out.move w89) (HX2.out.move w89) (HX3.out.move w89)).mono (by omega),((HU.out.below (K':=K) b89 (by omega) (Nat.le_refl _)).below (K':=K) hb10 (by omega) (Nat.le_refl _)).below (t2 B (Nat.le_refl _)) (by omega) (Nat.le_refl _),HB3.out.trans ((b89.mono (by omega)).trans ((hb10.mono (by omega)).trans (t2 B (Nat.le_refl _))))⟩
  ·have hmn3 : ((m : Int) == 3) = false:=by simp; omega
   have HTS : Hid (Rs = (Gx.mk (15 + (p : Int)) [] v0 [E1,E2],r2)):=Lib.hid (by rw [<- HLM.out,madeM,if_pos h3h.out,if_neg (by rw [HM.out]; exact hm0),if_neg (by rw [HM.out]; exact hm3),HP.out,HR1.out,HE1.out,HE2.out,HR2.out])
   have hp2 : p < 2:=by have := HP.out; omega
   have hrg1:=HC1.out.range
   have hrg2:=HC2.out.range
   obtain ⟨T,hT⟩ : ∃ T,V2.heap.size = T:=⟨_,rfl⟩
   obtain ⟨W9,hW9⟩ : ∃ W9,V2.alloc (.cells (cells2 X1 X2) 49) = W9:=⟨_,rfl⟩
   have b89 : Below V2.heap.size V2 W9:=by rw [<- hW9]; exact (Below.refl _ _).alloc (Nat.le_refl _) _
   have q9 : Blk W9 T (cells2 X1 X2) 49:=by
    have := Blk.new V2 (cells2 X1 X2) 49
    rwa [hW9,hT] at this
   have s9 : W9.heap.size = T + 1:=by rw [<- hW9,World.size_alloc,hT]
   have hop:=gop_any (15 + (p : Int)) ⟨some ⟨T,0,none⟩,2,2⟩ W9
   have HW9:=Lib.hid hW9
   have HT:=Lib.hid hT
   dsimp only [cells2] at HW9
   clear hW9
   go_wp2_with (first | (refine wpList_load_mid rfl 49 (.tmp 8) rfl (B + 1) 0 rfl X1.cells.toList _ hrg1 Tryz.underlying49 rfl infoExN ?_) | (refine wpList_load_mid rfl 49 (.tmp 9) rfl (B + 2) 0 rfl X2.cells.toList _ hrg2 Tryz.underlying49 rfl infoExN ?_))
   try simp only [HT.out]
   rw [HW9.out]
   refine hop.mono ?_
   rintro e w10 ⟨rfl,hb10⟩
   have q10:=(HQB2.out.below b89 (by omega)).below hb10 (by omega)
   have h1o : ∀ u ∈ (opX (15 + (p : Int)) ⟨some ⟨T,0,none⟩,2,2⟩).cells,u.oneCell' = true:=by simp [Value.oneCell']
   clear hop
   go_wp2_with (refine wpList_store_blk rfl 49 49 (.tmp 4) (.tmp 75) rfl (opX (15 + (p : Int)) ⟨some ⟨T,0,none⟩,2,2⟩).cells _ B q10 infoExN rfl h1o rfl rfl ?_; intro W11 t1 t2 t3 t4)
   refine bodyPost_ret (results_blk2 rfl _ _ B _ _ t1 rfl Tryz.underlying49 rfl infoExN) rfl ?_
   rw [HTS.out]
   have w89 : NewW (B + 4) V2 W11:=(NewW.of b89).trans ((NewW.of hb10).trans (NewW.put t3 (by omega)))
   have w91 : NewW (B + 4) W9 W11:=(NewW.of hb10).trans (NewW.put t3 (by omega))
   exact ⟨_,_,rfl,(exn_two (w91.blk (by omega) q9) (by omega) (HX1.out.move w89) (HX2.out.move w89)).mono (by omega),((HU.out.below (K':=K) b89 (by omega) (Nat.le_refl _)).below (K':=K) hb10 (by omega) (Nat.le_refl _)).below (t2 B (Nat.le_refl _)) (by omega) (Nat.le_refl _),HB2.out.trans ((b89.mono (by omega)).trans ((hb10.mono (by omega)).trans (t2 B (Nat.le_refl _))))⟩
theorem madeM_nil (d : Nat) : madeM d [] = (truG,[]):=by cases d <;> rfl
theorem gmade_any (d : Nat) : d <= 6 -> MadeAt d:=by
 induction d with
 | zero =>
  intro _ l v K w hu hx hK hlen
  cases l with
  | nil => rw [madeM_nil]; exact gmade_nil K 0 v w hu
  | cons x r =>
   rw [List.length_cons] at hlen
   have := gmade_leaf K 0 x r v w hu hx hK (by omega) (.inl rfl) (by omega)
   rw [madeM]; exact this
 | succ d ih =>
  intro hd l v K w hu hx hK hlen
  cases l with
  | nil => rw [madeM_nil]; exact gmade_nil K (d + 1) v w hu
  | cons x r =>
   rw [List.length_cons] at hlen
   by_cases h3 : x % 3 = 0
   ·exact gmade_comp K d x r v w (ih (by omega)) hu hx hK (by omega) h3 (by omega)
   ·have := gmade_leaf K (d + 1) x r v w hu hx hK (by omega) (.inr h3) (by omega)
    rw [madeM,if_neg h3]; exact this
theorem gMade_any (K : Nat) (l : List Nat) (v : Value) (w : World) (hu : U8s K w v l) (hx : ∀ y ∈ l,y < 256) (hK : K <= w.heap.size) (hlen : l.length <= 2 ^ 40) : Calls Tryz.prog 57 #[v] w fun e w' => ∃ X : Xv,e = .returned X.agg /\ ExN w.heap.size w' (madeM 6 l).1 X /\ Below w.heap.size w w':=by
 obtain ⟨W1,hW1⟩ : ∃ W1,w.alloc (.cells xz.cells 49) = W1:=⟨_,rfl⟩
 have b1 : Below w.heap.size w W1:=by rw [<- hW1]; exact (Below.refl _ _).alloc (Nat.le_refl _) _
 have q1 : Blk W1 w.heap.size xz.cells 49:=by rw [<- hW1]; exact Blk.new w _ _
 have s1 : W1.heap.size = w.heap.size + 1:=by rw [<- hW1]; simp
 obtain ⟨B,hB⟩ : ∃ B,w.heap.size = B:=⟨_,rfl⟩
 have HB:=Lib.hid hB
 have HW1 : Hid (w.alloc (.cells #[.int .u8 0,.string ⟨#[]⟩,.int .u8 0,.bool false,.slice none 0 0,.bool false,.slice none 0 0,.int .i64 0,.slice none 0 0] 49) = W1):=Lib.hid hW1
 rw [hB] at b1 q1 s1 hK ⊢
 have hcall : Calls Tryz.prog 118 #[v,.int .i64 6] W1 fun e w' => ∃ X v',e = .returned (.tuple #[X.agg,v']) /\ ExN W1.heap.size w' (madeM 6 l).1 X /\ U8s K w' v' (madeM 6 l).2 /\ Below W1.heap.size W1 w':=gmade_any 6 (Nat.le_refl _) l v K W1 (hu.below b1 hK (Nat.le_refl _)) hx (by omega) hlen
 obtain ⟨E,hE⟩ : ∃ E,(madeM 6 l).1 = E:=⟨_,rfl⟩
 rw [hE] at hcall ⊢
 clear hB hW1 hu hE hx hlen
 go_enter Tryz.func57,Tryz.ntmps57
 go_upto_region 1 with fail
 simp only [HB.out]
 rw [HW1.out]
 go_wp2_with fail
 refine hcall.mono ?_
 rintro e w2 ⟨X,v',rfl,hx,_,hb2⟩
 have hs2:=hb2.size
 have h1c : ∀ u ∈ X.cells,u.oneCell' = true:=by simp [Value.oneCell']
 clear hcall
 go_upto_region 2 with (refine wpList_store_new rfl 49 (.tmp 3) (.tmp 8) rfl X.cells _ infoExN rfl h1c w2.heap.size rfl rfl rfl ?_)
 obtain ⟨S,hS⟩ : ∃ S,w2.heap.size = S:=⟨_,rfl⟩
 obtain ⟨W3,hW3⟩ : ∃ W3,w2.alloc (.cells X.cells 49) = W3:=⟨_,rfl⟩
 have b3 : Below w2.heap.size w2 W3:=by rw [<- hW3]; exact (Below.refl _ _).alloc (Nat.le_refl _) _
 have qs : Blk W3 S X.cells 49:=by rw [<- hW3,<- hS]; exact Blk.new w2 _ _
 have q3:=(q1.below hb2 (by omega)).below b3 (by omega)
 have hrg:=qs.range
 have HS:=Lib.hid hS
 have HW3:=Lib.hid hW3
 simp only [HS.out]
 rw [HW3.out]
 clear hS hW3
 go_wp2_with (first
  | (refine wpList_load_mid rfl 49 (.tmp 3) rfl S 0 rfl X.cells.toList _ hrg Tryz.underlying49 rfl infoExN ?_)
  | (refine wpList_store_blk rfl 49 49 (.tmp 2) (.tmp 10) rfl X.cells _ B q3 infoExN rfl h1c rfl rfl ?_; intro W5 t1 t2 t3 t4))
 refine bodyPost_ret (results_blk rfl _ _ B _ _ t1 rfl Tryz.underlying49 rfl infoExN) rfl ?_
 exact ⟨X,rfl,((hx.mono (by omega : B + 1 <= W1.heap.size)).move ((NewW.of b3).trans (NewW.put t3 (by omega)))).mono (by omega),b1.trans ((hb2.mono (by omega)).trans ((b3.mono (by omega)).trans (t2 B (Nat.le_refl _))))⟩
theorem blk_setCells {b t : Nat} : ∀ (vs : List Value) (o : Nat) (w : World) (cs : Array Value),Blk w b cs t -> o + vs.length <= cs.size -> ∃ cs',Blk (w.setCells b o vs) b cs' t /\ cs'.size = cs.size /\ ∀ i,i < cs.size -> cs'[i]? = if o <= i /\ i < o + vs.length then vs[i - o]? else cs[i]?
 | [],o,w,cs,h,_ => ⟨cs,h,rfl,fun i hi => by rw [if_neg (by intro h; have := h.2; simp at this; omega)]⟩
 | v :: r,o,w,cs,h,hl => by
  rw [List.length_cons] at hl
  obtain ⟨cs',h1,h2,h3⟩:=blk_setCells r (o + 1) (w.setCell ⟨b,o,none⟩ v) (cs.setIfInBounds o v) (h.set v) (by simp; omega)
  refine ⟨cs',h1,by rw [h2]; simp,fun i hi => ?_⟩
  rw [h3 i (by simpa using hi),List.length_cons]
  by_cases e : i = o
  ·subst e
   rw [if_neg (by omega),if_pos (by omega),Array.getElem?_setIfInBounds]
   simp [hi]
  ·by_cases h4 : o + 1 <= i /\ i < o + 1 + r.length
   ·rw [if_pos h4,if_pos (by omega),show i - o = (i - (o + 1)) + 1 by omega]; rfl
   ·rw [if_neg h4,if_neg (by omega),Array.getElem?_setIfInBounds,if_neg (fun e' => e e'.symm)]
theorem grown_setCells : ∀ (vs : List Value) (o : Nat) (w : World) (b : Nat),w.grownBy (w.setCells b o vs) (some b)
 | [],_,w,b => ⟨rfl,rfl,rfl,Nat.le_refl _,fun _ _ _ => rfl⟩
 | v :: r,o,w,b => by rw [World.setCells]; exact grownBy_then (grownBy_setCell _ _ _ _) (grown_setCells r (o + 1) _ b)
theorem NewW.puts {L r : Nat} {V W W' : World} (h : NewW L V W) (hg : W.grownBy W' (some r)) (hr : r < L \/ V.heap.size <= r) : NewW L V W' :=
 ⟨Nat.le_trans h.size hg.size,fun k h1 h2 => (hg.block k (Nat.lt_of_lt_of_le h2 h.size) (fun e => by simp at e; omega)).trans (h.block k h1 h2)⟩
theorem VlN.now {L : Nat} {V : World} {v : Vq} {x : Vv} (h : VlN L V v x) : VlX V.heap.size V v x:=h V (NewW.refl _ _)
theorem VlN.mono {L L' : Nat} {V : World} {v : Vq} {x : Vv} (h : VlN L V v x) (hl : L' <= L) : VlN L' V v x:=fun X hx => h X (hx.mono hl)
theorem cellsS_nodup (s : Sc) : (cellsS s).Nodup:=by
 unfold cellsS
 split
 ·unfold possL; exact List.Nodup.sublist List.filter_sublist List.nodup_range
 ·exact List.nodup_nil
theorem pcs_ok {l : List Sc} (hl : LM l) (hf : Full l) : ∀ p ∈ pcs l,p.Nodup /\ p ≠ []:=by
 intro p hp
 obtain ⟨s,hs,rfl⟩:=List.mem_map.1 hp
 exact ⟨cellsS_nodup s,cells_ne (hl.each s hs) (hf s hs)⟩
section
variable {l : List Sc} {cs : List Nat} {a : Gx}
theorem ev_no (hl : LM l) (hf : Full l) (hcs : CellsIn (pcs l) cs) (ha : Md a) (fa : fits a = true) (fn : fits (.mk 17 [] v0 [a]) = true) (h : ∀ t ∈ a.tests,Has l (testOf t)) : evG l cs (.mk 17 [] v0 [a]) = !evG l cs a:=by
 rw [evG_M hl hf hcs (.no a ha) fn (by rw [no_testsE]; exact h),evG_M hl hf hcs ha fa h,holdG_eq,if_neg (by simp [Gx.settled,Gx.op]),if_pos (by simp [Gx.composed,Gx.op,Gx.args])]
 simp [combG,argH,Gx.op,Gx.args]
theorem two_tests {o : Int} (ho : o = 15 \/ o = 16) (a b : Gx) : (Gx.mk o [] v0 [a,b]).tests = a.tests ++ b.tests:=by
 rw [tests_mkM,if_neg (by rcases ho with rfl | rfl <;> simp [Gx.settled,Gx.op]),if_pos (by rcases ho with rfl | rfl <;> simp [Gx.composed,Gx.op,Gx.args])]
 simp [Gx.args,testsL]
theorem ite_tests (a b c : Gx) : (Gx.mk 18 [] v0 [a,b,c]).tests = a.tests ++ (b.tests ++ c.tests):=by
 rw [tests_mkM,if_neg (by simp [Gx.settled,Gx.op]),if_pos (by simp [Gx.composed,Gx.op,Gx.args])]
 simp [Gx.args,testsL]
theorem ev_two {o : Int} (ho : o = 15 \/ o = 16) (hl : LM l) (hf : Full l) (hcs : CellsIn (pcs l) cs) (ha : Md a) (fa : fits a = true) (fn : fits (.mk o [] v0 [a,a]) = true) (h : ∀ t ∈ a.tests,Has l (testOf t)) : evG l cs (.mk o [] v0 [a,a]) = evG l cs a:=by
 rw [evG_M hl hf hcs (.two o a a ho ha ha) fn (by rw [two_tests ho]; intro t ht; rcases List.mem_append.1 ht with ht | ht <;> exact h t ht),evG_M hl hf hcs ha fa h,holdG_eq,if_neg (by rcases ho with rfl | rfl <;> simp [Gx.settled,Gx.op]),if_pos (by rcases ho with rfl | rfl <;> simp [Gx.composed,Gx.op,Gx.args])]
 rcases ho with rfl | rfl <;> simp [combG,argH,Gx.op,Gx.args]
theorem ev_ite (hl : LM l) (hf : Full l) (hcs : CellsIn (pcs l) cs) (ha : Md a) (fa : fits a = true) (fn : fits (.mk 18 [] v0 [a,a,a]) = true) (h : ∀ t ∈ a.tests,Has l (testOf t)) : evG l cs (.mk 18 [] v0 [a,a,a]) = evG l cs a:=by
 rw [evG_M hl hf hcs (.ite a a a ha ha ha) fn (by rw [ite_tests]; intro t ht; simp only [List.mem_append] at ht; rcases ht with ht | ht | ht <;> exact h t ht),evG_M hl hf hcs ha fa h,holdG_eq,if_neg (by simp [Gx.settled,Gx.op]),if_pos (by simp [Gx.composed,Gx.op,Gx.args])]
 simp [combG,argH,Gx.op,Gx.args]
end
theorem scales_same {a b c : Gx} {l : List Sc} (ha : Md a) (hc : Md c) (fa : fits a = true) (fb : fits b = true) (fc : fits c = true) {r : List Gx} (hb : b.tests = a.tests ++ r) (hr : ∀ t ∈ r,t ∈ a.tests) (h : scalesS [a,c] = (l,0)) : scalesS [b,c] = (l,0):=by
 obtain ⟨l1,h1,h2,h3,h4,h5⟩:=addTs_M (a.tests.map testOf) [] ⟨fun s hs => (by cases hs),by simp⟩ (fun s hs => by cases hs) (fun t ht => by
  obtain ⟨x,hx,rfl⟩:=List.mem_map.1 ht
  exact md_tests ha x hx)
 have e1 : addTs l1 (r.map testOf) = some l1:=addTs_has h2 _ fun t ht => by
  obtain ⟨x,hx,rfl⟩:=List.mem_map.1 ht
  exact ⟨md_tests ha x (hr x hx),h4 _ (List.mem_map.2 ⟨x,hr x hx,rfl⟩)⟩
 unfold scalesS at h ⊢
 rw [if_pos (by simp [fa,fc])] at h
 rw [if_pos (by simp [fb,fc])]
 have t1 : testsL [a,c] = a.tests ++ c.tests:=by simp [testsL]
 have t2 : testsL [b,c] = a.tests ++ (r ++ c.tests):=by simp [testsL,hb]
 rw [t1,List.map_append,addTs_append,h1] at h
 rw [t2,List.map_append,List.map_append,addTs_append,h1]
 simp only [Option.bind_some] at h ⊢
 rw [addTs_append,e1]
 exact h
theorem madeM_size3 : ∀ (d : Nat) (l : List Nat),(madeM d l).1.parts + 3 * (madeM d l).2.length <= 1 + 3 * l.length
 | d,[] => by cases d <;> simp [madeM,truG,conV_parts]
 | 0,x :: r => by have := leafM_size x r; rw [madeM]; simp only [List.length_cons]; omega
 | d + 1,x :: r => by
  have h1:=madeM_size3 d r
  have h2:=madeM_size3 d (madeM d r).2
  have h3:=madeM_size3 d (madeM d (madeM d r).2).2
  have h0:=leafM_size x r
  rw [madeM]
  simp only [List.length_cons]
  split
  ·split
   ·simp only [Gx.parts,partsL]; omega
   ·split
    ·simp only [Gx.parts,partsL]; omega
    ·simp only [Gx.parts,partsL]; omega
  ·omega
theorem lfS_two (l : List Sc) (a b : Gx) (cs : List Nat) : lfS l [a,b] cs = (if evG l cs a then [0] else []) ++ (if evG l cs b then [1] else []):=by
 unfold lfS
 show (([0,1] : List Nat).filter fun i => evG l cs (([a,b] : List Gx)[i]?.getD default)) = _
 have e0 : (([a,b] : List Gx)[0]?.getD default) = a:=rfl
 have e1 : (([a,b] : List Gx)[1]?.getD default) = b:=rfl
 cases ha : evG l cs a <;> cases hb : evG l cs b <;> simp [ha,hb]
theorem lfS_no {l : List Sc} {cs : List Nat} {a : Gx} (hl : LM l) (hf : Full l) (hcs : CellsIn (pcs l) cs) (ha : Md a) (fa : fits a = true) (fn : fits (.mk 17 [] v0 [a]) = true) (h : ∀ t ∈ a.tests,Has l (testOf t)) : (lfS l [a,.mk 17 [] v0 [a]] cs).length = 1:=by
 rw [lfS_two,ev_no hl hf hcs ha fa fn h]
 cases evG l cs a <;> rfl
theorem lfS_same (l : List Sc) (a : Gx) (cs : List Nat) : (lfS l [a,a] cs).length ≠ 1:=by
 rw [lfS_two]
 cases evG l cs a <;> simp
theorem some_cells {P : List (List Nat)} (h : ∀ p ∈ P,p.Nodup /\ p ≠ []) : ∃ cs,CellsIn P cs:=by
 induction P with
 | nil => exact ⟨[],CellsIn.nil⟩
 | cons p P ih =>
  obtain ⟨cs,hc⟩:=ih fun q hq => h q (List.mem_cons_of_mem _ hq)
  obtain ⟨c,hcm⟩:=List.exists_mem_of_ne_nil _ (h p (List.mem_cons_self ..)).2
  exact ⟨c :: cs,CellsIn.cons hcm hc⟩
theorem first_cells {P : List (List Nat)} (h : ∀ p ∈ P,p ≠ []) : CellsIn P (P.map fun p => p.headD 0):=by
 refine ⟨by simp,fun i c hc => ?_⟩
 rw [List.getElem?_map] at hc
 obtain ⟨p,hp,rfl⟩:=Option.map_eq_some_iff.1 hc
 refine ⟨p,hp,?_⟩
 have := h p (List.mem_of_getElem? hp)
 cases p with
 | nil => exact absurd rfl this
 | cons a b => exact List.mem_cons_self ..
theorem one_iff (ls : List (List Nat)) : (∃ l ∈ ls,(l.length != 1) = true) ↔ (∃ l ∈ ls,(l.length == 0) = true) \/ ∃ l ∈ ls,decide (1 < l.length) = true:=by
 constructor
 ·rintro ⟨l,hl,h⟩
  simp at h
  by_cases h0 : l.length = 0
  ·exact .inl ⟨l,hl,by simp [h0]⟩
  ·exact .inr ⟨l,hl,by simp; omega⟩
 ·rintro (⟨l,hl,h⟩ | ⟨l,hl,h⟩)
  ·exact ⟨l,hl,by simp at h ⊢; simp [h]⟩
  ·exact ⟨l,hl,by simp at h ⊢; omega⟩
theorem Evals.fun {P : List (List Nat)} {st : DSt} {cs : List Nat} {t : Int} {a b : List Nat} (h : Evals P st cs t a) (h' : Evals P st cs t b) : a = b:=by
 induction h with
 | leaf n l h =>
  generalize e : (-1 - (n : Int)) = u at h'
  cases h' with
  | leaf m l' h2 =>
   have : m = n:=by omega
   subst this
   rw [h] at h2
   exact Option.some.inj h2
  | node m => omega
 | node n sc nx t l h1 h2 _ ih =>
  generalize e : (n : Int) = u at h'
  cases h' with
  | leaf m l' _ => omega
  | node m sc' nx' t' l' h3 h4 h5 =>
   have : m = n:=by omega
   subst this
   rw [h1] at h3
   cases h3
   rw [h2] at h4
   cases h4
   exact ih h5
structure DgV (scs : List Sc) (st : DSt) (root : Int) : Prop where
 len : scs.length <= 16
 ok : ∀ s ∈ scs,s.okB = true
 node : ∀ (n sc : Nat) (nx : List Int),st.nds[n]? = some (sc,nx) -> ∃ s,scs[sc]? = some s /\ nx.length = (cellsS s).length /\ ∀ t ∈ nx,TOk st (sc + 1) t
 leaf : ∀ (n : Nat) (l : List Nat),st.lvs[n]? = some l -> l.Pairwise (· < ·)
 root : TOk st 0 root
 nsz : st.nds.length <= 2 ^ 40
 lsz : st.lvs.length <= 2 ^ 40
theorem lfS_inc (l : List Sc) (es : List Gx) (cs : List Nat) : (lfS l es cs).Pairwise (· < ·):=by
 unfold lfS
 exact List.Pairwise.filter _ List.pairwise_lt_range
theorem dgv_ok {scs : List Sc} (es : List Gx) (hlen : scs.length <= 16) (hok : ∀ s ∈ scs,s.okB = true) (hP : ∀ p ∈ pcs scs,p.Nodup /\ p ≠ []) (hsz : prodL (pcs scs) <= 2 ^ 40) :
  DgV scs (tgt (lfS scs es) (pcs scs) 0 [] DSt.no).2 (tgt (lfS scs es) (pcs scs) 0 [] DSt.no).1:=by
 have h:=dg_ok (lf:=lfS scs es) hP
 have hs:=tgt_size (lfS scs es) (pcs scs) 0 [] DSt.no fun p hp => (hP p hp).2
 have h1 : (tgt (lfS scs es) (pcs scs) 0 [] DSt.no).2.nds.length + 1 <= 0 + prodL (pcs scs):=hs.1
 have h2 : (tgt (lfS scs es) (pcs scs) 0 [] DSt.no).2.lvs.length <= 0 + prodL (pcs scs):=hs.2
 refine ⟨hlen,hok,fun n sc nx hn => ?_,fun n l hl => ?_,h.tok,by omega,by omega⟩
 ·obtain ⟨g1,g2,_,g4⟩:=h.wf.node n sc nx hn
  unfold pcs at g1 g2
  rw [List.length_map] at g1
  refine ⟨scs[sc],List.getElem?_eq_getElem g1,?_,g4⟩
  rw [List.getElem?_map,List.getElem?_eq_getElem g1] at g2
  exact g2
 ·obtain ⟨cs,_,rfl⟩:=h.wf.leaf n l hl
  exact lfS_inc _ _ _
def exB (nl nn : Nat) (t : Int) : Bool:=if t < 0 then decide (-1 - t < (nl : Int)) else decide (t < (nn : Int))
theorem exB_ok {st : DSt} {sc : Nat} {t : Int} (h : TOk st sc t) : exB st.lvs.length st.nds.length t = true:=by
 unfold exB
 rcases h with ⟨n,rfl,hn⟩ | ⟨n,x,rfl,hn,_⟩
 ·rw [if_pos (by omega)]; exact decide_eq_true (by omega)
 ·rw [if_neg (by omega)]; exact decide_eq_true (by have := (List.getElem?_eq_some_iff.1 hn).1; omega)
theorem dexists_any (b : Nat) (x : Dv) (t : Int) (w : World) (hq : Blk w b x.cells 29) (ht : -(2 ^ 62) < t /\ t < 2 ^ 62) :
  Calls Tryz.prog 70 #[.pointer (some ⟨b,0,none⟩),.int .i64 t] w fun e w' => e = .returned (.bool (exB x.l.n x.n.n t)) /\ w' = w:=by
 obtain ⟨c0,c1,c2,c3⟩:=hq.four
 have hb:=hq.lt
 unfold exB
 by_cases h : t < 0
 ·have hd : decide (t < 0) = true:=by simpa using h
  have hw : IntKind.i64.wrap (-1 - t) = -1 - t:=IntWalk.i64_in _ (by omega)
  rw [if_pos h]
  clear ht hq
  go_enter Tryz.func70,Tryz.ntmps70
  go_wp2_with fail
  go_ret
  exact ⟨rfl,rfl⟩
 ·have hd : decide (t < 0) = false:=by simpa using h
  rw [if_neg h]
  clear ht hq
  go_enter Tryz.func70,Tryz.ntmps70
  go_wp2_with fail
  go_ret
  exact ⟨rfl,rfl⟩
theorem nats_at {K : Nat} {w : World} {v : Value} {l : List Nat} (h : Nats K w v l) {i : Nat} (hi : i < l.length) : ∃ b o c,v = .slice (some ⟨b,o,none⟩) l.length c /\ w.cell? ⟨b,o + i,none⟩ = some (Z (l[i]?.getD 0)):=by
 obtain ⟨b,o,c,he,_,_,_,hc⟩:=Nats.pos h (by omega)
 exact ⟨b,o,c,he,hc i hi⟩
theorem cond_const (P : List Nat -> Prop) (K b : Nat) (t : Bool) (W : World) (hb : Blk W b #[.bool t] 4) (hK : b < K) : CondR P (fun _ => t) (.func (.func 101) #[] #[.pointer (some ⟨b,0,none⟩)]) K W:=by
 refine ⟨101,_,rfl,enters_of Tryz.func101 (by kernel_rfl) rfl,fun W' v cs hbw hkw hv hp => ?_⟩
 have c0 : W'.cell? ⟨b,0,none⟩ = some (.bool t):=(hb.below hbw hK).at rfl
 clear hb hbw hv hp
 show Calls _ _ #[v,.pointer (some ⟨b,0,none⟩)] W' _
 go_enter Tryz.func101,Tryz.ntmps101
 go_wp2_with fail
 go_ret
 exact ⟨rfl,Below.refl _ _⟩
theorem cond_no (P : List Nat -> Prop) (K : Nat) (W : World) : CondR P (fun _ => false) (.func (.func 153) #[] #[]) K W:=by
 refine ⟨153,_,rfl,enters_of Tryz.func153 (by kernel_rfl) rfl,fun W' v cs hbw hkw hv hp => ?_⟩
 clear hbw hv hp
 show Calls _ _ #[v] W' _
 go_enter Tryz.func153,Tryz.ntmps153
 go_wp2_with fail
 go_ret
 exact ⟨rfl,Below.refl _ _⟩
structure CBox (P : List Nat -> Prop) (lb n : Nat) (ps : Nat -> List Nat -> Bool) (K : Nat) (W : World) : Prop where
 box : ∃ a c,Blk W lb #[.slice a n c] 109 /\ lb < K /\ ∃ fv : Nat -> Value,RowsV 1 (fun i _ => fv i) K W (.slice a n c) n /\ ∀ i,i < n -> CondR P (ps i) (fv i) K W
theorem CBox.cells {P : List Nat -> Prop} {lb n : Nat} {ps : Nat -> List Nat -> Bool} {K : Nat} {W W' : World} (h : CBox P lb n ps K W) (hb : Below K W W') (hn : 0 < n) : ∃ b o c,W'.cell? ⟨lb,0,none⟩ = some (.slice (some ⟨b,o,none⟩) n c) ∧
  ∀ i,i < n -> ∃ g caps,(∀ args w,(callFunc g args).run Tryz.prog w = .ok (.enter g args) w) /\ W'.cell? ⟨b,o + i,none⟩ = some (.func (.func g) #[] caps) ∧
   ∀ (W'' : World) (v : Value) (cs : List Nat),Below K W W'' -> K <= W''.heap.size -> Nats W''.heap.size W'' v cs -> P cs -> Calls Tryz.prog g (#[v] ++ caps) W'' fun e W3 => e = .returned (.bool (ps i cs)) /\ Below W''.heap.size W'' W3:=by
 obtain ⟨a,c,hq,hlb,fv,hr,hf⟩:=h.box
 obtain ⟨b,o,cap,he,_,_,hbK,hc⟩:=hr.pos hn
 simp only [Value.slice.injEq,true_and] at he
 obtain ⟨rfl,rfl⟩:=he
 refine ⟨b,o,c,(hq.below hb hlb).at rfl,fun i hi => ?_⟩
 obtain ⟨g,caps,hfv,hg,hcall⟩:=hf i hi
 exact ⟨g,caps,hg,(hb.cell (p:=⟨b,o + i,none⟩) hbK).trans (by have := hc i hi 0 (by omega); rw [hfv] at this; simpa using this),hcall⟩
theorem cond_not (P : List Nat -> Prop) (K lb : Nat) (ps : Nat -> List Nat -> Bool) (W : World) (h : CBox P lb 1 ps K W) : CondR P (fun cs => !ps 0 cs) (.func (.func 105) #[] #[.pointer (some ⟨lb,0,none⟩)]) K W:=by
 refine ⟨105,_,rfl,enters_of Tryz.func105 (by kernel_rfl) rfl,fun W' v cs hbw hkw hv hp => ?_⟩
 obtain ⟨b,o,c,c0,hc⟩:=h.cells hbw (by omega)
 obtain ⟨g0,p0,e0,d0,h0⟩:=hc 0 (by omega)
 rw [Nat.add_zero] at d0
 have H0:=Lib.hid (h0 W' v cs hbw hkw hv hp)
 obtain ⟨t0,ht0⟩ : ∃ t,ps 0 cs = t:=⟨_,rfl⟩
 rw [ht0] at H0
 simp only [ht0]
 clear h hbw hc h0 hv hp ht0
 show Calls _ _ #[v,.pointer (some ⟨lb,0,none⟩)] W' _
 go_enter Tryz.func105,Tryz.ntmps105
 go_wp2_with fail
 refine H0.out.mono ?_
 clear H0
 rintro e w1 ⟨rfl,hb1⟩
 go_wp2_with fail
 go_ret
 exact ⟨rfl,hb1⟩
theorem cond_and (P : List Nat -> Prop) (K lb : Nat) (ps : Nat -> List Nat -> Bool) (W : World) (h : CBox P lb 2 ps K W) : CondR P (fun cs => ps 0 cs && ps 1 cs) (.func (.func 103) #[] #[.pointer (some ⟨lb,0,none⟩)]) K W:=by
 refine ⟨103,_,rfl,enters_of Tryz.func103 (by kernel_rfl) rfl,fun W' v cs hbw hkw hv hp => ?_⟩
 obtain ⟨b,o,c,c0,hc⟩:=h.cells hbw (by omega)
 obtain ⟨g0,p0,e0,d0,h0⟩:=hc 0 (by omega)
 rw [Nat.add_zero] at d0
 have H0:=Lib.hid (h0 W' v cs hbw hkw hv hp)
 have HBW:=Lib.hid hbw
 have HV:=Lib.hid hv
 have HP:=Lib.hid hp
 have H:=Lib.hid h
 obtain ⟨t1,ht1⟩ : ∃ t,ps 1 cs = t:=⟨_,rfl⟩
 have HT1:=Lib.hid ht1
 obtain ⟨t0,ht0⟩ : ∃ t,ps 0 cs = t:=⟨_,rfl⟩
 rw [ht0] at H0
 simp only [ht0,ht1]
 clear h hbw hc h0 hv hp ht0 ht1
 show Calls _ _ #[v,.pointer (some ⟨lb,0,none⟩)] W' _
 go_enter Tryz.func103,Tryz.ntmps103
 go_wp2_with fail
 refine H0.out.mono ?_
 clear H0 c0 d0 e0
 rintro e w1 ⟨rfl,hb1⟩
 have hbw1 : Below K W w1:=HBW.out.trans (hb1.mono hkw)
 cases t0 with
 | true =>
  obtain ⟨b,o,c,c0,hc⟩:=H.out.cells hbw1 (by omega)
  obtain ⟨g1,p1,e1,d1,h1⟩:=hc 1 (by omega)
  have H1:=Lib.hid (h1 w1 v cs hbw1 (by have := hb1.size; omega) (HV.out.below hb1 (Nat.le_refl _) hb1.size) HP.out)
  rw [HT1.out] at H1
  have HB1:=Lib.hid hb1
  clear hc h1 hbw1 hb1
  go_wp2_with fail
  refine H1.out.mono ?_
  clear H1
  rintro e w2 ⟨rfl,hb2⟩
  go_wp2_with fail
  go_ret
  exact ⟨by show Ending.returned (.bool t1) = _; simp,HB1.out.trans (hb2.mono HB1.out.size)⟩
 | false =>
  have HB1:=Lib.hid hb1
  clear hbw1 hb1
  go_wp2_with fail
  go_ret
  exact ⟨by first | rfl | (show Ending.returned (.bool _) = _; simp),HB1.out⟩
theorem cond_or (P : List Nat -> Prop) (K lb : Nat) (ps : Nat -> List Nat -> Bool) (W : World) (h : CBox P lb 2 ps K W) : CondR P (fun cs => ps 0 cs || ps 1 cs) (.func (.func 104) #[] #[.pointer (some ⟨lb,0,none⟩)]) K W:=by
 refine ⟨104,_,rfl,enters_of Tryz.func104 (by kernel_rfl) rfl,fun W' v cs hbw hkw hv hp => ?_⟩
 obtain ⟨b,o,c,c0,hc⟩:=h.cells hbw (by omega)
 obtain ⟨g0,p0,e0,d0,h0⟩:=hc 0 (by omega)
 rw [Nat.add_zero] at d0
 have H0:=Lib.hid (h0 W' v cs hbw hkw hv hp)
 have HBW:=Lib.hid hbw
 have HV:=Lib.hid hv
 have HP:=Lib.hid hp
 have H:=Lib.hid h
 obtain ⟨t1,ht1⟩ : ∃ t,ps 1 cs = t:=⟨_,rfl⟩
 have HT1:=Lib.hid ht1
 obtain ⟨t0,ht0⟩ : ∃ t,ps 0 cs = t:=⟨_,rfl⟩
 rw [ht0] at H0
 simp only [ht0,ht1]
 clear h hbw hc h0 hv hp ht0 ht1
 show Calls _ _ #[v,.pointer (some ⟨lb,0,none⟩)] W' _
 go_enter Tryz.func104,Tryz.ntmps104
 go_wp2_with fail
 refine H0.out.mono ?_
 clear H0 c0 d0 e0
 rintro e w1 ⟨rfl,hb1⟩
 have hbw1 : Below K W w1:=HBW.out.trans (hb1.mono hkw)
 cases t0 with
 | false =>
  obtain ⟨b,o,c,c0,hc⟩:=H.out.cells hbw1 (by omega)
  obtain ⟨g1,p1,e1,d1,h1⟩:=hc 1 (by omega)
  have H1:=Lib.hid (h1 w1 v cs hbw1 (by have := hb1.size; omega) (HV.out.below hb1 (Nat.le_refl _) hb1.size) HP.out)
  rw [HT1.out] at H1
  have HB1:=Lib.hid hb1
  clear hc h1 hbw1 hb1
  go_wp2_with fail
  refine H1.out.mono ?_
  clear H1
  rintro e w2 ⟨rfl,hb2⟩
  go_wp2_with fail
  go_ret
  exact ⟨by show Ending.returned (.bool t1) = _; simp,HB1.out.trans (hb2.mono HB1.out.size)⟩
 | true =>
  have HB1:=Lib.hid hb1
  clear hbw1 hb1
  go_wp2_with fail
  go_ret
  exact ⟨by first | rfl | (show Ending.returned (.bool _) = _; simp),HB1.out⟩
theorem cond_if (P : List Nat -> Prop) (K lb : Nat) (ps : Nat -> List Nat -> Bool) (W : World) (h : CBox P lb 3 ps K W) : CondR P (fun cs => if ps 0 cs then ps 1 cs else ps 2 cs) (.func (.func 106) #[] #[.pointer (some ⟨lb,0,none⟩)]) K W:=by
 refine ⟨106,_,rfl,enters_of Tryz.func106 (by kernel_rfl) rfl,fun W' v cs hbw hkw hv hp => ?_⟩
 obtain ⟨b,o,c,c0,hc⟩:=h.cells hbw (by omega)
 obtain ⟨g0,p0,e0,d0,h0⟩:=hc 0 (by omega)
 rw [Nat.add_zero] at d0
 have H0:=Lib.hid (h0 W' v cs hbw hkw hv hp)
 have HBW:=Lib.hid hbw
 have HV:=Lib.hid hv
 have HP:=Lib.hid hp
 have H:=Lib.hid h
 obtain ⟨t1,ht1⟩ : ∃ t,ps 1 cs = t:=⟨_,rfl⟩
 have HT1:=Lib.hid ht1
 obtain ⟨t2,ht2⟩ : ∃ t,ps 2 cs = t:=⟨_,rfl⟩
 have HT2:=Lib.hid ht2
 obtain ⟨t0,ht0⟩ : ∃ t,ps 0 cs = t:=⟨_,rfl⟩
 rw [ht0] at H0
 simp only [ht0,ht1,ht2]
 clear h hbw hc h0 hv hp ht0 ht1 ht2
 show Calls _ _ #[v,.pointer (some ⟨lb,0,none⟩)] W' _
 go_enter Tryz.func106,Tryz.ntmps106
 go_wp2_with fail
 refine H0.out.mono ?_
 clear H0 c0 d0 e0
 rintro e w1 ⟨rfl,hb1⟩
 have hbw1 : Below K W w1:=HBW.out.trans (hb1.mono hkw)
 cases t0 with
 | true =>
  obtain ⟨b,o,c,c0,hc⟩:=H.out.cells hbw1 (by omega)
  obtain ⟨g1,p1,e1,d1,h1⟩:=hc 1 (by omega)
  have H1:=Lib.hid (h1 w1 v cs hbw1 (by have := hb1.size; omega) (HV.out.below hb1 (Nat.le_refl _) hb1.size) HP.out)
  rw [HT1.out] at H1
  have HB1:=Lib.hid hb1
  clear hc h1 hbw1 hb1
  go_wp2_with fail
  refine H1.out.mono ?_
  clear H1
  rintro e w2 ⟨rfl,hb2⟩
  go_wp2_with fail
  go_ret
  exact ⟨rfl,HB1.out.trans (hb2.mono HB1.out.size)⟩
 | false =>
  obtain ⟨b,o,c,c0,hc⟩:=H.out.cells hbw1 (by omega)
  obtain ⟨g1,p1,e1,d1,h1⟩:=hc 2 (by omega)
  have H1:=Lib.hid (h1 w1 v cs hbw1 (by have := hb1.size; omega) (HV.out.below hb1 (Nat.le_refl _) hb1.size) HP.out)
  rw [HT2.out] at H1
  have HB1:=Lib.hid hb1
  clear hc h1 hbw1 hb1
  go_wp2_with fail
  refine H1.out.mono ?_
  clear H1
  rintro e w2 ⟨rfl,hb2⟩
  go_wp2_with fail
  go_ret
  exact ⟨rfl,HB1.out.trans (hb2.mono HB1.out.size)⟩
end Go.Proofs.YtlidpghnlloinaaGreatDoor
