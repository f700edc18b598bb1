/- Contracts and plain laws, several texts in one (GlM4, GlM5). No conditions beyond those stated. -/
import Derived.Deep.CutRange
import Derived.Test.YtlidpghnlloinaaGreatDoorPk16
set_option maxRecDepth 100000
set_option maxHeartbeats 40000000
namespace Go.Proofs.YtlidpghnlloinaaGreatDoor
open Go.RowKit
set_option linter.unusedVariables false
theorem gsubjectN_any (k : Nat) (w : World) (hk : k < 256) : Calls Tryz.prog 159 #[.int .u8 k] w fun e w' => ∃ x : Xv,e = .returned x.agg /\ ExN w.heap.size w' (subG k) x /\ Below w.heap.size w w':=by
 obtain ⟨W1,hW1⟩ : ∃ W1,w.alloc (.cells xz.cells 49) = W1:=⟨_,rfl⟩
 have b1 : Below w.heap.size w W1:=by rw [<- hW1]; exact (Below.refl _ _).alloc (Nat.le_refl _) _
 have q1 : Blk W1 w.heap.size xz.cells 49:=by rw [<- hW1]; exact Blk.new w _ _
 have s1 : W1.heap.size = w.heap.size + 1:=by rw [<- hW1]; simp
 obtain ⟨W2,hW2⟩ : ∃ W2,W1.alloc (.cells #[.int .u8 115,.int .u8 (48 + (k : Int) % 12)] 5) = W2:=⟨_,rfl⟩
 have b2 : Below W1.heap.size W1 W2:=by rw [<- hW2]; exact (Below.refl _ _).alloc (Nat.le_refl _) _
 have hcv:=conv_sub k W1
 rw [hW2] at hcv
 obtain ⟨nm,hnm⟩ : ∃ nm : Str,[115,UInt8.ofNat (48 + k % 12)] = nm:=⟨_,rfl⟩
 rw [hnm] at hcv
 have hr:=gref2_any nm W2
 obtain ⟨B,hB⟩ : ∃ B,w.heap.size = B:=⟨_,rfl⟩
 have HB:=Lib.hid hB
 have HW1 : Hid (w.alloc (.cells #[.int .u8 0,.string ⟨#[]⟩,.int .u8 0,.bool false,.slice none 0 0,.bool false,.slice none 0 0,.int .i64 0,.slice none 0 0] 49) = W1):=Lib.hid hW1
 have HW2:=Lib.hid hW2
 have HNM:=Lib.hid hnm
 rw [hB] at b1 q1 s1 ⊢
 rw [s1] at hcv
 clear hB hW1 hW2 hnm
 go_enter Tryz.func159,Tryz.ntmps159
 go_upto_region 1 with fail
 simp only [HB.out]
 rw [HW1.out]
 go_wp2_with fail
 rw [HW2.out,hcv]
 go_wp2_with fail
 refine hr.mono ?_
 rintro e w3 ⟨b,rfl,q3,hbn,b3⟩
 have hlt:=q3.lt
 have q13:=(q1.below b2 (by omega)).below b3 (by have := b2.size; omega)
 have h1c : ∀ u ∈ (refX nm b).cells,u.oneCell' = true:=by simp [Value.oneCell']
 clear hr
 go_wp2_with (refine wpList_store_blk rfl 49 49 (.tmp 2) (.tmp 8) rfl (refX nm b).cells _ B q13 infoExN rfl h1c rfl rfl ?_; intro W4 t1 t2 t3 t4)
 refine bodyPost_ret (results_blk rfl _ _ B _ _ t1 rfl Tryz.underlying49 rfl infoExN) rfl ?_
 have s2:=b2.size
 have s3:=b3.size
 have hx:=refX_new (nm:=nm) (L:=B) (q3.kept t3 (by simp; omega)) (by omega) (by rw [<- HNM.out]; simp [maxLen])
 rw [<- HNM.out] at hx ⊢
 exact ⟨_,rfl,hx,b1.trans ((b2.mono (by omega)).trans ((b3.mono (by omega)).trans (t2 B (Nat.le_refl _))))⟩
theorem results_blk2 {fn : Func} {t s : Tmp} {ty : TypeId} (h : fn.results = #[.cell t ty,.tmp s]) (tmps : Array Value) (w : World) (b : Nat) (cs : Array Value) (d : TypeDesc) (hc : Blk w b cs ty) (ht : tmps.getD t undef = .pointer (some ⟨b,0,none⟩))
  (hu : Tryz.prog.underlying ty = some d) (hd : d.isRow = true) (hi : (Tryz.prog.info? ty).map (fun i => i.size) = some cs.size) : (results fn tmps).run Tryz.prog w = .ok (.tuple #[.agg cs,tmps.getD s undef]) w:=by
 have hl:=run_loadVar_mid (P:=Tryz.prog) w b 0 ty cs.toList d hc.range hu hd (by rw [hi]; simp)
 have ht' : tmps[t]?.getD undef = .pointer (some ⟨b,0,none⟩):=by simpa using ht
 simp [results,h,ht',asAddr,hl]
theorem leafM_sub (x : Nat) (r : List Nat) : ∀ y ∈ (leafM x r).2,y ∈ r:=by
 unfold leafM
 split
 ·exact fun y h => h
 ·exact fun y h => List.mem_of_mem_tail h
theorem madeM_sub : ∀ (d : Nat) (l : List Nat),∀ y ∈ (madeM d l).2,y ∈ l
 | d,[] => by cases d <;> (intro y h; cases h)
 | 0,x :: r => fun y h => List.mem_cons_of_mem _ (leafM_sub x r y h)
 | d + 1,x :: r => by
  intro y h
  refine List.mem_cons_of_mem _ ?_
  rw [madeM] at h
  split at h
  ·split at h
   ·exact madeM_sub d r y h
   ·split at h
    ·exact madeM_sub d r y (madeM_sub d _ y (madeM_sub d _ y h))
    ·exact madeM_sub d r y (madeM_sub d _ y h)
  ·exact leafM_sub x r y h
theorem partsG_pos (e : Gx) : 1 <= e.parts:=by cases e; rw [Gx.parts]; omega
theorem gmade_nil (K d : Nat) (v : Value) (w : World) (hu : U8s K w v []) : Calls Tryz.prog 118 #[v,.int .i64 d] w fun e w' => ∃ X v',e = .returned (.tuple #[X.agg,v']) /\ ExN w.heap.size w' truG X /\ U8s K w' v' [] /\ Below w.heap.size w w':=by
 obtain ⟨a,cap,rfl,_⟩:=RowsV.form hu
 obtain ⟨W1,hW1⟩ : ∃ W1,w.alloc (.cells xz.cells 49) = W1:=⟨_,rfl⟩
 have b1 : Below w.heap.size w W1:=by rw [<- hW1]; exact (Below.refl _ _).alloc (Nat.le_refl _) _
 have q1 : Blk W1 w.heap.size xz.cells 49:=by rw [<- hW1]; exact Blk.new w _ _
 have s1 : W1.heap.size = w.heap.size + 1:=by rw [<- hW1]; simp
 obtain ⟨B,hB⟩ : ∃ B,w.heap.size = B:=⟨_,rfl⟩
 have HB:=Lib.hid hB
 have HW1 : Hid (w.alloc (.cells #[.int .u8 0,.string ⟨#[]⟩,.int .u8 0,.bool false,.slice none 0 0,.bool false,.slice none 0 0,.int .i64 0,.slice none 0 0] 49) = W1):=Lib.hid hW1
 rw [hB] at b1 q1 s1 ⊢
 have hcon:=gcon_any 1 false false ⟨none,0,0⟩ ⟨none,0,0⟩ 1 W1
 have h1c : ∀ u ∈ (conX 1 false ⟨none,0,0⟩ false ⟨none,0,0⟩ 1).cells,u.oneCell' = true:=by simp [Value.oneCell']
 clear hB hW1 hu
 go_enter Tryz.func118,Tryz.ntmps118
 go_upto_region 1 with fail
 simp only [HB.out]
 rw [HW1.out]
 go_wp2_with fail
 refine hcon.mono ?_
 rintro e w2 ⟨rfl,hb2⟩
 have q2:=q1.below hb2 (by omega)
 clear hcon
 go_wp2_with (refine wpList_store_blk rfl 49 49 (.tmp 4) (.tmp 19) rfl (conX 1 false ⟨none,0,0⟩ false ⟨none,0,0⟩ 1).cells _ B q2 infoExN rfl h1c rfl rfl ?_; intro W2 t1 t2 t3 t4)
 refine bodyPost_ret (results_blk2 rfl _ _ B _ _ t1 rfl Tryz.underlying49 rfl infoExN) rfl ?_
 exact ⟨_,_,rfl,exn_con (v:=wholeV 1 1) fun W hw => wholeX_is _ _ _ _,U8s.nil _ _,b1.trans ((hb2.mono (by omega)).trans (t2 B (Nat.le_refl _)))⟩
theorem gmade_leaf (K d x : Nat) (r : List Nat) (v : Value) (w : World) (hu : U8s K w v (x :: r)) (hx : ∀ y ∈ x :: r,y < 256) (hK : K <= w.heap.size) (hlen : r.length <= 2 ^ 40) (hd : d = 0 \/ x % 3 ≠ 0) (hd6 : d <= 6) : Calls Tryz.prog 118 #[v,.int .i64 d] w fun e w' => ∃ X v',e = .returned (.tuple #[X.agg,v']) /\ ExN w.heap.size w' (leafM x r).1 X /\ U8s K w' v' (leafM x r).2 /\ Below w.heap.size w w':=by
 obtain ⟨Rs,hRs⟩ : ∃ Rs,leafM x r = Rs:=⟨_,rfl⟩
 have HLM:=Lib.hid hRs
 rw [hRs]
 clear hRs
 obtain ⟨b,o,cap,rfl,hc1,hc2,hbK,hcell,hrest⟩:=hu.head
 unfold maxLen at hc2
 obtain ⟨W1,hW1⟩ : ∃ W1,w.alloc (.cells xz.cells 49) = W1:=⟨_,rfl⟩
 have b1 : Below w.heap.size w W1:=by rw [<- hW1]; exact (Below.refl _ _).alloc (Nat.le_refl _) _
 have q1 : Blk W1 w.heap.size xz.cells 49:=by rw [<- hW1]; exact Blk.new w _ _
 have s1 : W1.heap.size = w.heap.size + 1:=by rw [<- hW1]; simp
 obtain ⟨B,hB⟩ : ∃ B,w.heap.size = B:=⟨_,rfl⟩
 have HB:=Lib.hid hB
 have HW1 : Hid (w.alloc (.cells #[.int .u8 0,.string ⟨#[]⟩,.int .u8 0,.bool false,.slice none 0 0,.bool false,.slice none 0 0,.int .i64 0,.slice none 0 0] 49) = W1):=Lib.hid hW1
 rw [hB] at b1 q1 s1 hK ⊢
 have n0 : W1.cell? ⟨b,o,none⟩ = some (.int .u8 (x : Int)):=(b1.cell (p:=⟨b,o,none⟩) (by show b < B; omega)).trans hcell
 have hu1:=hrest.below (K':=K) b1 hK (Nat.le_refl _)
 have hx0 : x < 256:=hx x (List.mem_cons_self ..)
 have hxr : ∀ y ∈ r,y < 256:=fun y h => hx y (List.mem_cons_of_mem _ h)
 have hin : (0 : Int) < (r.length : Int) + 1:=by omega
 clear hB hW1 hu hcell hrest hx
 go_enter Tryz.func118,Tryz.ntmps118
 go_upto_region 1 with fail
 simp only [HB.out]
 rw [HW1.out]
 go_upto_region 3 with fail
 go_quiet (fail)
 generalize (if cap = 1 then some (⟨b,o,none⟩ : Addr) else some ⟨b,o + 1,none⟩) = ra at hu1 ⊢
 generalize cap - 1 = c1 at hu1 ⊢
 generalize hWq : W1.drewN _ = Wq
 have qq : Blk Wq B xz.cells 49:=by rw [<- hWq]; exact q1
 have bq : Below B w Wq:=by rw [<- hWq]; exact below_drewN2 b1 _
 have uq : U8s K Wq (.slice ra r.length c1) r:=by rw [<- hWq]; exact hu1
 have sq : Wq.heap.size = B + 1:=by rw [<- hWq]; exact s1
 have HUQ:=Lib.hid uq
 have HBQ:=Lib.hid bq
 clear q1 b1 hu1 s1 hWq n0 HW1 uq bq
 go_upto_region 4 with fail
 go_cut [31] from 25 to 31 (fun s wx => s = .bool false /\ Wq = wx)
 case first =>
  by_cases h0 : d = 0
  ·subst h0
   go_wp2_with fail
   all_goals go_meet
   all_goals exact ⟨rfl,rfl⟩
  ·have hd1 : (0 : Int) < (d : Int):=by omega
   have h3 : ¬ (x : Int) % 3 = 0:=by omega
   have h4 : ((x : Int) % 3 == 0) = false:=by simpa using h3
   go_wp2_with fail
   all_goals go_meet
   all_goals exact ⟨rfl,rfl⟩
 case rest =>
 obtain ⟨rfl,rfl⟩:=hcut
 obtain ⟨k,hk⟩ : ∃ k,x / 3 = k:=⟨_,rfl⟩
 have hki : (x : Int) / 3 = (k : Int):=by omega
 have hk256 : k < 256:=by omega
 have hsub:=gsubjectN_any k Wq hk256
 clear hd
 go_wp2_with fail
 refine hsub.mono ?_
 rintro e w2 ⟨Xs,rfl,hxs,hb2⟩
 have hb2s:=hb2.size
 have q2:=qq.below hb2 (by omega)
 have HU2:=Lib.hid (HUQ.out.below (K':=K) hb2 (by omega) (Nat.le_refl _))
 have HB2:=Lib.hid (HBQ.out.trans (hb2.mono (by omega)))
 have h1c : ∀ u ∈ Xs.cells,u.oneCell' = true:=by simp [Value.oneCell']
 clear hsub qq HUQ HBQ
 go_upto_region 16 with (refine wpList_store_new rfl 49 (.tmp 12) (.tmp 80) rfl Xs.cells _ infoExN rfl h1c w2.heap.size rfl rfl rfl ?_)
 obtain ⟨W3,hW3⟩ : ∃ W3,w2.alloc (.cells Xs.cells 49) = W3:=⟨_,rfl⟩
 have b3 : Below w2.heap.size w2 W3:=by rw [<- hW3]; exact (Below.refl _ _).alloc (Nat.le_refl _) _
 obtain ⟨S,hS⟩ : ∃ S,w2.heap.size = S:=⟨_,rfl⟩
 have qs : Blk W3 S Xs.cells 49:=by rw [<- hW3,<- hS]; exact Blk.new w2 _ _
 have s3 : W3.heap.size = S + 1:=by rw [<- hW3,<- hS]; simp
 have sS : B + 1 <= S:=by omega
 have q3:=q2.below b3 (by omega)
 have HU3:=Lib.hid (HU2.out.below (K':=K) b3 (by omega) (Nat.le_refl _))
 have HB3:=Lib.hid (HB2.out.trans (b3.mono (by omega)))
 have HX3:=Lib.hid ((hxs.mono (by omega : B + 1 <= Wq.heap.size)).move (NewW.of b3))
 have HW3:=Lib.hid hW3
 have HS:=Lib.hid hS
 clear q2 HU2 HB2 b3 hxs hW3 hb2s hb2 hS
 simp only [HS.out]
 rw [HW3.out]
 have hkf:=gkindof_any k W3 hk256
 by_cases hkk : kindN k = 1
 ·rw [hkk] at hkf
  go_wp2_with fail
  refine hkf.mono ?_
  rintro e w4 ⟨rfl,hb4⟩
  have hs4:=hb4.size
  have q4:=q3.below hb4 (by omega)
  have qs4:=qs.below hb4 (by omega)
  have hrg:=qs4.range
  have HU4:=Lib.hid (HU3.out.below (K':=K) hb4 (by omega) (Nat.le_refl _))
  have HB4:=Lib.hid (HB3.out.trans (hb4.mono (by omega)))
  have HX4:=Lib.hid (HX3.out.move (NewW.of hb4))
  have HLE : Hid (Rs = (subG k,r)):=Lib.hid (by rw [<- HLM.out]; unfold leafM; rw [hk,if_pos hkk])
  clear hkf q3 qs HU3 HB3 HX3 hb4
  go_wp2_with (first
   | (refine wpList_load_mid rfl 49 (.tmp 12) rfl S 0 rfl Xs.cells.toList _ hrg Tryz.underlying49 rfl infoExN ?_)
   | (refine wpList_store_blk rfl 49 49 (.tmp 4) (.tmp 84) rfl Xs.cells _ B q4 infoExN rfl h1c rfl rfl ?_; intro W5 t1 t2 t3 t4))
  refine bodyPost_ret (results_blk2 rfl _ _ B _ _ t1 rfl Tryz.underlying49 rfl infoExN) rfl ?_
  rw [HLE.out]
  exact ⟨Xs,_,rfl,(HX4.out.move (NewW.put t3 (by omega))).mono (by omega),HU4.out.below (t2 B (Nat.le_refl _)) (by omega) (Nat.le_refl _) |>.grow (by omega),HB4.out.trans (t2 B (Nat.le_refl _))⟩
 ·have hkn : (kindN k == 1) = false:=by simpa using hkk
  go_wp2_with fail
  refine hkf.mono ?_
  rintro e w4 ⟨rfl,hb4⟩
  have hs4:=hb4.size
  have q4:=q3.below hb4 (by omega)
  have qs4:=qs.below hb4 (by omega)
  have hu4:=HU3.out.below (K':=K) hb4 (by omega) (Nat.le_refl _)
  have HB4:=Lib.hid (HB3.out.trans (hb4.mono (by omega)))
  have HX4:=Lib.hid (HX3.out.move (NewW.of hb4))
  clear hkf q3 qs HU3 HB3 HX3 hb4
  have sw4 : S + 1 <= w4.heap.size:=by omega
  have HU4:=Lib.hid hu4
  have HQ4:=Lib.hid q4
  have HQS4:=Lib.hid qs4
  clear hu4 q4 qs4
  go_upto_region 19 with fail
  cases r with
  | nil =>
   have HRR : Hid (Rs = (tstG x 0,[])):=Lib.hid (by rw [<- HLM.out]; unfold leafM; rw [hk,if_neg hkk]; rfl)
   have hn8 : 0 < 8:=by omega
   have hval : ∀ W : World,Calls Tryz.prog 81 #[.int .u8 (kindN k),.int .i64 0] W fun e w' => ∃ (k' i : Int) (f1 f2 : Bool) (s1 s2 : Sl),e = .returned (⟨k',f1,s1.val,f2,s2.val,i⟩ : Vv).agg /\ VlN W.heap.size w' (wV (kindN k) 0) ⟨k',f1,s1.val,f2,s2.val,i⟩ /\ Below W.heap.size W w':=gvalueN_any (kindN k) (kindN_range k) 0 (by omega)
   have HVAL:=Lib.hid hval
   clear hval
   go_upto_region 21 with fail
   have hkf:=gkindof_any k w4 hk256
   go_wp2_with fail
   refine hkf.mono ?_
   rintro e w5 ⟨rfl,hb5⟩
   have hs5:=hb5.size
   go_wp2_with fail
   refine (HVAL.out w5).mono ?_
   rintro e w6 ⟨kk,ii,f1,f2,s1,s2,rfl,hvl,hb6⟩
   have hs6:=hb6.size
   have hcon:=gcon_any kk f1 f2 s1 s2 ii w6
   go_wp2_with fail
   refine hcon.mono ?_
   rintro e w7 ⟨rfl,hb7⟩
   have hs7:=hb7.size
   clear hkf hcon
   have hcn:=exn_con (v:=wV (kindN k) 0) (hvl.move (NewW.of hb7))
   obtain ⟨a1,n1,m1⟩:=s1
   obtain ⟨a2,n2,m2⟩:=s2
   have h1c2 : ∀ u ∈ (conX kk f1 ⟨a1,n1,m1⟩ f2 ⟨a2,n2,m2⟩ ii).cells,u.oneCell' = true:=by simp [Value.oneCell']
   go_upto_region 22 with (refine wpList_store_new rfl 49 (.tmp 14) (.tmp 100) rfl (conX kk f1 ⟨a1,n1,m1⟩ f2 ⟨a2,n2,m2⟩ ii).cells _ infoExN rfl h1c2 w7.heap.size rfl rfl rfl ?_)
   obtain ⟨W8,hW8⟩ : ∃ W8,w7.alloc (.cells (conX kk f1 ⟨a1,n1,m1⟩ f2 ⟨a2,n2,m2⟩ ii).cells 49) = W8:=⟨_,rfl⟩
   obtain ⟨T,hT⟩ : ∃ T,w7.heap.size = T:=⟨_,rfl⟩
   have b78 : Below w7.heap.size w7 W8:=by rw [<- hW8]; exact (Below.refl _ _).alloc (Nat.le_refl _) _
   have b48 : Below w4.heap.size w4 W8:=hb5.trans ((hb6.mono (by omega)).trans ((hb7.mono (by omega)).trans (b78.mono (by omega))))
   have q8:=HQ4.out.below b48 (by omega)
   have qs8:=HQS4.out.below b48 (by omega)
   have qt8 : Blk W8 T (conX kk f1 ⟨a1,n1,m1⟩ f2 ⟨a2,n2,m2⟩ ii).cells 49:=by rw [<- hW8,<- hT]; exact Blk.new w7 _ _
   have HU8:=Lib.hid (HU4.out.below (K':=K) b48 (by omega) (Nat.le_refl _))
   have HB8:=Lib.hid (HB4.out.trans (b48.mono (by omega)))
   have HX8:=Lib.hid (HX4.out.move (NewW.of b48))
   have HC8:=Lib.hid ((hcn.move (NewW.of b78)).mono (by omega : B + 1 <= w5.heap.size))
   have s8 : W8.heap.size = T + 1:=by rw [<- hW8,<- hT]; simp
   have sT : S + 1 <= T:=by omega
   have HW8:=Lib.hid hW8
   have HT:=Lib.hid hT
   simp only [HT.out]
   rw [HW8.out]
   clear hvl hcn hb5 hb6 hb7 b78 b48 HU4 HB4 HX4 HQ4 HQS4 hW8 hT hs5 hs6 hs7
   have hrs:=qs8.range
   have hrt:=qt8.range
   obtain ⟨m,hm⟩ : ∃ m,x % 4 = m:=⟨_,rfl⟩
   have hmi : (x : Int) % 4 = (m : Int):=by omega
   have hm4 : m = 0 \/ m = 1 \/ m = 2 \/ m = 3:=by omega
   rcases hm4 with rfl | rfl | rfl | rfl
   ·have HTS : Hid (Rs = (Gx.mk 13 [] v0 [(subG k),(conV (wV (kindN k) 0))],[])):=Lib.hid (by rw [HRR.out]; unfold tstG; rw [hk,if_pos (by omega),if_pos (by omega)])
    obtain ⟨W9,hW9⟩ : ∃ W9,W8.alloc (.cells (cells2 Xs (conX kk f1 ⟨a1,n1,m1⟩ f2 ⟨a2,n2,m2⟩ ii)) 49) = W9:=⟨_,rfl⟩
    have b89 : Below W8.heap.size W8 W9:=by rw [<- hW9]; exact (Below.refl _ _).alloc (Nat.le_refl _) _
    have q9 : Blk W9 (T + 1) (cells2 Xs (conX kk f1 ⟨a1,n1,m1⟩ f2 ⟨a2,n2,m2⟩ ii)) 49:=by
     have := Blk.new W8 (cells2 Xs (conX kk f1 ⟨a1,n1,m1⟩ f2 ⟨a2,n2,m2⟩ ii)) 49
     rwa [hW9,s8] at this
    have s9 : W9.heap.size = T + 2:=by rw [<- hW9,World.size_alloc,s8]
    have hop:=gop_any 13 ⟨some ⟨T + 1,0,none⟩,2,2⟩ W9
    have HW9:=Lib.hid hW9
    dsimp only [cells2,conX] at HW9
    clear hW9 hm
    go_wp2_with (first
     | (refine wpList_load_mid rfl 49 (.tmp 12) rfl S 0 rfl Xs.cells.toList _ hrs Tryz.underlying49 rfl infoExN ?_)
     | (refine wpList_load_mid rfl 49 (.tmp 14) rfl T 0 rfl (conX kk f1 ⟨a1,n1,m1⟩ f2 ⟨a2,n2,m2⟩ ii).cells.toList _ hrt Tryz.underlying49 rfl infoExN ?_))
    rw [HW9.out]
    refine hop.mono ?_
    rintro e w10 ⟨rfl,hb10⟩
    have q10:=(q8.below b89 (by omega)).below hb10 (by omega)
    have h1o : ∀ u ∈ (opX 13 ⟨some ⟨T + 1,0,none⟩,2,2⟩).cells,u.oneCell' = true:=by simp [Value.oneCell']
    clear hop
    go_wp2_with (refine wpList_store_blk rfl 49 49 (.tmp 4) (.tmp 108) rfl (opX 13 ⟨some ⟨T + 1,0,none⟩,2,2⟩).cells _ B q10 infoExN rfl h1o rfl rfl ?_; intro W11 t1 t2 t3 t4)
    refine bodyPost_ret (results_blk2 rfl _ _ B _ _ t1 rfl Tryz.underlying49 rfl infoExN) rfl ?_
    rw [HTS.out]
    have w89 : NewW (B + 1) W8 W11:=(NewW.of b89).trans ((NewW.of hb10).trans (NewW.put t3 (by omega)))
    have w91 : NewW (B + 1) W9 W11:=(NewW.of hb10).trans (NewW.put t3 (by omega))
    exact ⟨_,_,rfl,(exn_two (w91.blk (by omega) q9) (by omega) (HX8.out.move w89) (HC8.out.move w89)).mono (by omega),((HU8.out.below (K':=K) b89 (by omega) (Nat.le_refl _)).below (K':=K) hb10 (by omega) (Nat.le_refl _)).below (t2 B (Nat.le_refl _)) (by omega) (Nat.le_refl _),HB8.out.trans ((b89.mono (by omega)).trans ((hb10.mono (by omega)).trans (t2 B (Nat.le_refl _))))⟩
   ·have HTS : Hid (Rs = (Gx.mk 13 [] v0 [(conV (wV (kindN k) 0)),(subG k)],[])):=Lib.hid (by rw [HRR.out]; unfold tstG; rw [hk,if_pos (by omega),if_neg (by omega)])
    obtain ⟨W9,hW9⟩ : ∃ W9,W8.alloc (.cells (cells2 (conX kk f1 ⟨a1,n1,m1⟩ f2 ⟨a2,n2,m2⟩ ii) Xs) 49) = W9:=⟨_,rfl⟩
    have b89 : Below W8.heap.size W8 W9:=by rw [<- hW9]; exact (Below.refl _ _).alloc (Nat.le_refl _) _
    have q9 : Blk W9 (T + 1) (cells2 (conX kk f1 ⟨a1,n1,m1⟩ f2 ⟨a2,n2,m2⟩ ii) Xs) 49:=by
     have := Blk.new W8 (cells2 (conX kk f1 ⟨a1,n1,m1⟩ f2 ⟨a2,n2,m2⟩ ii) Xs) 49
     rwa [hW9,s8] at this
    have s9 : W9.heap.size = T + 2:=by rw [<- hW9,World.size_alloc,s8]
    have hop:=gop_any 13 ⟨some ⟨T + 1,0,none⟩,2,2⟩ W9
    have HW9:=Lib.hid hW9
    dsimp only [cells2,conX] at HW9
    clear hW9 hm
    go_wp2_with (first
     | (refine wpList_load_mid rfl 49 (.tmp 14) rfl T 0 rfl (conX kk f1 ⟨a1,n1,m1⟩ f2 ⟨a2,n2,m2⟩ ii).cells.toList _ hrt Tryz.underlying49 rfl infoExN ?_)
     | (refine wpList_load_mid rfl 49 (.tmp 12) rfl S 0 rfl Xs.cells.toList _ hrs Tryz.underlying49 rfl infoExN ?_))
    rw [HW9.out]
    refine hop.mono ?_
    rintro e w10 ⟨rfl,hb10⟩
    have q10:=(q8.below b89 (by omega)).below hb10 (by omega)
    have h1o : ∀ u ∈ (opX 13 ⟨some ⟨T + 1,0,none⟩,2,2⟩).cells,u.oneCell' = true:=by simp [Value.oneCell']
    clear hop
    go_wp2_with (refine wpList_store_blk rfl 49 49 (.tmp 4) (.tmp 115) rfl (opX 13 ⟨some ⟨T + 1,0,none⟩,2,2⟩).cells _ B q10 infoExN rfl h1o rfl rfl ?_; intro W11 t1 t2 t3 t4)
    refine bodyPost_ret (results_blk2 rfl _ _ B _ _ t1 rfl Tryz.underlying49 rfl infoExN) rfl ?_
    rw [HTS.out]
    have w89 : NewW (B + 1) W8 W11:=(NewW.of b89).trans ((NewW.of hb10).trans (NewW.put t3 (by omega)))
    have w91 : NewW (B + 1) W9 W11:=(NewW.of hb10).trans (NewW.put t3 (by omega))
    exact ⟨_,_,rfl,(exn_two (w91.blk (by omega) q9) (by omega) (HC8.out.move w89) (HX8.out.move w89)).mono (by omega),((HU8.out.below (K':=K) b89 (by omega) (Nat.le_refl _)).below (K':=K) hb10 (by omega) (Nat.le_refl _)).below (t2 B (Nat.le_refl _)) (by omega) (Nat.le_refl _),HB8.out.trans ((b89.mono (by omega)).trans ((hb10.mono (by omega)).trans (t2 B (Nat.le_refl _))))⟩
   ·have HTS : Hid (Rs = (Gx.mk 14 [] v0 [(subG k),(conV (wV (kindN k) 0))],[])):=Lib.hid (by rw [HRR.out]; unfold tstG; rw [hk,if_neg (by omega),if_pos (by omega)])
    obtain ⟨W9,hW9⟩ : ∃ W9,W8.alloc (.cells (cells2 Xs (conX kk f1 ⟨a1,n1,m1⟩ f2 ⟨a2,n2,m2⟩ ii)) 49) = W9:=⟨_,rfl⟩
    have b89 : Below W8.heap.size W8 W9:=by rw [<- hW9]; exact (Below.refl _ _).alloc (Nat.le_refl _) _
    have q9 : Blk W9 (T + 1) (cells2 Xs (conX kk f1 ⟨a1,n1,m1⟩ f2 ⟨a2,n2,m2⟩ ii)) 49:=by
     have := Blk.new W8 (cells2 Xs (conX kk f1 ⟨a1,n1,m1⟩ f2 ⟨a2,n2,m2⟩ ii)) 49
     rwa [hW9,s8] at this
    have s9 : W9.heap.size = T + 2:=by rw [<- hW9,World.size_alloc,s8]
    have hop:=gop_any 14 ⟨some ⟨T + 1,0,none⟩,2,2⟩ W9
    have HW9:=Lib.hid hW9
    dsimp only [cells2,conX] at HW9
    clear hW9 hm
    go_wp2_with (first
     | (refine wpList_load_mid rfl 49 (.tmp 12) rfl S 0 rfl Xs.cells.toList _ hrs Tryz.underlying49 rfl infoExN ?_)
     | (refine wpList_load_mid rfl 49 (.tmp 14) rfl T 0 rfl (conX kk f1 ⟨a1,n1,m1⟩ f2 ⟨a2,n2,m2⟩ ii).cells.toList _ hrt Tryz.underlying49 rfl infoExN ?_))
    rw [HW9.out]
    refine hop.mono ?_
    rintro e w10 ⟨rfl,hb10⟩
    have q10:=(q8.below b89 (by omega)).below hb10 (by omega)
    have h1o : ∀ u ∈ (opX 14 ⟨some ⟨T + 1,0,none⟩,2,2⟩).cells,u.oneCell' = true:=by simp [Value.oneCell']
    clear hop
    go_wp2_with (refine wpList_store_blk rfl 49 49 (.tmp 4) (.tmp 122) rfl (opX 14 ⟨some ⟨T + 1,0,none⟩,2,2⟩).cells _ B q10 infoExN rfl h1o rfl rfl ?_; intro W11 t1 t2 t3 t4)
    refine bodyPost_ret (results_blk2 rfl _ _ B _ _ t1 rfl Tryz.underlying49 rfl infoExN) rfl ?_
    rw [HTS.out]
    have w89 : NewW (B + 1) W8 W11:=(NewW.of b89).trans ((NewW.of hb10).trans (NewW.put t3 (by omega)))
    have w91 : NewW (B + 1) W9 W11:=(NewW.of hb10).trans (NewW.put t3 (by omega))
    exact ⟨_,_,rfl,(exn_two (w91.blk (by omega) q9) (by omega) (HX8.out.move w89) (HC8.out.move w89)).mono (by omega),((HU8.out.below (K':=K) b89 (by omega) (Nat.le_refl _)).below (K':=K) hb10 (by omega) (Nat.le_refl _)).below (t2 B (Nat.le_refl _)) (by omega) (Nat.le_refl _),HB8.out.trans ((b89.mono (by omega)).trans ((hb10.mono (by omega)).trans (t2 B (Nat.le_refl _))))⟩
   ·have HTS : Hid (Rs = (Gx.mk 14 [] v0 [(conV (wV (kindN k) 0)),(subG k)],[])):=Lib.hid (by rw [HRR.out]; unfold tstG; rw [hk,if_neg (by omega),if_neg (by omega)])
    obtain ⟨W9,hW9⟩ : ∃ W9,W8.alloc (.cells (cells2 (conX kk f1 ⟨a1,n1,m1⟩ f2 ⟨a2,n2,m2⟩ ii) Xs) 49) = W9:=⟨_,rfl⟩
    have b89 : Below W8.heap.size W8 W9:=by rw [<- hW9]; exact (Below.refl _ _).alloc (Nat.le_refl _) _
    have q9 : Blk W9 (T + 1) (cells2 (conX kk f1 ⟨a1,n1,m1⟩ f2 ⟨a2,n2,m2⟩ ii) Xs) 49:=by
     have := Blk.new W8 (cells2 (conX kk f1 ⟨a1,n1,m1⟩ f2 ⟨a2,n2,m2⟩ ii) Xs) 49
     rwa [hW9,s8] at this
    have s9 : W9.heap.size = T + 2:=by rw [<- hW9,World.size_alloc,s8]
    have hop:=gop_any 14 ⟨some ⟨T + 1,0,none⟩,2,2⟩ W9
    have HW9:=Lib.hid hW9
    dsimp only [cells2,conX] at HW9
    clear hW9 hm
    go_wp2_with (first
     | (refine wpList_load_mid rfl 49 (.tmp 14) rfl T 0 rfl (conX kk f1 ⟨a1,n1,m1⟩ f2 ⟨a2,n2,m2⟩ ii).cells.toList _ hrt Tryz.underlying49 rfl infoExN ?_)
     | (refine wpList_load_mid rfl 49 (.tmp 12) rfl S 0 rfl Xs.cells.toList _ hrs Tryz.underlying49 rfl infoExN ?_))
    rw [HW9.out]
    refine hop.mono ?_
    rintro e w10 ⟨rfl,hb10⟩
    have q10:=(q8.below b89 (by omega)).below hb10 (by omega)
    have h1o : ∀ u ∈ (opX 14 ⟨some ⟨T + 1,0,none⟩,2,2⟩).cells,u.oneCell' = true:=by simp [Value.oneCell']
    clear hop
    go_wp2_with (refine wpList_store_blk rfl 49 49 (.tmp 4) (.tmp 127) rfl (opX 14 ⟨some ⟨T + 1,0,none⟩,2,2⟩).cells _ B q10 infoExN rfl h1o rfl rfl ?_; intro W11 t1 t2 t3 t4)
    refine bodyPost_ret (results_blk2 rfl _ _ B _ _ t1 rfl Tryz.underlying49 rfl infoExN) rfl ?_
    rw [HTS.out]
    have w89 : NewW (B + 1) W8 W11:=(NewW.of b89).trans ((NewW.of hb10).trans (NewW.put t3 (by omega)))
    have w91 : NewW (B + 1) W9 W11:=(NewW.of hb10).trans (NewW.put t3 (by omega))
    exact ⟨_,_,rfl,(exn_two (w91.blk (by omega) q9) (by omega) (HC8.out.move w89) (HX8.out.move w89)).mono (by omega),((HU8.out.below (K':=K) b89 (by omega) (Nat.le_refl _)).below (K':=K) hb10 (by omega) (Nat.le_refl _)).below (t2 B (Nat.le_refl _)) (by omega) (Nat.le_refl _),HB8.out.trans ((b89.mono (by omega)).trans ((hb10.mono (by omega)).trans (t2 B (Nat.le_refl _))))⟩
  | cons y r' =>
   obtain ⟨b2,o2,cap2,he,hc3,hc4,hb2K,hcell2,hrest2⟩:=HU4.out.head
   unfold maxLen at hc4
   rw [List.length_cons] at he
   simp only [Value.slice.injEq,true_and] at he
   obtain ⟨rfl,rfl⟩:=he
   have hin2 : (0 : Int) < (r'.length : Int) + 1:=by omega
   have hy : y < 256:=hxr y (List.mem_cons_self ..)
   simp only [List.length_cons]
   obtain ⟨n,hn⟩ : ∃ n,y % 8 = n:=⟨_,rfl⟩
   have hni : (y : Int) % 8 = (n : Int):=by omega
   have hn8 : n < 8:=by omega
   have HRR : Hid (Rs = (tstG x n,r')):=Lib.hid (by rw [<- HLM.out]; unfold leafM; rw [hk,if_neg hkk,<- hn]; rfl)
   have hval : ∀ W : World,Calls Tryz.prog 81 #[.int .u8 (kindN k),.int .i64 n] W fun e w' => ∃ (k' i : Int) (f1 f2 : Bool) (s1 s2 : Sl),e = .returned (⟨k',f1,s1.val,f2,s2.val,i⟩ : Vv).agg /\ VlN W.heap.size w' (wV (kindN k) n) ⟨k',f1,s1.val,f2,s2.val,i⟩ /\ Below W.heap.size W w':=gvalueN_any (kindN k) (kindN_range k) n (by omega)
   have HVAL:=Lib.hid hval
   have HRS:=Lib.hid hrest2
   clear hval hn hrest2 HU4
   go_upto_region 20 with fail
   go_quiet (fail)
   generalize hra2 : (if c1 = 1 then some (⟨b2,o2,none⟩ : Addr) else some ⟨b2,o2 + 1,none⟩) = ra2
   have hrs2:=HRS.out
   rw [hra2] at hrs2
   generalize hWq : w4.drewN _ = Wr
   have HU4' : Hid (U8s K Wr (.slice ra2 r'.length (c1 - 1)) r'):=Lib.hid (by rw [<- hWq]; exact hrs2)
   have HB4' : Hid (Below B w Wr):=Lib.hid (by rw [<- hWq]; exact below_drewN2 HB4.out _)
   have HQ4' : Hid (Blk Wr B xz.cells 49):=Lib.hid (by rw [<- hWq]; exact HQ4.out)
   have HQS4' : Hid (Blk Wr S Xs.cells 49):=Lib.hid (by rw [<- hWq]; exact HQS4.out)
   have HX4' : Hid (ExN (B + 1) Wr (subG k) Xs):=Lib.hid (by rw [<- hWq]; exact HX4.out.move (NewW.of (below_drewN2 (Below.refl _ _) _)))
   have sw4' : S + 1 <= Wr.heap.size:=by rw [<- hWq]; exact sw4
   clear HB4 HQ4 HQS4 HX4 sw4 hWq hrs2 hra2 hs4
   go_upto_region 21 with fail
   have hkf:=gkindof_any k Wr hk256
   go_wp2_with fail
   refine hkf.mono ?_
   rintro e w5 ⟨rfl,hb5⟩
   have hs5:=hb5.size
   go_wp2_with fail
   refine (HVAL.out w5).mono ?_
   rintro e w6 ⟨kk,ii,f1,f2,s1,s2,rfl,hvl,hb6⟩
   have hs6:=hb6.size
   have hcon:=gcon_any kk f1 f2 s1 s2 ii w6
   go_wp2_with fail
   refine hcon.mono ?_
   rintro e w7 ⟨rfl,hb7⟩
   have hs7:=hb7.size
   clear hkf hcon
   have hcn:=exn_con (v:=wV (kindN k) n) (hvl.move (NewW.of hb7))
   obtain ⟨a1,n1,m1⟩:=s1
   obtain ⟨a2,n2,m2⟩:=s2
   have h1c2 : ∀ u ∈ (conX kk f1 ⟨a1,n1,m1⟩ f2 ⟨a2,n2,m2⟩ ii).cells,u.oneCell' = true:=by simp [Value.oneCell']
   go_upto_region 22 with (refine wpList_store_new rfl 49 (.tmp 14) (.tmp 100) rfl (conX kk f1 ⟨a1,n1,m1⟩ f2 ⟨a2,n2,m2⟩ ii).cells _ infoExN rfl h1c2 w7.heap.size rfl rfl rfl ?_)
   obtain ⟨W8,hW8⟩ : ∃ W8,w7.alloc (.cells (conX kk f1 ⟨a1,n1,m1⟩ f2 ⟨a2,n2,m2⟩ ii).cells 49) = W8:=⟨_,rfl⟩
   obtain ⟨T,hT⟩ : ∃ T,w7.heap.size = T:=⟨_,rfl⟩
   have b78 : Below w7.heap.size w7 W8:=by rw [<- hW8]; exact (Below.refl _ _).alloc (Nat.le_refl _) _
   have b48 : Below Wr.heap.size Wr W8:=hb5.trans ((hb6.mono (by omega)).trans ((hb7.mono (by omega)).trans (b78.mono (by omega))))
   have q8:=HQ4'.out.below b48 (by omega)
   have qs8:=HQS4'.out.below b48 (by omega)
   have qt8 : Blk W8 T (conX kk f1 ⟨a1,n1,m1⟩ f2 ⟨a2,n2,m2⟩ ii).cells 49:=by rw [<- hW8,<- hT]; exact Blk.new w7 _ _
   have HU8:=Lib.hid (HU4'.out.below (K':=K) b48 (by omega) (Nat.le_refl _))
   have HB8:=Lib.hid (HB4'.out.trans (b48.mono (by omega)))
   have HX8:=Lib.hid (HX4'.out.move (NewW.of b48))
   have HC8:=Lib.hid ((hcn.move (NewW.of b78)).mono (by omega : B + 1 <= w5.heap.size))
   have s8 : W8.heap.size = T + 1:=by rw [<- hW8,<- hT]; simp
   have sT : S + 1 <= T:=by omega
   have HW8:=Lib.hid hW8
   have HT:=Lib.hid hT
   simp only [HT.out]
   rw [HW8.out]
   clear hvl hcn hb5 hb6 hb7 b78 b48 HU4' HB4' HX4' HQ4' HQS4' hW8 hT hs5 hs6 hs7
   have hrs:=qs8.range
   have hrt:=qt8.range
   obtain ⟨m,hm⟩ : ∃ m,x % 4 = m:=⟨_,rfl⟩
   have hmi : (x : Int) % 4 = (m : Int):=by omega
   have hm4 : m = 0 \/ m = 1 \/ m = 2 \/ m = 3:=by omega
   rcases hm4 with rfl | rfl | rfl | rfl
   ·have HTS : Hid (Rs = (Gx.mk 13 [] v0 [(subG k),(conV (wV (kindN k) n))],r')):=Lib.hid (by rw [HRR.out]; unfold tstG; rw [hk,if_pos (by omega),if_pos (by omega)])
    obtain ⟨W9,hW9⟩ : ∃ W9,W8.alloc (.cells (cells2 Xs (conX kk f1 ⟨a1,n1,m1⟩ f2 ⟨a2,n2,m2⟩ ii)) 49) = W9:=⟨_,rfl⟩
    have b89 : Below W8.heap.size W8 W9:=by rw [<- hW9]; exact (Below.refl _ _).alloc (Nat.le_refl _) _
    have q9 : Blk W9 (T + 1) (cells2 Xs (conX kk f1 ⟨a1,n1,m1⟩ f2 ⟨a2,n2,m2⟩ ii)) 49:=by
     have := Blk.new W8 (cells2 Xs (conX kk f1 ⟨a1,n1,m1⟩ f2 ⟨a2,n2,m2⟩ ii)) 49
     rwa [hW9,s8] at this
    have s9 : W9.heap.size = T + 2:=by rw [<- hW9,World.size_alloc,s8]
    have hop:=gop_any 13 ⟨some ⟨T + 1,0,none⟩,2,2⟩ W9
    have HW9:=Lib.hid hW9
    dsimp only [cells2,conX] at HW9
    clear hW9 hm
    go_wp2_with (first
     | (refine wpList_load_mid rfl 49 (.tmp 12) rfl S 0 rfl Xs.cells.toList _ hrs Tryz.underlying49 rfl infoExN ?_)
     | (refine wpList_load_mid rfl 49 (.tmp 14) rfl T 0 rfl (conX kk f1 ⟨a1,n1,m1⟩ f2 ⟨a2,n2,m2⟩ ii).cells.toList _ hrt Tryz.underlying49 rfl infoExN ?_))
    rw [HW9.out]
    refine hop.mono ?_
    rintro e w10 ⟨rfl,hb10⟩
    have q10:=(q8.below b89 (by omega)).below hb10 (by omega)
    have h1o : ∀ u ∈ (opX 13 ⟨some ⟨T + 1,0,none⟩,2,2⟩).cells,u.oneCell' = true:=by simp [Value.oneCell']
    clear hop
    go_wp2_with (refine wpList_store_blk rfl 49 49 (.tmp 4) (.tmp 108) rfl (opX 13 ⟨some ⟨T + 1,0,none⟩,2,2⟩).cells _ B q10 infoExN rfl h1o rfl rfl ?_; intro W11 t1 t2 t3 t4)
    refine bodyPost_ret (results_blk2 rfl _ _ B _ _ t1 rfl Tryz.underlying49 rfl infoExN) rfl ?_
    rw [HTS.out]
    have w89 : NewW (B + 1) W8 W11:=(NewW.of b89).trans ((NewW.of hb10).trans (NewW.put t3 (by omega)))
    have w91 : NewW (B + 1) W9 W11:=(NewW.of hb10).trans (NewW.put t3 (by omega))
    exact ⟨_,_,rfl,(exn_two (w91.blk (by omega) q9) (by omega) (HX8.out.move w89) (HC8.out.move w89)).mono (by omega),((HU8.out.below (K':=K) b89 (by omega) (Nat.le_refl _)).below (K':=K) hb10 (by omega) (Nat.le_refl _)).below (t2 B (Nat.le_refl _)) (by omega) (Nat.le_refl _),HB8.out.trans ((b89.mono (by omega)).trans ((hb10.mono (by omega)).trans (t2 B (Nat.le_refl _))))⟩
   ·have HTS : Hid (Rs = (Gx.mk 13 [] v0 [(conV (wV (kindN k) n)),(subG k)],r')):=Lib.hid (by rw [HRR.out]; unfold tstG; rw [hk,if_pos (by omega),if_neg (by omega)])
    obtain ⟨W9,hW9⟩ : ∃ W9,W8.alloc (.cells (cells2 (conX kk f1 ⟨a1,n1,m1⟩ f2 ⟨a2,n2,m2⟩ ii) Xs) 49) = W9:=⟨_,rfl⟩
    have b89 : Below W8.heap.size W8 W9:=by rw [<- hW9]; exact (Below.refl _ _).alloc (Nat.le_refl _) _
    have q9 : Blk W9 (T + 1) (cells2 (conX kk f1 ⟨a1,n1,m1⟩ f2 ⟨a2,n2,m2⟩ ii) Xs) 49:=by
     have := Blk.new W8 (cells2 (conX kk f1 ⟨a1,n1,m1⟩ f2 ⟨a2,n2,m2⟩ ii) Xs) 49
     rwa [hW9,s8] at this
    have s9 : W9.heap.size = T + 2:=by rw [<- hW9,World.size_alloc,s8]
    have hop:=gop_any 13 ⟨some ⟨T + 1,0,none⟩,2,2⟩ W9
    have HW9:=Lib.hid hW9
    dsimp only [cells2,conX] at HW9
    clear hW9 hm
    go_wp2_with (first
     | (refine wpList_load_mid rfl 49 (.tmp 14) rfl T 0 rfl (conX kk f1 ⟨a1,n1,m1⟩ f2 ⟨a2,n2,m2⟩ ii).cells.toList _ hrt Tryz.underlying49 rfl infoExN ?_)
     | (refine wpList_load_mid rfl 49 (.tmp 12) rfl S 0 rfl Xs.cells.toList _ hrs Tryz.underlying49 rfl infoExN ?_))
    rw [HW9.out]
    refine hop.mono ?_
    rintro e w10 ⟨rfl,hb10⟩
    have q10:=(q8.below b89 (by omega)).below hb10 (by omega)
    have h1o : ∀ u ∈ (opX 13 ⟨some ⟨T + 1,0,none⟩,2,2⟩).cells,u.oneCell' = true:=by simp [Value.oneCell']
    clear hop
    go_wp2_with (refine wpList_store_blk rfl 49 49 (.tmp 4) (.tmp 115) rfl (opX 13 ⟨some ⟨T + 1,0,none⟩,2,2⟩).cells _ B q10 infoExN rfl h1o rfl rfl ?_; intro W11 t1 t2 t3 t4)
    refine bodyPost_ret (results_blk2 rfl _ _ B _ _ t1 rfl Tryz.underlying49 rfl infoExN) rfl ?_
    rw [HTS.out]
    have w89 : NewW (B + 1) W8 W11:=(NewW.of b89).trans ((NewW.of hb10).trans (NewW.put t3 (by omega)))
    have w91 : NewW (B + 1) W9 W11:=(NewW.of hb10).trans (NewW.put t3 (by omega))
    exact ⟨_,_,rfl,(exn_two (w91.blk (by omega) q9) (by omega) (HC8.out.move w89) (HX8.out.move w89)).mono (by omega),((HU8.out.below (K':=K) b89 (by omega) (Nat.le_refl _)).below (K':=K) hb10 (by omega) (Nat.le_refl _)).below (t2 B (Nat.le_refl _)) (by omega) (Nat.le_refl _),HB8.out.trans ((b89.mono (by omega)).trans ((hb10.mono (by omega)).trans (t2 B (Nat.le_refl _))))⟩
   ·have HTS : Hid (Rs = (Gx.mk 14 [] v0 [(subG k),(conV (wV (kindN k) n))],r')):=Lib.hid (by rw [HRR.out]; unfold tstG; rw [hk,if_neg (by omega),if_pos (by omega)])
    obtain ⟨W9,hW9⟩ : ∃ W9,W8.alloc (.cells (cells2 Xs (conX kk f1 ⟨a1,n1,m1⟩ f2 ⟨a2,n2,m2⟩ ii)) 49) = W9:=⟨_,rfl⟩
    have b89 : Below W8.heap.size W8 W9:=by rw [<- hW9]; exact (Below.refl _ _).alloc (Nat.le_refl _) _
    have q9 : Blk W9 (T + 1) (cells2 Xs (conX kk f1 ⟨a1,n1,m1⟩ f2 ⟨a2,n2,m2⟩ ii)) 49:=by
     have := Blk.new W8 (cells2 Xs (conX kk f1 ⟨a1,n1,m1⟩ f2 ⟨a2,n2,m2⟩ ii)) 49
     rwa [hW9,s8] at this
    have s9 : W9.heap.size = T + 2:=by rw [<- hW9,World.size_alloc,s8]
    have hop:=gop_any 14 ⟨some ⟨T + 1,0,none⟩,2,2⟩ W9
    have HW9:=Lib.hid hW9
    dsimp only [cells2,conX] at HW9
    clear hW9 hm
    go_wp2_with (first
     | (refine wpList_load_mid rfl 49 (.tmp 12) rfl S 0 rfl Xs.cells.toList _ hrs Tryz.underlying49 rfl infoExN ?_)
     | (refine wpList_load_mid rfl 49 (.tmp 14) rfl T 0 rfl (conX kk f1 ⟨a1,n1,m1⟩ f2 ⟨a2,n2,m2⟩ ii).cells.toList _ hrt Tryz.underlying49 rfl infoExN ?_))
    rw [HW9.out]
    refine hop.mono ?_
    rintro e w10 ⟨rfl,hb10⟩
    have q10:=(q8.below b89 (by omega)).below hb10 (by omega)
    have h1o : ∀ u ∈ (opX 14 ⟨some ⟨T + 1,0,none⟩,2,2⟩).cells,u.oneCell' = true:=by simp [Value.oneCell']
    clear hop
    go_wp2_with (refine wpList_store_blk rfl 49 49 (.tmp 4) (.tmp 122) rfl (opX 14 ⟨some ⟨T + 1,0,none⟩,2,2⟩).cells _ B q10 infoExN rfl h1o rfl rfl ?_; intro W11 t1 t2 t3 t4)
    refine bodyPost_ret (results_blk2 rfl _ _ B _ _ t1 rfl Tryz.underlying49 rfl infoExN) rfl ?_
    rw [HTS.out]
    have w89 : NewW (B + 1) W8 W11:=(NewW.of b89).trans ((NewW.of hb10).trans (NewW.put t3 (by omega)))
    have w91 : NewW (B + 1) W9 W11:=(NewW.of hb10).trans (NewW.put t3 (by omega))
    exact ⟨_,_,rfl,(exn_two (w91.blk (by omega) q9) (by omega) (HX8.out.move w89) (HC8.out.move w89)).mono (by omega),((HU8.out.below (K':=K) b89 (by omega) (Nat.le_refl _)).below (K':=K) hb10 (by omega) (Nat.le_refl _)).below (t2 B (Nat.le_refl _)) (by omega) (Nat.le_refl _),HB8.out.trans ((b89.mono (by omega)).trans ((hb10.mono (by omega)).trans (t2 B (Nat.le_refl _))))⟩
   ·have HTS : Hid (Rs = (Gx.mk 14 [] v0 [(conV (wV (kindN k) n)),(subG k)],r')):=Lib.hid (by rw [HRR.out]; unfold tstG; rw [hk,if_neg (by omega),if_neg (by omega)])
    obtain ⟨W9,hW9⟩ : ∃ W9,W8.alloc (.cells (cells2 (conX kk f1 ⟨a1,n1,m1⟩ f2 ⟨a2,n2,m2⟩ ii) Xs) 49) = W9:=⟨_,rfl⟩
    have b89 : Below W8.heap.size W8 W9:=by rw [<- hW9]; exact (Below.refl _ _).alloc (Nat.le_refl _) _
    have q9 : Blk W9 (T + 1) (cells2 (conX kk f1 ⟨a1,n1,m1⟩ f2 ⟨a2,n2,m2⟩ ii) Xs) 49:=by
     have := Blk.new W8 (cells2 (conX kk f1 ⟨a1,n1,m1⟩ f2 ⟨a2,n2,m2⟩ ii) Xs) 49
     rwa [hW9,s8] at this
    have s9 : W9.heap.size = T + 2:=by rw [<- hW9,World.size_alloc,s8]
    have hop:=gop_any 14 ⟨some ⟨T + 1,0,none⟩,2,2⟩ W9
    have HW9:=Lib.hid hW9
    dsimp only [cells2,conX] at HW9
    clear hW9 hm
    go_wp2_with (first
     | (refine wpList_load_mid rfl 49 (.tmp 14) rfl T 0 rfl (conX kk f1 ⟨a1,n1,m1⟩ f2 ⟨a2,n2,m2⟩ ii).cells.toList _ hrt Tryz.underlying49 rfl infoExN ?_)
     | (refine wpList_load_mid rfl 49 (.tmp 12) rfl S 0 rfl Xs.cells.toList _ hrs Tryz.underlying49 rfl infoExN ?_))
    rw [HW9.out]
    refine hop.mono ?_
    rintro e w10 ⟨rfl,hb10⟩
    have q10:=(q8.below b89 (by omega)).below hb10 (by omega)
    have h1o : ∀ u ∈ (opX 14 ⟨some ⟨T + 1,0,none⟩,2,2⟩).cells,u.oneCell' = true:=by simp [Value.oneCell']
    clear hop
    go_wp2_with (refine wpList_store_blk rfl 49 49 (.tmp 4) (.tmp 127) rfl (opX 14 ⟨some ⟨T + 1,0,none⟩,2,2⟩).cells _ B q10 infoExN rfl h1o rfl rfl ?_; intro W11 t1 t2 t3 t4)
    refine bodyPost_ret (results_blk2 rfl _ _ B _ _ t1 rfl Tryz.underlying49 rfl infoExN) rfl ?_
    rw [HTS.out]
    have w89 : NewW (B + 1) W8 W11:=(NewW.of b89).trans ((NewW.of hb10).trans (NewW.put t3 (by omega)))
    have w91 : NewW (B + 1) W9 W11:=(NewW.of hb10).trans (NewW.put t3 (by omega))
    exact ⟨_,_,rfl,(exn_two (w91.blk (by omega) q9) (by omega) (HC8.out.move w89) (HX8.out.move w89)).mono (by omega),((HU8.out.below (K':=K) b89 (by omega) (Nat.le_refl _)).below (K':=K) hb10 (by omega) (Nat.le_refl _)).below (t2 B (Nat.le_refl _)) (by omega) (Nat.le_refl _),HB8.out.trans ((b89.mono (by omega)).trans ((hb10.mono (by omega)).trans (t2 B (Nat.le_refl _))))⟩
end Go.Proofs.YtlidpghnlloinaaGreatDoor
