/- Contracts and plain laws, several texts in one (GWQ, GlSa). No conditions beyond those stated. -/
import Derived.Deep.Quiet
import Derived.Test.YtlldjmagbjjeoaaGreatPk38
set_option maxRecDepth 100000
set_option maxHeartbeats 40000000
namespace Go.Proofs.YtlldjmagbjjeoaaGreat
open Go.RowKit
set_option linter.unusedVariables false
structure WQ (P : Program) (ops : Array Oper) (C : World -> Prop) (Q : Act -> Prop) (l : List Oper) (a : Act) : Prop where
 out : wpQuiet P ops C Q l a
theorem WQ.take {P : Program} {ops : Array Oper} {C : World -> Prop} {Q : Act -> Prop} {o : Oper} {rest : List Oper} {a : Act} (v : Value) (hy : YieldsIn P ops C o v a) (h : WQ P ops C Q rest (a.put o.dst v)) : WQ P ops C Q (o :: rest) a:=by
 refine ⟨wpQuiet_step (fun K hK => ?_)⟩
 rcases hy with ⟨hw,hv⟩ | ⟨hw,rfl⟩
 ·rw [if_pos hw]; exact ⟨v,hv,hK _ h.out⟩
 ·rw [if_neg (by rw [hw]; simp)]; exact hK _ h.out
theorem WQ.nil {P : Program} {ops : Array Oper} {C : World -> Prop} {Q : Act -> Prop} {a : Act} (h : Q a) : WQ P ops C Q [] a:=⟨wpQuiet_nil h⟩
theorem region_WQ {P : Program} {ops : Array Oper} {id : Nat} {Q : Exit -> Act -> World -> Prop} {a : Act} {w : World} (C : World -> Prop) (hm : P.follows .mixedOrders = true) (hB : Region.lexB .any ops = true) (hC : C { w with drawn:=w.drawn + 1 })
  (h : WQ P ops C (fun a' => ∀ w',C w' -> Q .normal a' w') ops.toList a) : (Code.region id ops true).wp P Q a w:=wp_region_quiet hm hB hC h.out
theorem yieldsIn_of_if {P : Program} {ops : Array Oper} {C : World -> Prop} {o : Oper} {v : Value} {a : Act} (h : YieldsIf P ops C o v a) : YieldsIn P ops C o v a :=
 h.imp (fun ⟨hw,hv⟩ => ⟨hw,fun w hC => by unfold Oper.quietAt; rw [hv w hC]; first | exact ⟨rfl,rfl⟩ | exact ⟨rfl,hC⟩⟩) id
theorem Sv.cells_at (y : Sv) {j : Nat} (hj : j < 11) : y.cells[j]? = some (y.cell j):=by
 match j,hj with
 | 0,_ => rfl
 | 1,_ => rfl
 | 2,_ => rfl
 | 3,_ => rfl
 | 4,_ => rfl
 | 5,_ => rfl
 | 6,_ => rfl
 | 7,_ => rfl
 | 8,_ => rfl
 | 9,_ => rfl
 | 10,_ => rfl
theorem scs_one {K T : Nat} {w : World} {y : Sv} {s : Sc} (q : Blk w T y.cells 34) (h : ScX K w s y) (hT : T < K) : ScsX K w (.slice (some ⟨T,0,none⟩) 1 1) [s] :=
 ⟨fun _ => y,RowsV.mk_cells (Nat.le_refl _) (by decide) hT fun i hi j hj => by
  obtain rfl : i = 0:=by simp at hi; omega
  rw [Nat.zero_mul,Nat.zero_add,Nat.zero_add]
  exact q.at (y.cells_at hj),fun i hi => by
  obtain rfl : i = 0:=by simp at hi; omega
  exact h⟩
theorem few_one {s : Sc} (h : fewS [s] = true) : s.cuts.length <= 40 /\ ∀ c ∈ s.cuts,lightV c = true:=by
 unfold fewS fewC at h
 simp only [List.all_cons,List.all_nil,Bool.and_true,Bool.and_eq_true,decide_eq_true_eq,List.all_eq_true] at h
 exact ⟨h.2.1.1,h.2.2⟩
theorem light_good {v : Vq} (h : lightV v = true) : v.good = true /\ v.lim 8:=by
 unfold lightV at h
 simp only [Bool.and_eq_true,decide_eq_true_eq] at h
 refine ⟨?_,h⟩
 unfold Vq.good
 rw [decide_eq_true (show v.l1.length <= 64 by omega),decide_eq_true (show v.l2.length <= 64 by omega)]
 rfl
theorem glsamples_any (K : Nat) (s : Sc) (y : Sv) (v : Vq) (x : Vv) (c : Int) (w : World) (hs : ScX K w s y) (hv : VlX K w v x) (hK : K <= w.heap.size) :
  Calls Tryz.prog 3 #[y.agg,x.agg,.int .i64 c] w fun e w' => e = .returned (.bool true) /\ Below w.heap.size w w':=by
 obtain ⟨W1,hW1⟩ : ∃ W1,(w.alloc (.cells y.cells 34)).alloc (.cells x.cells 28) = W1:=⟨_,rfl⟩
 have b1 : Below w.heap.size w W1:=by rw [<- hW1]; exact ((Below.refl _ _).alloc (Nat.le_refl _) _).alloc (by simp) _
 have q1 : Blk W1 w.heap.size y.cells 34:=by rw [<- hW1]; exact (Blk.new w _ _).alloc _
 have q2 : Blk W1 (w.heap.size + 1) x.cells 28:=by
  rw [<- hW1]
  have := Blk.new (w.alloc (.cells y.cells 34)) x.cells 28
  rwa [World.size_alloc] at this
 have s1 : W1.heap.size = w.heap.size + 2:=by rw [<- hW1]; simp
 obtain ⟨B,hB⟩ : ∃ B,w.heap.size = B:=⟨_,rfl⟩
 have HB:=Lib.hid hB
 have HW:=Lib.hid hW1
 rw [hB] at hK b1 q1 q2 s1 ⊢
 obtain ⟨n1,hn1⟩ : ∃ n,v.l1.length = n:=⟨_,rfl⟩
 obtain ⟨n2,hn2⟩ : ∃ n,v.l2.length = n:=⟨_,rfl⟩
 obtain ⟨a1,c1,e1,_⟩:=hv.n.form
 obtain ⟨a2,c2,e2,_⟩:=hv.d.form
 rw [hn1] at e1
 rw [hn2] at e2
 have HS:=Lib.hid hs
 have HV:=Lib.hid hv
 have HQ1:=Lib.hid q1
 have HQ2:=Lib.hid q2
 have HB1:=Lib.hid b1
 have S1:=Lib.hid s1
 clear hn1 hn2 hs hv q1 q2 b1 s1 hW1 hB
 obtain ⟨y',hy'⟩ : ∃ y',y' = y:=⟨_,rfl⟩
 rw [<- hy'] at HS HQ1
 obtain ⟨⟨yop,ynm,yk,yb3,⟨y4,y4n,y4m⟩,yb5,⟨y6,y6n,y6m⟩,yi7,⟨y8,y8n,y8m⟩⟩,sk,⟨ca,cn,cm⟩⟩:=y
 obtain ⟨xk,f1,xs1,f2,xs2,xi⟩:=x
 dsimp only at e1 e2
 subst e1 e2
 dsimp only [Sv.cells,Vv.cells] at HW
 go_enter Tryz.func3,Tryz.ntmps3
 go_upto_region 1 with fail
 simp only [HB.out]
 rw [HW.out]
 clear hy' HW
 obtain ⟨y,rfl⟩ : ∃ y,y = y':=⟨_,rfl⟩
 have h1c : ∀ u ∈ y.cells,u.oneCell' = true:=by simp [Value.oneCell']
 have H1C:=Lib.hid h1c
 have hr1 : W1.rangeAt B 0 y.cells.toList:=HQ1.out.range
 obtain ⟨d0,d1,d2,d3,d4,d5⟩:=HQ2.out.six
 clear h1c
 go_wp2_with (refine wpList_load_mid rfl 34 (.tmp 3) rfl B 0 rfl y.cells.toList _ hr1 Tryz.underlying34 rfl infoScaleN ?_)
 generalize hW2 : World.alloc W1 _ = W2
 have b2 : Below W1.heap.size W1 W2:=by rw [<- hW2]; exact (Below.refl _ _).alloc (Nat.le_refl _) _
 have q3 : Blk W2 W1.heap.size y.cells 34:=by rw [<- hW2]; exact Blk.new W1 _ _
 have s2 : W2.heap.size = W1.heap.size + 1:=by rw [<- hW2]; simp
 have hs2 : B + 2 <= W2.heap.size:=by have := S1.out; omega
 have b12 : Below B w W2:=HB1.out.trans (b2.mono (by have := S1.out; omega))
 have hfew:=few_any W2.heap.size (.slice (some ⟨W1.heap.size,0,none⟩) 1 1) [s] W2 (scs_one q3 (HS.out.below b12 hK (by omega)) (by omega)) (Nat.le_refl _)
 have HF:=Lib.hid hfew
 obtain ⟨fw,hfw⟩ : ∃ b,fewS [s] = b:=⟨_,rfl⟩
 rw [hfw] at HF
 clear hfew q3 hW2
 refine HF.out.mono ?_
 rintro e w3 ⟨rfl,hb3⟩
 have b3 : Below W1.heap.size W1 w3:=b2.trans (hb3.mono (by omega))
 have B3 : Hid (Below B w w3):=Lib.hid (b12.trans (hb3.mono (by omega)))
 have hs3 : B + 2 <= w3.heap.size:=by have := hb3.size; omega
 replace d0:=(b3.cell (p:=⟨B + 1,0,none⟩) (by have := S1.out; show B + 1 < _; omega)).trans d0
 replace d1:=(b3.cell (p:=⟨B + 1,1,none⟩) (by have := S1.out; show B + 1 < _; omega)).trans d1
 replace d2:=(b3.cell (p:=⟨B + 1,2,none⟩) (by have := S1.out; show B + 1 < _; omega)).trans d2
 replace d3:=(b3.cell (p:=⟨B + 1,3,none⟩) (by have := S1.out; show B + 1 < _; omega)).trans d3
 replace d4:=(b3.cell (p:=⟨B + 1,4,none⟩) (by have := S1.out; show B + 1 < _; omega)).trans d4
 replace d5:=(b3.cell (p:=⟨B + 1,5,none⟩) (by have := S1.out; show B + 1 < _; omega)).trans d5
 have BW3:=Lib.hid b3
 have haw : Hid (∀ W,Below w3.heap.size w3 W -> Calls Tryz.prog 6 #[] W fun e w' => e = .returned (.bool true) /\ Below W.heap.size W w'):=Lib.hid fun W _ => glawake_any W
 have hli:=light_any w3.heap.size v ⟨xk,f1,.slice a1 n1 c1,f2,.slice a2 n2 c2,xi⟩ w3 (HV.out.below B3.out hK (by omega))
 obtain ⟨lt,hlt⟩ : ∃ b,lightV v = b:=⟨_,rfl⟩
 rw [hlt] at hli
 have HLI:=Lib.hid hli
 clear HF hb3 b3 b2 b12 hli s2
 cases fw with
 | false =>
  go_wp2_with fail
  refine (haw.out w3 (Below.refl _ _)).mono ?_
  rintro e w4 ⟨rfl,hb4⟩
  have B4:=B3.out.trans (hb4.mono (by omega))
  clear hb4
  go_wp2_with fail
  go_ret
  exact ⟨rfl,B4⟩
 | true =>
 go_wp2_with fail
 refine HLI.out.mono ?_
 rintro e w4 ⟨rfl,hb4⟩
 have B4 : Hid (Below B w w4):=Lib.hid (B3.out.trans (hb4.mono (by omega)))
 have BW4 : Hid (Below W1.heap.size W1 w4):=Lib.hid (BW3.out.trans (hb4.mono BW3.out.size))
 have hs4 : B + 2 <= w4.heap.size:=by have := hb4.size; omega
 have haw4 : Hid (Calls Tryz.prog 6 #[] w4 fun e w' => e = .returned (.bool true) /\ Below w4.heap.size w4 w'):=Lib.hid (glawake_any w4)
 clear hb4 haw HLI B3 BW3 d0 d1 d2 d3 d4 d5 hr1
 cases lt with
 | false =>
  go_wp2_with fail
  refine haw4.out.mono ?_
  rintro e w5 ⟨rfl,hb5⟩
  have B5:=B4.out.trans (hb5.mono (by omega))
  clear hb5
  go_wp2_with fail
  go_ret
  exact ⟨rfl,B5⟩
 | true =>
 clear haw4
 obtain ⟨hcn,hcl⟩:=few_one hfw
 have hgo : ∀ c ∈ s.cuts,c.good = true:=fun c hc => (light_good (hcl c hc)).1
 have hvg : v.good = true:=(light_good hlt).1
 have hbig : s.cuts.length <= 2 ^ 38:=by omega
 have hdig:=HS.out.cuts.dig
 have HFINE : Hid (s.okB = true -> CutsFine s 8):=Lib.hid fun h => ⟨h,hgo,hdig,fun c hc => (light_good (hcl c hc)).2⟩
 have HGO:=Lib.hid hgo
 have HVG:=Lib.hid hvg
 have HBIG:=Lib.hid hbig
 clear hcn hcl hgo hvg hbig hdig hfw hlt
 have HSW : Hid (∀ W,Below W1.heap.size W1 W -> ScX W.heap.size W s y):=Lib.hid fun W hb => HS.out.below (HB1.out.trans (hb.mono (by have := S1.out; omega))) hK (by have := hb.size; have := S1.out; omega)
 have HVW : Hid (∀ W,Below W1.heap.size W1 W -> VlX W.heap.size W v ⟨xk,f1,.slice a1 n1 c1,f2,.slice a2 n2 c2,xi⟩):=Lib.hid fun W hb => HV.out.below (HB1.out.trans (hb.mono (by have := S1.out; omega))) hK (by have := hb.size; have := S1.out; omega)
 have HRW : Hid (∀ W,Below W1.heap.size W1 W -> W.rangeAt B 0 y.cells.toList):=Lib.hid fun W hb => (HQ1.out.below hb HQ1.out.lt).range
 have hce:=gcells_any w4.heap.size s y w4 (HSW.out w4 BW4.out) (Nat.le_refl _) HGO.out HBIG.out
 have HCE:=Lib.hid hce
 have hr4:=HRW.out w4 BW4.out
 clear hce
 go_wp2_with (refine wpList_load_mid rfl 34 (.tmp 3) rfl B 0 rfl y.cells.toList _ hr4 Tryz.underlying34 rfl infoScaleN ?_)
 refine HCE.out.mono ?_
 rintro e w5 ⟨lv,rfl,hlv,hb5⟩
 obtain ⟨L,hL⟩ : ∃ L,cellsS s = L:=⟨_,rfl⟩
 rw [hL] at hlv
 have HL:=Lib.hid hL
 obtain ⟨la,lc,rfl,hlc,hlm⟩:=hlv.form
 have hlm : L.length <= maxLen:=Nat.le_trans hlc hlm
 clear hlc
 unfold maxLen at hlm
 obtain ⟨n,hn⟩ : ∃ n,L.length = n:=⟨_,rfl⟩
 have HN:=Lib.hid hn
 rw [hn] at hlv hlm ⊢
 have hlv5:=hlv.nats
 have B5 : Hid (Below B w w5):=Lib.hid (B4.out.trans (hb5.mono (by omega)))
 have BW5 : Hid (Below W1.heap.size W1 w5):=Lib.hid (BW4.out.trans (hb5.mono BW4.out.size))
 have hs5 : B + 2 <= w5.heap.size:=by have := hb5.size; omega
 obtain ⟨C,hC⟩ : ∃ C,w5.heap.size = C:=⟨_,rfl⟩
 obtain ⟨W6,hW6⟩ : ∃ W,w5.alloc (.cells #[.slice la n lc] 39) = W:=⟨_,rfl⟩
 have b6 : Below C w5 W6:=by rw [<- hW6,<- hC]; exact (Below.refl _ _).alloc (Nat.le_refl _) _
 have q6 : Blk W6 C #[.slice la n lc] 39:=by rw [<- hW6,<- hC]; exact Blk.new w5 _ _
 have s6 : W6.heap.size = C + 1:=by rw [<- hW6,<- hC]; simp
 rw [hC] at hlv5 hs5
 have HLV:=Lib.hid (hlv5.below b6 (Nat.le_refl _) (show C <= W6.heap.size by omega))
 have B6 : Hid (Below B w W6):=Lib.hid (B5.out.trans (b6.mono (by omega)))
 have BW6 : Hid (Below W1.heap.size W1 W6):=Lib.hid (BW5.out.trans (b6.mono (by have := BW5.out.size; omega)))
 have HW6:=Lib.hid hW6
 have HC:=Lib.hid hC
 have HQ6:=Lib.hid q6
 have S6:=Lib.hid s6
 have hCB : B + 2 <= C:=hs5
 clear hlv hb5 hL hn hlv5 HCE hr4 hW6 hC b6 q6 s6 B4 BW4 B5 BW5 hs4 hs3 hs2
 go_upto_region 5 with fail
 simp only [HC.out]
 rw [HW6.out]
 have g0 : W6.cell? ⟨C,0,none⟩ = some (.slice la n lc):=HQ6.out.at rfl
 go_wp2_with fail
 clear g0
 go_loopw [34] (fun iv wr => ∃ i : Nat,i <= n /\ iv = .int .i64 i /\ Hid (Below W6.heap.size W6 wr)) (fun iv _ => n - (intOf iv).toNat)
 case atStart => exact ⟨0,Nat.zero_le _,rfl,Lib.hid (Below.refl _ _)⟩
 case round =>
  obtain ⟨i,hi,rfl,HBR⟩:=hrel
  obtain ⟨wo,rfl⟩ : ∃ wo : World,wo = wr:=⟨_,rfl⟩
  have hso : C + 1 <= wo.heap.size:=by have := HBR.out.size; have := S6.out; omega
  have BWo : Hid (Below W1.heap.size W1 wo):=Lib.hid (BW6.out.trans (HBR.out.mono BW6.out.size))
  have Bo : Hid (Below B w wo):=Lib.hid (B6.out.trans (HBR.out.mono (by have := S6.out; omega)))
  have g0 : wo.cell? ⟨C,0,none⟩ = some (.slice la n lc):=(HBR.out.cell (p:=⟨C,0,none⟩) (by have := S6.out; show C < _; omega)).trans (HQ6.out.at rfl)
  have hro:=HRW.out wo BWo.out
  by_cases hlt : i < n
  ·obtain ⟨b,o,cap,he,_,_,hbK,hc⟩:=HLV.out.pos (by rw [HN.out]; omega)
   rw [HN.out] at he
   simp only [Value.slice.injEq,true_and] at he
   obtain ⟨rfl,rfl⟩:=he
   have hca : ∀ (k p : Nat),L[k]? = some p -> wo.cell? ⟨b,o + k,none⟩ = some (.int .i64 (p : Int)):=fun k p hp => by
    have := hc k (List.getElem?_eq_some_iff.1 hp).1
    rw [hp,Option.getD_some] at this
    exact (HBR.out.cell (p:=⟨b,o + k,none⟩) hbK).trans this
   obtain ⟨p,hp⟩ : ∃ p,L[i]? = some p:=⟨_,List.getElem?_eq_getElem (by rw [HN.out]; exact hlt)⟩
   have hc0:=hca i p hp
   have hmem : p ∈ cellsS s:=by rw [HL.out]; exact List.mem_of_getElem? hp
   obtain ⟨hok,hpo⟩:=cells_mem.1 hmem
   have hsmp:=gsampleX_any wo.heap.size s y p wo (HSW.out wo BWo.out) (Nat.le_refl _) 8 (HFINE.out hok) (by decide) hpo
   obtain ⟨hcs,hsg⟩:=smp_cell (HFINE.out hok) (by decide) hpo
   obtain ⟨sv,hsv⟩ : ∃ z,smpV s p = z:=⟨_,rfl⟩
   rw [hsv] at hsmp hcs hsg
   have HPREV : Hid (∀ k,i = k + 1 -> ∃ p0 : Nat,p0 < p /\ wo.cell? ⟨b,o + k,none⟩ = some (.int .i64 (p0 : Int))):=Lib.hid fun k hk => by
    obtain ⟨p0,hp0⟩ : ∃ q,L[k]? = some q:=⟨_,List.getElem?_eq_getElem (by rw [HN.out]; omega)⟩
    refine ⟨p0,?_,hca k p0 hp0⟩
    have hinc:=cells_inc s
    rw [HL.out] at hinc
    have h1:=List.getElem?_eq_some_iff.1 hp0
    have h2:=List.getElem?_eq_some_iff.1 hp
    obtain ⟨l1,e1⟩:=h1
    obtain ⟨l2,e2⟩:=h2
    rw [<- e1,<- e2]
    exact List.pairwise_iff_getElem.1 hinc k i l1 l2 (by omega)
   have HSMP:=Lib.hid hsmp
   have HCS:=Lib.hid hcs
   have HSG:=Lib.hid hsg
   have hbC : b < wo.heap.size:=Nat.lt_of_lt_of_le hbK HBR.out.size
   clear hc hca hp hmem hok hpo hsmp hcs hsg hsv hbK
   go_wp2_with (refine wpList_load_mid rfl 34 (.tmp 3) rfl B 0 rfl y.cells.toList _ hro Tryz.underlying34 rfl infoScaleN ?_)
   refine HSMP.out.mono ?_
   rintro e w7 ⟨z,rfl,hz,hb7⟩
   have hzv:=hz w7 w7.heap.size (fun b o hb ho hc => ho) (fun b hb => hb.2)
   dsimp only at hzv
   obtain ⟨za,zc,ze,_⟩:=hzv.n.form
   obtain ⟨zb,zd,zg,_⟩:=hzv.d.form
   obtain ⟨m1,hm1⟩ : ∃ k,sv.l1.length = k:=⟨_,rfl⟩
   obtain ⟨m2,hm2⟩ : ∃ k,sv.l2.length = k:=⟨_,rfl⟩
   rw [hm1] at ze
   rw [hm2] at zg
   clear hm1 hm2 hz HSMP
   obtain ⟨zk,zf,zs,zh,zt,zi⟩:=z
   dsimp only at ze zg
   subst ze zg
   have B7 : Hid (Below B w w7):=Lib.hid (Bo.out.trans (hb7.mono (by omega)))
   have BW7 : Hid (Below W1.heap.size W1 w7):=Lib.hid (BWo.out.trans (hb7.mono BWo.out.size))
   have BR7 : Hid (Below W6.heap.size W6 w7):=Lib.hid (HBR.out.trans (hb7.mono HBR.out.size))
   have HB7:=Lib.hid hb7
   have hs7:=hb7.size
   obtain ⟨D,hD⟩ : ∃ D,w7.heap.size = D:=⟨_,rfl⟩
   obtain ⟨W8,hW8⟩ : ∃ W,w7.alloc (.cells #[.int .u8 zk,.bool zf,.slice za m1 zc,.bool zh,.slice zb m2 zd,.int .i64 zi] 28) = W:=⟨_,rfl⟩
   have b8 : Below D w7 W8:=by rw [<- hW8,<- hD]; exact (Below.refl _ _).alloc (Nat.le_refl _) _
   have q8 : Blk W8 D #[.int .u8 zk,.bool zf,.slice za m1 zc,.bool zh,.slice zb m2 zd,.int .i64 zi] 28:=by rw [<- hW8,<- hD]; exact Blk.new w7 _ _
   have s8 : W8.heap.size = D + 1:=by rw [<- hW8,<- hD]; simp
   have B8 : Hid (Below B w W8):=Lib.hid (B7.out.trans (b8.mono (by omega)))
   have BW8 : Hid (Below W1.heap.size W1 W8):=Lib.hid (BW7.out.trans (b8.mono (by have := BW7.out.size; omega)))
   have BR8 : Hid (Below W6.heap.size W6 W8):=Lib.hid (BR7.out.trans (b8.mono (by have := BR7.out.size; omega)))
   have HBo8 : Hid (Below wo.heap.size wo W8):=Lib.hid (HB7.out.trans (b8.mono (by omega)))
   rw [hD] at hzv
   have hcell:=gcell_any W8.heap.size s y sv ⟨zk,zf,.slice za m1 zc,zh,.slice zb m2 zd,zi⟩ W8 (HSW.out W8 BW8.out) (hzv.below b8 (Nat.le_refl _) (by omega)) (Nat.le_refl _) HGO.out HSG.out HBIG.out
   rw [HCS.out] at hcell
   have HCELL:=Lib.hid hcell
   have HW8:=Lib.hid hW8
   have HD:=Lib.hid hD
   have hr8:=HRW.out W8 BW8.out
   obtain ⟨k0,k1,k2,k3,k4,k5⟩:=q8.six
   clear hzv hb7 b8 q8 hcell hW8 hD hro hc0
   go_upto_region 9 with fail
   simp only [HD.out]
   rw [HW8.out]
   go_wp2_with (refine wpList_load_mid rfl 34 (.tmp 3) rfl B 0 rfl y.cells.toList _ hr8 Tryz.underlying34 rfl infoScaleN ?_)
   refine HCELL.out.mono ?_
   rintro e w9 ⟨rfl,hb9⟩
   dsimp only
   have BR9 : Hid (Below W6.heap.size W6 w9):=Lib.hid (BR8.out.trans (hb9.mono BR8.out.size))
   have HBo9 : Hid (Below wo.heap.size wo w9):=Lib.hid (HBo8.out.trans (hb9.mono HBo8.out.size))
   have g9 : w9.cell? ⟨C,0,none⟩ = some (.slice (some ⟨b,o,none⟩) n lc):=(HBo9.out.cell (p:=⟨C,0,none⟩) (by show C < _; omega)).trans g0
   clear hb9 k0 k1 k2 k3 k4 k5 hr8 HCELL g0
   by_cases h0 : i = 0
   ·have hd : decide (0 < i) = false:=by simp; omega
    clear h0
    go_wp2_with fail
    exact ⟨⟨i + 1,by omega,by go_num,BR9⟩,by simp [intOf]; omega⟩
   ·obtain ⟨k,rfl⟩ : ∃ k,i = k + 1:=⟨i - 1,by omega⟩
    obtain ⟨p0,hp0,hcp⟩:=HPREV.out k rfl
    have hc9 : w9.cell? ⟨b,o + k,none⟩ = some (.int .i64 (p0 : Int)):=(HBo9.out.cell (p:=⟨b,o + k,none⟩) hbC).trans hcp
    have hd : decide (0 < k + 1) = true:=by simp
    have hd2 : decide (p <= p0) = false:=by simp; omega
    have hsub : ((k + 1 : Nat) : Int) - 1 = (k : Int):=by omega
    clear hcp h0 hp0
    go_wp2_with fail
    exact ⟨⟨k + 1 + 1,by omega,by go_num,BR9⟩,by simp [intOf]; omega⟩
  ·obtain rfl : i = n:=by omega
   obtain ⟨d0,d1,d2,d3,d4,d5⟩:=(HQ2.out.below BWo.out HQ2.out.lt).six
   have hcv:=gcell_any wo.heap.size s y v ⟨xk,f1,.slice a1 n1 c1,f2,.slice a2 n2 c2,xi⟩ wo (HSW.out wo BWo.out) (HVW.out wo BWo.out) (Nat.le_refl _) HGO.out HVG.out HBIG.out
   have hno:=@cell_none s v
   have hpo:=@cell_poss s v HGO.out
   obtain ⟨at_,okc,hac⟩ : ∃ a o,cellS s v = (a,o):=⟨_,_,rfl⟩
   rw [hac] at hcv hno hpo
   dsimp only at hcv hno hpo
   obtain ⟨bi,hbi⟩ : ∃ b,isL L at_ = b:=⟨_,rfl⟩
   have HYES : Hid (okc = true -> bi = true):=Lib.hid fun h => by
    obtain ⟨h1,h2⟩:=hpo h
    rw [<- hbi,<- HL.out,isL_in,isIn_iff]
    exact ⟨_,h2,by omega⟩
   have HNOT : Hid (okc = false -> at_ = 0):=Lib.hid fun h => (Prod.mk.inj (hno h)).1
   have HCV:=Lib.hid hcv
   have HBI:=Lib.hid hbi
   clear hno hpo hac hcv hbi
   go_wp2_with (refine wpList_load_mid rfl 34 (.tmp 3) rfl B 0 rfl y.cells.toList _ hro Tryz.underlying34 rfl infoScaleN ?_)
   refine HCV.out.mono ?_
   rintro e w7 ⟨rfl,hb7⟩
   have B7 : Hid (Below B w w7):=Lib.hid (Bo.out.trans (hb7.mono (by omega)))
   have BW7 : Hid (Below W1.heap.size W1 w7):=Lib.hid (BWo.out.trans (hb7.mono BWo.out.size))
   have BR7 : Hid (Below W6.heap.size W6 w7):=Lib.hid (HBR.out.trans (hb7.mono HBR.out.size))
   have hs7 : C + 1 <= w7.heap.size:=by have := hb7.size; omega
   have his:=isF_any w7.heap.size C (.slice la i lc) L at_ w7 (HQ6.out.below BR7.out HQ6.out.lt) (HLV.out.below BR7.out (Nat.le_refl _) BR7.out.size) (Nat.le_refl _)
   rw [HBI.out] at his
   have HIS:=Lib.hid his
   clear hb7 his hro HCV d0 d1 d2 d3 d4 d5 g0
   go_upto_region 14 with fail
   go_cut [93] from 82 to 93 (fun sx wx => sx = .bool false /\ Hid (Below w7.heap.size w7 wx))
   case first =>
    have hz0 : ((0 : Int) != 0) = false:=by decide
    cases okc with
    | true =>
     have hb:=HYES.out rfl
     subst hb
     go_wp2_with fail
     refine HIS.out.mono ?_
     rintro e w8 ⟨rfl,hb8⟩
     have HB8:=Lib.hid hb8
     clear hb8
     go_wp2_with fail
     go_meet
     exact ⟨rfl,HB8⟩
    | false =>
     have ha:=HNOT.out rfl
     subst ha
     cases bi with
     | true =>
      go_wp2_with fail
      refine HIS.out.mono ?_
      rintro e w8 ⟨rfl,hb8⟩
      have HB8:=Lib.hid hb8
      clear hb8
      go_wp2_with fail
      go_meet
      exact ⟨rfl,HB8⟩
     | false =>
      go_wp2_with fail
      refine HIS.out.mono ?_
      rintro e w8 ⟨rfl,hb8⟩
      have HB8:=Lib.hid hb8
      clear hb8
      go_wp2_with fail
      go_meet
      exact ⟨rfl,HB8⟩
   case rest =>
   obtain ⟨rfl,HBC⟩:=hcut
   obtain ⟨wp,rfl⟩ : ∃ wp : World,wp = wc:=⟨_,rfl⟩
   have Bp : Hid (Below B w wp):=Lib.hid (B7.out.trans (HBC.out.mono (by omega)))
   have BWp : Hid (Below W1.heap.size W1 wp):=Lib.hid (BW7.out.trans (HBC.out.mono BW7.out.size))
   have BRp : Hid (Below W6.heap.size W6 wp):=Lib.hid (BR7.out.trans (HBC.out.mono BR7.out.size))
   have hsp : C + 1 <= wp.heap.size:=by have := HBC.out.size; omega
   obtain ⟨ii,hii⟩ : ∃ b,isIn s c = b:=⟨_,rfl⟩
   have HII:=Lib.hid hii
   have hsm : Calls Tryz.prog 9 #[y.agg,.int .i64 c] wp fun e w' => ∃ (zk : Int) (zf : Bool) (za : Option Addr) (m1 zc : Nat) (zh : Bool) (zb : Option Addr) (m2 zd : Nat) (zi : Int),
     e = .returned (.tuple #[.agg #[.int .u8 zk,.bool zf,.slice za m1 zc,.bool zh,.slice zb m2 zd,.int .i64 zi],.bool ii]) /\ Below wp.heap.size wp w':=by
    cases ii with
    | true =>
     have h1:=hii
     unfold isIn at h1
     rw [Bool.and_eq_true] at h1
     obtain ⟨hok,hpo⟩:=h1
     have hc0 : 0 <= c:=by
      have := hpo
      unfold Sc.poss at this
      simp only [Bool.and_eq_true,decide_eq_true_eq] at this
      exact this.1.1
     obtain ⟨p,rfl⟩:=Int.eq_ofNat_of_zero_le hc0
     refine (gsampleX_any wp.heap.size s y p wp (HSW.out wp BWp.out) (Nat.le_refl _) 8 (HFINE.out hok) (by decide) hpo).mono ?_
     rintro e w' ⟨z,rfl,hz,hb⟩
     have hzv:=hz w' w'.heap.size (fun b o hb ho hc => ho) (fun b hb => hb.2)
     dsimp only at hzv
     obtain ⟨za,zc,ze,_⟩:=hzv.n.form
     obtain ⟨zb,zd,zg,_⟩:=hzv.d.form
     obtain ⟨zk,zf,zs,zh,zt,zi⟩:=z
     dsimp only at ze zg
     subst ze zg
     exact ⟨zk,zf,za,_,zc,zh,zb,_,zd,zi,rfl,hb⟩
    | false =>
     refine (gsampleN_any wp.heap.size s y c wp (HSW.out wp BWp.out) (Nat.le_refl _) HGO.out HBIG.out ?_).mono ?_
     ·have h1:=hii
      unfold isIn at h1
      rw [Bool.and_eq_false_iff] at h1
      exact h1
     ·rintro e w' ⟨rfl,hb⟩
      exact ⟨0,false,none,0,0,false,none,0,0,0,rfl,hb⟩
   have HSM:=Lib.hid hsm
   have hrp:=HRW.out wp BWp.out
   clear hii hsm HIS HYES HNOT HBI
   go_wp2_with (refine wpList_load_mid rfl 34 (.tmp 3) rfl B 0 rfl y.cells.toList _ hrp Tryz.underlying34 rfl infoScaleN ?_)
   refine HSM.out.mono ?_
   rintro e w8 ⟨zk,zf,za,m1,zc,zh,zb,m2,zd,zi,rfl,hb8⟩
   obtain ⟨D,hD⟩ : ∃ D,w8.heap.size = D:=⟨_,rfl⟩
   obtain ⟨W9,hW9⟩ : ∃ W,w8.alloc (.cells #[.int .u8 zk,.bool zf,.slice za m1 zc,.bool zh,.slice zb m2 zd,.int .i64 zi] 28) = W:=⟨_,rfl⟩
   have b9 : Below D w8 W9:=by rw [<- hW9,<- hD]; exact (Below.refl _ _).alloc (Nat.le_refl _) _
   have hs8:=hb8.size
   have Bq : Hid (Below B w W9):=Lib.hid ((Bp.out.trans (hb8.mono (by omega))).trans (b9.mono (by omega)))
   have BWq : Hid (Below W1.heap.size W1 W9):=Lib.hid ((BWp.out.trans (hb8.mono BWp.out.size)).trans (b9.mono (by have := BWp.out.size; omega)))
   have BRq : Hid (Below W6.heap.size W6 W9):=Lib.hid ((BRp.out.trans (hb8.mono BRp.out.size)).trans (b9.mono (by have := BRp.out.size; omega)))
   have hsq : C + 1 <= W9.heap.size:=by have := b9.size; omega
   have HW9:=Lib.hid hW9
   have HD:=Lib.hid hD
   clear hb8 b9 hW9 hD hrp HSM
   go_upto_region 17 with fail
   simp only [HD.out]
   rw [HW9.out]
   obtain ⟨ok,hok⟩ : ∃ b,s.okB = b:=⟨_,rfl⟩
   have HISQ : Hid (∀ W',Below W9.heap.size W9 W' -> Calls Tryz.prog 8 #[.int .i64 c,.pointer (some ⟨C,0,none⟩)] W' fun e w' => e = .returned (.bool ii) /\ Below W'.heap.size W' w'):=Lib.hid fun W' hb => by
    have hb6 : Below W6.heap.size W6 W':=BRq.out.trans (hb.mono BRq.out.size)
    have := isF_any W'.heap.size C (.slice la i lc) L c W' (HQ6.out.below hb6 HQ6.out.lt) (HLV.out.below hb6 (Nat.le_refl _) hb6.size) (Nat.le_refl _)
    rwa [show isL L c = ii by rw [<- HL.out,isL_in,HII.out]] at this
   have HVAL : Hid (∀ W',Below W9.heap.size W9 W' -> Calls Tryz.prog 11 #[y.agg] W' fun e w' => e = .returned (.bool ok) /\ Below W'.heap.size W' w'):=Lib.hid fun W' hb => by
    have hb1 : Below W1.heap.size W1 W':=BWq.out.trans (hb.mono BWq.out.size)
    have := gvalid_any W'.heap.size s y W' (HSW.out W' hb1) (Nat.le_refl _) HGO.out HBIG.out
    rwa [hok] at this
   have HAW : Hid (∀ W',Below W9.heap.size W9 W' -> Calls Tryz.prog 6 #[] W' fun e w' => e = .returned (.bool true) /\ Below W'.heap.size W' w'):=Lib.hid fun W' _ => glawake_any W'
   have HRQ : Hid (∀ W',Below W9.heap.size W9 W' -> W'.rangeAt B 0 y.cells.toList):=Lib.hid fun W' hb => HRW.out W' (BWq.out.trans (hb.mono BWq.out.size))
   have HGQ : Hid (∀ W',Below W9.heap.size W9 W' -> W'.cell? ⟨C,0,none⟩ = some (.slice la i lc)):=Lib.hid fun W' hb => (HQ6.out.below (BRq.out.trans (hb.mono BRq.out.size)) HQ6.out.lt).at rfl
   have hni : decide (0 < i) = ok:=by
    rw [<- hok,<- cells_some,HL.out,HN.out]
   clear hok
   refine region_WQ (fun W' => Below W9.heap.size W9 W') (by kernel_rfl) (by kernel_rfl) ⟨rfl,rfl,rfl,Nat.le_refl _,fun _ _ => rfl⟩ ?_
   refine WQ.take (.bool ii) (.inl ⟨by kernel_rfl,fun W' hS => by go_simp <;> exact hS⟩) ?_
   refine WQ.take (.func (.func 8) #[] #[.pointer (some ⟨C,0,none⟩)]) (.inl ⟨by kernel_rfl,fun W' hS => by go_simp <;> exact hS⟩) ?_
   refine WQ.take (.int .i64 c) (.inl ⟨by kernel_rfl,fun W' hS => by go_simp <;> exact hS⟩) ?_
   refine WQ.take (.bool ii) (.inl ⟨by kernel_rfl,fun W' hS => by go_simp <;> exact (HISQ.out W' hS).mono fun e W'' ⟨h1,h2⟩ => ⟨h1,hS.trans (h2.mono hS.size)⟩⟩) ?_
   refine WQ.take (.bool true) (.inl ⟨by kernel_rfl,fun W' hS => by go_simp <;> exact hS⟩) ?_
   refine WQ.take (.bool true) (.inl ⟨by kernel_rfl,fun W' hS => by go_simp <;> exact hS⟩) ?_
   refine WQ.take (y.agg) (yieldsIn_of_if (yieldsIf_load_mid (by kernel_rfl) 34 (.tmp 3) rfl B 0 (by rfl) y.cells.toList _ (fun W' hS => HRQ.out W' hS) Tryz.underlying34 rfl infoScaleN)) ?_
   refine WQ.take (.bool ok) (.inl ⟨by kernel_rfl,fun W' hS => by go_simp <;> exact (HVAL.out W' hS).mono fun e W'' ⟨h1,h2⟩ => ⟨h1,hS.trans (h2.mono hS.size)⟩⟩) ?_
   refine WQ.take (.slice la i lc) (.inl ⟨by kernel_rfl,fun W' hS => by have d0:=HGQ.out W' hS; go_simp <;> exact hS⟩) ?_
   refine WQ.take (.int .i64 i) (.inl ⟨by kernel_rfl,fun W' hS => by go_simp <;> exact hS⟩) ?_
   refine WQ.take (.bool ok) (.inl ⟨by kernel_rfl,fun W' hS => by go_simp <;> first | exact hS | exact hni⟩) ?_
   refine WQ.take (.bool true) (.inl ⟨by kernel_rfl,fun W' hS => by go_simp <;> exact hS⟩) ?_
   refine WQ.take (.bool true) (.inl ⟨by kernel_rfl,fun W' hS => by go_simp <;> exact hS⟩) ?_
   refine WQ.take (.bool true) (.inl ⟨by kernel_rfl,fun W' hS => by go_simp <;> exact hS⟩) ?_
   refine WQ.take (.bool true) (.inl ⟨by kernel_rfl,fun W' hS => by go_simp <;> exact (HAW.out W' hS).mono fun e W'' ⟨h1,h2⟩ => ⟨h1,hS.trans (h2.mono hS.size)⟩⟩) ?_
   refine WQ.take (.bool true) (.inl ⟨by kernel_rfl,fun W' hS => by go_simp <;> exact hS⟩) ?_
   refine WQ.take (.bool true) (.inl ⟨by kernel_rfl,fun W' hS => by go_simp <;> exact hS⟩) ?_
   refine WQ.nil ?_
   intro WF hSF
   have BF : Hid (Below B w WF):=Lib.hid (Bq.out.trans (hSF.mono (by omega)))
   clear hSF
   go_simp
   try go_wp2_with fail
   go_ret
   exact ⟨rfl,BF.out⟩
end Go.Proofs.YtlldjmagbjjeoaaGreat
