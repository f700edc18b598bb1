/- Contracts and plain laws, several texts in one (GCopy2, GTest, GTest2, GCopy3). No conditions beyond those stated. -/
import Derived.Test.YtlldjmagbjjeoaaGreatPk19
set_option maxRecDepth 100000
set_option maxHeartbeats 40000000
namespace Go.Proofs.YtlldjmagbjjeoaaGreat
open Go.RowKit
set_option linter.unusedVariables false
theorem infoVal : (Tryz.prog.info? 28).map (fun i => i.size) = some 6:=by kernel_rfl
theorem vl_one (y : Vv) (h1 : y.s1.oneCell' = true) (h2 : y.s2.oneCell' = true) : ∀ u ∈ y.cells,u.oneCell' = true:=by
 simp only [Vv.cells,List.mem_toArray,List.mem_cons,List.not_mem_nil,or_false]
 rintro u (rfl | rfl | rfl | rfl | rfl | rfl) <;> first | rfl | assumption
theorem btw_low {lo lo' hi : Nat} (h : lo' <= lo) (b : Nat) (hb : Btw lo hi b) : Btw lo' hi b:=⟨Nat.le_trans h hb.1,hb.2⟩
theorem btw_mono {lo lo' hi hi' : Nat} (h : lo' <= lo) (h' : hi <= hi') (b : Nat) (hb : Btw lo hi b) : Btw lo' hi' b:=⟨Nat.le_trans h hb.1,Nat.lt_of_lt_of_le hb.2 h'⟩
theorem copyValue_any (K : Nat) (v : Vq) (x : Vv) (w : World) (h : VlX K w v x) (hg : v.good = true) (hK : K <= w.heap.size) :
  Calls Tryz.prog 24 #[x.agg] w fun e w' => ∃ y : Vv,e = .returned y.agg /\ Zed (Btw w.heap.size w'.heap.size) w' (fun K W => VlX K W v y) /\ Below w.heap.size w w':=by
 obtain ⟨hs1,hs2⟩:=Vq.short hg
 have HX:=Lib.hid h
 obtain ⟨ua,uc,hu,_⟩:=h.n.form
 obtain ⟨va,vc,hv,_⟩:=h.d.form
 obtain ⟨kd,f1,s1,f2,s2,i⟩:=x
 dsimp only at hu hv
 subst hu hv
 obtain ⟨W1,hW1⟩ : ∃ W1,(w.alloc (.cells (⟨kd,f1,.slice ua v.l1.length uc,f2,.slice va v.l2.length vc,i⟩ : Vv).cells 28)).alloc (.cells vv0.cells 28) = W1:=⟨_,rfl⟩
 have b1 : Below w.heap.size w W1:=by rw [<- hW1]; exact ((Below.refl _ _).alloc (Nat.le_refl _) _).alloc (by simp) _
 have q1 : Blk W1 w.heap.size (⟨kd,f1,.slice ua v.l1.length uc,f2,.slice va v.l2.length vc,i⟩ : Vv).cells 28:=by rw [<- hW1]; exact (Blk.new w _ _).alloc _
 have q2 : Blk W1 (w.heap.size + 1) vv0.cells 28:=by
  rw [<- hW1]
  have := Blk.new (w.alloc (.cells (⟨kd,f1,.slice ua v.l1.length uc,f2,.slice va v.l2.length vc,i⟩ : Vv).cells 28)) vv0.cells 28
  rwa [World.size_alloc] at this
 have sz1 : W1.heap.size = w.heap.size + 2:=by rw [<- hW1]; simp
 obtain ⟨B,hB⟩ : ∃ B,w.heap.size = B:=⟨_,rfl⟩
 have HB:=Lib.hid hB
 have HW:=Lib.hid hW1
 rw [hB] at hK b1 q1 q2 sz1 ⊢
 have hc1:=cloneL_any B _ v.l1 W1 (h.n.below b1 hK hK) (by omega) (by omega)
 have HC2 : Hid (∀ W,Below B w W -> Calls Tryz.prog 45 #[.slice va v.l2.length vc] W fun e w' => ∃ v',e = .returned v' /\ Zed (Btw W.heap.size w'.heap.size) w' (fun K W => Lm K W v' v.l2) /\ Below W.heap.size W w'):=Lib.hid fun W hW => cloneL_any W.heap.size _ v.l2 W (h.d.below hW hK (by have := hW.size; have := HB.out; omega)) (Nat.le_refl _) (by omega)
 obtain ⟨n1,hn1⟩ : ∃ n,v.l1.length = n:=⟨_,rfl⟩
 obtain ⟨n2,hn2⟩ : ∃ n,v.l2.length = n:=⟨_,rfl⟩
 simp only [hn1] at q1 hc1 HW
 simp only [hn2] at q1 HC2 HW
 have HN1:=Lib.hid hn1
 have HN2:=Lib.hid hn2
 simp only [hn1,hn2]
 dsimp only [Vv.cells,vv0] at HW
 clear hB hW1 h hg hs1 hs2 hn1 hn2
 obtain ⟨c0,c1,c2,c3,c4,c5⟩:=q1.six
 go_enter Tryz.func24,Tryz.ntmps24
 go_upto_region 1 with fail
 simp only [HB.out]
 rw [HW.out]
 go_wp2_with fail
 refine hc1.mono ?_
 rintro e w2 ⟨r1,rfl,hz1,hb2⟩
 clear hc1 c0 c1 c2 c3 c4 c5
 have p1:=q1.below hb2 (by omega)
 have p2:=q2.below hb2 (by omega)
 obtain ⟨c0,c1,c2,c3,c4,c5⟩:=p1.six
 have fr2:=p1.free 2
 have hlm1:=hz1.get fun b hb => hb.2
 obtain ⟨ra,rc,hr,_⟩:=hlm1.form
 rw [HN1.out] at hr
 subst hr
 have hs2:=hb2.size
 go_upto_region 2 with fail
 obtain ⟨W2,hW2⟩ : ∃ W2,w2.setCell ⟨B,2,none⟩ (.slice ra n1 rc) = W2:=⟨_,rfl⟩
 have p3 : Blk W2 B (⟨kd,f1,.slice ra n1 rc,f2,.slice va n2 vc,i⟩ : Vv).cells 28:=by rw [<- hW2]; exact p1.set (.slice ra n1 rc)
 have p4 : Blk W2 (B + 1) vv0.cells 28:=by rw [<- hW2]; exact p2.other (by omega) _
 have b2 : Below B w W2:=by rw [<- hW2]; exact (b1.trans (hb2.mono (by omega))).setCell (Nat.le_refl _) _
 have sz2 : W2.heap.size = w2.heap.size:=by rw [<- hW2]; simp [World.setCell]
 have hz1' : Zed (Btw W1.heap.size w2.heap.size) W2 (fun K W => Lm K W (.slice ra n1 rc) v.l1):=hz1.move <| Agr.of fun b hb => by rw [<- hW2]; exact Below.heap_setCell _ _ _ _ (by have := hb.1; show b ≠ B; omega)
 rw [hW2]
 clear hW2 c0 c1 c2 c3 c4 c5 fr2 hlm1 hz1 p1 p2 q1 q2
 obtain ⟨c0,c1,c2,c3,c4,c5⟩:=p3.six
 go_wp2_with fail
 refine (HC2.out W2 b2).mono ?_
 rintro e w3 ⟨r2,rfl,hz2,hb3⟩
 clear c0 c1 c2 c3 c4 c5
 have p5:=p3.below hb3 (by omega)
 have p6:=p4.below hb3 (by omega)
 obtain ⟨c0,c1,c2,c3,c4,c5⟩:=p5.six
 have fr4:=p5.free 4
 have hlm2:=hz2.get fun b hb => hb.2
 obtain ⟨ta,tc,hr,_⟩:=hlm2.form
 rw [HN2.out] at hr
 subst hr
 have hs3:=hb3.size
 go_upto_region 3 with fail
 obtain ⟨W3,hW3⟩ : ∃ W3,w3.setCell ⟨B,4,none⟩ (.slice ta n2 tc) = W3:=⟨_,rfl⟩
 have p7 : Blk W3 B (⟨kd,f1,.slice ra n1 rc,f2,.slice ta n2 tc,i⟩ : Vv).cells 28:=by rw [<- hW3]; exact p5.set (.slice ta n2 tc)
 have p8 : Blk W3 (B + 1) vv0.cells 28:=by rw [<- hW3]; exact p6.other (by omega) _
 have b3 : Below B w W3:=by rw [<- hW3]; exact (b2.trans (hb3.mono (by omega))).setCell (Nat.le_refl _) _
 have sz3 : W3.heap.size = w3.heap.size:=by rw [<- hW3]; simp [World.setCell]
 have hz1'' : Zed (Btw W1.heap.size w2.heap.size) W3 (fun K W => Lm K W (.slice ra n1 rc) v.l1):=hz1'.move <| Agr.of fun b hb => by rw [<- hW3]; exact (Below.heap_setCell _ _ _ _ (by have := hb.1; show b ≠ B; omega)).trans (hb3.block b (by have := hb.2; omega))
 have hz2' : Zed (Btw W2.heap.size w3.heap.size) W3 (fun K W => Lm K W (.slice ta n2 tc) v.l2):=hz2.move <| Agr.of fun b hb => by rw [<- hW3]; exact Below.heap_setCell _ _ _ _ (by have := hb.1; show b ≠ B; omega)
 rw [hW3]
 clear hW3 c0 c1 c2 c3 c4 c5 fr4 hlm2 hz2 hz1' p3 p4 p5 p6
 obtain ⟨c0,c1,c2,c3,c4,c5⟩:=p7.six
 iterate 4 go_step
 refine wpList_store_blk rfl 28 28 (.tmp 2) (.tmp 19) rfl (⟨kd,f1,.slice ra n1 rc,f2,.slice ta n2 tc,i⟩ : Vv).cells _ (B + 1) p8 infoVal rfl (vl_one _ rfl rfl) rfl rfl ?_
 intro W5 t1 t2 t3 t4
 clear c0 c1 c2 c3 c4 c5
 have hb5 : Below B w W5:=b3.trans (t2 B (by omega))
 have hA : ∀ lo hi,B + 2 <= lo -> hi <= W3.heap.size -> Agr (Btw lo hi) W3 W5:=fun lo hi h1 h2 => Agr.of fun b hb => t3.block b (by have := hb.2; omega) (fun e => by simp at e; have := hb.1; omega)
 go_wp2_with fail
 refine bodyPost_ret (results_blk rfl _ _ (B + 1) _ _ t1 rfl Tryz.underlying28 rfl infoVal) rfl ?_
 refine ⟨⟨kd,f1,.slice ra n1 rc,f2,.slice ta n2 tc,i⟩,rfl,fun W K ha hk => ?_,hb5⟩
 have hx:=HX.out
 exact ⟨hx.kd,hx.b1,hx.b2,hx.i,(hz1''.move (hA _ _ (by omega) (by omega))).mono (btw_mono (by omega) (by omega)) W K ha hk,(hz2'.move (hA _ _ (by omega) (by omega))).mono (btw_mono (by omega) (by omega)) W K ha hk⟩
def tq0 (x : Xv) : Tv:=⟨x,0,vv0,0,false⟩
theorem tq0_is {K : Nat} {w : World} {e : Gx} {x : Xv} (h : ExG K w e x) : TqX K w ⟨e,0,v0,0,false⟩ (tq0 x):=⟨h,rfl,vv0_is _ _,rfl,rfl⟩
theorem test_blk (w : World) (x : Xv) : Blk ((w.alloc (.cells x.cells 31)).alloc (.cells (tq0 x).cells 73)) (w.heap.size + 1) (tq0 x).cells 73:=by
 have := Blk.new (w.alloc (.cells x.cells 31)) (tq0 x).cells 73
 rwa [World.size_alloc] at this
theorem testOf_none (K : Nat) (e : Gx) (x : Xv) (w : World) (h : ExG K w e x) (hK : K <= w.heap.size) (hop : ¬ ((e.op = 13 \/ e.op = 14) /\ e.args.length = 2)) :
  Calls Tryz.prog 41 #[x.agg] w fun en w' => ∃ y : Tv,en = .returned y.agg /\ TqX K w' (testOf e) y /\ Below w.heap.size w w':=by
 have HX:=Lib.hid h
 have hso : e.op = x.op:=h.open.1.symm
 obtain ⟨h1,h2,h3,hv,g,hr,hgr⟩:=h.open
 have b1 : Below w.heap.size w (w.alloc (.cells x.cells 31)):=(Below.refl _ _).alloc (Nat.le_refl _) _
 obtain ⟨sa,scap,hse,hs1,hs2⟩:=hr.form
 have ht : testOf e = ⟨e,0,v0,0,false⟩:=by
  unfold testOf
  rw [if_neg]
  simp only [Bool.and_eq_true,Bool.or_eq_true,beq_iff_eq]
  exact hop
 rw [ht]
 have fin : ∀ w',Below w.heap.size w w' -> TqX K w' ⟨e,0,v0,0,false⟩ (tq0 x):=fun w' hb => tq0_is (HX.out.below hb hK (Nat.le_refl _))
 obtain ⟨op,nm,kd,b3,s4,b5,s6,i7,s8⟩:=x
 obtain ⟨a8,n8,m8⟩:=s8
 simp only [Sl.val,Value.slice.injEq] at hse hso
 obtain ⟨rfl,rfl,rfl⟩:=hse
 obtain ⟨n,hn⟩ : ∃ n,e.args.length = n:=⟨_,rfl⟩
 rw [hso,hn] at hop
 rw [hn] at b1 fin
 clear ht hgr h h1 h2 h3 hv hr hso
 simp only [hn]
 clear hn
 have hcase : (op = 13 \/ op = 14) /\ ((n : Int) != 2) = true \/ ((op != 13) = true /\ (op != 14) = true):=by
  by_cases e13 : op = 13
  ·refine .inl ⟨.inl e13,?_⟩
   have : ¬ n = 2:=fun e => hop ⟨.inl e13,e⟩
   simp; omega
  ·by_cases e14 : op = 14
   ·refine .inl ⟨.inr e14,?_⟩
    have : ¬ n = 2:=fun e => hop ⟨.inr e14,e⟩
    simp; omega
   ·exact .inr ⟨by simp [e13],by simp [e14]⟩
 clear hop
 have h1c : ∀ y : Xv,∀ u ∈ (tq0 y).cells,u.oneCell' = true:=by intro y; simp [Value.oneCell',tq0]
 rcases hcase with ⟨rfl | rfl,hx⟩ | ⟨x13,x14⟩
 all_goals
  go_enter Tryz.func41,Tryz.ntmps41
  go_upto_region 2 with fail
  iterate 7 go_step
  refine wpList_store_new rfl 73 (.tmp 2) (.tmp 21) rfl (tq0 ⟨_,nm,kd,b3,s4,b5,s6,i7,⟨a8,n,m8⟩⟩).cells _ infoTest rfl (h1c _) (w.heap.size + 1) (by simp) rfl rfl ?_
  go_wp2_with fail
  refine bodyPost_ret (results_blk rfl _ _ (w.heap.size + 1) _ _ (test_blk w _) rfl Tryz.underlying73 rfl infoTest) rfl ?_
  exact ⟨_,rfl,fin _ (b1.alloc (by simp) _),b1.alloc (by simp) _⟩
def argAt (e : Gx) (k : Nat) : Gx:=e.args[k]?.getD default
def cutAt (e : Gx) (k : Nat) : Tq:=⟨argAt e (1 - k),(argAt e k).v.kd,(argAt e k).v,e.op,k == 0⟩
theorem testOf_zero {e : Gx} (ho : e.op = 13 \/ e.op = 14) (hl : e.args.length = 2) (h : isCut (argAt e 0) (argAt e 1) = true) : testOf e = cutAt e 0:=by
 unfold testOf argAt at *
 rw [if_pos (by simp [ho,hl]),if_pos h]; rfl
theorem testOf_one {e : Gx} (ho : e.op = 13 \/ e.op = 14) (hl : e.args.length = 2) (h0 : isCut (argAt e 0) (argAt e 1) = false) (h : isCut (argAt e 1) (argAt e 0) = true) : testOf e = cutAt e 1:=by
 unfold testOf argAt at *
 rw [if_pos (by simp [ho,hl]),if_neg (by rw [h0]; simp),if_pos h]; rfl
theorem testOf_not {e : Gx} (ho : e.op = 13 \/ e.op = 14) (hl : e.args.length = 2) (h0 : isCut (argAt e 0) (argAt e 1) = false) (h : isCut (argAt e 1) (argAt e 0) = false) : testOf e = ⟨e,0,v0,0,false⟩:=by
 unfold testOf argAt at *
 rw [if_pos (by simp [ho,hl]),if_neg (by rw [h0]; simp),if_neg (by rw [h]; simp)]
theorem testOf_at {e : Gx} {k : Nat} (hk : k < 2) (ho : e.op = 13 \/ e.op = 14) (hl : e.args.length = 2) (h0 : ∀ j,j < k -> isCut (argAt e j) (argAt e (1 - j)) = false) (h : isCut (argAt e k) (argAt e (1 - k)) = true) : testOf e = cutAt e k:=by
 match k,hk with
 | 0,_ => exact testOf_zero ho hl h
 | 1,_ => exact testOf_one ho hl (h0 0 (by omega)) h
theorem arg_some {e : Gx} {k : Nat} (hk : k < e.args.length) : e.args[k]? = some (argAt e k):=by unfold argAt; rw [List.getElem?_eq_getElem hk]; rfl
def xz : Xv:=⟨0,[],0,false,⟨none,0,0⟩,false,⟨none,0,0⟩,0,⟨none,0,0⟩⟩
theorem cells_one (y : Tv) (h1 : y.cut.s1.oneCell' = true) (h2 : y.cut.s2.oneCell' = true) : ∀ u ∈ y.cells,u.oneCell' = true:=by
 simp only [Tv.cells,List.mem_toArray,List.mem_cons,List.not_mem_nil,or_false]
 rintro u (rfl | rfl | rfl | rfl | rfl | rfl | rfl | rfl | rfl | rfl | rfl | rfl | rfl | rfl | rfl | rfl | rfl | rfl) <;> first | rfl | assumption
theorem testOf_two (K : Nat) (e : Gx) (x : Xv) (w : World) (h : ExG K w e x) (hg : e.good = true) (hK : K <= w.heap.size) (ho : e.op = 13 \/ e.op = 14) (hl : e.args.length = 2) :
  Calls Tryz.prog 41 #[x.agg] w fun en w' => ∃ y : Tv,en = .returned y.agg /\ TqX K w' (testOf e) y /\ Below w.heap.size w w':=by
 have HX:=Lib.hid h
 have hso : e.op = x.op:=h.open.1.symm
 obtain ⟨h1,h2,h3,hv,g,hr,hgr⟩:=h.open
 rw [hl] at hr
 obtain ⟨cb,co,cap,he,hn2,hm,hbK,hc⟩:=hr.pos (by omega)
 have HA : Hid (∀ k,k < 2 -> ExG K w (argAt e k) (g k) /\ (argAt e k).good = true):=Lib.hid fun k hk => ⟨hgr k _ (arg_some (by omega)),good_args hg _ (List.mem_of_getElem? (arg_some (show k < e.args.length by omega)))⟩
 have HG:=Lib.hid hg
 have HO:=Lib.hid ho
 have HL:=Lib.hid hl
 have HC:=Lib.hid hc
 obtain ⟨op,nm,kd,b3,s4,b5,s6,i7,s8⟩:=x
 obtain ⟨a8,n8,m8⟩:=s8
 simp only [Sl.val,Value.slice.injEq] at he hso
 obtain ⟨rfl,rfl,rfl⟩:=he
 obtain ⟨x,hx⟩ : ∃ x : Xv,x = ⟨op,nm,kd,b3,s4,b5,s6,i7,⟨some ⟨cb,co,none⟩,2,m8⟩⟩:=⟨_,rfl⟩
 rw [<- hx] at HX ⊢
 have hop : op = 13 \/ op = 14:=by rw [<- hso]; exact ho
 have HOP : Hid (op = e.op):=Lib.hid hso.symm
 obtain ⟨W1,hW1⟩ : ∃ W1,(w.alloc (.cells x.cells 31)).alloc (.cells (tq0 xz).cells 73) = W1:=⟨_,rfl⟩
 have b1 : Below w.heap.size w W1:=by rw [<- hW1]; exact ((Below.refl _ _).alloc (Nat.le_refl _) _).alloc (by simp) _
 have q1 : Blk W1 w.heap.size x.cells 31:=by rw [<- hW1]; exact (Blk.new w _ _).alloc _
 have q2 : Blk W1 (w.heap.size + 1) (tq0 xz).cells 73:=by
  rw [<- hW1]
  have := Blk.new (w.alloc (.cells x.cells 31)) (tq0 xz).cells 73
  rwa [World.size_alloc] at this
 have s1 : W1.heap.size = w.heap.size + 2:=by rw [<- hW1]; simp
 obtain ⟨B,hB⟩ : ∃ B,w.heap.size = B:=⟨_,rfl⟩
 have HB:=Lib.hid hB
 have HW:=Lib.hid hW1
 rw [hB] at hK b1 q1 q2 s1 ⊢
 rw [hx] at q1 HW ⊢
 clear hB hW1 h h1 h2 h3 hv hg ho hl hso hr hgr hc hn2
 unfold maxLen at hm
 obtain ⟨d0,d1,d2,d3,d4,d5,d6,d7,d8⟩:=q1.nine
 have hlen : ((2 : Int) != 2) = false:=rfl
 dsimp only [Xv.cells,Xv.agg,Tv.cells,tq0,xz,vv0] at HW ⊢
 rcases hop with rfl | rfl
 all_goals
  go_enter Tryz.func41,Tryz.ntmps41
  go_upto_region 1 with fail
  simp only [HB.out]
  rw [HW.out]
  go_upto_region 3 with fail
  go_wp2_with fail
  clear d0 d1 d2 d3 d4 d5 d6 d7 d8
  go_loopw [25] (fun i wr => ∃ k : Nat,k <= 2 /\ i = .int .i64 k /\ Blk wr B x.cells 31 /\ Blk wr (B + 1) (tq0 xz).cells 73 /\ Below B w wr /\ Hid (∀ j,j < k -> isCut (argAt e j) (argAt e (1 - j)) = false)) (fun i _ => 2 - (intOf i).toNat)
  case atStart => exact ⟨0,Nat.zero_le _,rfl,by rw [hx]; exact q1,q2,b1,Lib.hid fun j hj => absurd hj (Nat.not_lt_zero j)⟩
  case round =>
   obtain ⟨k,hk,rfl,p1,p2,hbr,HF⟩:=hrel
   rw [hx] at p1
   obtain ⟨d0,d1,d2,d3,d4,d5,d6,d7,d8⟩:=p1.nine
   have hsr:=hbr.size
   by_cases hlt : k < 2
   ·obtain ⟨k',hk'⟩ : ∃ k' : Nat,k' = 1 - k:=⟨_,rfl⟩
    have hk2 : k' < 2:=by omega
    have hsub : (1 : Int) - (k : Int) = (k' : Int):=by omega
    obtain ⟨c0,c1,c2,c3,c4,c5,c6,c7,c8⟩:=ex_cells (cells_below hbr (by omega) HC.out) hlt
    obtain ⟨f0,f1,f2,f3,f4,f5,f6,f7,f8⟩:=ex_cells (cells_below hbr (by omega) HC.out) hk2
    have HK:=HA.out k hlt
    have HK':=HA.out k' hk2
    obtain ⟨y,hy⟩ : ∃ y,g k = y:=⟨_,rfl⟩
    obtain ⟨z,hz⟩ : ∃ z,g k' = z:=⟨_,rfl⟩
    rw [hy] at c0 c1 c2 c3 c4 c5 c6 c7 c8 HK
    rw [hz] at f0 f1 f2 f3 f4 f5 f6 f7 f8 HK'
    have hcbr : cb < wr.heap.size:=by have := HB.out; omega
    have hBr : B < wr.heap.size:=p1.lt
    have HK1:=Lib.hid hk'
    have HV:=HK.1.open.2.2.2.1
    have hbW : Below B w ((wr.alloc (.cells y.cells 31)).alloc (.cells z.cells 31)):=(hbr.alloc (by have := HB.out; omega) _).alloc (by simp; have := HB.out; omega) _
    have hval:=tlvalid_any B (argAt e k).v y.vv ((wr.alloc (.cells y.cells 31)).alloc (.cells z.cells 31)) (HV.below hbW hK hK) (by simp; have := HB.out; omega) (good_v HK.2)
    obtain ⟨okv,hokv⟩ : ∃ okv,(argAt e k).v.ok = okv:=⟨_,rfl⟩
    rw [hokv] at hval
    have HCUT : Hid (isCut (argAt e k) (argAt e (1 - k)) = (y.op == 1 && z.op != 1 && y.kd != 1 && okv)):=Lib.hid (by
     unfold isCut
     rw [<- hk',HK.1.open.1,HK'.1.open.1,hokv,show y.kd = (argAt e k).v.kd from HV.kd])
    have HN : Hid (isCut (argAt e k) (argAt e (1 - k)) = false -> ∀ W',Below wr.heap.size wr W' -> ∃ m : Nat,m <= 2 /\ Value.int .i64 ((k : Int) + 1) = .int .i64 m /\ Blk W' B x.cells 31 /\ Blk W' (B + 1) (tq0 xz).cells 73 /\ Below B w W' /\ Hid (∀ j,j < m -> isCut (argAt e j) (argAt e (1 - j)) = false)):=Lib.hid fun hf W' hb' => by
     refine ⟨k + 1,by omega,by simp,by rw [hx]; exact p1.below hb' p1.lt,p2.below hb' p2.lt,hbr.trans (hb'.mono (by have := HB.out; omega)),Lib.hid fun j hj => ?_⟩
     by_cases hjk : j = k
     ·rw [hjk]; exact hf
     ·exact HF.out j (by omega)
    have HT : Hid (isCut (argAt e k) (argAt e (1 - k)) = true -> testOf e = cutAt e k):=Lib.hid fun h => testOf_at hlt HO.out HL.out HF.out h
    obtain ⟨sn,hsn⟩ : ∃ sn,(k == 0) = sn:=⟨_,rfl⟩
    have hsn' : ((k : Int) == 0) = sn:=by rw [<- hsn,Bool.eq_iff_iff]; simp
    have HSN:=Lib.hid hsn
    have hbn : Below wr.heap.size wr ((wr.alloc (.cells y.cells 31)).alloc (.cells z.cells 31)):=((Below.refl _ _).alloc (Nat.le_refl _) _).alloc (by simp) _
    have q5 : Blk ((wr.alloc (.cells y.cells 31)).alloc (.cells z.cells 31)) wr.heap.size y.cells 31:=(Blk.new wr _ _).alloc _
    have q6 : Blk ((wr.alloc (.cells y.cells 31)).alloc (.cells z.cells 31)) (wr.heap.size + 1) z.cells 31:=by
     have := Blk.new (wr.alloc (.cells y.cells 31)) z.cells 31
     rwa [World.size_alloc] at this
    have HBN:=Lib.hid hbn
    have HQ5:=Lib.hid q5
    have HQ6:=Lib.hid q6
    have HHK:=Lib.hid HK
    have HHK':=Lib.hid HK'
    clear hy hz hk' hokv hsn HV HK HK' hbn q5 q6 hbW
    by_cases e1 : y.op = 1
    case neg =>
     have e1' : (y.op == 1) = false:=by simp [e1]
     have hnc:=HCUT.out.trans (show (y.op == 1 && z.op != 1 && y.kd != 1 && okv) = false by simp [e1'])
     have hnx:=HN.out hnc _ HBN.out
     clear e1 hnc hval
     go_upto_region 7 with fail
     go_wp2_with fail
     exact ⟨hnx,by simp [intOf]; omega⟩
    have e1' : (y.op == 1) = true:=by simp [e1]
    clear e1
    by_cases e2 : z.op = 1
    case pos =>
     have e2' : (z.op != 1) = false:=by simp [e2]
     have hnc:=HCUT.out.trans (show (y.op == 1 && z.op != 1 && y.kd != 1 && okv) = false by simp [e2'])
     have hnx:=HN.out hnc _ HBN.out
     clear e2 hnc hval
     go_upto_region 7 with fail
     go_wp2_with fail
     exact ⟨hnx,by simp [intOf]; omega⟩
    by_cases e3 : y.kd = 1
    case pos =>
     have e2' : (z.op != 1) = true:=by simp [e2]
     have e3' : (y.kd != 1) = false:=by simp [e3]
     have hnc:=HCUT.out.trans (show (y.op == 1 && z.op != 1 && y.kd != 1 && okv) = false by simp [e3'])
     have hnx:=HN.out hnc _ HBN.out
     clear e2 e3 hnc hval
     go_upto_region 7 with fail
     go_wp2_with fail
     exact ⟨hnx,by simp [intOf]; omega⟩
    have e2' : (z.op != 1) = true:=by simp [e2]
    have e3' : (y.kd != 1) = true:=by simp [e3]
    rw [e1',e2',e3'] at HCUT
    clear e2 e3
    go_upto_region 7 with fail
    go_wp2_with fail
    refine hval.mono ?_
    rintro en w3 ⟨rfl,hb3⟩
    clear d0 d1 d2 d3 d4 d5 d6 d7 d8 c0 c1 c2 c3 c4 c5 c6 c7 c8 f0 f1 f2 f3 f4 f5 f6 f7 f8 hval
    have hb4 : Below wr.heap.size wr w3:=HBN.out.trans (hb3.mono (by simp; omega))
    cases okv with
    | false =>
     have hnx:=HN.out (HCUT.out.trans rfl) _ hb4
     go_wp2_with fail
     exact ⟨hnx,by simp [intOf]; omega⟩
    | true =>
     have r5:=HQ5.out.below hb3 (by simp; omega)
     have r6:=HQ6.out.below hb3 (by simp)
     obtain ⟨d0,d1,d2,d3,d4,d5,d6,d7,d8⟩:=(p1.below hb4 p1.lt).nine
     obtain ⟨c0,c1,c2,c3,c4,c5,c6,c7,c8⟩:=r5.nine
     obtain ⟨f0,f1,f2,f3,f4,f5,f6,f7,f8⟩:=r6.nine
     have p3:=p2.below hb4 p2.lt
     go_upto_region 8 with fail
     iterate 34 go_step
     refine wpList_store_blk rfl 73 73 (.tmp 2) (.tmp 65) rfl (⟨z,y.kd,y.vv,_,sn⟩ : Tv).cells _ (B + 1) p3 infoTest rfl (cells_one _ rfl rfl) rfl rfl ?_
     intro W5 t1 t2 t3 t4
     clear d0 d1 d2 d3 d4 d5 d6 d7 d8 c0 c1 c2 c3 c4 c5 c6 c7 c8 f0 f1 f2 f3 f4 f5 f6 f7 f8
     have hb5 : Below B w W5:=(hbr.trans (hb4.mono (by have := HB.out; omega))).trans (t2 B (by omega))
     go_wp2_with fail
     refine bodyPost_ret (results_blk rfl _ _ (B + 1) _ _ t1 rfl Tryz.underlying73 rfl infoTest) rfl ?_
     refine ⟨_,rfl,?_,hb5⟩
     rw [HT.out (HCUT.out.trans rfl)]
     unfold cutAt
     rw [<- HK1.out,HSN.out]
     have hKB : K <= B:=hK
     exact ⟨HHK'.out.1.below hb5 hK (Nat.le_refl _),HHK.out.1.open.2.2.2.1.kd,HHK.out.1.open.2.2.2.1.below hb5 hK (Nat.le_refl _),HOP.out,rfl⟩
   ·obtain rfl : k = 2:=by omega
    have HT:=Lib.hid (testOf_not HO.out HL.out (HF.out 0 (by omega)) (HF.out 1 (by omega)))
    go_upto_region 10 with fail
    iterate 7 go_step
    refine wpList_store_blk rfl 73 73 (.tmp 2) (.tmp 68) rfl (tq0 x).cells _ (B + 1) p2 infoTest rfl (by rw [hx]; exact cells_one _ rfl rfl) rfl (by rw [hx]; rfl) ?_
    intro W5 t1 t2 t3 t4
    clear d0 d1 d2 d3 d4 d5 d6 d7 d8
    have hb5 : Below B w W5:=hbr.trans (t2 B (by omega))
    go_wp2_with fail
    refine bodyPost_ret (results_blk rfl _ _ (B + 1) _ _ t1 rfl Tryz.underlying73 rfl infoTest) rfl ?_
    refine ⟨_,rfl,?_,hb5⟩
    rw [HT.out]
    exact tq0_is (HX.out.below hb5 hK (Nat.le_refl _))
theorem testOf_any (K : Nat) (e : Gx) (x : Xv) (w : World) (h : ExG K w e x) (hg : e.good = true) (hK : K <= w.heap.size) :
  Calls Tryz.prog 41 #[x.agg] w fun en w' => ∃ y : Tv,en = .returned y.agg /\ TqX K w' (testOf e) y /\ Below w.heap.size w w':=by
 by_cases hop : (e.op = 13 \/ e.op = 14) /\ e.args.length = 2
 ·exact testOf_two K e x w h hg hK hop.1 hop.2
 ·exact testOf_none K e x w h hK hop
theorem gx_one (x : Xv) : ∀ u ∈ x.cells.toList,u.oneCell' = true:=by
 intro u hu
 simp at hu
 rcases hu with rfl | rfl | rfl | rfl | rfl | rfl | rfl | rfl | rfl <;> rfl
theorem gx_row (x : Xv) : RowsOk 9 [x.cells.toList]:=RowsOk.one rfl (gx_one x)
theorem Tryz.infoExprG : (Tryz.prog.info? 31).map (fun i => (i.zero,i.size,i.bytes)) = some (some xz.agg,9,128):=by kernel_rfl
theorem xv_cell_at (x : Xv) {j : Nat} (hj : j < 9) : (x.cells.toList[j]?).getD undef = x.cell j:=by
 match j,hj with
 | 0,_ => rfl
 | 1,_ => rfl
 | 2,_ => rfl
 | 3,_ => rfl
 | 4,_ => rfl
 | 5,_ => rfl
 | 6,_ => rfl
 | 7,_ => rfl
 | 8,_ => rfl
def Frz (lo hi : Nat) (v : Value) (b : Nat) : Prop:=lo <= b /\ b < hi /\ v.ownBlock ≠ some b
theorem rows_exs {base hi : Nat} {w : World} {v : Value} {es : List Gx} {xs : List Xv} (h : OwnR 9 31 base w v (xs.map fun x => x.cells.toList)) (hl : xs.length = es.length)
  (he : ∀ (j : Nat) (a : Gx),es[j]? = some a -> Zed (Frz base hi v) w fun K W => ExG K W a (xs[j]?.getD xz)) (hhi : w.heap.size <= hi) :
  Zed (Btw base hi) w fun K W => RowsV 9 (fun i j => (xs[i]?.getD xz).cell j) K W v es.length /\ ∀ (j : Nat) (a : Gx),es[j]? = some a -> ExG K W a (xs[j]?.getD xz):=by
 intro W K ha hK
 constructor
 ·have hr:=OwnR.zed h (F:=Btw base hi) (fun b hb => ⟨h.low hb,by have := h.lt hb; omega⟩) W K ha hK
  rw [List.length_map,hl] at hr
  refine hr.congr fun i hi j hj => ?_
  rw [List.getElem?_map,List.getElem?_eq_getElem (l:=xs) (i:=i) (by omega)]
  exact xv_cell_at _ hj
 ·intro j a hj
  exact (he j a hj).mono (fun b hb => (⟨hb.1,hb.2.1⟩ : Btw base hi b)) W K ha hK
theorem frz_step {lo g : Nat} {wr W w5 : World} {u v : Value} (hg : W.grownBy w5 u.ownBlock) (hat : u.ownBlock = some g \/ g = W.heap.size) (hv : v.ownBlock = some g) (hb : Below wr.heap.size wr W) {R : Nat -> World -> Prop} (h : Zed (Frz lo wr.heap.size u) wr R) : Zed (Frz lo w5.heap.size v) w5 R:=by
 have hs:=hb.size
 have hs5:=hg.size
 have h2:=(h.move (agr_below hb fun b hb => hb.2.1)).move (agr_grown hg (fun b hb => by have := hb.2.1; omega) fun b hr hf => hf.2.2 hr)
 refine h2.mono fun b hb => ⟨hb.1,by have := hb.2.1; omega,fun e => ?_⟩
 rw [hv] at e
 obtain rfl:=Option.some.inj e
 rcases hat with hat | hat
 ·exact hb.2.2 hat
 ·have := hb.2.1; omega
theorem frz_new {lo lo' hi g : Nat} {W w5 : World} {u v : Value} (hg : W.grownBy w5 u.ownBlock) (hat : u.ownBlock = some g \/ g = W.heap.size) (hv : v.ownBlock = some g) (hlo : lo <= lo') (hu : ∀ r,u.ownBlock = some r -> r < lo') (hhi : hi <= W.heap.size) {R : Nat -> World -> Prop} (h : Zed (Btw lo' hi) W R) : Zed (Frz lo w5.heap.size v) w5 R:=by
 have hs5:=hg.size
 have h2:=h.move (agr_grown hg (fun b hb => by have := hb.2; omega) fun b hr hf => by have := hu b hr; have := hf.1; omega)
 refine h2.mono fun b hb => ⟨by have := hb.1; omega,by have := hb.2; omega,fun e => ?_⟩
 rw [hv] at e
 obtain rfl:=Option.some.inj e
 rcases hat with hat | hat
 ·have := hu g hat; have := hb.1; omega
 ·have := hb.2; omega
theorem row_cell (w : World) (z : Xv) {i j : Nat} {r : List Value} {u : Value} (hi : [z.cells.toList][i]? = some r) (hj : r[j]? = some u) : (w.alloc (.cells z.cells 31)).cell? ⟨w.heap.size,0 + (i * 9 + j),none⟩ = some u:=by
 match i,hi with
 | 0,hi =>
  simp only [List.getElem?_cons_zero,Option.some.injEq] at hi
  subst hi
  have := (Blk.new w z.cells 31).at (i:=j) (x:=u) (by simpa using hj)
  rwa [show 0 + (0 * 9 + j) = j by omega]
 | i + 1,hi => simp at hi
theorem copyExpr_at (m : Nat) : ∀ (K : Nat) (e : Gx) (x : Xv) (w : World),e.parts <= m -> e.parts <= 2 ^ 20 -> ExG K w e x -> e.good = true -> K <= w.heap.size →
  Calls Tryz.prog 36 #[x.agg] w fun en w' => ∃ y : Xv,en = .returned y.agg /\ Zed (Btw w.heap.size w'.heap.size) w' (fun K W => ExG K W e y) /\ Below w.heap.size w w':=by
 induction m with
 | zero => intro K e x w hm; cases e; rw [partsG_mk] at hm; omega
 | succ m ih =>
  intro K e x w hm hbig h hg hK
  have HX:=Lib.hid h
  obtain ⟨h1,h2,h3,hv,g,hr,hgr⟩:=h.open
  obtain ⟨a8,m8,h8,hn8,hm8⟩:=hr.form
  have hal : e.args.length <= 2 ^ 20:=by
   have h0:=partsG_args e
   have : ∀ l : List Gx,l.length <= partsL l:=by
    intro l
    induction l with
    | nil => simp [partsL]
    | cons a r ih => have h1:=partsG_args a; rw [partsL,List.length_cons]; omega
   have := this e.args
   omega
  have HA : Hid (∀ k,k < e.args.length -> (argAt e k).parts <= m /\ (argAt e k).parts <= 2 ^ 20 /\ ExG K w (argAt e k) (g k) /\ (argAt e k).good = true /\ e.args[k]? = some (argAt e k)):=Lib.hid fun k hk => by
   have e1:=arg_some hk
   have hp:=partsG_arg (List.mem_of_getElem? e1)
   have := partsG_args e
   exact ⟨by omega,by omega,hgr k _ e1,good_args hg _ (List.mem_of_getElem? e1),e1⟩
  have HIH:=Lib.hid ih
  have HR:=Lib.hid hr
  have HG:=Lib.hid hg
  have HV:=Lib.hid hv
  obtain ⟨op,nm,kd,b3,⟨a4,n4,m4⟩,b5,⟨a6,n6,m6⟩,i7,⟨x8,nx8,mx8⟩⟩:=x
  simp only [Sl.val,Value.slice.injEq] at h8
  obtain ⟨rfl,rfl,rfl⟩:=h8
  obtain ⟨q,hq⟩ : ∃ q,e.args.length = q:=⟨_,rfl⟩
  have HQ:=Lib.hid hq
  obtain ⟨x,hx⟩ : ∃ x : Xv,x = ⟨op,nm,kd,b3,⟨a4,n4,m4⟩,b5,⟨a6,n6,m6⟩,i7,⟨x8,q,mx8⟩⟩:=⟨_,rfl⟩
  rw [hq] at HX HR HV hal HA ⊢
  rw [<- hx] at HX ⊢
  obtain ⟨W1,hW1⟩ : ∃ W1,(w.alloc (.cells x.cells 31)).alloc (.cells xz.cells 31) = W1:=⟨_,rfl⟩
  have b1 : Below w.heap.size w W1:=by rw [<- hW1]; exact ((Below.refl _ _).alloc (Nat.le_refl _) _).alloc (by simp) _
  have q1 : Blk W1 w.heap.size x.cells 31:=by rw [<- hW1]; exact (Blk.new w _ _).alloc _
  have q2 : Blk W1 (w.heap.size + 1) xz.cells 31:=by
   rw [<- hW1]
   have := Blk.new (w.alloc (.cells x.cells 31)) xz.cells 31
   rwa [World.size_alloc] at this
  have sz1 : W1.heap.size = w.heap.size + 2:=by rw [<- hW1]; simp
  obtain ⟨B,hB⟩ : ∃ B,w.heap.size = B:=⟨_,rfl⟩
  have HB:=Lib.hid hB
  have HW:=Lib.hid hW1
  rw [hB] at hK b1 q1 q2 sz1 ⊢
  have hc1:=copyValue_any B e.v _ W1 (hv.below b1 hK hK) (good_v hg) (by omega)
  rw [hx] at q1 HW ⊢
  dsimp only [Xv.cells,Xv.agg,xz] at HW ⊢
  dsimp only [Vv.agg,Sl.val] at hc1
  clear hB hW1 h h1 h2 h3 hv hg hr hgr ih hm hbig hq hn8 hm8
  obtain ⟨d0,d1,d2,d3,d4,d5,d6,d7,d8⟩:=q1.nine
  go_enter Tryz.func36,Tryz.ntmps36
  go_upto_region 1 with fail
  simp only [HB.out]
  rw [HW.out]
  go_wp2_with fail
  refine hc1.mono ?_
  rintro en w2 ⟨y,rfl,hz1,hb2⟩
  clear hc1 d0 d1 d2 d3 d4 d5 d6 d7 d8
  have p1:=q1.below hb2 (by omega)
  have p2:=q2.below hb2 (by omega)
  have hs2:=hb2.size
  have hy:=hz1.get fun b hb => hb.2
  obtain ⟨ya,yc,hy1,_⟩:=hy.n.form
  obtain ⟨za,zc,hy2,_⟩:=hy.d.form
  obtain ⟨ykd,yf1,ys1,yf2,ys2,yi⟩:=y
  dsimp only at hy1 hy2
  subst hy1 hy2
  clear hy
  obtain ⟨d0,d1,d2,d3,d4,d5,d6,d7,d8⟩:=p1.nine
  have fr : ∀ j,w2.frozen? ⟨B,j,none⟩ = false:=fun j => p1.free j
  go_upto_region 2 with fail
  obtain ⟨W2,hW2⟩ : ∃ W2,((((((w2.setCell ⟨B,2,none⟩ (.int .u8 ykd)).setCell ⟨B,3,none⟩ (.bool yf1)).setCell ⟨B,4,none⟩ (.slice ya e.v.l1.length yc)).setCell ⟨B,5,none⟩ (.bool yf2)).setCell ⟨B,6,none⟩ (.slice za e.v.l2.length zc)).setCell ⟨B,7,none⟩ (.int .i64 yi)) = W2:=⟨_,rfl⟩
  have hch : ∀ b,b ≠ B -> W2.heap[b]? = w2.heap[b]? := fun b hb => by
   rw [<- hW2]
   exact (Below.heap_setCell _ _ _ _ hb).trans ((Below.heap_setCell _ _ _ _ hb).trans ((Below.heap_setCell _ _ _ _ hb).trans ((Below.heap_setCell _ _ _ _ hb).trans ((Below.heap_setCell _ _ _ _ hb).trans (Below.heap_setCell _ _ _ _ hb)))))
  have sz2 : W2.heap.size = w2.heap.size:=by rw [<- hW2]; simp [World.setCell]
  have b2 : Below B w W2:=by rw [<- hW2]; exact ((((((b1.trans (hb2.mono (by omega))).setCell (Nat.le_refl _) _).setCell (Nat.le_refl _) _).setCell (Nat.le_refl _) _).setCell (Nat.le_refl _) _).setCell (Nat.le_refl _) _).setCell (Nat.le_refl _) _
  have p3 : Blk W2 B (⟨op,nm,ykd,yf1,⟨ya,e.v.l1.length,yc⟩,yf2,⟨za,e.v.l2.length,zc⟩,yi,⟨x8,q,mx8⟩⟩ : Xv).cells 31:=by rw [<- hW2]; exact (((((p1.set (.int .u8 ykd)).set (.bool yf1)).set (.slice ya e.v.l1.length yc)).set (.bool yf2)).set (.slice za e.v.l2.length zc)).set (.int .i64 yi)
  have p4 : Blk W2 (B + 1) xz.cells 31:=(hch _ (by omega)).trans p2
  have hz1' : Zed (Btw (B + 2) W2.heap.size) W2 (fun K W => VlX K W e.v ⟨ykd,yf1,.slice ya e.v.l1.length yc,yf2,.slice za e.v.l2.length zc,yi⟩):=(hz1.move <| Agr.of fun b hb => hch b (by have := hb.1; omega)).mono (btw_mono (by omega) (by omega))
  obtain ⟨l1,hl1⟩ : ∃ n,e.v.l1.length = n:=⟨_,rfl⟩
  obtain ⟨l2,hl2⟩ : ∃ n,e.v.l2.length = n:=⟨_,rfl⟩
  rw [hW2]
  rw [hl1,hl2] at p3 hz1' ⊢
  have HZ:=Lib.hid hz1'
  clear hW2 hch hz1 hz1' p1 p2 q1 q2 fr d0 d1 d2 d3 d4 d5 d6 d7 d8 hl1 hl2
  obtain ⟨x2,hx2⟩ : ∃ x2 : Xv,x2 = ⟨op,nm,ykd,yf1,⟨ya,l1,yc⟩,yf2,⟨za,l2,zc⟩,yi,⟨x8,q,mx8⟩⟩:=⟨_,rfl⟩
  obtain ⟨d0,d1,d2,d3,d4,d5,d6,d7,d8⟩:=p3.nine
  rw [<- hx2] at p3
  go_wp2_with fail
  clear d0 d1 d2 d3 d4 d5 d6 d7 d8
  go_loopw [3,13] (fun v i wr => ∃ (k : Nat) (xs : List Xv),k <= q /\ i = .int .i64 k /\ xs.length = k /\ Blk wr B x2.cells 31 /\ Blk wr (B + 1) xz.cells 31 /\ OwnR 9 31 (B + 2) wr v (xs.map fun x => x.cells.toList) /\ Below B w wr /\ B + 2 <= wr.heap.size ∧
   Hid (Zed (Frz (B + 2) wr.heap.size v) wr (fun K W => VlX K W e.v ⟨ykd,yf1,.slice ya l1 yc,yf2,.slice za l2 zc,yi⟩)) /\ Hid (∀ j,j < k -> Zed (Frz (B + 2) wr.heap.size v) wr fun K W => ExG K W (argAt e j) (xs[j]?.getD xz))) (fun _ i _ => q - (intOf i).toNat)
  case atStart => exact ⟨0,[],Nat.zero_le _,rfl,rfl,p3,p4,OwnR.nil _ _ _ _,b2,by omega,Lib.hid (HZ.out.mono fun b hb => ⟨hb.1,hb.2,by simp [Value.ownBlock]⟩),Lib.hid fun j hj => absurd hj (Nat.not_lt_zero j)⟩
  case round =>
   obtain ⟨k,xs,hk,rfl,hxs,r1,r2,hown,hbr,hsr,HZV,HZA⟩:=hrel
   by_cases hlt : k < q
   ·obtain ⟨b,o,cap,he,_,_,hbK,hc⟩:=HR.out.pos (by omega)
    simp only [Sl.val,Value.slice.injEq,true_and] at he
    obtain ⟨rfl,rfl⟩:=he
    obtain ⟨c0,c1,c2,c3,c4,c5,c6,c7,c8⟩:=ex_cells (cells_below hbr (by omega) hc) hlt
    obtain ⟨ak1,ak2,ak3,ak4,ak5⟩:=HA.out k hlt
    obtain ⟨y,hy⟩ : ∃ y,g k = y:=⟨_,rfl⟩
    rw [hy] at c0 c1 c2 c3 c4 c5 c6 c7 c8 ak3
    have hbl : b < wr.heap.size:=by omega
    have hbW : Below B w (wr.alloc (.cells y.cells 31)):=hbr.alloc (by omega) _
    have hcall:=HIH.out B (argAt e k) y (wr.alloc (.cells y.cells 31)) ak1 ak2 (ak3.below hbW hK hK) ak4 (by simp; omega)
    have HBW:=Lib.hid hbW
    have HXS:=Lib.hid hxs
    clear hy hc ak1 ak2 ak3 ak4 ak5 hbW hxs
    go_wp2_with fail
    refine hcall.mono ?_
    rintro en w3 ⟨z,rfl,hz3,hb3⟩
    clear hcall c0 c1 c2 c3 c4 c5 c6 c7 c8
    obtain ⟨va,vn,hv3,hvn,hvm⟩:=hown.form
    rw [List.length_map,HXS.out] at hv3 hvn
    subst hv3
    have hb4 : Below wr.heap.size wr (w3.alloc (.cells z.cells 31)):=((((Below.refl _ wr).alloc (Nat.le_refl _) (.cells y.cells 31)).trans (hb3.mono (by simp))).alloc (by have := hb3.size; simp at this; omega) _)
    have hs3 : wr.heap.size + 1 <= w3.heap.size:=by have := hb3.size; simpa using this
    have hown4:=hown.old hb4 (Nat.le_refl _)
    have HB4:=Lib.hid hb4
    have HB3:=Lib.hid hb3
    have HOWN:=Lib.hid hown
    have HZ3:=Lib.hid hz3
    have HRC : Hid (∀ (i : Nat) (r : List Value) (j : Nat) (u : Value),[z.cells.toList][i]? = some r -> r[j]? = some u -> (w3.alloc (.cells z.cells 31)).cell? ⟨w3.heap.size,0 + (i * 9 + j),none⟩ = some u):=Lib.hid fun i r j u hi hj => row_cell w3 z hi hj
    have hrl : (xs.map fun x => x.cells.toList).length = k:=by rw [List.length_map]; exact HXS.out
    obtain ⟨RS,hRS⟩ : ∃ RS,xs.map (fun x => x.cells.toList) = RS:=⟨_,rfl⟩
    rw [hRS] at hown4 hrl
    have HRS:=Lib.hid hRS
    have HRL:=Lib.hid hrl
    clear hb4 hb3 hown hz3 hRS hrl
    go_wp2_with (at_builtin; refine wpList_append_rows rfl (.tmp 17) (.tmp 20) 29 rfl Tryz.underlying29 Tryz.infoExprG (by kernel_rfl) (by decide) rfl hown4 (b:=w3.heap.size) (off:=0) (m:=1) (cap:=1) (ms:=[z.cells.toList]) rfl rfl (gx_row z) HRC.out (by decide) (by rw [HRL.out]; simp [maxLen]; omega) (by rw [HRL.out]; omega) (by simp; omega) ?_; intro g1 cap1 w5 hown5 hg5 hat5)
    have hg6 : g1 = (w3.alloc (.cells z.cells 31)).heap.size \/ (Value.slice va k vn).ownBlock = some g1:=hat5.symm
    have hs5:=hg5.size
    rw [World.size_alloc] at hs5
    have hlow:=fun r hr => HOWN.out.low (r:=r) hr
    have hlt2:=fun r hr => HOWN.out.lt (r:=r) hr
    have r3:=(r1.below HB4.out r1.lt).kept hg5 (fun e => by have := hlow B e.symm; omega)
    have r4:=(r2.below HB4.out r2.lt).kept hg5 (fun e => by have := hlow (B + 1) e.symm; omega)
    have hb5 : Below B w w5:=(hbr.trans (HB4.out.mono (by omega))).grown hg5 (by simp; omega) (fun r hr => by have := hlow r hr; omega)
    have hs4:=HB4.out.size
    rw [World.size_alloc] at hs4
    refine ⟨⟨k + 1,xs ++ [z],by omega,by go_num,by rw [List.length_append,HXS.out]; rfl,r3,r4,?_,hb5,by omega,?_,?_⟩,by simp [intOf]; omega⟩
    ·rw [List.map_append,HRS.out]
     exact hown5
    ·exact Lib.hid (frz_step hg5 hat5 rfl HB4.out HZV.out)
    ·refine Lib.hid fun j hj => ?_
     by_cases hjk : j = k
     ·subst hjk
      rw [List.getElem?_append_right (by rw [HXS.out]; exact Nat.le_refl _),HXS.out,Nat.sub_self]
      refine frz_new hg5 hat5 rfl (lo':=wr.heap.size + 1) (hi:=w3.heap.size) (by omega) (fun r hr => by have := hlt2 r hr; omega) (by simp) ?_
      have h1:=HZ3.out
      rw [World.size_alloc] at h1
      exact h1.move (agr_below ((Below.refl w3.heap.size w3).alloc (Nat.le_refl _) _) fun b hb => hb.2)
     ·rw [List.getElem?_append_left (by rw [HXS.out]; omega)]
      exact frz_step hg5 hat5 rfl HB4.out (HZA.out j (by omega))
   ·obtain rfl : k = q:=by omega
    obtain ⟨va,vn,hv3,hvn,hvm⟩:=hown.form
    rw [List.length_map,hxs] at hv3 hvn
    subst hv3
    have HOWN:=Lib.hid hown
    have HXS:=Lib.hid hxs
    have r1':=r1
    rw [hx2] at r1'
    obtain ⟨d0,d1,d2,d3,d4,d5,d6,d7,d8⟩:=r1'.nine
    have fr8:=r1.free 8
    clear r1' hown hxs
    go_upto_region 9 with fail
    obtain ⟨W3,hW3⟩ : ∃ W3,wr.setCell ⟨B,8,none⟩ (.slice va k vn) = W3:=⟨_,rfl⟩
    have hch : ∀ b,b ≠ B -> W3.heap[b]? = wr.heap[b]? := fun b hb => by rw [<- hW3]; exact Below.heap_setCell _ _ _ _ hb
    have sz3 : W3.heap.size = wr.heap.size:=by rw [<- hW3]; simp [World.setCell]
    have p5 : Blk W3 B (⟨op,nm,ykd,yf1,⟨ya,l1,yc⟩,yf2,⟨za,l2,zc⟩,yi,⟨va,k,vn⟩⟩ : Xv).cells 31:=by rw [<- hW3]; rw [hx2] at r1; exact r1.set (.slice va k vn)
    have p6 : Blk W3 (B + 1) xz.cells 31:=(hch _ (by omega)).trans r2
    have b5' : Below B w W3:=by rw [<- hW3]; exact hbr.setCell (Nat.le_refl _) _
    rw [hW3]
    clear hW3 d0 d1 d2 d3 d4 d5 d6 d7 d8 fr8 r1 r2 hx2
    obtain ⟨d0,d1,d2,d3,d4,d5,d6,d7,d8⟩:=p5.nine
    iterate 4 go_step
    refine wpList_store_blk rfl 31 31 (.tmp 2) (.tmp 25) rfl (⟨op,nm,ykd,yf1,⟨ya,l1,yc⟩,yf2,⟨za,l2,zc⟩,yi,⟨va,k,vn⟩⟩ : Xv).cells _ (B + 1) p6 infoEx rfl (fun u hu => gx_one (⟨op,nm,ykd,yf1,⟨ya,l1,yc⟩,yf2,⟨za,l2,zc⟩,yi,⟨va,k,vn⟩⟩ : Xv) u (Array.mem_toList_iff.2 hu)) rfl rfl ?_
    intro W5 t1 t2 t3 t4
    clear d0 d1 d2 d3 d4 d5 d6 d7 d8
    have hb5 : Below B w W5:=b5'.trans (t2 B (by omega))
    have hA : Agr (Btw (B + 2) wr.heap.size) wr W5:=Agr.of fun b hb => (t3.block b (by have := hb.2; omega) (fun e => by simp at e; have := hb.1; omega)).trans (hch b (by have := hb.1; omega))
    go_wp2_with fail
    refine bodyPost_ret (results_blk rfl _ _ (B + 1) _ _ t1 rfl Tryz.underlying31 rfl infoEx) rfl ?_
    refine ⟨⟨op,nm,ykd,yf1,⟨ya,l1,yc⟩,yf2,⟨za,l2,zc⟩,yi,⟨va,k,vn⟩⟩,rfl,?_,hb5⟩
    have hsz5 : wr.heap.size <= W5.heap.size:=by omega
    have z1:=((HZV.out.mono (G:=Btw (B + 2) wr.heap.size) fun b hb => ⟨hb.1,hb.2.1⟩).move hA).mono (btw_mono (lo':=B) (hi':=W5.heap.size) (by omega) hsz5)
    have hel : xs.length = e.args.length:=by rw [HXS.out,HQ.out]
    have z2:=((rows_exs HOWN.out hel (fun j a hj => by
     have hjl : j < k:=by have := (List.getElem?_eq_some_iff.1 hj).1; have := HQ.out; omega
     have h1:=(HA.out j hjl).2.2.2.2
     rw [hj] at h1
     obtain rfl:=Option.some.inj h1
     exact HZA.out j hjl) (Nat.le_refl _)).move hA).mono (btw_mono (lo':=B) (hi':=W5.heap.size) (by omega) hsz5)
    intro W K' ha hk'
    obtain ⟨y1,y2⟩:=z2 W K' ha hk'
    obtain ⟨o1,o2,o3,_⟩:=HX.out.open
    rw [hx] at o1 o2
    exact ExG.make o1 o2 o3 (z1 W K' ha hk') (fun i => xs[i]?.getD xz) (by rw [HQ.out] at y1 ⊢; exact y1) y2
theorem copyExpr_any (K : Nat) (e : Gx) (x : Xv) (w : World) (hbig : e.parts <= 2 ^ 20) (h : ExG K w e x) (hg : e.good = true) (hK : K <= w.heap.size) :
  Calls Tryz.prog 36 #[x.agg] w fun en w' => ∃ y : Xv,en = .returned y.agg /\ Zed (Btw w.heap.size w'.heap.size) w' (fun K W => ExG K W e y) /\ Below w.heap.size w w':=copyExpr_at e.parts K e x w (Nat.le_refl _) hbig h hg hK
end Go.Proofs.YtlldjmagbjjeoaaGreat
