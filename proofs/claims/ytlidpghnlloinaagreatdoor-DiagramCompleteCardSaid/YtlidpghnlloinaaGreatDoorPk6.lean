/- Contracts and plain laws, several texts in one (GCopy, GCopy2, GTest, GTest2, GSame). No conditions beyond those stated. -/
import Derived.Lib.LazyBuf
import Derived.Test.YtlidpghnlloinaaGreatDoorPk5
set_option maxRecDepth 100000
set_option maxHeartbeats 40000000
namespace Go.Proofs.YtlidpghnlloinaaGreatDoor
open Go.RowKit
set_option linter.unusedVariables false
def Agr (F : Nat -> Prop) (w W : World) : Prop:=∀ b o,F b -> w.heap[b]? = some o -> o.isCells = true -> W.heap[b]? = some o
theorem Agr.of {F : Nat -> Prop} {w W : World} (h : ∀ b,F b -> W.heap[b]? = w.heap[b]?) : Agr F w W:=fun b o hb ho _ => (h b hb).trans ho
def Btw (lo hi : Nat) (b : Nat) : Prop:=lo <= b /\ b < hi
def Zed (F : Nat -> Prop) (w : World) (R : Nat -> World -> Prop) : Prop:=∀ W K,Agr F w W -> (∀ b,F b -> b < K) -> R K W
section
variable {F G : Nat -> Prop} {w w' : World} {R : Nat -> World -> Prop}
theorem Zed.mono (h : Zed F w R) (hF : ∀ b,F b -> G b) : Zed G w R:=fun W K ha hK => h W K (fun b o hb => ha b o (hF b hb)) fun b hb => hK b (hF b hb)
theorem Zed.move (h : Zed F w R) (ha : Agr F w w') : Zed F w' R:=fun W K hb hK => h W K (fun b o hb' ho hc => hb b o hb' (ha b o hb' ho hc) hc) hK
theorem Zed.get (h : Zed F w R) (hF : ∀ b,F b -> b < w.heap.size) : R w.heap.size w:=h w _ (Agr.of fun _ _ => rfl) hF
theorem Zed.imp {R' : Nat -> World -> Prop} (h : Zed F w R) (hi : ∀ K W,R K W -> R' K W) : Zed F w R':=fun W K ha hK => hi K W (h W K ha hK)
theorem agr_below {B : Nat} (hb : Below B w w') (hF : ∀ b,F b -> b < B) : Agr F w w':=Agr.of fun b h => hb.block b (hF b h)
theorem agr_grown {row : Option Nat} (hg : w.grownBy w' row) (hF : ∀ b,F b -> b < w.heap.size) (hr : ∀ b,row = some b -> ¬ F b) : Agr F w w':=Agr.of fun b h => hg.block b (hF b h) fun e => hr b e.symm h
theorem Agr.trans {w'' : World} (h : Agr F w w') (h' : Agr F w' w'') : Agr F w w'':=fun b o hb ho hc => h' b o hb (h b o hb ho hc) hc
theorem Agr.mono (h : Agr G w w') (hF : ∀ b,F b -> G b) : Agr F w w':=fun b o hb => h b o (hF b hb)
end
theorem ownsRow_zed {F : Nat -> Prop} {base T c n : Nat} {w : World} {v : Value} {xs : List Value} (h : w.ownsRow base T c v n xs) (hF : ∀ b,v.ownBlock = some b -> F b) : Zed F w fun K W => (v = .slice none 0 0 /\ n = 0 \/ ∃ g,v.ownBlock = some g /\ g < K) /\ W.ownsRow base T c v n xs:=by
 intro W K ha hK
 obtain ⟨h1,h2⟩:=h
 rcases h2 with ⟨rfl,h0⟩ | ⟨g,cap,cur,rfl,hb,hg,h3⟩
 ·exact ⟨.inl ⟨rfl,h0⟩,h1,.inl ⟨rfl,h0⟩⟩
 ·exact ⟨.inr ⟨g,rfl,hK g (hF g rfl)⟩,h1,.inr ⟨g,cap,cur,rfl,hb,ha g _ (hF g rfl) hg rfl,h3⟩⟩
theorem OwnR.zed {F : Nat -> Prop} {c T base : Nat} {w : World} {v : Value} {rs : List (List Value)} (h : OwnR c T base w v rs) (hF : ∀ b,v.ownBlock = some b -> F b) :
  Zed F w fun K W => RowsV c (fun i j => ((rs[i]?.getD [])[j]?).getD undef) K W v rs.length:=by
 intro W K ha hK
 obtain ⟨h1,h2⟩:=ownsRow_zed h.1 hF W K ha hK
 have hr:=OwnR.rows (show OwnR c T base W v rs from ⟨h2,h.2⟩)
 obtain ⟨a,cap,hv,h3,h4,h5,h6⟩:=hr
 refine ⟨a,cap,hv,h3,h4,h5,fun i hi => ?_⟩
 obtain ⟨b,o,rfl,hb,hc⟩:=h6 i hi
 refine ⟨b,o,rfl,?_,hc⟩
 rcases h1 with ⟨h1,h0⟩ | ⟨g,hg,hgK⟩
 ·omega
 ·rw [hv] at hg
  simp only [Value.ownBlock,Option.some.injEq] at hg
  omega
theorem lm_own {base : Nat} {w : World} {v : Value} {l : List Nat} (h : w.ownsRow base 184 1 v l.length (l.map D16)) (hd : ∀ d ∈ l,d < 65536) {F : Nat -> Prop} (hF : ∀ b,v.ownBlock = some b -> F b) : Zed F w fun K W => Lm K W v l:=by
 intro W K ha hK
 obtain ⟨h1,h2⟩:=ownsRow_zed h hF W K ha hK
 refine ⟨?_,hd⟩
 rcases h2.2 with ⟨rfl,h0⟩ | ⟨g,cap,cur,rfl,hb,hg,hn,hm,hs,ht⟩
 ·rw [h0]; exact RowsV.nil none 0 (by simp [maxLen]) fun _ => rfl
 ·have hgK : g < K:=by
   rcases h1 with ⟨h1,_⟩ | ⟨g',h1,h3⟩
   ·cases h1
   ·simp only [Value.ownBlock,Option.some.injEq] at h1; omega
  refine RowsV.mk_cells hn hm hgK fun i hi j hj => ?_
  obtain rfl : j = 0:=by omega
  have := World.ownsRow.cells h2 (g:=g) rfl i (D16 (l[i]?.getD 0)) (by simp [hi])
  rw [Addr.add] at this
  by_cases h0 : i = 0
  ·subst h0; simpa using this
  ·simpa [h0] using this
theorem D16_one (l : List Nat) : ∀ u ∈ l.map D16,u.oneCell' = true:=by
 intro u hu
 obtain ⟨d,_,rfl⟩:=List.mem_map.1 hu
 rfl
theorem eql_nil_limbs (w : World) (a : Option Addr) (n c : Nat) : (binOp .eql 41 (.slice a n c) (.slice none 0 0)).run Tryz.prog w = .ok (.bool a.isNone) w:=Lib.run_eql_slice_nil w _ _ a n c 0 0 Tryz.underlying41
theorem cloneL_any (K : Nat) (v : Value) (l : List Nat) (w : World) (h : Lm K w v l) (hK : K <= w.heap.size) (hl : l.length <= 2 ^ 40) :
  Calls Tryz.prog 160 #[v] w fun e w' => ∃ v',e = .returned v' /\ Zed (Btw w.heap.size w'.heap.size) w' (fun K W => Lm K W v' l) /\ Below w.heap.size w w':=by
 have hq:=eql_nil_limbs
 have hd:=h.2
 obtain ⟨i0,hi,hz0,hz1,hz2⟩:=info_parts Tryz.infoU16
 obtain ⟨a,cap,rfl,hn,hm,hz,hc⟩:=h.1
 cases a with
 | none =>
  have h0 : l = []:=by
   cases l with
   | nil => rfl
   | cons d r => obtain ⟨b',o',h,_⟩:=hc 0 (by simp); cases h
  subst h0
  obtain rfl:=hz rfl
  go_enter Tryz.func160,Tryz.ntmps160
  go_wp2_with fail
  go_ret
  exact ⟨_,rfl,fun W K _ _ => Lm.nil K W,Below.refl _ _⟩
 | some ad =>
  go_enter Tryz.func160,Tryz.ntmps160
  go_wp2_with (at_builtin; refine wpList_append_own _ rfl _ _ 41 rfl w.heap.size 184 i0 (.int .u16 0) 1 2 Tryz.underlying41 hi hz0 hz1 hz2 rfl (by decide) _ _ _ rfl (World.ownsRow_made w #[] 0 (Nat.le_refl _) (Nat.zero_le _) rfl) ad l.length cap (l.map D16) rfl (by simp) ?qc2 (D16_one l) ?qc4 ?qc5 ?qc6 ?_)
  case qc2 =>
   intro j u hj
   have hjn : j < l.length:=(List.getElem?_eq_some_iff.1 hj).1
   obtain ⟨b,o,he,hbK,hcell⟩:=hc j hjn
   simp only [Option.some.injEq] at he
   subst he
   have h0:=hcell 0 (by omega)
   rw [hj] at h0
   rw [addr_add]
   refine (Below.cell ((Below.refl w.heap.size w).alloc (Nat.le_refl _) _) (p:=⟨b,o + j,none⟩) (by simp; omega)).trans ?_
   simpa using h0
  case qc4 => simp [maxLen]; omega
  case qc5 => omega
  intro v' w1 hown hgrow hnil
  have hb1 : Below w.heap.size w w1:=((Below.refl _ w).alloc (Nat.le_refl _) (.cells #[] 184)).grown hgrow (by simp) (by intro k hk; simp [Value.ownBlock] at hk; omega)
  go_wp2_with fail
  go_ret
  have hown' : w1.ownsRow w.heap.size 184 1 v' l.length (l.map D16):=by simpa using hown
  exact ⟨v',rfl,lm_own hown' hd fun b hb => ⟨(ownsRow_cells hown' hb).1,ownsRow_lt hown' hb⟩,hb1⟩
theorem infoVal : (Tryz.prog.info? 47).map (fun i => i.size) = some 6:=by kernel_rfl
theorem vl_one (y : Vv) (h1 : y.s1.oneCell' = true) (h2 : y.s2.oneCell' = true) : ∀ u ∈ y.cells,u.oneCell' = true:=by
 simp only [Vv.cells,List.mem_toArray,List.mem_cons,List.not_mem_nil,or_false]
 rintro u (rfl | rfl | rfl | rfl | rfl | rfl) <;> first | rfl | assumption
theorem btw_low {lo lo' hi : Nat} (h : lo' <= lo) (b : Nat) (hb : Btw lo hi b) : Btw lo' hi b:=⟨Nat.le_trans h hb.1,hb.2⟩
theorem btw_mono {lo lo' hi hi' : Nat} (h : lo' <= lo) (h' : hi <= hi') (b : Nat) (hb : Btw lo hi b) : Btw lo' hi' b:=⟨Nat.le_trans h hb.1,Nat.lt_of_lt_of_le hb.2 h'⟩
theorem copyValue_any (K : Nat) (v : Vq) (x : Vv) (w : World) (h : VlX K w v x) (hg : v.good = true) (hK : K <= w.heap.size) :
  Calls Tryz.prog 120 #[x.agg] w fun e w' => ∃ y : Vv,e = .returned y.agg /\ Zed (Btw w.heap.size w'.heap.size) w' (fun K W => VlX K W v y) /\ Below w.heap.size w w':=by
 obtain ⟨hs1,hs2⟩:=Vq.short hg
 have HX:=Lib.hid h
 obtain ⟨ua,uc,hu,_⟩:=h.n.form
 obtain ⟨va,vc,hv,_⟩:=h.d.form
 obtain ⟨kd,f1,s1,f2,s2,i⟩:=x
 dsimp only at hu hv
 subst hu hv
 obtain ⟨W1,hW1⟩ : ∃ W1,(w.alloc (.cells (⟨kd,f1,.slice ua v.l1.length uc,f2,.slice va v.l2.length vc,i⟩ : Vv).cells 47)).alloc (.cells vv0.cells 47) = W1:=⟨_,rfl⟩
 have b1 : Below w.heap.size w W1:=by rw [<- hW1]; exact ((Below.refl _ _).alloc (Nat.le_refl _) _).alloc (by simp) _
 have q1 : Blk W1 w.heap.size (⟨kd,f1,.slice ua v.l1.length uc,f2,.slice va v.l2.length vc,i⟩ : Vv).cells 47:=by rw [<- hW1]; exact (Blk.new w _ _).alloc _
 have q2 : Blk W1 (w.heap.size + 1) vv0.cells 47:=by
  rw [<- hW1]
  have := Blk.new (w.alloc (.cells (⟨kd,f1,.slice ua v.l1.length uc,f2,.slice va v.l2.length vc,i⟩ : Vv).cells 47)) vv0.cells 47
  rwa [World.size_alloc] at this
 have sz1 : W1.heap.size = w.heap.size + 2:=by rw [<- hW1]; simp
 obtain ⟨B,hB⟩ : ∃ B,w.heap.size = B:=⟨_,rfl⟩
 have HB:=Lib.hid hB
 have HW:=Lib.hid hW1
 rw [hB] at hK b1 q1 q2 sz1 ⊢
 have hc1:=cloneL_any B _ v.l1 W1 (h.n.below b1 hK hK) (by omega) (by omega)
 have HC2 : Hid (∀ W,Below B w W -> Calls Tryz.prog 160 #[.slice va v.l2.length vc] W fun e w' => ∃ v',e = .returned v' /\ Zed (Btw W.heap.size w'.heap.size) w' (fun K W => Lm K W v' v.l2) /\ Below W.heap.size W w'):=Lib.hid fun W hW => cloneL_any W.heap.size _ v.l2 W (h.d.below hW hK (by have := hW.size; have := HB.out; omega)) (Nat.le_refl _) (by omega)
 obtain ⟨n1,hn1⟩ : ∃ n,v.l1.length = n:=⟨_,rfl⟩
 obtain ⟨n2,hn2⟩ : ∃ n,v.l2.length = n:=⟨_,rfl⟩
 simp only [hn1] at q1 hc1 HW
 simp only [hn2] at q1 HC2 HW
 have HN1:=Lib.hid hn1
 have HN2:=Lib.hid hn2
 simp only [hn1,hn2]
 dsimp only [Vv.cells,vv0] at HW
 clear hB hW1 h hg hs1 hs2 hn1 hn2
 obtain ⟨c0,c1,c2,c3,c4,c5⟩:=q1.six
 go_enter Tryz.func120,Tryz.ntmps120
 go_upto_region 1 with fail
 simp only [HB.out]
 rw [HW.out]
 go_wp2_with fail
 refine hc1.mono ?_
 rintro e w2 ⟨r1,rfl,hz1,hb2⟩
 clear hc1 c0 c1 c2 c3 c4 c5
 have p1:=q1.below hb2 (by omega)
 have p2:=q2.below hb2 (by omega)
 obtain ⟨c0,c1,c2,c3,c4,c5⟩:=p1.six
 have fr2:=p1.free 2
 have hlm1:=hz1.get fun b hb => hb.2
 obtain ⟨ra,rc,hr,_⟩:=hlm1.form
 rw [HN1.out] at hr
 subst hr
 have hs2:=hb2.size
 go_upto_region 2 with fail
 obtain ⟨W2,hW2⟩ : ∃ W2,w2.setCell ⟨B,2,none⟩ (.slice ra n1 rc) = W2:=⟨_,rfl⟩
 have p3 : Blk W2 B (⟨kd,f1,.slice ra n1 rc,f2,.slice va n2 vc,i⟩ : Vv).cells 47:=by rw [<- hW2]; exact p1.set (.slice ra n1 rc)
 have p4 : Blk W2 (B + 1) vv0.cells 47:=by rw [<- hW2]; exact p2.other (by omega) _
 have b2 : Below B w W2:=by rw [<- hW2]; exact (b1.trans (hb2.mono (by omega))).setCell (Nat.le_refl _) _
 have sz2 : W2.heap.size = w2.heap.size:=by rw [<- hW2]; simp [World.setCell]
 have hz1' : Zed (Btw W1.heap.size w2.heap.size) W2 (fun K W => Lm K W (.slice ra n1 rc) v.l1):=hz1.move <| Agr.of fun b hb => by rw [<- hW2]; exact Below.heap_setCell _ _ _ _ (by have := hb.1; show b ≠ B; omega)
 rw [hW2]
 clear hW2 c0 c1 c2 c3 c4 c5 fr2 hlm1 hz1 p1 p2 q1 q2
 obtain ⟨c0,c1,c2,c3,c4,c5⟩:=p3.six
 go_wp2_with fail
 refine (HC2.out W2 b2).mono ?_
 rintro e w3 ⟨r2,rfl,hz2,hb3⟩
 clear c0 c1 c2 c3 c4 c5
 have p5:=p3.below hb3 (by omega)
 have p6:=p4.below hb3 (by omega)
 obtain ⟨c0,c1,c2,c3,c4,c5⟩:=p5.six
 have fr4:=p5.free 4
 have hlm2:=hz2.get fun b hb => hb.2
 obtain ⟨ta,tc,hr,_⟩:=hlm2.form
 rw [HN2.out] at hr
 subst hr
 have hs3:=hb3.size
 go_upto_region 3 with fail
 obtain ⟨W3,hW3⟩ : ∃ W3,w3.setCell ⟨B,4,none⟩ (.slice ta n2 tc) = W3:=⟨_,rfl⟩
 have p7 : Blk W3 B (⟨kd,f1,.slice ra n1 rc,f2,.slice ta n2 tc,i⟩ : Vv).cells 47:=by rw [<- hW3]; exact p5.set (.slice ta n2 tc)
 have p8 : Blk W3 (B + 1) vv0.cells 47:=by rw [<- hW3]; exact p6.other (by omega) _
 have b3 : Below B w W3:=by rw [<- hW3]; exact (b2.trans (hb3.mono (by omega))).setCell (Nat.le_refl _) _
 have sz3 : W3.heap.size = w3.heap.size:=by rw [<- hW3]; simp [World.setCell]
 have hz1'' : Zed (Btw W1.heap.size w2.heap.size) W3 (fun K W => Lm K W (.slice ra n1 rc) v.l1):=hz1'.move <| Agr.of fun b hb => by rw [<- hW3]; exact (Below.heap_setCell _ _ _ _ (by have := hb.1; show b ≠ B; omega)).trans (hb3.block b (by have := hb.2; omega))
 have hz2' : Zed (Btw W2.heap.size w3.heap.size) W3 (fun K W => Lm K W (.slice ta n2 tc) v.l2):=hz2.move <| Agr.of fun b hb => by rw [<- hW3]; exact Below.heap_setCell _ _ _ _ (by have := hb.1; show b ≠ B; omega)
 rw [hW3]
 clear hW3 c0 c1 c2 c3 c4 c5 fr4 hlm2 hz2 hz1' p3 p4 p5 p6
 obtain ⟨c0,c1,c2,c3,c4,c5⟩:=p7.six
 iterate 4 go_step
 refine wpList_store_blk rfl 47 47 (.tmp 2) (.tmp 19) rfl (⟨kd,f1,.slice ra n1 rc,f2,.slice ta n2 tc,i⟩ : Vv).cells _ (B + 1) p8 infoVal rfl (vl_one _ rfl rfl) rfl rfl ?_
 intro W5 t1 t2 t3 t4
 clear c0 c1 c2 c3 c4 c5
 have hb5 : Below B w W5:=b3.trans (t2 B (by omega))
 have hA : ∀ lo hi,B + 2 <= lo -> hi <= W3.heap.size -> Agr (Btw lo hi) W3 W5:=fun lo hi h1 h2 => Agr.of fun b hb => t3.block b (by have := hb.2; omega) (fun e => by simp at e; have := hb.1; omega)
 go_wp2_with fail
 refine bodyPost_ret (results_blk rfl _ _ (B + 1) _ _ t1 rfl Tryz.underlying47 rfl infoVal) rfl ?_
 refine ⟨⟨kd,f1,.slice ra n1 rc,f2,.slice ta n2 tc,i⟩,rfl,fun W K ha hk => ?_,hb5⟩
 have hx:=HX.out
 exact ⟨hx.kd,hx.b1,hx.b2,hx.i,(hz1''.move (hA _ _ (by omega) (by omega))).mono (btw_mono (by omega) (by omega)) W K ha hk,(hz2'.move (hA _ _ (by omega) (by omega))).mono (btw_mono (by omega) (by omega)) W K ha hk⟩
def tq0 (x : Xv) : Tv:=⟨x,0,vv0,0,false⟩
theorem tq0_is {K : Nat} {w : World} {e : Gx} {x : Xv} (h : ExG K w e x) : TqX K w ⟨e,0,v0,0,false⟩ (tq0 x):=⟨h,rfl,vv0_is _ _,rfl,rfl⟩
theorem test_blk (w : World) (x : Xv) : Blk ((w.alloc (.cells x.cells 49)).alloc (.cells (tq0 x).cells 156)) (w.heap.size + 1) (tq0 x).cells 156:=by
 have := Blk.new (w.alloc (.cells x.cells 49)) (tq0 x).cells 156
 rwa [World.size_alloc] at this
theorem testOf_none (K : Nat) (e : Gx) (x : Xv) (w : World) (h : ExG K w e x) (hK : K <= w.heap.size) (hop : ¬ ((e.op = 13 \/ e.op = 14) /\ e.args.length = 2)) :
  Calls Tryz.prog 150 #[x.agg] w fun en w' => ∃ y : Tv,en = .returned y.agg /\ TqX K w' (testOf e) y /\ Below w.heap.size w w':=by
 have HX:=Lib.hid h
 have hso : e.op = x.op:=h.open.1.symm
 obtain ⟨h1,h2,h3,hv,g,hr,hgr⟩:=h.open
 have b1 : Below w.heap.size w (w.alloc (.cells x.cells 49)):=(Below.refl _ _).alloc (Nat.le_refl _) _
 obtain ⟨sa,scap,hse,hs1,hs2⟩:=hr.form
 have ht : testOf e = ⟨e,0,v0,0,false⟩:=by
  unfold testOf
  rw [if_neg]
  simp only [Bool.and_eq_true,Bool.or_eq_true,beq_iff_eq]
  exact hop
 rw [ht]
 have fin : ∀ w',Below w.heap.size w w' -> TqX K w' ⟨e,0,v0,0,false⟩ (tq0 x):=fun w' hb => tq0_is (HX.out.below hb hK (Nat.le_refl _))
 obtain ⟨op,nm,kd,b3,s4,b5,s6,i7,s8⟩:=x
 obtain ⟨a8,n8,m8⟩:=s8
 simp only [Sl.val,Value.slice.injEq] at hse hso
 obtain ⟨rfl,rfl,rfl⟩:=hse
 obtain ⟨n,hn⟩ : ∃ n,e.args.length = n:=⟨_,rfl⟩
 rw [hso,hn] at hop
 rw [hn] at b1 fin
 clear ht hgr h h1 h2 h3 hv hr hso
 simp only [hn]
 clear hn
 have hcase : (op = 13 \/ op = 14) /\ ((n : Int) != 2) = true \/ ((op != 13) = true /\ (op != 14) = true):=by
  by_cases e13 : op = 13
  ·refine .inl ⟨.inl e13,?_⟩
   have : ¬ n = 2:=fun e => hop ⟨.inl e13,e⟩
   simp; omega
  ·by_cases e14 : op = 14
   ·refine .inl ⟨.inr e14,?_⟩
    have : ¬ n = 2:=fun e => hop ⟨.inr e14,e⟩
    simp; omega
   ·exact .inr ⟨by simp [e13],by simp [e14]⟩
 clear hop
 have h1c : ∀ y : Xv,∀ u ∈ (tq0 y).cells,u.oneCell' = true:=by intro y; simp [Value.oneCell',tq0]
 rcases hcase with ⟨rfl | rfl,hx⟩ | ⟨x13,x14⟩
 all_goals
  go_enter Tryz.func150,Tryz.ntmps150
  go_upto_region 2 with fail
  iterate 7 go_step
  refine wpList_store_new rfl 156 (.tmp 2) (.tmp 21) rfl (tq0 ⟨_,nm,kd,b3,s4,b5,s6,i7,⟨a8,n,m8⟩⟩).cells _ infoTest rfl (h1c _) (w.heap.size + 1) (by simp) rfl rfl ?_
  go_wp2_with fail
  refine bodyPost_ret (results_blk rfl _ _ (w.heap.size + 1) _ _ (test_blk w _) rfl Tryz.underlying156 rfl infoTest) rfl ?_
  exact ⟨_,rfl,fin _ (b1.alloc (by simp) _),b1.alloc (by simp) _⟩
def argAt (e : Gx) (k : Nat) : Gx:=e.args[k]?.getD default
def cutAt (e : Gx) (k : Nat) : Tq:=⟨argAt e (1 - k),(argAt e k).v.kd,(argAt e k).v,e.op,k == 0⟩
theorem testOf_zero {e : Gx} (ho : e.op = 13 \/ e.op = 14) (hl : e.args.length = 2) (h : isCut (argAt e 0) (argAt e 1) = true) : testOf e = cutAt e 0:=by
 unfold testOf argAt at *
 rw [if_pos (by simp [ho,hl]),if_pos h]; rfl
theorem testOf_one {e : Gx} (ho : e.op = 13 \/ e.op = 14) (hl : e.args.length = 2) (h0 : isCut (argAt e 0) (argAt e 1) = false) (h : isCut (argAt e 1) (argAt e 0) = true) : testOf e = cutAt e 1:=by
 unfold testOf argAt at *
 rw [if_pos (by simp [ho,hl]),if_neg (by rw [h0]; simp),if_pos h]; rfl
theorem testOf_not {e : Gx} (ho : e.op = 13 \/ e.op = 14) (hl : e.args.length = 2) (h0 : isCut (argAt e 0) (argAt e 1) = false) (h : isCut (argAt e 1) (argAt e 0) = false) : testOf e = ⟨e,0,v0,0,false⟩:=by
 unfold testOf argAt at *
 rw [if_pos (by simp [ho,hl]),if_neg (by rw [h0]; simp),if_neg (by rw [h]; simp)]
theorem testOf_at {e : Gx} {k : Nat} (hk : k < 2) (ho : e.op = 13 \/ e.op = 14) (hl : e.args.length = 2) (h0 : ∀ j,j < k -> isCut (argAt e j) (argAt e (1 - j)) = false) (h : isCut (argAt e k) (argAt e (1 - k)) = true) : testOf e = cutAt e k:=by
 match k,hk with
 | 0,_ => exact testOf_zero ho hl h
 | 1,_ => exact testOf_one ho hl (h0 0 (by omega)) h
theorem arg_some {e : Gx} {k : Nat} (hk : k < e.args.length) : e.args[k]? = some (argAt e k):=by unfold argAt; rw [List.getElem?_eq_getElem hk]; rfl
def xz : Xv:=⟨0,[],0,false,⟨none,0,0⟩,false,⟨none,0,0⟩,0,⟨none,0,0⟩⟩
theorem cells_one (y : Tv) (h1 : y.cut.s1.oneCell' = true) (h2 : y.cut.s2.oneCell' = true) : ∀ u ∈ y.cells,u.oneCell' = true:=by
 simp only [Tv.cells,List.mem_toArray,List.mem_cons,List.not_mem_nil,or_false]
 rintro u (rfl | rfl | rfl | rfl | rfl | rfl | rfl | rfl | rfl | rfl | rfl | rfl | rfl | rfl | rfl | rfl | rfl | rfl) <;> first | rfl | assumption
theorem testOf_two (K : Nat) (e : Gx) (x : Xv) (w : World) (h : ExG K w e x) (hg : e.good = true) (hK : K <= w.heap.size) (ho : e.op = 13 \/ e.op = 14) (hl : e.args.length = 2) :
  Calls Tryz.prog 150 #[x.agg] w fun en w' => ∃ y : Tv,en = .returned y.agg /\ TqX K w' (testOf e) y /\ Below w.heap.size w w':=by
 have HX:=Lib.hid h
 have hso : e.op = x.op:=h.open.1.symm
 obtain ⟨h1,h2,h3,hv,g,hr,hgr⟩:=h.open
 rw [hl] at hr
 obtain ⟨cb,co,cap,he,hn2,hm,hbK,hc⟩:=hr.pos (by omega)
 have HA : Hid (∀ k,k < 2 -> ExG K w (argAt e k) (g k) /\ (argAt e k).good = true):=Lib.hid fun k hk => ⟨hgr k _ (arg_some (by omega)),good_args hg _ (List.mem_of_getElem? (arg_some (show k < e.args.length by omega)))⟩
 have HG:=Lib.hid hg
 have HO:=Lib.hid ho
 have HL:=Lib.hid hl
 have HC:=Lib.hid hc
 obtain ⟨op,nm,kd,b3,s4,b5,s6,i7,s8⟩:=x
 obtain ⟨a8,n8,m8⟩:=s8
 simp only [Sl.val,Value.slice.injEq] at he hso
 obtain ⟨rfl,rfl,rfl⟩:=he
 obtain ⟨x,hx⟩ : ∃ x : Xv,x = ⟨op,nm,kd,b3,s4,b5,s6,i7,⟨some ⟨cb,co,none⟩,2,m8⟩⟩:=⟨_,rfl⟩
 rw [<- hx] at HX ⊢
 have hop : op = 13 \/ op = 14:=by rw [<- hso]; exact ho
 have HOP : Hid (op = e.op):=Lib.hid hso.symm
 obtain ⟨W1,hW1⟩ : ∃ W1,(w.alloc (.cells x.cells 49)).alloc (.cells (tq0 xz).cells 156) = W1:=⟨_,rfl⟩
 have b1 : Below w.heap.size w W1:=by rw [<- hW1]; exact ((Below.refl _ _).alloc (Nat.le_refl _) _).alloc (by simp) _
 have q1 : Blk W1 w.heap.size x.cells 49:=by rw [<- hW1]; exact (Blk.new w _ _).alloc _
 have q2 : Blk W1 (w.heap.size + 1) (tq0 xz).cells 156:=by
  rw [<- hW1]
  have := Blk.new (w.alloc (.cells x.cells 49)) (tq0 xz).cells 156
  rwa [World.size_alloc] at this
 have s1 : W1.heap.size = w.heap.size + 2:=by rw [<- hW1]; simp
 obtain ⟨B,hB⟩ : ∃ B,w.heap.size = B:=⟨_,rfl⟩
 have HB:=Lib.hid hB
 have HW:=Lib.hid hW1
 rw [hB] at hK b1 q1 q2 s1 ⊢
 rw [hx] at q1 HW ⊢
 clear hB hW1 h h1 h2 h3 hv hg ho hl hso hr hgr hc hn2
 unfold maxLen at hm
 obtain ⟨d0,d1,d2,d3,d4,d5,d6,d7,d8⟩:=q1.nine
 have hlen : ((2 : Int) != 2) = false:=rfl
 dsimp only [Xv.cells,Xv.agg,Tv.cells,tq0,xz,vv0] at HW ⊢
 rcases hop with rfl | rfl
 all_goals
  go_enter Tryz.func150,Tryz.ntmps150
  go_upto_region 1 with fail
  simp only [HB.out]
  rw [HW.out]
  go_upto_region 3 with fail
  go_wp2_with fail
  clear d0 d1 d2 d3 d4 d5 d6 d7 d8
  go_loopw [25] (fun i wr => ∃ k : Nat,k <= 2 /\ i = .int .i64 k /\ Blk wr B x.cells 49 /\ Blk wr (B + 1) (tq0 xz).cells 156 /\ Below B w wr /\ Hid (∀ j,j < k -> isCut (argAt e j) (argAt e (1 - j)) = false)) (fun i _ => 2 - (intOf i).toNat)
  case atStart => exact ⟨0,Nat.zero_le _,rfl,by rw [hx]; exact q1,q2,b1,Lib.hid fun j hj => absurd hj (Nat.not_lt_zero j)⟩
  case round =>
   obtain ⟨k,hk,rfl,p1,p2,hbr,HF⟩:=hrel
   rw [hx] at p1
   obtain ⟨d0,d1,d2,d3,d4,d5,d6,d7,d8⟩:=p1.nine
   have hsr:=hbr.size
   by_cases hlt : k < 2
   ·obtain ⟨k',hk'⟩ : ∃ k' : Nat,k' = 1 - k:=⟨_,rfl⟩
    have hk2 : k' < 2:=by omega
    have hsub : (1 : Int) - (k : Int) = (k' : Int):=by omega
    obtain ⟨c0,c1,c2,c3,c4,c5,c6,c7,c8⟩:=ex_cells (cells_below hbr (by omega) HC.out) hlt
    obtain ⟨f0,f1,f2,f3,f4,f5,f6,f7,f8⟩:=ex_cells (cells_below hbr (by omega) HC.out) hk2
    have HK:=HA.out k hlt
    have HK':=HA.out k' hk2
    obtain ⟨y,hy⟩ : ∃ y,g k = y:=⟨_,rfl⟩
    obtain ⟨z,hz⟩ : ∃ z,g k' = z:=⟨_,rfl⟩
    rw [hy] at c0 c1 c2 c3 c4 c5 c6 c7 c8 HK
    rw [hz] at f0 f1 f2 f3 f4 f5 f6 f7 f8 HK'
    have hcbr : cb < wr.heap.size:=by have := HB.out; omega
    have hBr : B < wr.heap.size:=p1.lt
    have HK1:=Lib.hid hk'
    have HV:=HK.1.open.2.2.2.1
    have hbW : Below B w ((wr.alloc (.cells y.cells 49)).alloc (.cells z.cells 49)):=(hbr.alloc (by have := HB.out; omega) _).alloc (by simp; have := HB.out; omega) _
    have hval:=tlvalid_any B (argAt e k).v y.vv ((wr.alloc (.cells y.cells 49)).alloc (.cells z.cells 49)) (HV.below hbW hK hK) (by simp; have := HB.out; omega) (good_v HK.2)
    obtain ⟨okv,hokv⟩ : ∃ okv,(argAt e k).v.ok = okv:=⟨_,rfl⟩
    rw [hokv] at hval
    have HCUT : Hid (isCut (argAt e k) (argAt e (1 - k)) = (y.op == 1 && z.op != 1 && y.kd != 1 && okv)):=Lib.hid (by
     unfold isCut
     rw [<- hk',HK.1.open.1,HK'.1.open.1,hokv,show y.kd = (argAt e k).v.kd from HV.kd])
    have HN : Hid (isCut (argAt e k) (argAt e (1 - k)) = false -> ∀ W',Below wr.heap.size wr W' -> ∃ m : Nat,m <= 2 /\ Value.int .i64 ((k : Int) + 1) = .int .i64 m /\ Blk W' B x.cells 49 /\ Blk W' (B + 1) (tq0 xz).cells 156 /\ Below B w W' /\ Hid (∀ j,j < m -> isCut (argAt e j) (argAt e (1 - j)) = false)):=Lib.hid fun hf W' hb' => by
     refine ⟨k + 1,by omega,by simp,by rw [hx]; exact p1.below hb' p1.lt,p2.below hb' p2.lt,hbr.trans (hb'.mono (by have := HB.out; omega)),Lib.hid fun j hj => ?_⟩
     by_cases hjk : j = k
     ·rw [hjk]; exact hf
     ·exact HF.out j (by omega)
    have HT : Hid (isCut (argAt e k) (argAt e (1 - k)) = true -> testOf e = cutAt e k):=Lib.hid fun h => testOf_at hlt HO.out HL.out HF.out h
    obtain ⟨sn,hsn⟩ : ∃ sn,(k == 0) = sn:=⟨_,rfl⟩
    have hsn' : ((k : Int) == 0) = sn:=by rw [<- hsn,Bool.eq_iff_iff]; simp
    have HSN:=Lib.hid hsn
    have hbn : Below wr.heap.size wr ((wr.alloc (.cells y.cells 49)).alloc (.cells z.cells 49)):=((Below.refl _ _).alloc (Nat.le_refl _) _).alloc (by simp) _
    have q5 : Blk ((wr.alloc (.cells y.cells 49)).alloc (.cells z.cells 49)) wr.heap.size y.cells 49:=(Blk.new wr _ _).alloc _
    have q6 : Blk ((wr.alloc (.cells y.cells 49)).alloc (.cells z.cells 49)) (wr.heap.size + 1) z.cells 49:=by
     have := Blk.new (wr.alloc (.cells y.cells 49)) z.cells 49
     rwa [World.size_alloc] at this
    have HBN:=Lib.hid hbn
    have HQ5:=Lib.hid q5
    have HQ6:=Lib.hid q6
    have HHK:=Lib.hid HK
    have HHK':=Lib.hid HK'
    clear hy hz hk' hokv hsn HV HK HK' hbn q5 q6 hbW
    by_cases e1 : y.op = 1
    case neg =>
     have e1' : (y.op == 1) = false:=by simp [e1]
     have hnc:=HCUT.out.trans (show (y.op == 1 && z.op != 1 && y.kd != 1 && okv) = false by simp [e1'])
     have hnx:=HN.out hnc _ HBN.out
     clear e1 hnc hval
     go_upto_region 7 with fail
     go_wp2_with fail
     exact ⟨hnx,by simp [intOf]; omega⟩
    have e1' : (y.op == 1) = true:=by simp [e1]
    clear e1
    by_cases e2 : z.op = 1
    case pos =>
     have e2' : (z.op != 1) = false:=by simp [e2]
     have hnc:=HCUT.out.trans (show (y.op == 1 && z.op != 1 && y.kd != 1 && okv) = false by simp [e2'])
     have hnx:=HN.out hnc _ HBN.out
     clear e2 hnc hval
     go_upto_region 7 with fail
     go_wp2_with fail
     exact ⟨hnx,by simp [intOf]; omega⟩
    by_cases e3 : y.kd = 1
    case pos =>
     have e2' : (z.op != 1) = true:=by simp [e2]
     have e3' : (y.kd != 1) = false:=by simp [e3]
     have hnc:=HCUT.out.trans (show (y.op == 1 && z.op != 1 && y.kd != 1 && okv) = false by simp [e3'])
     have hnx:=HN.out hnc _ HBN.out
     clear e2 e3 hnc hval
     go_upto_region 7 with fail
     go_wp2_with fail
     exact ⟨hnx,by simp [intOf]; omega⟩
    have e2' : (z.op != 1) = true:=by simp [e2]
    have e3' : (y.kd != 1) = true:=by simp [e3]
    rw [e1',e2',e3'] at HCUT
    clear e2 e3
    go_upto_region 7 with fail
    go_wp2_with fail
    refine hval.mono ?_
    rintro en w3 ⟨rfl,hb3⟩
    clear d0 d1 d2 d3 d4 d5 d6 d7 d8 c0 c1 c2 c3 c4 c5 c6 c7 c8 f0 f1 f2 f3 f4 f5 f6 f7 f8 hval
    have hb4 : Below wr.heap.size wr w3:=HBN.out.trans (hb3.mono (by simp; omega))
    cases okv with
    | false =>
     have hnx:=HN.out (HCUT.out.trans rfl) _ hb4
     go_wp2_with fail
     exact ⟨hnx,by simp [intOf]; omega⟩
    | true =>
     have r5:=HQ5.out.below hb3 (by simp; omega)
     have r6:=HQ6.out.below hb3 (by simp)
     obtain ⟨d0,d1,d2,d3,d4,d5,d6,d7,d8⟩:=(p1.below hb4 p1.lt).nine
     obtain ⟨c0,c1,c2,c3,c4,c5,c6,c7,c8⟩:=r5.nine
     obtain ⟨f0,f1,f2,f3,f4,f5,f6,f7,f8⟩:=r6.nine
     have p3:=p2.below hb4 p2.lt
     go_upto_region 8 with fail
     iterate 34 go_step
     refine wpList_store_blk rfl 156 156 (.tmp 2) (.tmp 65) rfl (⟨z,y.kd,y.vv,_,sn⟩ : Tv).cells _ (B + 1) p3 infoTest rfl (cells_one _ rfl rfl) rfl rfl ?_
     intro W5 t1 t2 t3 t4
     clear d0 d1 d2 d3 d4 d5 d6 d7 d8 c0 c1 c2 c3 c4 c5 c6 c7 c8 f0 f1 f2 f3 f4 f5 f6 f7 f8
     have hb5 : Below B w W5:=(hbr.trans (hb4.mono (by have := HB.out; omega))).trans (t2 B (by omega))
     go_wp2_with fail
     refine bodyPost_ret (results_blk rfl _ _ (B + 1) _ _ t1 rfl Tryz.underlying156 rfl infoTest) rfl ?_
     refine ⟨_,rfl,?_,hb5⟩
     rw [HT.out (HCUT.out.trans rfl)]
     unfold cutAt
     rw [<- HK1.out,HSN.out]
     have hKB : K <= B:=hK
     exact ⟨HHK'.out.1.below hb5 hK (Nat.le_refl _),HHK.out.1.open.2.2.2.1.kd,HHK.out.1.open.2.2.2.1.below hb5 hK (Nat.le_refl _),HOP.out,rfl⟩
   ·obtain rfl : k = 2:=by omega
    have HT:=Lib.hid (testOf_not HO.out HL.out (HF.out 0 (by omega)) (HF.out 1 (by omega)))
    go_upto_region 10 with fail
    iterate 7 go_step
    refine wpList_store_blk rfl 156 156 (.tmp 2) (.tmp 68) rfl (tq0 x).cells _ (B + 1) p2 infoTest rfl (by rw [hx]; exact cells_one _ rfl rfl) rfl (by rw [hx]; rfl) ?_
    intro W5 t1 t2 t3 t4
    clear d0 d1 d2 d3 d4 d5 d6 d7 d8
    have hb5 : Below B w W5:=hbr.trans (t2 B (by omega))
    go_wp2_with fail
    refine bodyPost_ret (results_blk rfl _ _ (B + 1) _ _ t1 rfl Tryz.underlying156 rfl infoTest) rfl ?_
    refine ⟨_,rfl,?_,hb5⟩
    rw [HT.out]
    exact tq0_is (HX.out.below hb5 hK (Nat.le_refl _))
theorem testOf_any (K : Nat) (e : Gx) (x : Xv) (w : World) (h : ExG K w e x) (hg : e.good = true) (hK : K <= w.heap.size) :
  Calls Tryz.prog 150 #[x.agg] w fun en w' => ∃ y : Tv,en = .returned y.agg /\ TqX K w' (testOf e) y /\ Below w.heap.size w w':=by
 by_cases hop : (e.op = 13 \/ e.op = 14) /\ e.args.length = 2
 ·exact testOf_two K e x w h hg hK hop.1 hop.2
 ·exact testOf_none K e x w h hK hop
theorem partsG_args (a : Gx) : a.parts = partsL a.args + 1:=by cases a; exact partsG_mk _ _ _ _
theorem sameL_ne {l m : List Gx} (h : l ≠ m) : sameL l m = false:=by
 cases hs : sameL l m with
 | false => rfl
 | true => exact absurd ((sameL_iff l m).1 hs) h
theorem sameL_len {l m : List Gx} (h : l.length ≠ m.length) : sameL l m = false:=sameL_ne fun e => h (by rw [e])
theorem sameL_at {l m : List Gx} {k : Nat} (h : sameG (l[k]?.getD default) (m[k]?.getD default) = false) : sameL l m = false:=sameL_ne fun e => by
 rw [e,(sameG_iff _ _).2 rfl] at h; cases h
theorem sameL_all {l m : List Gx} (hl : l.length = m.length) (h : ∀ i,i < l.length -> sameG (l[i]?.getD default) (m[i]?.getD default) = true) : sameL l m = true:=by
 rw [sameL_iff]
 refine List.ext_getElem hl fun i h1 h2 => ?_
 have := (sameG_iff _ _).1 (h i h1)
 rwa [List.getElem?_eq_getElem h1,List.getElem?_eq_getElem h2] at this
theorem eqExprs_any (K : Nat) (u v : Value) (l m : List Gx) (g h : Nat -> Xv) (w : World) (hu : RowsV 9 (fun i j => (g i).cell j) K w u l.length) (hv : RowsV 9 (fun i j => (h i).cell j) K w v m.length) (hK : K <= w.heap.size)
  (hc : ∀ i,i < l.length -> i < m.length -> ∀ W,Below w.heap.size w W -> Calls Tryz.prog 145 #[(g i).agg,(h i).agg] W fun e w' => e = .returned (.bool (sameG (l[i]?.getD default) (m[i]?.getD default))) /\ Below W.heap.size W w') :
  Calls Tryz.prog 178 #[u,v,.func (.func 145) #[] #[]] w fun e w' => e = .returned (.bool (sameL l m)) /\ Below w.heap.size w w':=by
 obtain ⟨ua,ucap,rfl,hu1,hu2⟩:=id hu.form
 obtain ⟨va,vcap,rfl,hv1,hv2⟩:=id hv.form
 unfold maxLen at hv2 hu2
 by_cases hne : l.length = m.length
 case neg =>
  have HE:=Lib.hid (sameL_len hne)
  have hne2 : ¬ ((l.length : Int) = (m.length : Int)):=by omega
  clear hc
  go_enter Tryz.func178,Tryz.ntmps178
  go_wp2_with fail
  go_ret
  exact ⟨by rw [HE.out]; rfl,Below.refl _ _⟩
 case pos =>
 obtain ⟨q,hq⟩ : ∃ q,l.length = q:=⟨_,rfl⟩
 have hq' : m.length = q:=by rw [<- hne,hq]
 rw [hq] at hu hu1 ⊢
 rw [hq'] at hv hv1 ⊢
 have HC : Hid (∀ i,i < q -> ∀ W,Below w.heap.size w W -> Calls Tryz.prog 145 #[(g i).agg,(h i).agg] W fun e w' => e = .returned (.bool (sameG (l[i]?.getD default) (m[i]?.getD default))) /\ Below W.heap.size W w'):=Lib.hid fun i hi => hc i (by omega) (by omega)
 have HU:=Lib.hid hu
 have HV:=Lib.hid hv
 have HM:=Lib.hid hq
 have HL:=Lib.hid hq'
 clear hq hq' hne hc hu hv
 have hqq : ((q : Int) != (q : Int)) = false:=by simp
 go_enter Tryz.func178,Tryz.ntmps178
 go_wp2_with fail
 go_loopw [17] (fun i wr => ∃ k : Nat,k <= q /\ i = .int .i64 k /\ Below w.heap.size w wr /\ Hid (∀ i,i < k -> sameG (l[i]?.getD default) (m[i]?.getD default) = true)) (fun i _ => q - (intOf i).toNat)
 case atStart => exact ⟨0,Nat.zero_le _,rfl,Below.refl _ _,Lib.hid fun i hi => absurd hi (Nat.not_lt_zero i)⟩
 case round =>
  obtain ⟨k,hk,rfl,hbr,HALL⟩:=hrel
  by_cases hlt : k < q
  ·obtain ⟨b,o,cap,he,_,_,hbK,hc⟩:=HU.out.pos (by omega)
   simp only [Value.slice.injEq,true_and] at he
   obtain ⟨rfl,rfl⟩:=he
   obtain ⟨b',o',cap',he,_,_,hbK',hc'⟩:=HV.out.pos (by omega)
   simp only [Value.slice.injEq,true_and] at he
   obtain ⟨rfl,rfl⟩:=he
   obtain ⟨c0,c1,c2,c3,c4,c5,c6,c7,c8⟩:=ex_cells (cells_below hbr (by omega) hc) hlt
   obtain ⟨f0,f1,f2,f3,f4,f5,f6,f7,f8⟩:=ex_cells (cells_below hbr (by omega) hc') hlt
   have hcall:=HC.out k hlt
   obtain ⟨r,hr⟩ : ∃ r,sameG (l[k]?.getD default) (m[k]?.getD default) = r:=⟨_,rfl⟩
   rw [hr] at hcall
   obtain ⟨y,hy⟩ : ∃ y,g k = y:=⟨_,rfl⟩
   obtain ⟨z,hz⟩ : ∃ z,h k = z:=⟨_,rfl⟩
   rw [hy] at c0 c1 c2 c3 c4 c5 c6 c7 c8 hcall
   rw [hz] at f0 f1 f2 f3 f4 f5 f6 f7 f8 hcall
   have hsr:=hbr.size
   have hbl : b < wr.heap.size:=by omega
   have hbl' : b' < wr.heap.size:=by omega
   have hbW : Below w.heap.size w ((wr.alloc (.cells y.cells 49)).alloc (.cells z.cells 49)):=(hbr.alloc (by omega) _).alloc (by simp; omega) _
   have hcall2:=hcall _ hbW
   have HR:=Lib.hid hr
   have HBW:=Lib.hid hbW
   clear hy hz hc hc' hcall hr hbW
   go_wp2_with fail
   refine hcall2.mono ?_
   rintro e w2 ⟨rfl,hb2⟩
   clear hcall2 c0 c1 c2 c3 c4 c5 c6 c7 c8 f0 f1 f2 f3 f4 f5 f6 f7 f8
   have hb3 : Below w.heap.size w w2:=HBW.out.trans (hb2.mono (by simp; omega))
   cases r with
   | false =>
    have HE:=Lib.hid (sameL_at HR.out)
    go_wp2_with fail
    go_ret
    exact ⟨by rw [HE.out]; rfl,hb3⟩
   | true =>
    go_wp2_with fail
    refine ⟨⟨k + 1,by omega,by go_num,hb3,Lib.hid fun i hi => ?_⟩,by simp [intOf]; omega⟩
    by_cases hik : i = k
    ·rw [hik]; exact HR.out
    ·exact HALL.out i (by omega)
  ·obtain rfl : k = q:=by omega
   have HE:=Lib.hid (sameL_all (by rw [HM.out,HL.out]) (fun i hi => HALL.out i (by have := HM.out; omega)))
   go_wp2_with fail
   go_ret
   exact ⟨by rw [HE.out]; rfl,hbr⟩
theorem sameG_mk (a b : Gx) : sameG a b = (a.op == b.op && a.nm == b.nm && a.v == b.v && sameL a.args b.args):=by
 cases a; cases b; rw [sameG]; rfl
theorem gsame_at (m : Nat) : ∀ (K : Nat) (a b : Gx) (x y : Xv) (w : World),a.parts <= m -> ExG K w a x -> ExG K w b y -> K <= w.heap.size →
  Calls Tryz.prog 145 #[x.agg,y.agg] w fun e w' => e = .returned (.bool (sameG a b)) /\ Below w.heap.size w w':=by
 induction m with
 | zero => intro K a b x y w hm; cases a; rw [partsG_mk] at hm; omega
 | succ m ih =>
  intro K a b x y w hm ha hb hK
  obtain ⟨a1,a2,a3,av,g,ag,ags⟩:=ha.open
  obtain ⟨b1,b2,b3,bv,h,bg,bgs⟩:=hb.open
  have hbW : Below w.heap.size w ((w.alloc (.cells x.cells 49)).alloc (.cells y.cells 49)):=((Below.refl _ _).alloc (Nat.le_refl _) _).alloc (by simp) _
  have hc1:=tlsame_any w.heap.size a.v b.v x.vv y.vv _ (av.below hbW hK hK) (bv.below hbW hK hK) (by simp; omega)
  have HC2 : Hid (∀ W,Below w.heap.size w W -> Calls Tryz.prog 178 #[x.s8.val,y.s8.val,.func (.func 145) #[] #[]] W fun e w' => e = .returned (.bool (sameL a.args b.args)) /\ Below W.heap.size W w'):=Lib.hid fun W hW => by
   have hs:=hW.size
   refine eqExprs_any W.heap.size _ _ _ _ g h W (ag.below hW hK (by omega)) (bg.below hW hK (by omega)) (Nat.le_refl _) fun i hi hi' W' hW' => ?_
   have hs':=hW'.size
   have hWW : Below w.heap.size w W':=hW.trans (hW'.mono hs)
   have e1 : a.args[i]? = some (a.args[i]?.getD default):=by rw [List.getElem?_eq_getElem hi]; rfl
   have e2 : b.args[i]? = some (b.args[i]?.getD default):=by rw [List.getElem?_eq_getElem hi']; rfl
   have hp : (a.args[i]?.getD default).parts <= m:=by
    have := partsG_arg (List.mem_of_getElem? e1)
    rw [partsG_args] at hm; omega
   exact ih W'.heap.size _ _ _ _ W' hp ((ags i _ e1).below hWW hK (by omega)) ((bgs i _ e2).below hWW hK (by omega)) (Nat.le_refl _)
  have hs : sameG a b = (x.op == y.op && x.nm == y.nm && a.v == b.v && sameL a.args b.args):=by rw [sameG_mk,a1,a2,b1,b2]
  obtain ⟨r,hr⟩ : ∃ r,sameG a b = r:=⟨_,rfl⟩
  obtain ⟨r3,hr3⟩ : ∃ r,(a.v == b.v) = r:=⟨_,rfl⟩
  obtain ⟨r4,hr4⟩ : ∃ r,sameL a.args b.args = r:=⟨_,rfl⟩
  rw [hr,hr3,hr4] at hs
  rw [hr3] at hc1
  rw [hr4] at HC2
  rw [hr]
  have HS:=Lib.hid hs
  have HBW:=Lib.hid hbW
  have hxl : x.nm.length <= maxLen:=by rw [a2]; exact a3
  have hyl : y.nm.length <= maxLen:=by rw [b2]; exact b3
  obtain ⟨c1,hc1'⟩ : ∃ c,(x.op == y.op) = c:=⟨_,rfl⟩
  obtain ⟨c2,hc2'⟩ : ∃ c,(x.nm == y.nm) = c:=⟨_,rfl⟩
  rw [hc1',hc2'] at HS
  clear hs hr hr3 hr4 ha hb ih a1 a2 a3 av ag ags b1 b2 b3 bv bg bgs hm hbW
  obtain ⟨xop,xnm,xkd,xb3,⟨x4,x4n,x4m⟩,xb5,⟨x6,x6n,x6m⟩,xi7,⟨x8,x8n,x8m⟩⟩:=x
  obtain ⟨yop,ynm,ykd,yb3,⟨y4,y4n,y4m⟩,yb5,⟨y6,y6n,y6m⟩,yi7,⟨y8,y8n,y8m⟩⟩:=y
  dsimp only at hc1' hc2' hxl hyl
  cases c1 with
  | false =>
   go_enter Tryz.func145,Tryz.ntmps145
   go_wp2_with fail
   go_ret
   exact ⟨by rw [HS.out]; rfl,HBW.out⟩
  | true =>
   cases c2 with
   | false =>
    go_enter Tryz.func145,Tryz.ntmps145
    go_wp2_with fail
    go_ret
    exact ⟨by rw [HS.out]; rfl,HBW.out⟩
   | true =>
    have q1 : Blk ((w.alloc (.cells (⟨xop,xnm,xkd,xb3,⟨x4,x4n,x4m⟩,xb5,⟨x6,x6n,x6m⟩,xi7,⟨x8,x8n,x8m⟩⟩ : Xv).cells 49)).alloc (.cells (⟨yop,ynm,ykd,yb3,⟨y4,y4n,y4m⟩,yb5,⟨y6,y6n,y6m⟩,yi7,⟨y8,y8n,y8m⟩⟩ : Xv).cells 49)) w.heap.size _ 49:=(Blk.new w _ _).alloc _
    have q2:=Blk.new (w.alloc (.cells (⟨xop,xnm,xkd,xb3,⟨x4,x4n,x4m⟩,xb5,⟨x6,x6n,x6m⟩,xi7,⟨x8,x8n,x8m⟩⟩ : Xv).cells 49)) (⟨yop,ynm,ykd,yb3,⟨y4,y4n,y4m⟩,yb5,⟨y6,y6n,y6m⟩,yi7,⟨y8,y8n,y8m⟩⟩ : Xv).cells 49
    rw [World.size_alloc] at q2
    have HQ1:=Lib.hid q1
    have HQ2:=Lib.hid q2
    clear q1 q2
    go_enter Tryz.func145,Tryz.ntmps145
    go_wp2_with fail
    refine hc1.mono ?_
    rintro e w2 ⟨rfl,hb2⟩
    have hb3 : Below w.heap.size w w2:=HBW.out.trans (hb2.mono (by simp; omega))
    cases r3 with
    | false =>
     go_wp2_with fail
     go_ret
     exact ⟨by rw [HS.out]; rfl,hb3⟩
    | true =>
     have d8:=((HQ1.out.below hb2 (by simp; omega)).nine).2.2.2.2.2.2.2.2
     have f8:=((HQ2.out.below hb2 (by simp)).nine).2.2.2.2.2.2.2.2
     have hcall:=HC2.out w2 hb3
     go_wp2_with fail
     refine hcall.mono ?_
     rintro e w3 ⟨rfl,hb4⟩
     go_wp2_with fail
     go_ret
     exact ⟨by rw [HS.out]; rfl,hb3.trans (hb4.mono hb3.size)⟩
theorem gsame_any (K : Nat) (a b : Gx) (x y : Xv) (w : World) (ha : ExG K w a x) (hb : ExG K w b y) (hK : K <= w.heap.size) :
  Calls Tryz.prog 145 #[x.agg,y.agg] w fun e w' => e = .returned (.bool (sameG a b)) /\ Below w.heap.size w w':=gsame_at a.parts K a b x y w (Nat.le_refl _) ha hb hK
end Go.Proofs.YtlidpghnlloinaaGreatDoor
