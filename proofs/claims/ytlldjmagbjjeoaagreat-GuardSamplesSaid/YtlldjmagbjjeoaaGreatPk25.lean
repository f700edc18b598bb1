/- Contracts and plain laws, several texts in one (GCells, GCell, GSmp, GHold1, GHoldS, OWalk). No conditions beyond those stated. -/
import Derived.Sort.QuietIn
import Derived.Test.YtlldjmagbjjeoaaGreatPk20
import Derived.Test.YtlldjmagbjjeoaaGreatPk24
set_option maxRecDepth 100000
set_option maxHeartbeats 40000000
namespace Go.Proofs.YtlldjmagbjjeoaaGreat
open Go.RowKit
set_option linter.unusedVariables false
def possL (s : Sc) (k : Nat) : List Nat:=(List.range k).filter fun c => s.poss c
def cellsS (s : Sc) : List Nat:=if s.okB = true then possL s (cntN s.kd s.cuts.length) else []
theorem possL_succ (s : Sc) (k : Nat) : possL s (k + 1) = if s.poss k = true then possL s k ++ [k] else possL s k:=by
 unfold possL
 rw [List.range_succ,List.filter_append]
 simp only [List.filter_cons,List.filter_nil]
 split
 ·rfl
 ·simp
theorem possL_len (s : Sc) (k : Nat) : (possL s k).length <= k:=by
 unfold possL
 have := List.length_filter_le (fun c : Nat => s.poss c) (List.range k)
 rw [List.length_range] at this
 exact this
theorem okB_len {s : Sc} (h : s.okB = true) : s.cuts.length <= 32:=by
 unfold Sc.okB at h
 split at h
 ·rw [beq_iff_eq] at h; omega
 ·simp only [Bool.and_eq_true,decide_eq_true_eq] at h; omega
theorem gcells_any (K : Nat) (s : Sc) (y : Sv) (w : World) (hs : ScX K w s y) (hK : K <= w.heap.size) (hgo : ∀ c ∈ s.cuts,c.good = true) (hbig : s.cuts.length <= 2 ^ 38) :
  Calls Tryz.prog 7 #[y.agg] w fun e w' => ∃ v,e = .returned v /\ OwnN w.heap.size w' v (cellsS s) /\ Below w.heap.size w w':=by
 obtain ⟨W1,hW1⟩ : ∃ W1,w.alloc (.cells y.cells 34) = W1:=⟨_,rfl⟩
 have b1 : Below w.heap.size w W1:=by rw [<- hW1]; exact (Below.refl _ _).alloc (Nat.le_refl _) _
 have q1 : Blk W1 w.heap.size y.cells 34:=by rw [<- hW1]; exact Blk.new w _ _
 have s1 : W1.heap.size = w.heap.size + 1:=by rw [<- hW1]; simp
 obtain ⟨B,hB⟩ : ∃ B,w.heap.size = B:=⟨_,rfl⟩
 have HB:=Lib.hid hB
 have HW:=Lib.hid hW1
 rw [hB] at hK b1 q1 s1 ⊢
 have hv:=gvalid_any B s y W1 (hs.below b1 hK hK) (by omega) hgo hbig
 have hcuts:=hs.cuts.below b1 hK hK
 have hkd:=hs.kd
 clear hB hW1 hs hgo
 obtain ⟨va,vcap,hve,_,_⟩:=id hcuts.form
 obtain ⟨⟨yop,ynm,yk,yb3,⟨y4,y4n,y4m⟩,yb5,⟨y6,y6n,y6m⟩,yi7,⟨y8,y8n,y8m⟩⟩,sk,⟨ca,cn,cm⟩⟩:=y
 dsimp only [Sl.val] at hve hkd hcuts
 simp only [Value.slice.injEq] at hve
 obtain ⟨rfl,rfl,rfl⟩:=hve
 subst hkd
 obtain ⟨n,hnl⟩ : ∃ n,s.cuts.length = n:=⟨_,rfl⟩
 rw [hnl] at hv hcuts q1 HW hbig ⊢
 have HN:=Lib.hid hnl
 obtain ⟨kd,hkd⟩ : ∃ kd,s.kd = kd:=⟨_,rfl⟩
 rw [hkd] at hv q1 HW ⊢
 have HKD:=Lib.hid hkd
 have HQ1:=Lib.hid q1
 have HCU:=Lib.hid hcuts
 clear hcuts hnl hkd
 obtain ⟨r,hr⟩ : ∃ r,s.okB = r:=⟨_,rfl⟩
 rw [hr] at hv
 have HR:=Lib.hid hr
 clear hr
 obtain ⟨d0,d1,d2,d3,d4,d5,d6,d7,d8,d9,d10⟩:=q1.eleven
 clear q1
 cases r with
 | false =>
  have hcs : cellsS s = []:=by unfold cellsS; rw [HR.out]; rfl
  rw [hcs]
  go_enter Tryz.func7,Tryz.ntmps7
  go_upto_region 1 with fail
  simp only [HB.out]
  rw [HW.out]
  go_wp2_with fail
  refine hv.mono ?_
  rintro e w2 ⟨rfl,hb2⟩
  go_wp2_with fail
  go_ret
  exact ⟨_,rfl,OwnN.nil _ _,b1.trans (hb2.mono (by omega))⟩
 | true =>
  have hn32 : n <= 32:=by rw [<- HN.out]; exact okB_len HR.out
  obtain ⟨q,hq⟩ : ∃ q,cntN kd n = q:=⟨_,rfl⟩
  have hq65 : q <= 65:=by rw [<- hq]; unfold cntN; split <;> omega
  have hcs : cellsS s = possL s q:=by unfold cellsS; rw [HR.out,if_pos rfl,HKD.out,HN.out,hq]
  rw [hcs]
  have HQ:=Lib.hid hq
  clear hq hcs
  go_enter Tryz.func7,Tryz.ntmps7
  go_upto_region 1 with fail
  simp only [HB.out]
  rw [HW.out]
  go_wp2_with fail
  refine hv.mono ?_
  rintro e w2 ⟨rfl,hb2⟩
  clear d0 d1 d2 d3 d4 d5 d6 d7 d8 d9 d10 hv
  have qB2:=HQ1.out.below hb2 (by omega)
  have hcnt:=gcount_any B 0 n cm ca kd w2 (qB2.at rfl) (qB2.at rfl) hbig
  rw [HQ.out] at hcnt
  clear qB2
  go_wp2_with fail
  refine hcnt.mono ?_
  rintro e w3 ⟨rfl,hb3⟩
  clear hcnt
  have hb13 : Below W1.heap.size W1 w3:=hb2.trans (hb3.mono hb2.size)
  clear hb2 hb3
  go_wp2_with fail
  go_loopw [9,3] (fun i lv wr => ∃ k : Nat,k <= q /\ i = .int .i64 k /\ Below W1.heap.size W1 wr /\ OwnN (B + 1) wr lv (possL s k)) (fun i lv _ => q - (intOf i).toNat)
  case atStart => exact ⟨0,Nat.zero_le _,rfl,hb13,OwnN.nil _ _⟩
  case round =>
   obtain ⟨k,hk,rfl,hbr,hown⟩:=hrel
   have hsr:=hbr.size
   by_cases hlt : k < q
   ·have qB:=HQ1.out.below hbr (by omega)
    have hpos:=gposs_any B B 0 (.slice ca n cm) s k wr (HCU.out.below hbr (by omega) (Nat.le_refl _)) (by omega) qB.lt (by rw [HKD.out]; exact qB.at rfl) (qB.at rfl) (by rw [HN.out]; exact hbig) (okB_cuts HR.out)
    obtain ⟨rp,hrp⟩ : ∃ rp,s.poss k = rp:=⟨_,rfl⟩
    rw [hrp] at hpos
    have HRP:=Lib.hid hrp
    clear hrp qB
    have HOWN:=Lib.hid hown
    obtain ⟨la,lc,rfl,_,_⟩:=hown.form
    clear hown
    go_wp2_with fail
    refine hpos.mono ?_
    rintro e w4 ⟨rfl,hb4⟩
    clear hpos
    have hb5 : Below W1.heap.size W1 w4:=hbr.trans (hb4.mono hsr)
    have hown4:=HOWN.out.old hb4 (Nat.le_refl _)
    have hsucc:=possL_succ s k
    rw [HRP.out] at hsucc
    have HSU:=Lib.hid hsucc
    have hlen:=possL_len s k
    have hs5:=hb5.size
    clear hsucc
    cases rp with
    | false =>
     go_wp2_with fail
     exact ⟨⟨k + 1,by omega,by simp,hb5,by rw [HSU.out]; exact hown4⟩,by simp [intOf]; omega⟩
    | true =>
     go_wp2_with (at_builtin; refine wpList_append_N rfl (.tmp 14) (.tmp 16) rfl rfl rfl (hown4.old ((Below.refl _ _).alloc (Nat.le_refl _) _) (Nat.le_refl _)) ((Blk.new w4 #[Z k] _).at rfl) (by omega) (by simp; omega) ?_; intro g1 cap1 w6 hown6 hg6 hat6)
     have hb6 : Below W1.heap.size W1 w6:=(hb5.alloc hs5 (.cells #[Z k] 3)).trans (below_grown hg6 (fun r e => by have := (ownsRow_cells hown4 e).1; omega) (by simp; omega))
     exact ⟨⟨k + 1,by omega,by simp,hb6,by rw [HSU.out]; exact hown6⟩,by simp [intOf]; omega⟩
   ·obtain rfl : k = q:=by omega
    go_wp2_with fail
    go_ret
    exact ⟨_,rfl,hown.mono (by omega),b1.trans (hbr.mono (by omega))⟩
theorem vlt_tr {a b c : Vq} (ha : a.ok = true) (hb : b.ok = true) (hc : c.ok = true) (h1 : vlt a b) (h2 : vlt b c) : vlt a c:=by
 unfold vlt at *
 have pa:=vbot_pos ha
 have pb:=vbot_pos hb
 have pc:=vbot_pos hc
 have e1:=Int.mul_lt_mul_of_pos_right h1 pc
 have e2:=Int.mul_lt_mul_of_pos_right h2 pa
 refine Int.lt_of_mul_lt_mul_right (a:=b.bot) ?_ (Int.le_of_lt pb)
 calc a.top * c.bot * b.bot = a.top * b.bot * c.bot:=by rw [Int.mul_assoc,Int.mul_comm c.bot,<- Int.mul_assoc]
  _ < b.top * a.bot * c.bot:=e1
  _ = b.top * c.bot * a.bot:=by rw [Int.mul_assoc,Int.mul_comm a.bot,<- Int.mul_assoc]
  _ < c.top * b.bot * a.bot:=e2
  _ = c.top * a.bot * b.bot:=by rw [Int.mul_assoc,Int.mul_comm b.bot,<- Int.mul_assoc]
theorem okB_cutsOk {s : Sc} (h : s.okB = true) (hg : ∀ v ∈ s.cuts,v.good = true) : CutsOk s.kd s.cuts:=by
 refine ⟨hg,fun c hc => (okB_cuts h c hc).1,fun c hc => (okB_cuts h c hc).2,?_⟩
 have hadj : ∀ i,i + 1 < s.cuts.length -> vlt (s.cuts[i]?.getD v0) (s.cuts[i + 1]?.getD v0):=by
  intro i hi
  unfold Sc.okB at h
  split at h
  ·rw [beq_iff_eq] at h; omega
  ·simp only [Bool.and_eq_true,List.all_eq_true,List.mem_range] at h
   have := h.2 (i + 1) hi
   unfold cutB at this
   simp only [Bool.and_eq_true,Bool.or_eq_true,beq_iff_eq,Nat.add_one_ne_zero,false_or,Nat.add_sub_cancel,Bool.not_eq_true'] at this
   have h9:=this.2
   unfold vle at h9
   rw [decide_eq_false_iff_not] at h9
   unfold vlt
   omega
 have hok : ∀ i,i < s.cuts.length -> (s.cuts[i]?.getD v0).ok = true:=fun i hi => by
  rw [List.getElem?_eq_getElem hi]; exact (okB_cuts h _ (List.getElem_mem hi)).1
 have key : ∀ d i,i + d + 1 < s.cuts.length -> vlt (s.cuts[i]?.getD v0) (s.cuts[i + d + 1]?.getD v0):=by
  intro d
  induction d with
  | zero => intro i hi; exact hadj i hi
  | succ d ih =>
   intro i hi
   exact vlt_tr (hok _ (by omega)) (hok (i + d + 1) (by omega)) (hok _ hi) (ih i (by omega)) (hadj (i + d + 1) hi)
 rw [List.pairwise_iff_getElem]
 intro i j hi hj hij
 have := key (j - i - 1) i (by omega)
 rw [show i + (j - i - 1) + 1 = j by omega,List.getElem?_eq_getElem hi,List.getElem?_eq_getElem hj] at this
 exact this
def cellS (s : Sc) (v : Vq) : Int × Bool :=
 if s.okB = false \/ v.ok = false then (0,false) else if s.kd = 0 then (if v.kd = 1 then (v.i,true) else (0,false)) else if v.kd ≠ s.kd then (0,false)
 else if fnd s.cuts v = true then (2 * (srch s.cuts v : Int) + 1,true) else (2 * (srch s.cuts v : Int),true)
theorem gcell_any (K : Nat) (s : Sc) (y : Sv) (v : Vq) (x : Vv) (w : World) (hs : ScX K w s y) (hx : VlX K w v x) (hK : K <= w.heap.size) (hgo : ∀ c ∈ s.cuts,c.good = true) (hvg : v.good = true) (hbig : s.cuts.length <= 2 ^ 38) :
  Calls Tryz.prog 10 #[y.agg,x.agg] w fun e w' => e = .returned (.tuple #[.int .i64 (cellS s v).1,.bool (cellS s v).2]) /\ Below w.heap.size w w':=by
 obtain ⟨W1,hW1⟩ : ∃ W1,(w.alloc (.cells y.cells 34)).alloc (.cells x.cells 28) = W1:=⟨_,rfl⟩
 have b1 : Below w.heap.size w W1:=by rw [<- hW1]; exact ((Below.refl _ _).alloc (Nat.le_refl _) _).alloc (by simp) _
 have q1 : Blk W1 w.heap.size y.cells 34:=by rw [<- hW1]; exact (Blk.new w _ _).alloc _
 have q2 : Blk W1 (w.heap.size + 1) x.cells 28:=by
  rw [<- hW1]
  have := Blk.new (w.alloc (.cells y.cells 34)) x.cells 28
  rwa [World.size_alloc] at this
 have s1 : W1.heap.size = w.heap.size + 2:=by rw [<- hW1]; simp
 obtain ⟨B,hB⟩ : ∃ B,w.heap.size = B:=⟨_,rfl⟩
 have HB:=Lib.hid hB
 have HW:=Lib.hid hW1
 rw [hB] at hK b1 q1 q2 s1 ⊢
 have hv:=gvalid_any B s y W1 (hs.below b1 hK hK) (by omega) hgo hbig
 have hcuts:=hs.cuts.below b1 hK hK
 have hx1:=hx.below b1 hK hK
 have hkd:=hs.kd
 clear hB hW1 hs hx
 obtain ⟨va,vcap,hve,_,_⟩:=id hcuts.form
 obtain ⟨a1,m1,hv1,_⟩:=hx1.n.form
 obtain ⟨a2,m2,hv2,_⟩:=hx1.d.form
 have hvk:=hx1.kd
 have hvi:=hx1.i
 obtain ⟨⟨yop,ynm,yk,yb3,⟨y4,y4n,y4m⟩,yb5,⟨y6,y6n,y6m⟩,yi7,⟨y8,y8n,y8m⟩⟩,sk,⟨ca,cn,cm⟩⟩:=y
 dsimp only [Sl.val] at hve hkd hcuts
 simp only [Value.slice.injEq] at hve
 obtain ⟨rfl,rfl,rfl⟩:=hve
 subst hkd
 obtain ⟨l1n,hl1n⟩ : ∃ n,v.l1.length = n:=⟨_,rfl⟩
 obtain ⟨l2n,hl2n⟩ : ∃ n,v.l2.length = n:=⟨_,rfl⟩
 rw [hl1n] at hv1
 rw [hl2n] at hv2
 have HX:=Lib.hid hx1
 have HCU:=Lib.hid hcuts
 obtain ⟨kx,f1,x1,f2,x2,xi⟩:=x
 dsimp only at hv1 hv2 hvk hvi
 subst hv1 hv2
 have hvv : ∀ W,Below W1.heap.size W1 W -> Calls Tryz.prog 27 #[.agg #[.int .u8 kx,.bool f1,.slice a1 l1n m1,.bool f2,.slice a2 l2n m2,.int .i64 xi]] W fun e w' => e = .returned (.bool v.ok) /\ Below W.heap.size W w':=fun W hb => by
  have := hb.size
  exact tlvalid_any B v ⟨kx,f1,.slice a1 l1n m1,f2,.slice a2 l2n m2,xi⟩ W (hx1.below hb (by rw [s1]; omega) (Nat.le_refl _)) (by rw [s1] at this; omega) hvg
 have hsr : s.okB = true -> v.ok = true -> kx = s.kd -> ∀ W,Below W1.heap.size W1 W -> Calls Tryz.prog 28 #[.pointer (some ⟨B,0,none⟩),.agg #[.int .u8 kx,.bool f1,.slice a1 l1n m1,.bool f2,.slice a2 l2n m2,.int .i64 xi]] W fun e w' => e = .returned (.tuple #[.int .i64 (srch s.cuts v),.bool (fnd s.cuts v)]) /\ Below W.heap.size W w':=fun h1 h2 h3 W hb => by
  have := hb.size
  have hq:=q1.below hb q1.lt
  exact gsearch_any B B 0 _ s.cuts s.kd v ⟨kx,f1,.slice a1 l1n m1,f2,.slice a2 l2n m2,xi⟩ W (hcuts.below hb (by rw [s1]; omega) (Nat.le_refl _)) (hx1.below hb (by rw [s1]; omega) (Nat.le_refl _)) (okB_cutsOk h1 hgo) hvg h2 (by rw [<- hvk]; exact h3) (by rw [s1] at this; omega) (hq.at rfl) (by rw [s1] at this; omega) hbig
 obtain ⟨n,hnl⟩ : ∃ n,s.cuts.length = n:=⟨_,rfl⟩
 rw [hnl] at hv hcuts q1 HW hbig ⊢
 have HVV:=Lib.hid hvv
 have HSR:=Lib.hid hsr
 have HQ1:=Lib.hid q1
 have HQ2:=Lib.hid q2
 have hsl : srch s.cuts v <= n:=by rw [<- hnl]; exact srch_le _ _
 obtain ⟨rs,hrs⟩ : ∃ r,s.okB = r:=⟨_,rfl⟩
 rw [hrs] at hv
 have HRS:=Lib.hid hrs
 have HVK:=Lib.hid hvk
 have HVI:=Lib.hid hvi
 have HN:=Lib.hid hnl
 obtain ⟨kd,hkd⟩ : ∃ kd,s.kd = kd:=⟨_,rfl⟩
 rw [hkd] at hv HW HQ1 ⊢
 have HKD:=Lib.hid hkd
 obtain ⟨C,hC⟩ : ∃ C,cellS s v = C:=⟨_,rfl⟩
 rw [hC]
 have HC:=Lib.hid hC
 obtain ⟨d0,d1,d2,d3,d4,d5,d6,d7,d8,d9,d10⟩:=q1.eleven
 rw [hkd] at d9
 clear hl1n hl2n hvv hsr hcuts hrs hvk hvi hx1 hgo hvg hnl q1 q2 hkd hC
 cases rs with
 | false =>
  have hc:=HC.out
  unfold cellS at hc
  rw [if_pos (.inl HRS.out)] at hc
  subst hc
  go_enter Tryz.func10,Tryz.ntmps10
  go_upto_region 1 with fail
  simp only [HB.out]
  rw [HW.out]
  go_wp2_with fail
  refine hv.mono ?_
  rintro e w2 ⟨rfl,hb2⟩
  go_wp2_with fail
  go_ret2
  exact ⟨rfl,b1.trans (hb2.mono (by omega))⟩
 | true =>
  obtain ⟨rv,hrv⟩ : ∃ r,v.ok = r:=⟨_,rfl⟩
  rw [hrv] at HVV
  have HRV:=Lib.hid hrv
  clear hrv
  cases rv with
  | false =>
   have hc:=HC.out
   unfold cellS at hc
   rw [if_pos (.inr HRV.out)] at hc
   subst hc
   go_enter Tryz.func10,Tryz.ntmps10
   go_upto_region 1 with fail
   simp only [HB.out]
   rw [HW.out]
   have hb0:=Below.refl W1.heap.size W1
   obtain ⟨u0,u1,u2,u3,u4,u5⟩:=HQ2.out.six
   go_wp2_with fail
   refine hv.mono ?_
   rintro e w2 ⟨rfl,hb2⟩
   clear u0 u1 u2 u3 u4 u5
   obtain ⟨u0,u1,u2,u3,u4,u5⟩:=(HQ2.out.below hb2 (by omega)).six
   go_wp2_with fail
   refine (HVV.out _ hb2).mono ?_
   rintro e w3 ⟨rfl,hb3⟩
   go_wp2_with fail
   go_ret2
   exact ⟨rfl,b1.trans ((hb2.trans (hb3.mono hb2.size)).mono (by omega))⟩
  | true =>
   have hc:=HC.out
   unfold cellS at hc
   rw [if_neg (by rw [HRS.out,HRV.out]; simp),HKD.out,<- HVK.out,<- HVI.out] at hc
   by_cases h0 : kd = 0
   ·subst h0
    rw [if_pos rfl] at hc
    by_cases h1 : kx = 1
    ·subst h1
     rw [if_pos rfl] at hc
     subst hc
     go_enter Tryz.func10,Tryz.ntmps10
     go_upto_region 1 with fail
     simp only [HB.out]
     rw [HW.out]
     obtain ⟨u0,u1,u2,u3,u4,u5⟩:=HQ2.out.six
     go_wp2_with fail
     refine hv.mono ?_
     rintro e w2 ⟨rfl,hb2⟩
     clear u0 u1 u2 u3 u4 u5
     obtain ⟨u0,u1,u2,u3,u4,u5⟩:=(HQ2.out.below hb2 (by omega)).six
     go_wp2_with fail
     refine (HVV.out _ hb2).mono ?_
     rintro e w3 ⟨rfl,hb3⟩
     clear u0 u1 u2 u3 u4 u5 d0 d1 d2 d3 d4 d5 d6 d7 d8 d9 d10
     have hb13 : Below W1.heap.size W1 w3:=hb2.trans (hb3.mono hb2.size)
     clear hb2 hb3
     obtain ⟨u0,u1,u2,u3,u4,u5⟩:=(HQ2.out.below hb13 (by omega)).six
     have d9:=(HQ1.out.below hb13 (by omega)).at (i:=9) rfl
     go_wp2_with fail
     go_ret2
     exact ⟨rfl,b1.trans (hb13.mono (by omega))⟩
    ·rw [if_neg h1] at hc
     subst hc
     have e1 : (kx == 1) = false:=by simpa using h1
     have e2 : (kx != 1) = true:=by simpa using h1
     go_enter Tryz.func10,Tryz.ntmps10
     go_upto_region 1 with fail
     simp only [HB.out]
     rw [HW.out]
     obtain ⟨u0,u1,u2,u3,u4,u5⟩:=HQ2.out.six
     go_wp2_with fail
     refine hv.mono ?_
     rintro e w2 ⟨rfl,hb2⟩
     clear u0 u1 u2 u3 u4 u5
     obtain ⟨u0,u1,u2,u3,u4,u5⟩:=(HQ2.out.below hb2 (by omega)).six
     go_wp2_with fail
     refine (HVV.out _ hb2).mono ?_
     rintro e w3 ⟨rfl,hb3⟩
     clear u0 u1 u2 u3 u4 u5 d0 d1 d2 d3 d4 d5 d6 d7 d8 d9 d10
     have hb13 : Below W1.heap.size W1 w3:=hb2.trans (hb3.mono hb2.size)
     clear hb2 hb3
     obtain ⟨u0,u1,u2,u3,u4,u5⟩:=(HQ2.out.below hb13 (by omega)).six
     have d9:=(HQ1.out.below hb13 (by omega)).at (i:=9) rfl
     go_wp2_with fail
     go_ret2
     exact ⟨rfl,b1.trans (hb13.mono (by omega))⟩
   ·rw [if_neg h0] at hc
    have e0 : (kd == 0) = false:=by simpa using h0
    by_cases h1 : kx = kd
    ·rw [if_neg (by simpa using h1)] at hc
     subst h1
     have hsc:=HSR.out HRS.out HRV.out HKD.out.symm
     obtain ⟨f,hf⟩ : ∃ f,fnd s.cuts v = f:=⟨_,rfl⟩
     obtain ⟨r,hr⟩ : ∃ r,srch s.cuts v = r:=⟨_,rfl⟩
     rw [hf,hr] at hsc hc
     rw [hr] at hsl
     have hw1 : IntKind.i64.wrap (2 * (r : Int)) = 2 * (r : Int):=IntWalk.i64_in _ (by omega)
     have hw2 : IntKind.i64.wrap (2 * (r : Int) + 1) = 2 * (r : Int) + 1:=IntWalk.i64_in _ (by omega)
     have HS:=Lib.hid hsc
     clear hsc hf hr h0
     go_enter Tryz.func10,Tryz.ntmps10
     go_upto_region 1 with fail
     simp only [HB.out]
     rw [HW.out]
     obtain ⟨u0,u1,u2,u3,u4,u5⟩:=HQ2.out.six
     go_wp2_with fail
     refine hv.mono ?_
     rintro e w2 ⟨rfl,hb2⟩
     clear u0 u1 u2 u3 u4 u5
     obtain ⟨u0,u1,u2,u3,u4,u5⟩:=(HQ2.out.below hb2 (by omega)).six
     go_wp2_with fail
     refine (HVV.out _ hb2).mono ?_
     rintro e w3 ⟨rfl,hb3⟩
     clear u0 u1 u2 u3 u4 u5 d0 d1 d2 d3 d4 d5 d6 d7 d8 d9 d10
     have hb13 : Below W1.heap.size W1 w3:=hb2.trans (hb3.mono hb2.size)
     clear hb2 hb3
     obtain ⟨u0,u1,u2,u3,u4,u5⟩:=(HQ2.out.below hb13 (by omega)).six
     have d9:=(HQ1.out.below hb13 (by omega)).at (i:=9) rfl
     go_wp2_with fail
     refine (HS.out _ hb13).mono ?_
     rintro e w4 ⟨rfl,hb4⟩
     have hb14 : Below W1.heap.size W1 w4:=hb13.trans (hb4.mono hb13.size)
     cases f with
     | true =>
      rw [if_pos rfl] at hc
      subst hc
      go_wp2_with fail
      go_ret2
      exact ⟨rfl,b1.trans (hb14.mono (by omega))⟩
     | false =>
      rw [if_neg (by simp)] at hc
      subst hc
      go_wp2_with fail
      go_ret2
      exact ⟨rfl,b1.trans (hb14.mono (by omega))⟩
    ·rw [if_pos h1] at hc
     subst hc
     have e1 : (kx == kd) = false:=by simpa using h1
     have e2 : (kx != kd) = true:=by simpa using h1
     clear h0 h1
     go_enter Tryz.func10,Tryz.ntmps10
     go_upto_region 1 with fail
     simp only [HB.out]
     rw [HW.out]
     obtain ⟨u0,u1,u2,u3,u4,u5⟩:=HQ2.out.six
     go_wp2_with fail
     refine hv.mono ?_
     rintro e w2 ⟨rfl,hb2⟩
     clear u0 u1 u2 u3 u4 u5
     obtain ⟨u0,u1,u2,u3,u4,u5⟩:=(HQ2.out.below hb2 (by omega)).six
     go_wp2_with fail
     refine (HVV.out _ hb2).mono ?_
     rintro e w3 ⟨rfl,hb3⟩
     clear u0 u1 u2 u3 u4 u5 d0 d1 d2 d3 d4 d5 d6 d7 d8 d9 d10
     have hb13 : Below W1.heap.size W1 w3:=hb2.trans (hb3.mono hb2.size)
     clear hb2 hb3
     obtain ⟨u0,u1,u2,u3,u4,u5⟩:=(HQ2.out.below hb13 (by omega)).six
     have d9:=(HQ1.out.below hb13 (by omega)).at (i:=9) rfl
     go_wp2_with fail
     go_ret2
     exact ⟨rfl,b1.trans (hb13.mono (by omega))⟩
abbrev wholeX (kd i : Int) : Vv:=⟨kd,false,.slice none 0 0,false,.slice none 0 0,i⟩
def wholeV (kd i : Int) : Vq:=⟨kd,false,[],false,[],i⟩
theorem wholeX_is (K : Nat) (w : World) (kd i : Int) : VlX K w (wholeV kd i) (wholeX kd i):=⟨rfl,rfl,rfl,rfl,Lm.nil K w,Lm.nil K w⟩
theorem isDay_no {kd : Int} (h : isDay kd = true) : (kd != 2) = true /\ (kd != 3) = true /\ (kd == 0) = false:=by
 unfold isDay at h
 simp only [Bool.or_eq_true,beq_iff_eq] at h
 refine ⟨?_,?_,?_⟩ <;> simp <;> omega
theorem gbesideW_any (kd i n : Int) (f1 f2 : Bool) (a1 a2 : Option Addr) (n1 m1 n2 m2 : Nat) (w : World) (hk : isDay kd = true) (hi : -1048576 <= i /\ i <= 1048576) (hn : -2 <= n /\ n <= 2) :
  Calls Tryz.prog 25 #[(⟨kd,f1,.slice a1 n1 m1,f2,.slice a2 n2 m2,i⟩ : Vv).agg,.int .i64 n] w fun e w' => e = .returned (.tuple #[(wholeX kd (i + n)).agg,.bool true]) /\ Below w.heap.size w w':=by
 obtain ⟨W1,hW1⟩ : ∃ W1,(w.alloc (.cells (⟨kd,f1,.slice a1 n1 m1,f2,.slice a2 n2 m2,i⟩ : Vv).cells 28)).alloc (.cells vv0.cells 28) = W1:=⟨_,rfl⟩
 have b1 : Below w.heap.size w W1:=by rw [<- hW1]; exact ((Below.refl _ _).alloc (Nat.le_refl _) _).alloc (by simp) _
 have q1 : Blk W1 w.heap.size (⟨kd,f1,.slice a1 n1 m1,f2,.slice a2 n2 m2,i⟩ : Vv).cells 28:=by rw [<- hW1]; exact (Blk.new w _ _).alloc _
 have q2 : Blk W1 (w.heap.size + 1) vv0.cells 28:=by
  rw [<- hW1]
  have := Blk.new (w.alloc (.cells (⟨kd,f1,.slice a1 n1 m1,f2,.slice a2 n2 m2,i⟩ : Vv).cells 28)) vv0.cells 28
  rwa [World.size_alloc] at this
 have s1 : W1.heap.size = w.heap.size + 2:=by rw [<- hW1]; simp
 obtain ⟨B,hB⟩ : ∃ B,w.heap.size = B:=⟨_,rfl⟩
 have HB:=Lib.hid hB
 have HW:=Lib.hid hW1
 rw [hB] at b1 q1 q2 s1 ⊢
 dsimp only [Vv.cells,vv0] at HW
 obtain ⟨e2,e3,_⟩:=isDay_no hk
 obtain ⟨c0,c1,c2,c3,c4,c5⟩:=q1.six
 have hw1 : IntKind.i64.wrap (i + n) = i + n:=IntWalk.i64_in _ (by omega)
 have h1c : ∀ u ∈ (wholeX kd (i + n)).cells,u.oneCell' = true:=by simp [Value.oneCell']
 have HQ2:=Lib.hid q2
 have infoV : (Tryz.prog.info? 28).map (fun i => i.size) = some 6:=by kernel_rfl
 have HI:=Lib.hid infoV
 clear hB hW1 hi hn hk q2 infoV
 go_enter Tryz.func25,Tryz.ntmps25
 go_upto_region 1 with fail
 simp only [HB.out]
 rw [HW.out]
 go_upto_region 2 with fail
 go_wp2_with (refine wpList_store_blk rfl 28 28 (.tmp 4) (.tmp 22) rfl (wholeX kd (i + n)).cells _ (B + 1) HQ2.out HI.out rfl h1c rfl rfl ?_; intro W2 t1 t2 t3 t4)
 refine bodyPost_ret (v:=.tuple #[(wholeX kd (i + n)).agg,.bool true]) ?_ rfl ?_
 ·obtain ⟨e0,e1,e2,e3,e4,e5⟩:=t1.six
  simp [results,Tryz.results25,go_sem,e0,e1,e2,e3,e4,e5]
 exact ⟨rfl,b1.trans (t2 _ (by omega))⟩
theorem gmiddleW_any (kd i j : Int) (f1 f2 g1 g2 : Bool) (a1 a2 a3 a4 : Option Addr) (n1 m1 n2 m2 n3 m3 n4 m4 : Nat) (w : World) (hk : isDay kd = true) (hi : -1048576 <= i /\ i <= 1048576) (hj : -1048576 <= j /\ j <= 1048576) (k2 : Int) :
  Calls Tryz.prog 26 #[(⟨kd,f1,.slice a1 n1 m1,f2,.slice a2 n2 m2,i⟩ : Vv).agg,(⟨k2,g1,.slice a3 n3 m3,g2,.slice a4 n4 m4,j⟩ : Vv).agg] w fun e w' => e = .returned (.tuple #[(wholeX kd ((i + j) / 2)).agg,.bool true]) /\ Below w.heap.size w w':=by
 obtain ⟨W1,hW1⟩ : ∃ W1,((w.alloc (.cells (⟨kd,f1,.slice a1 n1 m1,f2,.slice a2 n2 m2,i⟩ : Vv).cells 28)).alloc (.cells (⟨k2,g1,.slice a3 n3 m3,g2,.slice a4 n4 m4,j⟩ : Vv).cells 28)).alloc (.cells vv0.cells 28) = W1:=⟨_,rfl⟩
 obtain ⟨b1,q1,q2,q3,s1⟩:=alloc3 w _ _ _ _ _ _ hW1
 obtain ⟨B,hB⟩ : ∃ B,w.heap.size = B:=⟨_,rfl⟩
 have HB:=Lib.hid hB
 have HW:=Lib.hid hW1
 rw [hB] at b1 q1 q2 q3 s1 ⊢
 dsimp only [Vv.cells,vv0] at HW
 obtain ⟨e2,e3,_⟩:=isDay_no hk
 obtain ⟨c0,c1,c2,c3,c4,c5⟩:=q1.six
 have u5:=q2.at (i:=5) (x:=.int .i64 j) rfl
 obtain ⟨t,ht⟩ : ∃ t,i + j = t:=⟨_,rfl⟩
 have hw1 : IntKind.i64.wrap (i + j) = t:=by rw [ht]; exact IntWalk.i64_in _ (by omega)
 rw [ht]
 have h1c : ∀ u ∈ (wholeX kd (t / 2)).cells,u.oneCell' = true:=by simp [Value.oneCell']
 have HQ3:=Lib.hid q3
 have infoV : (Tryz.prog.info? 28).map (fun i => i.size) = some 6:=by kernel_rfl
 have HI:=Lib.hid infoV
 clear hB hW1 hi hj hk q3 infoV ht
 go_enter Tryz.func26,Tryz.ntmps26
 go_upto_region 1 with fail
 simp only [HB.out,Nat.add_assoc,Nat.reduceAdd]
 rw [HW.out]
 go_upto_region 2 with fail
 go_wp2_with (refine wpList_store_blk rfl 28 28 (.tmp 4) (.tmp 24) rfl (wholeX kd (t / 2)).cells _ (B + 2) HQ3.out HI.out rfl h1c rfl rfl ?_; intro W2 t1 t2 t3 t4)
 refine bodyPost_ret (v:=.tuple #[(wholeX kd (t / 2)).agg,.bool true]) ?_ rfl ?_
 ·obtain ⟨e0,e1,e2,e3,e4,e5⟩:=t1.six
  simp [results,Tryz.results26,go_sem,e0,e1,e2,e3,e4,e5]
 exact ⟨rfl,b1.trans (t2 _ (by omega))⟩
def testH (t : Tq) (s : Sc) (c : Int) : Bool × Bool :=
 if t.kd = 0 then (c == 1,true) else if fnd s.cuts t.cut = false then (false,false)
 else if t.op = 14 then (c == 2 * (srch s.cuts t.cut : Int) + 1,true)
 else if t.snd = true then (decide (2 * (srch s.cuts t.cut : Int) + 1 < c),true) else (decide (c < 2 * (srch s.cuts t.cut : Int) + 1),true)
theorem tholds_any (K : Nat) (t : Tq) (s : Sc) (c : Int) (x : Tv) (y : Sv) (w : World) (ht : TqX K w t x) (hs : ScX K w s y) (hK : K <= w.heap.size) (hcc : CutsOk s.kd s.cuts) (htk : t.kd ≠ 0 -> t.cut.good = true /\ t.cut.ok = true /\ t.cut.kd = s.kd) (hbig : s.cuts.length <= 2 ^ 38) :
  Calls Tryz.prog 42 #[x.agg,y.agg,.int .i64 c] w fun e w' => e = .returned (.tuple #[.bool (testH t s c).1,.bool (testH t s c).2]) /\ Below w.heap.size w w':=by
 obtain ⟨W1,hW1⟩ : ∃ W1,(w.alloc (.cells x.cells 73)).alloc (.cells y.cells 34) = W1:=⟨_,rfl⟩
 have b1 : Below w.heap.size w W1:=by rw [<- hW1]; exact ((Below.refl _ _).alloc (Nat.le_refl _) _).alloc (by simp) _
 have q1 : Blk W1 w.heap.size x.cells 73:=by rw [<- hW1]; exact (Blk.new w _ _).alloc _
 have q2 : Blk W1 (w.heap.size + 1) y.cells 34:=by
  rw [<- hW1]
  have := Blk.new (w.alloc (.cells x.cells 73)) y.cells 34
  rwa [World.size_alloc] at this
 have s1 : W1.heap.size = w.heap.size + 2:=by rw [<- hW1]; simp
 obtain ⟨B,hB⟩ : ∃ B,w.heap.size = B:=⟨_,rfl⟩
 have HB:=Lib.hid hB
 have HW:=Lib.hid hW1
 rw [hB] at hK b1 q1 q2 s1 ⊢
 have hcuts:=hs.cuts.below b1 hK hK
 have hx1:=ht.cut.below b1 hK hK
 have hkd:=hs.kd
 have htkd:=ht.kd
 have htop:=ht.op
 have htsn:=ht.snd
 clear hB hW1 hs ht
 obtain ⟨va,vcap,hve,_,_⟩:=id hcuts.form
 obtain ⟨a1,m1,hv1,_⟩:=hx1.n.form
 obtain ⟨a2,m2,hv2,_⟩:=hx1.d.form
 have hvk:=hx1.kd
 obtain ⟨⟨yop,ynm,yk,yb3,⟨y4,y4n,y4m⟩,yb5,⟨y6,y6n,y6m⟩,yi7,⟨y8,y8n,y8m⟩⟩,sk,⟨ca,cn,cm⟩⟩:=y
 dsimp only [Sl.val] at hve hkd hcuts
 simp only [Value.slice.injEq] at hve
 obtain ⟨rfl,rfl,rfl⟩:=hve
 subst hkd
 obtain ⟨l1n,hl1n⟩ : ∃ n,t.cut.l1.length = n:=⟨_,rfl⟩
 obtain ⟨l2n,hl2n⟩ : ∃ n,t.cut.l2.length = n:=⟨_,rfl⟩
 rw [hl1n] at hv1
 rw [hl2n] at hv2
 obtain ⟨⟨xop,xnm,xk,xb3,⟨x4,x4n,x4m⟩,xb5,⟨x6,x6n,x6m⟩,xi7,⟨x8,x8n,x8m⟩⟩,tk,⟨kx,f1,x1,f2,x2,xi⟩,top_,tsn⟩:=x
 dsimp only at hv1 hv2 hvk htkd htop htsn hx1
 subst hv1 hv2
 have hsr : t.kd ≠ 0 -> ∀ W,Below W1.heap.size W1 W -> Calls Tryz.prog 28 #[.pointer (some ⟨B + 1,0,none⟩),.agg #[.int .u8 kx,.bool f1,.slice a1 l1n m1,.bool f2,.slice a2 l2n m2,.int .i64 xi]] W fun e w' => e = .returned (.tuple #[.int .i64 (srch s.cuts t.cut),.bool (fnd s.cuts t.cut)]) /\ Below W.heap.size W w':=fun h0 W hb => by
  obtain ⟨h1,h2,h3⟩:=htk h0
  have := hb.size
  have hq:=q2.below hb q2.lt
  exact gsearch_any B (B + 1) 0 _ s.cuts s.kd t.cut ⟨kx,f1,.slice a1 l1n m1,f2,.slice a2 l2n m2,xi⟩ W (hcuts.below hb (by rw [s1]; omega) (Nat.le_refl _)) (hx1.below hb (by rw [s1]; omega) (Nat.le_refl _)) hcc h1 h2 h3 (by rw [s1] at this; omega) (hq.at rfl) (by rw [s1] at this; omega) hbig
 obtain ⟨n,hnl⟩ : ∃ n,s.cuts.length = n:=⟨_,rfl⟩
 rw [hnl] at q2 HW hbig ⊢
 have HSR:=Lib.hid hsr
 have hsl : srch s.cuts t.cut <= n:=by rw [<- hnl]; exact srch_le _ _
 obtain ⟨C,hC⟩ : ∃ C,testH t s c = C:=⟨_,rfl⟩
 rw [hC]
 unfold testH at hC
 rw [<- htkd,<- htop,<- htsn] at hC
 obtain ⟨kd,hkd⟩ : ∃ kd,s.kd = kd:=⟨_,rfl⟩
 rw [hkd] at HW q2 ⊢
 have HQ1:=Lib.hid q1
 have HQ2:=Lib.hid q2
 have d9:=q1.at (i:=9) (x:=.int .u8 tk) rfl
 have d10:=q1.at (i:=10) (x:=.int .u8 kx) rfl
 have d11:=q1.at (i:=11) (x:=.bool f1) rfl
 have d12:=q1.at (i:=12) (x:=.slice a1 l1n m1) rfl
 have d13:=q1.at (i:=13) (x:=.bool f2) rfl
 have d14:=q1.at (i:=14) (x:=.slice a2 l2n m2) rfl
 have d15:=q1.at (i:=15) (x:=.int .i64 xi) rfl
 have ltB : B < W1.heap.size:=by omega
 have HTK : Hid (tk ≠ 0 -> t.kd ≠ 0):=Lib.hid fun h => by rw [<- htkd]; exact h
 clear hl1n hl2n hcuts hx1 hnl q1 q2 hkd hsr hvk htkd htop htsn htk hcc
 by_cases h0 : tk = 0
 ·subst h0
  rw [if_pos rfl] at hC
  subst hC
  go_enter Tryz.func42,Tryz.ntmps42
  go_upto_region 1 with fail
  simp only [HB.out]
  rw [HW.out]
  go_wp2_with fail
  go_ret2
  exact ⟨rfl,b1⟩
 ·rw [if_neg h0] at hC
  have e0 : (tk == 0) = false:=by simpa using h0
  have hsc:=HSR.out (HTK.out h0) W1 (Below.refl _ _)
  obtain ⟨f,hf⟩ : ∃ f,fnd s.cuts t.cut = f:=⟨_,rfl⟩
  obtain ⟨r,hr⟩ : ∃ r,srch s.cuts t.cut = r:=⟨_,rfl⟩
  rw [hf,hr] at hsc hC
  rw [hr] at hsl
  have hw1 : IntKind.i64.wrap (2 * (r : Int)) = 2 * (r : Int):=IntWalk.i64_in _ (by omega)
  have hw2 : IntKind.i64.wrap (2 * (r : Int) + 1) = 2 * (r : Int) + 1:=IntWalk.i64_in _ (by omega)
  have HS:=Lib.hid hsc
  clear hsc hf hr h0
  go_enter Tryz.func42,Tryz.ntmps42
  go_upto_region 1 with fail
  simp only [HB.out]
  rw [HW.out]
  go_wp2_with fail
  refine HS.out.mono ?_
  rintro e w2 ⟨rfl,hb2⟩
  clear d9 d10 d11 d12 d13 d14 d15
  have d16:=(HQ1.out.below hb2 ltB).at (i:=16) (x:=.int .u8 top_) rfl
  have d17:=(HQ1.out.below hb2 ltB).at (i:=17) (x:=.bool tsn) rfl
  cases f with
  | false =>
   rw [if_pos rfl] at hC
   subst hC
   go_wp2_with fail
   go_ret2
   exact ⟨rfl,b1.trans (hb2.mono (by omega))⟩
  | true =>
   rw [if_neg (by simp)] at hC
   by_cases ho : top_ = 14
   ·subst ho
    rw [if_pos rfl] at hC
    subst hC
    go_wp2_with fail
    go_ret2
    exact ⟨rfl,b1.trans (hb2.mono (by omega))⟩
   ·rw [if_neg ho] at hC
    have e1 : (top_ == 14) = false:=by simpa using ho
    cases tsn with
    | true =>
     rw [if_pos rfl] at hC
     subst hC
     go_wp2_with fail
     go_ret2
     exact ⟨rfl,b1.trans (hb2.mono (by omega))⟩
    | false =>
     rw [if_neg (by simp)] at hC
     subst hC
     go_wp2_with fail
     go_ret2
     exact ⟨rfl,b1.trans (hb2.mono (by omega))⟩
def testC (l : List Sc) (cs : List Int) (e : Gx) : Bool × Bool :=
 if l.findIdx (testOf e).belongs < l.length then testH (testOf e) (l[l.findIdx (testOf e).belongs]?.getD default) (cs[l.findIdx (testOf e).belongs]?.getD 0) else (false,false)
def combG (o : Int) (f : Nat -> Bool) : Bool:=if o = 15 then f 0 && f 1 else if o = 16 then f 0 || f 1 else if o = 17 then !f 0 else if f 0 then f 1 else f 2
mutual
def holdG (l : List Sc) (cs : List Int) : Gx -> Bool × Bool
 | .mk o n v es => if (Gx.mk o n v es).settled then (v.i == 1,true) else if (Gx.mk o n v es).composed then (combG o fun k => ((holdL l cs es)[k]?.getD (false,true)).1,(holdL l cs es).all (·.2)) else testC l cs (.mk o n v es)
def holdL (l : List Sc) (cs : List Int) : List Gx -> List (Bool × Bool)
 | [] => []
 | e :: r => holdG l cs e :: holdL l cs r
end
theorem holdL_map (l : List Sc) (cs : List Int) (es : List Gx) : holdL l cs es = es.map (holdG l cs):=by
 induction es with
 | nil => rw [holdL]; rfl
 | cons e r ih => rw [holdL,ih]; rfl
def argH (l : List Sc) (cs : List Int) (e : Gx) (k : Nat) : Bool × Bool:=((e.args.map (holdG l cs))[k]?.getD (false,true))
theorem holdG_eq (l : List Sc) (cs : List Int) (e : Gx) : holdG l cs e = if e.settled then (e.v.i == 1,true) else if e.composed then (combG e.op fun k => (argH l cs e k).1,(e.args.map (holdG l cs)).all (·.2)) else testC l cs e:=by
 cases e with
 | mk o n v es => rw [holdG,holdL_map]; rfl
theorem argH_at {l : List Sc} {cs : List Int} {e a : Gx} {k : Nat} (h : e.args[k]? = some a) : argH l cs e k = holdG l cs a:=by
 unfold argH; rw [List.getElem?_map,h]; rfl
theorem composed_len {e : Gx} (h : e.composed = true) : e.args.length <= 3:=by
 unfold Gx.composed at h
 simp only [Bool.or_eq_true,Bool.and_eq_true,beq_iff_eq] at h
 omega
def belG (l : List Sc) (cs : List Int) (e : Gx) (j : Nat) : Bool:=((e.args.map (holdG l cs)).take j).all (·.2)
theorem belG_zero (l : List Sc) (cs : List Int) (e : Gx) : belG l cs e 0 = true:=by unfold belG; simp
theorem belG_succ {l : List Sc} {cs : List Int} {e a : Gx} {j : Nat} (h : e.args[j]? = some a) : belG l cs e (j + 1) = (belG l cs e j && (holdG l cs a).2):=by
 unfold belG
 have hj:=(List.getElem?_eq_some_iff.1 h).1
 have hj' : j < (e.args.map (holdG l cs)).length:=by simpa using hj
 rw [List.take_succ_eq_append_getElem hj',List.all_append]
 have : (e.args.map (holdG l cs))[j] = holdG l cs a:=by
  rw [List.getElem_map]; rw [List.getElem?_eq_getElem hj] at h; rw [Option.some.inj h]
 rw [this]; simp
theorem belG_all (l : List Sc) (cs : List Int) (e : Gx) : belG l cs e e.args.length = (e.args.map (holdG l cs)).all (·.2):=by
 unfold belG; rw [List.take_of_length_le (by simp)]
def vArr (f : Nat -> Bool) (j : Nat) : Array Value:=#[.bool (decide (0 < j) && f 0),.bool (decide (1 < j) && f 1),.bool (decide (2 < j) && f 2)]
theorem vArr_set {f : Nat -> Bool} {j : Nat} (hj : j < 3) : (vArr f j).setIfInBounds j (.bool (f j)) = vArr f (j + 1):=by
 match j,hj with
 | 0,_ => simp [vArr]
 | 1,_ => simp [vArr]
 | 2,_ => simp [vArr]
theorem vArr_get {f : Nat -> Bool} {n : Nat} (h : ∀ k,n <= k -> f k = false) : vArr f n = #[.bool (f 0),.bool (f 1),.bool (f 2)]:=by
 have h2 : ∀ k,(decide (k < n) && f k) = f k:=fun k => by
  by_cases hk : k < n
  ·simp [hk]
  ·rw [h k (by omega)]; simp
 unfold vArr; rw [h2,h2,h2]
theorem argH_none {l : List Sc} {cs : List Int} {e : Gx} {k : Nat} (h : e.args.length <= k) : argH l cs e k = (false,true):=by
 unfold argH; rw [List.getElem?_eq_none (by simpa using h)]; rfl
def cellB (l : List Sc) (cs : List Int) (i : Nat) : Bool:=(l[i]?.getD default).okB && decide (0 <= cs[i]?.getD 0) && decide (cs[i]?.getD 0 < cntN (l[i]?.getD default).kd (l[i]?.getD default).cuts.length)
def holdsS (e : Gx) (l : List Sc) (cs : List Int) : Bool × Int :=
 if fits e = false \/ cs.length ≠ l.length then (false,2)
 else if (List.range l.length).any (fun i => !(cellB l cs i)) = true then (false,2)
 else if (holdG l cs e).2 = false then (false,2) else ((holdG l cs e).1,0)
attribute [local go_sem] Oper.semAt_some
def Xv.enc (x : Xv) : Array Value:=#[x.agg]
def Xv.key (x : Xv) : Int × Str:=(x.op,x.nm)
def KpE (K : Nat) (W W' : World) : Prop:=Below K W W' /\ ∀ r cs,Blk W r cs 31 -> Blk W' r cs 31
theorem room_of_none {F : Fence} (hd : F.depth = none) (k : Nat) : F.room k:=fun d h => by rw [hd] at h; cases h
theorem RoundIn.anyDepth {F : Fence} (hd : F.depth = none) {m m' : Nat} {P : Program} {l : Nat} {f : FuncId} {tmps : Array Value} {assign body : Code} {w : World} {R : Ending -> World -> Prop}
  (h : RoundIn F m P l f tmps assign body w R) : RoundIn F m' P l f tmps assign body w R:=⟨h.1,fun c cs _ => h.2 c cs (room_of_none hd _)⟩
theorem YieldAt.anyDepth {F : Fence} (hd : F.depth = none) {m : Nat} (m' : Nat) {P : Program} {l : Nat} {args : Array Value} {W : World} {R : Ending -> World -> Prop} (h : YieldAt F m P l args W R) : YieldAt F m' P l args W R:=by
 obtain ⟨fn,tmps,assign,body,hy,hR⟩:=h
 exact ⟨fn,tmps,assign,body,hy,RoundIn.anyDepth hd hR⟩
end Go.Proofs.YtlldjmagbjjeoaaGreat
