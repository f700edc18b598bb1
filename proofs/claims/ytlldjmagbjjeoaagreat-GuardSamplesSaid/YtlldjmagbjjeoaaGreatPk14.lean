/- Contracts and plain laws, several texts in one (NZ1). No conditions beyond those stated. -/
import Derived.Test.YtlldjmagbjjeoaaGreatPk11
import Derived.Test.YtlldjmagbjjeoaaGreatPk12
import Derived.Test.YtlldjmagbjjeoaaGreatPk13
set_option maxRecDepth 100000
set_option maxHeartbeats 40000000
namespace Go.Proofs.YtlldjmagbjjeoaaGreat
open Go.RowKit
set_option linter.unusedVariables false
theorem wvalidL_any (K : Nat) (g : Bool) (v : Value) (l : List Nat) (w : World) (h : Lm K w v l) (hK : K <= w.heap.size) : Calls Tryz.prog 83 #[.agg #[.bool g,v]] w fun e w' => e = .returned (.bool (wOk 1024 g l)) /\ Below w.heap.size w w':=by
 by_cases h0 : l.length = 0
 ·obtain rfl:=List.eq_nil_of_length_eq_zero h0
  obtain ⟨a,c,rfl,_⟩:=h.form
  rw [show wOk 1024 g [] = !g by simp [wOk]]
  show Calls Tryz.prog 83 #[.agg #[.bool g,.slice a 0 c]] w _
  clear h h0
  go_enter Tryz.func83,Tryz.ntmps83
  go_wp2_with fail
  go_ret
  exact ⟨rfl,(Below.refl _ w).alloc (Nat.le_refl _) _⟩
 ·obtain ⟨p,hp⟩ : ∃ p,l.length = p + 1:=⟨l.length - 1,by omega⟩
  obtain ⟨b,o,c,rfl,h1,hc,hb,h5⟩:=h.pos (by omega)
  obtain ⟨x,hx⟩ : ∃ x,l[p]?.getD 0 = x:=⟨_,rfl⟩
  have e0:=h5 p (by omega)
  rw [hx] at e0
  have e0' : w.cell? ⟨b,o + p,none⟩ = some (.int .u16 (x : Int)):=e0
  have hr : wOk 1024 g l = (decide (p + 1 <= 1024) && x != 0):=by unfold wOk; rw [hp,if_neg (by omega),Nat.add_sub_cancel,hx]
  rw [hr,hp]
  rw [hp] at h1
  have hlt : b < w.heap.size:=by omega
  have hne : ¬ b = w.heap.size:=by omega
  unfold maxLen at hc
  clear h h5 e0 hx hp hr h0
  by_cases hs : p + 1 <= 1024
  ·have hd : decide ((((p + 1 : Nat) : Int)) <= 1024) = true:=by simp; omega
   have hd2 : decide (p + 1 <= 1024) = true:=by simpa using hs
   rw [hd2]
   by_cases hx0 : x = 0
   ·subst hx0
    go_enter Tryz.func83,Tryz.ntmps83
    go_wp2_with fail
    go_ret
    exact ⟨rfl,(Below.refl _ w).alloc (Nat.le_refl _) _⟩
   ·have hx : ((x : Int) != 0) = true:=by simp; omega
    have hxx : (x != 0) = true:=by simp; omega
    rw [hxx]
    go_enter Tryz.func83,Tryz.ntmps83
    go_wp2_with fail
    go_ret
    exact ⟨rfl,(Below.refl _ w).alloc (Nat.le_refl _) _⟩
  ·have hd : decide ((((p + 1 : Nat) : Int)) <= 1024) = false:=by simp; omega
   have hd2 : decide (p + 1 <= 1024) = false:=by simpa using hs
   rw [hd2]
   go_enter Tryz.func83,Tryz.ntmps83
   go_wp2_with fail
   go_ret
   exact ⟨rfl,(Below.refl _ w).alloc (Nat.le_refl _) _⟩
theorem nvalid_any (K : Nat) (g : Bool) (v : Value) (z : Int) (w : World) (h : Zn K w g v z) (hK : K <= w.heap.size) (hz : z.natAbs < LB 1024) : Calls Tryz.prog 83 #[.agg #[.bool g,v]] w fun e w' => e = .returned (.bool true) /\ Below w.heap.size w w':=by
 obtain ⟨l,h1,h2,h3⟩:=h.ln
 have := wvalidL_any K g v l w h1 hK
 rw [tight_wOk h2 ((ln_len h1.2 h2).2 (by rw [h3]; exact hz)) (fun e => by
  rw [List.eq_nil_of_length_eq_zero e] at h3
  have : z = 0:=by simp [lval] at h3; omega
  rw [h.sg,this]; rfl)] at this
 exact this
theorem nallvalid_any (K b : Nat) (g h : Bool) (u v : Value) (y z : Int) (w : World) (hu : Zn K w g u y) (hv : Zn K w h v z) (hy : y.natAbs < LB 1024) (hz : z.natAbs < LB 1024) (hK : K <= w.heap.size) (hq : Blk w b #[.bool g,u,.bool h,v] 24) :
  Calls Tryz.prog 87 #[.slice (some ⟨b,0,none⟩) 2 2] w fun e w' => e = .returned (.bool true) /\ Below w.heap.size w w':=by
 have hc1:=fun W hb => nvalid_any W.heap.size g u y W (hu.below (B:=w.heap.size) hb hK (Nat.le_trans hK hb.size)) (Nat.le_refl _) hy
 have hc2:=fun W hb => nvalid_any W.heap.size h v z W (hv.below (B:=w.heap.size) hb hK (Nat.le_trans hK hb.size)) (Nat.le_refl _) hz
 obtain ⟨ua,um,uc,rfl⟩:=hu.form
 obtain ⟨va,vm,vc,rfl⟩:=hv.form
 have hb:=hq.lt
 obtain ⟨q0,q1,q2,q3⟩:=hq.four
 have hne : ¬ b = w.heap.size:=by omega
 clear hu hv hy hz
 have HC1:=Lib.hid hc1
 have HC2:=Lib.hid hc2
 clear hc1 hc2
 go_enter Tryz.func87,Tryz.ntmps87
 go_wp2_with fail
 refine wp_loop_rounds 3 ?_
 rw [rounds_succ]
 go_wp2_with fail
 have b1 : Below w.heap.size w (w.alloc (.cells #[.bool g,.slice ua um uc] 24)):=(Below.refl _ _).alloc (Nat.le_refl _) _
 refine (HC1.out _ b1).mono ?_
 rintro e w2 ⟨rfl,hb2⟩
 have hw2 : Below w.heap.size w w2:=b1.trans (hb2.mono (by simp))
 obtain ⟨r0,r1,r2,r3⟩:=(hq.below hw2 hb).four
 have hb2 : b < w2.heap.size:=Nat.lt_of_lt_of_le hb hw2.size
 have hne2 : ¬ b = w2.heap.size:=by omega
 go_wp2_with fail
 rw [rounds_succ]
 go_wp2_with fail
 have b3 : Below w.heap.size w (w2.alloc (.cells #[.bool h,.slice va vm vc] 24)):=hw2.alloc hw2.size _
 refine (HC2.out _ b3).mono ?_
 rintro e w4 ⟨rfl,hb4⟩
 go_wp2_with fail
 rw [rounds_succ]
 go_wp2_with fail
 go_ret
 exact ⟨rfl,b3.trans (hb4.mono (by simp; have := hw2.size; omega))⟩
theorem nresult_any (K : Nat) (g : Bool) (v : Value) (n : Nat) (w : World) (h : Bn K w v n) (hK : K <= w.heap.size) (hn : n < LB 1024) :
  Calls Tryz.prog 95 #[.bool g,v] w fun e w' => ∃ x,e = .returned (.tuple #[x,.int .i64 0]) /\ ZxN w.heap.size w'.heap.size w' x (sgz g n) /\ Below w.heap.size w w':=by
 have b1 : Below w.heap.size w (w.alloc (.cells #[.bool false,.slice none 0 0] 24)):=(Below.refl _ _).alloc (Nat.le_refl _) _
 obtain ⟨l,hl,tl,rfl⟩:=h
 have hl30:=tight_len tl (LB_wb (k:=1024) hn (Nat.le_refl _))
 have hu:=nunpack_any K g v l _ (hl.below b1 hK (Nat.le_refl _)) (by simp; omega) (by omega)
 have q1 : Blk (w.alloc (.cells #[.bool false,.slice none 0 0] 24)) w.heap.size #[.bool false,.slice none 0 0] 24:=Blk.new w _ _
 obtain ⟨a,c,rfl,_⟩:=hl.form
 obtain ⟨n,hnn⟩ : ∃ n,bv WB32 l = n:=⟨_,rfl⟩
 rw [hnn] at hu hn ⊢
 obtain ⟨k,hk⟩ : ∃ k,l.length = k:=⟨_,rfl⟩
 rw [hk] at hu ⊢
 clear hl tl hl30 hnn hk
 have HU:=Lib.hid hu
 clear hu
 go_enter Tryz.func95,Tryz.ntmps95
 go_wp2_with fail
 refine HU.out.mono ?_
 rintro e w2 ⟨v',rfl,hv',hb2,hnw⟩
 have hb2' : Below w.heap.size w w2:=b1.trans (hb2.mono (by simp))
 have q2:=q1.below hb2 q1.lt
 obtain ⟨d0,d1⟩:=q2.two
 have f0:=q2.free 0
 have f1:=q2.free 1
 have hlt:=q2.lt
 have hne : ¬ w.heap.size = w2.heap.size:=by omega
 obtain ⟨a,m,c,rfl,_,_,_,hmk⟩:=hv'.form
 have hm : m <= 1024:=(hmk 1024).2 hn
 have hmm : decide ((1024 : Int) < (m : Int)) = false:=by simp; omega
 have hz:=Zn.mk' hv' (rfl : sgz g n = sgz g n)
 obtain ⟨g',hg'⟩ : ∃ g',(g && decide (0 < n)) = g':=⟨_,rfl⟩
 rw [hg'] at hz ⊢
 have HZ:=Lib.hid hz
 clear HU hmk hz hg' hv'
 go_wp2_with fail
 have q3:=((q2.set (i:=0) (.bool g')).set (i:=1) (.slice a m c)).alloc (.cells #[.bool g',.slice a m c] 24)
 obtain ⟨e0,e1⟩:=q3.two
 refine bodyPost_ret (v:=.tuple #[.agg #[.bool g',.slice a m c],.int .i64 0]) (by simp [results,Tryz.results95,go_sem,e0,e1]) rfl ?_
 have b3:=(((Below.refl w.heap.size w2).setCell (p:=⟨w.heap.size,0,none⟩) (Nat.le_refl _) (.bool g')).setCell (p:=⟨w.heap.size,1,none⟩) (Nat.le_refl _) (.slice a m c)).alloc (by simp [World.setCell]; omega) (.cells #[.bool g',.slice a m c] 24)
 have ws:=((HZ.out.set (r:=w.heap.size) (i:=0) (x:=.bool g') hnw (by simp)).set (r:=w.heap.size) (i:=1) (x:=.slice a m c) hnw (by simp))
 exact ⟨_,rfl,.mk (ws.below ((Below.refl _ _).alloc (Nat.le_refl _) _) (by simp [World.setCell]) (by simp [World.setCell])) (hnw.mono (by simp)),hb2'.trans b3⟩
theorem sgz_add_same (g : Bool) (m n : Nat) : sgz g (m + n) = sgz g m + sgz g n:=by unfold sgz; cases g <;> simp <;> omega
theorem sgz_add_ge {g h : Bool} {m n : Nat} (hg : g ≠ h) (hmn : n <= m) : sgz g (m - n) = sgz g m + sgz h n:=by
 unfold sgz; cases g <;> cases h <;> simp at hg ⊢ <;> omega
theorem sgz_add_lt {g h : Bool} {m n : Nat} (hg : g ≠ h) (hmn : m < n) : sgz h (n - m) = sgz g m + sgz h n:=by
 unfold sgz; cases g <;> cases h <;> simp at hg ⊢ <;> omega
theorem sgz_mul (g h : Bool) (m n : Nat) : sgz (!(g == h)) (m * n) = sgz g m * sgz h n:=by
 unfold sgz; cases g <;> cases h <;> simp [Int.neg_mul,Int.mul_neg]
theorem sgz_abs (g : Bool) (m : Nat) : (sgz g m).natAbs = m:=by unfold sgz; cases g <;> simp
theorem nsum_any (K : Nat) (g h : Bool) (u v : Value) (m n : Nat) (w : World) (hu : Bn K w u m) (hv : Bn K w v n) (hm : m < LB 1000) (hn : n < LB 1000) (hK : K <= w.heap.size) :
  Calls Tryz.prog 94 #[.bool g,u,.bool h,v] w fun e w' => ∃ x,e = .returned (.tuple #[x,.int .i64 0]) /\ ZxN w.heap.size w'.heap.size w' x (sgz g m + sgz h n) /\ Below w.heap.size w w':=by
 obtain ⟨W1,hW1⟩ : ∃ W1,w.alloc (.cells #[.bool false,.slice none 0 0] 24) = W1:=⟨_,rfl⟩
 have b1 : Below w.heap.size w W1:=by rw [<- hW1]; exact (Below.refl _ _).alloc (Nat.le_refl _) _
 have q1 : Blk W1 w.heap.size #[.bool false,.slice none 0 0] 24:=by rw [<- hW1]; exact Blk.new w _ _
 have s1 : W1.heap.size = w.heap.size + 1:=by rw [<- hW1]; simp
 obtain ⟨B,hB⟩ : ∃ B,w.heap.size = B:=⟨_,rfl⟩
 have HB:=Lib.hid hB
 have HW:=Lib.hid hW1
 rw [hB] at hK b1 q1 s1 ⊢
 have hu1 : Bn B W1 u m:=hu.below b1 hK hK
 have hv1 : Bn B W1 v n:=hv.below b1 hK hK
 have HU:=Lib.hid hu1
 have HV:=Lib.hid hv1
 obtain ⟨ua,um,uc,rfl,_⟩:=hu.form
 obtain ⟨va,vm,vc,rfl,_⟩:=hv.form
 have hmw : ∀ k,1000 <= k -> m < WB32 ^ k:=fun k hk => LB_wb hm hk
 have hnw' : ∀ k,1000 <= k -> n < WB32 ^ k:=fun k hk => LB_wb hn hk
 have HMW:=Lib.hid hmw
 have HNW:=Lib.hid hnw'
 have HM:=Lib.hid hm
 have HN:=Lib.hid hn
 clear hB hW1 hu hv hu1 hv1 hmw hnw' hm hn
 by_cases hgh : g = h
 ·subst hgh
  have hbe : (g == g) = true:=by simp
  have hc:=nplus_any B _ _ m n W1 HU.out HV.out (by omega) (HMW.out 536870912 (by decide)) (HNW.out 536870912 (by decide))
  have hN : m + n < LB 1024:=LB_lt (LB_sum HM.out HN.out) (by decide)
  have HZ : Hid (sgz g (m + n) = sgz g m + sgz g n):=Lib.hid (sgz_add_same g m n)
  have HC:=Lib.hid hc
  clear hc
  go_enter Tryz.func94,Tryz.ntmps94
  go_wp2_with fail
  simp only [HB.out]
  rw [HW.out]
  refine HC.out.mono ?_
  rintro e w2 ⟨p,rfl,hp,hb2,_⟩
  have b2 : Below B w w2:=b1.trans (hb2.mono (by omega))
  have hs2:=hb2.size
  have q2:=q1.below hb2 q1.lt
  have hr:=nresult_any w2.heap.size g p _ w2 hp (Nat.le_refl _) hN
  obtain ⟨pa,pm,pc,rfl,_⟩:=hp.form
  have HR:=Lib.hid hr
  clear HC hr hp
  go_wp2_with fail
  refine HR.out.mono ?_
  rintro e w3 ⟨x',rfl,hx',hb3⟩
  obtain ⟨g',p',rfl,hp',hnw⟩:=hx'
  obtain ⟨pa',pm',pc',rfl⟩:=hp'.form
  have hs3:=hb3.size
  have b3 : Below B w w3:=b2.trans (hb3.mono (by omega))
  have q3:=q2.below hb3 q2.lt
  obtain ⟨d0,d1⟩:=q3.two
  have f0:=q3.free 0
  have f1:=q3.free 1
  have HP:=Lib.hid hp'
  clear HR hp'
  go_wp2_with fail
  have q4:=(q3.set (i:=0) (.bool g')).set (i:=1) (.slice pa' pm' pc')
  obtain ⟨e0,e1⟩:=q4.two
  refine bodyPost_ret (v:=.tuple #[.agg #[.bool g',.slice pa' pm' pc'],.int .i64 0]) (by simp [results,Tryz.results94,go_sem,e0,e1]) rfl ?_
  have ws:=((HP.out.set (r:=B) (i:=0) (x:=.bool g') hnw (by omega)).set (r:=B) (i:=1) (x:=.slice pa' pm' pc') hnw (by omega))
  rw [HZ.out] at ws
  exact ⟨_,rfl,.mk (ws.below (Below.refl w3.heap.size _) (Nat.le_refl _) (by simp [World.setCell])) (hnw.mono (by omega)),(b3.setCell (p:=⟨B,0,none⟩) (by simp) _).setCell (p:=⟨B,1,none⟩) (by simp) _⟩
 ·have hbe : (g == h) = false:=by cases g <;> cases h <;> simp at hgh ⊢
  have hcmp:=ncompare_any B _ _ m n W1 HU.out HV.out
  by_cases hmn : n <= m
  ·have hc0 : ¬ cmpN m n < 0:=by unfold cmpN; rw [if_neg (by omega)]; split <;> omega
   obtain ⟨cv,hcv⟩ : ∃ cv,cmpN m n = cv:=⟨_,rfl⟩
   rw [hcv] at hcmp hc0
   have hc0' : decide (0 <= cv) = true:=by simp; omega
   have HCMP:=Lib.hid hcmp
   have HCC : Hid (∀ k,Calls Tryz.prog 102 #[.slice ua um uc,.slice va vm vc] (W1.drewN k) fun e w' => ∃ v',e = .returned v' /\ Bn w'.heap.size w' v' (m - n) /\ Below (W1.drewN k).heap.size (W1.drewN k) w' /\ NewV (W1.drewN k).heap.size v'):=Lib.hid fun k => nminus_any B _ _ m n (W1.drewN k) (HU.out.below (below_drewN2 (Below.refl W1.heap.size W1) k) (by omega) (Nat.le_refl _)) (HV.out.below (below_drewN2 (Below.refl W1.heap.size W1) k) (by omega) (Nat.le_refl _)) (by show B <= W1.heap.size; omega) hmn (HMW.out 1073741824 (by decide))
   have hN : m - n < LB 1024:=Nat.lt_of_le_of_lt (Nat.sub_le _ _) (LB_lt HM.out (by decide))
   have HZ : Hid (sgz g (m - n) = sgz g m + sgz h n):=Lib.hid (sgz_add_ge hgh hmn)
   clear hcmp hcv
   go_enter Tryz.func94,Tryz.ntmps94
   go_wp2_with fail
   simp only [HB.out]
   rw [HW.out]
   refine HCMP.out.mono ?_
   rintro e w9 ⟨rfl,k9,rfl⟩
   have HC:=Lib.hid (HCC.out k9)
   have b1' : Below B w (W1.drewN k9):=below_drewN2 b1 k9
   have q1' : Blk (W1.drewN k9) B #[.bool false,.slice none 0 0] 24:=q1.below (below_drewN2 (Below.refl W1.heap.size W1) k9) (by omega)
   have s1' : (W1.drewN k9).heap.size = B + 1:=s1
   generalize W1.drewN k9 = W1' at HC b1' q1' s1'
   clear HCMP HCC HU HV b1 q1 s1 HW
   obtain ⟨b1,q1,s1⟩ : Below B w W1' /\ Blk W1' B #[.bool false,.slice none 0 0] 24 /\ W1'.heap.size = B + 1:=⟨b1',q1',s1'⟩
   clear b1' q1' s1'
   go_wp2_with fail
   refine HC.out.mono ?_
   rintro e w2 ⟨p,rfl,hp,hb2,_⟩
   have b2 : Below B w w2:=b1.trans (hb2.mono (by omega))
   have hs2:=hb2.size
   have q2:=q1.below hb2 q1.lt
   have hr:=nresult_any w2.heap.size g p _ w2 hp (Nat.le_refl _) hN
   obtain ⟨pa,pm,pc,rfl,_⟩:=hp.form
   have HR:=Lib.hid hr
   clear HC hr hp
   go_wp2_with fail
   refine HR.out.mono ?_
   rintro e w3 ⟨x',rfl,hx',hb3⟩
   obtain ⟨g',p',rfl,hp',hnw⟩:=hx'
   obtain ⟨pa',pm',pc',rfl⟩:=hp'.form
   have hs3:=hb3.size
   have b3 : Below B w w3:=b2.trans (hb3.mono (by omega))
   have q3:=q2.below hb3 q2.lt
   obtain ⟨d0,d1⟩:=q3.two
   have f0:=q3.free 0
   have f1:=q3.free 1
   have HP:=Lib.hid hp'
   clear HR hp'
   go_wp2_with fail
   have q4:=(q3.set (i:=0) (.bool g')).set (i:=1) (.slice pa' pm' pc')
   obtain ⟨e0,e1⟩:=q4.two
   refine bodyPost_ret (v:=.tuple #[.agg #[.bool g',.slice pa' pm' pc'],.int .i64 0]) (by simp [results,Tryz.results94,go_sem,e0,e1]) rfl ?_
   have ws:=((HP.out.set (r:=B) (i:=0) (x:=.bool g') hnw (by omega)).set (r:=B) (i:=1) (x:=.slice pa' pm' pc') hnw (by omega))
   rw [HZ.out] at ws
   exact ⟨_,rfl,.mk (ws.below (Below.refl w3.heap.size _) (Nat.le_refl _) (by simp [World.setCell])) (hnw.mono (by omega)),(b3.setCell (p:=⟨B,0,none⟩) (by simp) _).setCell (p:=⟨B,1,none⟩) (by simp) _⟩
  ·have hmn' : m < n:=by omega
   have hc0 : cmpN m n = -1:=cmpN_lt hmn'
   rw [hc0] at hcmp
   have HCMP:=Lib.hid hcmp
   have HCC : Hid (∀ k,Calls Tryz.prog 102 #[.slice va vm vc,.slice ua um uc] (W1.drewN k) fun e w' => ∃ v',e = .returned v' /\ Bn w'.heap.size w' v' (n - m) /\ Below (W1.drewN k).heap.size (W1.drewN k) w' /\ NewV (W1.drewN k).heap.size v'):=Lib.hid fun k => nminus_any B _ _ n m (W1.drewN k) (HV.out.below (below_drewN2 (Below.refl W1.heap.size W1) k) (by omega) (Nat.le_refl _)) (HU.out.below (below_drewN2 (Below.refl W1.heap.size W1) k) (by omega) (Nat.le_refl _)) (by show B <= W1.heap.size; omega) (by omega) (HNW.out 1073741824 (by decide))
   have hN : n - m < LB 1024:=Nat.lt_of_le_of_lt (Nat.sub_le _ _) (LB_lt HN.out (by decide))
   have HZ : Hid (sgz h (n - m) = sgz g m + sgz h n):=Lib.hid (sgz_add_lt hgh hmn')
   clear hcmp hc0
   go_enter Tryz.func94,Tryz.ntmps94
   go_wp2_with fail
   simp only [HB.out]
   rw [HW.out]
   refine HCMP.out.mono ?_
   rintro e w9 ⟨rfl,k9,rfl⟩
   have HC:=Lib.hid (HCC.out k9)
   have b1' : Below B w (W1.drewN k9):=below_drewN2 b1 k9
   have q1' : Blk (W1.drewN k9) B #[.bool false,.slice none 0 0] 24:=q1.below (below_drewN2 (Below.refl W1.heap.size W1) k9) (by omega)
   have s1' : (W1.drewN k9).heap.size = B + 1:=s1
   generalize W1.drewN k9 = W1' at HC b1' q1' s1'
   clear HCMP HCC HU HV b1 q1 s1 HW
   obtain ⟨b1,q1,s1⟩ : Below B w W1' /\ Blk W1' B #[.bool false,.slice none 0 0] 24 /\ W1'.heap.size = B + 1:=⟨b1',q1',s1'⟩
   clear b1' q1' s1'
   go_wp2_with fail
   refine HC.out.mono ?_
   rintro e w2 ⟨p,rfl,hp,hb2,_⟩
   have b2 : Below B w w2:=b1.trans (hb2.mono (by omega))
   have hs2:=hb2.size
   have q2:=q1.below hb2 q1.lt
   have hr:=nresult_any w2.heap.size h p _ w2 hp (Nat.le_refl _) hN
   obtain ⟨pa,pm,pc,rfl,_⟩:=hp.form
   have HR:=Lib.hid hr
   clear HC hr hp
   go_wp2_with fail
   refine HR.out.mono ?_
   rintro e w3 ⟨x',rfl,hx',hb3⟩
   obtain ⟨g',p',rfl,hp',hnw⟩:=hx'
   obtain ⟨pa',pm',pc',rfl⟩:=hp'.form
   have hs3:=hb3.size
   have b3 : Below B w w3:=b2.trans (hb3.mono (by omega))
   have q3:=q2.below hb3 q2.lt
   obtain ⟨d0,d1⟩:=q3.two
   have f0:=q3.free 0
   have f1:=q3.free 1
   have HP:=Lib.hid hp'
   clear HR hp'
   go_wp2_with fail
   have q4:=(q3.set (i:=0) (.bool g')).set (i:=1) (.slice pa' pm' pc')
   obtain ⟨e0,e1⟩:=q4.two
   refine bodyPost_ret (v:=.tuple #[.agg #[.bool g',.slice pa' pm' pc'],.int .i64 0]) (by simp [results,Tryz.results94,go_sem,e0,e1]) rfl ?_
   have ws:=((HP.out.set (r:=B) (i:=0) (x:=.bool g') hnw (by omega)).set (r:=B) (i:=1) (x:=.slice pa' pm' pc') hnw (by omega))
   rw [HZ.out] at ws
   exact ⟨_,rfl,.mk (ws.below (Below.refl w3.heap.size _) (Nat.le_refl _) (by simp [World.setCell])) (hnw.mono (by omega)),(b3.setCell (p:=⟨B,0,none⟩) (by simp) _).setCell (p:=⟨B,1,none⟩) (by simp) _⟩
theorem nGcd_any (K : Nat) (g h : Bool) (u v : Value) (y z : Int) (w : World) (hu : Zn K w g u y) (hv : Zn K w h v z) (hy : y.natAbs < LB 1000) (hz : z.natAbs < LB 1000) (hK : K <= w.heap.size) :
  Calls Tryz.prog 92 #[.agg #[.bool g,u],.agg #[.bool h,v]] w fun e w' => ∃ x,e = .returned (.tuple #[x,.int .i64 0]) /\ ZxN w.heap.size w'.heap.size w' x (((Nat.gcd y.natAbs z.natAbs : Nat) : Int)) /\ Below w.heap.size w w':=by
 obtain ⟨ua,um,uc,rfl⟩:=hu.form
 obtain ⟨va,vm,vc,rfl⟩:=hv.form
 obtain ⟨W1,hW1⟩ : ∃ W1,(((w.alloc (.cells #[.bool g,.slice ua um uc] 24)).alloc (.cells #[.bool h,.slice va vm vc] 24)).alloc (.cells #[.bool false,.slice none 0 0] 24)).alloc (.cells #[.bool g,.slice ua um uc,.bool h,.slice va vm vc] 24) = W1:=⟨_,rfl⟩
 obtain ⟨b1,q0,q1,q2,q3,s1⟩:=alloc4 w _ _ _ _ _ _ _ _ hW1
 have HW:=Lib.hid hW1
 obtain ⟨B,hB⟩ : ∃ B,w.heap.size = B:=⟨_,rfl⟩
 have HB:=Lib.hid hB
 rw [hB] at hK b1 q0 q1 q2 q3 s1 ⊢
 have hav:=nallvalid_any B (B + 3) g h _ _ y z W1 (hu.below b1 hK hK) (hv.below b1 hK hK) (LB_lt hy (by decide)) (LB_lt hz (by decide)) (by omega) q3
 have HAV:=Lib.hid hav
 have HHU:=Lib.hid hu
 have HHV:=Lib.hid hv
 have HY:=Lib.hid hy
 have HZ:=Lib.hid hz
 clear hB hW1 hav hu hv hy hz
 go_enter Tryz.func92,Tryz.ntmps92
 go_wp2_with fail
 simp only [HB.out,Nat.add_assoc,Nat.reduceAdd]
 rw [HW.out]
 refine HAV.out.mono ?_
 rintro e w2 ⟨rfl,hb2⟩
 have b2 : Below B w w2:=b1.trans (hb2.mono (by omega))
 have hs2:=hb2.size
 have q0:=q0.below hb2 q0.lt
 have q1:=q1.below hb2 q1.lt
 have q2:=q2.below hb2 q2.lt
 have HU3 : Hid (Zn w2.heap.size w2 g (.slice ua um uc) y):=Lib.hid (HHU.out.below b2 hK (by omega))
 have HV3 : Hid (Zn w2.heap.size w2 h (.slice va vm vc) z):=Lib.hid (HHV.out.below b2 hK (by omega))
 obtain ⟨d0,d1⟩:=q0.two
 obtain ⟨d2,d3⟩:=q1.two
 clear q3 HAV HHU HHV
 go_upto_region 3 with fail
 clear d0 d1 d2 d3
 refine region_plain (fun W' => Below w2.heap.size w2 W') [8,9] (by kernel_rfl) ?_
 have qS : (fun W' => Below w2.heap.size w2 W') w2.drew:=below_quiet (Below.refl _ _)
 refine wpAnyD_tpX (i:=0) (v:=.pointer (some ⟨B,1,none⟩)) (some 12) rfl rfl qS ?_
 refine wpAnyD_tkX (i:=1) (v:=.slice ua um uc) (some 13) rfl rfl (.inl ⟨by kernel_rfl,fun W' hS => by have d0:=(q0.below hS q0.lt).at (i:=1) rfl; go_simp⟩) qS ?_
 refine wpAnyD_tpX (i:=3) (v:=.pointer (some ⟨B + 1,1,none⟩)) (some 15) rfl rfl qS ?_
 refine wpAnyD_tkX (i:=4) (v:=.slice va vm vc) (some 16) rfl rfl (.inl ⟨by kernel_rfl,fun W' hS => by have d0:=(q1.below hS q1.lt).at (i:=1) rfl; go_simp⟩) qS ?_
 refine wpAnyD_on (i:=2) rfl ?_
 go_simp
 refine (npackN_any w2.heap.size _ _ _ (HU3.out.ln.below qS (Nat.le_refl _) (Nat.le_refl _)) qS.size (LB_lt HY.out (by decide))).mono ?_
 rintro e w3 ⟨p3,rfl,hp3,hb3⟩
 obtain ⟨ap3,mp3,cp3,rfl,_⟩:=hp3.form
 have qSw3 : Below w2.heap.size w2 w3:=qS.trans (hb3.mono qS.size)
 go_simp
 refine wpAnyD_on (i:=5) rfl ?_
 go_simp
 refine (npackN_any w2.heap.size _ _ _ (HV3.out.ln.below qSw3 (Nat.le_refl _) (Nat.le_refl _)) qSw3.size (LB_lt HZ.out (by decide))).mono ?_
 rintro e w4 ⟨p4,rfl,hp4,hb4⟩
 obtain ⟨ap4,mp4,cp4,rfl,_⟩:=hp4.form
 have qSw3w4 : Below w2.heap.size w2 w4:=qSw3.trans (hb4.mono qSw3.size)
 go_simp
 refine wpAnyD_on (i:=6) rfl ?_
 go_simp
 refine (ncommon_any w4.heap.size _ _ _ _ _ (hp3.below hb4 (Nat.le_refl _) hb4.size) hp4 (Nat.le_refl _) (LB_wb (k:=268435456) HY.out (by decide)) (LB_wb (k:=268435456) HZ.out (by decide))).mono ?_
 rintro e w5 ⟨p5,rfl,hp5,hb5⟩
 obtain ⟨l5,hl5,tl5,hv5⟩:=hp5
 obtain ⟨a5,c5,rfl,_⟩:=hl5.form
 have hg5 : Nat.gcd y.natAbs z.natAbs < LB 1000:=by
  rcases Nat.eq_zero_or_pos y.natAbs with h | h
  ·rw [h,Nat.gcd_zero_left]; exact HZ.out
  ·exact Nat.lt_of_le_of_lt (Nat.gcd_le_left _ h) HY.out
 have hl30:=tight_len tl5 (k:=1000) (by rw [hv5]; exact LB_wb (k:=1000) hg5 (Nat.le_refl _))
 have qSw3w4w5 : Below w2.heap.size w2 w5:=qSw3w4.trans (hb5.mono qSw3w4.size)
 go_simp
 refine wpAnyD_on (i:=7) rfl ?_
 go_simp
 refine (nunpack_any w5.heap.size false _ l5 _ hl5 (Nat.le_refl _) (by omega)).mono ?_
 rintro e w6 ⟨p6,rfl,hp6,hb6,hnw⟩
 have hp6:=Zn.mk' (g:=false) hp6 (z:=((Nat.gcd y.natAbs z.natAbs : Nat) : Int)) (by rw [hv5]; rfl)
 obtain ⟨a6,m6,c6,rfl⟩:=hp6.form
 obtain ⟨g6,hg6⟩ : ∃ g6,(false && decide (0 < bv WB32 l5)) = g6:=⟨_,rfl⟩
 rw [hg6] at hp6 ⊢
 have qSw3w4w5w6 : Below w2.heap.size w2 w6:=qSw3w4w5.trans (hb6.mono qSw3w4w5.size)
 go_simp
 have q2s:=q2.below qSw3w4w5w6 q2.lt
 obtain ⟨e0,e1⟩:=q2s.two
 have f0:=q2s.free 0
 have f1:=q2s.free 1
 refine wpAnyD_on (i:=8) rfl ?_
 go_simp
 refine wpAnyD_on (i:=9) rfl ?_
 go_simp
 refine wpAnyD_done (by kernel_rfl) ?_ _
 go_wp2_with fail
 have q3s:=(q2s.set (i:=0) (.bool g6)).set (i:=1) (.slice a6 m6 c6)
 clear e0 e1
 obtain ⟨e0,e1⟩:=q3s.two
 refine bodyPost_ret (v:=.tuple #[.agg #[.bool g6,.slice a6 m6 c6],.int .i64 0]) (by simp [results,Tryz.results92,go_sem,e0,e1]) rfl ?_
 have hBn : B + 2 < w5.heap.size:=by have := qSw3w4w5.size; omega
 have ws:=((hp6.set (r:=B + 2) (i:=0) (x:=.bool g6) hnw hBn).set (r:=B + 2) (i:=1) (x:=.slice a6 m6 c6) hnw hBn)
 have b6 : Below B w w6:=b2.trans (qSw3w4w5w6.mono (by omega))
 exact ⟨_,rfl,.mk (ws.below (Below.refl w6.heap.size _) (Nat.le_refl _) (by simp [World.setCell])) (hnw.mono (by omega)),(b6.setCell (p:=⟨B + 2,0,none⟩) (by simp) _).setCell (p:=⟨B + 2,1,none⟩) (by simp) _⟩
theorem nAdd_any (K : Nat) (g h : Bool) (u v : Value) (y z : Int) (w : World) (hu : Zn K w g u y) (hv : Zn K w h v z) (hy : y.natAbs < LB 999) (hz : z.natAbs < LB 999) (hK : K <= w.heap.size) :
  Calls Tryz.prog 80 #[.agg #[.bool g,u],.agg #[.bool h,v]] w fun e w' => ∃ x,e = .returned (.tuple #[x,.int .i64 0]) /\ ZxN w.heap.size w'.heap.size w' x (y + z) /\ Below w.heap.size w w':=by
 obtain ⟨ua,um,uc,rfl⟩:=hu.form
 obtain ⟨va,vm,vc,rfl⟩:=hv.form
 obtain ⟨W1,hW1⟩ : ∃ W1,(((w.alloc (.cells #[.bool g,.slice ua um uc] 24)).alloc (.cells #[.bool h,.slice va vm vc] 24)).alloc (.cells #[.bool false,.slice none 0 0] 24)).alloc (.cells #[.bool g,.slice ua um uc,.bool h,.slice va vm vc] 24) = W1:=⟨_,rfl⟩
 obtain ⟨b1,q0,q1,q2,q3,s1⟩:=alloc4 w _ _ _ _ _ _ _ _ hW1
 have HW:=Lib.hid hW1
 obtain ⟨B,hB⟩ : ∃ B,w.heap.size = B:=⟨_,rfl⟩
 have HB:=Lib.hid hB
 rw [hB] at hK b1 q0 q1 q2 q3 s1 ⊢
 have hav:=nallvalid_any B (B + 3) g h _ _ y z W1 (hu.below b1 hK hK) (hv.below b1 hK hK) (LB_lt hy (by decide)) (LB_lt hz (by decide)) (by omega) q3
 have HAV:=Lib.hid hav
 have HHU:=Lib.hid hu
 have HHV:=Lib.hid hv
 have HY:=Lib.hid hy
 have HZ:=Lib.hid hz
 clear hB hW1 hav hu hv hy hz
 go_enter Tryz.func80,Tryz.ntmps80
 go_wp2_with fail
 simp only [HB.out,Nat.add_assoc,Nat.reduceAdd]
 rw [HW.out]
 refine HAV.out.mono ?_
 rintro e w2 ⟨rfl,hb2⟩
 have b2 : Below B w w2:=b1.trans (hb2.mono (by omega))
 have hs2:=hb2.size
 have q0:=q0.below hb2 q0.lt
 have q1:=q1.below hb2 q1.lt
 have q2:=q2.below hb2 q2.lt
 have HU3 : Hid (Zn w2.heap.size w2 g (.slice ua um uc) y):=Lib.hid (HHU.out.below b2 hK (by omega))
 have HV3 : Hid (Zn w2.heap.size w2 h (.slice va vm vc) z):=Lib.hid (HHV.out.below b2 hK (by omega))
 obtain ⟨d0,d1⟩:=q0.two
 obtain ⟨d2,d3⟩:=q1.two
 clear q3 HAV HHU HHV
 go_upto_region 3 with fail
 clear d0 d1 d2 d3
 refine region_plain (fun W' => Below w2.heap.size w2 W') [13,14] (by kernel_rfl) ?_
 have qS : (fun W' => Below w2.heap.size w2 W') w2.drew:=below_quiet (Below.refl _ _)
 refine wpAnyD_tpX (i:=0) (v:=.pointer (some ⟨B,0,none⟩)) (some 12) rfl rfl qS ?_
 refine wpAnyD_tkX (i:=1) (v:=.bool g) (some 13) rfl rfl (.inl ⟨by kernel_rfl,fun W' hS => by have d0:=(q0.below hS q0.lt).at (i:=0) rfl; go_simp⟩) qS ?_
 refine wpAnyD_tpX (i:=2) (v:=.pointer (some ⟨B,1,none⟩)) (some 14) rfl rfl qS ?_
 refine wpAnyD_tkX (i:=3) (v:=.slice ua um uc) (some 15) rfl rfl (.inl ⟨by kernel_rfl,fun W' hS => by have d0:=(q0.below hS q0.lt).at (i:=1) rfl; go_simp⟩) qS ?_
 refine wpAnyD_tpX (i:=5) (v:=.pointer (some ⟨B + 1,0,none⟩)) (some 17) rfl rfl qS ?_
 refine wpAnyD_tkX (i:=6) (v:=.bool h) (some 18) rfl rfl (.inl ⟨by kernel_rfl,fun W' hS => by have d0:=(q1.below hS q1.lt).at (i:=0) rfl; go_simp⟩) qS ?_
 refine wpAnyD_tpX (i:=7) (v:=.pointer (some ⟨B + 1,1,none⟩)) (some 19) rfl rfl qS ?_
 refine wpAnyD_tkX (i:=8) (v:=.slice va vm vc) (some 20) rfl rfl (.inl ⟨by kernel_rfl,fun W' hS => by have d0:=(q1.below hS q1.lt).at (i:=1) rfl; go_simp⟩) qS ?_
 refine wpAnyD_on (i:=4) rfl ?_
 go_simp
 refine (npackN_any w2.heap.size _ _ _ (HU3.out.ln.below qS (Nat.le_refl _) (Nat.le_refl _)) qS.size (LB_lt HY.out (by decide))).mono ?_
 rintro e w3 ⟨p3,rfl,hp3,hb3⟩
 obtain ⟨ap3,mp3,cp3,rfl,_⟩:=hp3.form
 have qSw3 : Below w2.heap.size w2 w3:=qS.trans (hb3.mono qS.size)
 go_simp
 refine wpAnyD_on (i:=9) rfl ?_
 go_simp
 refine (npackN_any w2.heap.size _ _ _ (HV3.out.ln.below qSw3 (Nat.le_refl _) (Nat.le_refl _)) qSw3.size (LB_lt HZ.out (by decide))).mono ?_
 rintro e w4 ⟨p4,rfl,hp4,hb4⟩
 obtain ⟨ap4,mp4,cp4,rfl,_⟩:=hp4.form
 have qSw3w4 : Below w2.heap.size w2 w4:=qSw3.trans (hb4.mono qSw3.size)
 go_simp
 refine wpAnyD_on (i:=10) rfl ?_
 go_simp
 refine (nsum_any w4.heap.size g h _ _ _ _ _ (hp3.below hb4 (Nat.le_refl _) hb4.size) hp4 (LB_lt HY.out (by decide)) (LB_lt HZ.out (by decide)) (Nat.le_refl _)).mono ?_
 rintro e w5 ⟨x6,rfl,hx6,hb5⟩
 obtain ⟨g6,p6,rfl,hp6,hnw⟩:=hx6
 obtain ⟨a6,m6,c6,rfl⟩:=hp6.form
 rw [HU3.out.val,HV3.out.val] at hp6
 have qSw3w4w5 : Below w2.heap.size w2 w5:=qSw3w4.trans (hb5.mono qSw3w4.size)
 go_simp
 have q2s:=q2.below qSw3w4w5 q2.lt
 obtain ⟨e0,e1⟩:=q2s.two
 have f0:=q2s.free 0
 have f1:=q2s.free 1
 refine wpAnyD_tpX (i:=11) (v:=.agg #[.bool g6,.slice a6 m6 c6]) (some 23) rfl rfl qSw3w4w5 ?_
 refine wpAnyD_tpX (i:=12) (v:=.int .i64 0) (some 24) rfl rfl qSw3w4w5 ?_
 refine wpAnyD_on (i:=13) rfl ?_
 go_simp
 refine wpAnyD_on (i:=14) rfl ?_
 go_simp
 refine wpAnyD_done (by kernel_rfl) ?_ _
 go_wp2_with fail
 have q3s:=(q2s.set (i:=0) (.bool g6)).set (i:=1) (.slice a6 m6 c6)
 clear e0 e1
 obtain ⟨e0,e1⟩:=q3s.two
 refine bodyPost_ret (v:=.tuple #[.agg #[.bool g6,.slice a6 m6 c6],.int .i64 0]) (by simp [results,Tryz.results80,go_sem,e0,e1]) rfl ?_
 have hBn : B + 2 < w4.heap.size:=by have := qSw3w4.size; omega
 have ws:=((hp6.set (r:=B + 2) (i:=0) (x:=.bool g6) hnw hBn).set (r:=B + 2) (i:=1) (x:=.slice a6 m6 c6) hnw hBn)
 have b6 : Below B w w5:=b2.trans (qSw3w4w5.mono (by omega))
 exact ⟨_,rfl,.mk (ws.below (Below.refl w5.heap.size _) (Nat.le_refl _) (by simp [World.setCell])) (hnw.mono (by omega)),(b6.setCell (p:=⟨B + 2,0,none⟩) (by simp) _).setCell (p:=⟨B + 2,1,none⟩) (by simp) _⟩
theorem nMul_any (K : Nat) (g h : Bool) (u v : Value) (y z : Int) (w : World) (hu : Zn K w g u y) (hv : Zn K w h v z) (hy : y.natAbs < LB 512) (hz : z.natAbs < LB 512) (hK : K <= w.heap.size) :
  Calls Tryz.prog 81 #[.agg #[.bool g,u],.agg #[.bool h,v]] w fun e w' => ∃ x,e = .returned (.tuple #[x,.int .i64 0]) /\ ZxN w.heap.size w'.heap.size w' x (y * z) /\ Below w.heap.size w w':=by
 obtain ⟨ua,um,uc,rfl⟩:=hu.form
 obtain ⟨va,vm,vc,rfl⟩:=hv.form
 obtain ⟨W1,hW1⟩ : ∃ W1,(((w.alloc (.cells #[.bool g,.slice ua um uc] 24)).alloc (.cells #[.bool h,.slice va vm vc] 24)).alloc (.cells #[.bool false,.slice none 0 0] 24)).alloc (.cells #[.bool g,.slice ua um uc,.bool h,.slice va vm vc] 24) = W1:=⟨_,rfl⟩
 obtain ⟨b1,q0,q1,q2,q3,s1⟩:=alloc4 w _ _ _ _ _ _ _ _ hW1
 have HW:=Lib.hid hW1
 obtain ⟨B,hB⟩ : ∃ B,w.heap.size = B:=⟨_,rfl⟩
 have HB:=Lib.hid hB
 rw [hB] at hK b1 q0 q1 q2 q3 s1 ⊢
 have hav:=nallvalid_any B (B + 3) g h _ _ y z W1 (hu.below b1 hK hK) (hv.below b1 hK hK) (LB_lt hy (by decide)) (LB_lt hz (by decide)) (by omega) q3
 have HAV:=Lib.hid hav
 have HHU:=Lib.hid hu
 have HHV:=Lib.hid hv
 have HY:=Lib.hid hy
 have HZ:=Lib.hid hz
 clear hB hW1 hav hu hv hy hz
 go_enter Tryz.func81,Tryz.ntmps81
 go_wp2_with fail
 simp only [HB.out,Nat.add_assoc,Nat.reduceAdd]
 rw [HW.out]
 refine HAV.out.mono ?_
 rintro e w2 ⟨rfl,hb2⟩
 have b2 : Below B w w2:=b1.trans (hb2.mono (by omega))
 have hs2:=hb2.size
 have q0:=q0.below hb2 q0.lt
 have q1:=q1.below hb2 q1.lt
 have q2:=q2.below hb2 q2.lt
 have HU3 : Hid (Zn w2.heap.size w2 g (.slice ua um uc) y):=Lib.hid (HHU.out.below b2 hK (by omega))
 have HV3 : Hid (Zn w2.heap.size w2 h (.slice va vm vc) z):=Lib.hid (HHV.out.below b2 hK (by omega))
 obtain ⟨d0,d1⟩:=q0.two
 obtain ⟨d2,d3⟩:=q1.two
 clear q3 HAV HHU HHV
 go_upto_region 3 with fail
 clear d0 d1 d2 d3
 refine region_plain (fun W' => Below w2.heap.size w2 W') [15,16] (by kernel_rfl) ?_
 have qS : (fun W' => Below w2.heap.size w2 W') w2.drew:=below_quiet (Below.refl _ _)
 refine wpAnyD_tpX (i:=0) (v:=.pointer (some ⟨B,0,none⟩)) (some 12) rfl rfl qS ?_
 refine wpAnyD_tkX (i:=1) (v:=.bool g) (some 13) rfl rfl (.inl ⟨by kernel_rfl,fun W' hS => by have d0:=(q0.below hS q0.lt).at (i:=0) rfl; go_simp⟩) qS ?_
 refine wpAnyD_tpX (i:=2) (v:=.pointer (some ⟨B + 1,0,none⟩)) (some 14) rfl rfl qS ?_
 refine wpAnyD_tkX (i:=3) (v:=.bool h) (some 15) rfl rfl (.inl ⟨by kernel_rfl,fun W' hS => by have d0:=(q1.below hS q1.lt).at (i:=0) rfl; go_simp⟩) qS ?_
 refine wpAnyD_tpX (i:=4) (v:=.bool (!(g == h))) (some 16) rfl rfl qS ?_
 refine wpAnyD_tpX (i:=5) (v:=.pointer (some ⟨B,1,none⟩)) (some 17) rfl rfl qS ?_
 refine wpAnyD_tkX (i:=6) (v:=.slice ua um uc) (some 18) rfl rfl (.inl ⟨by kernel_rfl,fun W' hS => by have d0:=(q0.below hS q0.lt).at (i:=1) rfl; go_simp⟩) qS ?_
 refine wpAnyD_tpX (i:=8) (v:=.pointer (some ⟨B + 1,1,none⟩)) (some 20) rfl rfl qS ?_
 refine wpAnyD_tkX (i:=9) (v:=.slice va vm vc) (some 21) rfl rfl (.inl ⟨by kernel_rfl,fun W' hS => by have d0:=(q1.below hS q1.lt).at (i:=1) rfl; go_simp⟩) qS ?_
 refine wpAnyD_on (i:=7) rfl ?_
 go_simp
 refine (npackN_any w2.heap.size _ _ _ (HU3.out.ln.below qS (Nat.le_refl _) (Nat.le_refl _)) qS.size (LB_lt HY.out (by decide))).mono ?_
 rintro e w3 ⟨p3,rfl,hp3,hb3⟩
 obtain ⟨ap3,mp3,cp3,rfl,_⟩:=hp3.form
 have qSw3 : Below w2.heap.size w2 w3:=qS.trans (hb3.mono qS.size)
 go_simp
 refine wpAnyD_on (i:=10) rfl ?_
 go_simp
 refine (npackN_any w2.heap.size _ _ _ (HV3.out.ln.below qSw3 (Nat.le_refl _) (Nat.le_refl _)) qSw3.size (LB_lt HZ.out (by decide))).mono ?_
 rintro e w4 ⟨p4,rfl,hp4,hb4⟩
 obtain ⟨ap4,mp4,cp4,rfl,_⟩:=hp4.form
 have qSw3w4 : Below w2.heap.size w2 w4:=qSw3.trans (hb4.mono qSw3.size)
 go_simp
 refine wpAnyD_on (i:=11) rfl ?_
 go_simp
 refine (ntimes_any w4.heap.size _ _ _ _ _ (hp3.below hb4 (Nat.le_refl _) hb4.size) hp4 (Nat.le_refl _) (LB_wb (k:=536870912) HY.out (by decide)) (LB_wb (k:=536870912) HZ.out (by decide))).mono ?_
 rintro e w5 ⟨p5,rfl,hp5,hb5,_⟩
 obtain ⟨a5,m5,c5,rfl,_⟩:=hp5.form
 have qSw3w4w5 : Below w2.heap.size w2 w5:=qSw3w4.trans (hb5.mono qSw3w4.size)
 go_simp
 refine wpAnyD_on (i:=12) rfl ?_
 go_simp
 refine (nresult_any w5.heap.size (!(g == h)) _ _ _ hp5 (Nat.le_refl _) (LB_lt (LB_mul HY.out HZ.out) (by decide))).mono ?_
 rintro e w6 ⟨x6,rfl,hx6,hb6⟩
 obtain ⟨g6,p6,rfl,hp6,hnw⟩:=hx6
 obtain ⟨a6,m6,c6,rfl⟩:=hp6.form
 rw [sgz_mul,HU3.out.val,HV3.out.val] at hp6
 have qSw3w4w5w6 : Below w2.heap.size w2 w6:=qSw3w4w5.trans (hb6.mono qSw3w4w5.size)
 go_simp
 have q2s:=q2.below qSw3w4w5w6 q2.lt
 obtain ⟨e0,e1⟩:=q2s.two
 have f0:=q2s.free 0
 have f1:=q2s.free 1
 refine wpAnyD_tpX (i:=13) (v:=.agg #[.bool g6,.slice a6 m6 c6]) (some 25) rfl rfl qSw3w4w5w6 ?_
 refine wpAnyD_tpX (i:=14) (v:=.int .i64 0) (some 26) rfl rfl qSw3w4w5w6 ?_
 refine wpAnyD_on (i:=15) rfl ?_
 go_simp
 refine wpAnyD_on (i:=16) rfl ?_
 go_simp
 refine wpAnyD_done (by kernel_rfl) ?_ _
 go_wp2_with fail
 have q3s:=(q2s.set (i:=0) (.bool g6)).set (i:=1) (.slice a6 m6 c6)
 clear e0 e1
 obtain ⟨e0,e1⟩:=q3s.two
 refine bodyPost_ret (v:=.tuple #[.agg #[.bool g6,.slice a6 m6 c6],.int .i64 0]) (by simp [results,Tryz.results81,go_sem,e0,e1]) rfl ?_
 have hBn : B + 2 < w5.heap.size:=by have := qSw3w4w5.size; omega
 have ws:=((hp6.set (r:=B + 2) (i:=0) (x:=.bool g6) hnw hBn).set (r:=B + 2) (i:=1) (x:=.slice a6 m6 c6) hnw hBn)
 have b6 : Below B w w6:=b2.trans (qSw3w4w5w6.mono (by omega))
 exact ⟨_,rfl,.mk (ws.below (Below.refl w6.heap.size _) (Nat.le_refl _) (by simp [World.setCell])) (hnw.mono (by omega)),(b6.setCell (p:=⟨B + 2,0,none⟩) (by simp) _).setCell (p:=⟨B + 2,1,none⟩) (by simp) _⟩
theorem cmpI_neg {y z : Int} (hy : y < 0) (hz : z < 0) : cmpI y z = -cmpN y.natAbs z.natAbs:=by
 unfold cmpI cmpN
 by_cases h1 : y < z
 ·rw [if_pos h1,if_neg (by omega),if_pos (by omega)]
 ·by_cases h2 : z < y
  ·rw [if_neg h1,if_pos h2,if_pos (by omega)]; rfl
  ·rw [if_neg h1,if_neg h2,if_neg (by omega),if_neg (by omega)]; rfl
theorem cmpI_pos {y z : Int} (hy : 0 <= y) (hz : 0 <= z) : cmpI y z = cmpN y.natAbs z.natAbs:=by
 unfold cmpI cmpN
 by_cases h1 : y < z
 ·rw [if_pos h1,if_pos (by omega)]
 ·by_cases h2 : z < y
  ·rw [if_neg h1,if_pos h2,if_neg (by omega),if_pos (by omega)]
  ·rw [if_neg h1,if_neg h2,if_neg (by omega),if_neg (by omega)]
theorem nCmp_any (K : Nat) (g h : Bool) (u v : Value) (y z : Int) (w : World) (hu : Zn K w g u y) (hv : Zn K w h v z) (hy : y.natAbs < LB 1000) (hz : z.natAbs < LB 1000) (hK : K <= w.heap.size) :
  Calls Tryz.prog 70 #[.agg #[.bool g,u],.agg #[.bool h,v]] w fun e w' => e = .returned (.int .i64 (cmpI y z)) /\ Below w.heap.size w w':=by
 obtain ⟨ua,um,uc,rfl⟩:=hu.form
 obtain ⟨va,vm,vc,rfl⟩:=hv.form
 obtain ⟨W1,hW1⟩ : ∃ W1,((w.alloc (.cells #[.bool g,.slice ua um uc] 24)).alloc (.cells #[.bool h,.slice va vm vc] 24)).alloc (.cells #[.bool g,.slice ua um uc,.bool h,.slice va vm vc] 24) = W1:=⟨_,rfl⟩
 obtain ⟨b1,q0,q1,q2,s1⟩:=alloc3 w _ _ _ _ _ _ hW1
 have HW:=Lib.hid hW1
 obtain ⟨B,hB⟩ : ∃ B,w.heap.size = B:=⟨_,rfl⟩
 have HB:=Lib.hid hB
 rw [hB] at hK b1 q0 q1 q2 s1 ⊢
 have hav:=nallvalid_any B (B + 2) g h _ _ y z W1 (hu.below b1 hK hK) (hv.below b1 hK hK) (LB_lt hy (by decide)) (LB_lt hz (by decide)) (by omega) q2
 have HAV:=Lib.hid hav
 have HHU:=Lib.hid hu
 have HHV:=Lib.hid hv
 have HY:=Lib.hid hy
 have HZ:=Lib.hid hz
 clear hB hW1 hav hu hv hy hz
 go_enter Tryz.func70,Tryz.ntmps70
 go_wp2_with fail
 simp only [HB.out,Nat.add_assoc,Nat.reduceAdd]
 rw [HW.out]
 refine HAV.out.mono ?_
 rintro e w2 ⟨rfl,hb2⟩
 have b2 : Below B w w2:=b1.trans (hb2.mono (by omega))
 have hs2:=hb2.size
 have q0:=q0.below hb2 q0.lt
 have q1:=q1.below hb2 q1.lt
 have HU3 : Hid (Zn w2.heap.size w2 g (.slice ua um uc) y):=Lib.hid (HHU.out.below b2 hK (by omega))
 have HV3 : Hid (Zn w2.heap.size w2 h (.slice va vm vc) z):=Lib.hid (HHV.out.below b2 hK (by omega))
 obtain ⟨d0,d1⟩:=q0.two
 obtain ⟨d2,d3⟩:=q1.two
 clear q2 HAV HHU HHV
 obtain ⟨cv,hcv⟩ : ∃ cv,cmpN y.natAbs z.natAbs = cv:=⟨_,rfl⟩
 have HCV:=Lib.hid hcv
 clear hcv
 have hyg:=HU3.out.sg
 have hzh:=HV3.out.sg
 cases g with
 | true =>
  have hy0 : y < 0:=by simpa using hyg.symm
  cases h with
  | false =>
   have hz0 : ¬ z < 0:=by simpa using hzh.symm
   have hr : cmpI y z = -1:=by unfold cmpI; rw [if_pos (by omega)]
   have HR:=Lib.hid hr
   clear hr hyg hzh
   go_wp2_with fail
   go_ret
   exact ⟨by rw [HR.out]; rfl,b2⟩
  | true =>
   have hz0 : z < 0:=by simpa using hzh.symm
   have HFIN : Hid (cmpI y z = -cv):=Lib.hid (by rw [cmpI_neg hy0 hz0,HCV.out])
   have hcr : cv = -1 \/ cv = 0 \/ cv = 1:=by
    rw [<- HCV.out]
    unfold cmpN
    split
    ·exact .inl rfl
    ·split
     ·exact .inr (.inr rfl)
     ·exact .inr (.inl rfl)
   have hw0 : IntKind.i64.wrap (-cv) = -cv:=wi64 (by omega) (by omega)
   clear hyg hzh hcr
   go_upto_region 7 with fail
   clear d0 d1 d2 d3
   refine region_plain (fun W' => Below w2.heap.size w2 W') [] (by kernel_rfl) ?_
   have qS : (fun W' => Below w2.heap.size w2 W') w2.drew:=below_quiet (Below.refl _ _)
   refine wpAnyD_tpX (i:=0) (v:=.pointer (some ⟨B,1,none⟩)) (some 18) rfl rfl qS ?_
   refine wpAnyD_tkX (i:=1) (v:=.slice ua um uc) (some 19) rfl rfl (.inl ⟨by kernel_rfl,fun W' hS => by have d0:=(q0.below hS q0.lt).at (i:=1) rfl; go_simp⟩) qS ?_
   refine wpAnyD_tpX (i:=3) (v:=.pointer (some ⟨B + 1,1,none⟩)) (some 21) rfl rfl qS ?_
   refine wpAnyD_tkX (i:=4) (v:=.slice va vm vc) (some 22) rfl rfl (.inl ⟨by kernel_rfl,fun W' hS => by have d0:=(q1.below hS q1.lt).at (i:=1) rfl; go_simp⟩) qS ?_
   refine wpAnyD_on (i:=2) rfl ?_
   go_simp
   refine (npackN_any w2.heap.size _ _ _ (HU3.out.ln.below qS (Nat.le_refl _) (Nat.le_refl _)) qS.size (LB_lt HY.out (by decide))).mono ?_
   rintro e w3 ⟨p3,rfl,hp3,hb3⟩
   obtain ⟨ap3,mp3,cp3,rfl,_⟩:=hp3.form
   have qSw3 : Below w2.heap.size w2 w3:=qS.trans (hb3.mono qS.size)
   go_simp
   refine wpAnyD_on (i:=5) rfl ?_
   go_simp
   refine (npackN_any w2.heap.size _ _ _ (HV3.out.ln.below qSw3 (Nat.le_refl _) (Nat.le_refl _)) qSw3.size (LB_lt HZ.out (by decide))).mono ?_
   rintro e w4 ⟨p4,rfl,hp4,hb4⟩
   obtain ⟨ap4,mp4,cp4,rfl,_⟩:=hp4.form
   have qSw3w4 : Below w2.heap.size w2 w4:=qSw3.trans (hb4.mono qSw3.size)
   go_simp
   refine wpAnyD_on (i:=6) rfl ?_
   go_simp
   have hc:=ncompare_any w4.heap.size _ _ _ _ _ (hp3.below hb4 (Nat.le_refl _) hb4.size) hp4
   rw [HCV.out] at hc
   refine hc.mono ?_
   rintro e w5 ⟨rfl,k5,rfl⟩
   have qS5 : Below w2.heap.size w2 (w4.drewN k5):=below_drewN2 qSw3w4 _
   have d0:=(q0.below qS5 q0.lt).two.1
   go_simp
   refine wpAnyD_on (i:=7) rfl ?_
   go_simp
   refine wpAnyD_done (by kernel_rfl) ?_ _
   go_wp2_with fail
   go_ret
   exact ⟨by rw [HFIN.out]; rfl,b2.trans (qS5.mono (by omega))⟩
 | false =>
  have hy0 : ¬ y < 0:=by simpa using hyg.symm
  cases h with
  | true =>
   have hz0 : z < 0:=by simpa using hzh.symm
   have hr : cmpI y z = 1:=by unfold cmpI; rw [if_neg (by omega),if_pos (by omega)]
   have HR:=Lib.hid hr
   clear hr hyg hzh
   go_wp2_with fail
   go_ret
   exact ⟨by rw [HR.out]; rfl,b2⟩
  | false =>
   have hz0 : ¬ z < 0:=by simpa using hzh.symm
   have HFIN : Hid (cmpI y z = cv):=Lib.hid (by rw [cmpI_pos (by omega) (by omega),HCV.out])
   clear hyg hzh
   go_upto_region 7 with fail
   clear d0 d1 d2 d3
   refine region_plain (fun W' => Below w2.heap.size w2 W') [] (by kernel_rfl) ?_
   have qS : (fun W' => Below w2.heap.size w2 W') w2.drew:=below_quiet (Below.refl _ _)
   refine wpAnyD_tpX (i:=0) (v:=.pointer (some ⟨B,1,none⟩)) (some 18) rfl rfl qS ?_
   refine wpAnyD_tkX (i:=1) (v:=.slice ua um uc) (some 19) rfl rfl (.inl ⟨by kernel_rfl,fun W' hS => by have d0:=(q0.below hS q0.lt).at (i:=1) rfl; go_simp⟩) qS ?_
   refine wpAnyD_tpX (i:=3) (v:=.pointer (some ⟨B + 1,1,none⟩)) (some 21) rfl rfl qS ?_
   refine wpAnyD_tkX (i:=4) (v:=.slice va vm vc) (some 22) rfl rfl (.inl ⟨by kernel_rfl,fun W' hS => by have d0:=(q1.below hS q1.lt).at (i:=1) rfl; go_simp⟩) qS ?_
   refine wpAnyD_on (i:=2) rfl ?_
   go_simp
   refine (npackN_any w2.heap.size _ _ _ (HU3.out.ln.below qS (Nat.le_refl _) (Nat.le_refl _)) qS.size (LB_lt HY.out (by decide))).mono ?_
   rintro e w3 ⟨p3,rfl,hp3,hb3⟩
   obtain ⟨ap3,mp3,cp3,rfl,_⟩:=hp3.form
   have qSw3 : Below w2.heap.size w2 w3:=qS.trans (hb3.mono qS.size)
   go_simp
   refine wpAnyD_on (i:=5) rfl ?_
   go_simp
   refine (npackN_any w2.heap.size _ _ _ (HV3.out.ln.below qSw3 (Nat.le_refl _) (Nat.le_refl _)) qSw3.size (LB_lt HZ.out (by decide))).mono ?_
   rintro e w4 ⟨p4,rfl,hp4,hb4⟩
   obtain ⟨ap4,mp4,cp4,rfl,_⟩:=hp4.form
   have qSw3w4 : Below w2.heap.size w2 w4:=qSw3.trans (hb4.mono qSw3.size)
   go_simp
   refine wpAnyD_on (i:=6) rfl ?_
   go_simp
   have hc:=ncompare_any w4.heap.size _ _ _ _ _ (hp3.below hb4 (Nat.le_refl _) hb4.size) hp4
   rw [HCV.out] at hc
   refine hc.mono ?_
   rintro e w5 ⟨rfl,k5,rfl⟩
   have qS5 : Below w2.heap.size w2 (w4.drewN k5):=below_drewN2 qSw3w4 _
   have d0:=(q0.below qS5 q0.lt).two.1
   go_simp
   refine wpAnyD_on (i:=7) rfl ?_
   go_simp
   refine wpAnyD_done (by kernel_rfl) ?_ _
   go_wp2_with fail
   go_ret
   exact ⟨by rw [HFIN.out]; rfl,b2.trans (qS5.mono (by omega))⟩
end Go.Proofs.YtlldjmagbjjeoaaGreat
