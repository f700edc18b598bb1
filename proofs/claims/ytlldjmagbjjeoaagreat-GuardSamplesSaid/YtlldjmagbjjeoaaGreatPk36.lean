/- Contracts and plain laws, several texts in one (GBesF, GSmpX, GlAwS, GlK5). No conditions beyond those stated. -/
import Derived.Test.YtlldjmagbjjeoaaGreatPk35
set_option maxRecDepth 100000
set_option maxHeartbeats 40000000
namespace Go.Proofs.YtlldjmagbjjeoaaGreat
open Go.RowKit
set_option linter.unusedVariables false
theorem cell_agr {w W : World} {p : Addr} {x : Value} (h : w.cell? p = some x) (ha : ∀ o,w.heap[p.block]? = some o -> o.isCells = true -> W.heap[p.block]? = some o) : W.cell? p = some x:=by
 unfold World.cell? at h ⊢
 cases ho : w.heap[p.block]? with
 | none => rw [ho] at h; cases h
 | some o =>
  rw [ho] at h
  cases o with
  | cells c t f => rw [ha _ ho rfl]; exact h
  | _ => cases h
theorem Lm.zed {K L hi : Nat} {w : World} {v : Value} {l : List Nat} (h : Lm K w v l) (hn : NewV L v) (hK : K <= hi) : Zed (Btw L hi) w (fun K W => Lm K W v l):=by
 intro W K' ha hK'
 obtain ⟨⟨a,cap,he,h1,h2,h3,h4⟩,h5⟩:=h
 refine ⟨⟨a,cap,he,h1,h2,h3,fun i hi' => ?_⟩,h5⟩
 obtain ⟨b,o,k1,k2,k3⟩:=h4 i hi'
 have hb:=hn b o _ _ (by rw [he,k1])
 exact ⟨b,o,k1,hK' b ⟨hb,by omega⟩,fun j hj => cell_agr (k3 j hj) fun x hx hc => ha b x ⟨hb,by omega⟩ hx hc⟩
theorem QxN.parts {L K : Nat} {w : World} {x : Value} {p : Int} {q : Nat} (h : QxN L K w x p q) : ∃ a1 n1 c1 a2 n2 c2,x = Fg (decide (p < 0)) (.slice a1 n1 c1) false (.slice a2 n2 c2) /\ Qv K w (decide (p < 0)) (.slice a1 n1 c1) (.slice a2 n2 c2) p q ∧
  (∀ hi,K <= hi -> Zed (Btw L hi) w (fun K W => Lm K W (.slice a1 n1 c1) (limbs p.natAbs) /\ Lm K W (.slice a2 n2 c2) (limbs q))):=by
 obtain ⟨g,u,v,rfl,hq,hn1,hn2⟩:=h
 obtain rfl:=hq.n.sg
 obtain ⟨a1,n1,c1,rfl⟩:=hq.n.form
 obtain ⟨a2,n2,c2,rfl⟩:=hq.d.form
 have h1:=hq.n.ln.limbs
 have h2:=hq.d.ln.limbs
 rw [Int.natAbs_natCast] at h2
 exact ⟨a1,n1,c1,a2,n2,c2,rfl,hq,fun hi hK W K' ha hK' => ⟨h1.zed hn1 hK W K' ha hK',h2.zed hn2 hK W K' ha hK'⟩⟩
theorem fracV_is {K : Nat} {w : World} {kd p : Int} {q : Nat} {u v : Value} (h : Lm K w u (limbs p.natAbs) /\ Lm K w v (limbs q)) : VlX K w (fracV kd p q) ⟨kd,decide (p < 0),u,false,v,0⟩:=⟨rfl,rfl,rfl,rfl,h.1,h.2⟩
theorem VlX.qv {K : Nat} {w : World} {v : Vq} {x : Vv} (h : VlX K w v x) (hk : v.kd = 2 \/ v.kd = 3) (ho : v.ok = true) (hg : v.good = true) : x.b2 = false /\ x.i = 0 /\ Qv K w x.b1 x.s1 x.s2 (sgz v.g1 (lval v.l1)) (lval v.l2) /\ lval v.l1 < LB 64 /\ lval v.l2 < LB 64:=by
 have hf : v.fr = true:=by unfold Vq.fr; rcases hk with h | h <;> rw [h] <;> rfl
 have h1:=(ok_fr hf ho).1
 obtain ⟨z1,qv⟩:=h.n.qv h.d h1
 obtain ⟨_,h2,_⟩:=ok_parts hk ho hg
 obtain ⟨s1,s2⟩:=Vq.short hg
 rw [h.b2,h.i,h.b1]
 refine ⟨z1,h2,qv,?_,?_⟩
 ·rw [lval_bv]; exact Nat.lt_of_lt_of_le (bv_lt v.l1 h.n.2) (LB_mono s1)
 ·rw [lval_bv]; exact Nat.lt_of_lt_of_le (bv_lt v.l2 h.d.2) (LB_mono s2)
theorem infoFracN : (Tryz.prog.info? 26).map (fun i => i.size) = some 4:=by kernel_rfl
theorem gbesK_any (kk : Int) (hfr : ∀ W,Calls Tryz.prog 66 #[.int .i64 kk] W fun e w' => ∃ x,e = .returned x /\ ZxN W.heap.size w'.heap.size w' x kk /\ Below W.heap.size W w') (hk1 : kk.natAbs < LB 1) (v : Vq) (hk : v.kd = 2 \/ v.kd = 3) (ho : v.ok = true) (hg : v.good = true) : BesC v kk (besV v kk):=by
 intro x w h
 obtain ⟨hb2,hi,hqv,hl1,hl2⟩:=h.qv hk ho hg
 have hkx:=h.kd
 obtain ⟨m,hm⟩ : ∃ m,sgz v.g1 (lval v.l1) = m:=⟨_,rfl⟩
 obtain ⟨n,hn⟩ : ∃ n,lval v.l2 = n:=⟨_,rfl⟩
 have hml : m.natAbs < LB 100:=by rw [<- hm,sgz_abs]; exact LB_lt hl1 (by decide)
 have hnl : n < LB 100:=by rw [<- hn]; exact LB_lt hl2 (by decide)
 obtain ⟨r,hr⟩ : ∃ r,besV v kk = r:=⟨_,rfl⟩
 have HR : Hid (r = fracV v.kd (lowP (m * ((1 : Nat) : Int) + kk * (n : Nat)) (n * 1)) (lowQ (m * ((1 : Nat) : Int) + kk * (n : Nat)) (n * 1))):=Lib.hid (by rw [<- hr,<- hm,<- hn]; rfl)
 rw [hr]
 rw [hm,hn] at hqv
 obtain ⟨a1,c1,hs1,_⟩:=h.n.form
 obtain ⟨a2,c2,hs2,_⟩:=h.d.form
 obtain ⟨n1,hn1⟩ : ∃ z,v.l1.length = z:=⟨_,rfl⟩
 obtain ⟨n2,hn2⟩ : ∃ z,v.l2.length = z:=⟨_,rfl⟩
 rw [hn1] at hs1
 rw [hn2] at hs2
 obtain ⟨kd,f1,s1,f2,s2,i⟩:=x
 dsimp only at hb2 hi hqv hs1 hs2 hkx
 subst hb2 hi hs1 hs2
 obtain ⟨kv,hkv⟩ : ∃ z,v.kd = z:=⟨_,rfl⟩
 rw [hkv] at hk HR hkx
 subst hkx
 obtain ⟨W1,hW1⟩ : ∃ W1,(w.alloc (.cells (⟨kd,f1,.slice a1 n1 c1,false,.slice a2 n2 c2,0⟩ : Vv).cells 28)).alloc (.cells vv0.cells 28) = W1:=⟨_,rfl⟩
 have b1 : Below w.heap.size w W1:=by rw [<- hW1]; exact ((Below.refl _ _).alloc (Nat.le_refl _) _).alloc (by simp) _
 have q1 : Blk W1 w.heap.size (⟨kd,f1,.slice a1 n1 c1,false,.slice a2 n2 c2,0⟩ : Vv).cells 28:=by rw [<- hW1]; exact (Blk.new w _ _).alloc _
 have q2 : Blk W1 (w.heap.size + 1) vv0.cells 28:=by
  rw [<- hW1]
  have := Blk.new (w.alloc (.cells (⟨kd,f1,.slice a1 n1 c1,false,.slice a2 n2 c2,0⟩ : Vv).cells 28)) vv0.cells 28
  rwa [World.size_alloc] at this
 have s1 : W1.heap.size = w.heap.size + 2:=by rw [<- hW1]; simp
 obtain ⟨B,hB⟩ : ∃ B,w.heap.size = B:=⟨_,rfl⟩
 have HB:=Lib.hid hB
 have HW:=Lib.hid hW1
 rw [hB] at b1 q1 q2 s1 ⊢
 dsimp only [Vv.cells,vv0] at HW
 rw [hB] at hqv
 have HQV:=Lib.hid (hqv.below b1 (Nat.le_refl _) (show B <= W1.heap.size by omega))
 have HML:=Lib.hid hml
 have HNL:=Lib.hid hnl
 obtain ⟨c0,c1',c2',c3,c4,c5⟩:=q1.six
 have HQ1:=Lib.hid q1
 have HQ2:=Lib.hid q2
 have HB1:=Lib.hid b1
 have S1:=Lib.hid s1
 have HFR:=Lib.hid hfr
 have HK1:=Lib.hid hk1
 clear hfr hk1 h ho hg hr hm hn hn1 hn2 hkv hl1 hl2 hml hnl hqv hB hW1 q1 q2 b1 s1
 go_enter Tryz.func25,Tryz.ntmps25
 go_upto_region 1 with fail
 simp only [HB.out]
 rw [HW.out]
 go_cut [15] from 8 to 15 (fun s wx => s = .bool false /\ W1 = wx)
 case first =>
  rcases hk with rfl | rfl
  all_goals
   go_wp2_with fail
   all_goals go_meet
   all_goals exact ⟨rfl,rfl⟩
 case rest =>
 obtain ⟨rfl,rfl⟩:=hcut
 go_upto_region 3 with fail
 clear c0 c1' c2' c3 c4 c5
 refine region_plain (fun W' => Below W1.heap.size W1 W') [] (by kernel_rfl) ?_
 have qS : (fun W' => Below W1.heap.size W1 W') W1.drew:=below_quiet (Below.refl _ _)
 have lq1 : B < W1.heap.size:=by have := S1.out; omega
 refine wpAnyD_tpX (i:=0) (v:=.pointer (some ⟨B,1,none⟩)) (some 24) rfl rfl qS ?_
 refine wpAnyD_tkX (i:=1) (v:=.agg #[.bool f1,.slice a1 n1 c1,.bool false,.slice a2 n2 c2]) (some 25) rfl rfl (.inl ⟨by kernel_rfl,fun W' hS => by have d0:=(HQ1.out.below hS lq1).at (i:=1) rfl; have d1:=(HQ1.out.below hS lq1).at (i:=2) rfl; have d2:=(HQ1.out.below hS lq1).at (i:=3) rfl; have d3:=(HQ1.out.below hS lq1).at (i:=4) rfl; go_simp⟩) qS ?_
 refine wpAnyD_tpX (i:=2) (v:=.int .i64 kk) (some 26) rfl rfl qS ?_
 refine wpAnyD_chain2X (c1:=3) (c2:=4) (i:=8) (L0:=?L0) (L1:=?L1) (A:=?A) (some 27) (some 28) (some 6) 3 26 #[.bool false,.slice none 0 0,.bool false,.slice none 0 0] (fun _ W => Below W1.heap.size W1 W)
  (fun v1 Fp W => Below W1.heap.size W1 W /\ (∀ b,Fp b -> b < W.heap.size) /\ ∃ (a3 : Option Addr) (n3 c3 : Nat) (a4 : Option Addr) (n4 c4 : Nat),v1 = Fg (decide (kk < 0)) (.slice a3 n3 c3) false (.slice a4 n4 c4) /\ Qv W.heap.size W (decide (kk < 0)) (.slice a3 n3 c3) (.slice a4 n4 c4) kk 1)
  (fun v1 v2 Fp W => Below W1.heap.size W1 W /\ (∀ b,Fp b -> W1.heap.size <= b /\ b < W.heap.size) /\ ∃ (a5 : Option Addr) (n5 c5 : Nat) (a6 : Option Addr) (n6 c6 : Nat),v2 = .tuple #[Fg (decide (lowP (m * ((1 : Nat) : Int) + kk * (n : Nat)) (n * 1) < 0)) (.slice a5 n5 c5) false (.slice a6 n6 c6),.int .i64 0] /\ Zed Fp W (fun K W => Lm K W (.slice a5 n5 c5) (limbs (lowP (m * ((1 : Nat) : Int) + kk * (n : Nat)) (n * 1)).natAbs) /\ Lm K W (.slice a6 n6 c6) (limbs (lowQ (m * ((1 : Nat) : Int) + kk * (n : Nat)) (n * 1)))))
  (by kernel_rfl) (by kernel_rfl) (by kernel_rfl) (by kernel_rfl) ?hrn ?hL rfl rfl (fun _ => rfl) (by decide) rfl rfl (fun _ => rfl) (by decide) (fun W W' h1 h2 => h1.trans (h2.mono h1.size)) qS rfl rfl (fun _ => rfl) (fun a W KK hK => by go_simp; exact hK) (fun _ W W' h1 h2 => h1.trans (h2.mono h1.size)) ?st1 ?st2 ?step1 ?step2 ?htk0 ?htk1 ?hA qS ?h
 case htk0 | htk1 =>
  intro v1 v2 p Fp W' hF hS H
  refine wpAnyD_tpX (i:=5) (v:=v2) (some 23) rfl rfl hS ?_
  refine wpAnyD_tkX (i:=6) (v:=tupA v2 0) (some 29) rfl rfl (.inl ⟨by kernel_rfl,fun W' hS => by obtain ⟨_,_,_,_,_,_,_,_,rfl,_⟩:=hF; go_simp <;> rfl⟩) hS ?_
  refine wpAnyD_tkX (i:=7) (v:=tupA v2 1) (some 30) rfl rfl (.inl ⟨by kernel_rfl,fun W' hS => by obtain ⟨_,_,_,_,_,_,_,_,rfl,_⟩:=hF; go_simp <;> rfl⟩) hS ?_
  exact H
 case hrn => kernel_rfl
 case hL => rfl
 case hA => intro v1 v2 p q; exact put_over (by decide) (put_over (by decide) (put_over (by decide) (put_over (by decide) (put_over (by decide) (put_twice _ _ _ _)))))
 case st1 =>
  rintro v1 Fp W W' ⟨h1,h2,a3,n3,c3,a4,n4,c4,rfl,h3⟩ hb
  exact ⟨h1.trans (hb.mono h1.size),fun b hF => Nat.lt_of_lt_of_le (h2 b hF) hb.size,a3,n3,c3,a4,n4,c4,rfl,h3.below hb (Nat.le_refl _) hb.size⟩
 case st2 =>
  rintro v1 v2 Fp W W' ⟨h1,h2,a5,n5,c5,a6,n6,c6,rfl,h3⟩ hb
  exact ⟨h1.trans (hb.mono h1.size),fun b hF => ⟨(h2 b hF).1,Nat.lt_of_lt_of_le (h2 b hF).2 hb.size⟩,a5,n5,c5,a6,n6,c6,rfl,h3.move (Agr.of fun b hb' => hb.block b (h2 b hb').2)⟩
 case step1 =>
  intro Fp W p hF KK hKK
  go_simp
  refine (zfromint_any kk W HFR.out (LB_lt HK1.out (by decide))).mono ?_
  rintro en w3 ⟨x,rfl,hx,hb3⟩
  obtain ⟨a3,n3,c3,a4,n4,c4,rfl,hq,_⟩:=hx.parts
  exact hKK _ (fun _ => False) w3 ⟨hF.trans (hb3.mono hF.size),fun b hb => hb.elim,a3,n3,c3,a4,n4,c4,rfl,hq⟩ (fun b hb => hb.elim) hb3
 case step2 =>
  rintro v1 Fp W p ⟨hF,_,a3,n3,c3,a4,n4,c4,rfl,hq⟩ KK hKK
  go_simp
  refine (zadd_any W.heap.size _ _ _ _ _ _ m kk n 1 W (HQV.out.below hF (Nat.le_refl _) hF.size) hq HML.out HNL.out (LB_lt HK1.out (by decide)) (LB_lt (show (1 : Nat) < LB 1 by decide) (by decide)) (Nat.le_refl _)).mono ?_
  rintro en w3 ⟨x,rfl,hx,hb3⟩
  obtain ⟨a5,n5,c5,a6,n6,c6,rfl,_,hz⟩:=hx.parts
  exact hKK _ _ w3 ⟨hF.trans (hb3.mono hF.size),fun b hb => ⟨Nat.le_trans hF.size hb.1,hb.2⟩,a5,n5,c5,a6,n6,c6,rfl,hz _ (Nat.le_refl _)⟩ (fun b hb => .inr hb) hb3
 case h =>
  rintro v1 v2 Fp k w3 ⟨hB3,hrF,a5,n5,c5,a6,n6,c6,rfl,hz⟩ hnk _ hq hkk hbk
  obtain ⟨dn,hdn⟩ : ∃ z,decide (lowP (m * ((1 : Nat) : Int) + kk * (n : Nat)) (n * 1) < 0) = z:=⟨_,rfl⟩
  rw [hdn]
  have HDN:=Lib.hid hdn
  have HZ:=Lib.hid hz
  have HQK:=Lib.hid hq
  have hkW : W1.heap.size <= k:=hkk
  have h1c : ∀ u ∈ (#[.bool dn,.slice a5 n5 c5,.bool false,.slice a6 n6 c6] : Array Value),u.oneCell' = true:=by simp [Value.oneCell']
  have H1C:=Lib.hid h1c
  clear hz hq hdn h1c hbk
  go_simp
  refine wpAnyD_on (i:=9) rfl ?_
  refine wp_store_blkD 26 26 (.tmp 6) (.tmp 29) rfl #[.bool dn,.slice a5 n5 c5,.bool false,.slice a6 n6 c6] _ k HQK.out infoFracN rfl H1C.out rfl rfl ?_
  intro w4 t1 t2 t3 t4
  have hB4 : Below W1.heap.size W1 w4:=hB3.trans (t2 _ hkW)
  refine ⟨fun _ => hB4,?_⟩
  refine wpAnyD_tkX (i:=10) (v:=.int .i64 0) (some 7) rfl rfl (.inl ⟨by kernel_rfl,fun W' hS => by go_simp <;> rfl⟩) hB4 ?_
  refine wpAnyD_done (by kernel_rfl) ?_ _
  have hz4:=HZ.out.move (agr_grown t3 (fun b hb => (hrF b hb).2) fun b hb => by cases hb; exact hnk)
  have HRF : Hid (∀ b,Fp b -> W1.heap.size <= b /\ b < w4.heap.size):=Lib.hid fun b hb => ⟨(hrF b hb).1,Nat.lt_of_lt_of_le (hrF b hb).2 t3.size⟩
  have HT1:=Lib.hid t1
  have HZ4:=Lib.hid hz4
  have HB4:=Lib.hid hB4
  have hp1:=HQ1.out.below hB4 lq1
  have hp2:=HQ2.out.below hB4 (by have := S1.out; omega)
  have d0:=hp1.at (i:=0) (x:=.int .u8 kd) rfl
  obtain ⟨e0,e1,e2,e3⟩:=t1.four
  have HP2:=Lib.hid hp2
  have h1v : ∀ u ∈ (⟨kd,dn,.slice a5 n5 c5,false,.slice a6 n6 c6,0⟩ : Vv).cells,u.oneCell' = true:=by simp [Value.oneCell']
  have H1V:=Lib.hid h1v
  clear t1 t2 t3 t4 hz4 HZ HQK hB3 hB4 hrF hnk hp1 hp2 h1v
  go_simp
  go_upto_region 6 with fail
  go_wp2_with (refine wpList_store_blk rfl 28 28 (.tmp 4) (.tmp 37) rfl (⟨kd,dn,.slice a5 n5 c5,false,.slice a6 n6 c6,0⟩ : Vv).cells _ (B + 1) HP2.out infoValN rfl H1V.out rfl rfl ?_; intro W2 t1 t2 t3 t4)
  refine bodyPost_ret (v:=.tuple #[(⟨kd,dn,.slice a5 n5 c5,false,.slice a6 n6 c6,0⟩ : Vv).agg,.bool true]) ?_ rfl ?_
  ·obtain ⟨e0,e1,e2,e3,e4,e5⟩:=t1.six
   simp [results,Tryz.results25,go_sem,e0,e1,e2,e3,e4,e5]
  have hfin : Zed Fp w4 (fun K W => VlX K W r ⟨kd,dn,.slice a5 n5 c5,false,.slice a6 n6 c6,0⟩):=HZ4.out.imp fun K W hl => by
   rw [HR.out,<- HDN.out]; exact fracV_is hl
  exact ⟨_,rfl,(hfin.move (agr_grown t3 (fun b hb => (HRF.out b hb).2) fun b hb h => by cases hb; have := (HRF.out _ h).1; have := S1.out; omega)).mono fun b hb => ⟨by have := (HRF.out b hb).1; have := S1.out; omega,Nat.lt_of_lt_of_le (HRF.out b hb).2 t3.size⟩,HB1.out.trans ((HB4.out.mono (by have := S1.out; omega)).trans (t2 B (by omega)))⟩
theorem gbesP_any (v : Vq) (hk : v.kd = 2 \/ v.kd = 3) (ho : v.ok = true) (hg : v.good = true) : BesC v 1 (besV v 1):=gbesK_any 1 wfrom1_any (by decide) v hk ho hg
theorem gbesM_any (v : Vq) (hk : v.kd = 2 \/ v.kd = 3) (ho : v.ok = true) (hg : v.good = true) : BesC v (-1) (besV v (-1)):=gbesK_any (-1) wfromM_any (by decide) v hk ho hg
theorem gmidF_any (v v' : Vq) (hk : v.kd = 2 \/ v.kd = 3) (ho : v.ok = true) (hg : v.good = true) (hk' : v'.kd = 2 \/ v'.kd = 3) (ho' : v'.ok = true) (hg' : v'.good = true) (hm : v.lim 40) (hm' : v'.lim 40) : MidC v v' (midV v v'):=by
 intro x y w h h'
 obtain ⟨hb2,hi,hqv,hl1,hl2⟩:=h.qv hk ho hg
 obtain ⟨hb2',hi',hqv',hl1',hl2'⟩:=h'.qv hk' ho' hg'
 have hdg : v.dig:=⟨h.n.2,h.d.2⟩
 have hdg' : v'.dig:=⟨h'.n.2,h'.d.2⟩
 obtain ⟨L1,L2⟩:=hm.lb hdg
 obtain ⟨L3,L4⟩:=hm'.lb hdg'
 have hkx:=h.kd
 obtain ⟨m,hme⟩ : ∃ m,sgz v.g1 (lval v.l1) = m:=⟨_,rfl⟩
 obtain ⟨n,hne⟩ : ∃ n,lval v.l2 = n:=⟨_,rfl⟩
 obtain ⟨p,hpe⟩ : ∃ m,sgz v'.g1 (lval v'.l1) = m:=⟨_,rfl⟩
 obtain ⟨q,hqe⟩ : ∃ n,lval v'.l2 = n:=⟨_,rfl⟩
 have hml : m.natAbs < LB 40:=by rw [<- hme,sgz_abs]; exact L1
 have hnl : n < LB 40:=by rw [<- hne]; exact L2
 have hpl : p.natAbs < LB 40:=by rw [<- hpe,sgz_abs]; exact L3
 have hql : q < LB 40:=by rw [<- hqe]; exact L4
 obtain ⟨P,hP⟩ : ∃ P,lowP (m * (q : Nat) + p * (n : Nat)) (n * q) = P:=⟨_,rfl⟩
 obtain ⟨Q,hQ⟩ : ∃ Q,lowQ (m * (q : Nat) + p * (n : Nat)) (n * q) = Q:=⟨_,rfl⟩
 have hsP : sumP v v' = P:=by unfold sumP; rw [hme,hne,hpe,hqe,hP]
 have hsQ : sumQ v v' = Q:=by unfold sumQ; rw [hme,hne,hpe,hqe,hQ]
 rw [hme,hne] at hqv
 rw [hpe,hqe] at hqv'
 have hd0 : 0 < n * q:=Nat.mul_pos hqv.q0 hqv'.q0
 have hPl : P.natAbs < LB 100:=by
  rw [<- hP]
  refine LB_lt (Nat.lt_of_le_of_lt (lowP_le _ hd0) ?_) (show 81 <= 100 by decide)
  refine Nat.lt_of_le_of_lt (Int.natAbs_add_le _ _) ?_
  rw [Int.natAbs_mul,Int.natAbs_mul,Int.natAbs_natCast,Int.natAbs_natCast]
  exact LB_sum (a:=80) (LB_mul hml hql) (LB_mul hpl hnl)
 have hQl : Q < LB 100:=by rw [<- hQ]; exact LB_lt (Nat.lt_of_le_of_lt (lowQ_le _ _) (LB_mul hnl hql)) (by decide)
 obtain ⟨r,hr⟩ : ∃ r,midV v v' = r:=⟨_,rfl⟩
 have HR : Hid (r = fracV v.kd (lowP (P * ((1 : Nat) : Int)) (Q * (2 : Int).natAbs)) (lowQ (P * ((1 : Nat) : Int)) (Q * (2 : Int).natAbs))):=Lib.hid (by rw [<- hr]; unfold midV; rw [hsP,hsQ])
 rw [hr]
 obtain ⟨a1,c1,hs1,_⟩:=h.n.form
 obtain ⟨a2,c2,hs2,_⟩:=h.d.form
 obtain ⟨a3,c3,hs3,_⟩:=h'.n.form
 obtain ⟨a4,c4,hs4,_⟩:=h'.d.form
 obtain ⟨n1,hn1⟩ : ∃ z,v.l1.length = z:=⟨_,rfl⟩
 obtain ⟨n2,hn2⟩ : ∃ z,v.l2.length = z:=⟨_,rfl⟩
 obtain ⟨n3,hn3⟩ : ∃ z,v'.l1.length = z:=⟨_,rfl⟩
 obtain ⟨n4,hn4⟩ : ∃ z,v'.l2.length = z:=⟨_,rfl⟩
 rw [hn1] at hs1
 rw [hn2] at hs2
 rw [hn3] at hs3
 rw [hn4] at hs4
 obtain ⟨kd,f1,s1,f2,s2,i⟩:=x
 obtain ⟨kd',f1',s1',f2',s2',i'⟩:=y
 dsimp only at hb2 hi hqv hs1 hs2 hkx hb2' hi' hqv' hs3 hs4
 subst hb2 hi hs1 hs2 hb2' hi' hs3 hs4
 obtain ⟨kv,hkv⟩ : ∃ z,v.kd = z:=⟨_,rfl⟩
 rw [hkv] at hk HR hkx
 subst hkx
 obtain ⟨W1,hW1⟩ : ∃ W1,((w.alloc (.cells (⟨kd,f1,.slice a1 n1 c1,false,.slice a2 n2 c2,0⟩ : Vv).cells 28)).alloc (.cells (⟨kd',f1',.slice a3 n3 c3,false,.slice a4 n4 c4,0⟩ : Vv).cells 28)).alloc (.cells vv0.cells 28) = W1:=⟨_,rfl⟩
 obtain ⟨b1,q1,q2,q3,s1⟩:=alloc3 w _ _ _ _ _ _ hW1
 obtain ⟨B,hB⟩ : ∃ B,w.heap.size = B:=⟨_,rfl⟩
 have HB:=Lib.hid hB
 have HW:=Lib.hid hW1
 rw [hB] at b1 q1 q2 q3 s1 ⊢
 dsimp only [Vv.cells,vv0] at HW
 rw [hB] at hqv hqv'
 have hadd:=zadd_any W1.heap.size _ _ _ _ _ _ m p n q W1 (hqv.below b1 (Nat.le_refl _) (show B <= W1.heap.size by omega)) (hqv'.below b1 (Nat.le_refl _) (show B <= W1.heap.size by omega)) (LB_lt hml (by decide)) (LB_lt hnl (by decide)) (LB_lt hpl (by decide)) (LB_lt hql (by decide)) (Nat.le_refl _)
 rw [hP,hQ] at hadd
 have HADD:=Lib.hid hadd
 have HPL:=Lib.hid hPl
 have HQL:=Lib.hid hQl
 obtain ⟨c0,c1',c2',c3',c4',c5'⟩:=q1.six
 obtain ⟨g0,g1,g2,g3,g4,g5⟩:=q2.six
 have HQ1:=Lib.hid q1
 have HQ3:=Lib.hid q3
 have HB1:=Lib.hid b1
 have S1:=Lib.hid s1
 clear h h' ho ho' hg hg' hr hm hm' hme hne hpe hqe hn1 hn2 hn3 hn4 hkv hl1 hl2 hl1' hl2' hml hnl hpl hql hqv hqv' hB hW1 q1 q2 q3 b1 s1 hP hQ hsP hsQ hd0 hPl hQl hadd hdg hdg' L1 L2 L3 L4 hk'
 go_enter Tryz.func26,Tryz.ntmps26
 go_upto_region 1 with fail
 simp only [HB.out,Nat.add_assoc,Nat.reduceAdd]
 rw [HW.out]
 go_cut [15] from 8 to 15 (fun s wx => s = .bool false /\ W1 = wx)
 case first =>
  rcases hk with rfl | rfl
  all_goals
   go_wp2_with fail
   all_goals go_meet
   all_goals exact ⟨rfl,rfl⟩
 case rest =>
 obtain ⟨rfl,rfl⟩:=hcut
 go_upto_region 3 with fail
 go_wp2_with fail
 refine HADD.out.mono ?_
 rintro e w2 ⟨x,rfl,hx,hb2⟩
 obtain ⟨a5,n5,c5,a6,n6,c6,rfl,hq5,_⟩:=hx.parts
 clear c0 c1' c2' c3' c4' c5' g0 g1 g2 g3 g4 g5 hx HADD
 obtain ⟨dP,hdP⟩ : ∃ z,decide (P < 0) = z:=⟨_,rfl⟩
 rw [hdP] at hq5 ⊢
 clear hdP
 have HQ5:=Lib.hid hq5
 have HB2:=Lib.hid hb2
 have hs2:=hb2.size
 clear hq5 hb2
 go_upto_region 6 with fail
 obtain ⟨W3,hW3⟩ : ∃ W,w2.alloc (.cells #[.bool dP,.slice a5 n5 c5,.bool false,.slice a6 n6 c6] 26) = W:=⟨_,rfl⟩
 obtain ⟨T,hT⟩ : ∃ T,w2.heap.size = T:=⟨_,rfl⟩
 have b3 : Below T w2 W3:=by rw [<- hW3,<- hT]; exact (Below.refl _ _).alloc (Nat.le_refl _) _
 have q3 : Blk W3 T #[.bool dP,.slice a5 n5 c5,.bool false,.slice a6 n6 c6] 26:=by rw [<- hW3,<- hT]; exact Blk.new w2 _ _
 have s3 : W3.heap.size = T + 1:=by rw [<- hW3,<- hT]; simp
 rw [hW3]
 rw [hT] at HQ5 hs2 ⊢
 have HQ53:=Lib.hid (HQ5.out.below b3 (Nat.le_refl _) (show T <= W3.heap.size by omega))
 have HQF:=Lib.hid q3
 have HB13 : Hid (Below W1.heap.size W1 W3):=Lib.hid (HB2.out.trans (b3.mono (by omega)))
 have S3:=Lib.hid s3
 clear hW3 hT b3 q3 s3 HQ5
 have lT : T < W3.heap.size:=by have := S3.out; omega
 refine region_plain (fun W' => Below W3.heap.size W3 W') [5,6,7] (by kernel_rfl) ?_
 have qS : (fun W' => Below W3.heap.size W3 W') W3.drew:=below_quiet (Below.refl _ _)
 refine wpAnyD_takeC [5,6,7,3,2] (i:=0) (v:=.agg #[.bool dP,.slice a5 n5 c5,.bool false,.slice a6 n6 c6]) rfl (by kernel_rfl) (by kernel_rfl) (by kernel_rfl) (by kernel_rfl) (by kernel_rfl) (by kernel_rfl) (fun _ _ _ h => h) (.inl ⟨by kernel_rfl,fun W' hS => by have d0:=(HQF.out.below hS lT).at (i:=0) rfl; have d1:=(HQF.out.below hS lT).at (i:=1) rfl; have d2:=(HQF.out.below hS lT).at (i:=2) rfl; have d3:=(HQF.out.below hS lT).at (i:=3) rfl; go_simp⟩) qS ?_
 refine wpAnyD_on (i:=1) rfl ?_
 go_simp
 refine (zfromint_any 2 _ wfrom2_any (LB_lt (show (2 : Int).natAbs < LB 1 by decide) (by decide))).mono ?_
 rintro e w4 ⟨x,rfl,hx,hb4⟩
 have qS4 : Below W3.heap.size W3 w4:=qS.trans (hb4.mono qS.size)
 obtain ⟨a7,n7,c7,a8,n8,c8,rfl,hq7,_⟩:=hx.parts
 rw [show decide ((2 : Int) < 0) = false from rfl] at hq7 ⊢
 have HQ7:=Lib.hid hq7
 clear hx hq7
 go_simp
 refine wpAnyD_on (i:=2) rfl ?_
 go_simp
 refine (zdiv_any w4.heap.size _ _ _ _ _ _ P 2 Q 1 w4 (HQ53.out.below qS4 (Nat.le_refl _) qS4.size) HQ7.out (by decide) HPL.out HQL.out (LB_lt (show (2 : Int).natAbs < LB 1 by decide) (by decide)) (LB_lt (show (1 : Nat) < LB 1 by decide) (by decide)) (Nat.le_refl _)).mono ?_
 rintro e w5 ⟨x,rfl,hx,hb5⟩
 have qS5 : Below W3.heap.size W3 w5:=qS4.trans (hb5.mono qS4.size)
 obtain ⟨a9,n9,c9,a10,n10,c10,rfl,_,hz⟩:=hx.parts
 obtain ⟨dn,hdn⟩ : ∃ z,decide (lowP (P * ((1 : Nat) : Int)) (Q * (2 : Int).natAbs) < 0) = z:=⟨_,rfl⟩
 rw [hdn]
 have HDN:=Lib.hid hdn
 have HZ:=Lib.hid (hz _ (Nat.le_refl _))
 have h1c : ∀ u ∈ (#[.bool dn,.slice a9 n9 c9,.bool false,.slice a10 n10 c10] : Array Value),u.oneCell' = true:=by simp [Value.oneCell']
 have H1C:=Lib.hid h1c
 have hqf5:=HQF.out.below qS5 lT
 have HQF5:=Lib.hid hqf5
 have hs45:=hb5.size
 have hs34:=qS4.size
 clear hx hz hdn h1c hqf5
 go_simp
 refine wpAnyD_tpX (i:=3) (v:=.tuple #[.agg #[.bool dn,.slice a9 n9 c9,.bool false,.slice a10 n10 c10],.int .i64 0]) (some 36) rfl rfl qS5 ?_
 refine wpAnyD_pure (i:=5) (v:=.int .i64 0) (some 41) rfl rfl (by kernel_rfl) (by kernel_rfl) (by kernel_rfl) (by kernel_rfl) (fun _ _ _ h => h) (.inl ⟨by kernel_rfl,fun W' hS => by go_simp⟩) ?_
 refine wpAnyD_on (i:=4) rfl ?_
 go_simp
 refine wpAnyD_on (i:=6) rfl ?_
 refine wp_store_blkD 26 26 (.tmp 6) (.tmp 40) rfl #[.bool dn,.slice a9 n9 c9,.bool false,.slice a10 n10 c10] _ T HQF5.out infoFracN rfl H1C.out rfl rfl ?_
 intro w6 t1 t2 t3 t4
 have b13:=HB13.out.size
 have hB6 : Below W1.heap.size W1 w6:=HB13.out.trans ((qS5.mono b13).trans (t2 _ (by have := S3.out; omega)))
 refine ⟨fun e => absurd e (by decide),?_⟩
 refine wpAnyD_on (i:=7) rfl ?_
 go_simp
 refine wpAnyD_done (by kernel_rfl) ?_ _
 have hz6:=HZ.out.move (agr_grown t3 (fun b hb => hb.2) fun b hb h => by cases hb; have := h.1; have := S3.out; omega)
 have HZ6:=Lib.hid hz6
 have hs56:=t3.size
 have hp1:=HQ1.out.below hB6 (by have := S1.out; omega)
 have hp3:=HQ3.out.below hB6 (by have := S1.out; omega)
 have d0:=hp1.at (i:=0) (x:=.int .u8 kd) rfl
 obtain ⟨e0,e1,e2,e3⟩:=t1.four
 have HP3:=Lib.hid hp3
 have HB6:=Lib.hid hB6
 have h1v : ∀ u ∈ (⟨kd,dn,.slice a9 n9 c9,false,.slice a10 n10 c10,0⟩ : Vv).cells,u.oneCell' = true:=by simp [Value.oneCell']
 have H1V:=Lib.hid h1v
 clear t1 t2 t3 t4 hz6 HZ hp1 hp3 hB6 h1v
 go_upto_region 9 with fail
 go_wp2_with (refine wpList_store_blk rfl 28 28 (.tmp 4) (.tmp 48) rfl (⟨kd,dn,.slice a9 n9 c9,false,.slice a10 n10 c10,0⟩ : Vv).cells _ (B + 2) HP3.out infoValN rfl H1V.out rfl rfl ?_; intro W7 t1 t2 t3 t4)
 refine bodyPost_ret (v:=.tuple #[(⟨kd,dn,.slice a9 n9 c9,false,.slice a10 n10 c10,0⟩ : Vv).agg,.bool true]) ?_ rfl ?_
 ·obtain ⟨e0,e1,e2,e3,e4,e5⟩:=t1.six
  simp [results,Tryz.results26,go_sem,e0,e1,e2,e3,e4,e5]
 have hfin : Zed (Btw w4.heap.size w5.heap.size) w6 (fun K W => VlX K W r ⟨kd,dn,.slice a9 n9 c9,false,.slice a10 n10 c10,0⟩):=HZ6.out.imp fun K W hl => by
  rw [HR.out,<- HDN.out]; exact fracV_is hl
 have hsz:=S1.out
 have hsz3:=S3.out
 exact ⟨_,rfl,(hfin.move (agr_grown t3 (fun b hb => by have := hb.2; omega) fun b hb h => by cases hb; have := h.1; omega)).mono fun b hb => ⟨by have := hb.1; omega,by have := hb.2; have := t3.size; omega⟩,HB1.out.trans ((HB6.out.mono (by omega)).trans (t2 B (by omega)))⟩
theorem gsample0_any (K : Nat) (s : Sc) (y : Sv) (c : Nat) (w : World) (hs : ScX K w s y) (hK : K <= w.heap.size) (hgo : ∀ v ∈ s.cuts,v.good = true) (hbig : s.cuts.length <= 2 ^ 38) (hok : s.okB = true) (e0 : s.kd = 0) (hp : s.poss c = true) :
  Calls Tryz.prog 9 #[y.agg,.int .i64 c] w fun e w' => ∃ z : Vv,e = .returned (.tuple #[z.agg,.bool true]) /\ Zed (Btw w.heap.size w'.heap.size) w' (fun K W => VlX K W (wholeV 1 c) z) /\ Below w.heap.size w w':=by
 obtain ⟨W1,hW1⟩ : ∃ W1,(w.alloc (.cells y.cells 34)).alloc (.cells vv0.cells 28) = W1:=⟨_,rfl⟩
 have b1 : Below w.heap.size w W1:=by rw [<- hW1]; exact ((Below.refl _ _).alloc (Nat.le_refl _) _).alloc (by simp) _
 have q1 : Blk W1 w.heap.size y.cells 34:=by rw [<- hW1]; exact (Blk.new w _ _).alloc _
 have q2 : Blk W1 (w.heap.size + 1) vv0.cells 28:=by
  rw [<- hW1]
  have := Blk.new (w.alloc (.cells y.cells 34)) vv0.cells 28
  rwa [World.size_alloc] at this
 have s1 : W1.heap.size = w.heap.size + 2:=by rw [<- hW1]; simp
 obtain ⟨B,hB⟩ : ∃ B,w.heap.size = B:=⟨_,rfl⟩
 have HB:=Lib.hid hB
 have HW:=Lib.hid hW1
 rw [hB] at hK b1 q1 q2 s1 ⊢
 dsimp only [Vv.cells,vv0] at HW
 have hv:=gvalid_any B s y W1 (hs.below b1 hK hK) (by omega) hgo hbig
 rw [hok] at hv
 have hpo : ∀ W,Below W1.heap.size W1 W -> s.okB = true -> Calls Tryz.prog 23 #[.pointer (some ⟨B,0,none⟩),.int .i64 (c : Int)] W fun e w' => e = .returned (.bool (s.poss (c : Int))) /\ Below W.heap.size W w':=fun W hb hok => by
  have h3:=hb.size
  have h2:=(q1.below hb q1.lt)
  exact gposs_any B B 0 y.c.val s (c : Int) W ((hs.cuts.below b1 hK hK).below hb (by omega) (Nat.le_refl _)) (by omega) (by omega) (by rw [Nat.zero_add,<- hs.kd]; exact h2.at rfl) (by rw [Nat.zero_add]; exact h2.at rfl) hbig (okB_cuts hok)
 have HPO:=Lib.hid hpo
 have hcx:=hs.cuts.below b1 hK hK
 have hkd:=hs.kd
 obtain ⟨⟨yop,ynm,yk,yb3,⟨y4,y4n,y4m⟩,yb5,⟨y6,y6n,y6m⟩,yi7,⟨y8,y8n,y8m⟩⟩,sk,⟨ca,cn,cm⟩⟩:=y
 dsimp only at hkd
 have HQ1:=Lib.hid q1
 have HQ2:=Lib.hid q2
 obtain ⟨d0,d1,d2,d3,d4,d5,d6,d7,d8,d9,d10⟩:=HQ1.out.eleven
 rw [e0] at hkd
 subst hkd
 have hpo1:=fun W hb => HPO.out W hb hok
 rw [hp] at hpo1
 have HPO1:=Lib.hid hpo1
 have h1c : ∀ u ∈ (wholeX 1 c).cells,u.oneCell' = true:=by simp [Value.oneCell']
 have H1C:=Lib.hid h1c
 clear hB hW1 hs hgo hok hp hpo hcx q1 q2 hpo1 HPO h1c e0
 go_enter Tryz.func9,Tryz.ntmps9
 go_upto_region 1 with fail
 simp only [HB.out]
 rw [HW.out]
 go_wp2_with fail
 refine hv.mono ?_
 rintro e w2 ⟨rfl,hb2⟩
 clear hv d0 d1 d2 d3 d4 d5 d6 d7 d8 d9 d10
 go_wp2_with fail
 refine (HPO1.out w2 hb2).mono ?_
 rintro e w3 ⟨rfl,hb3⟩
 have b3' : Below W1.heap.size W1 w3:=hb2.trans (hb3.mono hb2.size)
 have b3 : Below B w w3:=b1.trans (b3'.mono (by omega))
 have hs3:=b3'.size
 clear hb2 hb3
 have d9:=(HQ1.out.below b3' (by omega)).at (i:=9) (x:=.int .u8 0) rfl
 have HQ4:=Lib.hid (HQ2.out.below b3' (by omega))
 go_wp2_with (refine wpList_store_blk rfl 28 28 (.tmp 4) (.tmp 20) rfl (wholeX 1 c).cells _ (B + 1) HQ4.out infoValN rfl H1C.out rfl rfl ?_; intro W2 t1 t2 t3 t4)
 refine bodyPost_ret (v:=.tuple #[(wholeX 1 c).agg,.bool true]) ?_ rfl ?_
 ·obtain ⟨e0,e1,e2,e3,e4,e5⟩:=t1.six
  simp [results,Tryz.results9,go_sem,e0,e1,e2,e3,e4,e5]
 exact ⟨_,rfl,fun W K _ _ => wholeX_is _ _ _ _,b3.trans (t2 B (by omega))⟩
theorem gsampleN_any (K : Nat) (s : Sc) (y : Sv) (c : Int) (w : World) (hs : ScX K w s y) (hK : K <= w.heap.size) (hgo : ∀ v ∈ s.cuts,v.good = true) (hbig : s.cuts.length <= 2 ^ 38) (hno : s.okB = false \/ s.poss c = false) :
  Calls Tryz.prog 9 #[y.agg,.int .i64 c] w fun e w' => e = .returned (.tuple #[vv0.agg,.bool false]) /\ Below w.heap.size w w':=by
 obtain ⟨W1,hW1⟩ : ∃ W1,(w.alloc (.cells y.cells 34)).alloc (.cells vv0.cells 28) = W1:=⟨_,rfl⟩
 have b1 : Below w.heap.size w W1:=by rw [<- hW1]; exact ((Below.refl _ _).alloc (Nat.le_refl _) _).alloc (by simp) _
 have q1 : Blk W1 w.heap.size y.cells 34:=by rw [<- hW1]; exact (Blk.new w _ _).alloc _
 have q2 : Blk W1 (w.heap.size + 1) vv0.cells 28:=by
  rw [<- hW1]
  have := Blk.new (w.alloc (.cells y.cells 34)) vv0.cells 28
  rwa [World.size_alloc] at this
 have s1 : W1.heap.size = w.heap.size + 2:=by rw [<- hW1]; simp
 obtain ⟨B,hB⟩ : ∃ B,w.heap.size = B:=⟨_,rfl⟩
 have HB:=Lib.hid hB
 have HW:=Lib.hid hW1
 rw [hB] at hK b1 q1 q2 s1 ⊢
 dsimp only [Vv.cells,vv0] at HW
 have hv:=gvalid_any B s y W1 (hs.below b1 hK hK) (by omega) hgo hbig
 have hpo : ∀ W,Below W1.heap.size W1 W -> s.okB = true -> Calls Tryz.prog 23 #[.pointer (some ⟨B,0,none⟩),.int .i64 c] W fun e w' => e = .returned (.bool (s.poss c)) /\ Below W.heap.size W w':=fun W hb hok => by
  have h3:=hb.size
  have h2:=(q1.below hb q1.lt)
  exact gposs_any B B 0 y.c.val s c W ((hs.cuts.below b1 hK hK).below hb (by omega) (Nat.le_refl _)) (by omega) (by omega) (by rw [Nat.zero_add,<- hs.kd]; exact h2.at rfl) (by rw [Nat.zero_add]; exact h2.at rfl) hbig (okB_cuts hok)
 have HPO:=Lib.hid hpo
 have hcx:=hs.cuts.below b1 hK hK
 have hkd:=hs.kd
 obtain ⟨⟨yop,ynm,yk,yb3,⟨y4,y4n,y4m⟩,yb5,⟨y6,y6n,y6m⟩,yi7,⟨y8,y8n,y8m⟩⟩,sk,⟨ca,cn,cm⟩⟩:=y
 dsimp only at hkd
 have HQ1:=Lib.hid q1
 have HQ2:=Lib.hid q2
 obtain ⟨d0,d1,d2,d3,d4,d5,d6,d7,d8,d9,d10⟩:=HQ1.out.eleven
 subst hkd
 obtain ⟨ob,hob⟩ : ∃ b,s.okB = b:=⟨_,rfl⟩
 rw [hob] at hv hno
 have H1C : Hid (∀ u ∈ vv0.cells,u.oneCell' = true):=Lib.hid (by simp [Value.oneCell'])
 cases ob with
 | false =>
  clear hB hW1 hs hgo hno hpo hcx q1 q2 HPO hob
  go_enter Tryz.func9,Tryz.ntmps9
  go_upto_region 1 with fail
  simp only [HB.out]
  rw [HW.out]
  go_wp2_with fail
  refine hv.mono ?_
  rintro e w2 ⟨rfl,hb2⟩
  clear hv d0 d1 d2 d3 d4 d5 d6 d7 d8 d9 d10
  have HQ4:=Lib.hid (HQ2.out.below hb2 (by omega))
  have b3 : Below B w w2:=b1.trans (hb2.mono (by omega))
  go_wp2_with (refine wpList_store_blk rfl 28 28 (.tmp 4) (.tmp 15) rfl vv0.cells _ (B + 1) HQ4.out infoValN rfl H1C.out rfl rfl ?_; intro W2 t1 t2 t3 t4)
  refine bodyPost_ret (v:=.tuple #[vv0.agg,.bool false]) ?_ rfl ?_
  ·obtain ⟨e0,e1,e2,e3,e4,e5⟩:=t1.six
   simp [results,Tryz.results9,go_sem,e0,e1,e2,e3,e4,e5]
  exact ⟨rfl,b3.trans (t2 B (by omega))⟩
 | true =>
  have hpf : s.poss c = false:=by rcases hno with h | h; cases h; exact h
  have hpo1:=fun W hb => HPO.out W hb hob
  rw [hpf] at hpo1
  have HPO1:=Lib.hid hpo1
  clear hB hW1 hs hgo hno hpo hcx q1 q2 HPO hob hpf hpo1
  go_enter Tryz.func9,Tryz.ntmps9
  go_upto_region 1 with fail
  simp only [HB.out]
  rw [HW.out]
  go_wp2_with fail
  refine hv.mono ?_
  rintro e w2 ⟨rfl,hb2⟩
  clear hv d0 d1 d2 d3 d4 d5 d6 d7 d8 d9 d10
  go_wp2_with fail
  refine (HPO1.out w2 hb2).mono ?_
  rintro e w3 ⟨rfl,hb3⟩
  have b3' : Below W1.heap.size W1 w3:=hb2.trans (hb3.mono hb2.size)
  have b3 : Below B w w3:=b1.trans (b3'.mono (by omega))
  have hs3:=b3'.size
  clear hb2 hb3
  have HQ4:=Lib.hid (HQ2.out.below b3' (by omega))
  go_wp2_with (refine wpList_store_blk rfl 28 28 (.tmp 4) (.tmp 15) rfl vv0.cells _ (B + 1) HQ4.out infoValN rfl H1C.out rfl rfl ?_; intro W2 t1 t2 t3 t4)
  refine bodyPost_ret (v:=.tuple #[vv0.agg,.bool false]) ?_ rfl ?_
  ·obtain ⟨e0,e1,e2,e3,e4,e5⟩:=t1.six
   simp [results,Tryz.results9,go_sem,e0,e1,e2,e3,e4,e5]
  exact ⟨rfl,b3.trans (t2 B (by omega))⟩
theorem besW {v : Vq} {k : Int} (hk : isDay v.kd = true) (ho : v.ok = true) (hkk : -2 <= k /\ k <= 2) : BesC v k (wholeV v.kd (v.i + k)):=by
 intro x W h
 obtain ⟨a1,c1,e1,_⟩:=h.n.form
 obtain ⟨a2,c2,e2,_⟩:=h.d.form
 have hb:=day_bound ho hk
 have h1:=h.kd
 have h2:=h.i
 obtain ⟨kd,f1,s1,f2,s2,i⟩:=x
 dsimp only at e1 e2 h1 h2
 subst e1 e2 h2
 rw [<- h1] at hk ⊢
 refine (gbesideW_any kd v.i k f1 f2 a1 a2 _ c1 _ c2 W hk hb hkk).mono ?_
 rintro e w' ⟨rfl,hb⟩
 exact ⟨_,rfl,fun W K _ _ => wholeX_is _ _ _ _,hb⟩
theorem midW {a b : Vq} (hk : isDay a.kd = true) (hk' : b.kd = a.kd) (ho : a.ok = true) (ho' : b.ok = true) : MidC a b (wholeV a.kd ((a.i + b.i) / 2)):=by
 intro x y W h h'
 obtain ⟨a1,c1,e1,_⟩:=h.n.form
 obtain ⟨a2,c2,e2,_⟩:=h.d.form
 obtain ⟨a3,c3,e3,_⟩:=h'.n.form
 obtain ⟨a4,c4,e4,_⟩:=h'.d.form
 have hb:=day_bound ho hk
 have hb':=day_bound ho' (by rw [hk']; exact hk)
 have h1:=h.kd
 have h2:=h.i
 have h2':=h'.i
 obtain ⟨kd,f1,s1,f2,s2,i⟩:=x
 obtain ⟨kd',f1',s1',f2',s2',i'⟩:=y
 dsimp only at e1 e2 e3 e4 h1 h2 h2'
 subst e1 e2 e3 e4 h2 h2'
 rw [<- h1] at hk ⊢
 refine (gmiddleW_any kd a.i b.i f1 f2 f1' f2' a1 a2 a3 a4 _ c1 _ c2 _ c3 _ c4 W hk hb hb' kd').mono ?_
 rintro e w' ⟨rfl,hb⟩
 exact ⟨_,rfl,fun W K _ _ => wholeX_is _ _ _ _,hb⟩
theorem gsampleX_any (K : Nat) (s : Sc) (y : Sv) (c : Nat) (w : World) (hs : ScX K w s y) (hK : K <= w.heap.size) (m : Nat) (hc : CutsFine s m) (hm : m <= 40) (hp : s.poss c = true) :
  Calls Tryz.prog 9 #[y.agg,.int .i64 c] w fun e w' => ∃ z : Vv,e = .returned (.tuple #[z.agg,.bool true]) /\ Zed (Btw w.heap.size w'.heap.size) w' (fun K W => VlX K W (smpV s c) z) /\ Below w.heap.size w w':=by
 have hn32:=okB_len hc.ok
 by_cases h0 : s.kd = 0
 ·have hv : smpV s c = wholeV 1 c:=by unfold smpV; rw [if_pos h0]
  rw [hv]
  exact gsample0_any K s y c w hs hK hc.good (by omega) hc.ok h0 hp
 ·have e0 : (s.kd == 0) = false:=by simpa using h0
  by_cases hodd : c % 2 = 1
  ·have hv : smpV s c = s.cuts[c / 2]?.getD v0:=by
    unfold smpV smpW
    rw [if_neg h0,if_pos hodd]
    split <;> rfl
   rw [hv]
   exact gsampleO_any K s y c w hs hK hc.good hc.ok e0 hp hodd
  ·have ho:=okB_cutsOk hc.ok hc.good
   have hn1:=okB_one hc.ok e0
   by_cases hd : isDay s.kd = true
   ·have hv : smpV s c = wholeV s.kd (smpI s c):=by unfold smpV smpW; rw [if_neg h0,if_pos hd,if_neg hodd]
    rw [hv]
    refine gsampleE_any K s y c _ w hs hK hc.good hc.ok e0 hp (by omega) (fun e => ?_) (fun e1 e2 => ?_) (fun e1 e2 => ?_)
    ·obtain ⟨_,k2,k3⟩:=ho.at (show 0 < s.cuts.length by omega)
     have := besW (k:=-1) (by rw [k3]; exact hd) k2 (by omega)
     rw [k3] at this
     have hI : smpI s c = (s.cuts[0]?.getD v0).i + (-1):=by unfold smpI; rw [if_pos e]
     rw [hI]; exact this
    ·obtain ⟨_,k2,k3⟩:=ho.at (show c / 2 - 1 < s.cuts.length by omega)
     have := besW (k:=1) (by rw [k3]; exact hd) k2 (by omega)
     rw [k3] at this
     have hI : smpI s c = (s.cuts[c / 2 - 1]?.getD v0).i + 1:=by unfold smpI; rw [if_neg (by omega),if_pos e2,e2]
     rw [hI]; exact this
    ·obtain ⟨_,k2,k3⟩:=ho.at (show c / 2 - 1 < s.cuts.length by omega)
     obtain ⟨_,j2,j3⟩:=ho.at (show c / 2 < s.cuts.length by omega)
     have := midW (by rw [k3]; exact hd) (by rw [j3,k3]) k2 j2
     rw [k3] at this
     have hI : smpI s c = ((s.cuts[c / 2 - 1]?.getD v0).i + (s.cuts[c / 2]?.getD v0).i) / 2:=by unfold smpI; rw [if_neg (by omega),if_neg (by omega)]
     rw [hI]; exact this
   ·have hkd : s.kd = 2 \/ s.kd = 3:=by
     have h1:=hc.ok
     unfold Sc.okB at h1
     rw [if_neg h0] at h1
     simp only [Bool.and_eq_true,decide_eq_true_eq] at h1
     have h2 : ¬ (s.kd = 4 \/ s.kd = 5 \/ s.kd = 6):=fun e => hd (by unfold isDay; simpa [or_assoc] using e)
     omega
    have hlim : ∀ j,j < s.cuts.length -> (s.cuts[j]?.getD v0).lim 40:=fun j hj => by
     have := hc.lim (s.cuts[j]?.getD v0) (by rw [List.getElem?_eq_getElem hj]; exact List.getElem_mem hj)
     exact ⟨by have := this.1; omega,by have := this.2; omega⟩
    refine gsampleE_any K s y c _ w hs hK hc.good hc.ok e0 hp (by omega) (fun e => ?_) (fun e1 e2 => ?_) (fun e1 e2 => ?_)
    ·obtain ⟨k1,k2,k3⟩:=ho.at (show 0 < s.cuts.length by omega)
     have hv : smpV s c = besV (s.cuts[0]?.getD v0) (-1):=by unfold smpV; rw [if_neg h0,if_neg hd,if_neg hodd,if_pos e]
     rw [hv]; exact gbesM_any _ (by rw [k3]; exact hkd) k2 k1
    ·obtain ⟨k1,k2,k3⟩:=ho.at (show c / 2 - 1 < s.cuts.length by omega)
     have hv : smpV s c = besV (s.cuts[c / 2 - 1]?.getD v0) 1:=by unfold smpV; rw [if_neg h0,if_neg hd,if_neg hodd,if_neg (by omega),if_pos e2,e2]
     rw [hv]; exact gbesP_any _ (by rw [k3]; exact hkd) k2 k1
    ·obtain ⟨k1,k2,k3⟩:=ho.at (show c / 2 - 1 < s.cuts.length by omega)
     obtain ⟨j1,j2,j3⟩:=ho.at (show c / 2 < s.cuts.length by omega)
     have hv : smpV s c = midV (s.cuts[c / 2 - 1]?.getD v0) (s.cuts[c / 2]?.getD v0):=by unfold smpV; rw [if_neg h0,if_neg hd,if_neg hodd,if_neg (by omega),if_neg (by omega)]
     rw [hv]; exact gmidF_any _ _ (by rw [k3]; exact hkd) k2 k1 (by rw [j3]; exact hkd) j2 j1 (hlim _ (by omega)) (hlim _ (by omega))
def numV (m n : List Nat) : Vq:=⟨2,false,m,false,n,0⟩
def ageG : Gx:=.mk 5 [97,103,101] v0 [.mk 2 [] v0 []]
def conG (n : Nat) : Gx:=.mk 1 [] (numV [n] [1]) []
def youngG : Gx:=.mk 13 [] v0 [ageG,conG 60]
def notG : Gx:=.mk 17 [] v0 [youngG]
def sameG65 : Gx:=.mk 14 [] v0 [ageG,conG 65]
def oldG : Gx:=.mk 16 [] v0 [notG,sameG65]
def scA : Sc:=⟨ageG,2,[numV [60] [1],numV [65] [1]]⟩
def noG : Gx:=.mk 0 [] v0 []
def scD : Sc:=⟨noG,4,[wholeV 4 100,wholeV 4 101]⟩
def scN : Sc:=⟨noG,2,[numV [] [1],numV [1] [1]]⟩
theorem aw_scales : scalesS [youngG,oldG] = ([scA],0):=by kernel_rfl
theorem aw_good : youngG.good = true /\ oldG.good = true:=⟨by kernel_rfl,by kernel_rfl⟩
theorem aw_cellsA : cellsS scA = [0,1,2,3,4]:=by kernel_rfl
theorem aw_hold0 : holdsS oldG [scA] [((0 : Nat) : Int)] = (decide (1 <= 0),0):=by kernel_rfl
theorem aw_hold1 : holdsS oldG [scA] [((1 : Nat) : Int)] = (decide (1 <= 1),0):=by kernel_rfl
theorem aw_hold2 : holdsS oldG [scA] [((2 : Nat) : Int)] = (decide (1 <= 2),0):=by kernel_rfl
theorem aw_hold3 : holdsS oldG [scA] [((3 : Nat) : Int)] = (decide (1 <= 3),0):=by kernel_rfl
theorem aw_hold4 : holdsS oldG [scA] [((4 : Nat) : Int)] = (decide (1 <= 4),0):=by kernel_rfl
theorem aw_holds : ∀ c : Nat,c < 5 -> holdsS oldG [scA] [(c : Int)] = (decide (1 <= c),0):=fun c hc => by
 rcases c with _ | _ | _ | _ | _ | c
 ·exact aw_hold0
 ·exact aw_hold1
 ·exact aw_hold2
 ·exact aw_hold3
 ·exact aw_hold4
 ·omega
theorem aw_okD : scD.okB = true:=by kernel_rfl
theorem aw_goodD : ∀ v ∈ scD.cuts,v.good = true:=by intro v hv; simp only [scD,List.mem_cons,List.not_mem_nil,or_false] at hv; rcases hv with rfl | rfl <;> kernel_rfl
theorem aw_goodA : ∀ v ∈ scA.cuts,v.good = true:=by intro v hv; simp only [scA,List.mem_cons,List.not_mem_nil,or_false] at hv; rcases hv with rfl | rfl <;> kernel_rfl
theorem aw_goodN : ∀ v ∈ scN.cuts,v.good = true:=by intro v hv; simp only [scN,List.mem_cons,List.not_mem_nil,or_false] at hv; rcases hv with rfl | rfl <;> kernel_rfl
theorem aw_possD : scD.poss (0 : Nat) = true /\ scD.poss (1 : Nat) = true /\ scD.poss (3 : Nat) = true /\ scD.poss (4 : Nat) = true:=⟨by kernel_rfl,by kernel_rfl,by kernel_rfl,by kernel_rfl⟩
theorem aw_smpD : smpW scD 0 = wholeV 4 99 /\ smpW scD 1 = wholeV 4 100 /\ smpW scD 3 = wholeV 4 101 /\ smpW scD 4 = wholeV 4 102:=⟨by kernel_rfl,by kernel_rfl,by kernel_rfl,by kernel_rfl⟩
theorem aw_cellsD : cellsS scD = [0,1,3,4]:=by kernel_rfl
theorem aw_cellN : cellS scN (numV [1] [2]) = (2,true):=by kernel_rfl
theorem aw_goodH : (numV [1] [2]).good = true:=by kernel_rfl
theorem Lm.one {K n : Nat} {w : World} {v : Value} (h : Lm K w v [n]) : ∃ a c,v = .slice a 1 c:=by obtain ⟨a,c,e,_⟩:=h.form; exact ⟨a,c,e⟩
theorem ksamelimbs_any (K n : Nat) (u v : Value) (w : World) (hu : Lm K w u [n]) (hv : Lm K w v [n]) : Calls Tryz.prog 60 #[u,v] w fun e w' => e = .returned (.bool true) /\ Below w.heap.size w w':=by
 obtain ⟨b,o,c,rfl,h1,h2,h3,h4⟩:=hu.pos (by simp)
 obtain ⟨b',o',c',rfl,h1',h2',h3',h4'⟩:=hv.pos (by simp)
 have c1 : w.cell? ⟨b,o,none⟩ = some (.int .u16 n):=by have := h4 0 (by simp); simpa using this
 have c2 : w.cell? ⟨b',o',none⟩ = some (.int .u16 n):=by have := h4' 0 (by simp); simpa using this
 have he : ((n : Int) != (n : Int)) = false:=by simp
 clear hu hv h4 h4'
 simp only [List.length_cons,List.length_nil,Nat.zero_add] at *
 go_enter Tryz.func60,Tryz.ntmps60
 go_wp2_with fail
 refine wp_loop_rounds 2 ?_
 rw [rounds_succ]
 go_upto_region 6 with fail
 go_quiet (fail)
 go_wp2_with fail
 rw [rounds_succ]
 go_wp2_with fail
 go_ret
 exact ⟨rfl,below_drewN2 (Below.refl _ _) _⟩
theorem ksamewhole_any (K n : Nat) (u v : Value) (w : World) (hu : Lm K w u [n]) (hv : Lm K w v [n]) (hK : K <= w.heap.size) : Calls Tryz.prog 44 #[Wv u,Wv v] w fun e w' => e = .returned (.bool true) /\ Below w.heap.size w w':=by
 obtain ⟨W1,hW1⟩ : ∃ W1,(w.alloc (.cells #[.bool false,u] 24)).alloc (.cells #[.bool false,v] 24) = W1:=⟨_,rfl⟩
 have b1 : Below w.heap.size w W1:=by rw [<- hW1]; exact ((Below.refl _ _).alloc (Nat.le_refl _) _).alloc (by simp) _
 have q0 : Blk W1 w.heap.size #[.bool false,u] 24:=by rw [<- hW1]; exact (Blk.new w _ _).alloc _
 have q1 : Blk W1 (w.heap.size + 1) #[.bool false,v] 24:=by
  rw [<- hW1]
  have := Blk.new (w.alloc (.cells #[.bool false,u] 24)) #[.bool false,v] 24
  rwa [World.size_alloc] at this
 have hc:=ksamelimbs_any w.heap.size n u v W1 (hu.below b1 hK hK) (hv.below b1 hK hK)
 have hs:=b1.size
 obtain ⟨B,hB⟩ : ∃ B,w.heap.size = B:=⟨_,rfl⟩
 have HB:=Lib.hid hB
 have HW:=Lib.hid hW1
 rw [hB] at b1 q0 q1 hs ⊢
 obtain ⟨ua,uc,rfl⟩:=hu.one
 obtain ⟨va,vc,rfl⟩:=hv.one
 obtain ⟨d0,d1⟩:=q0.two
 obtain ⟨d2,d3⟩:=q1.two
 clear hB hW1
 go_enter Tryz.func44,Tryz.ntmps44
 go_upto_region 1 with fail
 simp only [HB.out]
 rw [HW.out]
 go_wp2_with fail
 refine hc.mono ?_
 rintro e w2 ⟨rfl,hb2⟩
 go_wp2_with fail
 go_ret
 exact ⟨rfl,b1.trans (hb2.mono hs)⟩
theorem ksamefrac_any (K m n : Nat) (u v x y : Value) (w : World) (hu : Lm K w u [m]) (hv : Lm K w v [n]) (hx : Lm K w x [m]) (hy : Lm K w y [n]) (hK : K <= w.heap.size) : Calls Tryz.prog 21 #[Fv u v,Fv x y] w fun e w' => e = .returned (.bool true) /\ Below w.heap.size w w':=by
 obtain ⟨W1,hW1⟩ : ∃ W1,(w.alloc (.cells #[.bool false,u,.bool false,v] 26)).alloc (.cells #[.bool false,x,.bool false,y] 26) = W1:=⟨_,rfl⟩
 have b1 : Below w.heap.size w W1:=by rw [<- hW1]; exact ((Below.refl _ _).alloc (Nat.le_refl _) _).alloc (by simp) _
 have q0 : Blk W1 w.heap.size #[.bool false,u,.bool false,v] 26:=by rw [<- hW1]; exact (Blk.new w _ _).alloc _
 have q1 : Blk W1 (w.heap.size + 1) #[.bool false,x,.bool false,y] 26:=by
  rw [<- hW1]
  have := Blk.new (w.alloc (.cells #[.bool false,u,.bool false,v] 26)) #[.bool false,x,.bool false,y] 26
  rwa [World.size_alloc] at this
 have hs:=b1.size
 have hc:=ksamewhole_any w.heap.size m u x W1 (hu.below b1 hK hK) (hx.below b1 hK hK) hs
 have hc2 : ∀ W,Below W1.heap.size W1 W -> Calls Tryz.prog 44 #[Wv v,Wv y] W fun e w' => e = .returned (.bool true) /\ Below W.heap.size W w':=fun W hb => ksamewhole_any w.heap.size n v y W ((hv.below b1 hK hK).below hb hs (Nat.le_refl _)) ((hy.below b1 hK hK).below hb hs (Nat.le_refl _)) (Nat.le_trans hs hb.size)
 have HC2:=Lib.hid hc2
 have s1 : W1.heap.size = w.heap.size + 2:=by rw [<- hW1]; simp
 obtain ⟨B,hB⟩ : ∃ B,w.heap.size = B:=⟨_,rfl⟩
 have HB:=Lib.hid hB
 have HW:=Lib.hid hW1
 rw [hB] at b1 q0 q1 hs s1 ⊢
 obtain ⟨ua,uc,rfl⟩:=hu.one
 obtain ⟨va,vc,rfl⟩:=hv.one
 obtain ⟨xa,xc,rfl⟩:=hx.one
 obtain ⟨ya,yc,rfl⟩:=hy.one
 obtain ⟨d0,d1,d2,d3⟩:=q0.four
 obtain ⟨d4,d5,d6,d7⟩:=q1.four
 clear hB hW1 hc2
 go_enter Tryz.func21,Tryz.ntmps21
 go_upto_region 1 with fail
 simp only [HB.out]
 rw [HW.out]
 go_wp2_with fail
 refine hc.mono ?_
 rintro e w2 ⟨rfl,hb2⟩
 clear hc d0 d1 d2 d3 d4 d5 d6 d7
 obtain ⟨d0,d1,d2,d3⟩:=(q0.below hb2 (by omega)).four
 obtain ⟨d4,d5,d6,d7⟩:=(q1.below hb2 (by omega)).four
 go_wp2_with fail
 refine (HC2.out w2 hb2).mono ?_
 rintro e w3 ⟨rfl,hb3⟩
 go_wp2_with fail
 go_ret
 exact ⟨rfl,b1.trans ((hb2.trans (hb3.mono hb2.size)).mono hs)⟩
end Go.Proofs.YtlldjmagbjjeoaaGreat
