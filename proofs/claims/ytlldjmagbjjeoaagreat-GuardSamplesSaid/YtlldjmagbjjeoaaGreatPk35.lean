/- Contracts and plain laws, several texts in one (GSmpE, DChain, DTakeP). No conditions beyond those stated. -/
import Derived.Test.YtlldjmagbjjeoaaGreatPk34
set_option maxRecDepth 100000
set_option maxHeartbeats 40000000
namespace Go.Proofs.YtlldjmagbjjeoaaGreat
open Go.RowKit
set_option linter.unusedVariables false
def BesC (v : Vq) (k : Int) (r : Vq) : Prop:=∀ (x : Vv) (W : World),VlX W.heap.size W v x -> Calls Tryz.prog 25 #[x.agg,.int .i64 k] W fun e w' => ∃ z : Vv,e = .returned (.tuple #[z.agg,.bool true]) /\ Zed (Btw W.heap.size w'.heap.size) w' (fun K W => VlX K W r z) /\ Below W.heap.size W w'
def MidC (a b r : Vq) : Prop:=∀ (x y : Vv) (W : World),VlX W.heap.size W a x -> VlX W.heap.size W b y -> Calls Tryz.prog 26 #[x.agg,y.agg] W fun e w' => ∃ z : Vv,e = .returned (.tuple #[z.agg,.bool true]) /\ Zed (Btw W.heap.size w'.heap.size) w' (fun K W => VlX K W r z) /\ Below W.heap.size W w'
theorem okB_one {s : Sc} (h : s.okB = true) (h0 : (s.kd == 0) = false) : 1 <= s.cuts.length:=by
 unfold Sc.okB at h
 rw [if_neg (by simpa using h0)] at h
 simp only [Bool.and_eq_true,decide_eq_true_eq] at h
 omega
theorem gsampleE_any (K : Nat) (s : Sc) (y : Sv) (c : Nat) (r : Vq) (w : World) (hs : ScX K w s y) (hK : K <= w.heap.size) (hgo : ∀ v ∈ s.cuts,v.good = true) (hok : s.okB = true) (e0 : (s.kd == 0) = false) (hp : s.poss c = true) (hev : c % 2 = 0)
  (h0 : c / 2 = 0 -> BesC (s.cuts[0]?.getD v0) (-1) r) (h1 : 0 < c / 2 -> c / 2 = s.cuts.length -> BesC (s.cuts[c / 2 - 1]?.getD v0) 1 r) (h2 : 0 < c / 2 -> c / 2 < s.cuts.length -> MidC (s.cuts[c / 2 - 1]?.getD v0) (s.cuts[c / 2]?.getD v0) r) :
  Calls Tryz.prog 9 #[y.agg,.int .i64 c] w fun e w' => ∃ z : Vv,e = .returned (.tuple #[z.agg,.bool true]) /\ Zed (Btw w.heap.size w'.heap.size) w' (fun K W => VlX K W r z) /\ Below w.heap.size w w':=by
 have hn32:=okB_len hok
 have hcn : c < 2 * s.cuts.length + 1:=by
  unfold Sc.poss cntN at hp
  rw [if_neg (by simpa using e0)] at hp
  simp only [Bool.and_eq_true,decide_eq_true_eq] at hp
  omega
 have hn1 : 1 <= s.cuts.length:=okB_one hok e0
 obtain ⟨W1,hW1⟩ : ∃ W1,(w.alloc (.cells y.cells 34)).alloc (.cells vv0.cells 28) = W1:=⟨_,rfl⟩
 have b1 : Below w.heap.size w W1:=by rw [<- hW1]; exact ((Below.refl _ _).alloc (Nat.le_refl _) _).alloc (by simp) _
 have q1 : Blk W1 w.heap.size y.cells 34:=by rw [<- hW1]; exact (Blk.new w _ _).alloc _
 have q2 : Blk W1 (w.heap.size + 1) vv0.cells 28:=by
  rw [<- hW1]
  have := Blk.new (w.alloc (.cells y.cells 34)) vv0.cells 28
  rwa [World.size_alloc] at this
 have s1 : W1.heap.size = w.heap.size + 2:=by rw [<- hW1]; simp
 obtain ⟨B,hB⟩ : ∃ B,w.heap.size = B:=⟨_,rfl⟩
 have HB:=Lib.hid hB
 have HW:=Lib.hid hW1
 rw [hB] at hK b1 q1 q2 s1 ⊢
 dsimp only [Vv.cells,vv0] at HW
 have hv:=gvalid_any B s y W1 (hs.below b1 hK hK) (by omega) hgo (by omega)
 rw [hok] at hv
 have hpo : ∀ W,Below W1.heap.size W1 W -> Calls Tryz.prog 23 #[.pointer (some ⟨B,0,none⟩),.int .i64 (c : Int)] W fun e w' => e = .returned (.bool true) /\ Below W.heap.size W w':=fun W hb => by
  have h3:=hb.size
  have h2:=(q1.below hb q1.lt)
  have := gposs_any B B 0 y.c.val s c W ((hs.cuts.below b1 hK hK).below hb (by omega) (Nat.le_refl _)) (by omega) (by omega) (by rw [Nat.zero_add,<- hs.kd]; exact h2.at rfl) (by rw [Nat.zero_add]; exact h2.at rfl) (by omega) (okB_cuts hok)
  rw [hp] at this
  exact this.mono (by rintro e w' ⟨rfl,h⟩; exact ⟨rfl,h⟩)
 have HPO:=Lib.hid hpo
 have hcx:=hs.cuts.below b1 hK hK
 have hkd:=hs.kd
 obtain ⟨g,hrow,hgs⟩:=hcx
 obtain ⟨cb,co,ccap,hse,_,hcm,hcb,hccl⟩:=hrow.pos (by omega)
 obtain ⟨⟨yop,ynm,yk,yb3,⟨y4,y4n,y4m⟩,yb5,⟨y6,y6n,y6m⟩,yi7,⟨y8,y8n,y8m⟩⟩,sk,⟨ca,cn,cm⟩⟩:=y
 simp only [Sl.val,Value.slice.injEq] at hse
 obtain ⟨rfl,rfl,rfl⟩:=hse
 dsimp only at hkd
 subst hkd
 obtain ⟨m,hm⟩ : ∃ m,c / 2 = m:=⟨_,rfl⟩
 rw [hm] at h0 h1 h2
 have hq2 : Int.tdiv (c : Int) 2 = (m : Int):=by rw [Int.tdiv_eq_ediv_of_nonneg (by omega)]; omega
 have hform : ∀ j,j < s.cuts.length -> ∃ a1 n1 m1 a2 n2 m2,g j = ⟨(g j).kd,(g j).b1,.slice a1 n1 m1,(g j).b2,.slice a2 n2 m2,(g j).i⟩:=fun j hj => by
  have h6:=hgs j hj
  obtain ⟨a1,m1,h7,_⟩:=h6.n.form
  obtain ⟨a2,m2,h8,_⟩:=h6.d.form
  exact ⟨a1,_,m1,a2,_,m2,by rw [<- h7,<- h8]⟩
 have HFO:=Lib.hid hform
 have HGS:=Lib.hid hgs
 have HCC:=Lib.hid hccl
 have HQ1:=Lib.hid q1
 have HQ2:=Lib.hid q2
 obtain ⟨n,hn⟩ : ∃ n,s.cuts.length = n:=⟨_,rfl⟩
 have HN:=Lib.hid hn
 obtain ⟨kd,hkd⟩ : ∃ kd,s.kd = kd:=⟨_,rfl⟩
 have HKD:=Lib.hid hkd
 rw [hn] at hv hn32 hn1 hcn HW HCC HFO HGS HQ1 h1 h2 ⊢
 rw [hkd] at hv e0 HW HQ1 ⊢
 have H0:=Lib.hid h0
 have H1:=Lib.hid h1
 have H2:=Lib.hid h2
 have HM:=Lib.hid hm
 obtain ⟨d0,d1,d2,d3,d4,d5,d6,d7,d8,d9,d10⟩:=HQ1.out.eleven
 clear hB hW1 hs hgo hok hp hpo hrow hgs hccl q1 q2 hform hn hkd h0 h1 h2
 go_enter Tryz.func9,Tryz.ntmps9
 go_upto_region 1 with fail
 simp only [HB.out]
 rw [HW.out]
 go_wp2_with fail
 refine hv.mono ?_
 rintro e w2 ⟨rfl,hb2⟩
 clear hv d0 d1 d2 d3 d4 d5 d6 d7 d8 d9 d10
 go_wp2_with fail
 refine (HPO.out w2 hb2).mono ?_
 rintro e w3 ⟨rfl,hb3⟩
 have b3' : Below W1.heap.size W1 w3:=hb2.trans (hb3.mono hb2.size)
 have b3 : Below B w w3:=b1.trans (b3'.mono (by omega))
 have hs3:=b3'.size
 clear hb2 hb3
 have hq1:=HQ1.out.below b3' (by omega)
 have hq2':=HQ2.out.below b3' (by omega)
 have d9:=hq1.at (i:=9) (x:=.int .u8 kd) rfl
 have d10:=hq1.at (i:=10) (x:=.slice (some ⟨cb,co,none⟩) n cm) rfl
 have HCC3 : Hid (∀ j,j < n -> w3.rangeAt cb (co + j * 6) (g j).cells.toList):=Lib.hid fun j hj => vv_range (cells_below b3' (by omega) HCC.out) hj
 have cb3 : cb < w3.heap.size:=by omega
 have hr1 : Int.tmod (c : Int) 2 = 0:=by rw [Int.tmod_eq_emod_of_nonneg (by omega)]; omega
 have HG3 : Hid (∀ j,j < n -> VlX w3.heap.size w3 (s.cuts[j]?.getD v0) (g j)):=Lib.hid fun j hj => (HGS.out j hj).below b3' (by omega) (by omega)
 by_cases hm0 : m = 0
 ·subst hm0
  obtain ⟨a1,n1,m1,a2,n2,m2,hgf⟩:=HFO.out 0 (by omega)
  have hrg:=HCC3.out 0 (by omega)
  rw [Nat.zero_mul,Nat.add_zero] at hrg
  have hbe:=H0.out rfl (g 0) w3 (HG3.out 0 (by omega))
  rw [hgf] at hrg hbe
  have HRG:=Lib.hid hrg
  have HBE:=Lib.hid hbe
  have HQ4:=Lib.hid hq2'
  have h0n : 0 < n:=by omega
  clear hgf hrg hbe hm
  go_wp2_with (refine wpList_load_mid rfl 28 (.tmp 38) rfl cb co rfl (⟨(g 0).kd,(g 0).b1,.slice a1 n1 m1,(g 0).b2,.slice a2 n2 m2,(g 0).i⟩ : Vv).cells.toList _ HRG.out Tryz.underlying28 rfl infoValN ?_)
  refine HBE.out.mono ?_
  rintro e w4 ⟨z,rfl,hz,hb4⟩
  have hz0:=hz.get fun b hb => hb.2
  obtain ⟨b1a,b1m,hf1,_⟩:=hz0.n.form
  obtain ⟨b2a,b2m,hf2,_⟩:=hz0.d.form
  obtain ⟨x1,hx1⟩ : ∃ x,r.l1.length = x:=⟨_,rfl⟩
  obtain ⟨x2,hx2⟩ : ∃ x,r.l2.length = x:=⟨_,rfl⟩
  rw [hx1] at hf1
  rw [hx2] at hf2
  obtain ⟨zk,zb1,zs1,zb2,zs2,zi⟩:=z
  dsimp only at hf1 hf2
  subst hf1 hf2
  have hs4:=hb4.size
  have h1c : ∀ u ∈ (⟨zk,zb1,.slice b1a x1 b1m,zb2,.slice b2a x2 b2m,zi⟩ : Vv).cells,u.oneCell' = true:=by simp [Value.oneCell']
  have H1C:=Lib.hid h1c
  have HZ:=Lib.hid hz
  clear hz hz0 hx1 hx2 h1c
  have q4:=HQ4.out.below hb4 (by omega)
  have HQ5:=Lib.hid q4
  clear q4
  go_wp2_with (refine wpList_store_blk rfl 28 28 (.tmp 4) (.tmp 41) rfl (⟨zk,zb1,.slice b1a x1 b1m,zb2,.slice b2a x2 b2m,zi⟩ : Vv).cells _ (B + 1) HQ5.out infoValN rfl H1C.out rfl rfl ?_; intro W2 t1 t2 t3 t4)
  refine bodyPost_ret (v:=.tuple #[(⟨zk,zb1,.slice b1a x1 b1m,zb2,.slice b2a x2 b2m,zi⟩ : Vv).agg,.bool true]) ?_ rfl ?_
  ·obtain ⟨e0,e1,e2,e3,e4,e5⟩:=t1.six
   simp [results,Tryz.results9,go_sem,e0,e1,e2,e3,e4,e5]
  exact ⟨_,rfl,(HZ.out.move (agr_grown t3 (fun b hb => hb.2) fun b hb h => by cases hb; have := h.1; omega)).mono fun b hb => ⟨by have := hb.1; omega,Nat.lt_of_lt_of_le hb.2 t3.size⟩,b3.trans ((hb4.mono (by omega)).trans (t2 B (by omega)))⟩
 ·have em0 : ((m : Int) == 0) = false:=by simp; omega
  obtain ⟨p,hpm⟩ : ∃ p,p + 1 = m:=⟨m - 1,by omega⟩
  have hmp : m - 1 = p:=by omega
  have hsub : IntKind.i64.wrap ((m : Int) - 1) = (p : Int):=by rw [show (m : Int) - 1 = p by omega]; exact IntWalk.i64_in _ (by omega)
  obtain ⟨a1,n1,m1,a2,n2,m2,hgf⟩:=HFO.out p (by omega)
  have hrg:=HCC3.out p (by omega)
  have HQ4:=Lib.hid hq2'
  have hpn : p < n:=by omega
  by_cases hmn : m = n
  ·subst hmn
   have hbe:=H1.out (by omega) rfl (g p) w3 (by have := HG3.out p (by omega); rw [hmp]; exact this)
   rw [hgf] at hrg hbe
   have HRG:=Lib.hid hrg
   have HBE:=Lib.hid hbe
   clear hgf hrg hbe hm hmp
   go_wp2_with (refine wpList_load_mid rfl 28 (.tmp 53) rfl cb (co + p * 6) rfl (⟨(g p).kd,(g p).b1,.slice a1 n1 m1,(g p).b2,.slice a2 n2 m2,(g p).i⟩ : Vv).cells.toList _ HRG.out Tryz.underlying28 rfl infoValN ?_)
   refine HBE.out.mono ?_
   rintro e w4 ⟨z,rfl,hz,hb4⟩
   have hz0:=hz.get fun b hb => hb.2
   obtain ⟨b1a,b1m,hf1,_⟩:=hz0.n.form
   obtain ⟨b2a,b2m,hf2,_⟩:=hz0.d.form
   obtain ⟨x1,hx1⟩ : ∃ x,r.l1.length = x:=⟨_,rfl⟩
   obtain ⟨x2,hx2⟩ : ∃ x,r.l2.length = x:=⟨_,rfl⟩
   rw [hx1] at hf1
   rw [hx2] at hf2
   obtain ⟨zk,zb1,zs1,zb2,zs2,zi⟩:=z
   dsimp only at hf1 hf2
   subst hf1 hf2
   have hs4:=hb4.size
   have h1c : ∀ u ∈ (⟨zk,zb1,.slice b1a x1 b1m,zb2,.slice b2a x2 b2m,zi⟩ : Vv).cells,u.oneCell' = true:=by simp [Value.oneCell']
   have H1C:=Lib.hid h1c
   have HZ:=Lib.hid hz
   clear hz hz0 hx1 hx2 h1c
   have q4:=HQ4.out.below hb4 (by omega)
   have HQ5:=Lib.hid q4
   clear q4
   go_wp2_with (refine wpList_store_blk rfl 28 28 (.tmp 4) (.tmp 56) rfl (⟨zk,zb1,.slice b1a x1 b1m,zb2,.slice b2a x2 b2m,zi⟩ : Vv).cells _ (B + 1) HQ5.out infoValN rfl H1C.out rfl rfl ?_; intro W2 t1 t2 t3 t4)
   refine bodyPost_ret (v:=.tuple #[(⟨zk,zb1,.slice b1a x1 b1m,zb2,.slice b2a x2 b2m,zi⟩ : Vv).agg,.bool true]) ?_ rfl ?_
   ·obtain ⟨e0,e1,e2,e3,e4,e5⟩:=t1.six
    simp [results,Tryz.results9,go_sem,e0,e1,e2,e3,e4,e5]
   exact ⟨_,rfl,(HZ.out.move (agr_grown t3 (fun b hb => hb.2) fun b hb h => by cases hb; have := h.1; omega)).mono fun b hb => ⟨by have := hb.1; omega,Nat.lt_of_lt_of_le hb.2 t3.size⟩,b3.trans ((hb4.mono (by omega)).trans (t2 B (by omega)))⟩
  ·have hmn2 : m < n:=by omega
   obtain ⟨a3,n3,m3,a4,n4,m4,hgf2⟩:=HFO.out m (by omega)
   have hrg2:=HCC3.out m (by omega)
   have HMI : Hid (∀ W,Below w3.heap.size w3 W -> Calls Tryz.prog 26 #[(g p).agg,(g m).agg] W fun e w' => ∃ z : Vv,e = .returned (.tuple #[z.agg,.bool true]) /\ Zed (Btw W.heap.size w'.heap.size) w' (fun K W => VlX K W r z) /\ Below W.heap.size W w'):=Lib.hid fun W hb => H2.out (by omega) hmn2 (g p) (g m) W (by rw [hmp]; exact (HG3.out p hpn).below hb (Nat.le_refl _) hb.size) ((HG3.out m hmn2).below hb (Nat.le_refl _) hb.size)
   rw [hgf,hgf2] at HMI
   have HGP:=Lib.hid hgf
   have HGM:=Lib.hid hgf2
   have emn : ((m : Int) == (n : Int)) = false:=by simp; omega
   have hcbK : cb < W1.heap.size:=by omega
   clear hgf hrg hm hgf2 hrg2 hmp
   go_upto_region 12 with fail
   have HQ1':=Lib.hid hq1
   clear d9 d10 hq1 hq2'
   have l3 : B + 1 < w3.heap.size:=by omega
   refine region_plain (fun W' => Below w3.heap.size w3 W') [14,15] (by kernel_rfl) ?_
   have qS : (fun W' => Below w3.heap.size w3 W') w3.drew:=below_quiet (Below.refl _ _)
   have hRS : ∀ W' j,Below w3.heap.size w3 W' -> j < n -> W'.rangeAt cb (co + j * 6) (g j).cells.toList:=fun W' j hb hj => vv_range (cells_below (b3'.trans (hb.mono hs3)) (by omega) HCC.out) hj
   refine wpAnyD_tp (i:=0) (v:=.pointer (some ⟨B,10,none⟩)) rfl qS ?_
   refine wpAnyD_tk (i:=1) (v:=.slice (some ⟨cb,co,none⟩) n cm) rfl (.inl ⟨by kernel_rfl,fun W' hS => by have d10:=(HQ1'.out.below hS (by omega)).at (i:=10) (x:=.slice (some ⟨cb,co,none⟩) n cm) rfl; go_simp⟩) qS ?_
   refine wpAnyD_tp (i:=2) (v:=.int .i64 (m : Int)) rfl qS ?_
   refine wpAnyD_tp (i:=3) (v:=.int .i64 (p : Int)) rfl qS ?_
   refine wpAnyD_tp (i:=4) (v:=.pointer (some ⟨cb,co + p * 6,none⟩)) rfl qS ?_
   refine wpAnyD_tk (i:=5) (v:=(⟨(g p).kd,(g p).b1,.slice a1 n1 m1,(g p).b2,.slice a2 n2 m2,(g p).i⟩ : Vv).agg) rfl (yieldsIf_load_mid (by kernel_rfl) 28 (.tmp 62) rfl cb (co + p * 6) rfl (⟨(g p).kd,(g p).b1,.slice a1 n1 m1,(g p).b2,.slice a2 n2 m2,(g p).i⟩ : Vv).cells.toList _ (fun W' hS => by have h:=hRS W' p hS hpn; rw [HGP.out] at h; exact h) Tryz.underlying28 rfl infoValN) qS ?_
   refine wpAnyD_tp (i:=6) (v:=.pointer (some ⟨B,10,none⟩)) rfl qS ?_
   refine wpAnyD_tk (i:=7) (v:=.slice (some ⟨cb,co,none⟩) n cm) rfl (.inl ⟨by kernel_rfl,fun W' hS => by have d10:=(HQ1'.out.below hS (by omega)).at (i:=10) (x:=.slice (some ⟨cb,co,none⟩) n cm) rfl; go_simp⟩) qS ?_
   refine wpAnyD_tp (i:=8) (v:=.int .i64 (m : Int)) rfl qS ?_
   refine wpAnyD_tp (i:=9) (v:=.pointer (some ⟨cb,co + m * 6,none⟩)) rfl qS ?_
   refine wpAnyD_tk (i:=10) (v:=(⟨(g m).kd,(g m).b1,.slice a3 n3 m3,(g m).b2,.slice a4 n4 m4,(g m).i⟩ : Vv).agg) rfl (yieldsIf_load_mid (by kernel_rfl) 28 (.tmp 67) rfl cb (co + m * 6) (by go_simp) (⟨(g m).kd,(g m).b1,.slice a3 n3 m3,(g m).b2,.slice a4 n4 m4,(g m).i⟩ : Vv).cells.toList _ (fun W' hS => by have h:=hRS W' m hS hmn2; rw [HGM.out] at h; exact h) Tryz.underlying28 rfl infoValN) qS ?_
   refine wpAnyD_on (i:=11) rfl ?_
   go_simp
   refine (HMI.out _ qS).mono ?_
   rintro e w4 ⟨z,rfl,hz,hb4⟩
   have hz0:=hz.get fun b hb => hb.2
   obtain ⟨b1a,b1m,hf1,_⟩:=hz0.n.form
   obtain ⟨b2a,b2m,hf2,_⟩:=hz0.d.form
   obtain ⟨x1,hx1⟩ : ∃ x,r.l1.length = x:=⟨_,rfl⟩
   obtain ⟨x2,hx2⟩ : ∃ x,r.l2.length = x:=⟨_,rfl⟩
   rw [hx1] at hf1
   rw [hx2] at hf2
   obtain ⟨zk,zb1,zs1,zb2,zs2,zi⟩:=z
   dsimp only at hf1 hf2
   subst hf1 hf2
   have hs4:=hb4.size
   have h1c : ∀ u ∈ (⟨zk,zb1,.slice b1a x1 b1m,zb2,.slice b2a x2 b2m,zi⟩ : Vv).cells,u.oneCell' = true:=by simp [Value.oneCell']
   have H1C:=Lib.hid h1c
   have HZ:=Lib.hid hz
   clear hz hz0 hx1 hx2 h1c
   have qS4 : Below w3.heap.size w3 w4:=qS.trans (hb4.mono qS.size)
   have hs34:=qS4.size
   have q4:=HQ4.out.below qS4 l3
   have HQ5:=Lib.hid q4
   clear q4
   go_simp
   refine wpAnyD_tp (i:=12) (v:=(⟨zk,zb1,.slice b1a x1 b1m,zb2,.slice b2a x2 b2m,zi⟩ : Vv).agg) rfl qS4 ?_
   refine wpAnyD_tp (i:=13) (v:=.bool true) rfl qS4 ?_
   refine wpAnyD_on (i:=14) rfl ?_
   refine wp_store_blkD 28 28 (.tmp 4) (.tmp 70) rfl (⟨zk,zb1,.slice b1a x1 b1m,zb2,.slice b2a x2 b2m,zi⟩ : Vv).cells _ (B + 1) HQ5.out infoValN rfl H1C.out rfl rfl ?_
   intro W2 t1 t2 t3 t4
   refine ⟨fun e => absurd e (by decide),?_⟩
   refine wpAnyD_on (i:=15) rfl ?_
   go_simp
   refine wpAnyD_done (by kernel_rfl) ?_ _
   go_wp2_with fail
   refine bodyPost_ret (v:=.tuple #[(⟨zk,zb1,.slice b1a x1 b1m,zb2,.slice b2a x2 b2m,zi⟩ : Vv).agg,.bool true]) ?_ rfl ?_
   ·obtain ⟨e0,e1,e2,e3,e4,e5⟩:=t1.six
    simp [results,Tryz.results9,go_sem,e0,e1,e2,e3,e4,e5]
   exact ⟨_,rfl,(HZ.out.move (agr_grown t3 (fun b hb => hb.2) fun b hb h => by cases hb; have := h.1; have := qS.size; omega)).mono fun b hb => ⟨by have := hb.1; have := qS.size; omega,Nat.lt_of_lt_of_le hb.2 t3.size⟩,b3.trans ((qS4.mono (by omega)).trans (t2 B (by omega)))⟩
theorem put_comm (a : Act) {d d' : Option Tmp} (hne : d ≠ d') (v v' : Value) : (a.put d v).put d' v' = (a.put d' v').put d v:=by
 cases d with
 | none => cases d' <;> rfl
 | some i => cases d' with
  | none => rfl
  | some j =>
   simp only [Act.put]
   congr 1
   exact Array.setIfInBounds_comm _ _ (fun e => hne (by rw [e]))
theorem put_same (a : Act) (d : Option Tmp) : ∃ v,a.put d v = a:=by
 cases d with
 | none => exact ⟨undef,rfl⟩
 | some i =>
  by_cases h : i < a.tmps.size
  ·refine ⟨a.tmps[i],?_⟩
   simp only [Act.put]
   rw [Array.setIfInBounds_def,dif_pos h,Array.set_getElem_self]
  ·refine ⟨undef,?_⟩
   simp only [Act.put]
   rw [Array.setIfInBounds_def,dif_neg h]
theorem put_over {a b : Act} {d d' : Option Tmp} {v q : Value} (hne : d ≠ d') (h : a.put d' q = b) : (a.put d v).put d' q = b.put d v:=by rw [put_comm _ hne,h]
theorem put_twice (a : Act) (d : Option Tmp) (p q : Value) : (a.put d p).put d q = a.put d q:=by
 cases d with
 | none => rfl
 | some i => simp only [Act.put,Array.setIfInBounds_setIfInBounds]
def tupA (v : Value) (i : Nat) : Value:=match v with | .tuple vs => vs.getD i undef | _ => undef
section
variable {P : Program} {ops : Array Oper} {Q : Exit -> Act -> World -> Prop} {md : Region.Mode} {S : World -> Prop}
theorem wpAnyD_chain2X {c1 c2 i : Nat} {oc1 oc2 oi : Oper} {fuel : Nat} (d1 d2 di : Option Tmp) (m : Nat) {listed L0 L1 : Array Bool} {A : Value -> Value -> Value -> Act} {a : Act} {w : World} (ty : TypeId) (z : Array Value)
  (F0 : (Nat -> Prop) -> World -> Prop)
  (F1 : Value -> (Nat -> Prop) -> World -> Prop)
  (F2 : Value -> Value -> (Nat -> Prop) -> World -> Prop)
  (hr0 : Region.ready md ops listed = [c1,i]) (hs0 : Region.ready md ops (listed.setIfInBounds i true) = [c1])
  (hr1 : Region.ready md ops (listed.setIfInBounds c1 true) = [c2,i]) (hs1 : Region.ready md ops ((listed.setIfInBounds c1 true).setIfInBounds i true) = [c2])
  (hrn : Region.ready md ops L0 = [i]) (hL : L0.setIfInBounds i true = L1)
  (hd1 : oc1.dst = d1) (hoc1 : ops[c1]? = some oc1) (hwc1 : ∀ t,Region.wanted oc1 (yielded ops t) = true) (hnec1 : d1 ≠ di)
  (hd2 : oc2.dst = d2) (hoc2 : ops[c2]? = some oc2) (hwc2 : ∀ t,Region.wanted oc2 (yielded ops t) = true) (hnec2 : d2 ≠ di)
  (hSm : ∀ W W',S W -> Below W.heap.size W W' -> S W') (hSw : S w)
  (hdi : oi.dst = di) (hoi : ops[i]? = some oi) (hwi : ∀ t,Region.wanted oi (yielded ops t) = true)
  (halloc : ∀ (a : Act) (W : World) (K : Act -> World -> Prop),K (a.put di (.pointer (some ⟨W.heap.size,0,none⟩))) (W.alloc (.cells z ty)) -> oi.wp P a W K Q)
  (st0 : ∀ Fp W W',F0 Fp W -> Below W.heap.size W W' -> F0 Fp W')
  (st1 : ∀ v1 Fp W W',F1 v1 Fp W -> Below W.heap.size W W' -> F1 v1 Fp W')
  (st2 : ∀ v1 v2 Fp W W',F2 v1 v2 Fp W -> Below W.heap.size W W' -> F2 v1 v2 Fp W')
  (step1 : ∀ Fp W p,F0 Fp W -> ∀ KK : Act -> World -> Prop,(∀ v1 Fp' W',F1 v1 Fp' W' -> (∀ b,Fp' b -> Fp b \/ Btw W.heap.size W'.heap.size b) -> Below W.heap.size W W' -> KK ((a.put di p).put d1 v1) W') -> oc1.wp P (a.put di p) W KK Q)
  (step2 : ∀ v1 Fp W p,F1 v1 Fp W -> ∀ KK : Act -> World -> Prop,(∀ v2 Fp' W',F2 v1 v2 Fp' W' -> (∀ b,Fp' b -> Fp b \/ Btw W.heap.size W'.heap.size b) -> Below W.heap.size W W' -> KK (((a.put di p).put d1 v1).put d2 v2) W') -> oc2.wp P ((a.put di p).put d1 v1) W KK Q)
  (htk0 : ∀ v1 v2 p Fp W',F2 v1 v2 Fp W' -> S W' -> wpAnyD P md ops Q S [] (fuel + 1) L0 (A p v1 v2) W' -> wpAnyD P md ops Q S [] (fuel + m + 1) ((listed.setIfInBounds c1 true).setIfInBounds c2 true) (((a.put di p).put d1 v1).put d2 v2) W')
  (htk1 : ∀ v1 v2 p Fp W',F2 v1 v2 Fp W' -> S W' -> wpAnyD P md ops Q S [] fuel L1 (A p v1 v2) W' -> wpAnyD P md ops Q S [] (fuel + m) (((listed.setIfInBounds c1 true).setIfInBounds c2 true).setIfInBounds i true) (((a.put di p).put d1 v1).put d2 v2) W')
  (hA : ∀ v1 v2 p q,(A p v1 v2).put di q = A q v1 v2)
  (h0 : F0 (fun _ => False) w)
  (h : ∀ v1 v2 Fp k W',F2 v1 v2 Fp W' -> ¬ Fp k -> S W' -> Blk W' k z ty -> w.heap.size <= k -> Below w.heap.size w W' -> wpAnyD P md ops Q S [] fuel L1 (A (.pointer (some ⟨k,0,none⟩)) v1 v2) W') :
  wpAnyD P md ops Q S [] (fuel + m + 2 + 1) listed a w:=by
 subst hd1 hd2 hdi
 have hdc1 : c1 ≠ i:=fun e => by subst e; rw [hoc1] at hoi; cases hoi; exact hnec1 rfl
 have hdc2 : c2 ≠ i:=fun e => by subst e; rw [hoc2] at hoi; cases hoi; exact hnec2 rfl
 have al : ∀ (W : World),Below W.heap.size W (W.alloc (.cells z ty)):=fun W => (Below.refl _ _).alloc (Nat.le_refl _) _
 have e0 : ∀ p,(a).put oi.dst p = (a.put oi.dst p):=fun p => by
  rfl
 have e1 : ∀ v1 p,((a.put oc1.dst v1)).put oi.dst p = ((a.put oi.dst p).put oc1.dst v1):=fun v1 p => by
  rw [put_comm _ hnec1]
 have e2 : ∀ v1 v2 p,(((a.put oc1.dst v1).put oc2.dst v2)).put oi.dst p = (((a.put oi.dst p).put oc1.dst v1).put oc2.dst v2):=fun v1 v2 p => by
  rw [put_comm _ hnec2,put_comm _ hnec1]
 have t2 : ∀ v1 v2 Fp k W',F2 v1 v2 Fp W' -> ¬ Fp k -> Blk W' k z ty -> w.heap.size <= k -> Below w.heap.size w W' -> wpAnyD P md ops Q S [] (fuel + m + 0) (((listed.setIfInBounds c1 true).setIfInBounds c2 true).setIfInBounds i true) (((a.put oi.dst (.pointer (some ⟨k,0,none⟩))).put oc1.dst v1).put oc2.dst v2) W':=fun v1 v2 Fp k W' f nk q hk b => by
  exact htk1 v1 v2 _ Fp W' f (hSm _ _ hSw b) (h v1 v2 Fp k W' f nk (hSm _ _ hSw b) q hk b)
 have t1 : ∀ v1 Fp k W',F1 v1 Fp W' -> ¬ Fp k -> Blk W' k z ty -> w.heap.size <= k -> Below w.heap.size w W' -> wpAnyD P md ops Q S [] (fuel + m + 1) ((listed.setIfInBounds c1 true).setIfInBounds i true) ((a.put oi.dst (.pointer (some ⟨k,0,none⟩))).put oc1.dst v1) W':=fun v1 Fp k W' f nk q hk b => by
  refine wpAnyD_one hs1 hoc2 (hwc2 _) ?_
  refine step2 v1 Fp W' _ f _ fun v2 Fp2 W2 f2 hf2 b2 => ⟨fun _ => hSm _ _ hSw (b.trans (b2.mono b.size)),?_⟩
  rw [Array.setIfInBounds_comm _ _ (Ne.symm hdc2)]
  exact t2 v1 v2 Fp2 k W2 f2 (fun h2 => (hf2 k h2).elim nk fun h3 => absurd h3.1 (Nat.not_le_of_lt q.lt)) ((b2.block k q.lt).trans q) hk (b.trans (b2.mono b.size))
 have t0 : ∀ Fp k W',F0 Fp W' -> ¬ Fp k -> Blk W' k z ty -> w.heap.size <= k -> Below w.heap.size w W' -> wpAnyD P md ops Q S [] (fuel + m + 2) (listed.setIfInBounds i true) (a.put oi.dst (.pointer (some ⟨k,0,none⟩))) W':=fun Fp k W' f nk q hk b => by
  refine wpAnyD_one hs0 hoc1 (hwc1 _) ?_
  refine step1 Fp W' _ f _ fun v1 Fp2 W2 f2 hf2 b2 => ⟨fun _ => hSm _ _ hSw (b.trans (b2.mono b.size)),?_⟩
  rw [Array.setIfInBounds_comm _ _ (Ne.symm hdc1)]
  exact t1 v1 Fp2 k W2 f2 (fun h2 => (hf2 k h2).elim nk fun h3 => absurd h3.1 (Nat.not_le_of_lt q.lt)) ((b2.block k q.lt).trans q) hk (b.trans (b2.mono b.size))
 have g2 : ∀ v1 v2 Fp W',F2 v1 v2 Fp W' -> (∀ b,Fp b -> b < W'.heap.size) -> Below w.heap.size w W' -> wpAnyD P md ops Q S [] (fuel + m + 0 + 1) ((listed.setIfInBounds c1 true).setIfInBounds c2 true) ((a.put oc1.dst v1).put oc2.dst v2) W':=fun v1 v2 Fp W' f lf b => by
  obtain ⟨p,hp⟩:=put_same ((a.put oc1.dst v1).put oc2.dst v2) oi.dst
  rw [e2] at hp
  rw [<- hp]
  refine htk0 v1 v2 p Fp W' f (hSm _ _ hSw b) ?_
  refine wpAnyD_one hrn hoi (hwi _) (halloc _ _ _ ⟨fun _ => hSm _ _ hSw (b.trans ((al W').mono b.size)),?_⟩)
  rw [hA,hL]
  exact h v1 v2 Fp _ _ (st2 v1 v2 Fp _ _ f (al W')) (fun h2 => absurd (lf _ h2) (Nat.lt_irrefl _)) (hSm _ _ hSw (b.trans ((al W').mono b.size))) (Blk.new W' _ _) b.size (b.trans ((al W').mono b.size))
 have g1 : ∀ v1 Fp W',F1 v1 Fp W' -> (∀ b,Fp b -> b < W'.heap.size) -> Below w.heap.size w W' -> wpAnyD P md ops Q S [] (fuel + m + 1 + 1) (listed.setIfInBounds c1 true) (a.put oc1.dst v1) W':=fun v1 Fp W' f lf b => by
  refine wpAnyD_two hr1 hoc2 hoi (hwc2 _) (hwi _) ?_ (halloc _ _ _ ⟨fun _ => hSm _ _ hSw (b.trans ((al W').mono b.size)),(e1 v1 _).symm ▸ t1 v1 Fp _ _ (st1 v1 Fp _ _ f (al W')) (fun h2 => absurd (lf _ h2) (Nat.lt_irrefl _)) (Blk.new W' _ _) b.size (b.trans ((al W').mono b.size))⟩)
  obtain ⟨p,hp⟩:=put_same (a.put oc1.dst v1) oi.dst
  rw [e1] at hp
  rw [<- hp]
  refine step2 v1 Fp W' p f _ fun v2 Fp2 W2 f2 hf2 b2 => ⟨fun _ => hSm _ _ hSw (b.trans (b2.mono b.size)),?_⟩
  rw [hp]
  exact g2 v1 v2 Fp2 W2 f2 (fun b3 h3 => (hf2 b3 h3).elim (fun h4 => Nat.lt_of_lt_of_le (lf b3 h4) b2.size) fun h4 => h4.2) (b.trans (b2.mono b.size))
 have g0 : ∀ Fp W',F0 Fp W' -> (∀ b,Fp b -> b < W'.heap.size) -> Below w.heap.size w W' -> wpAnyD P md ops Q S [] (fuel + m + 2 + 1) listed a W':=fun Fp W' f lf b => by
  refine wpAnyD_two hr0 hoc1 hoi (hwc1 _) (hwi _) ?_ (halloc _ _ _ ⟨fun _ => hSm _ _ hSw (b.trans ((al W').mono b.size)),(e0 _).symm ▸ t0 Fp _ _ (st0 Fp _ _ f (al W')) (fun h2 => absurd (lf _ h2) (Nat.lt_irrefl _)) (Blk.new W' _ _) b.size (b.trans ((al W').mono b.size))⟩)
  obtain ⟨p,hp⟩:=put_same a oi.dst
  rw [e0] at hp
  rw [<- hp]
  refine step1 Fp W' p f _ fun v1 Fp2 W2 f2 hf2 b2 => ⟨fun _ => hSm _ _ hSw (b.trans (b2.mono b.size)),?_⟩
  rw [hp]
  exact g1 v1 Fp2 W2 f2 (fun b3 h3 => (hf2 b3 h3).elim (fun h4 => Nat.lt_of_lt_of_le (lf b3 h4) b2.size) fun h4 => h4.2) (b.trans (b2.mono b.size))
 exact g0 _ w h0 (fun _ h => h.elim) (Below.refl _ _)
end
section
variable {P : Program} {ops : Array Oper} {Q : Exit -> Act -> World -> Prop} {md : Region.Mode} {S : World -> Prop} {D : List Nat}
theorem wpAnyD_pure0 {i : Nat} {oi : Oper} {v : Value} (hi : ops[i]? = some oi) (hsel : ∀ (j : Nat) (o : Oper) cs b,ops[j]? = some o -> o.op ≠ .select cs b)
  (hQ : ∀ c a w,Q (.panic c) (a.put oi.dst v) w -> Q (.panic c) a w) (hiD : i ∈ D) :
  ∀ (fuel : Nat) (listed : Array Bool) (a : Act) (w : World),
   (∀ j oj,ops[j]? = some oj -> j ≠ i -> listed.getD j true = false -> (∀ e ∈ oj.after,Region.binds md e = true -> e.on ≠ i) -> oi.apart ops oj = true) →
   i ∈ Region.ready md ops listed -> YieldsIf P ops (fun _ => True) oi v a →
   wpAnyD P md ops Q S D fuel (listed.setIfInBounds i true) (a.put oi.dst v) w -> wpAnyD P md ops Q S D (fuel + 1) listed a w:=by
 intro fuel
 induction fuel with
 | zero =>
  intro listed a w _ hr hy H
  refine ⟨fun h => (by rw [h] at hr; cases hr),fun j hj => ?_⟩
  by_cases hji : j = i
  ·subst hji; exact hy.wpOp hi trivial ⟨fun h => absurd hiD h,H⟩
  ·have := ready_mono hj hji
   rw [H.1] at this
   cases this
 | succ fuel ih =>
  intro listed a w hfree hr hy H
  refine ⟨fun h => (by rw [h] at hr; cases hr),fun j hj => ?_⟩
  by_cases hji : j = i
  ·subst hji; exact hy.wpOp hi trivial ⟨fun h => absurd hiD h,H⟩
  ·have h1:=H.2 j (ready_mono hj hji)
   obtain ⟨hjun,oj,hoj,hall⟩:=mem_ready.1 hj
   have hlisted : ∀ k,listed.getD k false = true -> listed.getD k true = true:=fun k hk => by
    rcases Nat.lt_or_ge k listed.size with h' | h'
    ·simpa [h'] using hk
    ·simp [Array.getElem?_eq_none h']
   have hnot : ∀ e ∈ oj.after,Region.binds md e = true -> e.on ≠ i:=fun e he hb heq => by
    have h1:=hall e he hb
    have h0:=(mem_ready.1 hr).1
    rw [heq] at h1
    have := hlisted _ h1
    rw [h0] at this; cases this
   have h2:=wpOp_putIf hoj (hfree j oj hoj hji hjun hnot) (fun cs b => hsel i oi cs b hi) (fun cs b => hsel j oj cs b hoj) hQ hy h1
   have hfree' : ∀ k ok,ops[k]? = some ok -> k ≠ i -> (listed.setIfInBounds j true).getD k true = false →
     (∀ e ∈ ok.after,Region.binds md e = true -> e.on ≠ i) -> oi.apart ops ok = true:=fun k ok hk hki hun hno => by
    refine hfree k ok hk hki ?_ hno
    by_cases hjk : j = k
    ·subst hjk; exact hjun
    ·rw [getD_set_ne true hjk] at hun; exact hun
   refine wpOp_mono (fun a' w' h3 => ⟨h3.2.1,ih (listed.setIfInBounds j true) a' w' hfree' (ready_mono hr (Ne.symm hji)) h3.1 ?_⟩) h2
   rw [Array.setIfInBounds_comm _ _ hji]
   exact h3.2.2
theorem wpAnyD_pure {i : Nat} {oi : Oper} {v : Value} {fuel : Nat} {listed : Array Bool} {a : Act} {w : World} (d : Option Tmp) (hi : ops[i]? = some oi) (hd : oi.dst = d)
  (hs : Region.noSelect ops = true) (hf : Region.free md ops listed i = true) (hr : (Region.ready md ops listed).contains i = true) (hD : D.contains i = true)
  (hQ : ∀ c a w,Q (.panic c) (a.put d v) w -> Q (.panic c) a w) (hy : YieldsIf P ops (fun _ => True) oi v a)
  (h : wpAnyD P md ops Q S D fuel (listed.setIfInBounds i true) (a.put d v) w) : wpAnyD P md ops Q S D (fuel + 1) listed a w:=by
 subst hd
 exact wpAnyD_pure0 hi (Region.noSelect_spec hs) hQ (by simpa using hD) fuel listed a w (Region.free_spec hi hf) (by simpa using hr) hy h
end
end Go.Proofs.YtlldjmagbjjeoaaGreat
