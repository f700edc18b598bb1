/- Contracts and plain laws, several texts in one (NZ4). No conditions beyond those stated. -/
import Derived.Test.YtlldjmagbjjeoaaGreatPk21
set_option maxRecDepth 100000
set_option maxHeartbeats 40000000
namespace Go.Proofs.YtlldjmagbjjeoaaGreat
open Go.RowKit
set_option linter.unusedVariables false
def lowP (y : Int) (d : Nat) : Int:=y / (Nat.gcd y.natAbs d : Nat)
def lowQ (y : Int) (d : Nat) : Nat:=d / Nat.gcd y.natAbs d
theorem lowP_mul (y : Int) (d : Nat) : y = lowP y d * (Nat.gcd y.natAbs d : Nat):=(Int.ediv_mul_cancel (Int.ofNat_dvd_left.2 (Nat.gcd_dvd_left _ _))).symm
theorem lowQ_mul (y : Int) (d : Nat) : d = lowQ y d * Nat.gcd y.natAbs d:=(Nat.div_mul_cancel (Nat.gcd_dvd_right _ _)).symm
theorem low_gcd_pos (y : Int) {d : Nat} (hd : 0 < d) : 0 < Nat.gcd y.natAbs d:=Nat.gcd_pos_of_pos_right _ hd
theorem lowQ_pos (y : Int) {d : Nat} (hd : 0 < d) : 0 < lowQ y d:=Nat.div_pos (Nat.le_of_dvd hd (Nat.gcd_dvd_right _ _)) (low_gcd_pos y hd)
theorem lowQ_le (y : Int) (d : Nat) : lowQ y d <= d:=Nat.div_le_self _ _
theorem lowP_abs (y : Int) {d : Nat} (hd : 0 < d) : (lowP y d).natAbs = y.natAbs / Nat.gcd y.natAbs d:=by
 have h:=congrArg Int.natAbs (lowP_mul y d)
 rw [Int.natAbs_mul,Int.natAbs_natCast] at h
 exact (Nat.div_eq_of_eq_mul_left (low_gcd_pos y hd) h).symm
theorem lowP_le (y : Int) {d : Nat} (hd : 0 < d) : (lowP y d).natAbs <= y.natAbs:=by rw [lowP_abs y hd]; exact Nat.div_le_self _ _
theorem low_cop (y : Int) {d : Nat} (hd : 0 < d) : Nat.gcd (lowP y d).natAbs (lowQ y d) = 1:=by
 rw [lowP_abs y hd]; exact Nat.gcd_div_gcd_div_gcd_of_pos_right hd
theorem low_eq (y : Int) (d : Nat) : lowP y d * d = y * lowQ y d:=by
 have h1:=lowP_mul y d
 have h2 : (d : Int) = (lowQ y d : Int) * (Nat.gcd y.natAbs d : Nat):=by
  have := congrArg (fun n : Nat => (n : Int)) (lowQ_mul y d)
  simpa using this
 obtain ⟨G,hG⟩ : ∃ G : Int,((Nat.gcd y.natAbs d : Nat) : Int) = G:=⟨_,rfl⟩
 rw [hG] at h1 h2
 obtain ⟨P,hP⟩ : ∃ P,lowP y d = P:=⟨_,rfl⟩
 obtain ⟨Q,hQ⟩ : ∃ Q : Int,(lowQ y d : Int) = Q:=⟨_,rfl⟩
 rw [hP] at h1 ⊢
 rw [hQ] at h2 ⊢
 rw [h2,h1,Int.mul_assoc,Int.mul_comm Q G]
def QxN (L K : Nat) (w : World) (x : Value) (p : Int) (q : Nat) : Prop:=∃ g u v,x = Fg g u false v /\ Qv K w g u v p q /\ NewV L u /\ NewV L v
theorem ztzero_any (K : Nat) (g h : Bool) (u v : Value) (p q : Int) (w : World) (hu : Zn K w g u p) (hv : Zn K w h v q) : Calls Tryz.prog 67 #[Fg g u h v] w fun e w' => e = .returned (.bool (p == 0)) /\ Below w.heap.size w w':=by
 obtain ⟨ua,um,uc,rfl,_,_,hm,_⟩:=hu.ln.form
 obtain ⟨va,vm,vc,rfl⟩:=hv.form
 have h1 : ((um : Int) == 0) = (p == 0):=by rw [Bool.eq_iff_iff]; simp; omega
 obtain ⟨r,hr⟩ : ∃ r,(p == 0) = r:=⟨_,rfl⟩
 rw [hr] at h1 ⊢
 clear hu hv hr hm
 go_enter Tryz.func67,Tryz.ntmps67
 go_wp2_with fail
 go_ret
 exact ⟨rfl,(Below.refl _ w).alloc (Nat.le_refl _) _⟩
theorem zresult_any (K : Nat) (g : Bool) (u v : Value) (p q : Int) (w : World) (hu : Zn K w g u p) (hv : Zn K w false v q) (hp : p.natAbs < LB 256) (hq : q.natAbs < LB 256) :
  Calls Tryz.prog 65 #[Fg g u false v] w fun e w' => e = .returned (.tuple #[Fg g u false v,.int .i64 0]) /\ Below w.heap.size w w':=by
 obtain ⟨ua,um,uc,rfl,_,_,_,hmk⟩:=hu.ln.form
 obtain ⟨va,vm,vc,rfl,_,_,_,hnk⟩:=hv.ln.form
 have h1 : um <= 256:=(hmk 256).2 hp
 have h2 : vm <= 256:=(hnk 256).2 hq
 obtain ⟨W1,hW1⟩ : ∃ W1,(w.alloc (.cells #[.bool g,.slice ua um uc,.bool false,.slice va vm vc] 101)).alloc (.cells #[.bool false,.slice none 0 0,.bool false,.slice none 0 0] 26) = W1:=⟨_,rfl⟩
 have b1 : Below w.heap.size w W1:=by rw [<- hW1]; exact ((Below.refl _ _).alloc (Nat.le_refl _) _).alloc (by simp) _
 have q0 : Blk W1 w.heap.size #[.bool g,.slice ua um uc,.bool false,.slice va vm vc] 101:=by rw [<- hW1]; exact (Blk.new w _ _).alloc _
 have q1 : Blk W1 (w.heap.size + 1) #[.bool false,.slice none 0 0,.bool false,.slice none 0 0] 26:=by
  rw [<- hW1]
  have := Blk.new (w.alloc (.cells #[.bool g,.slice ua um uc,.bool false,.slice va vm vc] 101)) #[.bool false,.slice none 0 0,.bool false,.slice none 0 0] 26
  rwa [World.size_alloc] at this
 have s1 : W1.heap.size = w.heap.size + 2:=by rw [<- hW1]; simp
 have HW:=Lib.hid hW1
 obtain ⟨B,hB⟩ : ∃ B,w.heap.size = B:=⟨_,rfl⟩
 have HB:=Lib.hid hB
 rw [hB] at b1 q0 q1 s1 ⊢
 have hl:=flongL_any g false um vm uc vc ua va W1
 rw [show (decide (256 < um) || decide (256 < vm)) = false by simp; omega] at hl
 clear hB hW1 hu hv hp hq hmk hnk h1 h2
 obtain ⟨d0,d1,d2,d3⟩:=q0.four
 go_enter Tryz.func65,Tryz.ntmps65
 go_upto_region 1 with fail
 simp only [HB.out]
 rw [HW.out]
 go_wp2_with fail
 refine hl.mono ?_
 rintro e w2 ⟨rfl,hb2⟩
 have q0:=q0.below hb2 q0.lt
 have q1:=q1.below hb2 q1.lt
 clear hl d0 d1 d2 d3
 obtain ⟨d0,d1,d2,d3⟩:=q0.four
 obtain ⟨d4,d5,d6,d7⟩:=q1.four
 have f4:=q1.free 0
 have f5:=q1.free 1
 have f6:=q1.free 2
 have f7:=q1.free 3
 go_wp2_with fail
 have x2:=(((q1.set (i:=0) (.bool g)).set (i:=1) (.slice ua um uc)).set (i:=2) (.bool false)).set (i:=3) (.slice va vm vc)
 obtain ⟨e0,e1,e2,e3⟩:=x2.four
 refine bodyPost_ret (v:=.tuple #[Fg g (.slice ua um uc) false (.slice va vm vc),.int .i64 0]) (by simp [results,Tryz.results65,go_sem,e0,e1,e2,e3]) rfl ?_
 exact ⟨rfl,((((b1.trans (hb2.mono (by omega))).setCell (p:=⟨B + 1,0,none⟩) (by simp) _).setCell (p:=⟨B + 1,1,none⟩) (by simp) _).setCell (p:=⟨B + 1,2,none⟩) (by simp) _).setCell (p:=⟨B + 1,3,none⟩) (by simp) _⟩
theorem zadd_any (K : Nat) (g h : Bool) (u v x y : Value) (m p : Int) (n q : Nat) (w : World) (h1 : Qv K w g u v m n) (h2 : Qv K w h x y p q) (hb1 : m.natAbs < LB 100) (hb2' : n < LB 100) (hb3 : p.natAbs < LB 100) (hb4 : q < LB 100) (hK : K <= w.heap.size) :
  Calls Tryz.prog 46 #[Fg g u false v,Fg h x false y] w fun e w' => ∃ x,e = .returned (.tuple #[x,.int .i64 0]) /\ QxN w.heap.size w'.heap.size w' x (lowP (m * q + p * n) (n * q)) (lowQ (m * q + p * n) (n * q)) /\ Below w.heap.size w w':=by
 obtain ⟨ua,um,uc,rfl⟩:=h1.n.form
 obtain ⟨va,vm,vc,rfl⟩:=h1.d.form
 obtain ⟨xa,xm,xc,rfl,_,_,hxm,_⟩:=h2.n.ln.form
 obtain ⟨ya,ym,yc,rfl⟩:=h2.d.form
 obtain ⟨W1,hW1⟩ : ∃ W1,(((w.alloc (.cells #[.bool g,.slice ua um uc,.bool false,.slice va vm vc] 26)).alloc (.cells #[.bool h,.slice xa xm xc,.bool false,.slice ya ym yc] 26)).alloc (.cells #[.bool false,.slice none 0 0,.bool false,.slice none 0 0] 26)).alloc (.cells #[.bool g,.slice ua um uc,.bool false,.slice va vm vc,.bool h,.slice xa xm xc,.bool false,.slice ya ym yc] 26) = W1:=⟨_,rfl⟩
 obtain ⟨b1,q0,q1,q2,q3,s1⟩:=alloc4 w _ _ _ _ _ _ _ _ hW1
 have HW:=Lib.hid hW1
 obtain ⟨B,hB⟩ : ∃ B,w.heap.size = B:=⟨_,rfl⟩
 have HB:=Lib.hid hB
 rw [hB] at hK b1 q0 q1 q2 q3 s1 ⊢
 have hav:=fallvalidQ_any B (B + 3) g h _ _ _ _ m p n q W1 (h1.below b1 hK hK) (h2.below b1 hK hK) (by omega) q3
 have HAV:=Lib.hid hav
 have H1:=Lib.hid h1
 have H2:=Lib.hid h2
 clear hB hW1 hav h1 h2
 go_enter Tryz.func46,Tryz.ntmps46
 go_wp2_with fail
 simp only [HB.out,Nat.add_assoc,Nat.reduceAdd]
 rw [HW.out]
 refine HAV.out.mono ?_
 rintro e w2 ⟨rfl,hb2⟩
 have b2 : Below B w w2:=b1.trans (hb2.mono (by omega))
 have hs2:=hb2.size
 have q0:=q0.below hb2 q0.lt
 have q1:=q1.below hb2 q1.lt
 have q2:=q2.below hb2 q2.lt
 have H1' : Hid (Qv w2.heap.size w2 g (.slice ua um uc) (.slice va vm vc) m n):=Lib.hid (H1.out.below b2 hK (by omega))
 have H2' : Hid (Qv w2.heap.size w2 h (.slice xa xm xc) (.slice ya ym yc) p q):=Lib.hid (H2.out.below b2 hK (by omega))
 clear HAV q3 H1 H2
 have hD0 : 0 < n * q:=Nat.mul_pos H1'.out.q0 H2'.out.q0
 have HD0:=Lib.hid hD0
 have HDN : Hid (((n : Int) * q).natAbs = n * q):=Lib.hid (by rw [Int.natAbs_mul,Int.natAbs_natCast,Int.natAbs_natCast])
 have HDC : Hid (((n : Int) * q) = ((lowQ (m * q + p * n) (n * q) : Nat) : Int) * ((Nat.gcd (m * q + p * n).natAbs (n * q) : Nat) : Int)):=Lib.hid (by
  have := congrArg (fun k : Nat => (k : Int)) (lowQ_mul (m * q + p * n) (n * q))
  have h2 : ((n : Int) * q) = ((n * q : Nat) : Int):=by rw [Int.natCast_mul]
  rw [h2]
  rw [<- Int.natCast_mul]
  exact this)
 have hDE : ((n : Int) * q) = ((n * q : Nat) : Int):=by rw [Int.natCast_mul]
 have HDP : Hid (0 < ((n : Int) * q)):=Lib.hid (by rw [hDE]; omega)
 have hYL : (m * q + p * n).natAbs < LB 201:=Nat.lt_of_le_of_lt (Int.natAbs_add_le _ _) (by rw [Int.natAbs_mul,Int.natAbs_mul,Int.natAbs_natCast,Int.natAbs_natCast]; exact LB_sum (a:=200) (LB_mul hb1 hb4) (LB_mul hb3 hb2'))
 have HYL : Hid ((m * q + p * n).natAbs < LB 1000):=Lib.hid (LB_lt hYL (by decide))
 have hDL : n * q < LB 201:=LB_lt (LB_mul hb2' hb4) (by decide)
 have HDL : Hid (((n : Int) * q).natAbs < LB 1000):=Lib.hid (by rw [HDN.out]; exact LB_lt hDL (by decide))
 have HPL : Hid ((lowP (m * q + p * n) (n * q)).natAbs < LB 256):=Lib.hid (LB_lt (Nat.lt_of_le_of_lt (lowP_le _ hD0) hYL) (by decide))
 have HQL : Hid ((((lowQ (m * q + p * n) (n * q) : Nat) : Int)).natAbs < LB 256):=Lib.hid (by rw [Int.natAbs_natCast]; exact LB_lt (Nat.lt_of_le_of_lt (lowQ_le _ _) hDL) (by decide))
 clear hb1 hb2' hb3 hb4 hD0 hYL hDL hDE
 go_upto_region 3 with fail
 refine region_plain (fun W' => Below w2.heap.size w2 W') [20,21] (by kernel_rfl) ?_
 have qS : (fun W' => Below w2.heap.size w2 W') w2.drew:=below_quiet (Below.refl _ _)
 refine wpAnyD_tpX (i:=0) (v:=.pointer (some ⟨B,0,none⟩)) (some 12) rfl rfl qS ?_
 refine wpAnyD_tkX (i:=1) (v:=.agg #[.bool g,.slice ua um uc]) (some 13) rfl rfl (.inl ⟨by kernel_rfl,fun W' hS => by have d0:=(q0.below hS q0.lt).at (i:=0) rfl; have d1:=(q0.below hS q0.lt).at (i:=1) rfl; go_simp⟩) qS ?_
 refine wpAnyD_tpX (i:=2) (v:=.pointer (some ⟨B + 1,2,none⟩)) (some 14) rfl rfl qS ?_
 refine wpAnyD_tkX (i:=3) (v:=.agg #[.bool false,.slice ya ym yc]) (some 15) rfl rfl (.inl ⟨by kernel_rfl,fun W' hS => by have d0:=(q1.below hS q1.lt).at (i:=2) rfl; have d1:=(q1.below hS q1.lt).at (i:=3) rfl; go_simp⟩) qS ?_
 refine wpAnyD_tpX (i:=5) (v:=.pointer (some ⟨B + 1,0,none⟩)) (some 17) rfl rfl qS ?_
 refine wpAnyD_tkX (i:=6) (v:=.agg #[.bool h,.slice xa xm xc]) (some 18) rfl rfl (.inl ⟨by kernel_rfl,fun W' hS => by have d0:=(q1.below hS q1.lt).at (i:=0) rfl; have d1:=(q1.below hS q1.lt).at (i:=1) rfl; go_simp⟩) qS ?_
 refine wpAnyD_tpX (i:=7) (v:=.pointer (some ⟨B,2,none⟩)) (some 19) rfl rfl qS ?_
 refine wpAnyD_tkX (i:=8) (v:=.agg #[.bool false,.slice va vm vc]) (some 20) rfl rfl (.inl ⟨by kernel_rfl,fun W' hS => by have d0:=(q0.below hS q0.lt).at (i:=2) rfl; have d1:=(q0.below hS q0.lt).at (i:=3) rfl; go_simp⟩) qS ?_
 refine wpAnyD_tpX (i:=11) (v:=.pointer (some ⟨B,2,none⟩)) (some 23) rfl rfl qS ?_
 refine wpAnyD_tkX (i:=12) (v:=.agg #[.bool false,.slice va vm vc]) (some 24) rfl rfl (.inl ⟨by kernel_rfl,fun W' hS => by have d0:=(q0.below hS q0.lt).at (i:=2) rfl; have d1:=(q0.below hS q0.lt).at (i:=3) rfl; go_simp⟩) qS ?_
 refine wpAnyD_tpX (i:=13) (v:=.pointer (some ⟨B + 1,2,none⟩)) (some 25) rfl rfl qS ?_
 refine wpAnyD_tkX (i:=14) (v:=.agg #[.bool false,.slice ya ym yc]) (some 26) rfl rfl (.inl ⟨by kernel_rfl,fun W' hS => by have d0:=(q1.below hS q1.lt).at (i:=2) rfl; have d1:=(q1.below hS q1.lt).at (i:=3) rfl; go_simp⟩) qS ?_
 refine wpAnyD_on (i:=4) rfl ?_
 go_simp
 refine (ztimes_any w2.heap.size _ _ _ _ _ _ _ (H1'.out.n.below qS (Nat.le_refl _) (Nat.le_refl _)) (H2'.out.d.below qS (Nat.le_refl _) (Nat.le_refl _)) (LB_lt H1'.out.pl (by decide)) (LB_lt H2'.out.ql (by decide)) qS.size).mono ?_
 rintro e w3 ⟨x3,rfl,hx3,hb3⟩
 obtain ⟨g3,p3,rfl,hp3,hn3⟩:=hx3
 obtain ⟨a3,m3,c3,rfl⟩:=hp3.form
 have qSw3 : Below w2.heap.size w2 w3:=qS.trans (hb3.mono qS.size)
 go_simp
 refine wpAnyD_on (i:=9) rfl ?_
 go_simp
 refine (ztimes_any w2.heap.size _ _ _ _ _ _ _ (H2'.out.n.below qSw3 (Nat.le_refl _) (Nat.le_refl _)) (H1'.out.d.below qSw3 (Nat.le_refl _) (Nat.le_refl _)) (LB_lt H2'.out.pl (by decide)) (LB_lt H1'.out.ql (by decide)) qSw3.size).mono ?_
 rintro e w4 ⟨x4,rfl,hx4,hb4⟩
 obtain ⟨g4,p4,rfl,hp4,hn4⟩:=hx4
 obtain ⟨a4,m4,c4,rfl⟩:=hp4.form
 have qSw3w4 : Below w2.heap.size w2 w4:=qSw3.trans (hb4.mono qSw3.size)
 go_simp
 refine wpAnyD_on (i:=10) rfl ?_
 go_simp
 refine (zplus_any w4.heap.size _ _ _ _ _ _ _ (hp3.below hb4 (Nat.le_refl _) hb4.size) hp4 (by rw [Int.natAbs_mul]; exact LB_lt (LB_mul H1'.out.pl H2'.out.ql) (by decide)) (by rw [Int.natAbs_mul]; exact LB_lt (LB_mul H2'.out.pl H1'.out.ql) (by decide)) (Nat.le_refl _)).mono ?_
 rintro e w5 ⟨x5,rfl,hx5,hb5⟩
 obtain ⟨g5,p5,rfl,hp5,hn5⟩:=hx5
 obtain ⟨a5,m5,c5,rfl⟩:=hp5.form
 have qSw3w4w5 : Below w2.heap.size w2 w5:=qSw3w4.trans (hb5.mono qSw3w4.size)
 go_simp
 refine wpAnyD_on (i:=15) rfl ?_
 go_simp
 refine (ztimes_any w2.heap.size _ _ _ _ _ _ _ (H1'.out.d.below qSw3w4w5 (Nat.le_refl _) (Nat.le_refl _)) (H2'.out.d.below qSw3w4w5 (Nat.le_refl _) (Nat.le_refl _)) (LB_lt H1'.out.ql (by decide)) (LB_lt H2'.out.ql (by decide)) qSw3w4w5.size).mono ?_
 rintro e w6 ⟨x6,rfl,hx6,hb6⟩
 obtain ⟨g6,p6,rfl,hp6,hn6⟩:=hx6
 obtain ⟨a6,m6,c6,rfl⟩:=hp6.form
 obtain rfl:=hp6.pos (by have := HDP.out; omega)
 have qSw3w4w5w6 : Below w2.heap.size w2 w6:=qSw3w4w5.trans (hb6.mono qSw3w4w5.size)
 go_simp
 refine wpAnyD_on (i:=16) rfl ?_
 go_simp
 have hlow:=zlowest_any w6.heap.size _ _ _ (m * q + p * n) ((n : Int) * q) (lowP (m * q + p * n) (n * q)) (lowQ (m * q + p * n) (n * q)) w6 (hp5.below hb6 (Nat.le_refl _) hb6.size) hp6 HDP.out (by rw [HDN.out]; exact lowP_mul _ _) (by rw [HDN.out]; exact HDC.out) HYL.out HDL.out (Nat.le_refl _)
 refine hlow.mono ?_
 rintro e w7 ⟨x7,rfl,hx7,hb7⟩
 obtain ⟨g7,r7,t7,rfl,hr7,ht7,hn1,hn2⟩:=hx7
 obtain ⟨ra,rm,rc,rfl⟩:=hr7.form
 obtain ⟨ta,tm,tc,rfl⟩:=ht7.form
 have qSw3w4w5w6w7 : Below w2.heap.size w2 w7:=qSw3w4w5w6.trans (hb7.mono qSw3w4w5w6.size)
 go_simp
 refine wpAnyD_on (i:=17) rfl ?_
 go_simp
 refine (zresult_any w7.heap.size g7 _ _ _ _ _ hr7 ht7 HPL.out HQL.out).mono ?_
 rintro e w8 ⟨rfl,hb8⟩
 have qSw3w4w5w6w7w8 : Below w2.heap.size w2 w8:=qSw3w4w5w6w7.trans (hb8.mono qSw3w4w5w6w7.size)
 go_simp
 refine wpAnyD_tpX (i:=18) (v:=.agg #[.bool g7,.slice ra rm rc,.bool false,.slice ta tm tc]) (some 30) rfl rfl qSw3w4w5w6w7w8 ?_
 refine wpAnyD_tpX (i:=19) (v:=.int .i64 0) (some 31) rfl rfl qSw3w4w5w6w7w8 ?_
 have q2s:=q2.below qSw3w4w5w6w7w8 q2.lt
 obtain ⟨e0,e1,e2,e3⟩:=q2s.four
 have f0:=q2s.free 0
 have f1:=q2s.free 1
 have f2:=q2s.free 2
 have f3:=q2s.free 3
 refine wpAnyD_on (i:=20) rfl ?_
 go_simp
 refine wpAnyD_on (i:=21) rfl ?_
 go_simp
 refine wpAnyD_done (by kernel_rfl) ?_ _
 go_wp2_with fail
 have q3s:=(((q2s.set (i:=0) (.bool g7)).set (i:=1) (.slice ra rm rc)).set (i:=2) (.bool false)).set (i:=3) (.slice ta tm tc)
 clear e0 e1 e2 e3
 obtain ⟨e0,e1,e2,e3⟩:=q3s.four
 refine bodyPost_ret (v:=.tuple #[Fg g7 (.slice ra rm rc) false (.slice ta tm tc),.int .i64 0]) (by simp [results,Tryz.results46,go_sem,e0,e1,e2,e3]) rfl ?_
 have hB6 : B + 2 < w6.heap.size:=by have := qSw3w4w5w6.size; omega
 have hr8:=hr7.below hb8 (Nat.le_refl _) hb8.size
 have ht8:=ht7.below hb8 (Nat.le_refl _) hb8.size
 have hr9:=(((hr8.set (r:=B + 2) (i:=0) (x:=.bool g7) hn1 hB6).set (r:=B + 2) (i:=1) (x:=.slice ra rm rc) hn1 hB6).set (r:=B + 2) (i:=2) (x:=.bool false) hn1 hB6).set (r:=B + 2) (i:=3) (x:=.slice ta tm tc) hn1 hB6
 have ht9:=(((ht8.set (r:=B + 2) (i:=0) (x:=.bool g7) hn2 hB6).set (r:=B + 2) (i:=1) (x:=.slice ra rm rc) hn2 hB6).set (r:=B + 2) (i:=2) (x:=.bool false) hn2 hB6).set (r:=B + 2) (i:=3) (x:=.slice ta tm tc) hn2 hB6
 have b8 : Below B w w8:=b2.trans (qSw3w4w5w6w7w8.mono (by omega))
 have hq9 : ∀ K',w8.heap.size <= K' -> Qv K' _ g7 (.slice ra rm rc) (.slice ta tm tc) _ _:=fun K' hK' => ⟨hr9.below (Below.refl w8.heap.size _) (Nat.le_refl _) hK',ht9.below (Below.refl w8.heap.size _) (Nat.le_refl _) hK',lowQ_pos _ HD0.out,low_cop _ HD0.out,HPL.out,by have := HQL.out; rwa [Int.natAbs_natCast] at this⟩
 exact ⟨_,rfl,⟨_,_,_,rfl,hq9 _ (by simp [World.setCell]),hn1.mono (by omega),hn2.mono (by omega)⟩,(((b8.setCell (p:=⟨B + 2,0,none⟩) (by simp) _).setCell (p:=⟨B + 2,1,none⟩) (by simp) _).setCell (p:=⟨B + 2,2,none⟩) (by simp) _).setCell (p:=⟨B + 2,3,none⟩) (by simp) _⟩
theorem zdiv_any (K : Nat) (g h : Bool) (u v x y : Value) (m p : Int) (n q : Nat) (w : World) (h1 : Qv K w g u v m n) (h2 : Qv K w h x y p q) (hp0 : 0 < p) (hb1 : m.natAbs < LB 100) (hb2' : n < LB 100) (hb3 : p.natAbs < LB 100) (hb4 : q < LB 100) (hK : K <= w.heap.size) :
  Calls Tryz.prog 48 #[Fg g u false v,Fg h x false y] w fun e w' => ∃ x,e = .returned (.tuple #[x,.int .i64 0]) /\ QxN w.heap.size w'.heap.size w' x (lowP (m * q) (n * p.natAbs)) (lowQ (m * q) (n * p.natAbs)) /\ Below w.heap.size w w':=by
 obtain ⟨ua,um,uc,rfl⟩:=h1.n.form
 obtain ⟨va,vm,vc,rfl⟩:=h1.d.form
 obtain ⟨xa,xm,xc,rfl,_,_,hxm,_⟩:=h2.n.ln.form
 obtain ⟨ya,ym,yc,rfl⟩:=h2.d.form
 obtain ⟨W1,hW1⟩ : ∃ W1,(((w.alloc (.cells #[.bool g,.slice ua um uc,.bool false,.slice va vm vc] 26)).alloc (.cells #[.bool h,.slice xa xm xc,.bool false,.slice ya ym yc] 26)).alloc (.cells #[.bool false,.slice none 0 0,.bool false,.slice none 0 0] 26)).alloc (.cells #[.bool g,.slice ua um uc,.bool false,.slice va vm vc,.bool h,.slice xa xm xc,.bool false,.slice ya ym yc] 26) = W1:=⟨_,rfl⟩
 obtain ⟨b1,q0,q1,q2,q3,s1⟩:=alloc4 w _ _ _ _ _ _ _ _ hW1
 have HW:=Lib.hid hW1
 obtain ⟨B,hB⟩ : ∃ B,w.heap.size = B:=⟨_,rfl⟩
 have HB:=Lib.hid hB
 rw [hB] at hK b1 q0 q1 q2 q3 s1 ⊢
 have hav:=fallvalidQ_any B (B + 3) g h _ _ _ _ m p n q W1 (h1.below b1 hK hK) (h2.below b1 hK hK) (by omega) q3
 have HAV:=Lib.hid hav
 have H1:=Lib.hid h1
 have H2:=Lib.hid h2
 clear hB hW1 hav h1 h2
 go_enter Tryz.func48,Tryz.ntmps48
 go_wp2_with fail
 simp only [HB.out,Nat.add_assoc,Nat.reduceAdd]
 rw [HW.out]
 refine HAV.out.mono ?_
 rintro e w2 ⟨rfl,hb2⟩
 have b2 : Below B w w2:=b1.trans (hb2.mono (by omega))
 have hs2:=hb2.size
 have q0:=q0.below hb2 q0.lt
 have q1:=q1.below hb2 q1.lt
 have q2:=q2.below hb2 q2.lt
 have H1' : Hid (Qv w2.heap.size w2 g (.slice ua um uc) (.slice va vm vc) m n):=Lib.hid (H1.out.below b2 hK (by omega))
 have H2' : Hid (Qv w2.heap.size w2 h (.slice xa xm xc) (.slice ya ym yc) p q):=Lib.hid (H2.out.below b2 hK (by omega))
 clear HAV q3 H1 H2
 have hD0 : 0 < n * p.natAbs:=Nat.mul_pos H1'.out.q0 (by omega)
 have HD0:=Lib.hid hD0
 have HDN : Hid (((n : Int) * p).natAbs = n * p.natAbs):=Lib.hid (by rw [Int.natAbs_mul,Int.natAbs_natCast])
 have HDC : Hid (((n : Int) * p) = ((lowQ (m * q) (n * p.natAbs) : Nat) : Int) * ((Nat.gcd (m * q).natAbs (n * p.natAbs) : Nat) : Int)):=Lib.hid (by
  have := congrArg (fun k : Nat => (k : Int)) (lowQ_mul (m * q) (n * p.natAbs))
  have h2 : ((n : Int) * p) = ((n * p.natAbs : Nat) : Int):=by rw [Int.natCast_mul]; congr 1; omega
  rw [h2]
  rw [<- Int.natCast_mul]
  exact this)
 have hDE : ((n : Int) * p) = ((n * p.natAbs : Nat) : Int):=by rw [Int.natCast_mul]; congr 1; omega
 have HDP : Hid (0 < ((n : Int) * p)):=Lib.hid (by rw [hDE]; omega)
 have hYL : (m * q).natAbs < LB 201:=by rw [Int.natAbs_mul,Int.natAbs_natCast]; exact LB_lt (LB_mul hb1 hb4) (by decide)
 have HYL : Hid ((m * q).natAbs < LB 1000):=Lib.hid (LB_lt hYL (by decide))
 have hDL : n * p.natAbs < LB 201:=LB_lt (LB_mul hb2' hb3) (by decide)
 have HDL : Hid (((n : Int) * p).natAbs < LB 1000):=Lib.hid (by rw [HDN.out]; exact LB_lt hDL (by decide))
 have HPL : Hid ((lowP (m * q) (n * p.natAbs)).natAbs < LB 256):=Lib.hid (LB_lt (Nat.lt_of_le_of_lt (lowP_le _ hD0) hYL) (by decide))
 have HQL : Hid ((((lowQ (m * q) (n * p.natAbs) : Nat) : Int)).natAbs < LB 256):=Lib.hid (by rw [Int.natAbs_natCast]; exact LB_lt (Nat.lt_of_le_of_lt (lowQ_le _ _) hDL) (by decide))
 have hpz : (p == 0) = false:=by simp; omega
 have hz0:=ztzero_any w2.heap.size h false _ _ p q w2 H2'.out.n H2'.out.d
 rw [hpz] at hz0
 have HZ0:=Lib.hid hz0
 obtain ⟨d0,d1,d2,d3⟩:=q1.four
 clear hb1 hb2' hb3 hb4 hD0 hYL hDL hDE hz0 hpz hp0 hxm
 go_wp2_with fail
 refine HZ0.out.mono ?_
 rintro e wz ⟨rfl,hbz⟩
 have b2z : Below B w wz:=b2.trans (hbz.mono (by omega))
 have hsz:=hbz.size
 have H1z : Hid (Qv wz.heap.size wz g (.slice ua um uc) (.slice va vm vc) m n):=Lib.hid (H1'.out.below hbz (Nat.le_refl _) hsz)
 have H2z : Hid (Qv wz.heap.size wz h (.slice xa xm xc) (.slice ya ym yc) p q):=Lib.hid (H2'.out.below hbz (Nat.le_refl _) hsz)
 have q0z:=q0.below hbz q0.lt
 have q1z:=q1.below hbz q1.lt
 have q2z:=q2.below hbz q2.lt
 clear d0 d1 d2 d3 HZ0 H1' H2' q0 q1 q2 b2 hb2
 obtain ⟨w2',rfl⟩ : ∃ w2' : World,w2' = wz:=⟨_,rfl⟩
 have H1':=H1z
 have H2':=H2z
 have q0:=q0z
 have q1:=q1z
 have q2:=q2z
 have b2:=b2z
 clear H1z H2z q0z q1z q2z b2z
 go_upto_region 5 with fail
 refine region_plain (fun W' => Below w2'.heap.size w2' W') [14,15] (by kernel_rfl) ?_
 have qS : (fun W' => Below w2'.heap.size w2' W') w2'.drew:=below_quiet (Below.refl _ _)
 refine wpAnyD_tpX (i:=0) (v:=.pointer (some ⟨B,0,none⟩)) (some 16) rfl rfl qS ?_
 refine wpAnyD_tkX (i:=1) (v:=.agg #[.bool g,.slice ua um uc]) (some 17) rfl rfl (.inl ⟨by kernel_rfl,fun W' hS => by have d0:=(q0.below hS q0.lt).at (i:=0) rfl; have d1:=(q0.below hS q0.lt).at (i:=1) rfl; go_simp⟩) qS ?_
 refine wpAnyD_tpX (i:=2) (v:=.pointer (some ⟨B + 1,2,none⟩)) (some 18) rfl rfl qS ?_
 refine wpAnyD_tkX (i:=3) (v:=.agg #[.bool false,.slice ya ym yc]) (some 19) rfl rfl (.inl ⟨by kernel_rfl,fun W' hS => by have d0:=(q1.below hS q1.lt).at (i:=2) rfl; have d1:=(q1.below hS q1.lt).at (i:=3) rfl; go_simp⟩) qS ?_
 refine wpAnyD_tpX (i:=5) (v:=.pointer (some ⟨B,2,none⟩)) (some 21) rfl rfl qS ?_
 refine wpAnyD_tkX (i:=6) (v:=.agg #[.bool false,.slice va vm vc]) (some 22) rfl rfl (.inl ⟨by kernel_rfl,fun W' hS => by have d0:=(q0.below hS q0.lt).at (i:=2) rfl; have d1:=(q0.below hS q0.lt).at (i:=3) rfl; go_simp⟩) qS ?_
 refine wpAnyD_tpX (i:=7) (v:=.pointer (some ⟨B + 1,0,none⟩)) (some 23) rfl rfl qS ?_
 refine wpAnyD_tkX (i:=8) (v:=.agg #[.bool h,.slice xa xm xc]) (some 24) rfl rfl (.inl ⟨by kernel_rfl,fun W' hS => by have d0:=(q1.below hS q1.lt).at (i:=0) rfl; have d1:=(q1.below hS q1.lt).at (i:=1) rfl; go_simp⟩) qS ?_
 refine wpAnyD_on (i:=4) rfl ?_
 go_simp
 refine (ztimes_any w2'.heap.size _ _ _ _ _ _ _ (H1'.out.n.below qS (Nat.le_refl _) (Nat.le_refl _)) (H2'.out.d.below qS (Nat.le_refl _) (Nat.le_refl _)) (LB_lt H1'.out.pl (by decide)) (LB_lt H2'.out.ql (by decide)) qS.size).mono ?_
 rintro e w3 ⟨x3,rfl,hx3,hb3⟩
 obtain ⟨g3,p3,rfl,hp3,hn3⟩:=hx3
 obtain ⟨a3,m3,c3,rfl⟩:=hp3.form
 have qSw3 : Below w2'.heap.size w2' w3:=qS.trans (hb3.mono qS.size)
 go_simp
 refine wpAnyD_on (i:=9) rfl ?_
 go_simp
 refine (ztimes_any w2'.heap.size _ _ _ _ _ _ _ (H1'.out.d.below qSw3 (Nat.le_refl _) (Nat.le_refl _)) (H2'.out.n.below qSw3 (Nat.le_refl _) (Nat.le_refl _)) (LB_lt H1'.out.ql (by decide)) (LB_lt H2'.out.pl (by decide)) qSw3.size).mono ?_
 rintro e w6 ⟨x6,rfl,hx6,hb6⟩
 obtain ⟨g6,p6,rfl,hp6,hn6⟩:=hx6
 obtain ⟨a6,m6,c6,rfl⟩:=hp6.form
 obtain rfl:=hp6.pos (by have := HDP.out; omega)
 have qSw3w6 : Below w2'.heap.size w2' w6:=qSw3.trans (hb6.mono qSw3.size)
 go_simp
 refine wpAnyD_on (i:=10) rfl ?_
 go_simp
 have hlow:=zlowest_any w6.heap.size _ _ _ (m * q) ((n : Int) * p) (lowP (m * q) (n * p.natAbs)) (lowQ (m * q) (n * p.natAbs)) w6 (hp3.below hb6 (Nat.le_refl _) hb6.size) hp6 HDP.out (by rw [HDN.out]; exact lowP_mul _ _) (by rw [HDN.out]; exact HDC.out) HYL.out HDL.out (Nat.le_refl _)
 refine hlow.mono ?_
 rintro e w7 ⟨x7,rfl,hx7,hb7⟩
 obtain ⟨g7,r7,t7,rfl,hr7,ht7,hn1,hn2⟩:=hx7
 obtain ⟨ra,rm,rc,rfl⟩:=hr7.form
 obtain ⟨ta,tm,tc,rfl⟩:=ht7.form
 have qSw3w6w7 : Below w2'.heap.size w2' w7:=qSw3w6.trans (hb7.mono qSw3w6.size)
 go_simp
 refine wpAnyD_on (i:=11) rfl ?_
 go_simp
 refine (zresult_any w7.heap.size g7 _ _ _ _ _ hr7 ht7 HPL.out HQL.out).mono ?_
 rintro e w8 ⟨rfl,hb8⟩
 have qSw3w6w7w8 : Below w2'.heap.size w2' w8:=qSw3w6w7.trans (hb8.mono qSw3w6w7.size)
 go_simp
 refine wpAnyD_tpX (i:=12) (v:=.agg #[.bool g7,.slice ra rm rc,.bool false,.slice ta tm tc]) (some 28) rfl rfl qSw3w6w7w8 ?_
 refine wpAnyD_tpX (i:=13) (v:=.int .i64 0) (some 29) rfl rfl qSw3w6w7w8 ?_
 have q2s:=q2.below qSw3w6w7w8 q2.lt
 obtain ⟨e0,e1,e2,e3⟩:=q2s.four
 have f0:=q2s.free 0
 have f1:=q2s.free 1
 have f2:=q2s.free 2
 have f3:=q2s.free 3
 refine wpAnyD_on (i:=14) rfl ?_
 go_simp
 refine wpAnyD_on (i:=15) rfl ?_
 go_simp
 refine wpAnyD_done (by kernel_rfl) ?_ _
 go_wp2_with fail
 have q3s:=(((q2s.set (i:=0) (.bool g7)).set (i:=1) (.slice ra rm rc)).set (i:=2) (.bool false)).set (i:=3) (.slice ta tm tc)
 clear e0 e1 e2 e3
 obtain ⟨e0,e1,e2,e3⟩:=q3s.four
 refine bodyPost_ret (v:=.tuple #[Fg g7 (.slice ra rm rc) false (.slice ta tm tc),.int .i64 0]) (by simp [results,Tryz.results48,go_sem,e0,e1,e2,e3]) rfl ?_
 have hB6 : B + 2 < w6.heap.size:=by have := qSw3w6.size; omega
 have hr8:=hr7.below hb8 (Nat.le_refl _) hb8.size
 have ht8:=ht7.below hb8 (Nat.le_refl _) hb8.size
 have hr9:=(((hr8.set (r:=B + 2) (i:=0) (x:=.bool g7) hn1 hB6).set (r:=B + 2) (i:=1) (x:=.slice ra rm rc) hn1 hB6).set (r:=B + 2) (i:=2) (x:=.bool false) hn1 hB6).set (r:=B + 2) (i:=3) (x:=.slice ta tm tc) hn1 hB6
 have ht9:=(((ht8.set (r:=B + 2) (i:=0) (x:=.bool g7) hn2 hB6).set (r:=B + 2) (i:=1) (x:=.slice ra rm rc) hn2 hB6).set (r:=B + 2) (i:=2) (x:=.bool false) hn2 hB6).set (r:=B + 2) (i:=3) (x:=.slice ta tm tc) hn2 hB6
 have b8 : Below B w w8:=b2.trans (qSw3w6w7w8.mono (by omega))
 have hq9 : ∀ K',w8.heap.size <= K' -> Qv K' _ g7 (.slice ra rm rc) (.slice ta tm tc) _ _:=fun K' hK' => ⟨hr9.below (Below.refl w8.heap.size _) (Nat.le_refl _) hK',ht9.below (Below.refl w8.heap.size _) (Nat.le_refl _) hK',lowQ_pos _ HD0.out,low_cop _ HD0.out,HPL.out,by have := HQL.out; rwa [Int.natAbs_natCast] at this⟩
 exact ⟨_,rfl,⟨_,_,_,rfl,hq9 _ (by simp [World.setCell]),hn1.mono (by omega),hn2.mono (by omega)⟩,(((b8.setCell (p:=⟨B + 2,0,none⟩) (by simp) _).setCell (p:=⟨B + 2,1,none⟩) (by simp) _).setCell (p:=⟨B + 2,2,none⟩) (by simp) _).setCell (p:=⟨B + 2,3,none⟩) (by simp) _⟩
theorem cloneLN_any (K : Nat) (v : Value) (l : List Nat) (w : World) (h : Lm K w v l) (hK : K <= w.heap.size) (hl : l.length <= 2 ^ 40) :
  Calls Tryz.prog 45 #[v] w fun e w' => ∃ v',e = .returned v' /\ Lm w'.heap.size w' v' l /\ NewV w.heap.size v' /\ Below w.heap.size w w':=by
 have hq:=eql_nil_limbs
 have hd:=h.2
 obtain ⟨i0,hi,hz0,hz1,hz2⟩:=info_parts Tryz.infoU16
 obtain ⟨a,cap,rfl,hn,hm,hz,hc⟩:=h.1
 cases a with
 | none =>
  have h0 : l = []:=by
   cases l with
   | nil => rfl
   | cons d r => obtain ⟨b',o',h,_⟩:=hc 0 (by simp); cases h
  subst h0
  obtain rfl:=hz rfl
  go_enter Tryz.func45,Tryz.ntmps45
  go_wp2_with fail
  go_ret
  exact ⟨_,rfl,Lm.nil _ _,NewV.nil _ _ _,Below.refl _ _⟩
 | some ad =>
  go_enter Tryz.func45,Tryz.ntmps45
  go_wp2_with (at_builtin; refine wpList_append_own _ rfl _ _ 22 rfl w.heap.size 85 i0 (.int .u16 0) 1 2 Tryz.underlying22 hi hz0 hz1 hz2 rfl (by decide) _ _ _ rfl (World.ownsRow_made w #[] 0 (Nat.le_refl _) (Nat.zero_le _) rfl) ad l.length cap (l.map D16) rfl (by simp) ?qc2 (D16_one l) ?qc4 ?qc5 ?qc6 ?_)
  case qc2 =>
   intro j u hj
   have hjn : j < l.length:=(List.getElem?_eq_some_iff.1 hj).1
   obtain ⟨b,o,he,hbK,hcell⟩:=hc j hjn
   simp only [Option.some.injEq] at he
   subst he
   have h0:=hcell 0 (by omega)
   rw [hj] at h0
   rw [addr_add]
   refine (Below.cell ((Below.refl w.heap.size w).alloc (Nat.le_refl _) _) (p:=⟨b,o + j,none⟩) (by simp; omega)).trans ?_
   simpa using h0
  case qc4 => simp [maxLen]; omega
  case qc5 => omega
  intro v' w1 hown hgrow hnil
  have hb1 : Below w.heap.size w w1:=((Below.refl _ w).alloc (Nat.le_refl _) (.cells #[] 85)).grown hgrow (by simp) (by intro k hk; simp [Value.ownBlock] at hk; omega)
  go_wp2_with fail
  go_ret
  have hown' : w1.ownsRow w.heap.size 85 1 v' l.length (l.map D16):=by simpa using hown
  exact ⟨v',rfl,(lm_own hown' hd (F:=fun b => b < w1.heap.size) fun b hb => ownsRow_lt hown' hb).get fun b hb => hb,(fun b o m c e => (ownsRow_cells hown' (r:=b) (by rw [e]; rfl)).1),hb1⟩
theorem wfrom1_any (w : World) :
  Calls Tryz.prog 66 #[.int .i64 (1)] w fun e w' => ∃ x,e = .returned x /\ ZxN w.heap.size w'.heap.size w' x (1) /\ Below w.heap.size w w':=by
 obtain ⟨W1,hW1⟩ : ∃ W,(w.alloc (.cells #[.bool false,.slice none 0 0] 24)).alloc (.cells #[.int .u16 1,.int .u16 0,.int .u16 0,.int .u16 0] 117) = W:=⟨_,rfl⟩
 have b1 : Below w.heap.size w W1:=by rw [<- hW1]; exact ((Below.refl _ _).alloc (Nat.le_refl _) _).alloc (by simp) _
 have q1 : Blk W1 w.heap.size #[.bool false,.slice none 0 0] 24:=by rw [<- hW1]; exact (Blk.new w _ _).alloc _
 have q2 : Blk W1 (w.heap.size + 1) #[.int .u16 1,.int .u16 0,.int .u16 0,.int .u16 0] 117:=by
  rw [<- hW1]
  have := Blk.new (w.alloc (.cells #[.bool false,.slice none 0 0] 24)) #[.int .u16 1,.int .u16 0,.int .u16 0,.int .u16 0] 117
  rwa [World.size_alloc] at this
 have s1 : W1.heap.size = w.heap.size + 2:=by rw [<- hW1]; simp
 have hc:=cloneLN_any _ _ [1] _ (Blk.limbs1 (n:=1) q2 (by decide)) (Nat.le_refl _) (by simp)
 have HC:=Lib.hid hc
 have HW:=Lib.hid hW1
 clear hW1 hc q2
 go_enter Tryz.func66,Tryz.ntmps66
 go_wp2_with fail
 refine wp_loop_rounds 5 ?_
 rw [rounds_succ]
 go_wp2_with fail
 rw [rounds_succ]
 go_wp2_with fail
 rw [rounds_succ]
 go_wp2_with fail
 rw [rounds_succ]
 go_wp2_with fail
 rw [rounds_succ]
 go_wp2_with fail
 rw [HW.out]
 refine HC.out.mono ?_
 rintro e w2 ⟨v',rfl,hl,hn,hb2⟩
 obtain ⟨a,c,rfl,_⟩:=hl.form
 have hz : Zn w2.heap.size w2 false (.slice a 1 c) (1):=⟨⟨[1],hl,.inr (by decide),rfl⟩,rfl⟩
 have HZ:=Lib.hid hz
 have hs2:=hb2.size
 have q2:=q1.below hb2 (by omega)
 obtain ⟨d0,d1⟩:=q2.two
 have f0:=q2.free 0
 have f1:=q2.free 1
 clear hl hz HC
 go_wp2_with fail
 have q3:=(q2.set (i:=0) (.bool false)).set (i:=1) (.slice a 1 c)
 obtain ⟨e0,e1⟩:=q3.two
 refine bodyPost_ret (v:=.agg #[.bool false,.slice a 1 c]) (by simp [results,Tryz.results66,go_sem,e0,e1]) rfl ?_
 have hz2:=HZ.out.set2 (r:=w.heap.size) (x:=.bool false) (y:=.slice a 1 c) hn (by omega)
 exact ⟨_,rfl,.mk (hz2.below (Below.refl w2.heap.size _) (Nat.le_refl _) (by simp [World.setCell])) (hn.mono (by omega)),zbelow_set2 (b1.trans (hb2.mono (by omega))) (Nat.le_refl _) _ _⟩
theorem wfrom2_any (w : World) :
  Calls Tryz.prog 66 #[.int .i64 (2)] w fun e w' => ∃ x,e = .returned x /\ ZxN w.heap.size w'.heap.size w' x (2) /\ Below w.heap.size w w':=by
 obtain ⟨W1,hW1⟩ : ∃ W,(w.alloc (.cells #[.bool false,.slice none 0 0] 24)).alloc (.cells #[.int .u16 2,.int .u16 0,.int .u16 0,.int .u16 0] 117) = W:=⟨_,rfl⟩
 have b1 : Below w.heap.size w W1:=by rw [<- hW1]; exact ((Below.refl _ _).alloc (Nat.le_refl _) _).alloc (by simp) _
 have q1 : Blk W1 w.heap.size #[.bool false,.slice none 0 0] 24:=by rw [<- hW1]; exact (Blk.new w _ _).alloc _
 have q2 : Blk W1 (w.heap.size + 1) #[.int .u16 2,.int .u16 0,.int .u16 0,.int .u16 0] 117:=by
  rw [<- hW1]
  have := Blk.new (w.alloc (.cells #[.bool false,.slice none 0 0] 24)) #[.int .u16 2,.int .u16 0,.int .u16 0,.int .u16 0] 117
  rwa [World.size_alloc] at this
 have s1 : W1.heap.size = w.heap.size + 2:=by rw [<- hW1]; simp
 have hc:=cloneLN_any _ _ [2] _ (Blk.limbs1 (n:=2) q2 (by decide)) (Nat.le_refl _) (by simp)
 have HC:=Lib.hid hc
 have HW:=Lib.hid hW1
 clear hW1 hc q2
 go_enter Tryz.func66,Tryz.ntmps66
 go_wp2_with fail
 refine wp_loop_rounds 5 ?_
 rw [rounds_succ]
 go_wp2_with fail
 rw [rounds_succ]
 go_wp2_with fail
 rw [rounds_succ]
 go_wp2_with fail
 rw [rounds_succ]
 go_wp2_with fail
 rw [rounds_succ]
 go_wp2_with fail
 rw [HW.out]
 refine HC.out.mono ?_
 rintro e w2 ⟨v',rfl,hl,hn,hb2⟩
 obtain ⟨a,c,rfl,_⟩:=hl.form
 have hz : Zn w2.heap.size w2 false (.slice a 1 c) (2):=⟨⟨[2],hl,.inr (by decide),rfl⟩,rfl⟩
 have HZ:=Lib.hid hz
 have hs2:=hb2.size
 have q2:=q1.below hb2 (by omega)
 obtain ⟨d0,d1⟩:=q2.two
 have f0:=q2.free 0
 have f1:=q2.free 1
 clear hl hz HC
 go_wp2_with fail
 have q3:=(q2.set (i:=0) (.bool false)).set (i:=1) (.slice a 1 c)
 obtain ⟨e0,e1⟩:=q3.two
 refine bodyPost_ret (v:=.agg #[.bool false,.slice a 1 c]) (by simp [results,Tryz.results66,go_sem,e0,e1]) rfl ?_
 have hz2:=HZ.out.set2 (r:=w.heap.size) (x:=.bool false) (y:=.slice a 1 c) hn (by omega)
 exact ⟨_,rfl,.mk (hz2.below (Below.refl w2.heap.size _) (Nat.le_refl _) (by simp [World.setCell])) (hn.mono (by omega)),zbelow_set2 (b1.trans (hb2.mono (by omega))) (Nat.le_refl _) _ _⟩
theorem wfromM_any (w : World) :
  Calls Tryz.prog 66 #[.int .i64 (-1)] w fun e w' => ∃ x,e = .returned x /\ ZxN w.heap.size w'.heap.size w' x (-1) /\ Below w.heap.size w w':=by
 obtain ⟨W1,hW1⟩ : ∃ W,(w.alloc (.cells #[.bool false,.slice none 0 0] 24)).alloc (.cells #[.int .u16 1,.int .u16 0,.int .u16 0,.int .u16 0] 117) = W:=⟨_,rfl⟩
 have b1 : Below w.heap.size w W1:=by rw [<- hW1]; exact ((Below.refl _ _).alloc (Nat.le_refl _) _).alloc (by simp) _
 have q1 : Blk W1 w.heap.size #[.bool false,.slice none 0 0] 24:=by rw [<- hW1]; exact (Blk.new w _ _).alloc _
 have q2 : Blk W1 (w.heap.size + 1) #[.int .u16 1,.int .u16 0,.int .u16 0,.int .u16 0] 117:=by
  rw [<- hW1]
  have := Blk.new (w.alloc (.cells #[.bool false,.slice none 0 0] 24)) #[.int .u16 1,.int .u16 0,.int .u16 0,.int .u16 0] 117
  rwa [World.size_alloc] at this
 have s1 : W1.heap.size = w.heap.size + 2:=by rw [<- hW1]; simp
 have hc:=cloneLN_any _ _ [1] _ (Blk.limbs1 (n:=1) q2 (by decide)) (Nat.le_refl _) (by simp)
 have HC:=Lib.hid hc
 have HW:=Lib.hid hW1
 clear hW1 hc q2
 have hneg : IntKind.u64.wrap (-IntKind.u64.wrap (-1)) = 1:=by decide
 go_enter Tryz.func66,Tryz.ntmps66
 go_wp2_with fail
 refine wp_loop_rounds 5 ?_
 rw [rounds_succ]
 go_wp2_with fail
 rw [rounds_succ]
 go_wp2_with fail
 rw [rounds_succ]
 go_wp2_with fail
 rw [rounds_succ]
 go_wp2_with fail
 rw [rounds_succ]
 go_wp2_with fail
 rw [HW.out]
 refine HC.out.mono ?_
 rintro e w2 ⟨v',rfl,hl,hn,hb2⟩
 obtain ⟨a,c,rfl,_⟩:=hl.form
 have hz : Zn w2.heap.size w2 true (.slice a 1 c) (-1):=⟨⟨[1],hl,.inr (by decide),rfl⟩,rfl⟩
 have HZ:=Lib.hid hz
 have hs2:=hb2.size
 have q2:=q1.below hb2 (by omega)
 obtain ⟨d0,d1⟩:=q2.two
 have f0:=q2.free 0
 have f1:=q2.free 1
 clear hl hz HC
 go_wp2_with fail
 have q3:=(q2.set (i:=0) (.bool true)).set (i:=1) (.slice a 1 c)
 obtain ⟨e0,e1⟩:=q3.two
 refine bodyPost_ret (v:=.agg #[.bool true,.slice a 1 c]) (by simp [results,Tryz.results66,go_sem,e0,e1]) rfl ?_
 have hz2:=HZ.out.set2 (r:=w.heap.size) (x:=.bool true) (y:=.slice a 1 c) hn (by omega)
 exact ⟨_,rfl,.mk (hz2.below (Below.refl w2.heap.size _) (Nat.le_refl _) (by simp [World.setCell])) (hn.mono (by omega)),zbelow_set2 (b1.trans (hb2.mono (by omega))) (Nat.le_refl _) _ _⟩
theorem zfromint_any (n : Int) (w : World) (hc : ∀ W,Calls Tryz.prog 66 #[.int .i64 n] W fun e w' => ∃ x,e = .returned x /\ ZxN W.heap.size w'.heap.size w' x n /\ Below W.heap.size W w') (hn : n.natAbs < LB 256) :
  Calls Tryz.prog 47 #[.int .i64 n] w fun e w' => ∃ x,e = .returned x /\ QxN w.heap.size w'.heap.size w' x n 1 /\ Below w.heap.size w w':=by
 obtain ⟨W1,hW1⟩ : ∃ W1,w.alloc (.cells #[.bool false,.slice none 0 0,.bool false,.slice none 0 0] 26) = W1:=⟨_,rfl⟩
 have b1 : Below w.heap.size w W1:=by rw [<- hW1]; exact (Below.refl _ _).alloc (Nat.le_refl _) _
 have q1 : Blk W1 w.heap.size #[.bool false,.slice none 0 0,.bool false,.slice none 0 0] 26:=by rw [<- hW1]; exact Blk.new w _ _
 have s1 : W1.heap.size = w.heap.size + 1:=by rw [<- hW1]; simp
 obtain ⟨B,hB⟩ : ∃ B,w.heap.size = B:=⟨_,rfl⟩
 have HB:=Lib.hid hB
 have HW:=Lib.hid hW1
 have HC:=Lib.hid hc
 have HC2:=Lib.hid wfrom1_any
 have HN:=Lib.hid hn
 rw [hB] at b1 q1 s1 ⊢
 clear hB hW1 hn hc
 go_enter Tryz.func47,Tryz.ntmps47
 go_wp2_with fail
 simp only [HB.out]
 rw [HW.out]
 refine (HC.out W1).mono ?_
 rintro e w2 ⟨x,rfl,hx,hb2⟩
 obtain ⟨g,u,rfl,hu,hnu⟩:=hx
 obtain ⟨a,m,c,rfl⟩:=hu.form
 have HU:=Lib.hid hu
 have hs2:=hb2.size
 have q2:=q1.below hb2 (by omega)
 have hc3:=HC2.out w2
 have HC3:=Lib.hid hc3
 clear HC HC2 hc3 hu
 go_wp2_with fail
 refine HC3.out.mono ?_
 rintro e w3 ⟨x,rfl,hx,hb3⟩
 obtain ⟨g3,u3,rfl,hu3,hnu3⟩:=hx
 obtain rfl:=hu3.pos (by decide)
 obtain ⟨a3,m3,c3,rfl⟩:=hu3.form
 have HU2:=Lib.hid (HU.out.below hb3 (Nat.le_refl _) hb3.size)
 have HU3:=Lib.hid hu3
 have hs3:=hb3.size
 have q3:=q2.below hb3 (by omega)
 obtain ⟨d0,d1,d2,d3⟩:=q3.four
 have f0:=q3.free 0
 have f1:=q3.free 1
 have f2:=q3.free 2
 have f3:=q3.free 3
 clear HC3 hu3 HU
 go_wp2_with fail
 have q4:=(((q3.set (i:=0) (.bool g)).set (i:=1) (.slice a m c)).set (i:=2) (.bool false)).set (i:=3) (.slice a3 m3 c3)
 obtain ⟨e0,e1,e2,e3⟩:=q4.four
 refine bodyPost_ret (v:=Fg g (.slice a m c) false (.slice a3 m3 c3)) (by simp [results,Tryz.results47,go_sem,e0,e1,e2,e3]) rfl ?_
 have hr9:=(((HU2.out.set (r:=B) (i:=0) (x:=.bool g) hnu (by omega)).set (r:=B) (i:=1) (x:=.slice a m c) hnu (by omega)).set (r:=B) (i:=2) (x:=.bool false) hnu (by omega)).set (r:=B) (i:=3) (x:=.slice a3 m3 c3) hnu (by omega)
 have ht9:=(((HU3.out.set (r:=B) (i:=0) (x:=.bool g) hnu3 (by omega)).set (r:=B) (i:=1) (x:=.slice a m c) hnu3 (by omega)).set (r:=B) (i:=2) (x:=.bool false) hnu3 (by omega)).set (r:=B) (i:=3) (x:=.slice a3 m3 c3) hnu3 (by omega)
 have b8 : Below B w w3:=(b1.trans (hb2.mono (by omega))).trans (hb3.mono (by omega))
 have hq9 : ∀ K',w3.heap.size <= K' -> Qv K' _ g (.slice a m c) (.slice a3 m3 c3) n 1:=fun K' hK' => ⟨hr9.below (Below.refl w3.heap.size _) (Nat.le_refl _) hK',ht9.below (Below.refl w3.heap.size _) (Nat.le_refl _) hK',by decide,Nat.gcd_one_right _,HN.out,LB_lt (show (1 : Nat) < LB 1 by decide) (by decide)⟩
 exact ⟨_,rfl,⟨_,_,_,rfl,hq9 _ (by simp [World.setCell]),hnu.mono (by omega),hnu3.mono (by omega)⟩,(((b8.setCell (p:=⟨B,0,none⟩) (by simp) _).setCell (p:=⟨B,1,none⟩) (by simp) _).setCell (p:=⟨B,2,none⟩) (by simp) _).setCell (p:=⟨B,3,none⟩) (by simp) _⟩
end Go.Proofs.YtlldjmagbjjeoaaGreat
