/- Contracts and plain laws, several texts in one (NZ3, GTime2). No conditions beyond those stated. -/
import Derived.Test.YtlldjmagbjjeoaaGreatPk16
set_option maxRecDepth 100000
set_option maxHeartbeats 40000000
namespace Go.Proofs.YtlldjmagbjjeoaaGreat
open Go.RowKit
set_option linter.unusedVariables false
abbrev Fg (g : Bool) (u : Value) (h : Bool) (v : Value) : Value:=.agg #[.bool g,u,.bool h,v]
theorem isoneL_any (K : Nat) (g : Bool) (v : Value) (l : List Nat) (w : World) (h : Lm K w v l) (hK : K <= w.heap.size) : Calls Tryz.prog 85 #[.agg #[.bool g,v]] w fun e w' => e = .returned (.bool (!g && l == [1])) /\ Below w.heap.size w w':=by
 cases g with
 | true =>
  obtain ⟨a,c,rfl,_⟩:=h.form
  go_enter Tryz.func85,Tryz.ntmps85
  go_wp2_with fail
  go_ret
  exact ⟨rfl,(Below.refl _ w).alloc (Nat.le_refl _) _⟩
 | false =>
  match l,h with
  | [],h =>
   obtain ⟨a,c,rfl,_⟩:=h.form
   show Calls Tryz.prog 85 #[.agg #[.bool false,.slice a 0 c]] w _
   go_enter Tryz.func85,Tryz.ntmps85
   go_wp2_with fail
   go_ret
   exact ⟨rfl,(Below.refl _ w).alloc (Nat.le_refl _) _⟩
  | [x],h =>
   obtain ⟨b,o,c,rfl,h1,hc,hb,h5⟩:=h.pos (by simp)
   have e0 : w.cell? ⟨b,o,none⟩ = some (.int .u16 (x : Int)):=h5 0 (by simp)
   have hlt : b < w.heap.size:=by omega
   have hne : ¬ b = w.heap.size:=by omega
   show Calls Tryz.prog 85 #[.agg #[.bool false,.slice (some ⟨b,o,none⟩) 1 c]] w _
   clear h h5 h1
   by_cases hx : x = 1
   ·subst hx
    go_enter Tryz.func85,Tryz.ntmps85
    go_wp2_with fail
    go_ret
    exact ⟨rfl,(Below.refl _ w).alloc (Nat.le_refl _) _⟩
   ·have hx1 : ((x : Int) == 1) = false:=by simp; omega
    have hr : (!false && [x] == [1]) = false:=by simp; omega
    rw [hr]
    clear hr
    go_enter Tryz.func85,Tryz.ntmps85
    go_wp2_with fail
    go_ret
    exact ⟨rfl,(Below.refl _ w).alloc (Nat.le_refl _) _⟩
  | x :: y :: r,h =>
   obtain ⟨a,c,rfl,_⟩:=h.form
   have hr : (!false && (x :: y :: r) == [1]) = false:=by simp
   rw [hr]
   obtain ⟨n,hn⟩ : ∃ n,(x :: y :: r).length = n:=⟨_,rfl⟩
   have hn2 : 2 <= n:=by rw [<- hn]; simp
   rw [hn]
   have hx1 : ((n : Int) == 1) = false:=by simp; omega
   clear h hr hn
   go_enter Tryz.func85,Tryz.ntmps85
   go_wp2_with fail
   go_ret
   exact ⟨rfl,(Below.refl _ w).alloc (Nat.le_refl _) _⟩
theorem is_one_list {l : List Nat} (h1 : ∀ d ∈ l,d < 65536) (h2 : Tight l) : (l == [1]) = (lval l == 1):=by
 rw [Bool.eq_iff_iff,beq_iff_eq,beq_iff_eq]
 constructor
 ·intro h; rw [h]; rfl
 ·intro h
  have := (ln_len (k:=1) h1 h2).2 (by rw [h]; decide)
  match l,this with
  | [],_ => simp [lval] at h
  | [d],_ => rw [lval_one] at h; rw [h]
theorem Lm.zn {K m : Nat} {g : Bool} {w : World} {v : Value} {l : List Nat} (h : Lm K w v l) (ho : wOk m g l = true) : Zn K w g v (sgz g (lval l)):=by
 obtain ⟨h1,h2,h3⟩:=wOk_tight ho
 refine ⟨by rw [sgz_abs]; exact ⟨l,h,h1,rfl⟩,?_⟩
 unfold sgz
 cases g with
 | false => simp
 | true =>
  have : lval l ≠ 0:=fun e => by
   have h4:=(ln_len (k:=0) h.2 h1).2 (by rw [e]; decide)
   exact absurd (h3 (by omega)) (by decide)
  simp; omega
theorem flongL_any (g1 g2 : Bool) (n1 n2 c1 c2 : Nat) (a1 a2 : Option Addr) (w : World) : Calls Tryz.prog 82 #[Fg g1 (.slice a1 n1 c1) g2 (.slice a2 n2 c2)] w fun e w' => e = .returned (.bool (decide (256 < n1) || decide (256 < n2))) /\ Below w.heap.size w w':=by
 by_cases h1 : 256 < n1
 ·have e1 : decide ((256 : Int) < (n1 : Int)) = true:=by simp; omega
  have e2 : decide (256 < n1) = true:=by simp; omega
  rw [e2]
  go_enter Tryz.func82,Tryz.ntmps82
  go_wp2_with fail
  go_ret
  exact ⟨rfl,(Below.refl _ w).alloc (Nat.le_refl _) _⟩
 ·have e1 : decide ((256 : Int) < (n1 : Int)) = false:=by simp; omega
  have e2 : decide (256 < n1) = false:=by simp; omega
  rw [e2]
  by_cases h2 : 256 < n2
  ·have e3 : decide ((256 : Int) < (n2 : Int)) = true:=by simp; omega
   have e4 : decide (256 < n2) = true:=by simp; omega
   rw [e4]
   go_enter Tryz.func82,Tryz.ntmps82
   go_wp2_with fail
   go_ret
   exact ⟨rfl,(Below.refl _ w).alloc (Nat.le_refl _) _⟩
  ·have e3 : decide ((256 : Int) < (n2 : Int)) = false:=by simp; omega
   have e4 : decide (256 < n2) = false:=by simp; omega
   rw [e4]
   go_enter Tryz.func82,Tryz.ntmps82
   go_wp2_with fail
   go_ret
   exact ⟨rfl,(Below.refl _ w).alloc (Nat.le_refl _) _⟩
theorem fintegralL_any (K : Nat) (g1 g2 : Bool) (u v : Value) (l : List Nat) (w : World) (hu : u.oneCell' = true) (hv : Lm K w v l) (hK : K <= w.heap.size) : Calls Tryz.prog 84 #[Fg g1 u g2 v] w fun e w' => e = .returned (.bool (!g2 && l == [1])) /\ Below w.heap.size w w':=by
 have b1 : Below w.heap.size w (w.alloc (.cells #[.bool g1,u,.bool g2,v] 101)):=(Below.refl _ _).alloc (Nat.le_refl _) _
 have hc:=isoneL_any w.heap.size g2 v l _ (hv.below b1 hK hK) (by simp)
 obtain ⟨va,vc,rfl,_⟩:=hv.form
 obtain ⟨r,hr⟩ : ∃ r,(!g2 && l == [1]) = r:=⟨_,rfl⟩
 rw [hr] at hc ⊢
 obtain ⟨n,hn⟩ : ∃ n,l.length = n:=⟨_,rfl⟩
 rw [hn] at hc b1 ⊢
 clear hr hv hn
 cases u <;> simp [Value.oneCell'] at hu
 all_goals
  go_enter Tryz.func84,Tryz.ntmps84
  go_wp2_with fail
  refine hc.mono ?_
  rintro e w2 ⟨rfl,hb2⟩
  go_wp2_with fail
  go_ret
  exact ⟨rfl,b1.trans (hb2.mono (by simp))⟩
theorem frOk_eq (g1 : Bool) (l1 : List Nat) (g2 : Bool) (l2 : List Nat) : frOk g1 l1 g2 l2 = (!(decide (256 < l1.length) || decide (256 < l2.length)) && wOk 1024 g1 l1 && wOk 1024 g2 l2 && !g2 && l2.length != 0 && Nat.gcd (lval l1) (lval l2) == 1):=by
 unfold frOk
 have h1 : decide (l1.length <= 256) = !decide (256 < l1.length):=by rw [<- decide_not]; congr 1; simp
 have h2 : decide (l2.length <= 256) = !decide (256 < l2.length):=by rw [<- decide_not]; congr 1; simp
 rw [h1,h2,Bool.not_or]
theorem fvalidL_any (K : Nat) (g1 g2 : Bool) (u v : Value) (l1 l2 : List Nat) (w : World) (hu : Lm K w u l1) (hv : Lm K w v l2) (hK : K <= w.heap.size) :
  Calls Tryz.prog 68 #[Fg g1 u g2 v] w fun e w' => e = .returned (.bool (frOk g1 l1 g2 l2)) /\ Below w.heap.size w w':=by
 obtain ⟨ua,uc,rfl,_⟩:=hu.form
 obtain ⟨va,vc,rfl,_⟩:=hv.form
 obtain ⟨r,hr⟩ : ∃ r,frOk g1 l1 g2 l2 = r:=⟨_,rfl⟩
 rw [hr]
 rw [frOk_eq] at hr
 obtain ⟨um,hum⟩ : ∃ n,l1.length = n:=⟨_,rfl⟩
 obtain ⟨vm,hvm⟩ : ∃ n,l2.length = n:=⟨_,rfl⟩
 have hlv : ∀ W,Calls Tryz.prog 82 #[Fg g1 (.slice ua um uc) g2 (.slice va vm vc)] W fun e w' => e = .returned (.bool (decide (256 < um) || decide (256 < vm))) /\ Below W.heap.size W w':=fun W => flongL_any g1 g2 um vm uc vc ua va W
 rw [hum,hvm] at hr
 rw [hum] at hu ⊢
 rw [hvm] at hv ⊢
 obtain ⟨W1,hW1⟩ : ∃ W1,w.alloc (.cells #[.bool g1,.slice ua um uc,.bool g2,.slice va vm vc] 101) = W1:=⟨_,rfl⟩
 have q1 : Blk W1 w.heap.size #[.bool g1,.slice ua um uc,.bool g2,.slice va vm vc] 101:=by rw [<- hW1]; exact Blk.new w _ _
 have b1 : Below w.heap.size w W1:=by rw [<- hW1]; exact (Below.refl _ _).alloc (Nat.le_refl _) _
 have s1 : W1.heap.size = w.heap.size + 1:=by rw [<- hW1]; simp
 obtain ⟨B,hB⟩ : ∃ B,w.heap.size = B:=⟨_,rfl⟩
 have HB:=Lib.hid hB
 have HW:=Lib.hid hW1
 rw [hB] at hK b1 q1 s1 ⊢
 obtain ⟨bl,hbl⟩ : ∃ b,(decide (256 < um) || decide (256 < vm)) = b:=⟨_,rfl⟩
 obtain ⟨bu,hbu⟩ : ∃ b,wOk 1024 g1 l1 = b:=⟨_,rfl⟩
 obtain ⟨bv',hbv⟩ : ∃ b,wOk 1024 g2 l2 = b:=⟨_,rfl⟩
 rw [hbl] at hlv hr
 rw [hbu,hbv] at hr
 have HU:=Lib.hid hu
 have HV:=Lib.hid hv
 have HLV:=Lib.hid hlv
 have HBU:=Lib.hid hbu
 have HBV:=Lib.hid hbv
 have HBL:=Lib.hid hbl
 have HUM:=Lib.hid hum
 have HVM:=Lib.hid hvm
 have HR0:=Lib.hid hr
 clear hB hW1 hu hv hlv hbu hbv hbl hum hvm hr
 obtain ⟨c0,c1,c2,c3⟩:=q1.four
 go_enter Tryz.func68,Tryz.ntmps68
 go_upto_region 1 with fail
 simp only [HB.out]
 rw [HW.out]
 go_wp2_with fail
 refine (HLV.out _).mono ?_
 rintro e w2 ⟨rfl,hb2⟩
 clear c0 c1 c2 c3 HLV
 have b2 : Below B w w2:=b1.trans (hb2.mono (by omega))
 have hs2:=hb2.size
 have q2:=q1.below hb2 q1.lt
 obtain ⟨c0,c1,c2,c3⟩:=q2.four
 cases bl with
 | true =>
  have HR : Hid (r = false):=Lib.hid (by rw [<- HR0.out]; rfl)
  go_wp2_with fail
  go_ret
  exact ⟨by rw [HR.out]; rfl,b2⟩
 | false =>
  have hc:=wvalidL_any B g1 _ l1 w2 (HU.out.below b2 hK hK) (by omega)
  rw [HBU.out] at hc
  have HC:=Lib.hid hc
  clear hc
  go_wp2_with fail
  refine HC.out.mono ?_
  rintro e w3 ⟨rfl,hb3⟩
  clear c0 c1 c2 c3 HC
  have b3 : Below B w w3:=b2.trans (hb3.mono (by omega))
  have hs3:=hb3.size
  have q3:=q2.below hb3 q2.lt
  obtain ⟨c0,c1,c2,c3⟩:=q3.four
  cases bu with
  | false =>
   have HR : Hid (r = false):=Lib.hid (by rw [<- HR0.out]; rfl)
   go_wp2_with fail
   go_ret
   exact ⟨by rw [HR.out]; rfl,b3⟩
  | true =>
   have hc:=wvalidL_any B g2 _ l2 w3 (HV.out.below b3 hK hK) (by omega)
   rw [HBV.out] at hc
   have HC:=Lib.hid hc
   clear hc
   go_wp2_with fail
   refine HC.out.mono ?_
   rintro e w4 ⟨rfl,hb4⟩
   clear c0 c1 c2 c3 HC
   have b4 : Below B w w4:=b3.trans (hb4.mono (by omega))
   have hs4:=hb4.size
   have q4:=q3.below hb4 q3.lt
   obtain ⟨c0,c1,c2,c3⟩:=q4.four
   cases bv' with
   | false =>
    have HR : Hid (r = false):=Lib.hid (by rw [<- HR0.out]; rfl)
    go_wp2_with fail
    go_ret
    exact ⟨by rw [HR.out]; rfl,b4⟩
   | true =>
    cases g2 with
    | true =>
     have HR : Hid (r = false):=Lib.hid (by rw [<- HR0.out]; rfl)
     go_wp2_with fail
     go_ret
     exact ⟨by rw [HR.out]; rfl,b4⟩
    | false =>
     by_cases hv0 : vm = 0
     ·subst hv0
      have HR : Hid (r = false):=Lib.hid (by rw [<- HR0.out]; rfl)
      go_wp2_with fail
      go_ret
      exact ⟨by rw [HR.out]; rfl,b4⟩
     ·have hvm0 : ((vm : Int) == 0) = false:=by simp; omega
      have HR : Hid (r = (Nat.gcd (lval l1) (lval l2) == 1)):=Lib.hid (by rw [<- HR0.out]; simp [hv0])
      have hi:=fintegralL_any B g1 false (.slice ua um uc) _ l2 w4 rfl (HV.out.below b4 hK hK) (by omega)
      rw [Bool.not_false,Bool.true_and] at hi
      have HI:=Lib.hid hi
      have hzu:=(HU.out.zn (HBU.out)).below b4 hK (show K <= B from hK)
      have hzv:=(HV.out.zn (HBV.out)).below b4 hK (show K <= B from hK)
      have HZU:=Lib.hid hzu
      have HZV:=Lib.hid hzv
      have hll : ∀ l : List Nat,l.length <= 256 -> (∀ d ∈ l,d < 65536) -> Tight l -> lval l < LB 1000:=fun l h1 h2 h3 => LB_lt ((ln_len h2 h3).1 h1) (by decide)
      have hle : um <= 256 /\ vm <= 256:=by have := HBL.out; simp at this; omega
      have h1000 : lval l1 < LB 1000:=hll l1 (by rw [HUM.out]; exact hle.1) HU.out.2 (wOk_tight HBU.out).1
      have h1001 : lval l2 < LB 1000:=hll l2 (by rw [HVM.out]; exact hle.2) HV.out.2 (wOk_tight HBV.out).1
      have H1000:=Lib.hid h1000
      have H1001:=Lib.hid h1001
      obtain ⟨one,hone⟩ : ∃ b,(l2 == [1]) = b:=⟨_,rfl⟩
      rw [hone] at HI
      have HONE:=Lib.hid hone
      clear hi hzu hzv hll hle h1000 h1001 hone hv0
      go_wp2_with fail
      refine HI.out.mono ?_
      rintro e w5 ⟨rfl,hb5⟩
      clear c0 c1 c2 c3 HI
      have b5 : Below B w w5:=b4.trans (hb5.mono (by omega))
      have hs5:=hb5.size
      have q5:=q4.below hb5 q4.lt
      obtain ⟨c0,c1,c2,c3⟩:=q5.four
      cases one with
      | true =>
       have HR' : Hid (r = true):=Lib.hid (by
        have : l2 = [1]:=by simpa using HONE.out
        rw [HR.out,this,lval_one,Nat.gcd_one_right]; rfl)
       go_wp2_with fail
       go_ret
       exact ⟨by rw [HR'.out]; rfl,b5⟩
      | false =>
       have hd:=zdivisor_any B g1 false _ _ _ _ w5 (HZU.out.below hb5 (by omega) (Nat.le_refl _)) (HZV.out.below hb5 (by omega) (Nat.le_refl _)) (by rw [sgz_abs]; exact H1000.out) (by rw [sgz_abs]; exact H1001.out) (by omega)
       rw [sgz_abs,sgz_abs] at hd
       have HD:=Lib.hid hd
       clear hd
       go_wp2_with fail
       refine HD.out.mono ?_
       rintro e w6 ⟨x,rfl,hx,hb6⟩
       obtain ⟨gx,gu,rfl,hgx,_⟩:=hx
       obtain rfl:=hgx.pos (by omega)
       obtain ⟨lg,hlg,tlg,hvg⟩:=hgx.ln
       have ho:=isoneL_any w6.heap.size false gu lg w6 hlg (Nat.le_refl _)
       rw [Bool.not_false,Bool.true_and,is_one_list hlg.2 tlg,hvg,Int.natAbs_natCast,<- HR.out] at ho
       obtain ⟨xa,xm,xc,rfl⟩:=hgx.form
       have HO:=Lib.hid ho
       have hs6:=hb6.size
       clear HD hgx hlg tlg hvg ho
       go_wp2_with fail
       refine HO.out.mono ?_
       rintro e w7 ⟨rfl,hb7⟩
       go_wp2_with fail
       go_ret
       exact ⟨rfl,b5.trans ((hb6.mono (by omega)).trans (hb7.mono (by omega)))⟩
theorem fValidL_any (K : Nat) (g1 g2 : Bool) (u v : Value) (l1 l2 : List Nat) (w : World) (hu : Lm K w u l1) (hv : Lm K w v l2) (hK : K <= w.heap.size) :
  Calls Tryz.prog 49 #[Fg g1 u g2 v] w fun e w' => e = .returned (.bool (frOk g1 l1 g2 l2)) /\ Below w.heap.size w w':=by
 have b1 : Below w.heap.size w (w.alloc (.cells #[.bool g1,u,.bool g2,v] 26)):=(Below.refl _ _).alloc (Nat.le_refl _) _
 have hc:=fvalidL_any w.heap.size g1 g2 u v l1 l2 _ (hu.below b1 hK hK) (hv.below b1 hK hK) (by simp)
 obtain ⟨ua,uc,rfl,_⟩:=hu.form
 obtain ⟨va,vc,rfl,_⟩:=hv.form
 obtain ⟨um,hum⟩ : ∃ n,l1.length = n:=⟨_,rfl⟩
 obtain ⟨vm,hvm⟩ : ∃ n,l2.length = n:=⟨_,rfl⟩
 obtain ⟨r,hr⟩ : ∃ r,frOk g1 l1 g2 l2 = r:=⟨_,rfl⟩
 rw [hr,hum,hvm] at hc
 rw [hum,hvm] at b1
 rw [hr,hum,hvm]
 clear hum hvm hu hv hr
 go_enter Tryz.func49,Tryz.ntmps49
 go_wp2_with fail
 refine hc.mono ?_
 rintro e w2 ⟨rfl,hb2⟩
 go_wp2_with fail
 go_ret
 exact ⟨rfl,b1.trans (hb2.mono (by simp))⟩
structure Qv (K : Nat) (w : World) (g : Bool) (u v : Value) (p : Int) (q : Nat) : Prop where
 n : Zn K w g u p
 d : Zn K w false v (q : Int)
 q0 : 0 < q
 cop : Nat.gcd p.natAbs q = 1
 pl : p.natAbs < LB 256
 ql : q < LB 256
theorem Qv.below {K K' B : Nat} {w w' : World} {g : Bool} {u v : Value} {p : Int} {q : Nat} (h : Qv K w g u v p q) (hb : Below B w w') (hB : K <= B) (hK : K <= K') : Qv K' w' g u v p q:=⟨h.n.below hb hB hK,h.d.below hb hB hK,h.q0,h.cop,h.pl,h.ql⟩
theorem frOk_parts {g1 : Bool} {l1 : List Nat} {g2 : Bool} {l2 : List Nat} (h : frOk g1 l1 g2 l2 = true) : l1.length <= 256 /\ l2.length <= 256 /\ wOk 1024 g1 l1 = true /\ wOk 1024 g2 l2 = true /\ g2 = false /\ l2.length ≠ 0 /\ Nat.gcd (lval l1) (lval l2) = 1:=by
 unfold frOk at h
 simp only [Bool.and_eq_true,decide_eq_true_eq,beq_iff_eq,bne_iff_ne,ne_eq,Bool.not_eq_true'] at h
 obtain ⟨⟨⟨⟨⟨⟨h1,h2⟩,h3⟩,h4⟩,h5⟩,h6⟩,h7⟩:=h
 exact ⟨h1,h2,h3,h4,h5,h6,h7⟩
theorem Lm.qv {K : Nat} {g1 g2 : Bool} {w : World} {u v : Value} {l1 l2 : List Nat} (hu : Lm K w u l1) (hv : Lm K w v l2) (h : frOk g1 l1 g2 l2 = true) : g2 = false /\ Qv K w g1 u v (sgz g1 (lval l1)) (lval l2):=by
 obtain ⟨h1,h2,h3,h4,h5,h6,h7⟩:=frOk_parts h
 subst h5
 have t1:=(wOk_tight h3).1
 have t2:=(wOk_tight h4).1
 refine ⟨rfl,hu.zn h3,hv.zn h4,?_,by rw [sgz_abs]; exact h7,by rw [sgz_abs]; exact (ln_len hu.2 t1).1 h1,(ln_len hv.2 t2).1 h2⟩
 rcases Nat.eq_zero_or_pos (lval l2) with h | h
 ·have := (ln_len (k:=0) hv.2 t2).2 (by rw [h]; decide)
  omega
 ·exact h
theorem Qv.frOk {K : Nat} {w : World} {g : Bool} {u v : Value} {p : Int} {q : Nat} (h : Qv K w g u v p q) : ∃ l1 l2,Lm K w u l1 /\ Lm K w v l2 /\ frOk g l1 false l2 = true:=by
 obtain ⟨l1,a1,t1,e1⟩:=h.n.ln
 obtain ⟨l2,a2,t2,e2⟩:=h.d.ln
 rw [Int.natAbs_natCast] at e2
 have n1:=(ln_len a1.2 t1).2 (by rw [e1]; exact h.pl)
 have n2:=(ln_len a2.2 t2).2 (by rw [e2]; exact h.ql)
 have z1 : l1.length = 0 -> g = false:=fun e => by
  rw [List.eq_nil_of_length_eq_zero e] at e1
  have : p = 0:=by simp [lval] at e1; omega
  rw [h.n.sg,this]; rfl
 have z2 : l2.length ≠ 0:=fun e => by
  rw [List.eq_nil_of_length_eq_zero e] at e2
  have := h.q0
  simp [lval] at e2; omega
 refine ⟨l1,l2,a1,a2,?_⟩
 unfold Proofs.YtlldjmagbjjeoaaGreat.frOk
 rw [tight_wOk t1 (by omega) z1,tight_wOk t2 (by omega) (fun _ => rfl),e1,e2,h.cop]
 simp [n1,n2]
 intro e; exact z2 (by rw [e]; rfl)
theorem fValidQ_any (K : Nat) (g : Bool) (u v : Value) (p : Int) (q : Nat) (w : World) (h : Qv K w g u v p q) (hK : K <= w.heap.size) :
  Calls Tryz.prog 49 #[Fg g u false v] w fun e w' => e = .returned (.bool true) /\ Below w.heap.size w w':=by
 obtain ⟨l1,l2,h1,h2,h3⟩:=h.frOk
 have := fValidL_any K g false u v l1 l2 w h1 h2 hK
 rwa [h3] at this
theorem fNotQ_any (K : Nat) (g : Bool) (u v : Value) (p : Int) (q : Nat) (w : World) (h : Qv K w g u v p q) (hK : K <= w.heap.size) :
  Calls Tryz.prog 76 #[Fg g u false v] w fun e w' => e = .returned (.bool false) /\ Below w.heap.size w w':=by
 have b1 : Below w.heap.size w (w.alloc (.cells #[.bool g,u,.bool false,v] 26)):=(Below.refl _ _).alloc (Nat.le_refl _) _
 have hc:=fValidQ_any w.heap.size g u v p q _ (h.below b1 hK hK) (by simp)
 obtain ⟨ua,um,uc,rfl⟩:=h.n.form
 obtain ⟨va,vm,vc,rfl⟩:=h.d.form
 clear h
 go_enter Tryz.func76,Tryz.ntmps76
 go_wp2_with fail
 refine hc.mono ?_
 rintro e w2 ⟨rfl,hb2⟩
 go_wp2_with fail
 go_ret
 exact ⟨rfl,b1.trans (hb2.mono (by simp))⟩
theorem idxFracQ_any (K b : Nat) (g h : Bool) (u v x y : Value) (m p : Int) (n q : Nat) (w : World) (h1 : Qv K w g u v m n) (h2 : Qv K w h x y p q) (hK : K <= w.heap.size)
  (hq : Blk w b #[.bool g,u,.bool false,v,.bool h,x,.bool false,y] 26) :
  Calls Tryz.prog 91 #[.slice (some ⟨b,0,none⟩) 2 2,.func (.func 76) #[] #[]] w fun e w' => e = .returned (.int .i64 (-1)) /\ Below w.heap.size w w':=by
 have hcf:=fNotQ_any K g u v m n w h1 hK
 have hb:=hq.lt
 have hc2 : ∀ W,Below w.heap.size w W -> Calls Tryz.prog 76 #[Fg h x false y] W fun e w' => e = .returned (.bool false) /\ Below W.heap.size W w':=fun W hb => fNotQ_any W.heap.size h x y p q W (h2.below hb hK (Nat.le_trans hK hb.size)) (Nat.le_refl _)
 obtain ⟨ua,um,uc,rfl⟩:=h1.n.form
 obtain ⟨va,vm,vc,rfl⟩:=h1.d.form
 obtain ⟨xa,xm,xc,rfl⟩:=h2.n.form
 obtain ⟨ya,ym,yc,rfl⟩:=h2.d.form
 obtain ⟨d0,d1,d2,d3,d4,d5,d6,d7⟩:=hq.eight
 have HCF:=Lib.hid hcf
 have HC2:=Lib.hid hc2
 clear h1 h2 hcf hc2
 go_enter Tryz.func91,Tryz.ntmps91
 go_wp2_with fail
 refine wp_loop_rounds 3 ?_
 rw [rounds_succ]
 go_wp2_with fail
 refine HCF.out.mono ?_
 rintro e w2 ⟨rfl,hb2⟩
 clear d0 d1 d2 d3 d4 d5 d6 d7
 obtain ⟨d0,d1,d2,d3,d4,d5,d6,d7⟩:=(hq.below hb2 hb).eight
 go_wp2_with fail
 rw [rounds_succ]
 go_wp2_with fail
 refine (HC2.out w2 hb2).mono ?_
 rintro e w3 ⟨rfl,hb3⟩
 go_wp2_with fail
 rw [rounds_succ]
 go_wp2_with fail
 go_ret
 exact ⟨rfl,hb2.trans (hb3.mono hb2.size)⟩
theorem fallvalidQ_any (K b : Nat) (g h : Bool) (u v x y : Value) (m p : Int) (n q : Nat) (w : World) (h1 : Qv K w g u v m n) (h2 : Qv K w h x y p q) (hK : K <= w.heap.size)
  (hq : Blk w b #[.bool g,u,.bool false,v,.bool h,x,.bool false,y] 26) :
  Calls Tryz.prog 61 #[.slice (some ⟨b,0,none⟩) 2 2] w fun e w' => e = .returned (.bool true) /\ Below w.heap.size w w':=by
 have hi:=idxFracQ_any K b g h u v x y m p n q w h1 h2 hK hq
 have hc : Calls Tryz.prog 75 #[.slice (some ⟨b,0,none⟩) 2 2,.func (.func 76) #[] #[]] w fun e w' => e = .returned (.bool false) /\ Below w.heap.size w w':=by
  go_enter Tryz.func75,Tryz.ntmps75
  go_wp2_with fail
  refine hi.mono ?_
  rintro e w2 ⟨rfl,hb2⟩
  go_wp2_with fail
  go_ret
  exact ⟨rfl,hb2⟩
 clear hi
 go_enter Tryz.func61,Tryz.ntmps61
 go_wp2_with fail
 refine hc.mono ?_
 rintro e w2 ⟨rfl,hb2⟩
 go_wp2_with fail
 go_ret
 exact ⟨rfl,hb2⟩
theorem zcmp_any (K : Nat) (g h : Bool) (u v x y : Value) (m p : Int) (n q : Nat) (w : World) (h1 : Qv K w g u v m n) (h2 : Qv K w h x y p q) (hK : K <= w.heap.size) :
  Calls Tryz.prog 53 #[Fg g u false v,Fg h x false y] w fun e w' => e = .returned (.int .i64 (cmpI (m * q) (p * n))) /\ Below w.heap.size w w':=by
 obtain ⟨ua,um,uc,rfl⟩:=h1.n.form
 obtain ⟨va,vm,vc,rfl⟩:=h1.d.form
 obtain ⟨xa,xm,xc,rfl,_,_,hxm,_⟩:=h2.n.ln.form
 obtain ⟨ya,ym,yc,rfl⟩:=h2.d.form
 obtain ⟨W1,hW1⟩ : ∃ W1,((w.alloc (.cells #[.bool g,.slice ua um uc,.bool false,.slice va vm vc] 26)).alloc (.cells #[.bool h,.slice xa xm xc,.bool false,.slice ya ym yc] 26)).alloc (.cells #[.bool g,.slice ua um uc,.bool false,.slice va vm vc,.bool h,.slice xa xm xc,.bool false,.slice ya ym yc] 26) = W1:=⟨_,rfl⟩
 obtain ⟨b1,q0,q1,q2,s1⟩:=alloc3 w _ _ _ _ _ _ hW1
 have HW:=Lib.hid hW1
 obtain ⟨B,hB⟩ : ∃ B,w.heap.size = B:=⟨_,rfl⟩
 have HB:=Lib.hid hB
 rw [hB] at hK b1 q0 q1 q2 s1 ⊢
 have hav:=fallvalidQ_any B (B + 2) g h _ _ _ _ m p n q W1 (h1.below b1 hK hK) (h2.below b1 hK hK) (by omega) q2
 have HAV:=Lib.hid hav
 have H1:=Lib.hid h1
 have H2:=Lib.hid h2
 clear hB hW1 hav h1 h2
 go_enter Tryz.func53,Tryz.ntmps53
 go_wp2_with fail
 simp only [HB.out,Nat.add_assoc,Nat.reduceAdd]
 rw [HW.out]
 refine HAV.out.mono ?_
 rintro e w2 ⟨rfl,hb2⟩
 have b2 : Below B w w2:=b1.trans (hb2.mono (by omega))
 have hs2:=hb2.size
 have q0:=q0.below hb2 q0.lt
 have q1:=q1.below hb2 q1.lt
 have H1' : Hid (Qv w2.heap.size w2 g (.slice ua um uc) (.slice va vm vc) m n):=Lib.hid (H1.out.below b2 hK (by omega))
 have H2' : Hid (Qv w2.heap.size w2 h (.slice xa xm xc) (.slice ya ym yc) p q):=Lib.hid (H2.out.below b2 hK (by omega))
 clear HAV q2 H1 H2
 obtain ⟨cv,hcv⟩ : ∃ cv,cmpI (m * q) (p * n) = cv:=⟨_,rfl⟩
 have HCV:=Lib.hid hcv
 clear hcv
 go_upto_region 3 with fail
 refine region_plain (fun W' => Below w2.heap.size w2 W') [] (by kernel_rfl) ?_
 have qS : (fun W' => Below w2.heap.size w2 W') w2.drew:=below_quiet (Below.refl _ _)
 refine wpAnyD_tpX (i:=0) (v:=.pointer (some ⟨B,0,none⟩)) (some 10) rfl rfl qS ?_
 refine wpAnyD_tkX (i:=1) (v:=.agg #[.bool g,.slice ua um uc]) (some 11) rfl rfl (.inl ⟨by kernel_rfl,fun W' hS => by have d0:=(q0.below hS q0.lt).at (i:=0) rfl; have d1:=(q0.below hS q0.lt).at (i:=1) rfl; go_simp⟩) qS ?_
 refine wpAnyD_tpX (i:=2) (v:=.pointer (some ⟨B + 1,2,none⟩)) (some 12) rfl rfl qS ?_
 refine wpAnyD_tkX (i:=3) (v:=.agg #[.bool false,.slice ya ym yc]) (some 13) rfl rfl (.inl ⟨by kernel_rfl,fun W' hS => by have d0:=(q1.below hS q1.lt).at (i:=2) rfl; have d1:=(q1.below hS q1.lt).at (i:=3) rfl; go_simp⟩) qS ?_
 refine wpAnyD_tpX (i:=5) (v:=.pointer (some ⟨B + 1,0,none⟩)) (some 15) rfl rfl qS ?_
 refine wpAnyD_tkX (i:=6) (v:=.agg #[.bool h,.slice xa xm xc]) (some 16) rfl rfl (.inl ⟨by kernel_rfl,fun W' hS => by have d0:=(q1.below hS q1.lt).at (i:=0) rfl; have d1:=(q1.below hS q1.lt).at (i:=1) rfl; go_simp⟩) qS ?_
 refine wpAnyD_tpX (i:=7) (v:=.pointer (some ⟨B,2,none⟩)) (some 17) rfl rfl qS ?_
 refine wpAnyD_tkX (i:=8) (v:=.agg #[.bool false,.slice va vm vc]) (some 18) rfl rfl (.inl ⟨by kernel_rfl,fun W' hS => by have d0:=(q0.below hS q0.lt).at (i:=2) rfl; have d1:=(q0.below hS q0.lt).at (i:=3) rfl; go_simp⟩) qS ?_
 refine wpAnyD_on (i:=4) rfl ?_
 go_simp
 refine (ztimes_any w2.heap.size _ _ _ _ _ _ _ (H1'.out.n.below qS (Nat.le_refl _) (Nat.le_refl _)) (H2'.out.d.below qS (Nat.le_refl _) (Nat.le_refl _)) (LB_lt H1'.out.pl (by decide)) (LB_lt H2'.out.ql (by decide)) qS.size).mono ?_
 rintro e w3 ⟨x3,rfl,hx3,hb3⟩
 obtain ⟨g3,p3,rfl,hp3,hn3⟩:=hx3
 obtain ⟨a3,m3,c3,rfl⟩:=hp3.form
 have qSw3 : Below w2.heap.size w2 w3:=qS.trans (hb3.mono qS.size)
 go_simp
 refine wpAnyD_on (i:=9) rfl ?_
 go_simp
 refine (ztimes_any w2.heap.size _ _ _ _ _ _ _ (H2'.out.n.below qSw3 (Nat.le_refl _) (Nat.le_refl _)) (H1'.out.d.below qSw3 (Nat.le_refl _) (Nat.le_refl _)) (LB_lt H2'.out.pl (by decide)) (LB_lt H1'.out.ql (by decide)) qSw3.size).mono ?_
 rintro e w4 ⟨x4,rfl,hx4,hb4⟩
 obtain ⟨g4,p4,rfl,hp4,hn4⟩:=hx4
 obtain ⟨a4,m4,c4,rfl⟩:=hp4.form
 have qSw3w4 : Below w2.heap.size w2 w4:=qSw3.trans (hb4.mono qSw3.size)
 go_simp
 refine wpAnyD_on (i:=10) rfl ?_
 go_simp
 have hc:=nCmp_any w4.heap.size _ _ _ _ _ _ _ (hp3.below hb4 (Nat.le_refl _) hb4.size) hp4 (by rw [Int.natAbs_mul]; exact LB_lt (LB_mul H1'.out.pl H2'.out.ql) (by decide)) (by rw [Int.natAbs_mul]; exact LB_lt (LB_mul H2'.out.pl H1'.out.ql) (by decide)) (Nat.le_refl _)
 rw [HCV.out] at hc
 refine hc.mono ?_
 rintro e w5 ⟨rfl,hb5⟩
 have qSw3w4w5 : Below w2.heap.size w2 w5:=qSw3w4.trans (hb5.mono qSw3w4.size)
 go_simp
 refine wpAnyD_on (i:=11) rfl ?_
 go_simp
 refine wpAnyD_done (by kernel_rfl) ?_ _
 go_wp2_with fail
 go_ret
 exact ⟨by rw [HCV.out]; rfl,b2.trans (qSw3w4w5.mono (by omega))⟩
theorem ok_whole {v : Vq} (hf : v.fr = false) (hk : v.kd = 1 \/ v.kd = 4 \/ v.kd = 5 \/ v.kd = 6) :
  v.ok = (((v.g1 == false && v.l1 == []) && (v.g2 == false && v.l2 == [])) && (if v.kd == 1 then decide (0 <= v.i) && decide (v.i <= 1) else if v.kd == 4 then decide (0 <= v.i) && decide (v.i < 65536) else decide (-1048576 <= v.i) && decide (v.i <= 1048576))):=by
 unfold Vq.ok
 rw [hf]
 have hx : (v.kd == 1 \/ v.kd == 4 \/ v.kd == 5 \/ v.kd == 6):=by simpa using hk
 simp only [Bool.false_eq_true,if_false,if_pos hx]
 congr 1
 have e1 : (v.l1.length == 0) = (v.l1 == []):=by cases v.l1 <;> rfl
 have e2 : (v.l2.length == 0) = (v.l2 == []):=by cases v.l2 <;> rfl
 rw [e1,e2]
 cases v.g1 <;> cases v.g2 <;> cases (v.l1 == []) <;> cases (v.l2 == []) <;> rfl
theorem ok_none {v : Vq} (hf : v.fr = false) (hk : ¬ (v.kd = 1 \/ v.kd = 4 \/ v.kd = 5 \/ v.kd = 6)) : v.ok = false:=by
 unfold Vq.ok
 rw [hf]
 have hx : ¬ (v.kd == 1 \/ v.kd == 4 \/ v.kd == 5 \/ v.kd == 6):=by simpa using hk
 simp only [Bool.false_eq_true,if_false,if_neg hx]
theorem tlvalid_any (K : Nat) (v : Vq) (x : Vv) (w : World) (h : VlX K w v x) (hK : K <= w.heap.size) (ho : v.good = true) : Calls Tryz.prog 27 #[x.agg] w fun e w' => e = .returned (.bool v.ok) /\ Below w.heap.size w w':=by
 obtain ⟨kd,f1,s1,f2,s2,i⟩:=x
 obtain ⟨hk,hf1,hf2,hi,h1,h2⟩:=h
 simp only at hk hi h1 h2 hf1 hf2
 obtain ⟨W1,hW1⟩ : ∃ W1,w.alloc (.cells #[.int .u8 kd,.bool f1,s1,.bool f2,s2,.int .i64 i] 28) = W1:=⟨_,rfl⟩
 have b1 : Below w.heap.size w W1:=by rw [<- hW1]; exact (Below.refl _ _).alloc (Nat.le_refl _) _
 have q1 : Blk W1 w.heap.size #[.int .u8 kd,.bool f1,s1,.bool f2,s2,.int .i64 i] 28:=by rw [<- hW1]; exact Blk.new w _ _
 have sz1 : W1.heap.size = w.heap.size + 1:=by rw [<- hW1]; simp
 obtain ⟨B,hB⟩ : ∃ B,w.heap.size = B:=⟨_,rfl⟩
 have HB:=Lib.hid hB
 have HW:=Lib.hid hW1
 rw [hB] at hK b1 q1 sz1 ⊢
 obtain ⟨ua,uc,rfl,_⟩:=h1.form
 obtain ⟨va,vc,rfl,_⟩:=h2.form
 clear hB hW1
 obtain ⟨c0,c1,c2,c3,c4,c5⟩:=q1.six
 cases hf : v.fr with
 | true =>
  have hkd : kd = 2 \/ kd = 3:=by rw [hk]; unfold Vq.fr at hf; simpa using hf
  have hc:=fValidL_any B f1 f2 _ _ v.l1 v.l2 W1 (h1.below b1 hK hK) (h2.below b1 hK hK) (by omega)
  have hok : v.ok = (i == 0 && frOk f1 v.l1 f2 v.l2):=by unfold Vq.ok; rw [hf,if_pos rfl,hi,hf1,hf2]
  obtain ⟨fr,hfr⟩ : ∃ b,frOk f1 v.l1 f2 v.l2 = b:=⟨_,rfl⟩
  rw [hfr] at hc hok
  obtain ⟨r,hr⟩ : ∃ r,v.ok = r:=⟨_,rfl⟩
  rw [hr] at hok ⊢
  have HR:=Lib.hid hok
  obtain ⟨n1,hn1⟩ : ∃ n,v.l1.length = n:=⟨_,rfl⟩
  obtain ⟨n2,hn2⟩ : ∃ n,v.l2.length = n:=⟨_,rfl⟩
  simp only [hn1,hn2] at c2 c4 hc HW q1
  simp only [hn1,hn2]
  clear hf hk hi ho hok h1 h2 hf1 hf2 hr hfr hn1 hn2
  by_cases hi0 : i = 0
  ·subst hi0
   rcases hkd with rfl | rfl
   all_goals
    go_enter Tryz.func27,Tryz.ntmps27
    go_upto_region 1 with fail
    simp only [HB.out]
    rw [HW.out]
    go_wp2_with fail
    refine hc.mono ?_
    rintro e w2 ⟨rfl,hb2⟩
    go_wp2_with fail
    go_ret
    exact ⟨by rw [HR.out]; rfl,b1.trans (hb2.mono (by omega))⟩
  ·have hib : (i == 0) = false:=by simpa using hi0
   have HR2 : Hid (r = false):=Lib.hid (by rw [HR.out,hib]; rfl)
   clear hi0
   rcases hkd with rfl | rfl
   all_goals
    go_enter Tryz.func27,Tryz.ntmps27
    go_upto_region 1 with fail
    simp only [HB.out]
    rw [HW.out]
    go_wp2_with fail
    go_ret
    exact ⟨by rw [HR2.out]; rfl,b1⟩
 | false =>
  have hkf : (kd == 2) = false /\ (kd == 3) = false:=by unfold Vq.fr at hf; rw [hk]; simpa using hf
  by_cases hkd : v.kd = 1 \/ v.kd = 4 \/ v.kd = 5 \/ v.kd = 6
  ·have hok:=ok_whole hf hkd
   have hz:=fun W => (Lm.nil 0 W).below (Below.refl 0 W) (Nat.le_refl _) (Nat.zero_le B)
   have hc:=fsame_any B f1 f2 false false _ _ _ _ _ _ _ _ W1 (h1.below b1 hK hK) (h2.below b1 hK hK) (hz W1) (hz W1) (by omega)
   rw [<- hf1,<- hf2,<- hk,<- hi] at hok
   rw [<- hk] at hkd
   obtain ⟨r,hr⟩ : ∃ r,v.ok = r:=⟨_,rfl⟩
   obtain ⟨fz,hfz⟩ : ∃ fz,((f1 == false && v.l1 == []) && (f2 == false && v.l2 == [])) = fz:=⟨_,rfl⟩
   rw [hr,hfz] at hok
   rw [hr]
   rw [hfz] at hc
   have HR:=Lib.hid hok
   obtain ⟨n1,hn1⟩ : ∃ n,v.l1.length = n:=⟨_,rfl⟩
   obtain ⟨n2,hn2⟩ : ∃ n,v.l2.length = n:=⟨_,rfl⟩
   simp only [hn1,hn2] at c2 c4 hc HW q1
   simp only [hn1,hn2]
   clear hok hf hk hi ho hf1 hf2 hr hfz h1 h2 hz hn1 hn2
   obtain ⟨hk2,hk3⟩:=hkf
   have fin : ∀ (e : Ending) (w2 : World),(e = .returned (.bool fz) /\ Below W1.heap.size W1 w2) -> e = .returned (.bool fz) /\ w2.cell? ⟨B,5,none⟩ = some (.int .i64 i) /\ Below B w w2:=fun e w2 ⟨h3,h4⟩ => ⟨h3,(q1.below h4 q1.lt).six.2.2.2.2.2,b1.trans (h4.mono (by omega))⟩
   rcases hkd with rfl | rfl | rfl | rfl
   ·go_enter Tryz.func27,Tryz.ntmps27
    go_upto_region 1 with fail
    simp only [HB.out]
    rw [HW.out]
    go_wp2_with fail
    refine hc.mono ?_
    intro e w2 h3
    obtain ⟨rfl,d5,b2⟩:=fin e w2 h3
    cases fz with
    | false =>
     go_wp2_with fail
     go_ret
     exact ⟨by rw [HR.out]; simp,b2⟩
    | true =>
     go_wp2_with fail
     all_goals go_ret
     all_goals
      refine ⟨?_,b2⟩
      rw [HR.out]
      simp
      try omega
   ·go_enter Tryz.func27,Tryz.ntmps27
    go_upto_region 1 with fail
    simp only [HB.out]
    rw [HW.out]
    go_wp2_with fail
    refine hc.mono ?_
    intro e w2 h3
    obtain ⟨rfl,d5,b2⟩:=fin e w2 h3
    cases fz with
    | false =>
     go_wp2_with fail
     go_ret
     exact ⟨by rw [HR.out]; simp,b2⟩
    | true =>
     go_wp2_with fail
     all_goals go_ret
     all_goals
      refine ⟨?_,b2⟩
      rw [HR.out]
      simp
      try omega
   ·go_enter Tryz.func27,Tryz.ntmps27
    go_upto_region 1 with fail
    simp only [HB.out]
    rw [HW.out]
    go_wp2_with fail
    refine hc.mono ?_
    intro e w2 h3
    obtain ⟨rfl,d5,b2⟩:=fin e w2 h3
    cases fz with
    | false =>
     go_wp2_with fail
     go_ret
     exact ⟨by rw [HR.out]; simp,b2⟩
    | true =>
     go_wp2_with fail
     all_goals go_ret
     all_goals
      refine ⟨?_,b2⟩
      rw [HR.out]
      simp
      try omega
   ·go_enter Tryz.func27,Tryz.ntmps27
    go_upto_region 1 with fail
    simp only [HB.out]
    rw [HW.out]
    go_wp2_with fail
    refine hc.mono ?_
    intro e w2 h3
    obtain ⟨rfl,d5,b2⟩:=fin e w2 h3
    cases fz with
    | false =>
     go_wp2_with fail
     go_ret
     exact ⟨by rw [HR.out]; simp,b2⟩
    | true =>
     go_wp2_with fail
     all_goals go_ret
     all_goals
      refine ⟨?_,b2⟩
      rw [HR.out]
      simp
      try omega
  ·have hok:=ok_none hf hkd
   rw [hok]
   rw [<- hk] at hkd
   have hk1 : (kd == 1) = false:=by simp; omega
   have hk4 : (kd == 4) = false:=by simp; omega
   have hk5 : (kd == 5) = false:=by simp; omega
   have hk6 : (kd == 6) = false:=by simp; omega
   obtain ⟨hk2,hk3⟩:=hkf
   clear hok hf hk hi ho hf1 hf2 h1 h2 hkd
   go_enter Tryz.func27,Tryz.ntmps27
   go_upto_region 1 with fail
   simp only [HB.out]
   rw [HW.out]
   go_wp2_with fail
   go_ret
   exact ⟨rfl,b1⟩
theorem tlsame_any (K : Nat) (v v' : Vq) (x y : Vv) (w : World) (h : VlX K w v x) (h' : VlX K w v' y) (hK : K <= w.heap.size) : Calls Tryz.prog 71 #[x.agg,y.agg] w fun e w' => e = .returned (.bool (v == v')) /\ Below w.heap.size w w':=by
 obtain ⟨kd,f1,s1,f2,s2,i⟩:=x
 obtain ⟨kd',f1',s1',f2',s2',i'⟩:=y
 obtain ⟨hk,hf1,hf2,hi,h1,h2⟩:=h
 obtain ⟨hk',hf1',hf2',hi',h1',h2'⟩:=h'
 simp only at hk hi h1 h2 hk' hi' h1' h2' hf1 hf2 hf1' hf2'
 have b1 : Below w.heap.size w ((w.alloc (.cells #[.int .u8 kd,.bool f1,s1,.bool f2,s2,.int .i64 i] 28)).alloc (.cells #[.int .u8 kd',.bool f1',s1',.bool f2',s2',.int .i64 i'] 28)):=((Below.refl _ _).alloc (Nat.le_refl _) _).alloc (by simp) _
 have hc:=fsame_any w.heap.size f1 f2 f1' f2' _ _ _ _ v.l1 v.l2 v'.l1 v'.l2 _ (h1.below b1 hK hK) (h2.below b1 hK hK) (h1'.below b1 hK hK) (h2'.below b1 hK hK) (by simp; omega)
 obtain ⟨r,hr⟩ : ∃ r,(v == v') = r:=⟨_,rfl⟩
 obtain ⟨f,hf⟩ : ∃ f,((f1 == f1' && v.l1 == v'.l1) && (f2 == f2' && v.l2 == v'.l2)) = f:=⟨_,rfl⟩
 have HR : Hid (r = ((kd == kd') && (i == i') && f)):=Lib.hid (by
  rw [<- hr,<- hf,hk,hk',hi,hi',hf1,hf1',hf2,hf2']
  cases v; cases v'
  rw [Bool.eq_iff_iff]
  simp only [beq_iff_eq,Vq.mk.injEq,Bool.and_eq_true]
  constructor
  ·rintro ⟨a,b,c,d,e,f⟩; exact ⟨⟨a,f⟩,⟨b,c⟩,d,e⟩
  ·rintro ⟨⟨a,f⟩,⟨b,c⟩,d,e⟩; exact ⟨a,b,c,d,e,f⟩)
 rw [hf] at hc
 rw [hr]
 obtain ⟨ua,uc,rfl,_⟩:=h1.form
 obtain ⟨va,vc,rfl,_⟩:=h2.form
 obtain ⟨xa,xc,rfl,_⟩:=h1'.form
 obtain ⟨ya,yc,rfl,_⟩:=h2'.form
 clear hr hf hk hk' hi hi' hf1 hf2 hf1' hf2' h1 h2 h1' h2'
 by_cases e1 : kd = kd'
 ·subst e1
  by_cases e2 : i = i'
  ·subst e2
   have E:=Lib.hid (HR.out.trans (show ((kd == kd) && (i == i) && f) = f by simp))
   go_enter Tryz.func71,Tryz.ntmps71
   go_wp2_with fail
   refine hc.mono ?_
   rintro e w2 ⟨rfl,hb2⟩
   go_wp2_with fail
   go_ret
   exact ⟨by rw [E.out]; rfl,b1.trans (hb2.mono (by simp; omega))⟩
  ·have E:=Lib.hid (HR.out.trans (show ((kd == kd) && (i == i') && f) = false by simp [e2]))
   have hx : (i == i') = false:=by simp [e2]
   go_enter Tryz.func71,Tryz.ntmps71
   go_wp2_with fail
   go_ret
   exact ⟨by rw [E.out]; rfl,b1⟩
 ·have E:=Lib.hid (HR.out.trans (show ((kd == kd') && (i == i') && f) = false by simp [e1]))
  have hx : (kd == kd') = false:=by simp [e1]
  go_enter Tryz.func71,Tryz.ntmps71
  go_wp2_with fail
  go_ret
  exact ⟨by rw [E.out]; rfl,b1⟩
theorem vcmp_fr {v v' : Vq} (hf : v.fr = true) (hf' : v'.fr = true) : vcmp v v' = cmpI (sgz v.g1 (lval v.l1) * (lval v'.l2 : Nat)) (sgz v'.g1 (lval v'.l1) * (lval v.l2 : Nat)):=by
 unfold vcmp Vq.top Vq.bot sgz
 rw [hf,hf']
 simp
theorem ok_fr {v : Vq} (hf : v.fr = true) (ho : v.ok = true) : frOk v.g1 v.l1 v.g2 v.l2 = true /\ (v.kd = 2 \/ v.kd = 3):=by
 have hk : v.kd = 2 \/ v.kd = 3:=by unfold Vq.fr at hf; simpa using hf
 unfold Vq.ok at ho
 rw [hf,if_pos rfl] at ho
 simp only [Bool.and_eq_true] at ho
 exact ⟨ho.2,hk⟩
theorem vcmp_whole {v v' : Vq} (hf : v.fr = false) (hf' : v'.fr = false) : vcmp v v' = cmpI v.i v'.i:=by
 unfold vcmp Vq.top Vq.bot
 rw [hf,hf']
 simp
theorem gcompare_any (K : Nat) (v v' : Vq) (x y : Vv) (w : World) (h : VlX K w v x) (h' : VlX K w v' y) (hK : K <= w.heap.size) (ho : v.good = true) (ho' : v'.good = true) (hok : v.ok = true) (hok' : v'.ok = true) (hkk : v.kd = v'.kd) :
  Calls Tryz.prog 29 #[x.agg,y.agg] w fun e w' => e = .returned (.int .i64 (vcmp v v')) /\ Below w.heap.size w w':=by
 obtain ⟨kd,f1,s1,f2,s2,i⟩:=x
 obtain ⟨kd',f1',s1',f2',s2',i'⟩:=y
 obtain ⟨hk,hf1,hf2,hi,h1,h2⟩:=h
 obtain ⟨hk',hf1',hf2',hi',h1',h2'⟩:=h'
 simp only at hk hi h1 h2 hk' hi' h1' h2' hf1 hf2 hf1' hf2'
 have b1 : Below w.heap.size w ((w.alloc (.cells #[.int .u8 kd,.bool f1,s1,.bool f2,s2,.int .i64 i] 28)).alloc (.cells #[.int .u8 kd',.bool f1',s1',.bool f2',s2',.int .i64 i'] 28)):=((Below.refl _ _).alloc (Nat.le_refl _) _).alloc (by simp) _
 cases hf : v.fr with
 | true =>
  have hf' : v'.fr = true:=by unfold Vq.fr at hf ⊢; rw [<- hkk]; exact hf
  obtain ⟨hfr,hkq⟩:=ok_fr hf hok
  obtain ⟨hfr',hkq'⟩:=ok_fr hf' hok'
  obtain ⟨z1,qv1⟩:=h1.qv h2 hfr
  obtain ⟨z2,qv2⟩:=h1'.qv h2' hfr'
  have hc:=zcmp_any w.heap.size _ _ _ _ _ _ _ _ _ _ _ (qv1.below b1 hK hK) (qv2.below b1 hK hK) (by simp; omega)
  have hkey:=vcmp_fr hf hf'
  rw [<- hkey] at hc
  obtain ⟨r,hr⟩ : ∃ r,vcmp v v' = r:=⟨_,rfl⟩
  rw [hr] at hc ⊢
  have hkd : kd = 2 \/ kd = 3:=by rw [hk]; exact hkq
  rw [<- hf1,<- hf1'] at hc
  have hg2 : f2 = false:=by rw [hf2,z1]
  have hg2' : f2' = false:=by rw [hf2',z2]
  subst hg2 hg2'
  obtain ⟨ua,uc,rfl,_⟩:=h1.form
  obtain ⟨va,vc,rfl,_⟩:=h2.form
  obtain ⟨xa,xc,rfl,_⟩:=h1'.form
  obtain ⟨ya,yc,rfl,_⟩:=h2'.form
  clear hkey hr z1 z2 qv1 qv2 hf hf' hk hk' hi hi' hkk hkq hkq' hfr hfr' ho ho' hok hok' h1 h2 h1' h2' hf1 hf2 hf1' hf2'
  rcases hkd with rfl | rfl
  all_goals
   go_enter Tryz.func29,Tryz.ntmps29
   go_wp2_with fail
   refine hc.mono ?_
   rintro e w2 ⟨rfl,hb2⟩
   go_wp2_with fail
   go_ret
   exact ⟨rfl,b1.trans (hb2.mono (by simp; omega))⟩
 | false =>
  have hf' : v'.fr = false:=by unfold Vq.fr at hf ⊢; rw [<- hkk]; exact hf
  have hkey : vcmp v v' = cmpI i i':=by rw [vcmp_whole hf hf',hi,hi']
  rw [hkey]
  have hk2 : (kd == 2) = false /\ (kd == 3) = false:=by unfold Vq.fr at hf; rw [hk]; simpa using hf
  obtain ⟨hk2,hk3⟩:=hk2
  obtain ⟨ua,uc,rfl,_⟩:=h1.form
  obtain ⟨va,vc,rfl,_⟩:=h2.form
  obtain ⟨xa,xc,rfl,_⟩:=h1'.form
  obtain ⟨ya,yc,rfl,_⟩:=h2'.form
  clear hkey hf hf' hk hk' hi hi' hkk ho ho' hok hok' h1 h2 h1' h2' hf1 hf2 hf1' hf2'
  obtain ⟨r,hr⟩ : ∃ r,cmpI i i' = r:=⟨_,rfl⟩
  have HR:=Lib.hid hr
  rw [hr]
  clear hr
  go_enter Tryz.func29,Tryz.ntmps29
  go_wp2_with fail
  all_goals go_ret
  all_goals
   refine ⟨?_,b1⟩
   first
    | (rw [show r = -1 from by rw [<- HR.out]; unfold cmpI; rw [if_pos (by omega)]]; rfl)
    | (rw [show r = 1 from by rw [<- HR.out]; unfold cmpI; rw [if_neg (by omega),if_pos (by omega)]]; rfl)
    | (rw [show r = 0 from by rw [<- HR.out]; unfold cmpI; rw [if_neg (by omega),if_neg (by omega)]]; rfl)
end Go.Proofs.YtlldjmagbjjeoaaGreat
