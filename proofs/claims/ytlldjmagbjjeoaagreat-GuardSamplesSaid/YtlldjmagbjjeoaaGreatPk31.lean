/- Contracts and plain laws, several texts in one (GSmpS, GSmpL, GSaS, GlSa0, OlSize). No conditions beyond those stated. -/
import Derived.Test.YtlldjmagbjjeoaaGreatPk30
set_option maxRecDepth 100000
set_option maxHeartbeats 40000000
namespace Go.Proofs.YtlldjmagbjjeoaaGreat
open Go.RowKit
set_option linter.unusedVariables false
def besV (v : Vq) (k : Int) : Vq :=
 fracV v.kd (lowP (sgz v.g1 (lval v.l1) * ((1 : Nat) : Int) + k * ((lval v.l2 : Nat) : Int)) (lval v.l2 * 1)) (lowQ (sgz v.g1 (lval v.l1) * ((1 : Nat) : Int) + k * ((lval v.l2 : Nat) : Int)) (lval v.l2 * 1))
def sumP (a b : Vq) : Int:=lowP (sgz a.g1 (lval a.l1) * ((lval b.l2 : Nat) : Int) + sgz b.g1 (lval b.l1) * ((lval a.l2 : Nat) : Int)) (lval a.l2 * lval b.l2)
def sumQ (a b : Vq) : Nat:=lowQ (sgz a.g1 (lval a.l1) * ((lval b.l2 : Nat) : Int) + sgz b.g1 (lval b.l1) * ((lval a.l2 : Nat) : Int)) (lval a.l2 * lval b.l2)
def midV (a b : Vq) : Vq:=fracV a.kd (lowP (sumP a b * ((1 : Nat) : Int)) (sumQ a b * (2 : Int).natAbs)) (lowQ (sumP a b * ((1 : Nat) : Int)) (sumQ a b * (2 : Int).natAbs))
def smpV (s : Sc) (c : Nat) : Vq :=
 if s.kd = 0 then wholeV 1 c
 else if isDay s.kd = true then smpW s c
 else if c % 2 = 1 then s.cuts[c / 2]?.getD v0
 else if c / 2 = 0 then besV (s.cuts[0]?.getD v0) (-1)
 else if c / 2 = s.cuts.length then besV (s.cuts[s.cuts.length - 1]?.getD v0) 1
 else midV (s.cuts[c / 2 - 1]?.getD v0) (s.cuts[c / 2]?.getD v0)
def Vq.dig (v : Vq) : Prop:=(∀ d ∈ v.l1,d < 65536) /\ ∀ d ∈ v.l2,d < 65536
def Vq.lim (v : Vq) (k : Nat) : Prop:=v.l1.length <= k /\ v.l2.length <= k
theorem Vq.lim.lb {v : Vq} {k : Nat} (h : v.lim k) (hd : v.dig) : lval v.l1 < LB k /\ lval v.l2 < LB k:=by
 constructor
 ·rw [lval_bv]; exact Nat.lt_of_lt_of_le (bv_lt v.l1 hd.1) (LB_mono h.1)
 ·rw [lval_bv]; exact Nat.lt_of_lt_of_le (bv_lt v.l2 hd.2) (LB_mono h.2)
theorem low_lt {y : Int} {d : Nat} (hd : 0 < d) (a : Int) (b : Nat) : (lowP y d * b < a * lowQ y d ↔ y * b < a * d) /\ (a * lowQ y d < lowP y d * b ↔ a * d < y * b):=by
 have hG:=low_gcd_pos y hd
 have h1:=lowP_mul y d
 have h2 : (d : Int) = (lowQ y d : Int) * (Nat.gcd y.natAbs d : Nat):=by
  have := congrArg (fun n : Nat => (n : Int)) (lowQ_mul y d)
  simpa using this
 obtain ⟨G,hGe⟩ : ∃ G : Int,((Nat.gcd y.natAbs d : Nat) : Int) = G:=⟨_,rfl⟩
 have hG0 : 0 < G:=by omega
 rw [hGe] at h1 h2
 have e1 : y * b = lowP y d * b * G:=by
  calc y * b = lowP y d * G * b:=by rw [<- h1]
   _ = lowP y d * b * G:=by rw [Int.mul_assoc,Int.mul_comm G,<- Int.mul_assoc]
 have e2 : a * d = a * lowQ y d * G:=by rw [h2,Int.mul_assoc]
 rw [e1,e2]
 exact ⟨⟨fun h => Int.mul_lt_mul_of_pos_right h hG0,fun h => Int.lt_of_mul_lt_mul_right h (Int.le_of_lt hG0)⟩,⟨fun h => Int.mul_lt_mul_of_pos_right h hG0,fun h => Int.lt_of_mul_lt_mul_right h (Int.le_of_lt hG0)⟩⟩
structure FrFine (v : Vq) : Prop where
 kd : v.kd = 2 \/ v.kd = 3
 ok : v.ok = true
 good : v.good = true
 dig : v.dig
theorem bes_fine {v : Vq} (h : FrFine v) {m : Nat} (hm : v.lim m) (hm30 : m <= 60) (k : Int) (hk : k = 1 \/ k = -1) :
  (besV v k).ok = true /\ (besV v k).kd = v.kd /\ (besV v k).good = true /\ (besV v k).dig /\ (k = 1 -> vlt v (besV v k)) /\ (k = -1 -> vlt (besV v k) v):=by
 obtain ⟨p1,p2,p3,p4,p5,p6⟩:=ok_parts h.kd h.ok h.good
 obtain ⟨l1,l2⟩:=hm.lb h.dig
 obtain ⟨y,hy⟩ : ∃ y,sgz v.g1 (lval v.l1) * ((1 : Nat) : Int) + k * ((lval v.l2 : Nat) : Int) = y:=⟨_,rfl⟩
 obtain ⟨d,hd⟩ : ∃ d,lval v.l2 * 1 = d:=⟨_,rfl⟩
 have hd0 : 0 < d:=by omega
 have hyl : y.natAbs < LB (m + 1):=by
  have h1 : y.natAbs <= lval v.l1 + lval v.l2:=by
   have : (sgz v.g1 (lval v.l1)).natAbs = lval v.l1:=sgz_abs _ _
   rcases hk with rfl | rfl <;> omega
  exact Nat.lt_of_le_of_lt h1 (LB_sum l1 l2)
 have hpl : (lowP y d).natAbs < LB 64:=LB_lt (Nat.lt_of_le_of_lt (lowP_le _ hd0) hyl) (by omega)
 have hql : lowQ y d < LB 64:=LB_lt (Nat.lt_of_le_of_lt (lowQ_le _ _) (by rw [<- hd,Nat.mul_one]; exact l2)) (by omega)
 have e : besV v k = fracV v.kd (lowP y d) (lowQ y d):=by unfold besV; rw [hy,hd]
 rw [e]
 obtain ⟨t1,t2⟩:=fracV_top h.kd (lowP y d) (lowQ y d)
 have hlow:=low_lt (y:=y) hd0 (sgz v.g1 (lval v.l1)) (lval v.l2)
 have hkey : ∀ a b c : Int,a * c < a * c + b * c ↔ 0 < b * c:=fun a b c => by omega
 have hb0 : (0 : Int) < (lval v.l2 : Nat):=by omega
 have hyy : y * ((lval v.l2 : Nat) : Int) = sgz v.g1 (lval v.l1) * (lval v.l2 : Nat) + k * (lval v.l2 : Nat) * (lval v.l2 : Nat):=by
  rw [<- hy,Int.add_mul]; simp
 have hdd : (d : Int) = (lval v.l2 : Nat):=by omega
 have hsq : (0 : Int) < (lval v.l2 : Nat) * (lval v.l2 : Nat):=Int.mul_pos hb0 hb0
 refine ⟨fracV_ok h.kd (lowQ_pos y hd0) (low_cop y hd0) (LB_lt hpl (by decide)) (LB_lt hql (by decide)),rfl,fracV_good hpl hql,⟨limbs_lt _,limbs_lt _⟩,fun hk1 => ?_,fun hk1 => ?_⟩
 ·unfold vlt
  rw [t1,t2,p4,p5]
  refine hlow.2.2 ?_
  rw [hyy,hk1,hdd,Int.one_mul]
  omega
 ·unfold vlt
  rw [t1,t2,p4,p5]
  refine hlow.1.2 ?_
  rw [hyy,hk1,hdd]
  have : (-1 : Int) * (lval v.l2 : Nat) * (lval v.l2 : Nat) = -((lval v.l2 : Nat) * (lval v.l2 : Nat)):=by rw [Int.mul_assoc]; omega
  omega
theorem mid_ineq {p q r t y d : Int} (hq : 0 < q) (ht : 0 < t) (hlt : p * t < r * q) (hy : y = p * t + r * q) (hd : d = q * t) : p * (d * 2) < y * q /\ y * t < r * (d * 2):=by
 have h1:=Int.mul_lt_mul_of_pos_right hlt hq
 have h2:=Int.mul_lt_mul_of_pos_right hlt ht
 subst hy hd
 constructor
 ·rw [Int.add_mul]
  have e0 : p * (q * t * 2) = p * t * q * 2:=by ac_rfl
  have e1 : p * (q * t * 2) = p * t * q + p * t * q:=by rw [e0]; omega
  omega
 ·rw [Int.add_mul]
  have e0 : r * (q * t * 2) = r * q * t * 2:=by ac_rfl
  have e1 : r * (q * t * 2) = r * q * t + r * q * t:=by rw [e0]; omega
  omega
theorem mid_fine {a b : Vq} (ha : FrFine a) (hb : FrFine b) (hk : b.kd = a.kd) {m : Nat} (hma : a.lim m) (hmb : b.lim m) (hm30 : m <= 30) (hlt : vlt a b) :
  (midV a b).ok = true /\ (midV a b).kd = a.kd /\ (midV a b).good = true /\ (midV a b).dig /\ vlt a (midV a b) /\ vlt (midV a b) b:=by
 obtain ⟨p1,p2,p3,p4,p5,p6⟩:=ok_parts ha.kd ha.ok ha.good
 obtain ⟨r1,r2,r3,r4,r5,r6⟩:=ok_parts hb.kd hb.ok hb.good
 obtain ⟨l1,l2⟩:=hma.lb ha.dig
 obtain ⟨l3,l4⟩:=hmb.lb hb.dig
 obtain ⟨A,hA⟩ : ∃ A,sgz a.g1 (lval a.l1) = A:=⟨_,rfl⟩
 obtain ⟨B,hB⟩ : ∃ B,sgz b.g1 (lval b.l1) = B:=⟨_,rfl⟩
 obtain ⟨n,hn⟩ : ∃ n,lval a.l2 = n:=⟨_,rfl⟩
 obtain ⟨q,hq⟩ : ∃ q,lval b.l2 = q:=⟨_,rfl⟩
 have hAl : A.natAbs = lval a.l1:=by rw [<- hA]; exact sgz_abs _ _
 have hBl : B.natAbs = lval b.l1:=by rw [<- hB]; exact sgz_abs _ _
 obtain ⟨y,hy⟩ : ∃ y,A * (q : Int) + B * (n : Int) = y:=⟨_,rfl⟩
 obtain ⟨d,hd⟩ : ∃ d,n * q = d:=⟨_,rfl⟩
 rw [hn] at p3 p5 l2
 rw [hq] at r3 r5 l4
 have hd0 : 0 < d:=by rw [<- hd]; exact Nat.mul_pos p3 r3
 have hyl : y.natAbs < LB (2 * m + 1):=by
  have h1 : y.natAbs <= A.natAbs * q + B.natAbs * n:=by
   rw [<- hy]
   refine Nat.le_trans (Int.natAbs_add_le _ _) ?_
   rw [Int.natAbs_mul,Int.natAbs_mul,Int.natAbs_natCast,Int.natAbs_natCast]
   exact Nat.le_refl _
  rw [hAl,hBl] at h1
  refine Nat.lt_of_le_of_lt h1 (LB_sum ?_ ?_)
  ·have := LB_mul l1 l4; rwa [show m + m = 2 * m by omega] at this
  ·have := LB_mul l3 l2; rwa [show m + m = 2 * m by omega] at this
 have hdl : d < LB (2 * m):=by have := LB_mul l2 l4; rw [hd,show m + m = 2 * m by omega] at this; exact this
 have eP : sumP a b = lowP y d:=by unfold sumP; rw [hA,hB,hn,hq,hy,hd]
 have eQ : sumQ a b = lowQ y d:=by unfold sumQ; rw [hA,hB,hn,hq,hy,hd]
 obtain ⟨P,hP⟩ : ∃ P,lowP y d = P:=⟨_,rfl⟩
 obtain ⟨Q,hQ⟩ : ∃ Q,lowQ y d = Q:=⟨_,rfl⟩
 have hQ0 : 0 < Q:=by rw [<- hQ]; exact lowQ_pos y hd0
 have hPl : P.natAbs < LB (2 * m + 1):=by rw [<- hP]; exact Nat.lt_of_le_of_lt (lowP_le _ hd0) hyl
 have hQl : Q < LB (2 * m):=by rw [<- hQ]; exact Nat.lt_of_le_of_lt (lowQ_le _ _) hdl
 have e : midV a b = fracV a.kd (lowP P (Q * 2)) (lowQ P (Q * 2)):=by
  unfold midV
  rw [eP,eQ,hP,hQ,show (2 : Int).natAbs = 2 from rfl,show P * ((1 : Nat) : Int) = P by simp]
 have hD0 : 0 < Q * 2:=by omega
 have hpl : (lowP P (Q * 2)).natAbs < LB 64:=LB_lt (Nat.lt_of_le_of_lt (lowP_le _ hD0) hPl) (by omega)
 have hql : lowQ P (Q * 2) < LB 64:=by
  refine Nat.lt_of_le_of_lt (lowQ_le _ _) ?_
  have h1 : Q * 2 < LB (2 * m + 1):=by
   have : LB (2 * m + 1) = LB (2 * m) * 65536:=Nat.pow_succ 65536 (2 * m)
   omega
  exact LB_lt h1 (by omega)
 rw [e]
 obtain ⟨t1,t2⟩:=fracV_top ha.kd (lowP P (Q * 2)) (lowQ P (Q * 2))
 have hlt' : A * q < B * n:=by
  unfold vlt at hlt
  rw [p4,r4,p5,r5,hA,hB] at hlt
  exact hlt
 have hmid:=mid_ineq (p:=A) (q:=n) (r:=B) (t:=q) (y:=y) (d:=d) (by omega) (by omega) hlt' hy.symm (by rw [<- hd]; simp)
 have k1:=(low_lt (y:=y) hd0 A n)
 have k2:=(low_lt (y:=y) hd0 B q)
 rw [hP,hQ] at k1 k2
 have m1:=low_lt (y:=P) hD0 A n
 have m2:=low_lt (y:=P) hD0 B q
 have s1 : A * ((Q * 2 : Nat) : Int) < P * n:=by
  have hE:=low_eq y d
  rw [hP,hQ] at hE
  have h1 : A * (d * 2) * Q < y * n * Q:=Int.mul_lt_mul_of_pos_right hmid.1 (by omega)
  have h2 : y * n * Q = P * n * d:=by rw [Int.mul_assoc,Int.mul_comm (n : Int),<- Int.mul_assoc,<- hE,Int.mul_assoc,Int.mul_comm (d : Int),<- Int.mul_assoc]
  have h3 : A * ((d : Int) * 2) * Q = A * ((Q * 2 : Nat) : Int) * d:=by
   rw [Int.natCast_mul]
   show A * ((d : Int) * 2) * Q = A * ((Q : Int) * 2) * d
   ac_rfl
  rw [h2,h3] at h1
  exact Int.lt_of_mul_lt_mul_right h1 (by omega)
 have s2 : P * q < B * ((Q * 2 : Nat) : Int):=by
  have hE:=low_eq y d
  rw [hP,hQ] at hE
  have h1 : y * q * Q < B * (d * 2) * Q:=Int.mul_lt_mul_of_pos_right hmid.2 (by omega)
  have h2 : y * q * Q = P * q * d:=by rw [Int.mul_assoc,Int.mul_comm (q : Int),<- Int.mul_assoc,<- hE,Int.mul_assoc,Int.mul_comm (d : Int),<- Int.mul_assoc]
  have h3 : B * ((d : Int) * 2) * Q = B * ((Q * 2 : Nat) : Int) * d:=by
   rw [Int.natCast_mul]
   show B * ((d : Int) * 2) * Q = B * ((Q : Int) * 2) * d
   ac_rfl
  rw [h2,h3] at h1
  exact Int.lt_of_mul_lt_mul_right h1 (by omega)
 refine ⟨fracV_ok ha.kd (lowQ_pos P hD0) (low_cop P hD0) (LB_lt hpl (by decide)) (LB_lt hql (by decide)),rfl,fracV_good hpl hql,⟨limbs_lt _,limbs_lt _⟩,?_,?_⟩
 ·unfold vlt
  rw [t1,t2,p4,p5,hA]
  exact m1.2.2 s1
 ·unfold vlt
  rw [t1,t2,r4,r5,hB]
  exact m2.1.2 s2
theorem vlt_irr {a b : Vq} (h : vlt a b) : vle b a = false /\ vle a b = true:=by
 unfold vlt at h
 unfold vle
 constructor
 ·simp; exact h
 ·simp; omega
theorem veq_refl (a : Vq) : veq a a = true:=by unfold veq; simp
theorem veq_lt {a b : Vq} (h : vlt a b) : veq b a = false /\ veq a b = false:=by
 unfold vlt at h
 unfold veq
 constructor <;> simp <;> omega
theorem srch_between {kd : Int} {l : List Vq} (ho : CutsOk kd l) {v : Vq} (hv : v.ok = true) {i : Nat} (hi : i <= l.length) (hlo : 0 < i -> vlt (l[i - 1]?.getD v0) v) (hhi : i < l.length -> vlt v (l[i]?.getD v0)) : srch l v = i /\ fnd l v = false:=by
 have h1 : ∀ j,j < i -> vlt (l[j]?.getD v0) v:=fun j hj => by
  have hl:=hlo (by omega)
  by_cases he : j = i - 1
  ·rw [he]; exact hl
  ·refine vlt_trans (b:=l[i - 1]?.getD v0) (ho.at (by omega)).2.1 hv ?_ hl
   have := List.pairwise_iff_getElem.1 ho.inc j (i - 1) (by omega) (by omega) (by omega)
   rw [List.getElem?_eq_getElem (by omega),List.getElem?_eq_getElem (by omega)]
   exact this
 have h2 : ∀ j,i <= j -> j < l.length -> vlt v (l[j]?.getD v0):=fun j hj hjl => by
  have hl:=hhi (by omega)
  by_cases he : j = i
  ·rw [he]; exact hl
  ·refine vlt_trans (b:=l[i]?.getD v0) (ho.at (by omega)).2.1 (ho.at hjl).2.1 hl ?_
   have := List.pairwise_iff_getElem.1 ho.inc i j (by omega) (by omega) (by omega)
   rw [List.getElem?_eq_getElem (show i < l.length by omega),List.getElem?_eq_getElem hjl]
   exact this
 have hs : srch l v = i:=srch_is hi (fun j hj => by unfold atLeast; rw [if_pos (by omega)]; exact (vlt_irr (h1 j hj)).1) (fun j hj hjl => by unfold atLeast; rw [if_pos hjl]; exact (vlt_irr (h2 j hj hjl)).2)
 refine ⟨hs,?_⟩
 unfold fnd
 rw [hs]
 by_cases hil : i < l.length
 ·rw [(veq_lt (hhi hil)).1,Bool.and_false]
 ·rw [decide_eq_false hil,Bool.false_and]
theorem srch_self {kd : Int} {l : List Vq} (ho : CutsOk kd l) {i : Nat} (hi : i < l.length) : srch l (l[i]?.getD v0) = i /\ fnd l (l[i]?.getD v0) = true:=by
 have hpw : ∀ a b,a < b -> b < l.length -> vlt (l[a]?.getD v0) (l[b]?.getD v0):=fun a b hab hb => by
  have := List.pairwise_iff_getElem.1 ho.inc a b (by omega) hb hab
  rw [List.getElem?_eq_getElem (show a < l.length by omega),List.getElem?_eq_getElem hb]
  exact this
 have hself : vle (l[i]?.getD v0) (l[i]?.getD v0) = true:=by unfold vle; simp
 have hs : srch l (l[i]?.getD v0) = i:=srch_is (by omega) (fun j hj => by unfold atLeast; rw [if_pos (by omega)]; exact (vlt_irr (hpw j i hj hi)).1) (fun j hj hjl => by
  unfold atLeast; rw [if_pos hjl]
  by_cases he : j = i
  ·rw [he]; exact hself
  ·exact (vlt_irr (hpw i j (by omega) hjl)).2)
 refine ⟨hs,?_⟩
 unfold fnd
 rw [hs,decide_eq_true hi,veq_refl]; rfl
theorem whole_lt {a b : Vq} (ha : a.fr = false) (hb : b.fr = false) : vlt a b ↔ a.i < b.i:=by
 unfold vlt Vq.top Vq.bot
 rw [ha,hb]
 simp
structure CutsFine (s : Sc) (m : Nat) : Prop where
 ok : s.okB = true
 good : ∀ c ∈ s.cuts,c.good = true
 dig : ∀ c ∈ s.cuts,c.dig
 lim : ∀ c ∈ s.cuts,c.lim m
theorem smp_day {s : Sc} {m : Nat} (h : CutsFine s m) (hd : isDay s.kd = true) {c : Nat} (hp : s.poss c = true) (hev : c % 2 = 0) :
  (wholeV s.kd (smpI s c)).ok = true /\ srch s.cuts (wholeV s.kd (smpI s c)) = c / 2 /\ fnd s.cuts (wholeV s.kd (smpI s c)) = false:=by
 obtain ⟨hk2,hk3,hk0⟩:=isDay_no hd
 have hn:=okB_day h.ok hd
 have ho:=okB_cutsOk h.ok h.good
 have hkd : s.kd = 4 \/ s.kd = 5 \/ s.kd = 6:=by unfold isDay at hd; simpa [or_assoc] using hd
 have hfrK : ∀ v : Vq,v.kd = s.kd -> v.fr = false:=fun v hv => by unfold Vq.fr; rw [hv]; rcases hkd with h | h | h <;> rw [h] <;> rfl
 have hfw : (wholeV s.kd (smpI s c)).fr = false:=hfrK _ rfl
 have hcn : c < 2 * s.cuts.length + 1 /\ possN s.kd s.cuts c = true:=by
  unfold Sc.poss cntN at hp
  rw [if_neg (by simpa using hk0)] at hp
  simp only [Bool.and_eq_true,decide_eq_true_eq] at hp
  exact ⟨by omega,hp.2⟩
 obtain ⟨hcn,hpn⟩:=hcn
 have hgap : 1 < hiS s.kd s.cuts c - loS s.kd s.cuts c:=by
  unfold possN at hpn
  rw [hd] at hpn
  have : (c % 2 == 1) = false:=by simp; omega
  rw [this] at hpn
  simpa using hpn
 have hrange : ∀ j,j < s.cuts.length -> (if s.kd = 4 then 0 <= (s.cuts[j]?.getD v0).i /\ (s.cuts[j]?.getD v0).i < 65536 else -1048576 <= (s.cuts[j]?.getD v0).i /\ (s.cuts[j]?.getD v0).i <= 1048576):=fun j hj => by
  obtain ⟨_,k2,k3⟩:=ho.at hj
  have := k2
  unfold Vq.ok at this
  rw [hfrK _ k3] at this
  rcases hkd with e | e | e <;> rw [k3,e] at this <;> rw [e] <;> simp at this <;> simp <;> omega
 obtain ⟨i,hi⟩ : ∃ i,c / 2 = i:=⟨_,rfl⟩
 have hin : i <= s.cuts.length:=by omega
 obtain ⟨I,hI⟩ : ∃ I,smpI s c = I:=⟨_,rfl⟩
 have hlo : 0 < i -> (s.cuts[i - 1]?.getD v0).i < I:=fun h0 => by
  rw [<- hI]; unfold smpI
  unfold hiS loS at hgap
  rw [hi] at hgap ⊢
  rw [if_neg (by omega)]
  rw [if_pos (show 0 < c by omega)] at hgap
  by_cases hl : i = s.cuts.length
  ·rw [if_pos hl,hl]; omega
  ·rw [if_neg hl]
   rw [if_pos (by omega)] at hgap
   omega
 have hhi : i < s.cuts.length -> I < (s.cuts[i]?.getD v0).i:=fun h0 => by
  rw [<- hI]; unfold smpI
  unfold hiS loS at hgap
  rw [hi] at hgap ⊢
  by_cases hz : i = 0
  ·subst hz; rw [if_pos rfl]; omega
  ·rw [if_neg hz,if_neg (by omega)]
   rw [if_pos (show 0 < c by omega),if_pos h0] at hgap
   omega
 have hIr : if s.kd = 4 then 0 <= I /\ I < 65536 else -1048576 <= I /\ I <= 1048576:=by
  unfold hiS loS at hgap
  rw [hi] at hgap
  by_cases hz : i = 0
  ·have h1:=hhi (by omega)
   have h2:=hrange 0 (by omega)
   have h3 : I = (s.cuts[0]?.getD v0).i + (-1):=by rw [<- hI]; unfold smpI; rw [hi,if_pos hz]
   subst hz
   have hc0 : ¬ 0 < c:=by omega
   rw [if_neg hc0,if_pos (show 0 < s.cuts.length by omega)] at hgap
   by_cases h4 : s.kd = 4
   ·rw [if_pos h4] at hgap h2 ⊢; omega
   ·rw [if_neg h4] at hgap h2 ⊢; omega
  ·have h1:=hlo (by omega)
   have h2:=hrange (i - 1) (by omega)
   by_cases hl : i < s.cuts.length
   ·have h3:=hhi hl
    have h5:=hrange i hl
    by_cases h4 : s.kd = 4
    ·rw [if_pos h4] at h2 h5 ⊢; omega
    ·rw [if_neg h4] at h2 h5 ⊢; omega
   ·have hle : i = s.cuts.length:=by omega
    have h3 : I = (s.cuts[s.cuts.length - 1]?.getD v0).i + 1:=by rw [<- hI]; unfold smpI; rw [hi,if_neg hz,if_pos hle]
    rw [hle] at h1 h2
    rw [if_pos (show 0 < c by omega),if_neg (show ¬ i < s.cuts.length by omega),hle] at hgap
    by_cases h4 : s.kd = 4
    ·rw [if_pos h4] at hgap h2 ⊢; omega
    ·rw [if_neg h4] at hgap h2 ⊢; omega
 rw [hI] at hfw ⊢
 rw [hi]
 have hok : (wholeV s.kd I).ok = true:=by
  unfold Vq.ok
  rw [hfw]
  rcases hkd with e | e | e <;> rw [e] at hIr <;> simp [wholeV,e] at hIr ⊢ <;> exact hIr
 refine ⟨hok,srch_between ho hok hin (fun h0 => ?_) (fun h0 => ?_)⟩
 ·exact (whole_lt (hfrK _ (ho.at (by omega)).2.2) hfw).2 (hlo h0)
 ·exact (whole_lt hfw (hfrK _ (ho.at h0).2.2)).2 (hhi h0)
theorem smp_cell {s : Sc} {m : Nat} (h : CutsFine s m) (hm : m <= 30) {c : Nat} (hp : s.poss c = true) : cellS s (smpV s c) = ((c : Int),true) /\ (smpV s c).good = true:=by
 unfold cellS
 by_cases h0 : s.kd = 0
 ·have hc2 : c < 2:=by
   unfold Sc.poss cntN at hp
   rw [if_pos h0] at hp
   simp only [Bool.and_eq_true,decide_eq_true_eq] at hp
   omega
  have hv : smpV s c = wholeV 1 c:=by unfold smpV; rw [if_pos h0]
  have hok : (wholeV 1 c).ok = true:=by
   rcases c with _ | _ | c
   ·rfl
   ·rfl
   ·omega
  rw [hv,h.ok,hok]
  simp [h0]
  exact ⟨rfl,rfl⟩
 ·have ho:=okB_cutsOk h.ok h.good
  have e0 : (s.kd == 0) = false:=by simpa using h0
  have hcn : c < 2 * s.cuts.length + 1:=by
   unfold Sc.poss cntN at hp
   rw [if_neg h0] at hp
   simp only [Bool.and_eq_true,decide_eq_true_eq] at hp
   omega
  have hn1 : 1 <= s.cuts.length:=by
   have := h.ok
   unfold Sc.okB at this
   rw [if_neg h0] at this
   simp only [Bool.and_eq_true,decide_eq_true_eq] at this
   omega
  have fin : ∀ v : Vq,v.ok = true -> v.kd = s.kd -> v.good = true -> ((c % 2 = 1 /\ srch s.cuts v = c / 2 /\ fnd s.cuts v = true) \/ (c % 2 = 0 /\ srch s.cuts v = c / 2 /\ fnd s.cuts v = false)) →
    (if s.okB = false \/ v.ok = false then ((0 : Int),false) else if s.kd = 0 then (if v.kd = 1 then (v.i,true) else (0,false)) else if v.kd ≠ s.kd then (0,false) else if fnd s.cuts v = true then (2 * (srch s.cuts v : Int) + 1,true) else (2 * (srch s.cuts v : Int),true)) = ((c : Int),true) /\ v.good = true:=fun v h1 h2 h3 h4 => by
   refine ⟨?_,h3⟩
   rw [h.ok,h1,if_neg (by simp),if_neg h0,if_neg (by simp [h2])]
   rcases h4 with ⟨a,b,d⟩ | ⟨a,b,d⟩
   ·rw [d,b,if_pos rfl]; simp; omega
   ·rw [d,b]; simp; omega
  by_cases hodd : c % 2 = 1
  ·have hmn : c / 2 < s.cuts.length:=by omega
   have hv : smpV s c = s.cuts[c / 2]?.getD v0:=by
    unfold smpV smpW
    rw [if_neg h0,if_pos hodd]
    split <;> rfl
   obtain ⟨k1,k2,k3⟩:=ho.at hmn
   obtain ⟨k4,k5⟩:=srch_self ho hmn
   rw [hv]
   exact fin _ k2 k3 k1 (.inl ⟨hodd,k4,k5⟩)
  ·by_cases hd : isDay s.kd = true
   ·have hv : smpV s c = wholeV s.kd (smpI s c):=by unfold smpV smpW; rw [if_neg h0,if_pos hd,if_neg hodd]
    obtain ⟨k1,k2,k3⟩:=smp_day h hd hp (by omega)
    rw [hv]
    exact fin _ k1 rfl rfl (.inr ⟨by omega,k2,k3⟩)
   ·have hkd : s.kd = 2 \/ s.kd = 3:=by
     have h1:=h.ok
     unfold Sc.okB at h1
     rw [if_neg h0] at h1
     simp only [Bool.and_eq_true,decide_eq_true_eq] at h1
     have h2 : ¬ (s.kd = 4 \/ s.kd = 5 \/ s.kd = 6):=fun e => hd (by unfold isDay; simpa [or_assoc] using e)
     omega
    have hfine : ∀ j,j < s.cuts.length -> FrFine (s.cuts[j]?.getD v0) /\ (s.cuts[j]?.getD v0).kd = s.kd /\ (s.cuts[j]?.getD v0).lim m:=fun j hj => by
     obtain ⟨k1,k2,k3⟩:=ho.at hj
     have hmem : s.cuts[j]?.getD v0 ∈ s.cuts:=by rw [List.getElem?_eq_getElem hj]; exact List.getElem_mem hj
     exact ⟨⟨by rw [k3]; exact hkd,k2,k1,h.dig _ hmem⟩,k3,h.lim _ hmem⟩
    by_cases hz : c / 2 = 0
    ·have hv : smpV s c = besV (s.cuts[0]?.getD v0) (-1):=by unfold smpV; rw [if_neg h0,if_neg hd,if_neg hodd,if_pos hz]
     obtain ⟨f1,f2,f3⟩:=hfine 0 (by omega)
     obtain ⟨k1,k2,k3,k4,_,k6⟩:=bes_fine f1 f3 (by omega) (-1) (.inr rfl)
     obtain ⟨s1,s2⟩:=srch_between ho k1 (i:=0) (by omega) (fun e => absurd e (by omega)) (fun _ => k6 rfl)
     rw [hv]
     exact fin _ k1 (by rw [k2,f2]) k3 (.inr ⟨by omega,by rw [hz]; exact s1,s2⟩)
    ·by_cases hl : c / 2 = s.cuts.length
     ·have hv : smpV s c = besV (s.cuts[s.cuts.length - 1]?.getD v0) 1:=by unfold smpV; rw [if_neg h0,if_neg hd,if_neg hodd,if_neg hz,if_pos hl]
      obtain ⟨f1,f2,f3⟩:=hfine (s.cuts.length - 1) (by omega)
      obtain ⟨k1,k2,k3,k4,k5,_⟩:=bes_fine f1 f3 (by omega) 1 (.inl rfl)
      obtain ⟨s1,s2⟩:=srch_between ho k1 (i:=s.cuts.length) (Nat.le_refl _) (fun _ => k5 rfl) (fun e => absurd e (by omega))
      rw [hv]
      exact fin _ k1 (by rw [k2,f2]) k3 (.inr ⟨by omega,by rw [hl]; exact s1,s2⟩)
     ·have hv : smpV s c = midV (s.cuts[c / 2 - 1]?.getD v0) (s.cuts[c / 2]?.getD v0):=by unfold smpV; rw [if_neg h0,if_neg hd,if_neg hodd,if_neg hz,if_neg hl]
      obtain ⟨f1,f2,f3⟩:=hfine (c / 2 - 1) (by omega)
      obtain ⟨g1,g2,g3⟩:=hfine (c / 2) (by omega)
      have hlt : vlt (s.cuts[c / 2 - 1]?.getD v0) (s.cuts[c / 2]?.getD v0):=by
       have := List.pairwise_iff_getElem.1 ho.inc (c / 2 - 1) (c / 2) (by omega) (by omega) (by omega)
       rw [List.getElem?_eq_getElem (show c / 2 - 1 < s.cuts.length by omega),List.getElem?_eq_getElem (show c / 2 < s.cuts.length by omega)]
       exact this
      obtain ⟨k1,k2,k3,k4,k5,k6⟩:=mid_fine f1 g1 (by rw [g2,f2]) f3 g3 hm hlt
      obtain ⟨s1,s2⟩:=srch_between ho k1 (i:=c / 2) (by omega) (fun _ => k5) (fun _ => k6)
      rw [hv]
      exact fin _ k1 (by rw [k2,f2]) k3 (.inr ⟨by omega,s1,s2⟩)
theorem cells_mem {s : Sc} {c : Nat} : c ∈ cellsS s ↔ s.okB = true /\ s.poss c = true:=by
 unfold cellsS
 by_cases ho : s.okB = true
 ·rw [if_pos ho]
  unfold possL
  rw [List.mem_filter,List.mem_range]
  constructor
  ·rintro ⟨_,h⟩; exact ⟨ho,h⟩
  ·rintro ⟨_,h⟩
   refine ⟨?_,h⟩
   unfold Sc.poss at h
   simp only [Bool.and_eq_true,decide_eq_true_eq] at h
   omega
 ·rw [if_neg ho]
  constructor
  ·intro h; cases h
  ·rintro ⟨h,_⟩; exact absurd h ho
theorem cells_inc (s : Sc) : (cellsS s).Pairwise (· < ·):=by
 unfold cellsS
 split
 ·unfold possL; exact (List.pairwise_lt_range (n:=cntN s.kd s.cuts.length)).filter _
 ·exact List.Pairwise.nil
theorem cells_some {s : Sc} : decide (0 < (cellsS s).length) = s.okB:=by
 cases ho : s.okB with
 | false => simp [cellsS,ho]
 | true =>
  rw [decide_eq_true_iff]
  by_cases h0 : s.kd = 0
  ·refine List.length_pos_of_mem (a:=0) (cells_mem.2 ⟨ho,?_⟩)
   unfold Sc.poss possN cntN
   rw [if_pos h0,h0]; rfl
  ·refine List.length_pos_of_mem (a:=1) (cells_mem.2 ⟨ho,?_⟩)
   have h1 : 1 <= s.cuts.length:=by
    have := ho
    unfold Sc.okB at this
    rw [if_neg h0] at this
    simp only [Bool.and_eq_true,decide_eq_true_eq] at this
    omega
   unfold Sc.poss possN cntN
   rw [if_neg h0]
   simp
   omega
theorem cell_none {s : Sc} {v : Vq} (h : (cellS s v).2 = false) : cellS s v = (0,false):=by
 unfold cellS at h ⊢
 split at h
 ·rename_i h1; rw [if_pos h1]
 ·rename_i h1
  rw [if_neg h1]
  split at h
  ·rename_i h2
   rw [if_pos h2]
   split at h
   ·cases h
   ·rename_i h3; rw [if_neg h3]
  ·rename_i h2
   rw [if_neg h2]
   split at h
   ·rename_i h3; rw [if_pos h3]
   ·split at h <;> cases h
theorem vle_day {a b : Vq} (ha : a.fr = false) (hb : b.fr = false) : vle a b = decide (a.i <= b.i):=by
 unfold vle Vq.top Vq.bot
 rw [ha,hb]
 simp
theorem veq_day {a b : Vq} (ha : a.fr = false) (hb : b.fr = false) : veq a b = decide (a.i = b.i):=by
 unfold veq Vq.top Vq.bot
 rw [ha,hb]
 simp
theorem day_range {v : Vq} (h : v.ok = true) (hk : isDay v.kd = true) : if v.kd = 4 then 0 <= v.i /\ v.i < 65536 else -1048576 <= v.i /\ v.i <= 1048576:=by
 unfold isDay at hk
 simp only [Bool.or_eq_true,beq_iff_eq] at hk
 unfold Vq.ok Vq.fr at h
 rcases hk with (hk | hk) | hk <;> rw [hk] at h ⊢ <;> simp at h ⊢ <;> omega
theorem day_fr {v : Vq} (hk : isDay v.kd = true) : v.fr = false:=by
 unfold isDay at hk
 simp only [Bool.or_eq_true,beq_iff_eq] at hk
 unfold Vq.fr
 rcases hk with (hk | hk) | hk <;> rw [hk] <;> rfl
theorem cell_poss {s : Sc} {v : Vq} (hg : ∀ c ∈ s.cuts,c.good = true) (h : (cellS s v).2 = true) : 0 <= (cellS s v).1 /\ (cellS s v).1.toNat ∈ cellsS s:=by
 unfold cellS at h ⊢
 split at h
 ·cases h
 rename_i h1
 rw [if_neg h1]
 have ho : s.okB = true:=by
  cases hx : s.okB with
  | true => rfl
  | false => exact absurd (.inl hx) h1
 have hv : v.ok = true:=by
  cases hx : v.ok with
  | true => rfl
  | false => exact absurd (.inr hx) h1
 split at h
 ·rename_i h2
  rw [if_pos h2]
  split at h
  ·rename_i h3
   rw [if_pos h3]
   have hi : 0 <= v.i /\ v.i <= 1:=by
    unfold Vq.ok Vq.fr at hv
    rw [h3] at hv
    simp at hv
    omega
   refine ⟨hi.1,cells_mem.2 ⟨ho,?_⟩⟩
   unfold Sc.poss possN cntN
   rw [if_pos h2,h2]
   simp [isDay]
   omega
  ·cases h
 ·rename_i h2
  rw [if_neg h2]
  split at h
  ·cases h
  rename_i h3
  rw [if_neg h3]
  have hvk : v.kd = s.kd:=by
   apply Classical.byContradiction
   intro e; exact h3 e
  have hle : srch s.cuts v <= s.cuts.length:=List.findIdx_le_length
  have hfl : fnd s.cuts v = true -> srch s.cuts v < s.cuts.length:=fun hf => by
   unfold fnd at hf
   simp only [Bool.and_eq_true,decide_eq_true_eq] at hf
   exact hf.1
  by_cases hf : fnd s.cuts v = true
  ·rw [if_pos hf]
   have := hfl hf
   refine ⟨by dsimp only; omega,cells_mem.2 ⟨ho,?_⟩⟩
   have ht : (2 * (srch s.cuts v : Int) + 1).toNat = 2 * srch s.cuts v + 1:=by omega
   dsimp only
   rw [ht]
   unfold Sc.poss possN cntN
   rw [if_neg h2]
   simp
   omega
  ·rw [if_neg hf]
   refine ⟨by dsimp only; omega,cells_mem.2 ⟨ho,?_⟩⟩
   have ht : (2 * (srch s.cuts v : Int)).toNat = 2 * srch s.cuts v:=by omega
   dsimp only
   rw [ht]
   unfold Sc.poss cntN
   rw [if_neg h2]
   have hp : possN s.kd s.cuts ((2 * srch s.cuts v : Nat) : Int).toNat = true:=by
    rw [Int.toNat_natCast]
    unfold possN
    by_cases hd : isDay s.kd = true
    ·have hdv : isDay v.kd = true:=by rw [hvk]; exact hd
     have hvf:=day_fr hdv
     have hr:=day_range hv hdv
     rw [hvk] at hr
     have hcut : ∀ j,j < s.cuts.length -> (s.cuts[j]?.getD v0).fr = false:=fun j hj => by
      obtain ⟨_,_,k3⟩:=(okB_cutsOk ho hg).at hj
      exact day_fr (by rw [k3]; exact hd)
     have hlo : loS s.kd s.cuts (2 * srch s.cuts v) < v.i:=by
      unfold loS
      by_cases hz : 0 < 2 * srch s.cuts v
      ·rw [if_pos hz,show 2 * srch s.cuts v / 2 - 1 = srch s.cuts v - 1 by omega]
       have hj : srch s.cuts v - 1 < s.cuts.length:=by omega
       have hn:=List.not_of_lt_findIdx (p:=fun c => vle v c) (xs:=s.cuts) (i:=srch s.cuts v - 1) (by unfold srch at hz ⊢; omega)
       have hq:=hcut _ hj
       rw [List.getElem?_eq_getElem hj,Option.getD_some] at hq ⊢
       rw [vle_day hvf hq] at hn
       simpa using hn
      ·rw [if_neg hz]
       split <;> rename_i h4
       ·rw [if_pos h4] at hr; omega
       ·rw [if_neg h4] at hr; omega
     have hhi : v.i < hiS s.kd s.cuts (2 * srch s.cuts v):=by
      unfold hiS
      rw [show 2 * srch s.cuts v / 2 = srch s.cuts v by omega]
      by_cases hz : srch s.cuts v < s.cuts.length
      ·rw [if_pos hz]
       have hq:=hcut _ hz
       have hy : vle v (s.cuts[srch s.cuts v]?.getD v0) = true:=by
        rw [List.getElem?_eq_getElem hz,Option.getD_some]
        exact List.findIdx_getElem (p:=fun c => vle v c) (w:=hz)
       have hne : veq (s.cuts[srch s.cuts v]?.getD v0) v = false:=by
        unfold fnd at hf
        rw [decide_eq_true hz] at hf
        simpa using hf
       rw [vle_day hvf hq,decide_eq_true_iff] at hy
       rw [veq_day hq hvf,decide_eq_false_iff_not] at hne
       omega
      ·rw [if_neg hz]
       split <;> rename_i h4
       ·rw [if_pos h4] at hr; omega
       ·rw [if_neg h4] at hr; omega
     rw [decide_eq_true (show 1 < hiS s.kd s.cuts (2 * srch s.cuts v) - loS s.kd s.cuts (2 * srch s.cuts v) by omega)]
     simp
    ·have : isDay s.kd = false:=by simpa using hd
     rw [this]; rfl
   rw [hp]
   simp
   omega
def isIn (s : Sc) (c : Int) : Bool:=s.okB && s.poss c
theorem isIn_iff (s : Sc) (c : Int) : isIn s c = true ↔ ∃ x ∈ cellsS s,(x : Int) = c:=by
 unfold isIn
 rw [Bool.and_eq_true]
 constructor
 ·rintro ⟨h1,h2⟩
  have h3 : 0 <= c:=by
   unfold Sc.poss at h2
   simp only [Bool.and_eq_true,decide_eq_true_eq] at h2
   exact h2.1.1
  obtain ⟨n,rfl⟩:=Int.eq_ofNat_of_zero_le h3
  exact ⟨n,cells_mem.2 ⟨h1,h2⟩,rfl⟩
 ·rintro ⟨x,hx,rfl⟩
  exact cells_mem.1 hx
def isL (L : List Nat) (c : Int) : Bool:=L.any fun x => (x : Int) == c
theorem isL_in (s : Sc) (c : Int) : isL (cellsS s) c = isIn s c:=by
 rw [Bool.eq_iff_iff,isIn_iff]
 unfold isL
 simp
theorem isL_snoc {L : List Nat} {k : Nat} {x : Nat} (h : L[k]? = some x) (c : Int) : isL (L.take (k + 1)) c = (isL (L.take k) c || (x : Int) == c):=by
 unfold isL
 rw [List.take_add_one,h,List.any_append]
 simp
theorem isL_yes {L : List Nat} {k : Nat} {x : Nat} (h : L[k]? = some x) {c : Int} (he : (x : Int) = c) : isL L c = true:=by
 unfold isL
 rw [List.any_eq_true]
 exact ⟨x,List.mem_of_getElem? h,by simpa using he⟩
theorem isF_any (K C : Nat) (v : Value) (L : List Nat) (c : Int) (w : World) (q : Blk w C #[v] 39) (hv : Nats K w v L) (hK : K <= w.heap.size) :
  Calls Tryz.prog 8 #[.int .i64 c,.pointer (some ⟨C,0,none⟩)] w fun e w' => e = .returned (.bool (isL L c)) /\ Below w.heap.size w w':=by
 obtain ⟨va,vc,rfl,hlc,hm⟩:=hv.form
 have hm : L.length <= maxLen:=Nat.le_trans hlc hm
 clear hlc
 unfold maxLen at hm
 obtain ⟨n,hn⟩ : ∃ n,L.length = n:=⟨_,rfl⟩
 have c0 : w.cell? ⟨C,0,none⟩ = some (.slice va n vc):=by rw [<- hn]; exact q.at rfl
 obtain ⟨r,hr⟩ : ∃ r,isL L c = r:=⟨_,rfl⟩
 have HR:=Lib.hid hr
 rw [hr]
 have HN:=Lib.hid hn
 have HV:=Lib.hid hv
 rw [hn] at hm
 clear hr hn hv q
 go_enter Tryz.func8,Tryz.ntmps8
 go_wp2_with fail
 go_loopw [8] (fun iv wr => ∃ k : Nat,k <= n /\ iv = .int .i64 k /\ Hid (isL (L.take k) c = false) /\ wr = w) (fun iv _ => n - (intOf iv).toNat)
 case atStart => exact ⟨0,Nat.zero_le _,rfl,Lib.hid (by rw [List.take_zero]; rfl),rfl⟩
 case round =>
  obtain ⟨k,hk,rfl,HL,rfl⟩:=hrel
  by_cases hlt : k < n
  ·obtain ⟨b,o,cap,he,_,_,hbK,hc⟩:=HV.out.pos (by rw [HN.out]; omega)
   rw [HN.out] at he hc
   simp only [Value.slice.injEq,true_and] at he
   obtain ⟨rfl,rfl⟩:=he
   obtain ⟨x,hx⟩ : ∃ x,L[k]? = some x:=⟨_,List.getElem?_eq_getElem (by rw [HN.out]; exact hlt)⟩
   have e0:=hc k hlt
   rw [hx,Option.getD_some] at e0
   have HS:=Lib.hid (isL_snoc hx c)
   have HY : Hid ((x : Int) = c -> r = true):=Lib.hid fun h => by rw [<- HR.out]; exact isL_yes hx h
   clear hc hx c0
   by_cases hxc : (x : Int) = c
   ·have hq : ((x : Int) == c) = true:=by simpa using hxc
    have HE:=Lib.hid (HY.out hxc)
    clear hxc
    go_wp2_with fail
    go_ret
    exact ⟨by rw [HE.out]; rfl,Below.refl _ _⟩
   ·have hq : ((x : Int) == c) = false:=by simpa using hxc
    have HL2 : Hid (isL (L.take (k + 1)) c = false):=Lib.hid (by rw [HS.out,HL.out,hq]; rfl)
    clear hxc
    go_wp2_with fail
    exact ⟨⟨k + 1,by omega,by go_num,HL2,by first | rfl | trivial⟩,by simp [intOf]; omega⟩
  ·obtain rfl : k = n:=by omega
   have HE : Hid (r = false):=Lib.hid (by have := HL.out; rw [<- HN.out,List.take_length,HR.out] at this; exact this)
   go_wp2_with fail
   go_ret
   exact ⟨by rw [HE.out]; rfl,Below.refl _ _⟩
theorem snoc_ind {α : Type} {P : List α -> Prop} (h0 : P []) (h1 : ∀ l a,P l -> P (l ++ [a])) (l : List α) : P l:=by
 rw [<- List.reverse_reverse l]
 generalize l.reverse = m
 induction m with
 | nil => exact h0
 | cons a m ih => rw [List.reverse_cons]; exact h1 _ a ih
def sizeE : Nat -> Nat -> Ex -> Nat
 | 0,most,_ => most + 1
 | d + 1,most,e => e.args.foldl (fun n a => if n <= most then n + sizeE d (most - n) a else n) 1
def sizeL (d most : Nat) (l : List Ex) : Nat:=l.foldl (fun n a => if n <= most then n + sizeE d (most - n) a else n) 1
theorem sizeE_mk (d most : Nat) (o : Int) (nm : Str) (es : List Ex) : sizeE (d + 1) most (.mk o nm es) = sizeL d most es:=by rw [sizeE]; rfl
theorem sizeL_nil (d most : Nat) : sizeL d most [] = 1:=rfl
theorem sizeL_snoc (d most : Nat) (l : List Ex) (a : Ex) : sizeL d most (l ++ [a]) = if sizeL d most l <= most then sizeL d most l + sizeE d (most - sizeL d most l) a else sizeL d most l:=by
 unfold sizeL; rw [List.foldl_append]; rfl
theorem sizeL_le {d : Nat} (h : ∀ most e,sizeE d most e <= most + 1) (most : Nat) (l : List Ex) : sizeL d most l <= most + 1:=by
 induction l using snoc_ind with
 | h0 => rw [sizeL_nil]; omega
 | h1 l a ih =>
  rw [sizeL_snoc]
  split
  ·rename_i hc
   have := h (most - sizeL d most l) a
   omega
  ·exact ih
theorem sizeE_le : ∀ (d most : Nat) (e : Ex),sizeE d most e <= most + 1:=by
 intro d
 induction d with
 | zero => intro most e; exact Nat.le_refl _
 | succ d ih =>
  intro most e
  cases e with | mk o nm es => rw [sizeE_mk]; exact sizeL_le ih most es
theorem size_any (K : Nat) : ∀ (d most : Nat) (e : Ex) (x : Xv) (w : World),ExX K w e x -> K <= w.heap.size -> most <= 2 ^ 40 -> d <= 1000 →
  Calls Tryz.prog 54 #[x.agg,.int .i64 most,.int .i64 d] w fun en w' => en = .returned (.int .i64 (sizeE d most e)) /\ Below w.heap.size w w':=by
 intro d
 induction d with
 | zero =>
  intro most e x w h hK hm hd
  have hb : Below w.heap.size w (w.alloc (.cells x.cells 31)):=(Below.refl _ w).alloc (Nat.le_refl _) _
  go_enter Tryz.func54,Tryz.ntmps54
  go_wp2_with fail
  go_ret
  exact ⟨by simp [sizeE],hb⟩
 | succ d ih =>
  intro most e x w h hK hm hd
  cases e with
  | mk op nm es =>
  rw [ExX] at h
  obtain ⟨e0,e1,hnm,g,hg,hgs⟩:=h
  have hgs:=exsX_iff.1 hgs
  obtain ⟨va,vcap,h8,hvl,hvm⟩:=hg.form
  obtain ⟨xop,xnm,kd,b3,⟨a4,n4,m4⟩,b5,⟨a6,n6,m6⟩,i7,⟨a8,n8,m8⟩⟩:=x
  dsimp only at e0 e1 h8 hg
  subst e0 e1
  simp only [Sl.val,Value.slice.injEq] at h8
  obtain ⟨rfl,rfl,rfl⟩:=h8
  have hvm : es.length <= maxLen:=by omega
  clear hvl
  unfold maxLen at hvm
  obtain ⟨B0,hB0⟩ : ∃ B0,w.heap.size = B0:=⟨_,rfl⟩
  rw [hB0] at hK ⊢
  obtain ⟨x,hx⟩ : ∃ x : Xv,x = ⟨xop,xnm,kd,b3,⟨a4,n4,m4⟩,b5,⟨a6,n6,m6⟩,i7,⟨a8,es.length,m8⟩⟩:=⟨_,rfl⟩
  rw [<- hx]
  obtain ⟨W1,hW1⟩ : ∃ W1,w.alloc (.cells x.cells 31) = W1:=⟨_,rfl⟩
  have hb1 : Below B0 w W1:=hW1 ▸ (Below.refl B0 w).alloc (by omega) _
  have hs1 : W1.heap.size = B0 + 1:=by rw [<- hW1,<- hB0]; simp
  have q1 : Blk W1 B0 x.cells 31:=by rw [<- hW1,<- hB0]; exact Blk.new w _ _
  have HSZ : Hid (sizeE (d + 1) most (.mk xop xnm es) = sizeL d most es):=Lib.hid (sizeE_mk _ _ _ _ _)
  obtain ⟨sz,hsz⟩ : ∃ sz,sizeE (d + 1) most (.mk xop xnm es) = sz:=⟨_,rfl⟩
  rw [hsz] at HSZ ⊢
  rw [hx] at hW1 q1 ⊢
  obtain ⟨d0,d1,d2,d3,d4,d5,d6,d7,d8⟩:=q1.nine
  dsimp only [Xv.cells,Xv.agg] at hW1 ⊢
  have HW1:=Lib.hid hW1
  have HB:=Lib.hid hB0
  clear hW1 hnm hx hB0 hsz d0 d1 d2 d3 d4 d5 d6 d7 q1
  go_enter Tryz.func54,Tryz.ntmps54
  go_wp2_with fail
  simp only [HB.out]
  rw [HW1.out]
  go_wp2_with fail
  go_loopw [7,17] (fun nv i wr => ∃ (k n : Nat),k <= es.length /\ i = .int .i64 k /\ nv = .int .i64 n /\ n <= most + 1 /\ Hid (n = sizeL d most (es.take k)) /\ Below B0 w wr /\ B0 + 1 <= wr.heap.size) (fun _ i _ => es.length - (intOf i).toNat)
  case atStart => exact ⟨0,1,Nat.zero_le _,rfl,rfl,by omega,Lib.hid (by rw [List.take_zero]; rfl),hb1,by omega⟩
  case round =>
   obtain ⟨k,n,hk,rfl,rfl,hn,HN,hbr,hsr⟩:=hrel
   by_cases hlt : k < es.length
   ·obtain ⟨b,o,cap,he,_,hcm,hbK,hc⟩:=hg.pos (by omega)
    simp only [Sl.val,Value.slice.injEq,true_and] at he
    obtain ⟨rfl,rfl⟩:=he
    obtain ⟨k0,k1,k2,k3,k4,k5,k6,k7,k8⟩:=ex_cells (cells_below hbr (Nat.lt_of_lt_of_le hbK hK) hc) hlt
    obtain ⟨ek,hek⟩ : ∃ ek,es[k]? = some ek:=⟨_,List.getElem?_eq_getElem hlt⟩
    have hq:=hgs k ek hek
    rw [Nat.zero_add] at hq
    obtain ⟨y,hy⟩ : ∃ y,g k = y:=⟨_,rfl⟩
    rw [hy] at hq k0 k1 k2 k3 k4 k5 k6 k7 k8
    have hbl : Below B0 w (wr.alloc (.cells y.cells 31)):=hbr.alloc (by omega) _
    have HT : Hid (sizeL d most (es.take (k + 1)) = if n <= most then n + sizeE d (most - n) ek else n):=Lib.hid (by
     rw [List.take_succ_eq_append_getElem hlt,sizeL_snoc,<- HN.out,show es[k] = ek by rw [List.getElem?_eq_getElem hlt] at hek; exact Option.some.inj hek])
    by_cases hle : n <= most
    ·have hcall:=ih (most - n) ek y (wr.alloc (.cells y.cells 31)) (hq.below hbl hK (Nat.le_refl _)) (by simp; omega) (by omega) (by omega)
     have hsle:=sizeE_le d (most - n) ek
     obtain ⟨z,hz⟩ : ∃ z,sizeE d (most - n) ek = z:=⟨_,rfl⟩
     rw [hz] at hcall hsle HT
     have hcast : ((most - n : Nat) : Int) = (most : Int) - n:=by omega
     rw [hcast] at hcall
     have HT2 : Hid (n + z = sizeL d most (es.take (k + 1))):=Lib.hid (by rw [HT.out,if_pos hle])
     clear hek hc hg hgs ih hy hz hcast HT HN
     go_wp2_with fail
     refine hcall.mono ?_
     rintro e w5 ⟨rfl,hb5⟩
     have hs5:=hb5.size
     simp only [World.size_alloc] at hs5
     go_wp2_with fail
     exact ⟨⟨k + 1,n + z,by omega,by go_num,by go_num,by omega,HT2,hbl.trans (hb5.mono (by simp; omega)),by omega⟩,by simp [intOf]; omega⟩
    ·have HT2 : Hid (n = sizeL d most (es.take (k + 1))):=Lib.hid (by rw [HT.out,if_neg hle])
     clear hek hc hg hgs ih hy HT HN
     go_wp2_with fail
     exact ⟨⟨k + 1,n,by omega,by go_num,rfl,by omega,HT2,hbl,by simp; omega⟩,by simp [intOf]; omega⟩
   ·obtain rfl : k = es.length:=by omega
    have HE : Hid (n = sz):=Lib.hid (by rw [HN.out,HSZ.out,List.take_length])
    go_wp2_with fail
    go_ret
    exact ⟨by rw [<- HE.out]; rfl,hbr⟩
theorem Size_any (K : Nat) (most : Nat) (e : Ex) (x : Xv) (w : World) (h : ExX K w e x) (hK : K <= w.heap.size) (hm : most <= 2 ^ 40) :
  Calls Tryz.prog 30 #[x.agg,.int .i64 most] w fun en w' => en = .returned (.int .i64 (sizeE 24 most e)) /\ Below w.heap.size w w':=by
 obtain ⟨W1,hW1⟩ : ∃ W1,w.alloc (.cells x.cells 31) = W1:=⟨_,rfl⟩
 have hb1 : Below w.heap.size w W1:=hW1 ▸ (Below.refl _ w).alloc (Nat.le_refl _) _
 have hs1 : W1.heap.size = w.heap.size + 1:=by rw [<- hW1]; simp
 have q1 : Blk W1 w.heap.size x.cells 31:=by rw [<- hW1]; exact Blk.new w _ _
 have hcall:=size_any K 24 most e x W1 (h.below hb1 hK (Nat.le_refl _)) (by omega) hm (by omega)
 obtain ⟨d0,d1,d2,d3,d4,d5,d6,d7,d8⟩:=q1.nine
 have HW1:=Lib.hid hW1
 clear hW1 h q1
 go_enter Tryz.func30,Tryz.ntmps30
 go_wp2_with fail
 rw [HW1.out]
 go_wp2_with fail
 refine hcall.mono ?_
 rintro en w5 ⟨rfl,hb5⟩
 go_wp2_with fail
 go_ret
 exact ⟨rfl,hb1.trans (hb5.mono (by omega))⟩
end Go.Proofs.YtlldjmagbjjeoaaGreat
