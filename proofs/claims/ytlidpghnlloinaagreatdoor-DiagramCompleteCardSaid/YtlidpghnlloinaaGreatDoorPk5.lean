/- Contracts and plain laws, several texts in one (GTime, GTime2, GExpr, GTest0). No conditions beyond those stated. -/
import Derived.Laws.Tables
import Derived.Test.YtlidpghnlloinaaGreatDoorPk4
set_option maxRecDepth 100000
set_option maxHeartbeats 40000000
namespace Go.Proofs.YtlidpghnlloinaaGreatDoor
open Go.RowKit
set_option linter.unusedVariables false
abbrev D16 (n : Nat) : Value:=.int .u16 (n : Int)
def Lm (K : Nat) (w : World) (v : Value) (l : List Nat) : Prop:=RowsV 1 (fun i _ => D16 (l[i]?.getD 0)) K w v l.length /\ ∀ d ∈ l,d < 65536
theorem Lm.below {K K' B : Nat} {w w' : World} {v : Value} {l : List Nat} (h : Lm K w v l) (hb : Below B w w') (hB : K <= B) (hK : K <= K') : Lm K' w' v l:=⟨h.1.below hb hB hK,h.2⟩
theorem Lm.form {K : Nat} {w : World} {v : Value} {l : List Nat} (h : Lm K w v l) : ∃ a cap,v = .slice a l.length cap /\ l.length <= cap /\ cap <= maxLen:=h.1.form
theorem Lm.pos {K : Nat} {w : World} {v : Value} {l : List Nat} (h : Lm K w v l) (hn : 0 < l.length) : ∃ b o cap,v = .slice (some ⟨b,o,none⟩) l.length cap /\ l.length <= cap /\ cap <= maxLen /\ b < K ∧
  ∀ i,i < l.length -> w.cell? ⟨b,o + i,none⟩ = some (D16 (l[i]?.getD 0)):=by
 obtain ⟨b,o,cap,h1,h2,h3,h4,h5⟩:=h.1.pos hn
 exact ⟨b,o,cap,h1,h2,h3,h4,fun i hi => by simpa using h5 i hi 0 (by omega)⟩
theorem Lm.nil (K : Nat) (w : World) : Lm K w (.slice none 0 0) []:=⟨RowsV.nil none 0 (by simp [maxLen]) (fun _ => rfl),fun d h => by cases h⟩
theorem Lm.wd {K m : Nat} {g : Bool} {w : World} {v : Value} {l : List Nat} (h : Lm K w v l) (h1 : l.length <= 1) (h2 : wOk m g l = true) : Wd .u16 K w v (lval l):=by
 match l,h1 with
 | [],_ => obtain ⟨a,c,rfl,_,hc⟩:=h.form; exact .inl ⟨rfl,a,c,rfl,hc⟩
 | [d],_ =>
  obtain ⟨b,o,c,rfl,hn,hm,hb,hc⟩:=h.pos (by simp)
  have hd : d ≠ 0:=by
   unfold wOk at h2
   have h3 : 1 <= m /\ ¬ d = 0:=by simpa using h2
   exact h3.2
  have hc0:=hc 0 (by simp)
  refine .inr ⟨by unfold lval lval; omega,b,o,c,rfl,by simpa using hn,hm,hb,?_⟩
  simpa [lval] using hc0
theorem lval_one (d : Nat) : lval [d] = d:=by simp [lval]
theorem lm_len_ne {l m : List Nat} (h : l.length ≠ m.length) : (l == m) = false:=beq_eq_false_iff_ne.2 fun e => h (by rw [e])
theorem equalLm_any (K : Nat) (u v : Value) (l m : List Nat) (w : World) (hu : Lm K w u l) (hv : Lm K w v m) :
  Calls Tryz.prog 202 #[u,v] w fun e w' => e = .returned (.bool (l == m)) /\ ∃ n,w' = w.drewN n:=by
 obtain ⟨ua,ucap,rfl,hu1,hu2⟩:=id hu.form
 obtain ⟨va,vcap,rfl,hv1,hv2⟩:=id hv.form
 unfold maxLen at hv2 hu2
 by_cases hne : l.length = m.length
 case neg =>
  have HE:=Lib.hid (lm_len_ne hne)
  have hne2 : ¬ ((l.length : Int) = (m.length : Int)):=by omega
  go_enter Tryz.func202,Tryz.ntmps202
  go_wp2_with fail
  go_ret
  exact ⟨by rw [HE.out]; rfl,0,rfl⟩
 case pos =>
 obtain ⟨q,hq⟩ : ∃ q,l.length = q:=⟨_,rfl⟩
 have hq' : m.length = q:=by rw [<- hne,hq]
 have HU:=Lib.hid hu
 have HV:=Lib.hid hv
 rw [hq] at hu1 ⊢
 rw [hq'] at hv1 ⊢
 have HM:=Lib.hid hq
 have HL:=Lib.hid hq'
 clear hq hq' hne hu hv
 have hqq : ((q : Int) != (q : Int)) = false:=by simp
 go_enter Tryz.func202,Tryz.ntmps202
 go_wp2_with fail
 go_loopw [13] (fun i wr => ∃ k n : Nat,k <= q /\ i = .int .i64 k /\ wr = w.drewN n /\ Hid (∀ i,i < k -> l[i]?.getD 0 = m[i]?.getD 0)) (fun i _ => q - (intOf i).toNat)
 case atStart => exact ⟨0,0,Nat.zero_le _,rfl,rfl,Lib.hid fun i hi => absurd hi (Nat.not_lt_zero i)⟩
 case round =>
  obtain ⟨k,n,hk,rfl,rfl,HALL⟩:=hrel
  by_cases hlt : k < q
  ·obtain ⟨b,o,cap,he,_,_,hbK,hc⟩:=HV.out.pos (by rw [HL.out]; omega)
   simp only [Value.slice.injEq] at he
   obtain ⟨rfl,_,rfl⟩:=he
   have c0:=hc k (by rw [HL.out]; exact hlt)
   obtain ⟨b',o',cap',he,_,_,hbK',hc'⟩:=HU.out.pos (by rw [HM.out]; omega)
   simp only [Value.slice.injEq] at he
   obtain ⟨rfl,_,rfl⟩:=he
   have c1:=hc' k (by rw [HM.out]; exact hlt)
   have HNE : Hid (l[k]?.getD 0 ≠ m[k]?.getD 0 -> (l == m) = false):=Lib.hid nats_at_ne
   have HEQ : Hid (l[k]?.getD 0 = m[k]?.getD 0 -> ∀ i,i < k + 1 -> l[i]?.getD 0 = m[i]?.getD 0):=Lib.hid fun he i hi => by
    by_cases h : i = k
    ·subst h; exact he
    ·exact HALL.out i (by omega)
   obtain ⟨x,hx⟩ : ∃ x,l[k]?.getD 0 = x:=⟨_,rfl⟩
   obtain ⟨y,hy⟩ : ∃ y,m[k]?.getD 0 = y:=⟨_,rfl⟩
   rw [hx] at c1 HNE HEQ
   rw [hy] at c0 HNE HEQ
   clear hx hy hc hc'
   by_cases hct : x = y
   ·have HE:=Lib.hid (HEQ.out hct)
    have hb1 : ((x : Int) != (y : Int)) = false:=by rw [hct]; simp
    clear hct
    go_upto_region 6 with fail
    go_quiet (fail)
    go_wp2_with fail
    exact ⟨⟨k + 1,_,by omega,by go_num,by first | rfl | exact drewN_two _ _ _,HE⟩,by simp [intOf]; omega⟩
   ·have HE:=Lib.hid (HNE.out hct)
    have hb1 : ((x : Int) != (y : Int)) = true:=by simp; omega
    clear hct
    go_upto_region 6 with fail
    go_quiet (fail)
    go_wp2_with fail
    go_ret
    exact ⟨by rw [HE.out]; rfl,_,by first | rfl | exact drewN_two _ _ _⟩
  ·obtain rfl : q = k:=by omega
   have HE : Hid ((l == m) = true):=Lib.hid (nats_all (by rw [HM.out,HL.out]) (fun i hi => HALL.out i (by have := HM.out; omega)))
   go_wp2_with fail
   go_ret
   exact ⟨by rw [HE.out]; rfl,_,by first | rfl | exact drewN_two _ _ _⟩
theorem wsame_any (K : Nat) (g g' : Bool) (u v : Value) (l l' : List Nat) (w : World) (hu : Lm K w u l) (hv : Lm K w v l') (hK : K <= w.heap.size) : Calls Tryz.prog 175 #[.agg #[.bool g,u],.agg #[.bool g',v]] w fun e w' => e = .returned (.bool (g == g' && l == l')) /\ Below w.heap.size w w':=by
 have b1 : Below w.heap.size w ((w.alloc (.cells #[.bool g,u] 43)).alloc (.cells #[.bool g',v] 43)):=((Below.refl _ _).alloc (Nat.le_refl _) _).alloc (by simp) _
 have hc:=equalLm_any K u v l l' _ (hu.below b1 hK (Nat.le_refl _)) (hv.below b1 hK (Nat.le_refl _))
 obtain ⟨ua,uc,rfl,_⟩:=hu.form
 obtain ⟨va,vc,rfl,_⟩:=hv.form
 obtain ⟨r,hr⟩ : ∃ r,(l == l') = r:=⟨_,rfl⟩
 rw [hr] at hc ⊢
 clear hr
 cases g <;> cases g'
 all_goals
  go_enter Tryz.func175,Tryz.ntmps175
  go_wp2_with fail
 all_goals try (
  refine hc.mono ?_
  rintro e w2 ⟨rfl,k,rfl⟩
  go_wp2_with fail
  go_ret
  exact ⟨rfl,below_drewN2 b1 k⟩)
 all_goals
  go_ret
  exact ⟨rfl,b1⟩
theorem fsame_any (K : Nat) (g1 g2 h1 h2 : Bool) (u v x y : Value) (m n p q : List Nat) (w : World) (hu : Lm K w u m) (hv : Lm K w v n) (hx : Lm K w x p) (hy : Lm K w y q) (hK : K <= w.heap.size) :
  Calls Tryz.prog 135 #[.agg #[.bool g1,u,.bool g2,v],.agg #[.bool h1,x,.bool h2,y]] w fun e w' => e = .returned (.bool ((g1 == h1 && m == p) && (g2 == h2 && n == q))) /\ Below w.heap.size w w':=by
 obtain ⟨W1,hW1⟩ : ∃ W1,(w.alloc (.cells #[.bool g1,u,.bool g2,v] 45)).alloc (.cells #[.bool h1,x,.bool h2,y] 45) = W1:=⟨_,rfl⟩
 have b1 : Below w.heap.size w W1:=by rw [<- hW1]; exact ((Below.refl _ _).alloc (Nat.le_refl _) _).alloc (by simp) _
 have q0 : Blk W1 w.heap.size #[.bool g1,u,.bool g2,v] 45:=by rw [<- hW1]; exact (Blk.new w _ _).alloc _
 have q1 : Blk W1 (w.heap.size + 1) #[.bool h1,x,.bool h2,y] 45:=by
  rw [<- hW1]
  have := Blk.new (w.alloc (.cells #[.bool g1,u,.bool g2,v] 45)) #[.bool h1,x,.bool h2,y] 45
  rwa [World.size_alloc] at this
 have s1 : W1.heap.size = w.heap.size + 2:=by rw [<- hW1]; simp
 obtain ⟨B,hB⟩ : ∃ B,w.heap.size = B:=⟨_,rfl⟩
 have HB:=Lib.hid hB
 have HW:=Lib.hid hW1
 rw [hB] at hK b1 q0 q1 s1 ⊢
 have hc:=wsame_any B g1 h1 u x m p W1 (hu.below b1 hK hK) (hx.below b1 hK hK) (by omega)
 have hc2 : ∀ W,Below B w W -> Calls Tryz.prog 175 #[.agg #[.bool g2,v],.agg #[.bool h2,y]] W fun e w' => e = .returned (.bool (g2 == h2 && n == q)) /\ Below W.heap.size W w':=fun W hb => wsame_any W.heap.size g2 h2 v y n q W (hv.below hb hK (by have := hb.size; rw [hB] at this; omega)) (hy.below hb hK (by have := hb.size; rw [hB] at this; omega)) (Nat.le_refl _)
 obtain ⟨ua,uc,rfl,_⟩:=hu.form
 obtain ⟨va,vc,rfl,_⟩:=hv.form
 obtain ⟨xa,xc,rfl,_⟩:=hx.form
 obtain ⟨ya,yc,rfl,_⟩:=hy.form
 clear hB hW1
 obtain ⟨r1,hr1⟩ : ∃ r,(g1 == h1 && m == p) = r:=⟨_,rfl⟩
 obtain ⟨r2,hr2⟩ : ∃ r,(g2 == h2 && n == q) = r:=⟨_,rfl⟩
 simp only [hr1] at hc
 simp only [hr2] at hc2
 rw [hr1,hr2]
 clear hr1 hr2
 obtain ⟨c0,c1,c2,c3⟩:=q0.four
 obtain ⟨d0,d1,d2,d3⟩:=q1.four
 go_enter Tryz.func135,Tryz.ntmps135
 go_upto_region 1 with fail
 simp only [HB.out]
 rw [HW.out]
 go_wp2_with fail
 refine hc.mono ?_
 rintro e w2 ⟨rfl,hb2⟩
 clear c0 c1 c2 c3 d0 d1 d2 d3 hc
 have b2 : Below B w w2:=b1.trans (hb2.mono (by omega))
 have q0:=q0.below hb2 q0.lt
 have q1:=q1.below hb2 q1.lt
 obtain ⟨c0,c1,c2,c3⟩:=q0.four
 obtain ⟨d0,d1,d2,d3⟩:=q1.four
 have hc2:=hc2 w2 b2
 have s2:=hb2.size
 cases r1 with
 | false =>
  go_wp2_with fail
  go_ret
  exact ⟨rfl,b2⟩
 | true =>
  go_wp2_with fail
  refine hc2.mono ?_
  rintro e w3 ⟨rfl,hb3⟩
  go_wp2_with fail
  go_ret
  exact ⟨rfl,b2.trans (hb3.mono (by omega))⟩
structure Vv where
 kd : Int
 b1 : Bool
 s1 : Value
 b2 : Bool
 s2 : Value
 i : Int
abbrev Vv.agg (x : Vv) : Value:=.agg #[.int .u8 x.kd,.bool x.b1,x.s1,.bool x.b2,x.s2,.int .i64 x.i]
abbrev Vv.cells (x : Vv) : Array Value:=#[.int .u8 x.kd,.bool x.b1,x.s1,.bool x.b2,x.s2,.int .i64 x.i]
structure VlX (K : Nat) (w : World) (v : Vq) (x : Vv) : Prop where
 kd : x.kd = v.kd
 b1 : x.b1 = v.g1
 b2 : x.b2 = v.g2
 i : x.i = v.i
 n : Lm K w x.s1 v.l1
 d : Lm K w x.s2 v.l2
theorem VlX.below {K K' B : Nat} {w w' : World} {v : Vq} {x : Vv} (h : VlX K w v x) (hb : Below B w w') (hB : K <= B) (hK : K <= K') : VlX K' w' v x:=⟨h.kd,h.b1,h.b2,h.i,h.n.below hb hB hK,h.d.below hb hB hK⟩
theorem Blk.six {w : World} {b t : Nat} {x0 x1 x2 x3 x4 x5 : Value} (h : Blk w b #[x0,x1,x2,x3,x4,x5] t) : w.cell? ⟨b,0,none⟩ = some x0 /\ w.cell? ⟨b,1,none⟩ = some x1 /\ w.cell? ⟨b,2,none⟩ = some x2 ∧
  w.cell? ⟨b,3,none⟩ = some x3 /\ w.cell? ⟨b,4,none⟩ = some x4 /\ w.cell? ⟨b,5,none⟩ = some x5:=⟨h.at rfl,h.at rfl,h.at rfl,h.at rfl,h.at rfl,h.at rfl⟩
structure FrSm (v : Vq) : Prop where
 i : v.i = 0
 g1 : v.g1 = false
 g2 : v.g2 = false
 n1 : v.l1.length <= 1
 w1 : wOk 1024 v.g1 v.l1 = true
 lt : lval v.l1 < 1024
 n2 : v.l2.length <= 1
 w2 : wOk 1024 v.g2 v.l2 = true
 den : lval v.l2 = 1 \/ lval v.l2 = 2
 fr : FrOk (lval v.l1) (lval v.l2)
theorem Vq.short {v : Vq} (h : v.good = true) : v.l1.length <= 8 /\ v.l2.length <= 8:=by
 unfold Vq.good at h
 simp only [Bool.and_eq_true,decide_eq_true_eq] at h
 exact h.1
theorem Vq.frsm {v : Vq} (h : v.good = true) (hf : v.fr = true) : FrSm v /\ v.ok = true /\ (v.kd = 2 \/ v.kd = 3):=by
 have hk : v.kd = 2 \/ v.kd = 3:=by unfold Vq.fr at hf; simpa using hf
 unfold Vq.good at h
 rw [hf] at h
 simp only [Bool.not_true,Bool.false_or,Bool.and_eq_true,Bool.or_eq_true,decide_eq_true_eq,beq_iff_eq,Bool.not_eq_true'] at h
 obtain ⟨_,⟨⟨⟨⟨⟨h1,h2⟩,h3⟩,h4⟩,h5⟩,h6⟩,h7⟩:=h
 have hd : (v.l2 = [1] \/ v.l2 = [2]) /\ FrOk (lval v.l1) (lval v.l2):=by
  rcases h7 with h7 | ⟨h7,h8⟩
  ·exact ⟨.inl h7,by rw [h7,lval_one]; exact ⟨by omega,by omega,by omega,.inl rfl⟩⟩
  ·refine ⟨.inr h7,?_⟩
   rw [h7,lval_one]
   refine ⟨by omega,by omega,by omega,.inr ?_⟩
   have h5 : Nat.gcd (lval v.l1) 2 ∣ 2:=Nat.gcd_dvd_right _ _
   have h6 : Nat.gcd (lval v.l1) 2 ∣ (lval v.l1):=Nat.gcd_dvd_left _ _
   have h7 : Nat.gcd (lval v.l1) 2 <= 2:=Nat.le_of_dvd (by decide) h5
   have h8 : Nat.gcd (lval v.l1) 2 ≠ 2:=fun e => by rw [e] at h6; omega
   have h9 : Nat.gcd (lval v.l1) 2 ≠ 0:=fun e => by rw [e] at h5; simp at h5
   omega
 have hw2 : wOk 1024 v.g2 v.l2 = true /\ v.l2.length = 1 /\ (lval v.l2 = 1 \/ lval v.l2 = 2):=by
  rcases hd.1 with e | e <;> rw [e,h3] <;> exact ⟨by decide,rfl,by simp [lval]⟩
 have hgcd : Nat.gcd (lval v.l1) (lval v.l2) = 1:=by
  rcases hd.2.2.2.2 with e | e
  ·rw [e,Nat.gcd_one_right]
  ·exact e
 refine ⟨⟨h1,h2,h3,h4,h6,h5,by omega,hw2.1,hw2.2.2,hd.2⟩,?_,hk⟩
 unfold Vq.ok frOk
 rw [hf]
 simp only [if_true,Bool.and_eq_true,beq_iff_eq,decide_eq_true_eq,Bool.not_eq_true',bne_iff_ne,ne_eq]
 refine ⟨h1,⟨⟨⟨⟨⟨by omega,by omega⟩,h6⟩,hw2.1⟩,h3⟩,by omega⟩,hgcd⟩
theorem ok_whole {v : Vq} (hf : v.fr = false) (hk : v.kd = 1 \/ v.kd = 4 \/ v.kd = 5 \/ v.kd = 6) :
  v.ok = (((v.g1 == false && v.l1 == []) && (v.g2 == false && v.l2 == [])) && (if v.kd == 1 then decide (0 <= v.i) && decide (v.i <= 1) else if v.kd == 4 then decide (0 <= v.i) && decide (v.i < 65536) else decide (-1048576 <= v.i) && decide (v.i <= 1048576))):=by
 unfold Vq.ok
 rw [hf]
 have hx : (v.kd == 1 \/ v.kd == 4 \/ v.kd == 5 \/ v.kd == 6):=by simpa using hk
 simp only [Bool.false_eq_true,if_false,if_pos hx]
 congr 1
 have e1 : (v.l1.length == 0) = (v.l1 == []):=by cases v.l1 <;> rfl
 have e2 : (v.l2.length == 0) = (v.l2 == []):=by cases v.l2 <;> rfl
 rw [e1,e2]
 cases v.g1 <;> cases v.g2 <;> cases (v.l1 == []) <;> cases (v.l2 == []) <;> rfl
theorem ok_none {v : Vq} (hf : v.fr = false) (hk : ¬ (v.kd = 1 \/ v.kd = 4 \/ v.kd = 5 \/ v.kd = 6)) : v.ok = false:=by
 unfold Vq.ok
 rw [hf]
 have hx : ¬ (v.kd == 1 \/ v.kd == 4 \/ v.kd == 5 \/ v.kd == 6):=by simpa using hk
 simp only [Bool.false_eq_true,if_false,if_neg hx]
theorem tlvalid_any (K : Nat) (v : Vq) (x : Vv) (w : World) (h : VlX K w v x) (hK : K <= w.heap.size) (ho : v.good = true) : Calls Tryz.prog 79 #[x.agg] w fun e w' => e = .returned (.bool v.ok) /\ Below w.heap.size w w':=by
 obtain ⟨kd,f1,s1,f2,s2,i⟩:=x
 obtain ⟨hk,hf1,hf2,hi,h1,h2⟩:=h
 simp only at hk hi h1 h2 hf1 hf2
 obtain ⟨W1,hW1⟩ : ∃ W1,w.alloc (.cells #[.int .u8 kd,.bool f1,s1,.bool f2,s2,.int .i64 i] 47) = W1:=⟨_,rfl⟩
 have b1 : Below w.heap.size w W1:=by rw [<- hW1]; exact (Below.refl _ _).alloc (Nat.le_refl _) _
 have q1 : Blk W1 w.heap.size #[.int .u8 kd,.bool f1,s1,.bool f2,s2,.int .i64 i] 47:=by rw [<- hW1]; exact Blk.new w _ _
 have sz1 : W1.heap.size = w.heap.size + 1:=by rw [<- hW1]; simp
 obtain ⟨B,hB⟩ : ∃ B,w.heap.size = B:=⟨_,rfl⟩
 have HB:=Lib.hid hB
 have HW:=Lib.hid hW1
 rw [hB] at hK b1 q1 sz1 ⊢
 obtain ⟨ua,uc,rfl,_⟩:=h1.form
 obtain ⟨va,vc,rfl,_⟩:=h2.form
 clear hB hW1
 obtain ⟨c0,c1,c2,c3,c4,c5⟩:=q1.six
 cases hf : v.fr with
 | true =>
  obtain ⟨hfr,hok,hkk⟩:=Vq.frsm ho hf
  have n1:=(h1.wd hfr.n1 hfr.w1).below b1 hK hK
  have n2:=(h2.wd hfr.n2 hfr.w2).below b1 hK hK
  have hc:=fValid_any B _ _ _ _ W1 n1 n2 (by omega) hfr.fr
  rw [hok]
  have hi2 : i = 0:=by rw [hi,hfr.i]
  have hg1 : f1 = false:=by rw [hf1,hfr.g1]
  have hg2 : f2 = false:=by rw [hf2,hfr.g2]
  subst hi2 hg1 hg2
  have hkd : kd = 2 \/ kd = 3:=by rw [hk]; exact hkk
  clear hf hk hi hkk ho hfr hok h1 h2 n1 n2 hf1 hf2
  rcases hkd with rfl | rfl
  all_goals
   go_enter Tryz.func79,Tryz.ntmps79
   go_upto_region 1 with fail
   simp only [HB.out]
   rw [HW.out]
   go_wp2_with fail
   refine hc.mono ?_
   rintro e w2 ⟨rfl,hb2⟩
   go_wp2_with fail
   go_ret
   exact ⟨rfl,b1.trans (hb2.mono (by omega))⟩
 | false =>
  have hkf : (kd == 2) = false /\ (kd == 3) = false:=by unfold Vq.fr at hf; rw [hk]; simpa using hf
  by_cases hkd : v.kd = 1 \/ v.kd = 4 \/ v.kd = 5 \/ v.kd = 6
  ·have hok:=ok_whole hf hkd
   have hz:=fun W => (Lm.nil 0 W).below (Below.refl 0 W) (Nat.le_refl _) (Nat.zero_le B)
   have hc:=fsame_any B f1 f2 false false _ _ _ _ _ _ _ _ W1 (h1.below b1 hK hK) (h2.below b1 hK hK) (hz W1) (hz W1) (by omega)
   rw [<- hf1,<- hf2,<- hk,<- hi] at hok
   rw [<- hk] at hkd
   obtain ⟨r,hr⟩ : ∃ r,v.ok = r:=⟨_,rfl⟩
   obtain ⟨fz,hfz⟩ : ∃ fz,((f1 == false && v.l1 == []) && (f2 == false && v.l2 == [])) = fz:=⟨_,rfl⟩
   rw [hr,hfz] at hok
   rw [hr]
   rw [hfz] at hc
   have HR:=Lib.hid hok
   obtain ⟨n1,hn1⟩ : ∃ n,v.l1.length = n:=⟨_,rfl⟩
   obtain ⟨n2,hn2⟩ : ∃ n,v.l2.length = n:=⟨_,rfl⟩
   simp only [hn1,hn2] at c2 c4 hc HW q1
   simp only [hn1,hn2]
   clear hok hf hk hi ho hf1 hf2 hr hfz h1 h2 hz hn1 hn2
   obtain ⟨hk2,hk3⟩:=hkf
   have fin : ∀ (e : Ending) (w2 : World),(e = .returned (.bool fz) /\ Below W1.heap.size W1 w2) -> e = .returned (.bool fz) /\ w2.cell? ⟨B,5,none⟩ = some (.int .i64 i) /\ Below B w w2:=fun e w2 ⟨h3,h4⟩ => ⟨h3,(q1.below h4 q1.lt).six.2.2.2.2.2,b1.trans (h4.mono (by omega))⟩
   rcases hkd with rfl | rfl | rfl | rfl
   ·go_enter Tryz.func79,Tryz.ntmps79
    go_upto_region 1 with fail
    simp only [HB.out]
    rw [HW.out]
    go_wp2_with fail
    refine hc.mono ?_
    intro e w2 h3
    obtain ⟨rfl,d5,b2⟩:=fin e w2 h3
    cases fz with
    | false =>
     go_wp2_with fail
     go_ret
     exact ⟨by rw [HR.out]; simp,b2⟩
    | true =>
     go_wp2_with fail
     all_goals go_ret
     all_goals
      refine ⟨?_,b2⟩
      rw [HR.out]
      simp
      try omega
   ·go_enter Tryz.func79,Tryz.ntmps79
    go_upto_region 1 with fail
    simp only [HB.out]
    rw [HW.out]
    go_wp2_with fail
    refine hc.mono ?_
    intro e w2 h3
    obtain ⟨rfl,d5,b2⟩:=fin e w2 h3
    cases fz with
    | false =>
     go_wp2_with fail
     go_ret
     exact ⟨by rw [HR.out]; simp,b2⟩
    | true =>
     go_wp2_with fail
     all_goals go_ret
     all_goals
      refine ⟨?_,b2⟩
      rw [HR.out]
      simp
      try omega
   ·go_enter Tryz.func79,Tryz.ntmps79
    go_upto_region 1 with fail
    simp only [HB.out]
    rw [HW.out]
    go_wp2_with fail
    refine hc.mono ?_
    intro e w2 h3
    obtain ⟨rfl,d5,b2⟩:=fin e w2 h3
    cases fz with
    | false =>
     go_wp2_with fail
     go_ret
     exact ⟨by rw [HR.out]; simp,b2⟩
    | true =>
     go_wp2_with fail
     all_goals go_ret
     all_goals
      refine ⟨?_,b2⟩
      rw [HR.out]
      simp
      try omega
   ·go_enter Tryz.func79,Tryz.ntmps79
    go_upto_region 1 with fail
    simp only [HB.out]
    rw [HW.out]
    go_wp2_with fail
    refine hc.mono ?_
    intro e w2 h3
    obtain ⟨rfl,d5,b2⟩:=fin e w2 h3
    cases fz with
    | false =>
     go_wp2_with fail
     go_ret
     exact ⟨by rw [HR.out]; simp,b2⟩
    | true =>
     go_wp2_with fail
     all_goals go_ret
     all_goals
      refine ⟨?_,b2⟩
      rw [HR.out]
      simp
      try omega
  ·have hok:=ok_none hf hkd
   rw [hok]
   rw [<- hk] at hkd
   have hk1 : (kd == 1) = false:=by simp; omega
   have hk4 : (kd == 4) = false:=by simp; omega
   have hk5 : (kd == 5) = false:=by simp; omega
   have hk6 : (kd == 6) = false:=by simp; omega
   obtain ⟨hk2,hk3⟩:=hkf
   clear hok hf hk hi ho hf1 hf2 h1 h2 hkd
   go_enter Tryz.func79,Tryz.ntmps79
   go_upto_region 1 with fail
   simp only [HB.out]
   rw [HW.out]
   go_wp2_with fail
   go_ret
   exact ⟨rfl,b1⟩
theorem tlsame_any (K : Nat) (v v' : Vq) (x y : Vv) (w : World) (h : VlX K w v x) (h' : VlX K w v' y) (hK : K <= w.heap.size) : Calls Tryz.prog 177 #[x.agg,y.agg] w fun e w' => e = .returned (.bool (v == v')) /\ Below w.heap.size w w':=by
 obtain ⟨kd,f1,s1,f2,s2,i⟩:=x
 obtain ⟨kd',f1',s1',f2',s2',i'⟩:=y
 obtain ⟨hk,hf1,hf2,hi,h1,h2⟩:=h
 obtain ⟨hk',hf1',hf2',hi',h1',h2'⟩:=h'
 simp only at hk hi h1 h2 hk' hi' h1' h2' hf1 hf2 hf1' hf2'
 have b1 : Below w.heap.size w ((w.alloc (.cells #[.int .u8 kd,.bool f1,s1,.bool f2,s2,.int .i64 i] 47)).alloc (.cells #[.int .u8 kd',.bool f1',s1',.bool f2',s2',.int .i64 i'] 47)):=((Below.refl _ _).alloc (Nat.le_refl _) _).alloc (by simp) _
 have hc:=fsame_any w.heap.size f1 f2 f1' f2' _ _ _ _ v.l1 v.l2 v'.l1 v'.l2 _ (h1.below b1 hK hK) (h2.below b1 hK hK) (h1'.below b1 hK hK) (h2'.below b1 hK hK) (by simp; omega)
 obtain ⟨r,hr⟩ : ∃ r,(v == v') = r:=⟨_,rfl⟩
 obtain ⟨f,hf⟩ : ∃ f,((f1 == f1' && v.l1 == v'.l1) && (f2 == f2' && v.l2 == v'.l2)) = f:=⟨_,rfl⟩
 have HR : Hid (r = ((kd == kd') && (i == i') && f)):=Lib.hid (by
  rw [<- hr,<- hf,hk,hk',hi,hi',hf1,hf1',hf2,hf2']
  cases v; cases v'
  rw [Bool.eq_iff_iff]
  simp only [beq_iff_eq,Vq.mk.injEq,Bool.and_eq_true]
  constructor
  ·rintro ⟨a,b,c,d,e,f⟩; exact ⟨⟨a,f⟩,⟨b,c⟩,d,e⟩
  ·rintro ⟨⟨a,f⟩,⟨b,c⟩,d,e⟩; exact ⟨a,b,c,d,e,f⟩)
 rw [hf] at hc
 rw [hr]
 obtain ⟨ua,uc,rfl,_⟩:=h1.form
 obtain ⟨va,vc,rfl,_⟩:=h2.form
 obtain ⟨xa,xc,rfl,_⟩:=h1'.form
 obtain ⟨ya,yc,rfl,_⟩:=h2'.form
 clear hr hf hk hk' hi hi' hf1 hf2 hf1' hf2' h1 h2 h1' h2'
 by_cases e1 : kd = kd'
 ·subst e1
  by_cases e2 : i = i'
  ·subst e2
   have E:=Lib.hid (HR.out.trans (show ((kd == kd) && (i == i) && f) = f by simp))
   go_enter Tryz.func177,Tryz.ntmps177
   go_wp2_with fail
   refine hc.mono ?_
   rintro e w2 ⟨rfl,hb2⟩
   go_wp2_with fail
   go_ret
   exact ⟨by rw [E.out]; rfl,b1.trans (hb2.mono (by simp; omega))⟩
  ·have E:=Lib.hid (HR.out.trans (show ((kd == kd) && (i == i') && f) = false by simp [e2]))
   have hx : (i == i') = false:=by simp [e2]
   go_enter Tryz.func177,Tryz.ntmps177
   go_wp2_with fail
   go_ret
   exact ⟨by rw [E.out]; rfl,b1⟩
 ·have E:=Lib.hid (HR.out.trans (show ((kd == kd') && (i == i') && f) = false by simp [e1]))
  have hx : (kd == kd') = false:=by simp [e1]
  go_enter Tryz.func177,Tryz.ntmps177
  go_wp2_with fail
  go_ret
  exact ⟨by rw [E.out]; rfl,b1⟩
theorem cmpI_nat (a b : Nat) : cmpI (a : Int) (b : Int) = if a < b then -1 else if b < a then 1 else 0:=by
 unfold cmpI; (repeat' split) <;> omega
theorem vcmp_fr {v v' : Vq} (hf : v.fr = true) (hf' : v'.fr = true) (hg : v.g1 = false) (hg' : v'.g1 = false) : vcmp v v' = if lval v.l1 * lval v'.l2 < lval v'.l1 * lval v.l2 then -1 else if lval v'.l1 * lval v.l2 < lval v.l1 * lval v'.l2 then 1 else 0:=by
 rw [<- cmpI_nat]
 unfold vcmp Vq.top Vq.bot
 rw [hf,hf',hg,hg']
 simp
theorem vcmp_whole {v v' : Vq} (hf : v.fr = false) (hf' : v'.fr = false) : vcmp v v' = cmpI v.i v'.i:=by
 unfold vcmp Vq.top Vq.bot
 rw [hf,hf']
 simp
theorem gcompare_any (K : Nat) (v v' : Vq) (x y : Vv) (w : World) (h : VlX K w v x) (h' : VlX K w v' y) (hK : K <= w.heap.size) (ho : v.good = true) (ho' : v'.good = true) (hok : v.ok = true) (hok' : v'.ok = true) (hkk : v.kd = v'.kd) :
  Calls Tryz.prog 126 #[x.agg,y.agg] w fun e w' => e = .returned (.int .i64 (vcmp v v')) /\ Below w.heap.size w w':=by
 obtain ⟨kd,f1,s1,f2,s2,i⟩:=x
 obtain ⟨kd',f1',s1',f2',s2',i'⟩:=y
 obtain ⟨hk,hf1,hf2,hi,h1,h2⟩:=h
 obtain ⟨hk',hf1',hf2',hi',h1',h2'⟩:=h'
 simp only at hk hi h1 h2 hk' hi' h1' h2' hf1 hf2 hf1' hf2'
 have b1 : Below w.heap.size w ((w.alloc (.cells #[.int .u8 kd,.bool f1,s1,.bool f2,s2,.int .i64 i] 47)).alloc (.cells #[.int .u8 kd',.bool f1',s1',.bool f2',s2',.int .i64 i'] 47)):=((Below.refl _ _).alloc (Nat.le_refl _) _).alloc (by simp) _
 cases hf : v.fr with
 | true =>
  have hf' : v'.fr = true:=by unfold Vq.fr at hf ⊢; rw [<- hkk]; exact hf
  obtain ⟨hfr,_,hkq⟩:=Vq.frsm ho hf
  obtain ⟨hfr',_,hkq'⟩:=Vq.frsm ho' hf'
  have m1 : lval v.l1 * lval v'.l2 < 65536:=Nat.lt_of_le_of_lt (Nat.mul_le_mul_left _ (show lval v'.l2 <= 2 by have := hfr'.den; omega)) (by have := hfr.lt; omega)
  have m2 : lval v'.l1 * lval v.l2 < 65536:=Nat.lt_of_le_of_lt (Nat.mul_le_mul_left _ (show lval v.l2 <= 2 by have := hfr.den; omega)) (by have := hfr'.lt; omega)
  have hc:=fcmp_any w.heap.size _ _ _ _ _ _ _ _ _ ((h1.wd hfr.n1 hfr.w1).below b1 hK hK) ((h2.wd hfr.n2 hfr.w2).below b1 hK hK) ((h1'.wd hfr'.n1 hfr'.w1).below b1 hK hK) ((h2'.wd hfr'.n2 hfr'.w2).below b1 hK hK) (by simp; omega) hfr.fr hfr'.fr m1 m2
  have hkey:=vcmp_fr hf hf' hfr.g1 hfr'.g1
  rw [<- hkey] at hc
  obtain ⟨r,hr⟩ : ∃ r,vcmp v v' = r:=⟨_,rfl⟩
  rw [hr] at hc ⊢
  have hkd : kd = 2 \/ kd = 3:=by rw [hk]; exact hkq
  have hg1 : f1 = false:=by rw [hf1,hfr.g1]
  have hg2 : f2 = false:=by rw [hf2,hfr.g2]
  have hg1' : f1' = false:=by rw [hf1',hfr'.g1]
  have hg2' : f2' = false:=by rw [hf2',hfr'.g2]
  subst hg1 hg2 hg1' hg2'
  obtain ⟨ua,uc,rfl,_⟩:=h1.form
  obtain ⟨va,vc,rfl,_⟩:=h2.form
  obtain ⟨xa,xc,rfl,_⟩:=h1'.form
  obtain ⟨ya,yc,rfl,_⟩:=h2'.form
  clear hkey hr m1 m2 hf hf' hk hk' hi hi' hkk hkq hkq' hfr hfr' ho ho' hok hok' h1 h2 h1' h2' hf1 hf2 hf1' hf2'
  rcases hkd with rfl | rfl
  all_goals
   go_enter Tryz.func126,Tryz.ntmps126
   go_wp2_with fail
   refine hc.mono ?_
   rintro e w2 ⟨rfl,hb2⟩
   go_wp2_with fail
   go_ret
   exact ⟨rfl,b1.trans (hb2.mono (by simp; omega))⟩
 | false =>
  have hf' : v'.fr = false:=by unfold Vq.fr at hf ⊢; rw [<- hkk]; exact hf
  have hkey : vcmp v v' = cmpI i i':=by rw [vcmp_whole hf hf',hi,hi']
  rw [hkey]
  have hk2 : (kd == 2) = false /\ (kd == 3) = false:=by unfold Vq.fr at hf; rw [hk]; simpa using hf
  obtain ⟨hk2,hk3⟩:=hk2
  obtain ⟨ua,uc,rfl,_⟩:=h1.form
  obtain ⟨va,vc,rfl,_⟩:=h2.form
  obtain ⟨xa,xc,rfl,_⟩:=h1'.form
  obtain ⟨ya,yc,rfl,_⟩:=h2'.form
  clear hkey hf hf' hk hk' hi hi' hkk ho ho' hok hok' h1 h2 h1' h2' hf1 hf2 hf1' hf2'
  obtain ⟨r,hr⟩ : ∃ r,cmpI i i' = r:=⟨_,rfl⟩
  have HR:=Lib.hid hr
  rw [hr]
  clear hr
  go_enter Tryz.func126,Tryz.ntmps126
  go_wp2_with fail
  all_goals go_ret
  all_goals
   refine ⟨?_,b1⟩
   first
    | (rw [show r = -1 from by rw [<- HR.out]; unfold cmpI; rw [if_pos (by omega)]]; rfl)
    | (rw [show r = 1 from by rw [<- HR.out]; unfold cmpI; rw [if_neg (by omega),if_pos (by omega)]]; rfl)
    | (rw [show r = 0 from by rw [<- HR.out]; unfold cmpI; rw [if_neg (by omega),if_neg (by omega)]]; rfl)
abbrev Xv.vv (x : Xv) : Vv:=⟨x.kd,x.b3,x.s4.val,x.b5,x.s6.val,x.i7⟩
mutual
def ExG (K : Nat) (w : World) : Gx -> Xv -> Prop
 | .mk op nm v es,x => x.op = op /\ x.nm = nm /\ nm.length <= maxLen /\ VlX K w v x.vv /\ ∃ g : Nat -> Xv,RowsV 9 (fun i j => (g i).cell j) K w x.s8.val es.length /\ ExsG K w es g 0
def ExsG (K : Nat) (w : World) : List Gx -> (Nat -> Xv) -> Nat -> Prop
 | [],_,_ => True
 | e :: r,g,i => ExG K w e (g i) /\ ExsG K w r g (i + 1)
end
theorem exsG_iff {K : Nat} {w : World} {es : List Gx} {g : Nat -> Xv} : ∀ {i : Nat},ExsG K w es g i ↔ ∀ (j : Nat) (e : Gx),es[j]? = some e -> ExG K w e (g (i + j)):=by
 induction es with
 | nil => intro i; simp [ExsG]
 | cons e r ih =>
  intro i
  rw [ExsG,ih]
  constructor
  ·rintro ⟨h1,h2⟩ j e' hj
   cases j with
   | zero => simp at hj; subst hj; simpa using h1
   | succ j => have := h2 j e' (by simpa using hj); rwa [show i + 1 + j = i + (j + 1) by omega] at this
  ·intro h
   refine ⟨by simpa using h 0 e rfl,fun j e' hj => ?_⟩
   have := h (j + 1) e' (by simpa using hj)
   rwa [show i + (j + 1) = i + 1 + j by omega] at this
theorem partsG_arg : ∀ {es : List Gx} {e : Gx},e ∈ es -> e.parts <= partsL es:=by
 intro es
 induction es with
 | nil => simp
 | cons x r ih =>
  intro e h
  rw [partsL]
  rcases List.mem_cons.1 h with rfl | h
  ·omega
  ·have := ih h; omega
theorem partsG_mk (o : Int) (n : Str) (v : Vq) (es : List Gx) : (Gx.mk o n v es).parts = partsL es + 1:=by rw [Gx.parts]
theorem exG_below {K K' B : Nat} {w w' : World} (hb : Below B w w') (hB : K <= B) (hK : K <= K') : ∀ (m : Nat) (e : Gx) (x : Xv),e.parts <= m -> ExG K w e x -> ExG K' w' e x:=by
 intro m
 induction m with
 | zero => intro e c hm; cases e; rw [partsG_mk] at hm; omega
 | succ m ih =>
  intro e c hm h
  cases e with
  | mk op nm v es =>
   rw [ExG] at h ⊢
   obtain ⟨h1,h2,h3,h4,g,h5,h6⟩:=h
   refine ⟨h1,h2,h3,h4.below hb hB hK,g,h5.below hb hB hK,exsG_iff.2 fun j e hj => ?_⟩
   have hp:=partsG_arg (List.mem_of_getElem? hj)
   rw [partsG_mk] at hm
   exact ih e _ (by omega) (exsG_iff.1 h6 j e hj)
theorem ExG.below {K K' B : Nat} {w w' : World} {e : Gx} {x : Xv} (h : ExG K w e x) (hb : Below B w w') (hB : K <= B) (hK : K <= K') : ExG K' w' e x:=exG_below hb hB hK _ e x (Nat.le_refl _) h
theorem ExG.open {K : Nat} {w : World} {e : Gx} {x : Xv} (h : ExG K w e x) : x.op = e.op /\ x.nm = e.nm /\ e.nm.length <= maxLen /\ VlX K w e.v x.vv /\ ∃ g : Nat -> Xv,RowsV 9 (fun i j => (g i).cell j) K w x.s8.val e.args.length /\ ∀ (j : Nat) (a : Gx),e.args[j]? = some a -> ExG K w a (g j):=by
 cases e with
 | mk op nm v es =>
  rw [ExG] at h
  obtain ⟨h1,h2,h3,h4,g,h5,h6⟩:=h
  exact ⟨h1,h2,h3,h4,g,h5,fun j a hj => by have := exsG_iff.1 h6 j a hj; rwa [Nat.zero_add] at this⟩
theorem ExG.make {K : Nat} {w : World} {e : Gx} {x : Xv} (h1 : x.op = e.op) (h2 : x.nm = e.nm) (h3 : e.nm.length <= maxLen) (h4 : VlX K w e.v x.vv) (g : Nat -> Xv) (h5 : RowsV 9 (fun i j => (g i).cell j) K w x.s8.val e.args.length)
  (h6 : ∀ (j : Nat) (a : Gx),e.args[j]? = some a -> ExG K w a (g j)) : ExG K w e x:=by
 cases e with
 | mk op nm v es =>
  rw [ExG]
  exact ⟨h1,h2,h3,h4,g,h5,exsG_iff.2 fun j a hj => by rw [Nat.zero_add]; exact h6 j a hj⟩
theorem goodL_iff {l : List Gx} : goodL l = true ↔ ∀ e ∈ l,e.good = true:=by
 induction l with
 | nil => simp [goodL]
 | cons e r ih => rw [goodL]; simp [ih]
theorem good_v {e : Gx} (h : e.good = true) : e.v.good = true:=by
 cases e with
 | mk op nm v es =>
  rw [Gx.good] at h
  simp only [Bool.and_eq_true] at h
  exact h.1
theorem good_args {e : Gx} (h : e.good = true) : ∀ a ∈ e.args,a.good = true:=by
 cases e with
 | mk op nm v es =>
  rw [Gx.good] at h
  simp only [Bool.and_eq_true] at h
  exact goodL_iff.1 h.2
theorem settled_any (K : Nat) (e : Gx) (x : Xv) (w : World) (h : ExG K w e x) (hg : e.good = true) (hK : K <= w.heap.size) : Calls Tryz.prog 148 #[x.agg] w fun en w' => en = .returned (.bool e.settled) /\ Below w.heap.size w w':=by
 obtain ⟨h1,h2,h3,hv,_⟩:=h.open
 have b1 : Below w.heap.size w (w.alloc (.cells x.cells 49)):=(Below.refl _ _).alloc (Nat.le_refl _) _
 have hc:=tlvalid_any w.heap.size e.v x.vv _ (hv.below b1 hK hK) (by simp) (good_v hg)
 have hs : e.settled = (x.op == 1 && x.kd == 1 && e.v.ok):=by unfold Gx.settled; rw [h1,show x.kd = e.v.kd from hv.kd]
 rw [hs]
 obtain ⟨r,hr⟩ : ∃ r,e.v.ok = r:=⟨_,rfl⟩
 rw [hr] at hc ⊢
 by_cases e1 : x.op = 1
 ·by_cases e2 : x.kd = 1
  ·obtain ⟨op,nm,kd,b3,s4,b5,s6,i7,s8⟩:=x
   simp only at e1 e2
   subst e1 e2
   clear h hv hs h1 h2
   go_enter Tryz.func148,Tryz.ntmps148
   go_wp2_with fail
   refine hc.mono ?_
   rintro en w2 ⟨rfl,hb2⟩
   go_wp2_with fail
   go_ret
   exact ⟨by simp,b1.trans (hb2.mono (by simp))⟩
  ·have e3 : (x.kd == 1) = false:=by simp [e2]
   obtain ⟨op,nm,kd,b3,s4,b5,s6,i7,s8⟩:=x
   simp only at e1 e2 e3
   subst e1
   clear h hv hs h1 h2 hc
   simp only [e3]
   go_enter Tryz.func148,Tryz.ntmps148
   go_wp2_with fail
   go_ret
   exact ⟨by simp,b1⟩
 ·have e3 : (x.op == 1) = false:=by simp [e1]
  obtain ⟨op,nm,kd,b3,s4,b5,s6,i7,s8⟩:=x
  simp only at e1 e3
  clear h hv hs h1 h2 hc
  simp only [e3]
  go_enter Tryz.func148,Tryz.ntmps148
  go_wp2_with fail
  go_ret
  exact ⟨by simp,b1⟩
theorem composed_any (K : Nat) (e : Gx) (x : Xv) (w : World) (h : ExG K w e x) : Calls Tryz.prog 149 #[x.agg] w fun en w' => en = .returned (.bool e.composed) /\ Below w.heap.size w w':=by
 obtain ⟨h1,h2,h3,hv,g,hr,_⟩:=h.open
 have b1 : Below w.heap.size w (w.alloc (.cells x.cells 49)):=(Below.refl _ _).alloc (Nat.le_refl _) _
 obtain ⟨op,nm,kd,b3,s4,b5,s6,i7,s8⟩:=x
 obtain ⟨sa,scap,hse,_⟩:=hr.form
 simp only at hse h1
 obtain ⟨a8,n8,m8⟩:=s8
 simp only [Sl.val,Value.slice.injEq] at hse
 obtain ⟨rfl,rfl,rfl⟩:=hse
 obtain ⟨n,hn⟩ : ∃ n,e.args.length = n:=⟨_,rfl⟩
 obtain ⟨r,hr'⟩ : ∃ r,e.composed = r:=⟨_,rfl⟩
 have HR : Hid (r = ((op == 15 || op == 16) && n == 2 || op == 17 && n == 1 || op == 18 && n == 3)):=Lib.hid (by rw [<- hr',<- hn,h1]; rfl)
 rw [hr',hn]
 rw [hn] at b1
 have k2 : ((n : Int) == 2) = (n == 2):=by rw [Bool.eq_iff_iff]; simp; omega
 have k1 : ((n : Int) == 1) = (n == 1):=by rw [Bool.eq_iff_iff]; simp; omega
 have k3 : ((n : Int) == 3) = (n == 3):=by rw [Bool.eq_iff_iff]; simp; omega
 clear h hv h1 h2 h3 hr hn hr'
 by_cases e15 : op = 15
 ·have E:=Lib.hid (HR.out.trans (show _ = (n == 2) by rw [e15]; simp))
  subst e15
  go_enter Tryz.func149,Tryz.ntmps149
  go_wp2_with fail
  go_ret
  exact ⟨by rw [E.out]; rfl,b1⟩
 ·by_cases e16 : op = 16
  ·have E:=Lib.hid (HR.out.trans (show _ = (n == 2) by rw [e16]; simp))
   subst e16
   go_enter Tryz.func149,Tryz.ntmps149
   go_wp2_with fail
   go_ret
   exact ⟨by rw [E.out]; rfl,b1⟩
  ·by_cases e17 : op = 17
   ·have E:=Lib.hid (HR.out.trans (show _ = (n == 1) by rw [e17]; simp))
    subst e17
    go_enter Tryz.func149,Tryz.ntmps149
    go_wp2_with fail
    go_ret
    exact ⟨by rw [E.out]; rfl,b1⟩
   ·by_cases e18 : op = 18
    ·have E:=Lib.hid (HR.out.trans (show _ = (n == 3) by rw [e18]; simp))
     subst e18
     go_enter Tryz.func149,Tryz.ntmps149
     go_wp2_with fail
     go_ret
     exact ⟨by rw [E.out]; rfl,b1⟩
    ·have E:=Lib.hid (HR.out.trans (show _ = false by simp [e15,e16,e17,e18]))
     have x15 : (op == 15) = false:=by simp [e15]
     have x16 : (op == 16) = false:=by simp [e16]
     have x17 : (op == 17) = false:=by simp [e17]
     have x18 : (op == 18) = false:=by simp [e18]
     clear e15 e16 e17 e18
     go_enter Tryz.func149,Tryz.ntmps149
     go_wp2_with fail
     go_ret
     exact ⟨by rw [E.out]; rfl,b1⟩
structure Tv where
 sub : Xv
 kd : Int
 cut : Vv
 op : Int
 snd : Bool
abbrev Tv.cells (y : Tv) : Array Value:=#[.int .u8 y.sub.op,S y.sub.nm,.int .u8 y.sub.kd,.bool y.sub.b3,.slice y.sub.s4.a y.sub.s4.n y.sub.s4.m,.bool y.sub.b5,.slice y.sub.s6.a y.sub.s6.n y.sub.s6.m,.int .i64 y.sub.i7,.slice y.sub.s8.a y.sub.s8.n y.sub.s8.m,
 .int .u8 y.kd,.int .u8 y.cut.kd,.bool y.cut.b1,y.cut.s1,.bool y.cut.b2,y.cut.s2,.int .i64 y.cut.i,.int .u8 y.op,.bool y.snd]
abbrev Tv.agg (y : Tv) : Value:=.agg y.cells
structure TqX (K : Nat) (w : World) (t : Tq) (y : Tv) : Prop where
 sub : ExG K w t.sub y.sub
 kd : y.kd = t.kd
 cut : VlX K w t.cut y.cut
 op : y.op = t.op
 snd : y.snd = t.snd
theorem TqX.below {K K' B : Nat} {w w' : World} {t : Tq} {y : Tv} (h : TqX K w t y) (hb : Below B w w') (hB : K <= B) (hK : K <= K') : TqX K' w' t y:=⟨h.sub.below hb hB hK,h.kd,h.cut.below hb hB hK,h.op,h.snd⟩
abbrev vv0 : Vv:=⟨0,false,.slice none 0 0,false,.slice none 0 0,0⟩
theorem vv0_is (K : Nat) (w : World) : VlX K w v0 vv0:=⟨rfl,rfl,rfl,rfl,Lm.nil _ _,Lm.nil _ _⟩
theorem wpList_store_new {ops : Array Oper} {rest : List Oper} {op : Oper} {a : Act} {w : World} {Q : Exit -> Act -> World -> Prop} (hgd : op.guard = none) (ty : TypeId) (x y : Operand) (ho : op.op = .store ty x y) (cs old : Array Value)
  (hi : (Tryz.prog.info? ty).map (fun i => i.size) = some cs.size) (hsz : old.size = cs.size) (h1 : ∀ v ∈ cs,v.oneCell' = true) (b : Nat) (hb : b = w.heap.size)
  (hx : a.eval x = .pointer (some ⟨b,0,none⟩)) (hy : a.eval y = .agg cs)
  (h : wpList Tryz.prog ops Q rest (a.put op.dst undef) (w.alloc (.cells cs ty))) : wpList Tryz.prog ops Q (op :: rest) a (w.alloc (.cells old ty)):=by
 subst hb
 refine wpList_store_row hgd ty x y ho w.heap.size cs hx hy ty old (World.alloc_heap_new w _) hi hsz (by rw [Array.all_eq_true_iff_forall_mem]; exact h1) ?_
 rw [World.setRow_alloc_new]
 exact h
theorem wpList_store_blk {ops : Array Oper} {rest : List Oper} {op : Oper} {a : Act} {w : World} {Q : Exit -> Act -> World -> Prop} (hgd : op.guard = none) (ty t : TypeId) (x y : Operand) (ho : op.op = .store ty x y) (cs old : Array Value) (b : Nat)
  (hq : Blk w b old t) (hi : (Tryz.prog.info? ty).map (fun i => i.size) = some cs.size) (hsz : old.size = cs.size) (h1 : ∀ v ∈ cs,v.oneCell' = true)
  (hx : a.eval x = .pointer (some ⟨b,0,none⟩)) (hy : a.eval y = .agg cs)
  (h : ∀ W',Blk W' b cs t -> (∀ B,B <= b -> Below B w W') -> w.grownBy W' (some b) -> W'.heap.size = w.heap.size -> wpList Tryz.prog ops Q rest (a.put op.dst undef) W') : wpList Tryz.prog ops Q (op :: rest) a w:=by
 refine wpList_store_row hgd ty x y ho b cs hx hy t old hq hi hsz (by rw [Array.all_eq_true_iff_forall_mem]; exact h1) ?_
 have hs : (w.setRow b cs).heap.size = w.heap.size:=by simp [World.setRow]
 exact h _ (setRow_heap w b old cs t _ hq) (fun B hB => ⟨rfl,rfl,rfl,Nat.le_of_eq hs.symm,fun k hk => setRow_other w b k cs (by omega)⟩) ⟨rfl,rfl,rfl,Nat.le_of_eq hs.symm,fun k _ hk => setRow_other w b k cs (fun e => hk (by rw [e]))⟩ hs
theorem infoTest : (Tryz.prog.info? 156).map (fun i => i.size) = some 18:=by kernel_rfl
theorem results_row {fn : Func} {t : Tmp} {ty : TypeId} (h : fn.results = #[.cell t ty]) (tmps : Array Value) (P : Program) (w : World) (b o : Nat) (cs : List Value) (d : TypeDesc) (hc : w.rangeAt b o cs) (ht : tmps.getD t undef = .pointer (some ⟨b,o,none⟩))
  (hu : P.underlying ty = some d) (hd : d.isRow = true) (hi : (P.info? ty).map (·.size) = some cs.length) : (results fn tmps).run P w = .ok (.agg cs.toArray) w:=by
 have hl:=run_loadVar_mid (P:=P) w b o ty cs d hc hu hd hi
 have ht' : tmps[t]?.getD undef = .pointer (some ⟨b,o,none⟩):=by simpa using ht
 simp [results,h,ht',asAddr,hl]
theorem Blk.range {w : World} {b t : Nat} {cs : Array Value} (h : Blk w b cs t) : w.rangeAt b 0 cs.toList:=by
 intro j v hj
 rw [Nat.zero_add]
 exact h.at (by simpa using hj)
theorem results_blk {fn : Func} {t : Tmp} {ty : TypeId} (h : fn.results = #[.cell t ty]) (tmps : Array Value) (w : World) (b : Nat) (cs : Array Value) (d : TypeDesc) (hc : Blk w b cs ty) (ht : tmps.getD t undef = .pointer (some ⟨b,0,none⟩))
  (hu : Tryz.prog.underlying ty = some d) (hd : d.isRow = true) (hi : (Tryz.prog.info? ty).map (fun i => i.size) = some cs.size) : (results fn tmps).run Tryz.prog w = .ok (.agg cs) w:=by
 have := results_row h tmps Tryz.prog w b 0 cs.toList d hc.range ht hu hd (by rw [hi]; simp)
 simpa using this
end Go.Proofs.YtlidpghnlloinaaGreatDoor
