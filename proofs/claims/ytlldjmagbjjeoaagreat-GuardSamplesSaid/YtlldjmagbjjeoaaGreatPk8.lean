/- Contracts and plain laws, several texts in one (NW12, NW13, NLehm, NW14S, NKnu, NW9S). No conditions beyond those stated. -/
import Derived.Test.YtlldjmagbjjeoaaGreatPk7
set_option maxRecDepth 100000
set_option maxHeartbeats 40000000
namespace Go.Proofs.YtlldjmagbjjeoaaGreat
open Go.RowKit
set_option linter.unusedVariables false
theorem nheadF_any (K B : Nat) (u : Value) (la : List Nat) (i : Nat) (w : World) (hla : Ws K w u la) (hb : w.cell? ⟨B,0,none⟩ = some u) :
  Calls Tryz.prog 121 #[.int .i64 i,.pointer (some ⟨B,0,none⟩)] w fun e w' => e = .returned (.int .u64 (la[i]?.getD 0 : Nat)) /\ w' = w:=by
 obtain ⟨ua,uc,rfl,hu1,hu2⟩:=hla.form
 unfold maxLen at hu2
 have hca:=hla.cells
 obtain ⟨p,hp⟩ : ∃ p,la.length = p:=⟨_,rfl⟩
 rw [hp] at hu1 hb
 by_cases hip : i < p
 ·obtain ⟨x,hx⟩ : ∃ x,la[i]? = some x:=⟨_,List.getElem?_eq_getElem (by rw [hp]; exact hip)⟩
  obtain ⟨ub,uo,rfl,hub,huc,hx32⟩:=hca i x hx
  have hw : IntKind.u64.wrap (x : Int) = x:=wu64 (by unfold WB32 at hx32; omega)
  rw [hx]
  show Calls _ _ _ _ fun e w' => e = .returned (.int .u64 (x : Int)) /\ w' = w
  clear hca hla hx hp
  go_enter Tryz.func121,Tryz.ntmps121
  go_wp2_with fail
  go_ret
  exact ⟨rfl,rfl⟩
 ·have h0 : la[i]?.getD 0 = 0:=by rw [List.getElem?_eq_none (by rw [hp]; omega)]; rfl
  rw [h0]
  clear hca hla hp h0
  go_enter Tryz.func121,Tryz.ntmps121
  go_wp2_with fail
  go_ret
  exact ⟨rfl,rfl⟩
def headOf (la : List Nat) (n s : Nat) : Nat:=(la[n - 1]?.getD 0 * WB32 + la[n - 2]?.getD 0) * 2 ^ s + la[n - 3]?.getD 0 / 2 ^ (32 - s)
theorem nhead_any (K : Nat) (u : Value) (la : List Nat) (n s : Nat) (w : World) (hla : Ws K w u la) (hK : K <= w.heap.size) (hn : 3 <= n) (hn38 : n <= 2 ^ 38) (hs : s < 32) (hh : la[n - 1]?.getD 0 * 2 ^ s < WB32) :
  Calls Tryz.prog 115 #[u,.int .i64 n,.int .i64 s] w fun e w' => e = .returned (.int .u64 (headOf la n s : Nat)) /\ Below w.heap.size w w':=by
 obtain ⟨ua,uc,rfl,_,_⟩:=hla.form
 obtain ⟨T,hT⟩ : ∃ T,w.heap.size = T:=⟨_,rfl⟩
 rw [hT]
 obtain ⟨p,hp⟩ : ∃ p,la.length = p:=⟨_,rfl⟩
 have hget : ∀ i : Nat,la[i]?.getD 0 < WB32:=fun i => by
  cases h : la[i]? with
  | none => decide
  | some d => exact hla.lt d (List.mem_of_getElem? h)
 obtain ⟨h,hhe⟩ : ∃ z,la[n - 1]?.getD 0 = z:=⟨_,rfl⟩
 obtain ⟨m,hme⟩ : ∃ z,la[n - 2]?.getD 0 = z:=⟨_,rfl⟩
 obtain ⟨t,hte⟩ : ∃ z,la[n - 3]?.getD 0 = z:=⟨_,rfl⟩
 have hh32 : h < WB32:=hhe ▸ hget _
 have hm32 : m < WB32:=hme ▸ hget _
 have ht32 : t < WB32:=hte ▸ hget _
 obtain ⟨P,hP⟩ : ∃ P,2 ^ s = P:=⟨_,rfl⟩
 obtain ⟨Q,hQ⟩ : ∃ Q,2 ^ (32 - s) = Q:=⟨_,rfl⟩
 have hPQ : P * Q = WB32:=by rw [<- hP,<- hQ,<- Nat.pow_add,show s + (32 - s) = 32 by omega]
 rw [hhe,hP] at hh
 unfold headOf
 rw [hhe,hme,hte,hP,hQ]
 have hP0 : 0 < P:=by rw [<- hP]; exact Nat.pow_pos (by omega)
 obtain ⟨H,hH⟩ : ∃ z,h * WB32 = z:=⟨_,rfl⟩
 obtain ⟨S,hS⟩ : ∃ z,H + m = z:=⟨_,rfl⟩
 obtain ⟨D,hD⟩ : ∃ z,S * P = z:=⟨_,rfl⟩
 obtain ⟨tq,htq⟩ : ∃ z,t / Q = z:=⟨_,rfl⟩
 obtain ⟨R,hR⟩ : ∃ z,D + tq = z:=⟨_,rfl⟩
 rw [hH,hS,hD,htq,hR]
 have hHi : (h : Int) * 4294967296 = (H : Int):=by unfold WB32 at hH; omega
 have hDi : (S : Int) * (P : Int) = (D : Int):=by rw [<- hD]; simp
 have htqi : (t : Int) / (Q : Int) = (tq : Int):=by rw [<- htq]; simp
 have hPi : (2 : Int) ^ s = (P : Int):=by rw [<- hP]; simp
 obtain ⟨s',hs'⟩ : ∃ z,32 - s = z:=⟨_,rfl⟩
 have hs'i : (32 : Int) - (s : Int) = (s' : Int):=by omega
 have hQi : (2 : Int) ^ s' = (Q : Int):=by rw [<- hQ,<- hs']; simp
 have hD64 : D + P <= 18446744073709551616:=by
  have h1 : h * P + 1 <= WB32:=hh
  have h2 : S + 1 <= (h + 1) * WB32:=by rw [Nat.add_mul,hH]; omega
  have h3 : (S + 1) * P <= (h + 1) * WB32 * P:=Nat.mul_le_mul_right _ h2
  rw [Nat.add_mul,hD,Nat.one_mul] at h3
  have h4 : (h + 1) * P <= WB32:=by
   rw [<- hPQ]
   rw [<- hPQ] at h1
   have h5 : h < Q:=Nat.lt_of_mul_lt_mul_left (a:=P) (by rw [Nat.mul_comm]; omega)
   rw [Nat.mul_comm]
   exact Nat.mul_le_mul_left _ h5
  have h6 : (h + 1) * WB32 * P = (h + 1) * P * WB32:=by rw [Nat.mul_assoc,Nat.mul_comm WB32 P,<- Nat.mul_assoc]
  have h7 : (h + 1) * P * WB32 <= WB32 * WB32:=Nat.mul_le_mul_right _ h4
  have h8 : WB32 * WB32 = 18446744073709551616:=by decide
  omega
 have htqP : tq < P:=by
  rw [<- htq]
  refine Nat.div_lt_of_lt_mul ?_
  rw [Nat.mul_comm,hPQ]; exact ht32
 have hor1 : bits BinOp.or IntKind.u64 (H : Int) (m : Int) = (S : Int):=by
  rw [u64_or_nat H m (by unfold WB32 at *; omega) (by unfold WB32 at *; omega)]
  have := Nat.two_pow_add_eq_or_of_lt (i:=32) (show m < 2 ^ 32 from hm32) h
  have e : H = 2 ^ 32 * h:=by unfold WB32 at hH; omega
  rw [e,<- this]; omega
 have hor2 : bits BinOp.or IntKind.u64 (D : Int) (tq : Int) = (R : Int):=by
  rw [u64_or_nat D tq (by omega) (by omega)]
  have := Nat.two_pow_add_eq_or_of_lt (i:=s) (show tq < 2 ^ s by rw [hP]; exact htqP) S
  rw [hP] at this
  have e : D = P * S:=by rw [Nat.mul_comm]; exact hD.symm
  rw [e,<- this,<- hR,e]
 have hw1 : IntKind.u64.wrap (H : Int) = H:=wu64 (by unfold WB32 at *; omega)
 have hw2 : IntKind.u64.wrap (D : Int) = D:=wu64 (by omega)
 obtain ⟨n1,hnn1⟩ : ∃ z,n - 1 = z:=⟨_,rfl⟩
 have hn1 : (n : Int) - 1 = (n1 : Int):=by omega
 obtain ⟨n2,hnn2⟩ : ∃ z,n - 2 = z:=⟨_,rfl⟩
 have hn2 : (n : Int) - 2 = (n2 : Int):=by omega
 obtain ⟨n3,hnn3⟩ : ∃ z,n - 3 = z:=⟨_,rfl⟩
 have hn3 : (n : Int) - 3 = (n3 : Int):=by omega
 obtain ⟨W1,hW1⟩ : ∃ W,w.alloc (.cells #[.slice ua p uc] 121) = W:=⟨_,rfl⟩
 have HT:=Lib.hid hT
 have HW1:=Lib.hid hW1
 have hc0 : W1.cell? ⟨T,0,none⟩ = some (.slice ua p uc):=by rw [<- hW1,<- hT]; simp
 have hb1 : Below T w W1:=by rw [<- hW1,<- hT]; exact (Below.refl _ _).alloc (Nat.le_refl _) _
 have HB1:=Lib.hid hb1
 have hla1 : Ws K W1 (.slice ua la.length uc) la:=hla.below hb1 (hT ▸ hK) (Nat.le_refl _)
 have hcl : ∀ (i : Nat) (k : Nat),Calls Tryz.prog 121 #[.int .i64 i,.pointer (some ⟨T,0,none⟩)] (W1.drewN k) fun e w' => e = .returned (.int .u64 (la[i]?.getD 0 : Nat)) /\ w' = W1.drewN k:=fun i k => nheadF_any K T (.slice ua la.length uc) la i (W1.drewN k) (hla1.below (below_drewN3 (Below.refl T W1) k) (hT ▸ hK) (Nat.le_refl _)) (hp.symm ▸ hc0)
 have HC1:=Lib.hid (hcl n1)
 have HC2:=Lib.hid (hcl n2)
 have HC3:=Lib.hid (hcl n3)
 rw [hnn1] at hhe
 rw [hnn2] at hme
 rw [hnn3] at hte
 rw [hhe] at HC1
 rw [hme] at HC2
 rw [hte] at HC3
 rw [hp]
 clear hc0 hb1 hla1 hcl hla
 clear hp hnn1 hnn2 hnn3 hhe hme hte hH hS hD htq hR hP hQ hPQ hget
 go_enter Tryz.func115,Tryz.ntmps115
 go_upto_region 2 with fail
 try rw [HW1.out]
 clear hW1
 have c1:=HC1.out
 have c2:=HC2.out
 have c3:=HC3.out
 refine wp_region_quiet_lit (by kernel_rfl) (by kernel_rfl) ?_
 iterate 3 go_big_quiet_step (fail)
 go_big_quiet_step (refine Calls.quiet_of_same (c1 _))
 iterate 4 go_big_quiet_step (fail)
 go_big_quiet_step (refine Calls.quiet_of_same (c2 _))
 iterate 6 go_big_quiet_step (fail)
 go_big_quiet_step (refine Calls.quiet_of_same (c3 _))
 iterate 5 go_big_quiet_step (fail)
 refine wpQuiet_nil ?_
 rintro _ ⟨nq,rfl⟩
 have HB2:=Lib.hid (below_drewN3 HB1.out nq)
 clear c1 c2 c3 HC1 HC2 HC3
 go_wp2_with fail
 go_ret
 exact ⟨rfl,HB2.out⟩
theorem headOf_eq {la : List Nat} {n s : Nat} (hlt : ∀ d ∈ la,d < WB32) (hl : la.length <= n) (hn : 3 <= n) (hs : s < 32) : headOf la n s = bv WB32 la * 2 ^ s / WB32 ^ (n - 2):=by
 obtain ⟨i,rfl⟩ : ∃ i,n = i + 3:=⟨n - 3,by omega⟩
 unfold headOf
 rw [show i + 3 - 1 = i + 2 by omega,show i + 3 - 2 = i + 1 by omega,show i + 3 - 3 = i by omega]
 have hb : bv WB32 la = bv WB32 (la.take (i + 3)):=by rw [List.take_of_length_le hl]
 rw [hb,take_getD_bv,take_getD_bv,take_getD_bv]
 have hr:=bv_lt (la.take i) (fun d hd => hlt d (List.mem_of_mem_take hd))
 have hr2 : WB32 ^ (la.take i).length <= WB32 ^ i:=Nat.pow_le_pow_right (by decide) (by rw [List.length_take]; omega)
 obtain ⟨h,hh⟩ : ∃ z,la[i + 2]?.getD 0 = z:=⟨_,rfl⟩
 obtain ⟨m,hm⟩ : ∃ z,la[i + 1]?.getD 0 = z:=⟨_,rfl⟩
 obtain ⟨t,ht⟩ : ∃ z,la[i]?.getD 0 = z:=⟨_,rfl⟩
 obtain ⟨R,hR⟩ : ∃ z,bv WB32 (la.take i) = z:=⟨_,rfl⟩
 have hPQ : 2 ^ s * 2 ^ (32 - s) = WB32:=by rw [<- Nat.pow_add,show s + (32 - s) = 32 by omega]
 have hP0 : 0 < 2 ^ s:=Nat.pow_pos (by omega)
 obtain ⟨P,hP⟩ : ∃ P,2 ^ s = P:=⟨_,rfl⟩
 obtain ⟨Q,hQ⟩ : ∃ Q,2 ^ (32 - s) = Q:=⟨_,rfl⟩
 have e1 : WB32 ^ (i + 1) = WB32 ^ i * WB32:=Nat.pow_succ ..
 have e2 : WB32 ^ (i + 2) = WB32 ^ i * WB32 * WB32:=by rw [Nat.pow_succ,Nat.pow_succ]
 have hM0 : 0 < WB32 ^ i:=Nat.pow_pos (by decide)
 rw [e1,e2,hh,hm,ht,hR,hP,hQ]
 rw [hR] at hr
 rw [hP,hQ] at hPQ
 rw [hP] at hP0
 obtain ⟨M,hM⟩ : ∃ M,WB32 ^ i = M:=⟨_,rfl⟩
 rw [hM] at hr2 hM0 ⊢
 have hRM : R < M:=by omega
 have hB0 : 0 < WB32:=by decide
 generalize WB32 = B at hPQ hB0 ⊢
 have e3 : (R + M * t + M * B * m + M * B * B * h) * P = (R + M * t) * P + M * B * ((h * B + m) * P):=by
  have a1 : M * B * ((h * B + m) * P) = M * B * (h * B + m) * P:=(Nat.mul_assoc _ _ _).symm
  have a2 : M * B * (h * B + m) = M * B * B * h + M * B * m:=by rw [Nat.mul_add,Nat.mul_comm h B,<- Nat.mul_assoc]
  rw [a1,a2,<- Nat.add_mul]
  congr 1
  omega
 rw [e3,Nat.add_mul_div_left _ _ (Nat.mul_pos hM0 hB0)]
 have e4 : (R + M * t) * P / (M * B) = t / Q:=by
  rw [<- hPQ,Nat.mul_comm P Q,<- Nat.mul_assoc,Nat.mul_div_mul_right _ _ hP0,<- Nat.div_div_eq_div_mul,Nat.add_mul_div_left _ _ hM0,Nat.div_eq_of_lt hRM,Nat.zero_add]
 rw [e4,Nat.add_comm]
structure Lh where
 a1 : Nat
 a2 : Nat
 u0 : Nat
 u1 : Nat
 u2 : Nat
 v0 : Nat
 v1 : Nat
 v2 : Nat
 ev : Bool
def Lh.start (X Y : Nat) : Lh:=⟨X,Y,0,1,0,0,0,1,false⟩
def Lh.go (s : Lh) : Lh:=⟨s.a2,s.a1 % s.a2,s.u1,s.u2,s.u1 + s.a1 / s.a2 * s.u2,s.v1,s.v2,s.v1 + s.a1 / s.a2 * s.v2,!s.ev⟩
def Lh.more (s : Lh) : Prop:=s.v2 <= s.a2 /\ s.v1 + s.v2 <= s.a1 - s.a2
structure LhI (X Y : Nat) (s : Lh) : Prop where
 le : s.a2 <= s.a1
 d1 : (s.a1 : Int) = if s.ev then (s.v1 : Int) * Y - s.u1 * X else s.u1 * X - s.v1 * Y
 d2 : (s.a2 : Int) = if s.ev then (s.u2 : Int) * X - s.v2 * Y else s.v2 * Y - s.u2 * X
 det : (s.u1 : Int) * s.v2 - s.u2 * s.v1 = if s.ev then -1 else 1
 cv : s.a1 * s.v2 + s.a2 * s.v1 = X
 cu : s.a1 * s.u2 + s.a2 * s.u1 = Y
 p2 : 1 <= s.v2
 m2 : s.v1 <= s.v2
 m0 : s.v0 <= s.v1
 lead : (s.v1 = 0 /\ s.u1 = 1 /\ s.u2 = 0 /\ s.v2 = 1 /\ s.v0 = 0 /\ s.a1 = X /\ s.a2 = Y /\ s.ev = false) \/ (s.u1 <= s.v1 /\ s.u2 <= s.v2 /\ 1 <= s.v1 /\ 1 <= s.u2 /\ s.v1 <= s.a1 /\ s.a1 <= Y ∧
  ∃ a0 : Nat,s.a1 + s.v1 + s.v0 <= a0 /\ (a0 : Int) = (if s.ev then (s.u0 : Int) * X - s.v0 * Y else s.v0 * Y - s.u0 * X) /\ a0 * s.v1 + s.a1 * s.v0 = X /\ (s.u0 : Int) * s.v1 - s.u1 * s.v0 = (if s.ev then 1 else -1) ∧
   ((s.v0 = 0 /\ s.u0 = 1 /\ s.u1 = 0 /\ s.v1 = 1) \/ (1 <= s.v0 /\ s.u0 <= s.v0 /\ a0 <= Y)))
theorem LhI.start {X Y : Nat} (h : Y <= X) : LhI X Y (Lh.start X Y) where
 le:=h
 d1:=by show (X : Int) = ((1 : Nat) : Int) * X - ((0 : Nat) : Int) * Y; omega
 d2:=by show (Y : Int) = ((1 : Nat) : Int) * Y - ((0 : Nat) : Int) * X; omega
 det:=by show ((1 : Nat) : Int) * ((1 : Nat) : Int) - ((0 : Nat) : Int) * ((0 : Nat) : Int) = 1; rfl
 cv:=by show X * 1 + Y * 0 = X; omega
 cu:=by show X * 0 + Y * 1 = Y; omega
 p2:=Nat.le_refl _
 m2:=Nat.zero_le _
 m0:=Nat.le_refl _
 lead:=.inl ⟨rfl,rfl,rfl,rfl,rfl,rfl,rfl,rfl⟩
theorem LhI.go {X Y : Nat} {s : Lh} (h : LhI X Y s) (hm : s.more) : LhI X Y s.go:=by
 obtain ⟨m1,m2'⟩:=hm
 have hp2:=h.p2
 have hle:=h.le
 have ha2 : 0 < s.a2:=by omega
 have hdm : s.a2 * (s.a1 / s.a2) + s.a1 % s.a2 = s.a1:=Nat.div_add_mod _ _
 have hq : 1 <= s.a1 / s.a2:=(Nat.le_div_iff_mul_le ha2).2 (by omega)
 have hlt : s.a1 % s.a2 < s.a2:=Nat.mod_lt _ ha2
 obtain ⟨a1,a2,u0,u1,u2,v0,v1,v2,ev⟩:=s
 dsimp only at *
 have hd1:=h.d1
 have hd2:=h.d2
 have hdet:=h.det
 have hcv:=h.cv
 have hcu:=h.cu
 have hm2:=h.m2
 have hl:=h.lead
 dsimp only at hd1 hd2 hdet hcv hcu hm2 hl hp2 hle ha2 m1 m2'
 unfold Lh.go
 dsimp only
 generalize a1 / a2 = q at hdm hq ⊢
 generalize a1 % a2 = r at hdm hlt ⊢
 have hqv : v2 <= q * v2:=Nat.le_mul_of_pos_left _ hq
 have hqu : u2 <= q * u2:=Nat.le_mul_of_pos_left _ hq
 have hquv : u2 <= v2 -> q * u2 <= q * v2:=fun h => Nat.mul_le_mul_left _ h
 have hr : (r : Int) = a1 - q * a2:=by
  have : ((a2 * q + r : Nat) : Int) = a1:=by rw [hdm]
  rw [Int.natCast_add,Int.natCast_mul,Int.mul_comm] at this
  omega
 clear h
 refine ⟨by show r <= a2; omega,?_,?_,?_,?_,?_,by show 1 <= v1 + q * v2; omega,by show v2 <= v1 + q * v2; omega,hm2,.inr ⟨?_,?_,hp2,?_,m1,?_,a1,?_,?_,hcv,?_,?_⟩⟩
 ·show (a2 : Int) = if !ev then (v2 : Int) * Y - u2 * X else u2 * X - v2 * Y
  cases ev <;> simpa using hd2
 ·show (r : Int) = if !ev then ((u1 + q * u2 : Nat) : Int) * X - ((v1 + q * v2 : Nat) : Int) * Y else ((v1 + q * v2 : Nat) : Int) * Y - ((u1 + q * u2 : Nat) : Int) * X
  rw [hr]
  simp only [Int.natCast_add,Int.natCast_mul,Int.add_mul,Int.mul_assoc]
  cases ev
  ·simp only [Bool.false_eq_true,if_false,Bool.not_false,if_true] at hd1 hd2 ⊢
   rw [hd1,hd2,Int.mul_sub]
   omega
  ·simp only [if_true,Bool.not_true,Bool.false_eq_true,if_false] at hd1 hd2 ⊢
   rw [hd1,hd2,Int.mul_sub]
   omega
 ·show (u2 : Int) * ((v1 + q * v2 : Nat) : Int) - ((u1 + q * u2 : Nat) : Int) * v2 = if !ev then -1 else 1
  simp only [Int.natCast_add,Int.natCast_mul,Int.add_mul,Int.mul_add,Int.mul_assoc]
  rw [Int.mul_left_comm (u2 : Int) q v2]
  cases ev
  ·simp only [Bool.false_eq_true,if_false,Bool.not_false,if_true] at hdet ⊢
   omega
  ·simp only [if_true,Bool.not_true,Bool.false_eq_true,if_false] at hdet ⊢
   omega
 ·show a2 * (v1 + q * v2) + r * v2 = X
  rw [<- hcv,<- hdm,Nat.mul_add,Nat.add_mul,Nat.mul_assoc]
  omega
 ·show a2 * (u1 + q * u2) + r * u2 = Y
  rw [<- hcu,<- hdm,Nat.mul_add,Nat.add_mul,Nat.mul_assoc]
  omega
 ·show u2 <= v2
  omega
 ·show u1 + q * u2 <= v1 + q * v2
  have := hquv (by omega)
  rcases hl with ⟨e1,e2,e3,e4,_⟩ | ⟨e1,_⟩
  ·subst e3
   omega
  ·omega
 ·show 1 <= u1 + q * u2
  omega
 ·show a2 <= Y
  omega
 ·show a2 + v2 + v1 <= a1
  omega
 ·show (a1 : Int) = if !ev then (u1 : Int) * X - v1 * Y else v1 * Y - u1 * X
  cases ev <;> simpa using hd1
 ·show (u1 : Int) * v2 - u2 * v1 = if !ev then 1 else -1
  cases ev <;> simpa using hdet
 ·show (v1 = 0 /\ u1 = 1 /\ u2 = 0 /\ v2 = 1) \/ (1 <= v1 /\ u1 <= v1 /\ a1 <= Y)
  omega
theorem comb_neg {u0 u1 v0 v1 : Int} (A B : Int) (l10 : u0 * v1 - u1 * v0 = -1) : v1 * (v0 * B - u0 * A) + v0 * (u1 * A - v1 * B) = A /\ u1 * (v0 * B - u0 * A) + u0 * (u1 * A - v1 * B) = B:=by
 constructor
 ·have : (u0 * v1 - u1 * v0) * A = -1 * A:=by rw [l10]
  simp only [Int.mul_sub,Int.mul_comm,Int.mul_left_comm] at this ⊢
  omega
 ·have : (u0 * v1 - u1 * v0) * B = -1 * B:=by rw [l10]
  simp only [Int.mul_sub,Int.mul_comm,Int.mul_left_comm] at this ⊢
  omega
theorem comb_pos {u0 u1 v0 v1 : Int} (A B : Int) (l10 : u0 * v1 - u1 * v0 = 1) : v1 * (u0 * A - v0 * B) + v0 * (v1 * B - u1 * A) = A /\ u1 * (u0 * A - v0 * B) + u0 * (v1 * B - u1 * A) = B:=by
 constructor
 ·have : (u0 * v1 - u1 * v0) * A = 1 * A:=by rw [l10]
  simp only [Int.mul_sub,Int.mul_comm,Int.mul_left_comm] at this ⊢
  omega
 ·have : (u0 * v1 - u1 * v0) * B = 1 * B:=by rw [l10]
  simp only [Int.mul_sub,Int.mul_comm,Int.mul_left_comm] at this ⊢
  omega
theorem gcd_of_comb {A B A' B' p q r t : Nat} (h1 : A = p * A' + q * B') (h2 : B = r * A' + t * B') {c d e f : Nat} (h3 : c * A = d * B + A' \/ c * B = d * A + A') (h4 : e * B = f * A + B' \/ e * A = f * B + B') : Nat.gcd A' B' = Nat.gcd A B:=by
 refine Nat.dvd_antisymm (Nat.dvd_gcd ?_ ?_) (Nat.dvd_gcd ?_ ?_)
 ·rw [h1]; exact Nat.dvd_add (Nat.dvd_mul_left_of_dvd (Nat.gcd_dvd_left _ _) _) (Nat.dvd_mul_left_of_dvd (Nat.gcd_dvd_right _ _) _)
 ·rw [h2]; exact Nat.dvd_add (Nat.dvd_mul_left_of_dvd (Nat.gcd_dvd_left _ _) _) (Nat.dvd_mul_left_of_dvd (Nat.gcd_dvd_right _ _) _)
 ·rcases h3 with h3 | h3
  ·exact (Nat.dvd_add_right (Nat.dvd_mul_left_of_dvd (Nat.gcd_dvd_right A B) d)).1 (h3 ▸ Nat.dvd_mul_left_of_dvd (Nat.gcd_dvd_left A B) c)
  ·exact (Nat.dvd_add_right (Nat.dvd_mul_left_of_dvd (Nat.gcd_dvd_left A B) d)).1 (h3 ▸ Nat.dvd_mul_left_of_dvd (Nat.gcd_dvd_right A B) c)
 ·rcases h4 with h4 | h4
  ·exact (Nat.dvd_add_right (Nat.dvd_mul_left_of_dvd (Nat.gcd_dvd_left A B) f)).1 (h4 ▸ Nat.dvd_mul_left_of_dvd (Nat.gcd_dvd_right A B) e)
  ·exact (Nat.dvd_add_right (Nat.dvd_mul_left_of_dvd (Nat.gcd_dvd_right A B) f)).1 (h4 ▸ Nat.dvd_mul_left_of_dvd (Nat.gcd_dvd_left A B) e)
theorem LhI.fin {X Y : Nat} {s : Lh} (h : LhI X Y s) (hv : s.v0 ≠ 0) {k α β A B : Nat} (hα : α < k) (hβ : β < k) (hA : A = X * k + α) (hB : B = Y * k + β) :
  ∃ A' B' : Nat,(if s.ev then s.u0 * A = s.v0 * B + A' /\ s.v1 * B = s.u1 * A + B' else s.v0 * B = s.u0 * A + A' /\ s.u1 * A = s.v1 * B + B') /\ B' < A' /\ B' < B /\ Nat.gcd A' B' = Nat.gcd A B /\ s.v1 * s.v1 <= X /\ s.v0 <= s.v1 /\ s.u0 <= s.v1 /\ s.u1 <= s.v1 /\ A' <= A:=by
 obtain ⟨a1,a2,u0,u1,u2,v0,v1,v2,ev⟩:=s
 have hd1:=h.d1
 have hl:=h.lead
 have b11:=h.m0
 dsimp only at hd1 hl hv b11 ⊢
 clear h
 obtain ⟨l1,l2,l3,l4,l5,l6,a0,l7,l8,l9,l10,l11⟩:=hl.resolve_left fun h => hv h.2.2.2.2.1
 obtain ⟨l12,l13,l14⟩:=l11.resolve_left fun h => hv h.1
 have b1 : a1 * k + v1 * k + v0 * k <= a0 * k:=by rw [<- Nat.add_mul,<- Nat.add_mul]; exact Nat.mul_le_mul_right _ l7
 have b2 : v0 * β <= v0 * k:=Nat.mul_le_mul_left _ (by omega)
 have b3 : v1 * β <= v1 * k:=Nat.mul_le_mul_left _ (by omega)
 have b4 : u1 * α <= v1 * k:=Nat.mul_le_mul l1 (by omega)
 have b5 : u0 * α <= v0 * k:=Nat.mul_le_mul l13 (by omega)
 have b6 : v1 * k <= a1 * k:=Nat.mul_le_mul_right _ l5
 have b7 : a0 * k <= Y * k:=Nat.mul_le_mul_right _ l14
 have b8 : k <= v0 * k:=Nat.le_mul_of_pos_left _ l12
 have b9 : v0 * β + v0 <= v0 * k:=by
  have : v0 * (β + 1) <= v0 * k:=Nat.mul_le_mul_left _ hβ
  rwa [Nat.mul_add,Nat.mul_one] at this
 have b12 : u0 * α + v0 <= v0 * k:=by
  have h1 : u0 * α <= v0 * α:=Nat.mul_le_mul_right _ l13
  have h2 : v0 * (α + 1) <= v0 * k:=Nat.mul_le_mul_left _ hα
  rw [Nat.mul_add,Nat.mul_one] at h2
  omega
 have b10 : v1 * v1 <= X:=by
  rw [<- l9]
  have : v1 * v1 <= a0 * v1:=Nat.mul_le_mul_right _ (by omega)
  omega
 have hAi : (A : Int) = X * k + α:=by rw [hA]; simp
 have hBi : (B : Int) = Y * k + β:=by rw [hB]; simp
 have c1 : ∀ u v : Nat,(u : Int) * A - v * B = ((u : Int) * X - v * Y) * k + u * α - v * β:=fun u v => by
  rw [hAi,hBi]
  simp only [Int.mul_add,Int.sub_mul,Int.mul_assoc]
  omega
 have m1 : ((a1 * k : Nat) : Int) = (a1 : Int) * k:=by simp
 have m2 : ((a0 * k : Nat) : Int) = (a0 : Int) * k:=by simp
 have m3 : ((v0 * β : Nat) : Int) = (v0 : Int) * β:=by simp
 have m4 : ((v1 * β : Nat) : Int) = (v1 : Int) * β:=by simp
 have m5 : ((u1 * α : Nat) : Int) = (u1 : Int) * α:=by simp
 have m6 : ((u0 * α : Nat) : Int) = (u0 : Int) * α:=by simp
 have n1 : ((u0 * A : Nat) : Int) = (u0 : Int) * A:=by simp
 have n2 : ((v0 * B : Nat) : Int) = (v0 : Int) * B:=by simp
 have n3 : ((u1 * A : Nat) : Int) = (u1 : Int) * A:=by simp
 have n4 : ((v1 * B : Nat) : Int) = (v1 : Int) * B:=by simp
 have e0:=c1 u0 v0
 have e1:=c1 u1 v1
 have hkey : ∀ A' B' : Nat,(v1 : Int) * A' + v0 * B' = A -> (u1 : Int) * A' + u0 * B' = B -> A = v1 * A' + v0 * B' /\ B = u1 * A' + u0 * B':=fun A' B' h1 h2 => by
  constructor
  ·have : ((v1 * A' + v0 * B' : Nat) : Int) = (A : Int):=by rw [<- h1]; simp
   omega
  ·have : ((u1 * A' + u0 * B' : Nat) : Int) = (B : Int):=by rw [<- h2]; simp
   omega
 cases ev
 ·simp only [Bool.false_eq_true,if_false] at hd1 l8 l10 ⊢
  have e0' : (v0 : Int) * B - u0 * A = a0 * k + v0 * β - u0 * α:=by
   rw [l8,Int.sub_mul]; rw [Int.sub_mul] at e0; omega
  have e1' : (u1 : Int) * A - v1 * B = a1 * k + u1 * α - v1 * β:=by
   rw [hd1]; exact e1
  have f1 : ((v0 * B - u0 * A : Nat) : Int) = (v0 : Int) * B - u0 * A:=by omega
  have f2 : ((u1 * A - v1 * B : Nat) : Int) = (u1 : Int) * A - v1 * B:=by omega
  obtain ⟨j1,j2⟩:=comb_neg (A : Int) (B : Int) l10
  obtain ⟨g1,g2⟩:=hkey (v0 * B - u0 * A) (u1 * A - v1 * B) (by rw [f1,f2]; exact j1) (by rw [f1,f2]; exact j2)
  refine ⟨v0 * B - u0 * A,u1 * A - v1 * B,⟨by omega,by omega⟩,by omega,by omega,?_,b10,b11,by omega,l1,?_⟩
  ·exact gcd_of_comb g1 g2 (c:=v0) (d:=u0) (e:=u1) (f:=v1) (.inr (by omega)) (.inr (by omega))
  ·have := Nat.le_mul_of_pos_left (v0 * B - u0 * A) l3
   omega
 ·simp only [if_true] at hd1 l8 l10 ⊢
  have e0' : (u0 : Int) * A - v0 * B = a0 * k + u0 * α - v0 * β:=by rw [l8]; exact e0
  have e1' : (v1 : Int) * B - u1 * A = a1 * k + v1 * β - u1 * α:=by
   rw [hd1,Int.sub_mul]; rw [Int.sub_mul] at e1; omega
  have f1 : ((u0 * A - v0 * B : Nat) : Int) = (u0 : Int) * A - v0 * B:=by omega
  have f2 : ((v1 * B - u1 * A : Nat) : Int) = (v1 : Int) * B - u1 * A:=by omega
  obtain ⟨j1,j2⟩:=comb_pos (A : Int) (B : Int) l10
  obtain ⟨g1,g2⟩:=hkey (u0 * A - v0 * B) (v1 * B - u1 * A) (by rw [f1,f2]; exact j1) (by rw [f1,f2]; exact j2)
  refine ⟨u0 * A - v0 * B,v1 * B - u1 * A,⟨by omega,by omega⟩,by omega,by omega,?_,b10,b11,by omega,l1,?_⟩
  ·exact gcd_of_comb g1 g2 (c:=u0) (d:=v0) (e:=v1) (f:=u1) (.inl (by omega)) (.inl (by omega))
  ·have := Nat.le_mul_of_pos_left (u0 * A - v0 * B) l3
   omega
structure Lh.Lt (s : Lh) (b : Nat) : Prop where
 a1 : s.a1 < b
 a2 : s.a2 < b
 u0 : s.u0 < b
 u1 : s.u1 < b
 u2 : s.u2 < b
 v0 : s.v0 < b
 v1 : s.v1 < b
 v2 : s.v2 < b
theorem LhI.step {X Y b : Nat} {s : Lh} (h : LhI X Y s) (hX : X < b) (hs : s.Lt b) (hm : s.v2 <= s.a2) : s.v1 + s.v2 < b:=by
 have hp:=h.p2
 have hle:=h.le
 have hcv:=h.cv
 have h1 : s.v2 <= s.a1 * s.v2:=Nat.le_mul_of_pos_left _ (by omega)
 have h2 : s.v1 <= s.a2 * s.v1:=Nat.le_mul_of_pos_left _ (by omega)
 omega
theorem LhI.lt_go {X Y b : Nat} {s : Lh} (h : LhI X Y s) (hX : X < b) (hs : s.Lt b) (hm : s.more) : s.go.Lt b:=by
 have hg:=h.go hm
 have hp:=h.p2
 obtain ⟨m1,m2⟩:=hm
 have hcv : s.a2 * (s.v1 + s.a1 / s.a2 * s.v2) + s.a1 % s.a2 * s.v2 = X:=hg.cv
 have hv : s.v1 + s.a1 / s.a2 * s.v2 <= s.a2 * (s.v1 + s.a1 / s.a2 * s.v2):=Nat.le_mul_of_pos_left _ (by omega)
 have hr : s.a1 % s.a2 < s.a2:=Nat.mod_lt _ (by omega)
 have hu : s.u1 + s.a1 / s.a2 * s.u2 <= s.v1 + s.a1 / s.a2 * s.v2:=by
  rcases hg.lead with h | h
  ·have : s.v2 = 0:=h.1
   omega
  ·exact h.2.1
 have ha2:=hs.a2
 exact ⟨hs.a2,show s.a1 % s.a2 < b by omega,hs.u1,hs.u2,show s.u1 + s.a1 / s.a2 * s.u2 < b by omega,hs.v1,hs.v2,show s.v1 + s.a1 / s.a2 * s.v2 < b by omega⟩
theorem Lh.lt_start {X Y b : Nat} (hX : X < b) (hY : Y < b) (hb : 1 < b) : (Lh.start X Y).Lt b:=⟨hX,hY,by show 0 < b; omega,hb,by show 0 < b; omega,by show 0 < b; omega,by show 0 < b; omega,hb⟩
def lead3 (b M h x r : Nat) : Nat:=(h * b + x) * M + r
section
variable {b M top v2 Vr head u2 Ur d rest : Nat}
theorem knu_big (hr : Ur < M) (hd : d * top + rest = head) (h : rest * b + u2 < d * v2) : lead3 b M head u2 Ur < d * lead3 b M top v2 Vr:=by
 unfold lead3
 have h1 : (head * b + u2 + 1) * M <= (d * (top * b + v2)) * M:=by
  refine Nat.mul_le_mul_right _ ?_
  rw [<- hd,Nat.add_mul,Nat.mul_add,Nat.mul_assoc]
  omega
 have h2 : d * ((top * b + v2) * M + Vr) = (d * (top * b + v2)) * M + d * Vr:=by rw [Nat.mul_add,Nat.mul_assoc]
 rw [h2]
 rw [Nat.add_mul,Nat.one_mul] at h1
 omega
theorem knu_base {U V : Nat} (h : U < V * b) (hd : b <= d) : U < d * V:=by
 have := Nat.mul_le_mul_right V hd
 rw [Nat.mul_comm b V] at this
 omega
theorem knu_start (ht : 0 < top) (hu : u2 < b) (hr : Ur < M) : lead3 b M head u2 Ur < (head / top + 1) * lead3 b M top v2 Vr:=by
 unfold lead3
 have h0 : head < (head / top + 1) * top:=by rw [Nat.mul_comm]; exact Nat.lt_mul_div_succ head ht
 have h1 : (head * b + u2 + 1) * M <= ((head / top + 1) * (top * b + v2)) * M:=by
  refine Nat.mul_le_mul_right _ ?_
  have : (head + 1) * b <= ((head / top + 1) * top) * b:=Nat.mul_le_mul_right _ h0
  rw [Nat.mul_add,<- Nat.mul_assoc]
  rw [Nat.add_mul,Nat.one_mul] at this
  omega
 have h2 : (head / top + 1) * ((top * b + v2) * M + Vr) = ((head / top + 1) * (top * b + v2)) * M + (head / top + 1) * Vr:=by rw [Nat.mul_add,Nat.mul_assoc]
 rw [h2]
 rw [Nat.add_mul,Nat.one_mul] at h1
 omega
theorem knu_end (ht : 0 < top) (hv : Vr < M) (hd : d * top + rest = head) (hdb : d <= b) (h : d * v2 <= rest * b + u2) : d * lead3 b M top v2 Vr <= lead3 b M head u2 Ur + lead3 b M top v2 Vr:=by
 unfold lead3
 have h1 : (d * (top * b + v2)) * M <= (head * b + u2) * M:=by
  refine Nat.mul_le_mul_right _ ?_
  rw [<- hd,Nat.add_mul,Nat.mul_add,Nat.mul_assoc]
  omega
 have h2 : d * ((top * b + v2) * M + Vr) = (d * (top * b + v2)) * M + d * Vr:=by rw [Nat.mul_add,Nat.mul_assoc]
 have h3 : d * Vr <= b * M:=Nat.mul_le_mul hdb (by omega)
 have h4 : b * M <= (top * b + v2) * M:=by
  refine Nat.mul_le_mul_right _ ?_
  have : 1 * b <= top * b:=Nat.mul_le_mul_right _ ht
  omega
 rw [h2]
 omega
theorem knu_first {U : Nat} (hb : 0 < b) (ht : b <= 2 * top) (hu : u2 < b) (hr : Ur < M) (hv2 : v2 < b) (hv : Vr < M) (h : lead3 b M head u2 Ur < lead3 b M top v2 Vr * b) : head <= top * b + b - 1:=by
 unfold lead3 at h
 have h1 : (top * b + v2) * M + Vr < (top * b + b) * M:=by
  have : (top * b + v2 + 1) * M <= (top * b + b) * M:=Nat.mul_le_mul_right _ (by omega)
  rw [Nat.add_mul,Nat.one_mul] at this
  omega
 have h2 : (head * b) * M < ((top * b + b) * b) * M:=by
  have h3 : ((top * b + v2) * M + Vr) * b <= ((top * b + b) * M) * b:=Nat.mul_le_mul_right _ (by omega)
  have h4 : ((top * b + b) * M) * b = ((top * b + b) * b) * M:=by rw [Nat.mul_right_comm]
  have h5 : (head * b) * M <= (head * b + u2) * M:=Nat.mul_le_mul_right _ (by omega)
  omega
 have h3 : head * b < (top * b + b) * b:=Nat.lt_of_mul_lt_mul_right h2
 have h4 : head < top * b + b:=Nat.lt_of_mul_lt_mul_right h3
 omega
end
def sg (X : List Nat) (j i : Nat) : List Nat:=(X.drop j).take i
theorem sg_len {X : List Nat} {j i : Nat} (h : j + i <= X.length) : (sg X j i).length = i:=by unfold sg; rw [List.length_take,List.length_drop]; omega
theorem sg_lt {X : List Nat} {j i : Nat} (h : ∀ d ∈ X,d < WB32) : ∀ d ∈ sg X j i,d < WB32:=fun d hd => h d (List.mem_of_mem_drop (List.mem_of_mem_take hd))
theorem sg_succ {X : List Nat} {j i x : Nat} (h : X[j + i]? = some x) : bv WB32 (sg X j (i + 1)) = bv WB32 (sg X j i) + WB32 ^ i * x:=by
 unfold sg
 exact bv_take_succ (by rw [List.getElem?_drop]; exact h)
theorem sg_set {X : List Nat} {j i d : Nat} (h : j + i < X.length) : sg (X.set (j + i) d) j (i + 1) = sg X j i ++ [d]:=by
 unfold sg
 rw [List.drop_set,if_neg (by omega),show j + i - j = i by omega]
 exact set_take (by rw [List.length_drop]; omega)
theorem sg_set_low {X : List Nat} {j i k d : Nat} (h : i <= k) : sg (X.set (j + k) d) j i = sg X j i:=by
 unfold sg
 rw [List.drop_set,if_neg (by omega),show j + k - j = k by omega,List.take_set_of_le h]
theorem lead_three {A M x y z : Nat} : A + M * x + M * WB32 * y + M * WB32 * WB32 * z = lead3 WB32 M (z * WB32 + y) x A:=by
 unfold lead3 WB32
 have e1 : M * 4294967296 * y = 4294967296 * (M * y):=by rw [Nat.mul_right_comm,Nat.mul_comm]
 have e2 : M * 4294967296 * 4294967296 * z = 4294967296 * (4294967296 * (M * z)):=by rw [Nat.mul_right_comm,Nat.mul_right_comm M,Nat.mul_comm,Nat.mul_comm (M * z)]
 have e3 : ((z * 4294967296 + y) * 4294967296 + x) * M = 4294967296 * (4294967296 * (M * z)) + 4294967296 * (M * y) + M * x:=by
  rw [Nat.add_mul,Nat.mul_comm x M,Nat.mul_comm _ M,<- Nat.mul_assoc,Nat.mul_add,Nat.add_mul,<- Nat.mul_assoc,Nat.mul_comm (M * z * 4294967296),Nat.mul_comm (M * z),Nat.mul_comm (M * y)]
 omega
theorem lead_two {A M x y : Nat} : A + M * x + M * WB32 * y = lead3 WB32 M y x A:=by
 unfold lead3 WB32
 have e1 : M * 4294967296 * y = 4294967296 * (M * y):=by rw [Nat.mul_right_comm,Nat.mul_comm]
 have e3 : (y * 4294967296 + x) * M = 4294967296 * (M * y) + M * x:=by
  rw [Nat.add_mul,Nat.mul_comm x M,Nat.mul_comm _ M,<- Nat.mul_assoc,Nat.mul_comm (M * y)]
 omega
theorem sg_lead {X : List Nat} {j k x y z : Nat} (hx : X[j + k]? = some x) (hy : X[j + (k + 1)]? = some y) (hz : X[j + (k + 2)]? = some z) : bv WB32 (sg X j (k + 3)) = lead3 WB32 (WB32 ^ k) (z * WB32 + y) x (bv WB32 (sg X j k)):=by
 rw [sg_succ hz,sg_succ hy,sg_succ hx,Nat.pow_succ,Nat.pow_succ]
 exact lead_three
theorem bv_lead {V : List Nat} {k x y : Nat} (hl : V.length = k + 2) (hx : V[k]? = some x) (hy : V[k + 1]? = some y) : bv WB32 V = lead3 WB32 (WB32 ^ k) y x (bv WB32 (V.take k)):=by
 have e : bv WB32 V = bv WB32 (V.take (k + 1 + 1)):=by rw [List.take_of_length_le (by omega)]
 rw [e,bv_take_succ hy,bv_take_succ hx,Nat.pow_succ]
 exact lead_two
structure Dig (U V head top d rest : Nat) : Prop where
 eq : d * top + rest = head
 low : U < (d + 1) * V
theorem Dig.down {U V head top d rest : Nat} (h : Dig U V head top d rest) (hb : U < d * V) : 1 <= d /\ Dig U V head top (d - 1) (rest + top):=by
 have hd : 1 <= d:=by
  rcases Nat.eq_zero_or_pos d with h0 | h0
  ·rw [h0] at hb; omega
  ·exact h0
 obtain ⟨c,rfl⟩ : ∃ c,d = c + 1:=⟨d - 1,by omega⟩
 refine ⟨hd,?_,by simpa using hb⟩
 have := h.eq
 rw [Nat.add_mul,Nat.one_mul] at this
 simp
 omega
structure DigEnd (U V d : Nat) : Prop where
 low : U < (d + 1) * V
 high : d * V <= U + V
 lt : d < WB32
theorem digEnd_now {M head top v2 Vr u2 Ur d rest : Nat} (h : Dig (lead3 WB32 M head u2 Ur) (lead3 WB32 M top v2 Vr) head top d rest) (ht : 0 < top) (hv : Vr < M) (hd : d < WB32) (hle : d * v2 <= rest * WB32 + u2) : DigEnd (lead3 WB32 M head u2 Ur) (lead3 WB32 M top v2 Vr) d :=
 ⟨h.low,knu_end ht hv h.eq (Nat.le_of_lt hd) hle,hd⟩
theorem digEnd_break {M head top v2 Vr u2 Ur d rest : Nat} (h : Dig (lead3 WB32 M head u2 Ur) (lead3 WB32 M top v2 Vr) head top d rest) (ht : 0 < top) (hv : Vr < M) (hv2 : v2 < WB32) (hh : head <= top * WB32 + WB32 - 1) (hr : WB32 <= rest) : DigEnd (lead3 WB32 M head u2 Ur) (lead3 WB32 M top v2 Vr) d:=by
 have hd : d < WB32:=by
  rcases Nat.lt_or_ge d WB32 with h1 | h1
  ·exact h1
  ·have h2 : WB32 * top <= d * top:=Nat.mul_le_mul_right _ h1
   have h3:=h.eq
   rw [Nat.mul_comm] at h2
   unfold WB32 at *
   omega
 refine digEnd_now h ht hv hd ?_
 have h1 : d * v2 <= WB32 * WB32:=Nat.mul_le_mul (Nat.le_of_lt hd) (Nat.le_of_lt hv2)
 have h2 : WB32 * WB32 <= rest * WB32:=Nat.mul_le_mul_right _ hr
 omega
theorem sub_digit {d v c x b : Nat} (hd : d < WB32) (hv : v < WB32) (hc : c < WB32) (hx : x < WB32) (hb : b <= 1) :
  d * v + c < 18446744073709551616 /\ (d * v + c) / WB32 < WB32 /\ ∃ n b',n < WB32 /\ b' <= 1 /\ n + (d * v + c) % WB32 + b = x + WB32 * b':=by
 have h1 : d * v <= 4294967295 * 4294967295:=Nat.mul_le_mul (by unfold WB32 at hd; omega) (by unfold WB32 at hv; omega)
 unfold WB32 at *
 refine ⟨by omega,by omega,?_⟩
 by_cases h : (d * v + c) % 4294967296 + b <= x
 ·exact ⟨x - ((d * v + c) % 4294967296 + b),0,by omega,by omega,by omega⟩
 ·exact ⟨x + 4294967296 - ((d * v + c) % 4294967296 + b),1,by omega,by omega,by omega⟩
end Go.Proofs.YtlldjmagbjjeoaaGreat
