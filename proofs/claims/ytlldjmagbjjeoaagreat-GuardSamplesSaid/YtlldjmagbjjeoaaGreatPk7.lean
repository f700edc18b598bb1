/- Contracts and plain laws, several texts in one (NW8, NW11). No conditions beyond those stated. -/
import Derived.Test.YtlldjmagbjjeoaaGreatPk6
set_option maxRecDepth 100000
set_option maxHeartbeats 40000000
namespace Go.Proofs.YtlldjmagbjjeoaaGreat
open Go.RowKit
set_option linter.unusedVariables false
theorem set_drop {l : List Nat} {i x : Nat} (hi : i < l.length) : (l.set i x).drop i = x :: l.drop (i + 1):=by
 rw [List.drop_eq_getElem_cons (by rw [List.length_set]; exact hi),List.getElem_set_self,List.drop_set_of_lt (by omega)]
theorem below_drewN3 {B : Nat} {w w' : World} (h : Below B w w') (k : Nat) : Below B w (w'.drewN k):=below_drewN2 h k
theorem ndivshort_any (K : Nat) (u : Value) (la : List Nat) (d : Nat) (w : World) (hla : Ws K w u la) (hK : K <= w.heap.size) (hpl : la.length <= 2 ^ 30) (hd0 : 0 < d) (hd32 : d < WB32) :
  Calls Tryz.prog 109 #[u,.int .u32 d] w fun e w' => ∃ v',e = .returned (.tuple #[v',.int .u32 (bv WB32 la % d : Nat)]) /\ Bn w'.heap.size w' v' (bv WB32 la / d) /\ Below w.heap.size w w' /\ NewV w.heap.size v':=by
 obtain ⟨ua,uc,rfl,hu1,hu2⟩:=hla.form
 unfold maxLen at hu2
 have hca:=hla.cells
 obtain ⟨p,hp⟩ : ∃ p,la.length = p:=⟨_,rfl⟩
 rw [hp] at hu1 hpl ⊢
 obtain ⟨T,hT⟩ : ∃ T,w.heap.size = T:=⟨_,rfl⟩
 rw [hT] at hK ⊢
 have hmk:=make_words p (by omega) w
 rw [hT] at hmk
 obtain ⟨W1,hW1⟩ : ∃ W,w.alloc (.cells (wArr (List.replicate p 0)) 130) = W:=⟨_,rfl⟩
 have b1 : Below T w W1:=by rw [<- hW1,<- hT]; exact (Below.refl _ _).alloc (Nat.le_refl _) _
 have q1 : RowB W1 T (List.replicate p 0):=by
  have : Blk W1 T (wArr (List.replicate p 0)) 130:=by rw [<- hW1,<- hT]; exact Blk.new w _ _
  exact rowB_arr this
 obtain ⟨Q,hQ⟩ : ∃ Q,bv WB32 la / d = Q:=⟨_,rfl⟩
 obtain ⟨R,hR⟩ : ∃ R,bv WB32 la % d = R:=⟨_,rfl⟩
 rw [hQ,hR]
 have HQ:=Lib.hid hQ
 have HR:=Lib.hid hR
 have HP:=Lib.hid hp
 have HT:=Lib.hid hT
 have HCA:=Lib.hid hca
 have HW1:=Lib.hid hW1
 have HB1:=Lib.hid b1
 have HQ1:=Lib.hid q1
 have HLA:=Lib.hid hla.lt
 clear hla hp hT hca hW1 b1 q1 hQ hR
 go_enter Tryz.func109,Tryz.ntmps109
 go_upto_region 2 with fail
 try simp only [HT.out]
 rw [HW1.out]
 go_wp2_with fail
 go_loopw [7,8] (fun rv iv wr => ∃ (i r : Nat) (X : List Nat),i <= p /\ iv = .int .i64 ((i : Int) - 1) /\ rv = .int .u32 r /\ r < d /\ Hid (X.length = p) /\ Hid (∀ d ∈ X,d < WB32) /\ Hid (bv WB32 (la.drop i) = bv WB32 (X.drop i) * d + r) /\ Hid (RowB wr T X) /\ Hid (Below T w wr)) (fun _ iv _ => (intOf iv + 1).toNat)
 case atStart => exact ⟨p,0,List.replicate p 0,Nat.le_refl _,rfl,rfl,hd0,Lib.hid (by simp),Lib.hid (fun d hd => by rw [List.eq_of_mem_replicate hd]; decide),Lib.hid (by rw [List.drop_of_length_le (by rw [HP.out]; exact Nat.le_refl _),List.drop_of_length_le (by simp)]; simp [bv]),HQ1,HB1⟩
 case round =>
  obtain ⟨i,r,X,hi,rfl,rfl,hrd,HXL,HXT,HXV,HXR,HXB⟩:=hrel
  obtain ⟨wo,rfl⟩ : ∃ wo : World,wo = wr:=⟨_,rfl⟩
  cases i with
  | zero =>
   have h0:=HXV.out
   rw [List.drop_zero,List.drop_zero] at h0
   have hXq : bv WB32 X = Q:=by
    rw [<- HQ.out,h0,Nat.mul_comm,Nat.mul_add_div hd0,Nat.div_eq_of_lt hrd,Nat.add_zero]
   have hXr : r = R:=by
    rw [<- HR.out,h0,Nat.mul_comm,Nat.mul_add_mod,Nat.mod_eq_of_lt hrd]
   subst hXr
   have hws:=HXR.out.ws (K:=wo.heap.size) (c:=p) HXR.out.lt (by rw [HXL.out]; exact Nat.le_refl _) (by unfold maxLen; omega) HXT.out
   have ht:=ntrim_bn wo.heap.size _ X wo hws
   rw [HXL.out,hXq] at ht
   have HTR:=Lib.hid ht
   clear hws ht hXq h0
   go_wp2_with fail
   refine HTR.out.mono ?_
   clear HTR
   rintro e w9 ⟨a9,n9,c9,k9,he,rfl,hbn,rfl⟩
   simp only [Value.slice.injEq] at he
   obtain ⟨rfl,rfl,rfl⟩:=he
   have HBN:=Lib.hid hbn
   clear hbn
   go_wp2_with fail
   go_ret2
   exact ⟨_,rfl,HBN.out,HXB.out,NewV.at (Nat.le_refl _)⟩
  | succ i =>
   have hiz : (((i + 1 : Nat) : Int) - 1) = (i : Int):=by omega
   rw [hiz]
   have hip : i < p:=by omega
   obtain ⟨x,hx⟩ : ∃ x,la[i]? = some x:=⟨_,List.getElem?_eq_getElem (by rw [HP.out]; exact hip)⟩
   obtain ⟨ub,uo,rfl,hub,huc,hx32⟩:=HCA.out i x hx
   have e0 : wo.cell? ⟨ub,uo + i,none⟩ = some (.int .u32 (x : Int)):=(HXB.out.cell (p:=⟨ub,uo + i,none⟩) (show ub < T by omega)).trans huc
   obtain ⟨old,ho⟩ : ∃ o,X[i]? = some o:=⟨_,List.getElem?_eq_getElem (by rw [HXL.out]; exact hip)⟩
   have hdv:=ndiv32_any r x d hrd hx32 hd32 wo
   have hq32 : (r * WB32 + x) / d < WB32:=by
    refine Nat.div_lt_of_lt_mul ?_
    have : (r + 1) * WB32 <= d * WB32:=Nat.mul_le_mul_right _ hrd
    unfold WB32 at *
    omega
   have hr2 : (r * WB32 + x) % d < d:=Nat.mod_lt _ hd0
   have hst:=div_step (b:=WB32) hx HXV.out
   obtain ⟨q2,hq2⟩ : ∃ z,(r * WB32 + x) / d = z:=⟨_,rfl⟩
   obtain ⟨r2,hr2e⟩ : ∃ z,(r * WB32 + x) % d = z:=⟨_,rfl⟩
   rw [hq2,hr2e] at hdv hst
   rw [hq2] at hq32
   rw [hr2e] at hr2
   have HDV:=Lib.hid hdv
   have HST:=Lib.hid hst
   have HO:=Lib.hid ho
   clear huc hx hdv hst ho hq2 hr2e hiz
   go_wp2_with fail
   refine HDV.out.mono ?_
   clear HDV
   rintro e w3 ⟨rfl,k,hk⟩
   have hrow : RowB w3 T X:=by rw [hk]; exact HXR.out
   have hbel : Below T w w3:=by rw [hk]; exact below_drewN2 HXB.out k
   have e1 : w3.cell? ⟨T,i,none⟩ = some (.int .u32 (old : Int)):=hrow.at HO.out
   have f1 : w3.frozen? ⟨T,i,none⟩ = false:=hrow.free i
   have HR2:=Lib.hid (hrow.set i q2)
   have HB2:=Lib.hid (hbel.setCell (p:=⟨T,i,none⟩) (Nat.le_refl _) (.int .u32 (q2 : Int)))
   clear hk hrow hbel e0
   go_wp2_with fail
   exact ⟨⟨i,r2,X.set i q2,by omega,rfl,rfl,hr2,Lib.hid (by rw [List.length_set]; exact HXL.out),Lib.hid (lt_set HXT.out hq32),Lib.hid (by rw [set_drop (by rw [HXL.out]; exact hip)]; exact HST.out),HR2,HB2⟩,by simp [intOf]⟩
theorem nshifted_any (K : Nat) (u : Value) (la : List Nat) (n : Nat) (w : World) (hla : Ws K w u la) (hK : K <= w.heap.size) (hpl : la.length <= 2 ^ 30) (hn : n < 32) :
  Calls Tryz.prog 111 #[u,.int .i64 n] w fun e w' => ∃ X,e = .returned (.slice (some ⟨w.heap.size,0,none⟩) (la.length + 1) (la.length + 1)) /\ RowB w' w.heap.size X /\ X.length = la.length + 1 /\ (∀ d ∈ X,d < WB32) /\ bv WB32 X = bv WB32 la * 2 ^ n /\ Below w.heap.size w w' /\ w'.heap.size = w.heap.size + 1:=by
 obtain ⟨ua,uc,rfl,hu1,hu2⟩:=hla.form
 unfold maxLen at hu2
 have hca:=hla.cells
 obtain ⟨p,hp⟩ : ∃ p,la.length = p:=⟨_,rfl⟩
 rw [hp] at hu1 hpl ⊢
 obtain ⟨T,hT⟩ : ∃ T,w.heap.size = T:=⟨_,rfl⟩
 rw [hT] at hK ⊢
 obtain ⟨m,hm⟩ : ∃ m,p + 1 = m:=⟨_,rfl⟩
 have hmi : (p : Int) + 1 = (m : Int):=by omega
 have hmk:=make_words m (by omega) w
 rw [hT] at hmk
 obtain ⟨W1,hW1⟩ : ∃ W,w.alloc (.cells (wArr (List.replicate m 0)) 130) = W:=⟨_,rfl⟩
 have b1 : Below T w W1:=by rw [<- hW1,<- hT]; exact (Below.refl _ _).alloc (Nat.le_refl _) _
 have q1 : RowB W1 T (List.replicate m 0):=by
  have : Blk W1 T (wArr (List.replicate m 0)) 130:=by rw [<- hW1,<- hT]; exact Blk.new w _ _
  exact rowB_arr this
 have s1 : W1.heap.size = T + 1:=by rw [<- hW1,<- hT]; simp
 obtain ⟨P,hP⟩ : ∃ P,2 ^ n = P:=⟨_,rfl⟩
 have hP32 : P <= 2147483648:=by rw [<- hP]; exact Nat.pow_le_pow_right (by omega) (show n <= 31 by omega)
 rw [hm,hP]
 have hPi : (2 : Int) ^ n = (P : Int):=by rw [<- hP]; simp
 have HPP:=Lib.hid hP
 have HP:=Lib.hid hp
 have HM:=Lib.hid hm
 have HT:=Lib.hid hT
 have HCA:=Lib.hid hca
 have HW1:=Lib.hid hW1
 have HB1:=Lib.hid b1
 have HQ1:=Lib.hid q1
 have HS1:=Lib.hid s1
 clear hla hp hT hca hW1 b1 q1 hP s1 hm
 go_enter Tryz.func111,Tryz.ntmps111
 go_upto_region 2 with fail
 try simp only [HT.out]
 rw [HW1.out]
 go_wp2_with fail
 go_loopw [15] (fun iv wr => ∃ (i : Nat) (X : List Nat),i <= p /\ iv = .int .i64 i /\ Hid (X.length = m) /\ Hid (∀ d ∈ X,d < WB32) /\ Hid (X[i]?.getD 0 < P) /\ Hid (∀ k,i < k -> k < m -> X[k]? = some 0) /\ Hid (bv WB32 X = bv WB32 (la.take i) * P) /\ Hid (RowB wr T X) /\ Hid (Below T w wr) /\ Hid (wr.heap.size = T + 1)) (fun iv _ => p - (intOf iv).toNat)
 case atStart => exact ⟨0,List.replicate m 0,Nat.zero_le _,rfl,Lib.hid (by simp),Lib.hid (fun d hd => by rw [List.eq_of_mem_replicate hd]; decide),Lib.hid (by
  have h1 : 0 < P:=by rw [<- HPP.out]; exact Nat.pow_pos (by omega)
  have h2:=HM.out
  rw [List.getElem?_replicate,if_pos (by omega)]
  exact h1),Lib.hid (fun k _ hk => by simp [hk]),Lib.hid (by rw [bv_zeros]; simp [bv]),HQ1,HB1,HS1⟩
 case round =>
  obtain ⟨i,X,hi,rfl,HXL,HXT,HXC,HXZ,HXV,HXR,HXB,HXS⟩:=hrel
  obtain ⟨wo,rfl⟩ : ∃ wo : World,wo = wr:=⟨_,rfl⟩
  by_cases hlt : i < p
  ·obtain ⟨x,hx⟩ : ∃ x,la[i]? = some x:=⟨_,List.getElem?_eq_getElem (by rw [HP.out]; exact hlt)⟩
   obtain ⟨ub,uo,rfl,hub,huc,hx32⟩:=HCA.out i x hx
   have e0 : wo.cell? ⟨ub,uo + i,none⟩ = some (.int .u32 (x : Int)):=(HXB.out.cell (p:=⟨ub,uo + i,none⟩) (show ub < T by omega)).trans huc
   obtain ⟨y,hy⟩ : ∃ y,X[i]? = some y:=⟨_,List.getElem?_eq_getElem (by rw [HXL.out]; have := HM.out; omega)⟩
   have hyP : y < P:=by have := HXC.out; rw [hy,Option.getD_some] at this; exact this
   have hi1 : i + 1 < m:=by have := HM.out; omega
   have hz:=HXZ.out (i + 1) (by omega) hi1
   obtain ⟨D,hD⟩ : ∃ D,x * P = D:=⟨_,rfl⟩
   have hDi : (x : Int) * (P : Int) = (D : Int):=by rw [<- hD]; simp
   have hD64 : D < 9223372036854775808:=by
    rw [<- hD]
    have h1 : x * P <= 4294967295 * 2147483648:=Nat.mul_le_mul (by unfold WB32 at hx32; omega) hP32
    omega
   obtain ⟨lo,hlo⟩ : ∃ lo,D % 4294967296 = lo:=⟨_,rfl⟩
   obtain ⟨hh,hhh⟩ : ∃ hh,D / 4294967296 = hh:=⟨_,rfl⟩
   have hlom : ∃ k,lo = P * k /\ k + 1 <= 2 ^ (32 - n):=by
    refine ⟨x % 2 ^ (32 - n),?_,Nat.mod_lt _ (Nat.pow_pos (by omega))⟩
    rw [<- hlo,<- hD,Nat.mul_comm x P,<- HPP.out,<- Nat.mul_mod_mul_left,<- Nat.pow_add,show n + (32 - n) = 32 by omega]
   obtain ⟨z,hzz⟩ : ∃ z,y + lo = z:=⟨_,rfl⟩
   have hz32 : z < 4294967296:=by
    obtain ⟨k,hk,hk2⟩:=hlom
    have h1 : P * (k + 1) <= P * 2 ^ (32 - n):=Nat.mul_le_mul_left _ hk2
    rw [<- HPP.out,<- Nat.pow_add,show n + (32 - n) = 32 by omega,HPP.out,Nat.mul_add,Nat.mul_one] at h1
    omega
   have hor : bits BinOp.or IntKind.u32 (y : Int) (lo : Int) = (z : Int):=by
    rw [u32_or_nat y lo (by omega) (by omega)]
    obtain ⟨k,hk,_⟩:=hlom
    have := Nat.two_pow_add_eq_or_of_lt (i:=n) (b:=y) (by rw [HPP.out]; exact hyP) k
    rw [HPP.out,<- hk] at this
    rw [Nat.or_comm,<- this,<- hzz,Nat.add_comm]
   have hh32 : hh < P:=by
    rw [<- hhh,<- hD]
    refine Nat.div_lt_of_lt_mul ?_
    refine Nat.mul_lt_mul_of_lt_of_le hx32 (Nat.le_refl _) (by omega)
   have hw1 : IntKind.u64.wrap (x : Int) = x:=wu64 (by unfold WB32 at hx32; omega)
   have hw2 : IntKind.u64.wrap (D : Int) = D:=wu64 (by omega)
   have hw3 : IntKind.u32.wrap (D : Int) = lo:=by simp [IntKind.wrap,IntKind.bits,IntKind.signed]; omega
   have hd4 : (D : Int) / 4294967296 = (hh : Int):=by omega
   have hw5 : IntKind.u32.wrap (hh : Int) = hh:=wu32 (by omega)
   have hw6 : IntKind.i64.wrap ((i : Int) + 1) = (i : Int) + 1:=wi64 (by omega) (by omega)
   have e1 : wo.cell? ⟨T,i,none⟩ = some (.int .u32 (y : Int)):=HXR.out.at hy
   have f1 : wo.frozen? ⟨T,i,none⟩ = false:=HXR.out.free i
   obtain ⟨W2,hW2⟩ : ∃ W,wo.setCell ⟨T,i,none⟩ (.int .u32 (z : Int)) = W:=⟨_,rfl⟩
   have hr2 : RowB W2 T (X.set i z):=by rw [<- hW2]; exact HXR.out.set i z
   have hb2 : Below T w W2:=by rw [<- hW2]; exact HXB.out.setCell (p:=⟨T,i,none⟩) (Nat.le_refl _) _
   have hs2 : W2.heap.size = T + 1:=by rw [<- hW2]; simp [World.setCell]; exact HXS.out
   have hzs : (X.set i z)[i + 1]? = some 0:=by rw [List.getElem?_set_ne (by omega)]; exact hz
   have e2 : W2.cell? ⟨T,i + 1,none⟩ = some (.int .u32 ((0 : Nat) : Int)):=hr2.at hzs
   have f2 : W2.frozen? ⟨T,i + 1,none⟩ = false:=hr2.free (i + 1)
   have hbv : bv WB32 ((X.set i z).set (i + 1) hh) = bv WB32 (la.take (i + 1)) * P:=by
    have h1:=bv_set (b:=WB32) (y:=z) hy
    have h2:=bv_set (b:=WB32) (y:=hh) hzs
    have h3:=HXV.out
    rw [Nat.mul_zero,Nat.add_zero] at h2
    rw [h2,bv_take_succ hx,Nat.add_mul,<- h3,Nat.mul_assoc,hD,Nat.pow_succ,Nat.mul_assoc]
    have h4 : WB32 ^ i * z = WB32 ^ i * y + WB32 ^ i * lo:=by rw [<- hzz,Nat.mul_add]
    have h5 : WB32 ^ i * D = WB32 ^ i * lo + WB32 ^ i * (WB32 * hh):=by
     rw [<- Nat.mul_add]; congr 1
     unfold WB32
     omega
    omega
   have HBV:=Lib.hid hbv
   have HR3:=Lib.hid (hr2.set (i + 1) hh)
   have HB3:=Lib.hid (hb2.setCell (p:=⟨T,i + 1,none⟩) (Nat.le_refl _) (.int .u32 (hh : Int)))
   have HS3 : Hid ((W2.setCell ⟨T,i + 1,none⟩ (.int .u32 (hh : Int))).heap.size = T + 1):=Lib.hid (by simp [World.setCell]; exact hs2)
   have HL3 : Hid (((X.set i z).set (i + 1) hh).length = m):=Lib.hid (by rw [List.length_set,List.length_set]; exact HXL.out)
   have HT3 : Hid (∀ d ∈ (X.set i z).set (i + 1) hh,d < WB32):=Lib.hid (lt_set (lt_set HXT.out hz32) (show hh < WB32 by unfold WB32; omega))
   have HC3 : Hid (((X.set i z).set (i + 1) hh)[i + 1]?.getD 0 < P):=Lib.hid (by rw [List.getElem?_set_self (by rw [List.length_set,HXL.out]; exact hi1)]; exact hh32)
   have HZ3 : Hid (∀ k,i + 1 < k -> k < m -> ((X.set i z).set (i + 1) hh)[k]? = some 0):=Lib.hid (fun k h1 h2 => by
    rw [List.getElem?_set_ne (by omega),List.getElem?_set_ne (by omega)]
    exact HXZ.out k (by omega) h2)
   have HW2:=Lib.hid hW2
   clear huc hx hy hz hD hlo hhh hlom hzz hbv hr2 hb2 hs2 hzs hW2
   go_upto_region 7 with fail
   rw [HW2.out]
   clear e0 e1 f1
   go_wp2_with fail
   exact ⟨⟨i + 1,(X.set i z).set (i + 1) hh,by omega,by go_num,HL3,HT3,HC3,HZ3,HBV,HR3,HB3,HS3⟩,by simp [intOf]; omega⟩
  ·obtain rfl : p = i:=by omega
   have hfin:=HXV.out
   rw [List.take_of_length_le (by rw [HP.out]; exact Nat.le_refl _)] at hfin
   have HF:=Lib.hid hfin
   clear hfin
   go_wp2_with fail
   go_ret
   exact ⟨X,rfl,HXR.out,HXL.out,HXT.out,HF.out,HXB.out,HXS.out⟩
theorem diff_step {M S LA LB x y b u v a c d b' : Nat} (h : S + v * LB + M * x = u * LA + M * (y + b)) (hd : d + (y + v * c) % WB32 + b = (x + u * a) % WB32 + WB32 * b') :
  (S + M * d) + v * (LB + M * c) + M * WB32 * ((x + u * a) / WB32) = u * (LA + M * a) + M * WB32 * ((y + v * c) / WB32 + b'):=by
 have h1:=Nat.mod_add_div (x + u * a) WB32
 have h2:=Nat.mod_add_div (y + v * c) WB32
 obtain ⟨X,hX⟩ : ∃ X,(x + u * a) / WB32 = X:=⟨_,rfl⟩
 obtain ⟨Y,hY⟩ : ∃ Y,(y + v * c) / WB32 = Y:=⟨_,rfl⟩
 obtain ⟨lx,hlx⟩ : ∃ z,(x + u * a) % WB32 = z:=⟨_,rfl⟩
 obtain ⟨ly,hly⟩ : ∃ z,(y + v * c) % WB32 = z:=⟨_,rfl⟩
 rw [hX,hlx] at h1
 rw [hY,hly] at h2
 rw [hlx,hly] at hd
 rw [hX,hY]
 have e1 : v * (LB + M * c) = v * LB + M * (v * c):=by rw [Nat.mul_add,Nat.mul_left_comm]
 have e2 : u * (LA + M * a) = u * LA + M * (u * a):=by rw [Nat.mul_add,Nat.mul_left_comm]
 have e3 : M * WB32 * X = M * (WB32 * X):=Nat.mul_assoc _ _ _
 have e4 : M * WB32 * (Y + b') = M * (WB32 * Y) + M * (WB32 * b'):=by rw [Nat.mul_assoc,Nat.mul_add,Nat.mul_add]
 rw [e1,e2,e3,e4]
 have k1 : M * lx + M * (WB32 * X) = M * x + M * (u * a):=by rw [<- Nat.mul_add,<- Nat.mul_add,h1]
 have k2 : M * ly + M * (WB32 * Y) = M * y + M * (v * c):=by rw [<- Nat.mul_add,<- Nat.mul_add,h2]
 have k3 : M * d + M * ly + M * b = M * lx + M * (WB32 * b'):=by rw [<- Nat.mul_add,<- Nat.mul_add,<- Nat.mul_add,hd]
 rw [Nat.mul_add] at h
 omega
theorem carry_lt {x u a : Nat} (hx : x < WB32) (hu : u < WB32) (ha : a < WB32) : x + u * a < 18446744073709551616 /\ (x + u * a) / WB32 < WB32:=by
 have h1 : u * a <= 4294967295 * 4294967295:=Nat.mul_le_mul (by unfold WB32 at hu; omega) (by unfold WB32 at ha; omega)
 unfold WB32 at *
 omega
theorem ndiff_lt (K : Nat) (a c : Value) (m n u v : Nat) (w : World) (la lb : List Nat) (hla : Ws K w a la) (tla : Tight la) (hlm : bv WB32 la = m) (hlb : Ws K w c lb) (tlb : Tight lb) (hln : bv WB32 lb = n) (hK : K <= w.heap.size) (hu32 : u < WB32) (hv32 : v < WB32) (hle : v * n <= u * m) (hm30 : m < WB32 ^ 536870912) (hn30 : n < WB32 ^ 536870912) (hpq : la.length < lb.length) :
  Calls Tryz.prog 105 #[.int .u64 u,a,.int .u64 v,c] w fun e w' => ∃ v',e = .returned v' /\ Bn w'.heap.size w' v' (u * m - v * n) /\ Below w.heap.size w w' /\ NewV w.heap.size v':=by
 have hpl:=tight_len tla (by rw [hlm]; exact hm30)
 have hql:=tight_len tlb (by rw [hln]; exact hn30)
 obtain ⟨ua,uc,rfl,hu1,hu2⟩:=hla.form
 obtain ⟨va,vc,rfl,hv1,hv2⟩:=hlb.form
 unfold maxLen at hu2 hv2
 have hca:=hla.cells
 have hcb:=hlb.cells
 obtain ⟨p,hp⟩ : ∃ p,la.length = p:=⟨_,rfl⟩
 obtain ⟨q,hq⟩ : ∃ q,lb.length = q:=⟨_,rfl⟩
 rw [hp] at hu1 hpl hpq ⊢
 rw [hq] at hv1 hql hpq ⊢
 obtain ⟨T,hT⟩ : ∃ T,w.heap.size = T:=⟨_,rfl⟩
 rw [hT] at hK ⊢
 obtain ⟨mx,hmx⟩ : ∃ x,max p q = x:=⟨_,rfl⟩
 have hmi1 : max (p : Int) (q : Int) = (mx : Int):=by omega
 have hmi2 : (if (p : Int) < (q : Int) then (q : Int) else (p : Int)) = (mx : Int):=by split <;> omega
 have hmi3 : (if (q : Int) < (p : Int) then (p : Int) else (q : Int)) = (mx : Int):=by split <;> omega
 obtain ⟨r,hr⟩ : ∃ r,mx + 1 = r:=⟨_,rfl⟩
 have hri : (mx : Int) + 1 = (r : Int):=by omega
 have hrf : (q : Int) + 1 = (r : Int):=by omega
 have hr38 : r <= 2 ^ 38:=by omega
 have hmk:=make_words r hr38 w
 rw [hT] at hmk
 obtain ⟨W1,hW1⟩ : ∃ W,w.alloc (.cells (wArr (List.replicate r 0)) 130) = W:=⟨_,rfl⟩
 have b1 : Below T w W1:=by rw [<- hW1,<- hT]; exact (Below.refl _ _).alloc (Nat.le_refl _) _
 have q1 : RowB W1 T (List.replicate r 0):=by
  have : Blk W1 T (wArr (List.replicate r 0)) 130:=by rw [<- hW1,<- hT]; exact Blk.new w _ _
  exact rowB_arr this
 obtain ⟨N,hN⟩ : ∃ N,u * m - v * n = N:=⟨_,rfl⟩
 rw [hN]
 have HN:=Lib.hid hN
 have HLE:=Lib.hid hle
 have HLM:=Lib.hid hlm
 have HLN:=Lib.hid hln
 have HP:=Lib.hid hp
 have HQ:=Lib.hid hq
 have HT:=Lib.hid hT
 have HMX:=Lib.hid hmx
 have HR:=Lib.hid hr
 have HCA:=Lib.hid hca
 have HCB:=Lib.hid hcb
 have HW1:=Lib.hid hW1
 have HB1:=Lib.hid b1
 have HQ1:=Lib.hid q1
 clear hla hlb tla tlb hlm hln hp hq hT hmx hr hca hcb hW1 b1 q1 hN hle hm30 hn30
 go_enter Tryz.func105,Tryz.ntmps105
 go_upto_region 2 with fail
 try simp only [HT.out]
 rw [HW1.out]
 go_wp2_with fail
 go_loopw [10,11,12,23] (fun xv yv bb iv wr => ∃ (i x y b : Nat) (X : List Nat),i <= r /\ xv = .int .u64 x /\ yv = .int .u64 y /\ bb = .int .u32 b /\ iv = .int .i64 i /\ x < WB32 /\ y < WB32 /\ b <= 1 /\ Hid (X.length = r) /\ Hid (∀ d ∈ X,d < WB32) /\ Hid (p < i -> x = 0) /\ Hid (q < i -> y = 0) /\ Hid (bv WB32 (X.take i) + v * bv WB32 (lb.take i) + WB32 ^ i * x = u * bv WB32 (la.take i) + WB32 ^ i * (y + b)) /\ Hid (RowB wr T X) /\ Hid (Below T w wr)) (fun _ _ _ iv _ => r - (intOf iv).toNat)
 case atStart => exact ⟨0,0,0,0,List.replicate r 0,Nat.zero_le _,rfl,rfl,rfl,rfl,by decide,by decide,by omega,Lib.hid (by simp),Lib.hid (fun d hd => by rw [List.eq_of_mem_replicate hd]; decide),Lib.hid (fun _ => rfl),Lib.hid (fun _ => rfl),Lib.hid (by simp [bv]),HQ1,HB1⟩
 case round =>
  obtain ⟨i,x,y,b,X,hi,rfl,rfl,rfl,rfl,hx32,hy32,hb1,HXL,HXT,HX0,HY0,HXV,HXR,HXB⟩:=hrel
  obtain ⟨wo,rfl⟩ : ∃ wo : World,wo = wr:=⟨_,rfl⟩
  by_cases hlt : i < r
  ·obtain ⟨old,ho⟩ : ∃ o,X[i]? = some o:=⟨_,List.getElem?_eq_getElem (by rw [HXL.out]; exact hlt)⟩
   have e1 : wo.cell? ⟨T,i,none⟩ = some (.int .u32 (old : Int)):=HXR.out.at ho
   have f1 : wo.frozen? ⟨T,i,none⟩ = false:=HXR.out.free i
   obtain ⟨a,ha⟩ : ∃ a,la[i]?.getD 0 = a:=⟨_,rfl⟩
   obtain ⟨c,hc⟩ : ∃ c,lb[i]?.getD 0 = c:=⟨_,rfl⟩
   have ha32 : a < WB32:=by
    rw [<- ha]
    cases h : la[i]? with
    | none => decide
    | some d => obtain ⟨_,_,_,_,_,h6⟩:=HCA.out i d h; exact h6
   have hc32 : c < WB32:=by
    rw [<- hc]
    cases h : lb[i]? with
    | none => decide
    | some d => obtain ⟨_,_,_,_,_,h6⟩:=HCB.out i d h; exact h6
   obtain ⟨hx64,hxn⟩:=carry_lt hx32 hu32 ha32
   obtain ⟨hy64,hyn⟩:=carry_lt hy32 hv32 hc32
   obtain ⟨P,hP⟩ : ∃ P,u * a = P:=⟨_,rfl⟩
   obtain ⟨R,hR⟩ : ∃ R,v * c = R:=⟨_,rfl⟩
   have hPi : (u : Int) * (a : Int) = (P : Int):=by rw [<- hP]; simp
   have hRi : (v : Int) * (c : Int) = (R : Int):=by rw [<- hR]; simp
   obtain ⟨x1,hx1⟩ : ∃ z,x + u * a = z:=⟨_,rfl⟩
   obtain ⟨y1,hy1⟩ : ∃ z,y + v * c = z:=⟨_,rfl⟩
   have hx1i : (x : Int) + (P : Int) = (x1 : Int):=by omega
   have hy1i : (y : Int) + (R : Int) = (y1 : Int):=by omega
   rw [hx1] at hx64 hxn
   rw [hy1] at hy64 hyn
   obtain ⟨lx,hlx⟩ : ∃ z,x1 % WB32 = z:=⟨_,rfl⟩
   obtain ⟨ly,hly⟩ : ∃ z,y1 % WB32 = z:=⟨_,rfl⟩
   obtain ⟨xn,hxn'⟩ : ∃ z,x1 / WB32 = z:=⟨_,rfl⟩
   obtain ⟨yn,hyn'⟩ : ∃ z,y1 / WB32 = z:=⟨_,rfl⟩
   rw [hxn'] at hxn
   rw [hyn'] at hyn
   have hlx32 : lx < WB32:=by rw [<- hlx]; exact Nat.mod_lt _ (by decide)
   have hly32 : ly < WB32:=by rw [<- hly]; exact Nat.mod_lt _ (by decide)
   have hwx : IntKind.u32.wrap (x1 : Int) = (lx : Int):=by unfold WB32 at hlx; simp [IntKind.wrap,IntKind.bits,IntKind.signed]; omega
   have hwy : IntKind.u32.wrap (y1 : Int) = (ly : Int):=by unfold WB32 at hly; simp [IntKind.wrap,IntKind.bits,IntKind.signed]; omega
   have hdx : (x1 : Int) / 4294967296 = (xn : Int):=by unfold WB32 at hxn'; omega
   have hdy : (y1 : Int) / 4294967296 = (yn : Int):=by unfold WB32 at hyn'; omega
   have hw1 : IntKind.u64.wrap (P : Int) = P:=wu64 (by omega)
   have hw2 : IntKind.u64.wrap (R : Int) = R:=wu64 (by omega)
   have hw3 : IntKind.u64.wrap (x1 : Int) = x1:=wu64 hx64
   have hw4 : IntKind.u64.wrap (y1 : Int) = y1:=wu64 hy64
   have hw5 : IntKind.u64.wrap (a : Int) = a:=wu64 (by unfold WB32 at ha32; omega)
   have hw6 : IntKind.u64.wrap (c : Int) = c:=wu64 (by unfold WB32 at hc32; omega)
   have hs:=sub32_any lx ly b hlx32 hly32 hb1 wo
   have HS:=Lib.hid hs
   have HFIN : Hid (∀ d b' : Nat,d < WB32 -> d + ly + b = lx + WB32 * b' -> (X.set i d).length = r /\ (∀ e ∈ X.set i d,e < WB32) /\ (p < i + 1 -> xn = 0) /\ (q < i + 1 -> yn = 0) /\ (bv WB32 ((X.set i d).take (i + 1)) + v * bv WB32 (lb.take (i + 1)) + WB32 ^ (i + 1) * xn = u * bv WB32 (la.take (i + 1)) + WB32 ^ (i + 1) * (yn + b')) /\ RowB (wo.setCell ⟨T,i,none⟩ (.int .u32 (d : Int))) T (X.set i d) /\ Below T w (wo.setCell ⟨T,i,none⟩ (.int .u32 (d : Int)))):=Lib.hid fun d b' hd hsum => by
    have h0:=diff_step (M:=WB32 ^ i) (d:=d) (b':=b') (a:=a) (c:=c) HXV.out (by rw [hx1,hy1,hlx,hly]; exact hsum)
    rw [hx1,hy1,hxn',hyn'] at h0
    refine ⟨by rw [List.length_set]; exact HXL.out,lt_set HXT.out hd,fun h => ?_,fun h => ?_,?_,HXR.out.set i d,HXB.out.setCell (p:=⟨T,i,none⟩) (Nat.le_refl _) _⟩
    ·have ha0 : a = 0:=by rw [<- ha,List.getElem?_eq_none (by rw [HP.out]; omega)]; rfl
     rw [<- hxn',<- hx1,ha0,Nat.mul_zero]
     exact Nat.div_eq_of_lt hx32
    ·have hc0 : c = 0:=by rw [<- hc,List.getElem?_eq_none (by rw [HQ.out]; omega)]; rfl
     rw [<- hyn',<- hy1,hc0,Nat.mul_zero]
     exact Nat.div_eq_of_lt hy32
    ·rw [set_take (by rw [HXL.out]; exact hlt),bv_snoc,List.length_take,show min i X.length = i by rw [HXL.out]; omega,take_getD_bv,take_getD_bv,ha,hc,Nat.pow_succ]
     exact h0
   have HA:=Lib.hid ha
   have HC:=Lib.hid hc
   have HX1:=Lib.hid hx1
   have HY1:=Lib.hid hy1
   have HPP:=Lib.hid hP
   have HRR:=Lib.hid hR
   clear ho ha hc hx1 hy1 hP hR hlx hly hxn' hyn' hs
   by_cases hip : i < p
   ·obtain ⟨za,hza⟩ : ∃ z,la[i]? = some z:=⟨_,List.getElem?_eq_getElem (by rw [HP.out]; exact hip)⟩
    obtain ⟨ba,oa,rfl,hba,hca,_⟩:=HCA.out i za hza
    have hva : za = a:=by have := HA.out; rw [hza] at this; exact this
    subst hva
    have ea : wo.cell? ⟨ba,oa + i,none⟩ = some (.int .u32 (za : Int)):=(HXB.out.cell (p:=⟨ba,oa + i,none⟩) (show ba < T by omega)).trans hca
    clear hza hca
    by_cases hiq : i < q
    ·obtain ⟨zc,hzc⟩ : ∃ z,lb[i]? = some z:=⟨_,List.getElem?_eq_getElem (by rw [HQ.out]; exact hiq)⟩
     obtain ⟨bc,oc,rfl,hbc,hcc,_⟩:=HCB.out i zc hzc
     have hvc : zc = c:=by have := HC.out; rw [hzc] at this; exact this
     subst hvc
     have ec : wo.cell? ⟨bc,oc + i,none⟩ = some (.int .u32 (zc : Int)):=(HXB.out.cell (p:=⟨bc,oc + i,none⟩) (show bc < T by omega)).trans hcc
     clear hzc hcc
     go_wp2_with fail
     refine HS.out.mono ?_
     clear HS
     rintro e w3 ⟨d,b',rfl,hd,hb',hsum,rfl⟩
     obtain ⟨h1,h2,h3,h4,h5,h6,h7⟩:=HFIN.out d b' hd hsum
     have H1:=Lib.hid h1
     have H2:=Lib.hid h2
     have H3:=Lib.hid h3
     have H4:=Lib.hid h4
     have H5:=Lib.hid h5
     have H6:=Lib.hid h6
     have H7:=Lib.hid h7
     clear h1 h2 h3 h4 h5 h6 h7 hsum
     go_wp2_with fail
     exact ⟨⟨i + 1,xn,yn,b',X.set i d,by omega,rfl,rfl,rfl,by go_num,hxn,hyn,hb',H1,H2,H3,H4,H5,H6,H7⟩,by simp [intOf]; omega⟩
    ·exact absurd hpq (by omega)
   ·have h0a : a = 0:=by rw [<- HA.out,List.getElem?_eq_none (by rw [HP.out]; omega)]; rfl
    have hsa : x1 = x:=by rw [<- HX1.out,h0a,Nat.mul_zero,Nat.add_zero]
    subst hsa
    clear h0a hx1i
    by_cases hiq : i < q
    ·obtain ⟨zc,hzc⟩ : ∃ z,lb[i]? = some z:=⟨_,List.getElem?_eq_getElem (by rw [HQ.out]; exact hiq)⟩
     obtain ⟨bc,oc,rfl,hbc,hcc,_⟩:=HCB.out i zc hzc
     have hvc : zc = c:=by have := HC.out; rw [hzc] at this; exact this
     subst hvc
     have ec : wo.cell? ⟨bc,oc + i,none⟩ = some (.int .u32 (zc : Int)):=(HXB.out.cell (p:=⟨bc,oc + i,none⟩) (show bc < T by omega)).trans hcc
     clear hzc hcc
     go_wp2_with fail
     refine HS.out.mono ?_
     clear HS
     rintro e w3 ⟨d,b',rfl,hd,hb',hsum,rfl⟩
     obtain ⟨h1,h2,h3,h4,h5,h6,h7⟩:=HFIN.out d b' hd hsum
     have H1:=Lib.hid h1
     have H2:=Lib.hid h2
     have H3:=Lib.hid h3
     have H4:=Lib.hid h4
     have H5:=Lib.hid h5
     have H6:=Lib.hid h6
     have H7:=Lib.hid h7
     clear h1 h2 h3 h4 h5 h6 h7 hsum
     go_wp2_with fail
     exact ⟨⟨i + 1,xn,yn,b',X.set i d,by omega,rfl,rfl,rfl,by go_num,hxn,hyn,hb',H1,H2,H3,H4,H5,H6,H7⟩,by simp [intOf]; omega⟩
    ·have h0c : c = 0:=by rw [<- HC.out,List.getElem?_eq_none (by rw [HQ.out]; omega)]; rfl
     have hsc : y1 = y:=by rw [<- HY1.out,h0c,Nat.mul_zero,Nat.add_zero]
     subst hsc
     clear h0c hy1i
     go_wp2_with fail
     refine HS.out.mono ?_
     clear HS
     rintro e w3 ⟨d,b',rfl,hd,hb',hsum,rfl⟩
     obtain ⟨h1,h2,h3,h4,h5,h6,h7⟩:=HFIN.out d b' hd hsum
     have H1:=Lib.hid h1
     have H2:=Lib.hid h2
     have H3:=Lib.hid h3
     have H4:=Lib.hid h4
     have H5:=Lib.hid h5
     have H6:=Lib.hid h6
     have H7:=Lib.hid h7
     clear h1 h2 h3 h4 h5 h6 h7 hsum
     go_wp2_with fail
     exact ⟨⟨i + 1,xn,yn,b',X.set i d,by omega,rfl,rfl,rfl,by go_num,hxn,hyn,hb',H1,H2,H3,H4,H5,H6,H7⟩,by simp [intOf]; omega⟩
  ·obtain rfl : r = i:=by omega
   have hx0:=HX0.out (by have := HMX.out; have := HR.out; omega)
   have hy0:=HY0.out (by have := HMX.out; have := HR.out; omega)
   subst hx0
   subst hy0
   have hXv : bv WB32 X = N:=by
    have h0:=HXV.out
    have hm:=HMX.out
    have hr:=HR.out
    rw [List.take_of_length_le (l:=X) (by rw [HXL.out]; exact Nat.le_refl _),List.take_of_length_le (l:=lb) (by rw [HQ.out]; omega),List.take_of_length_le (l:=la) (by rw [HP.out]; omega),HLM.out,HLN.out,Nat.mul_zero] at h0
    have h1:=bv_lt X HXT.out
    rw [HXL.out] at h1
    have h2:=HLE.out
    have hb0 : b = 0:=by
     rcases Nat.eq_zero_or_pos b with h | h
     ·exact h
     ·obtain rfl : b = 1:=by omega
      rw [Nat.zero_add,Nat.mul_one] at h0
      omega
    subst hb0
    rw [<- HN.out]
    simp only [Nat.add_zero,Nat.mul_zero] at h0
    omega
   have hws:=HXR.out.ws (K:=wo.heap.size) (c:=r) HXR.out.lt (by rw [HXL.out]; exact Nat.le_refl _) (by unfold maxLen; omega) HXT.out
   have ht:=ntrim_bn wo.heap.size _ X wo hws
   rw [HXL.out,hXv] at ht
   have HTR:=Lib.hid ht
   clear hws ht hXv
   go_wp2_with fail
   refine HTR.out.mono ?_
   clear HTR
   rintro e w9 ⟨a9,n9,c9,k9,he,rfl,hbn,rfl⟩
   simp only [Value.slice.injEq] at he
   obtain ⟨rfl,rfl,rfl⟩:=he
   have HBN:=Lib.hid hbn
   clear hbn
   go_wp2_with fail
   go_ret
   exact ⟨_,rfl,HBN.out,HXB.out,NewV.at (Nat.le_refl _)⟩
theorem ndiff_ge (K : Nat) (a c : Value) (m n u v : Nat) (w : World) (la lb : List Nat) (hla : Ws K w a la) (tla : Tight la) (hlm : bv WB32 la = m) (hlb : Ws K w c lb) (tlb : Tight lb) (hln : bv WB32 lb = n) (hK : K <= w.heap.size) (hu32 : u < WB32) (hv32 : v < WB32) (hle : v * n <= u * m) (hm30 : m < WB32 ^ 536870912) (hn30 : n < WB32 ^ 536870912) (hpq : ¬ la.length < lb.length) :
  Calls Tryz.prog 105 #[.int .u64 u,a,.int .u64 v,c] w fun e w' => ∃ v',e = .returned v' /\ Bn w'.heap.size w' v' (u * m - v * n) /\ Below w.heap.size w w' /\ NewV w.heap.size v':=by
 have hpl:=tight_len tla (by rw [hlm]; exact hm30)
 have hql:=tight_len tlb (by rw [hln]; exact hn30)
 obtain ⟨ua,uc,rfl,hu1,hu2⟩:=hla.form
 obtain ⟨va,vc,rfl,hv1,hv2⟩:=hlb.form
 unfold maxLen at hu2 hv2
 have hca:=hla.cells
 have hcb:=hlb.cells
 obtain ⟨p,hp⟩ : ∃ p,la.length = p:=⟨_,rfl⟩
 obtain ⟨q,hq⟩ : ∃ q,lb.length = q:=⟨_,rfl⟩
 rw [hp] at hu1 hpl hpq ⊢
 rw [hq] at hv1 hql hpq ⊢
 obtain ⟨T,hT⟩ : ∃ T,w.heap.size = T:=⟨_,rfl⟩
 rw [hT] at hK ⊢
 obtain ⟨mx,hmx⟩ : ∃ x,max p q = x:=⟨_,rfl⟩
 have hmi1 : max (p : Int) (q : Int) = (mx : Int):=by omega
 have hmi2 : (if (p : Int) < (q : Int) then (q : Int) else (p : Int)) = (mx : Int):=by split <;> omega
 have hmi3 : (if (q : Int) < (p : Int) then (p : Int) else (q : Int)) = (mx : Int):=by split <;> omega
 obtain ⟨r,hr⟩ : ∃ r,mx + 1 = r:=⟨_,rfl⟩
 have hri : (mx : Int) + 1 = (r : Int):=by omega
 have hrf : (p : Int) + 1 = (r : Int):=by omega
 have hr38 : r <= 2 ^ 38:=by omega
 have hmk:=make_words r hr38 w
 rw [hT] at hmk
 obtain ⟨W1,hW1⟩ : ∃ W,w.alloc (.cells (wArr (List.replicate r 0)) 130) = W:=⟨_,rfl⟩
 have b1 : Below T w W1:=by rw [<- hW1,<- hT]; exact (Below.refl _ _).alloc (Nat.le_refl _) _
 have q1 : RowB W1 T (List.replicate r 0):=by
  have : Blk W1 T (wArr (List.replicate r 0)) 130:=by rw [<- hW1,<- hT]; exact Blk.new w _ _
  exact rowB_arr this
 obtain ⟨N,hN⟩ : ∃ N,u * m - v * n = N:=⟨_,rfl⟩
 rw [hN]
 have HN:=Lib.hid hN
 have HLE:=Lib.hid hle
 have HLM:=Lib.hid hlm
 have HLN:=Lib.hid hln
 have HP:=Lib.hid hp
 have HQ:=Lib.hid hq
 have HT:=Lib.hid hT
 have HMX:=Lib.hid hmx
 have HR:=Lib.hid hr
 have HCA:=Lib.hid hca
 have HCB:=Lib.hid hcb
 have HW1:=Lib.hid hW1
 have HB1:=Lib.hid b1
 have HQ1:=Lib.hid q1
 clear hla hlb tla tlb hlm hln hp hq hT hmx hr hca hcb hW1 b1 q1 hN hle hm30 hn30
 go_enter Tryz.func105,Tryz.ntmps105
 go_upto_region 2 with fail
 try simp only [HT.out]
 rw [HW1.out]
 go_wp2_with fail
 go_loopw [10,11,12,23] (fun xv yv bb iv wr => ∃ (i x y b : Nat) (X : List Nat),i <= r /\ xv = .int .u64 x /\ yv = .int .u64 y /\ bb = .int .u32 b /\ iv = .int .i64 i /\ x < WB32 /\ y < WB32 /\ b <= 1 /\ Hid (X.length = r) /\ Hid (∀ d ∈ X,d < WB32) /\ Hid (p < i -> x = 0) /\ Hid (q < i -> y = 0) /\ Hid (bv WB32 (X.take i) + v * bv WB32 (lb.take i) + WB32 ^ i * x = u * bv WB32 (la.take i) + WB32 ^ i * (y + b)) /\ Hid (RowB wr T X) /\ Hid (Below T w wr)) (fun _ _ _ iv _ => r - (intOf iv).toNat)
 case atStart => exact ⟨0,0,0,0,List.replicate r 0,Nat.zero_le _,rfl,rfl,rfl,rfl,by decide,by decide,by omega,Lib.hid (by simp),Lib.hid (fun d hd => by rw [List.eq_of_mem_replicate hd]; decide),Lib.hid (fun _ => rfl),Lib.hid (fun _ => rfl),Lib.hid (by simp [bv]),HQ1,HB1⟩
 case round =>
  obtain ⟨i,x,y,b,X,hi,rfl,rfl,rfl,rfl,hx32,hy32,hb1,HXL,HXT,HX0,HY0,HXV,HXR,HXB⟩:=hrel
  obtain ⟨wo,rfl⟩ : ∃ wo : World,wo = wr:=⟨_,rfl⟩
  by_cases hlt : i < r
  ·obtain ⟨old,ho⟩ : ∃ o,X[i]? = some o:=⟨_,List.getElem?_eq_getElem (by rw [HXL.out]; exact hlt)⟩
   have e1 : wo.cell? ⟨T,i,none⟩ = some (.int .u32 (old : Int)):=HXR.out.at ho
   have f1 : wo.frozen? ⟨T,i,none⟩ = false:=HXR.out.free i
   obtain ⟨a,ha⟩ : ∃ a,la[i]?.getD 0 = a:=⟨_,rfl⟩
   obtain ⟨c,hc⟩ : ∃ c,lb[i]?.getD 0 = c:=⟨_,rfl⟩
   have ha32 : a < WB32:=by
    rw [<- ha]
    cases h : la[i]? with
    | none => decide
    | some d => obtain ⟨_,_,_,_,_,h6⟩:=HCA.out i d h; exact h6
   have hc32 : c < WB32:=by
    rw [<- hc]
    cases h : lb[i]? with
    | none => decide
    | some d => obtain ⟨_,_,_,_,_,h6⟩:=HCB.out i d h; exact h6
   obtain ⟨hx64,hxn⟩:=carry_lt hx32 hu32 ha32
   obtain ⟨hy64,hyn⟩:=carry_lt hy32 hv32 hc32
   obtain ⟨P,hP⟩ : ∃ P,u * a = P:=⟨_,rfl⟩
   obtain ⟨R,hR⟩ : ∃ R,v * c = R:=⟨_,rfl⟩
   have hPi : (u : Int) * (a : Int) = (P : Int):=by rw [<- hP]; simp
   have hRi : (v : Int) * (c : Int) = (R : Int):=by rw [<- hR]; simp
   obtain ⟨x1,hx1⟩ : ∃ z,x + u * a = z:=⟨_,rfl⟩
   obtain ⟨y1,hy1⟩ : ∃ z,y + v * c = z:=⟨_,rfl⟩
   have hx1i : (x : Int) + (P : Int) = (x1 : Int):=by omega
   have hy1i : (y : Int) + (R : Int) = (y1 : Int):=by omega
   rw [hx1] at hx64 hxn
   rw [hy1] at hy64 hyn
   obtain ⟨lx,hlx⟩ : ∃ z,x1 % WB32 = z:=⟨_,rfl⟩
   obtain ⟨ly,hly⟩ : ∃ z,y1 % WB32 = z:=⟨_,rfl⟩
   obtain ⟨xn,hxn'⟩ : ∃ z,x1 / WB32 = z:=⟨_,rfl⟩
   obtain ⟨yn,hyn'⟩ : ∃ z,y1 / WB32 = z:=⟨_,rfl⟩
   rw [hxn'] at hxn
   rw [hyn'] at hyn
   have hlx32 : lx < WB32:=by rw [<- hlx]; exact Nat.mod_lt _ (by decide)
   have hly32 : ly < WB32:=by rw [<- hly]; exact Nat.mod_lt _ (by decide)
   have hwx : IntKind.u32.wrap (x1 : Int) = (lx : Int):=by unfold WB32 at hlx; simp [IntKind.wrap,IntKind.bits,IntKind.signed]; omega
   have hwy : IntKind.u32.wrap (y1 : Int) = (ly : Int):=by unfold WB32 at hly; simp [IntKind.wrap,IntKind.bits,IntKind.signed]; omega
   have hdx : (x1 : Int) / 4294967296 = (xn : Int):=by unfold WB32 at hxn'; omega
   have hdy : (y1 : Int) / 4294967296 = (yn : Int):=by unfold WB32 at hyn'; omega
   have hw1 : IntKind.u64.wrap (P : Int) = P:=wu64 (by omega)
   have hw2 : IntKind.u64.wrap (R : Int) = R:=wu64 (by omega)
   have hw3 : IntKind.u64.wrap (x1 : Int) = x1:=wu64 hx64
   have hw4 : IntKind.u64.wrap (y1 : Int) = y1:=wu64 hy64
   have hw5 : IntKind.u64.wrap (a : Int) = a:=wu64 (by unfold WB32 at ha32; omega)
   have hw6 : IntKind.u64.wrap (c : Int) = c:=wu64 (by unfold WB32 at hc32; omega)
   have hs:=sub32_any lx ly b hlx32 hly32 hb1 wo
   have HS:=Lib.hid hs
   have HFIN : Hid (∀ d b' : Nat,d < WB32 -> d + ly + b = lx + WB32 * b' -> (X.set i d).length = r /\ (∀ e ∈ X.set i d,e < WB32) /\ (p < i + 1 -> xn = 0) /\ (q < i + 1 -> yn = 0) /\ (bv WB32 ((X.set i d).take (i + 1)) + v * bv WB32 (lb.take (i + 1)) + WB32 ^ (i + 1) * xn = u * bv WB32 (la.take (i + 1)) + WB32 ^ (i + 1) * (yn + b')) /\ RowB (wo.setCell ⟨T,i,none⟩ (.int .u32 (d : Int))) T (X.set i d) /\ Below T w (wo.setCell ⟨T,i,none⟩ (.int .u32 (d : Int)))):=Lib.hid fun d b' hd hsum => by
    have h0:=diff_step (M:=WB32 ^ i) (d:=d) (b':=b') (a:=a) (c:=c) HXV.out (by rw [hx1,hy1,hlx,hly]; exact hsum)
    rw [hx1,hy1,hxn',hyn'] at h0
    refine ⟨by rw [List.length_set]; exact HXL.out,lt_set HXT.out hd,fun h => ?_,fun h => ?_,?_,HXR.out.set i d,HXB.out.setCell (p:=⟨T,i,none⟩) (Nat.le_refl _) _⟩
    ·have ha0 : a = 0:=by rw [<- ha,List.getElem?_eq_none (by rw [HP.out]; omega)]; rfl
     rw [<- hxn',<- hx1,ha0,Nat.mul_zero]
     exact Nat.div_eq_of_lt hx32
    ·have hc0 : c = 0:=by rw [<- hc,List.getElem?_eq_none (by rw [HQ.out]; omega)]; rfl
     rw [<- hyn',<- hy1,hc0,Nat.mul_zero]
     exact Nat.div_eq_of_lt hy32
    ·rw [set_take (by rw [HXL.out]; exact hlt),bv_snoc,List.length_take,show min i X.length = i by rw [HXL.out]; omega,take_getD_bv,take_getD_bv,ha,hc,Nat.pow_succ]
     exact h0
   have HA:=Lib.hid ha
   have HC:=Lib.hid hc
   have HX1:=Lib.hid hx1
   have HY1:=Lib.hid hy1
   have HPP:=Lib.hid hP
   have HRR:=Lib.hid hR
   clear ho ha hc hx1 hy1 hP hR hlx hly hxn' hyn' hs
   by_cases hip : i < p
   ·obtain ⟨za,hza⟩ : ∃ z,la[i]? = some z:=⟨_,List.getElem?_eq_getElem (by rw [HP.out]; exact hip)⟩
    obtain ⟨ba,oa,rfl,hba,hca,_⟩:=HCA.out i za hza
    have hva : za = a:=by have := HA.out; rw [hza] at this; exact this
    subst hva
    have ea : wo.cell? ⟨ba,oa + i,none⟩ = some (.int .u32 (za : Int)):=(HXB.out.cell (p:=⟨ba,oa + i,none⟩) (show ba < T by omega)).trans hca
    clear hza hca
    by_cases hiq : i < q
    ·obtain ⟨zc,hzc⟩ : ∃ z,lb[i]? = some z:=⟨_,List.getElem?_eq_getElem (by rw [HQ.out]; exact hiq)⟩
     obtain ⟨bc,oc,rfl,hbc,hcc,_⟩:=HCB.out i zc hzc
     have hvc : zc = c:=by have := HC.out; rw [hzc] at this; exact this
     subst hvc
     have ec : wo.cell? ⟨bc,oc + i,none⟩ = some (.int .u32 (zc : Int)):=(HXB.out.cell (p:=⟨bc,oc + i,none⟩) (show bc < T by omega)).trans hcc
     clear hzc hcc
     go_wp2_with fail
     refine HS.out.mono ?_
     clear HS
     rintro e w3 ⟨d,b',rfl,hd,hb',hsum,rfl⟩
     obtain ⟨h1,h2,h3,h4,h5,h6,h7⟩:=HFIN.out d b' hd hsum
     have H1:=Lib.hid h1
     have H2:=Lib.hid h2
     have H3:=Lib.hid h3
     have H4:=Lib.hid h4
     have H5:=Lib.hid h5
     have H6:=Lib.hid h6
     have H7:=Lib.hid h7
     clear h1 h2 h3 h4 h5 h6 h7 hsum
     go_wp2_with fail
     exact ⟨⟨i + 1,xn,yn,b',X.set i d,by omega,rfl,rfl,rfl,by go_num,hxn,hyn,hb',H1,H2,H3,H4,H5,H6,H7⟩,by simp [intOf]; omega⟩
    ·have h0c : c = 0:=by rw [<- HC.out,List.getElem?_eq_none (by rw [HQ.out]; omega)]; rfl
     have hsc : y1 = y:=by rw [<- HY1.out,h0c,Nat.mul_zero,Nat.add_zero]
     subst hsc
     clear h0c hy1i
     go_wp2_with fail
     refine HS.out.mono ?_
     clear HS
     rintro e w3 ⟨d,b',rfl,hd,hb',hsum,rfl⟩
     obtain ⟨h1,h2,h3,h4,h5,h6,h7⟩:=HFIN.out d b' hd hsum
     have H1:=Lib.hid h1
     have H2:=Lib.hid h2
     have H3:=Lib.hid h3
     have H4:=Lib.hid h4
     have H5:=Lib.hid h5
     have H6:=Lib.hid h6
     have H7:=Lib.hid h7
     clear h1 h2 h3 h4 h5 h6 h7 hsum
     go_wp2_with fail
     exact ⟨⟨i + 1,xn,yn,b',X.set i d,by omega,rfl,rfl,rfl,by go_num,hxn,hyn,hb',H1,H2,H3,H4,H5,H6,H7⟩,by simp [intOf]; omega⟩
   ·have h0a : a = 0:=by rw [<- HA.out,List.getElem?_eq_none (by rw [HP.out]; omega)]; rfl
    have hsa : x1 = x:=by rw [<- HX1.out,h0a,Nat.mul_zero,Nat.add_zero]
    subst hsa
    clear h0a hx1i
    by_cases hiq : i < q
    ·exact absurd hpq (by omega)
    ·have h0c : c = 0:=by rw [<- HC.out,List.getElem?_eq_none (by rw [HQ.out]; omega)]; rfl
     have hsc : y1 = y:=by rw [<- HY1.out,h0c,Nat.mul_zero,Nat.add_zero]
     subst hsc
     clear h0c hy1i
     go_wp2_with fail
     refine HS.out.mono ?_
     clear HS
     rintro e w3 ⟨d,b',rfl,hd,hb',hsum,rfl⟩
     obtain ⟨h1,h2,h3,h4,h5,h6,h7⟩:=HFIN.out d b' hd hsum
     have H1:=Lib.hid h1
     have H2:=Lib.hid h2
     have H3:=Lib.hid h3
     have H4:=Lib.hid h4
     have H5:=Lib.hid h5
     have H6:=Lib.hid h6
     have H7:=Lib.hid h7
     clear h1 h2 h3 h4 h5 h6 h7 hsum
     go_wp2_with fail
     exact ⟨⟨i + 1,xn,yn,b',X.set i d,by omega,rfl,rfl,rfl,by go_num,hxn,hyn,hb',H1,H2,H3,H4,H5,H6,H7⟩,by simp [intOf]; omega⟩
  ·obtain rfl : r = i:=by omega
   have hx0:=HX0.out (by have := HMX.out; have := HR.out; omega)
   have hy0:=HY0.out (by have := HMX.out; have := HR.out; omega)
   subst hx0
   subst hy0
   have hXv : bv WB32 X = N:=by
    have h0:=HXV.out
    have hm:=HMX.out
    have hr:=HR.out
    rw [List.take_of_length_le (l:=X) (by rw [HXL.out]; exact Nat.le_refl _),List.take_of_length_le (l:=lb) (by rw [HQ.out]; omega),List.take_of_length_le (l:=la) (by rw [HP.out]; omega),HLM.out,HLN.out,Nat.mul_zero] at h0
    have h1:=bv_lt X HXT.out
    rw [HXL.out] at h1
    have h2:=HLE.out
    have hb0 : b = 0:=by
     rcases Nat.eq_zero_or_pos b with h | h
     ·exact h
     ·obtain rfl : b = 1:=by omega
      rw [Nat.zero_add,Nat.mul_one] at h0
      omega
    subst hb0
    rw [<- HN.out]
    simp only [Nat.add_zero,Nat.mul_zero] at h0
    omega
   have hws:=HXR.out.ws (K:=wo.heap.size) (c:=r) HXR.out.lt (by rw [HXL.out]; exact Nat.le_refl _) (by unfold maxLen; omega) HXT.out
   have ht:=ntrim_bn wo.heap.size _ X wo hws
   rw [HXL.out,hXv] at ht
   have HTR:=Lib.hid ht
   clear hws ht hXv
   go_wp2_with fail
   refine HTR.out.mono ?_
   clear HTR
   rintro e w9 ⟨a9,n9,c9,k9,he,rfl,hbn,rfl⟩
   simp only [Value.slice.injEq] at he
   obtain ⟨rfl,rfl,rfl⟩:=he
   have HBN:=Lib.hid hbn
   clear hbn
   go_wp2_with fail
   go_ret
   exact ⟨_,rfl,HBN.out,HXB.out,NewV.at (Nat.le_refl _)⟩
theorem ndiff_any (K : Nat) (a c : Value) (m n u v : Nat) (w : World) (ha : Bn K w a m) (hc : Bn K w c n) (hK : K <= w.heap.size) (hu32 : u < WB32) (hv32 : v < WB32) (hle : v * n <= u * m) (hm30 : m < WB32 ^ 536870912) (hn30 : n < WB32 ^ 536870912) :
  Calls Tryz.prog 105 #[.int .u64 u,a,.int .u64 v,c] w fun e w' => ∃ v',e = .returned v' /\ Bn w'.heap.size w' v' (u * m - v * n) /\ Below w.heap.size w w' /\ NewV w.heap.size v':=by
 obtain ⟨la,hla,tla,hlm⟩:=ha
 obtain ⟨lb,hlb,tlb,hln⟩:=hc
 by_cases h : la.length < lb.length
 ·exact ndiff_lt K a c m n u v w la lb hla tla hlm hlb tlb hln hK hu32 hv32 hle hm30 hn30 h
 ·exact ndiff_ge K a c m n u v w la lb hla tla hlm hlb tlb hln hK hu32 hv32 hle hm30 hn30 h
end Go.Proofs.YtlldjmagbjjeoaaGreat
