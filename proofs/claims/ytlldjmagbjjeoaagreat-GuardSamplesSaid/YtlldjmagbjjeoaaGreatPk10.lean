/- Contracts and plain laws, several texts in one (NW10, NW14, NW15). No conditions beyond those stated. -/
import Derived.Test.YtlldjmagbjjeoaaGreatPk9
set_option maxRecDepth 100000
set_option maxHeartbeats 40000000
namespace Go.Proofs.YtlldjmagbjjeoaaGreat
open Go.RowKit
set_option linter.unusedVariables false
theorem ClnQ.bn {B K : Nat} {w : World} {l : List Nat} {a : Option Addr} {c : Nat} (h : ClnQ B w l a c) (hlt : ∀ d ∈ l,d < WB32) (ht : Tight l) (hK : w.heap.size <= K) : Bn K w (.slice a l.length c) (bv WB32 l):=by
 refine ⟨l,?_,ht,rfl⟩
 by_cases h0 : l = []
 ·subst h0
  exact Ws.nil _ _ a c h.cap h.nil
 ·obtain ⟨T,rfl,_,hr⟩:=h.row h0
  exact hr.ws (Nat.lt_of_lt_of_le hr.lt hK) h.len h.cap hlt
theorem cmpN_neg (m n : Nat) : decide (cmpN m n < 0) = decide (m < n):=by
 unfold cmpN
 by_cases h : m < n
 ·rw [if_pos h]; simp [h]
 ·rw [if_neg h]
  by_cases h2 : n < m
  ·rw [if_pos h2]; simp [h]
  ·rw [if_neg h2]; simp [h]
theorem ndivide_any (K : Nat) (u v : Value) (m n : Nat) (w : World) (hu : Bn K w u m) (hv : Bn K w v n) (hK : K <= w.heap.size) (hn0 : 0 < n) (hm30 : m < WB32 ^ 268435456) :
  Calls Tryz.prog 100 #[u,v] w fun e w' => ∃ q r,e = .returned (.tuple #[q,r]) /\ Bn w'.heap.size w' q (m / n) /\ Bn w'.heap.size w' r (m % n) /\ Below w.heap.size w w' /\ NewV w.heap.size q /\ NewV w.heap.size r:=by
 have hcmp:=ncompare_any K u v m n w hu hv
 obtain ⟨la,hla,tla,hlm⟩:=hu
 obtain ⟨lb,hlb,tlb,hln⟩:=hv
 have hpl:=tight_len tla (by rw [hlm]; exact hm30)
 obtain ⟨ua,uc,rfl,hu1,hu2⟩:=hla.form
 obtain ⟨va,vc,rfl,hv1,hv2⟩:=hlb.form
 unfold maxLen at hu2 hv2
 obtain ⟨B,hB⟩ : ∃ B,w.heap.size = B:=⟨_,rfl⟩
 rw [hB] at hK ⊢
 have hWS : ∀ W,Below B w W -> Ws K W (.slice ua la.length uc) la /\ Ws K W (.slice va lb.length vc) lb:=fun W hb => ⟨hla.below hb hK (Nat.le_refl _),hlb.below hb hK (Nat.le_refl _)⟩
 obtain ⟨p,hp⟩ : ∃ p,la.length = p:=⟨_,rfl⟩
 obtain ⟨q,hq⟩ : ∃ q,lb.length = q:=⟨_,rfl⟩
 rw [hp] at hu1 hpl hcmp ⊢
 rw [hq] at hv1 hcmp ⊢
 have hq0 : 0 < q:=by
  rcases Nat.eq_zero_or_pos q with h | h
  ·have : lb = []:=List.eq_nil_of_length_eq_zero (by omega)
   rw [this] at hln; simp [bv] at hln; omega
  ·exact h
 have hneg:=cmpN_neg m n
 obtain ⟨cv,hcv⟩ : ∃ c,cmpN m n = c:=⟨_,rfl⟩
 rw [hcv] at hcmp hneg
 have HW:=Lib.hid hWS
 have HP:=Lib.hid hp
 have HQ:=Lib.hid hq
 have HB:=Lib.hid hB
 have HLM:=Lib.hid hlm
 have HLN:=Lib.hid hln
 have HTA:=Lib.hid tla
 have HTB:=Lib.hid tlb
 have HAT:=Lib.hid hla.lt
 have HBT:=Lib.hid hlb.lt
 have HCMP:=Lib.hid hcmp
 clear hla hlb hlm hln tla tlb hWS hp hq hB hcmp hcv hm30
 go_enter Tryz.func100,Tryz.ntmps100
 go_wp2_with fail
 refine HCMP.out.mono ?_
 clear HCMP
 rintro e w2 ⟨rfl,k2,hk2⟩
 have hb2 : Below B w w2:=by rw [hk2,<- HB.out]; exact below_drewN2 (Below.refl _ _) k2
 have hB2 : w2.heap.size = B:=by rw [hk2]; exact HB.out
 have HB2:=Lib.hid hb2
 have HS2:=Lib.hid hB2
 clear hk2 hb2 hB2
 by_cases hmn : m < n
 ·have hc1 : decide (cv < 0) = true:=by rw [hneg]; simp [hmn]
  have hcl:=nclone_any K _ la w2 (HW.out w2 HB2.out).1 (by rw [HS2.out]; exact hK) (by rw [HP.out]; omega)
  rw [HP.out,HS2.out] at hcl
  have HCL:=Lib.hid hcl
  clear hcl hneg
  go_wp2_with fail
  refine HCL.out.mono ?_
  clear HCL
  rintro e w3 ⟨a,c,rfl,hb3,hc⟩
  have hbn:=hc.bn HAT.out HTA.out (Nat.le_refl w3.heap.size)
  have hnew:=hc.new
  rw [HP.out,HLM.out] at hbn
  rw [HP.out] at hnew
  have HBN:=Lib.hid hbn
  have HNEW:=Lib.hid hnew
  have HB3:=Lib.hid hb3
  clear hc hbn hnew hb3
  go_wp2_with fail
  go_ret2
  exact ⟨_,_,rfl,⟨[],Ws.nil _ _ none 0 (by simp [maxLen]) (fun _ => rfl),Tight.nil,by rw [Nat.div_eq_of_lt hmn]; rfl⟩,by rw [Nat.mod_eq_of_lt hmn]; exact HBN.out,HB2.out.trans HB3.out,NewV.nil _ _ _,HNEW.out⟩
 ·have hc1 : decide (cv < 0) = false:=by rw [hneg]; simp [hmn]
  clear hneg
  by_cases hq1 : q = 1
  ·subst hq1
   obtain ⟨d,hd⟩ : ∃ d,lb = [d]:=by
    have := HQ.out
    match lb,this with
    | [d],_ => exact ⟨d,rfl⟩
   have hdn : d = n:=by have := HLN.out; rw [hd] at this; simpa [bv] using this
   subst hdn
   have hd32:=HBT.out d (by rw [hd]; exact List.mem_singleton.2 rfl)
   obtain ⟨vb,vo,cap,he,_,_,hvb,hvc⟩:=(HW.out w2 HB2.out).2.at (by rw [HQ.out]; omega)
   rw [HQ.out] at he
   simp only [Value.slice.injEq,true_and] at he
   obtain ⟨rfl,rfl⟩:=he
   have e0:=hvc 0 d (by rw [hd]; rfl)
   rw [Nat.add_zero] at e0
   have hds:=ndivshort_any K _ la d w2 (HW.out w2 HB2.out).1 (by rw [HS2.out]; exact hK) (by rw [HP.out]; omega) hn0 hd32
   rw [HP.out,HS2.out,HLM.out] at hds
   have HDS:=Lib.hid hds
   obtain ⟨r,hr⟩ : ∃ r,m % d = r:=⟨_,rfl⟩
   rw [hr] at HDS
   have HRR:=Lib.hid hr
   have hr32 : r < WB32:=by rw [<- hr]; exact Nat.lt_trans (Nat.mod_lt _ hn0) hd32
   clear hds hvc hd hr
   go_wp2_with fail
   refine HDS.out.mono ?_
   clear HDS
   rintro e w3 ⟨qv,rfl,hqv,hb3,hnq⟩
   obtain ⟨T3,hT3⟩ : ∃ T,w3.heap.size = T:=⟨_,rfl⟩
   obtain ⟨W4,hW4⟩ : ∃ W,w3.alloc (.cells #[.int .u32 (r : Int)] 130) = W:=⟨_,rfl⟩
   have b4 : Below T3 w3 W4:=by rw [<- hW4,<- hT3]; exact (Below.refl _ _).alloc (Nat.le_refl _) _
   have q4 : RowB W4 T3 [r]:=by
    have : Blk W4 T3 (wArr [r]) 130:=by rw [<- hW4,<- hT3]; exact Blk.new w3 _ _
    exact rowB_arr this
   have hws:=q4.ws (K:=W4.heap.size) (c:=1) q4.lt (by simp) (by simp [maxLen]) (fun d hd => by rw [List.mem_singleton.1 hd]; exact hr32)
   have ht:=ntrim_bn W4.heap.size _ [r] W4 hws
   rw [show bv WB32 [r] = r by simp [bv]] at ht
   have HT:=Lib.hid ht
   have hb3s:=hb3.size
   rw [hT3,HS2.out] at hb3s
   rw [hT3] at hqv
   have HQV:=Lib.hid (hqv.below b4 (Nat.le_refl _) (Nat.le_refl _))
   have HNQ:=Lib.hid hnq
   have HT3:=Lib.hid hT3
   have HW4:=Lib.hid hW4
   have HB4 : Hid (Below B w W4):=Lib.hid (HB2.out.trans (hb3.trans (b4.mono hb3s)))
   have hs4 : T3 <= W4.heap.size:=Nat.le_of_lt q4.lt
   obtain ⟨qa,qn,qc,rfl⟩ : ∃ a n c,qv = .slice a n c:=by
    obtain ⟨l,hl,_⟩:=hqv
    obtain ⟨a,c,h,_⟩:=hl.form
    exact ⟨a,_,c,h⟩
   clear hT3 hW4 b4 q4 hws ht hqv hnq hb3 e0
   go_upto_region 5 with fail
   go_wp2_with fail
   try simp only [HT3.out]
   try rw [HW4.out]
   refine HT.out.mono ?_
   clear HT
   rintro e w9 ⟨a9,n9,c9,k9,he,rfl,hbn,rfl⟩
   simp only [Value.slice.injEq] at he
   obtain ⟨rfl,rfl,rfl⟩:=he
   have HBN:=Lib.hid hbn
   clear hbn
   go_wp2_with fail
   go_ret2
   exact ⟨_,_,rfl,HQV.out.below (Below.refl W4.heap.size W4) hs4 hs4,by rw [HRR.out]; exact HBN.out,HB4.out,HNQ.out,NewV.at hb3s⟩
  ·have hq2 : 2 <= q:=by omega
   have hq1b : ((q : Int) == 1) = false:=by simp; omega
   have hqp : q <= p:=by
    have := tight_le (l:=la) (r:=lb) HAT.out HTB.out (by rw [HLM.out,HLN.out]; omega)
    rw [HP.out,HQ.out] at this; exact this
   obtain ⟨kq,hkq⟩ : ∃ k,q = k + 1:=⟨q - 1,by omega⟩
   obtain ⟨t,ht⟩ : ∃ t,lb[kq]? = some t:=⟨_,List.getElem?_eq_getElem (by rw [HQ.out]; omega)⟩
   have ht32:=HBT.out t (List.mem_of_getElem? ht)
   have ht0 : t ≠ 0:=by
    rcases HTB.out with h | h
    ·rw [h] at ht; cases ht
    ·rw [List.getLast?_eq_getElem?,HQ.out,hkq,Nat.add_sub_cancel,ht,Option.getD_some] at h
     exact h
   obtain ⟨vb,vo,cap,he,_,_,hvb,hvc⟩:=(HW.out w2 HB2.out).2.at (by rw [HQ.out]; omega)
   rw [HQ.out] at he
   simp only [Value.slice.injEq,true_and] at he
   obtain ⟨rfl,rfl⟩:=he
   have e0:=hvc kq t ht
   obtain ⟨s,hs32,hs1,hs2,hlz⟩:=nlz_any t ht32 ht0 w2
   have hkqi : (q : Int) - 1 = (kq : Int):=by omega
   have hkq2 : kq < q:=by omega
   have hwkq : IntKind.i64.wrap (kq : Int) = kq:=wi64 (by omega) (by omega)
   have hsb:=nshifted_any K _ lb s w2 (HW.out w2 HB2.out).2 (by rw [HS2.out]; exact hK) (by rw [HQ.out]; omega) hs32
   rw [HQ.out,HS2.out,HLN.out] at hsb
   have HSB:=Lib.hid hsb
   have HLZ:=Lib.hid hlz
   have HT:=Lib.hid ht
   have HKQ:=Lib.hid hkq
   have HS1:=Lib.hid hs1
   have HS2':=Lib.hid hs2
   clear hsb hlz ht hkq hvc ht0 ht32 hs1 hs2
   go_wp2_with fail
   refine HLZ.out.mono ?_
   clear HLZ
   rintro e w3 ⟨rfl,rfl⟩
   clear e0
   go_wp2_with fail
   refine HSB.out.mono ?_
   clear HSB
   rintro e w4 ⟨X1,rfl,hr1,hX1l,hX1t,hX1v,hb4,hs4⟩
   obtain ⟨hV,hVtop⟩:=shift_divisor (lb:=lb) (X:=X1) (k:=kq) (t:=t) (s:=s) (by rw [HQ.out]; exact HKQ.out) HBT.out HT.out hs32 HS1.out HS2'.out (by have := HKQ.out; omega) hX1t (by rw [HLN.out]; exact hX1v)
   rw [<- HKQ.out] at hV hVtop
   rw [HLN.out] at hV
   have hbw4 : Below B w w4:=HB2.out.trans hb4
   have hsa:=nshifted_any K _ la s w4 (HW.out w4 hbw4).1 (by omega) (by rw [HP.out]; omega) hs32
   rw [HP.out,hs4,HLM.out] at hsa
   have HSA:=Lib.hid hsa
   have HR1:=Lib.hid hr1
   have HX1L:=Lib.hid hX1l
   have HX1T:=Lib.hid hX1t
   have HV:=Lib.hid hV
   have HVTOP:=Lib.hid hVtop
   have HBW4:=Lib.hid hbw4
   clear hsa hr1 hX1l hX1t hX1v hb4 hbw4 hV hVtop
   go_wp2_with fail
   refine HSA.out.mono ?_
   clear HSA
   rintro e w5 ⟨X2,rfl,hr2,hX2l,hX2t,hX2v,hb5,hs5⟩
   have hP0 : 0 < 2 ^ s:=Nat.pow_pos (by omega)
   obtain ⟨P,hP⟩ : ∃ P,2 ^ s = P:=⟨_,rfl⟩
   rw [hP] at hX2v hP0
   have HV2 : Hid (bv WB32 (X1.take q) = n * P):=Lib.hid (by rw [<- hP]; exact HV.out)
   obtain ⟨D,hD⟩ : ∃ D,n * P = D:=⟨_,rfl⟩
   rw [hD] at HV2
   have hVl : (X1.take q).length = q:=by rw [List.length_take,HX1L.out]; omega
   have hVt : ∀ d ∈ X1.take q,d < WB32:=fun d hd => HX1T.out d (List.mem_of_mem_take hd)
   have hDn : D < WB32 ^ q:=by
    have := bv_lt (X1.take q) hVt
    rw [hVl,HV2.out] at this; exact this
   have hD0 : 0 < D:=by rw [<- hD]; exact Nat.mul_pos hn0 hP0
   obtain ⟨c,hc⟩ : ∃ c,p - q + 1 = c:=⟨_,rfl⟩
   have hpq : (p : Int) - (q : Int) + 1 = (c : Int):=by omega
   obtain ⟨pq,hpq0⟩ : ∃ x,p - q = x:=⟨_,rfl⟩
   have hpq1 : (p : Int) - (q : Int) = (pq : Int):=by omega
   have hpq2 : (pq : Int) + 1 = (c : Int):=by omega
   have hmk:=make_words c (by omega) w5
   rw [hs5] at hmk
   obtain ⟨W6,hW6⟩ : ∃ W,w5.alloc (.cells (wArr (List.replicate c 0)) 130) = W:=⟨_,rfl⟩
   have b6 : Below (B + 2) w5 W6:=by rw [<- hW6]; exact (Below.refl _ _).alloc (by omega) _
   have q6 : RowB W6 (B + 2) (List.replicate c 0):=by
    have : Blk W6 (B + 2) (wArr (List.replicate c 0)) 130:=by rw [<- hW6,<- hs5]; exact Blk.new w5 _ _
    exact rowB_arr this
   have s6 : W6.heap.size = B + 3:=by rw [<- hW6,World.size_alloc,hs5]
   have hr1' : RowB W6 B X1:=(HR1.out.below hb5 (by omega)).below b6 (by omega)
   have hr2' : RowB W6 (B + 1) X2:=hr2.below b6 (by omega)
   have hbw6 : Below B w W6:=HBW4.out.trans ((hb5.mono (by omega)).trans (b6.mono (by omega)))
   have hinv : Dvn X2 X2 (List.replicate c 0) D q c:=by
    have hcq : c + q = p + 1:=by omega
    have hz : bv WB32 ((List.replicate c 0 : List Nat).drop c) = 0:=by rw [List.drop_of_length_le (by simp)]; rfl
    have hsplit:=bv_split (b:=WB32) X2 c (by omega)
    have hsgd : sg X2 c q = X2.drop c:=by unfold sg; rw [List.take_of_length_le (by rw [List.length_drop]; omega)]
    refine ⟨by rw [hz,Nat.zero_mul,Nat.mul_zero,Nat.zero_add,hsgd]; exact hsplit,?_,by rw [List.getElem?_eq_none (by omega)]; rfl⟩
    rw [hsgd]
    have h1 : WB32 ^ c * bv WB32 (X2.drop c) <= m * P:=by rw [<- hX2v,hsplit]; omega
    have h2 : m < WB32 ^ p:=by
     have := bv_lt la HAT.out
     rw [HP.out,HLM.out] at this; exact this
    have h3 : m * P < WB32 ^ p * P:=Nat.mul_lt_mul_of_pos_right h2 hP0
    have h4 : WB32 ^ p = WB32 ^ c * WB32 ^ kq:=by rw [<- Nat.pow_add]; congr 1; have := HKQ.out; omega
    have h5 : WB32 ^ kq <= n:=by
     have := tight_low (b:=WB32) HTB.out (by intro e; have := HQ.out; rw [e] at this; simp at this; omega)
     rw [HQ.out,HLN.out,HKQ.out,Nat.add_sub_cancel] at this; exact this
    have h6 : WB32 ^ kq * P <= D:=by rw [<- hD]; exact Nat.mul_le_mul_right _ h5
    have h7 : WB32 ^ c * (WB32 ^ kq * P) <= WB32 ^ c * D:=Nat.mul_le_mul_left _ h6
    rw [h4,Nat.mul_assoc] at h3
    have h8 : WB32 ^ c * bv WB32 (X2.drop c) < WB32 ^ c * D:=by omega
    exact Nat.lt_of_mul_lt_mul_left h8
   have HINV:=Lib.hid hinv
   have HVL:=Lib.hid hVl
   have HVT:=Lib.hid hVt
   have HX2L:=Lib.hid hX2l
   have HX2V:=Lib.hid hX2v
   have HX2T:=Lib.hid hX2t
   have HPP:=Lib.hid hP
   have HDD:=Lib.hid hD
   have HDN:=Lib.hid hDn
   have HC:=Lib.hid hc
   have HW6:=Lib.hid hW6
   have HQ6:=Lib.hid q6
   have HR1':=Lib.hid hr1'
   have HR2':=Lib.hid hr2'
   have HBW6:=Lib.hid hbw6
   have HS6:=Lib.hid s6
   have hcb : c <= 2 ^ 30:=by omega
   have HS5:=Lib.hid hs5
   clear hX2l hX2v hX2t hP hD hc hW6 q6 hr1' hr2' hbw6 hinv hb5 hr2 b6 HR1 HBW4 hpq0 s6
   clear hVl hVt hDn hs5 hs4
   go_upto_region 11 with fail
   try simp only [Nat.add_assoc,Nat.reduceAdd]
   rw [HW6.out]
   go_wp2_with fail
   go_loopw [13] (fun iv wr => ∃ (i : Nat) (X Q : List Nat),i <= c /\ iv = .int .i64 ((i : Int) - 1) /\ Hid (X.length = p + 1) /\ Hid (∀ d ∈ X,d < WB32) /\ Hid (Q.length = c) /\ Hid (∀ d ∈ Q,d < WB32) /\ Hid (Dvn X2 X Q D q i) /\ Hid (RowB wr B X1) /\ Hid (RowB wr (B + 1) X) /\ Hid (RowB wr (B + 2) Q) /\ Hid (Below B w wr)) (fun iv _ => (intOf iv + 1).toNat)
   case atStart => exact ⟨c,X2,List.replicate c 0,Nat.le_refl _,rfl,HX2L,HX2T,Lib.hid (by simp),Lib.hid (fun d hd => by rw [List.eq_of_mem_replicate hd]; decide),HINV,HR1',HR2',HQ6,HBW6⟩
   case round =>
    obtain ⟨i,X,Q,hi,rfl,HXL,HXT,HQL,HQT,HDV,HRV,HRX,HRQ,HBR⟩:=hrel
    obtain ⟨wo,rfl⟩ : ∃ wo : World,wo = wr:=⟨_,rfl⟩
    cases i with
    | succ j =>
     have hiz : (((j + 1 : Nat) : Int) - 1) = (j : Int):=by omega
     rw [hiz]
     obtain ⟨jq,hjq⟩ : ∃ x,j + q = x:=⟨_,rfl⟩
     have hjqi : (j : Int) + (q : Int) = (jq : Int):=by omega
     have hjp : jq + 1 <= p + 1:=by have := HC.out; omega
     have hwjq : IntKind.i64.wrap (jq : Int) = jq:=wi64 (by omega) (by omega)
     have hlenI : (jq + 1 - j : Nat) = q + 1:=by omega
     obtain ⟨x,hx⟩ : ∃ x,X[j]? = some x:=⟨_,List.getElem?_eq_getElem (by rw [HXL.out]; omega)⟩
     have hUl : bv WB32 (sg X j (q + 1)) < bv WB32 (X1.take q) * WB32:=by
      rw [HV2.out,dvn_head hx]
      have h1:=HDV.out.low
      have h2:=HXT.out x (List.mem_of_getElem? hx)
      have h3 : WB32 * (bv WB32 (sg X (j + 1) q) + 1) <= WB32 * D:=Nat.mul_le_mul_left _ h1
      rw [Nat.mul_add,Nat.mul_comm WB32 D] at h3
      omega
     have hstep:=ndivstep_any (B + 1) j q B 0 (q + 1) (p + 1 - j) X (X1.take q) wo HRX.out HXT.out hq2 (by rw [HXL.out]; omega) HVL.out HVT.out (fun i d hd => by
       have hi:=(List.getElem?_eq_some_iff.1 hd).1
       rw [HVL.out] at hi
       rw [List.getElem?_take_of_lt hi] at hd
       rw [Nat.zero_add]; exact HRV.out.at hd) (by omega) HRV.out.lt (by omega) (by omega) (fun y hy => HVTOP.out y (by rw [show kq = q - 1 by have := HKQ.out; omega]; exact hy)) hUl
     rw [HV2.out] at hstep
     obtain ⟨dg,hdg⟩ : ∃ g,bv WB32 (sg X j (q + 1)) / D = g:=⟨_,rfl⟩
     rw [hdg] at hstep
     have hdg32 : dg < WB32:=by
      rw [<- hdg]
      refine Nat.div_lt_of_lt_mul ?_
      rw [HV2.out] at hUl; exact hUl
     have hjc : j < c:=by omega
     obtain ⟨old,ho⟩ : ∃ o,Q[j]? = some o:=⟨_,List.getElem?_eq_getElem (by rw [HQL.out]; exact hjc)⟩
     have HST:=Lib.hid hstep
     have HDG:=Lib.hid hdg
     have HO:=Lib.hid ho
     clear hstep hdg ho hx hUl hiz
     have hpj : ¬ (p + 1 = j):=by omega
     have hjj : j <= jq + 1:=by omega
     go_wp2_with fail
     refine HST.out.mono ?_
     clear HST
     rintro e w7 ⟨X',rfl,hrx,hxl,hxt,hxr,hxk,hg⟩
     have hrq : RowB w7 (B + 2) Q:=by
      obtain ⟨cs,h1,h2,h3⟩:=HRQ.out
      exact ⟨cs,(hg.block (B + 2) h1.lt (by simp)).trans h1,h2,h3⟩
     have hrv : RowB w7 B X1:=by
      obtain ⟨cs,h1,h2,h3⟩:=HRV.out
      exact ⟨cs,(hg.block B h1.lt (by simp)).trans h1,h2,h3⟩
     have hb7 : Below B w w7:=HBR.out.trans ((below_grown hg (fun r e => by cases e; exact Nat.le_refl _) (Nat.le_of_lt HRX.out.lt)).mono (by omega))
     have e1 : w7.cell? ⟨B + 2,j,none⟩ = some (.int .u32 (old : Int)):=hrq.at HO.out
     have f1 : w7.frozen? ⟨B + 2,j,none⟩ = false:=hrq.free j
     have hst:=HDV.out.step (X':=X') (q:=dg) (by rw [HXL.out]; omega) HXT.out hxt hxl HDN.out hD0 (by rw [HQL.out]; exact hjc) HDG.out.symm hxr hxk
     have HST:=Lib.hid hst
     have HRQ2:=Lib.hid (hrq.set j dg)
     have hk7:=grownBy_setCell w7 (B + 2) j (.int .u32 (dg : Int))
     have HRV2 : Hid (RowB (w7.setCell ⟨B + 2,j,none⟩ (.int .u32 (dg : Int))) B X1):=Lib.hid (by
      obtain ⟨cs,h1,h2,h3⟩:=hrv
      exact ⟨cs,(hk7.block B h1.lt (by simp)).trans h1,h2,h3⟩)
     have HRX2 : Hid (RowB (w7.setCell ⟨B + 2,j,none⟩ (.int .u32 (dg : Int))) (B + 1) X'):=Lib.hid (by
      obtain ⟨cs,h1,h2,h3⟩:=hrx
      exact ⟨cs,(hk7.block (B + 1) h1.lt (by simp)).trans h1,h2,h3⟩)
     have HB7:=Lib.hid (hb7.setCell (p:=⟨B + 2,j,none⟩) (by show B <= B + 2; omega) (.int .u32 (dg : Int)))
     have HXT2:=Lib.hid hxt
     have HXL2 : Hid (X'.length = p + 1):=Lib.hid (by rw [hxl]; exact HXL.out)
     have HQL2 : Hid ((Q.set j dg).length = c):=Lib.hid (by rw [List.length_set]; exact HQL.out)
     have HQT2 : Hid (∀ d ∈ Q.set j dg,d < WB32):=Lib.hid (lt_set HQT.out hdg32)
     clear hrx hxl hxt hxr hxk hg hrq hrv hb7 hst hk7
     go_wp2_with fail
     exact ⟨⟨j,X',Q.set j dg,by omega,rfl,HXL2,HXT2,HQL2,HQT2,HST,HRV2,HRX2,HRQ2,HB7⟩,by simp [intOf]⟩
    | zero =>
     have hv0:=HDV.out.val
     have hlow:=HDV.out.low
     have hz0:=HDV.out.zero
     rw [Nat.pow_zero,Nat.one_mul,List.drop_zero,List.take_zero,bv,Nat.zero_add,Nat.one_mul,HX2V.out] at hv0
     rw [Nat.zero_add] at hz0
     have hsg0 : sg X 0 q = X.take q:=by unfold sg; rw [List.drop_zero]
     rw [hsg0] at hv0 hlow
     have hdm : m * P / D = bv WB32 Q /\ m * P % D = bv WB32 (X.take q):=(Nat.div_mod_unique hD0).2 ⟨by rw [hv0,Nat.mul_comm D]; omega,hlow⟩
     have hQv : bv WB32 Q = m / n:=by rw [<- hdm.1,<- HDD.out,Nat.mul_div_mul_right _ _ hP0]
     have hRv : bv WB32 (X.take q) = m % n * P:=by rw [<- hdm.2,<- HDD.out,Nat.mul_mod_mul_right]
     have HQV:=Lib.hid hQv
     have HRV':=Lib.hid hRv
     have HZ0:=Lib.hid hz0
     clear hv0 hlow hz0 hsg0 hdm hQv hRv
     go_wp2_with fail
     go_loopw [78] (fun iv wr => ∃ (i : Nat) (Y : List Nat),i <= q /\ iv = .int .i64 i /\ Hid (Y.length = X.length) /\ Hid (∀ d ∈ Y,d < WB32) /\ Hid (Unsh X Y P q i) /\ Hid (RowB wr (B + 1) Y) /\ Hid (RowB wr (B + 2) Q) /\ Hid (Below B w wr)) (fun iv _ => q - (intOf iv).toNat)
     case atStart => exact ⟨0,X,Nat.zero_le _,rfl,Lib.hid rfl,HXT,Lib.hid Unsh.start,HRX,HRQ,HBR⟩
     case round =>
      obtain ⟨i,Y,hi,rfl,HYL,HYT,HUN,HRY,HRQ2,HBY⟩:=hrel
      obtain ⟨wq,rfl⟩ : ∃ wq : World,wq = wr:=⟨_,rfl⟩
      by_cases hlt : i < q
      ·obtain ⟨x,hx⟩ : ∃ x,X[i]? = some x:=⟨_,List.getElem?_eq_getElem (by rw [HXL.out]; omega)⟩
       obtain ⟨y,hy⟩ : ∃ y,X[i + 1]? = some y:=⟨_,List.getElem?_eq_getElem (by rw [HXL.out]; omega)⟩
       have hx32:=HXT.out x (List.mem_of_getElem? hx)
       have hy32:=HXT.out y (List.mem_of_getElem? hy)
       have hxY : Y[i]? = some x:=by rw [HUN.out.keep i (Nat.le_refl _)]; exact hx
       have hyY : Y[i + 1]? = some y:=by rw [HUN.out.keep (i + 1) (by omega)]; exact hy
       obtain ⟨ys,hys⟩ : ∃ z,y * WB32 = z:=⟨_,rfl⟩
       have hysi : (y : Int) * 4294967296 = (ys : Int):=by unfold WB32 at hys; omega
       obtain ⟨S,hS⟩ : ∃ S,y * WB32 + x = S:=⟨_,rfl⟩
       have hS64 : S < 18446744073709551616:=by unfold WB32 at *; omega
       have hor : bits BinOp.or IntKind.u64 (ys : Int) (x : Int) = (S : Int):=by
        rw [u64_or_nat ys x (by unfold WB32 at *; omega) (by unfold WB32 at *; omega)]
        have := Nat.two_pow_add_eq_or_of_lt (i:=32) (show x < 2 ^ 32 from hx32) y
        have e : ys = 2 ^ 32 * y:=by unfold WB32 at hys; omega
        rw [e,<- this]; unfold WB32 at *; omega
       obtain ⟨E,hE⟩ : ∃ E,S / P = E:=⟨_,rfl⟩
       obtain ⟨z,hz⟩ : ∃ z,E % WB32 = z:=⟨_,rfl⟩
       have hSP : (S : Int) / (P : Int) = (E : Int):=by rw [<- hE]; simp
       have hPs : (2 : Int) ^ s = (P : Int):=by rw [<- HPP.out]; simp
       have hEz : IntKind.u32.wrap (E : Int) = (z : Int):=by unfold WB32 at hz; simp [IntKind.wrap,IntKind.bits,IntKind.signed]; omega
       have hw1 : IntKind.u64.wrap (y : Int) = y:=wu64 (by unfold WB32 at *; omega)
       have hw2 : IntKind.u64.wrap (x : Int) = x:=wu64 (by unfold WB32 at *; omega)
       have hw3 : IntKind.u64.wrap (ys : Int) = ys:=wu64 (by unfold WB32 at *; omega)
       have hw4 : IntKind.i64.wrap ((i : Int) + 1) = (i : Int) + 1:=wi64 (by omega) (by omega)
       have e1 : wq.cell? ⟨B + 1,i,none⟩ = some (.int .u32 (x : Int)):=HRY.out.at hxY
       have e2 : wq.cell? ⟨B + 1,i + 1,none⟩ = some (.int .u32 (y : Int)):=HRY.out.at hyY
       have f1 : wq.frozen? ⟨B + 1,i,none⟩ = false:=HRY.out.free i
       have e1' : wq.drew.cell? ⟨B + 1,i,none⟩ = some (.int .u32 (x : Int)):=e1
       have e2' : wq.drew.cell? ⟨B + 1,i + 1,none⟩ = some (.int .u32 (y : Int)):=e2
       have f1' : wq.drew.frozen? ⟨B + 1,i,none⟩ = false:=f1
       have hun:=HUN.out.step (z:=z) HPP.out hs32 hx hx32 hy (by rw [hS,hE,hz]) HYL.out
       have HUN2:=Lib.hid hun
       have hip1 : i < p + 1:=by omega
       have hip2 : i + 1 < p + 1:=by omega
       have HRY2:=Lib.hid ((show RowB wq.drew (B + 1) Y from HRY.out).set i z)
       have HBY2:=Lib.hid ((below_quiet HBY.out).setCell (p:=⟨B + 1,i,none⟩) (by show B <= B + 1; omega) (.int .u32 (z : Int)))
       have HRQ3 : Hid (RowB (wq.drew.setCell ⟨B + 1,i,none⟩ (.int .u32 (z : Int))) (B + 2) Q):=Lib.hid (by
        obtain ⟨cs,h1,h2,h3⟩:=HRQ2.out
        exact ⟨cs,((grownBy_setCell wq.drew (B + 1) i _).block (B + 2) h1.lt (by simp)).trans h1,h2,h3⟩)
       have HYL2 : Hid ((Y.set i z).length = X.length):=Lib.hid (by rw [List.length_set]; exact HYL.out)
       have HYT2 : Hid (∀ d ∈ Y.set i z,d < WB32):=Lib.hid (lt_set HYT.out (by rw [<- hz]; exact Nat.mod_lt _ (by decide)))
       clear hx hy hxY hyY hys hS hE hz hun
       go_upto_region 18 with fail
       go_region
       go_wp2_with fail
       exact ⟨⟨i + 1,Y.set i z,by omega,by go_num,HYL2,HYT2,HUN2,HRY2,HRQ3,HBY2⟩,by simp [intOf]; omega⟩
      ·obtain rfl : q = i:=by omega
       have hYv:=HUN.out.done hP0 HZ0.out HRV'.out
       have hYtk : (Y.take q).length = q:=by rw [List.length_take,HYL.out,HXL.out]; omega
       have hwq1:=(show RowB wq.drew (B + 2) Q from HRQ2.out).ws (K:=wq.drew.heap.size) (c:=c) HRQ2.out.lt (by rw [HQL.out]; exact Nat.le_refl _) (by unfold maxLen; omega) HQT.out
       rw [HQL.out] at hwq1
       have ht1:=ntrim_bn wq.drew.heap.size _ Q wq.drew hwq1
       rw [HQV.out] at ht1
       have hwy:=(show RowB wq.drew (B + 1) Y from HRY.out).ws (K:=wq.drew.heap.size) (c:=p + 1) HRY.out.lt (by rw [HYL.out,HXL.out]; exact Nat.le_refl _) (by unfold maxLen; omega) HYT.out
       have hwy2:=hwy.take (k:=q) (by rw [HYL.out,HXL.out]; omega)
       have ht2:=ntrim_bn wq.drew.heap.size _ (Y.take q) wq.drew hwy2
       rw [hYv] at ht2
       have HT1:=Lib.hid ht1
       have HT2:=Lib.hid ht2
       have hp1 : ¬ (p + 1 = 0):=by omega
       have hqp1 : ¬ ((p : Int) + 1 < (q : Int)):=by omega
       clear hYv hYtk hwq1 ht1 hwy hwy2 ht2
       go_upto_region 20 with fail
       have qS : (fun W' => W' = wq.drew) wq.drew:=rfl
       refine region_plain (fun W' => W' = wq.drew) [] (by kernel_rfl) ?_
       refine wpAnyD_tpX (i:=0) (v:=.slice (some ⟨B + 2,0,none⟩) c c) (some 101) rfl rfl qS ?_
       refine wpAnyD_tpX (i:=2) (v:=.slice (some ⟨B + 1,0,none⟩) (p + 1) (p + 1)) (some 103) rfl rfl qS ?_
       refine wpAnyD_tpX (i:=3) (v:=.int .i64 q) (some 104) rfl rfl qS ?_
       refine wpAnyD_tpX (i:=4) (v:=.slice (some ⟨B + 1,0,none⟩) q (p + 1)) (some 105) rfl rfl qS ?_
       refine wpAnyD_on (i:=1) rfl ?_
       go_simp
       refine HT1.out.mono ?_
       clear HT1
       rintro e w9 ⟨a9,n9,c9,k9,he,rfl,hbn,rfl⟩
       simp only [Value.slice.injEq] at he
       obtain ⟨rfl,rfl,rfl⟩:=he
       have HBN1:=Lib.hid hbn
       clear hbn
       refine ⟨qS,?_⟩
       refine wpAnyD_on (i:=5) rfl ?_
       go_simp
       refine HT2.out.mono ?_
       clear HT2
       rintro e w9 ⟨a8,n8,c8,k8,he,rfl,hbn,rfl⟩
       simp only [Value.slice.injEq] at he
       obtain ⟨rfl,rfl,rfl⟩:=he
       have HBN2:=Lib.hid hbn
       clear hbn
       refine ⟨qS,?_⟩
       refine wpAnyD_tpX (i:=6) (v:=.slice (some ⟨B + 2,0,none⟩) k9 c) (some 4) rfl rfl qS ?_
       refine wpAnyD_tpX (i:=7) (v:=.slice (some ⟨B + 1,0,none⟩) k8 (p + 1)) (some 5) rfl rfl qS ?_
       refine wpAnyD_done (by kernel_rfl) ?_ _
       go_simp
       go_wp2_with fail
       go_ret2
       exact ⟨_,_,rfl,HBN1.out,HBN2.out,below_quiet HBY.out,NewV.at (by omega),NewV.at (by omega)⟩
theorem top_le {la lb : List Nat} {p t s : Nat} (hla : ∀ d ∈ la,d < WB32) (hlb : ∀ d ∈ lb,d < WB32) (hp : la.length = p + 1) (hq : lb.length <= p + 1) (hle : bv WB32 lb <= bv WB32 la) (ht : la[p]?.getD 0 = t) : lb[p]?.getD 0 <= t:=by
 have h1 : bv WB32 la = bv WB32 (la.take p) + WB32 ^ p * t:=by rw [<- ht,<- take_getD_bv,List.take_of_length_le (by omega)]
 have h2 : bv WB32 lb = bv WB32 (lb.take p) + WB32 ^ p * (lb[p]?.getD 0):=by rw [<- take_getD_bv,List.take_of_length_le hq]
 have h3:=bv_lt (la.take p) (fun d hd => hla d (List.mem_of_mem_take hd))
 rw [List.length_take,hp,show min p (p + 1) = p by omega] at h3
 rcases Nat.lt_or_ge t (lb[p]?.getD 0) with h | h
 ·have h4 : WB32 ^ p * (t + 1) <= WB32 ^ p * (lb[p]?.getD 0):=Nat.mul_le_mul_left _ h
  rw [Nat.mul_add,Nat.mul_one] at h4
  omega
 ·exact h
theorem headOf_lt {la : List Nat} {n s : Nat} (hlt : ∀ d ∈ la,d < WB32) (hs : s < 32) (hh : la[n - 1]?.getD 0 * 2 ^ s < WB32) : headOf la n s < 18446744073709551616:=by
 have hget : ∀ i : Nat,la[i]?.getD 0 < WB32:=fun i => by
  cases h : la[i]? with
  | none => decide
  | some d => exact hlt d (List.mem_of_getElem? h)
 unfold headOf
 have h2:=hget (n - 2)
 have h3:=hget (n - 3)
 obtain ⟨h,hhe⟩ : ∃ z,la[n - 1]?.getD 0 = z:=⟨_,rfl⟩
 obtain ⟨m,hme⟩ : ∃ z,la[n - 2]?.getD 0 = z:=⟨_,rfl⟩
 obtain ⟨t,hte⟩ : ∃ z,la[n - 3]?.getD 0 = z:=⟨_,rfl⟩
 rw [hhe] at hh
 rw [hme] at h2
 rw [hte] at h3
 rw [hhe,hme,hte]
 have hPQ : 2 ^ s * 2 ^ (32 - s) = WB32:=by rw [<- Nat.pow_add,show s + (32 - s) = 32 by omega]
 obtain ⟨P,hP⟩ : ∃ P,2 ^ s = P:=⟨_,rfl⟩
 obtain ⟨Q,hQ⟩ : ∃ Q,2 ^ (32 - s) = Q:=⟨_,rfl⟩
 rw [hP] at hh
 rw [hP,hQ] at hPQ
 rw [hP,hQ]
 have h5 : h < Q:=Nat.lt_of_mul_lt_mul_left (a:=P) (by rw [Nat.mul_comm,hPQ]; exact hh)
 have h4 : (h + 1) * P <= WB32:=by rw [<- hPQ,Nat.mul_comm]; exact Nat.mul_le_mul_left _ h5
 have h6 : (h * WB32 + m + 1) * P <= (h + 1) * WB32 * P:=Nat.mul_le_mul_right _ (by rw [Nat.add_mul]; omega)
 have h7 : (h + 1) * WB32 * P = (h + 1) * P * WB32:=by rw [Nat.mul_assoc,Nat.mul_comm WB32 P,<- Nat.mul_assoc]
 have h8 : (h + 1) * P * WB32 <= WB32 * WB32:=Nat.mul_le_mul_right _ h4
 have h9 : WB32 * WB32 = 18446744073709551616:=by decide
 rw [Nat.add_mul,Nat.one_mul] at h6
 have h10 : t / Q < P:=Nat.div_lt_of_lt_mul (by rw [Nat.mul_comm,hPQ]; exact h3)
 omega
theorem headOf_le {la lb : List Nat} {n s : Nat} (hla : ∀ d ∈ la,d < WB32) (hlb : ∀ d ∈ lb,d < WB32) (hp : la.length <= n) (hq : lb.length <= n) (hn : 3 <= n) (hs : s < 32) (hle : bv WB32 lb <= bv WB32 la) : headOf lb n s <= headOf la n s:=by
 rw [headOf_eq hla hp hn hs,headOf_eq hlb hq hn hs]
 exact Nat.div_le_div_right (Nat.mul_le_mul_right _ hle)
def Lh.val (c : Lh) : Array Value:=#[.int .u64 c.u0,.int .u64 c.u1,.int .u64 c.v0,.int .u64 c.v1,.bool c.ev]
theorem nsim_any (K : Nat) (a b : Value) (la lb : List Nat) (w : World) (hla : Ws K w a la) (hlb : Ws K w b lb) (tla : Tight la) (hK : K <= w.heap.size) (h3 : 3 <= la.length) (h30 : la.length <= 2 ^ 30) (hpq : lb.length <= la.length) (hle : bv WB32 lb <= bv WB32 la) :
  Calls Tryz.prog 104 #[a,b] w fun e w' => ∃ (s : Nat) (c : Lh),s < 32 /\ headOf la la.length s < 18446744073709551616 /\ LhI (headOf la la.length s) (headOf lb la.length s) c /\ e = .returned (.agg c.val) /\ Below w.heap.size w w':=by
 obtain ⟨T,hT⟩ : ∃ T,w.heap.size = T:=⟨_,rfl⟩
 rw [hT] at hK ⊢
 obtain ⟨n,hn⟩ : ∃ n,la.length = n:=⟨_,rfl⟩
 rw [hn] at h3 h30 hpq ⊢
 obtain ⟨p,hp⟩ : ∃ p,n = p + 1:=⟨n - 1,by omega⟩
 have hpp : n - 1 = p:=by omega
 obtain ⟨t,ht⟩ : ∃ t,la[p]? = some t:=⟨_,List.getElem?_eq_getElem (by omega)⟩
 have ht0 : t ≠ 0:=by
  rcases tla with h | h
  ·rw [h] at hn; simp at hn; omega
  ·rw [List.getLast?_eq_getElem?,hn,hpp,ht] at h
   exact h
 have ht32 : t < WB32:=hla.lt t (List.mem_of_getElem? ht)
 obtain ⟨W1,hW1⟩ : ∃ W,w.alloc (.cells #[.int .u64 0,.int .u64 0,.int .u64 0,.int .u64 0,.bool false] 137) = W:=⟨_,rfl⟩
 have b1 : Below T w W1:=by rw [<- hW1,<- hT]; exact (Below.refl _ _).alloc (Nat.le_refl _) _
 have s1 : W1.heap.size = T + 1:=by rw [<- hW1,<- hT]; simp
 obtain ⟨s,hs32,hs1,hs2,hlz⟩:=nlz_any t ht32 ht0 W1
 have htg : la[p]?.getD 0 = t:=by rw [ht]; rfl
 have htb:=top_le (s:=s) hla.lt hlb.lt (show la.length = p + 1 by omega) (by omega) hle htg
 have hta : la[n - 1]?.getD 0 * 2 ^ s < WB32:=by rw [hpp,htg]; exact hs1
 have htb2 : lb[n - 1]?.getD 0 * 2 ^ s < WB32:=by rw [hpp]; exact Nat.lt_of_le_of_lt (Nat.mul_le_mul_right _ htb) hs1
 have hX:=headOf_lt hla.lt hs32 hta
 have hY:=headOf_lt hlb.lt hs32 htb2
 have hYX:=headOf_le (n:=n) hla.lt hlb.lt (by omega) (by omega) (by omega) hs32 hle
 have hla1 : Ws K W1 a la:=hla.below b1 hK (Nat.le_refl _)
 have hha:=nhead_any K a la n s W1 hla1 (by omega) (by omega) (by omega) hs32 hta
 have hhb : ∀ w2,Below (T + 1) W1 w2 -> Calls Tryz.prog 115 #[b,.int .i64 n,.int .i64 s] w2 fun e w' => e = .returned (.int .u64 (headOf lb n s : Nat)) /\ Below w2.heap.size w2 w':=fun w2 h2 =>
  nhead_any K b lb n s w2 ((hlb.below b1 hK (Nat.le_refl _)).below h2 (by omega) (Nat.le_refl _)) (by have := h2.size; omega) (by omega) (by omega) hs32 htb2
 obtain ⟨va,vc,rfl,hv1,hv2⟩:=hlb.form
 obtain ⟨ta,tof,tc,rfl,hab,hcell,htc1,htc2⟩ : ∃ ta tof tc,a = .slice (some ⟨ta,tof,none⟩) la.length tc /\ ta < K /\ w.cell? ⟨ta,tof + p,none⟩ = some (.int .u32 (t : Int)) /\ la.length <= tc /\ tc <= maxLen:=by
  obtain ⟨ua,uc,rfl,hu1,hu2⟩:=hla.form
  obtain ⟨ub,uo,rfl,hub,huc,_⟩:=hla.cells p t ht
  exact ⟨ub,uo,uc,rfl,hub,huc,hu1,hu2⟩
 rw [hn] at htc1 hla1 hha
 have hni : (n : Int) - 1 = (p : Int):=by omega
 have hpn : p < n:=by omega
 obtain ⟨X,hXe⟩ : ∃ X,headOf la n s = X:=⟨_,rfl⟩
 obtain ⟨Y,hYe⟩ : ∃ Y,headOf lb n s = Y:=⟨_,rfl⟩
 rw [hXe] at hX hYX hha
 rw [hYe] at hY hYX hhb
 have e0 : W1.cell? ⟨ta,tof + p,none⟩ = some (.int .u32 (t : Int)):=(b1.cell (p:=⟨ta,tof + p,none⟩) (show ta < T by omega)).trans hcell
 unfold maxLen at hv2 htc2
 rw [hn]
 have HXlt:=Lib.hid hX
 have HXe:=Lib.hid hXe
 have HYe:=Lib.hid hYe
 have HLZ:=Lib.hid hlz
 have HHA:=Lib.hid hha
 have HHB:=Lib.hid hhb
 have HB1:=Lib.hid b1
 have HS1:=Lib.hid s1
 have HW1:=Lib.hid hW1
 have HT:=Lib.hid hT
 clear hXe hYe hlz hha hhb b1 s1 hT hla hlb tla hla1 hcell htb htb2 hta htg hs1 hs2 ht hle hn hp hpp
 go_enter Tryz.func104,Tryz.ntmps104
 go_upto_region 2 with fail
 try simp only [HT.out]
 try rw [HW1.out]
 clear hW1
 go_wp2_with fail
 refine HLZ.out.mono ?_
 rintro e w2 ⟨rfl,h⟩
 have HW2:=Lib.hid h
 clear h
 rw [HW2.out]
 go_wp2_with fail
 refine HHA.out.mono ?_
 rintro e w3 ⟨rfl,hb3⟩
 have hb3' : Below (T + 1) W1 w3:=by have := HS1.out; rw [this] at hb3; exact hb3
 have hc3:=HHB.out w3 hb3'
 have HB3:=Lib.hid hb3'
 clear hb3 hb3'
 go_wp2_with fail
 refine hc3.mono ?_
 rintro e w4 ⟨rfl,hb4⟩
 have HB4:=Lib.hid (HB3.out.trans (hb4.mono (by have := HS1.out; have := HB3.out.size; omega)))
 clear hb4 hc3
 go_upto_region 6 with fail
 obtain ⟨T4,hT4⟩ : ∃ z,w4.heap.size = z:=⟨_,rfl⟩
 obtain ⟨W5,hW5⟩ : ∃ W,w4.alloc (.cells (Lh.start X Y).val 137) = W:=⟨_,rfl⟩
 have hT4l : T + 1 <= T4:=by have := HB4.out.size; have := HS1.out; omega
 have q5 : Blk W5 T4 (Lh.start X Y).val 137:=by rw [<- hW5,<- hT4]; exact Blk.new w4 _ _
 have b5 : Below (T + 1) W1 W5:=by rw [<- hW5]; exact HB4.out.alloc (by omega) _
 have HW5:=Lib.hid hW5
 have HT4:=Lib.hid hT4
 have HQ5:=Lib.hid q5
 have HB5:=Lib.hid b5
 clear hW5 q5 b5
 rw [show (w4.alloc (Obj.cells #[Value.int IntKind.u64 0,Value.int IntKind.u64 1,Value.int IntKind.u64 0,Value.int IntKind.u64 0,Value.bool false] 137)) = W5 from HW5.out]
 simp only [HT4.out]
 clear hT4
 go_loopw [7,8,10,11] (fun av bv' uv vv wr => ∃ c : Lh,LhI X Y c /\ c.Lt 18446744073709551616 /\ av = .int .u64 c.a1 /\ bv' = .int .u64 c.a2 /\ uv = .int .u64 c.u2 /\ vv = .int .u64 c.v2 /\ Hid (Blk wr T4 c.val 137) /\ Hid (Below (T + 1) W1 wr)) (fun _ bv' _ _ _ => (intOf bv').toNat)
 case atStart => exact ⟨Lh.start X Y,LhI.start hYX,Lh.lt_start hX hY (by decide),rfl,rfl,rfl,rfl,HQ5,HB5⟩
 case round =>
  obtain ⟨c,hI,hLt,rfl,rfl,rfl,rfl,HQ,HB⟩:=hrel
  obtain ⟨wo,rfl⟩ : ∃ wo : World,wo = wr:=⟨_,rfl⟩
  have hstep:=hI.step hX hLt
  have hgo:=hI.lt_go hX hLt
  have hmore:=hI.go
  have hle:=hI.le
  have hp2:=hI.p2
  obtain ⟨ha1,ha2,hu0,hu1,hu2,hv0,hv1,hv2⟩:=hLt
  obtain ⟨x1,x2,u0,u1,u2,v0,v1,v2,ev⟩:=c
  dsimp only at *
  have q0 : Blk wo T4 #[.int .u64 u0,.int .u64 u1,.int .u64 v0,.int .u64 v1,.bool ev] 137:=HQ.out
  have e0 : wo.cell? ⟨T4,0,none⟩ = some (.int .u64 u0):=q0.at rfl
  have e1 : wo.cell? ⟨T4,1,none⟩ = some (.int .u64 u1):=q0.at rfl
  have e2 : wo.cell? ⟨T4,2,none⟩ = some (.int .u64 v0):=q0.at rfl
  have e3 : wo.cell? ⟨T4,3,none⟩ = some (.int .u64 v1):=q0.at rfl
  have e4 : wo.cell? ⟨T4,4,none⟩ = some (.bool ev):=q0.at rfl
  have f0 : wo.frozen? ⟨T4,0,none⟩ = false:=Blk.free HQ.out 0
  have f1 : wo.frozen? ⟨T4,1,none⟩ = false:=Blk.free HQ.out 1
  have f2 : wo.frozen? ⟨T4,2,none⟩ = false:=Blk.free HQ.out 2
  have f3 : wo.frozen? ⟨T4,3,none⟩ = false:=Blk.free HQ.out 3
  have f4 : wo.frozen? ⟨T4,4,none⟩ = false:=Blk.free HQ.out 4
  have qr : Blk W1 T #[.int .u64 0,.int .u64 0,.int .u64 0,.int .u64 0,.bool false] 137:=by
   have := HW1.out
   rw [<- this,<- HT.out]; exact Blk.new w _ _
  have qT : Blk wo T #[.int .u64 0,.int .u64 0,.int .u64 0,.int .u64 0,.bool false] 137:=(HB.out.block T (by omega)).trans qr
  have r0 : wo.cell? ⟨T,0,none⟩ = some (.int .u64 0):=qT.at rfl
  have r1 : wo.cell? ⟨T,1,none⟩ = some (.int .u64 0):=qT.at rfl
  have r2 : wo.cell? ⟨T,2,none⟩ = some (.int .u64 0):=qT.at rfl
  have r3 : wo.cell? ⟨T,3,none⟩ = some (.int .u64 0):=qT.at rfl
  have r4 : wo.cell? ⟨T,4,none⟩ = some (.bool false):=qT.at rfl
  have g0 : wo.frozen? ⟨T,0,none⟩ = false:=qT.free 0
  have g1 : wo.frozen? ⟨T,1,none⟩ = false:=qT.free 1
  have g2 : wo.frozen? ⟨T,2,none⟩ = false:=qT.free 2
  have g3 : wo.frozen? ⟨T,3,none⟩ = false:=qT.free 3
  have g4 : wo.frozen? ⟨T,4,none⟩ = false:=qT.free 4
  have HBw : Hid (Below T w wo):=Lib.hid (HB1.out.trans (HB.out.mono (by omega)))
  have HI:=Lib.hid hI
  have HKF : Hid (Blk (((((wo.setCell ⟨T,0,none⟩ (.int .u64 u0)).setCell ⟨T,1,none⟩ (.int .u64 u1)).setCell ⟨T,2,none⟩ (.int .u64 v0)).setCell ⟨T,3,none⟩ (.int .u64 v1)).setCell ⟨T,4,none⟩ (.bool ev)) T #[.int .u64 u0,.int .u64 u1,.int .u64 v0,.int .u64 v1,.bool ev] 137):=Lib.hid (((((qT.set (i:=0) _).set (i:=1) _).set (i:=2) _).set (i:=3) _).set (i:=4) _)
  have HBF : Hid (Below T w (((((wo.setCell ⟨T,0,none⟩ (.int .u64 u0)).setCell ⟨T,1,none⟩ (.int .u64 u1)).setCell ⟨T,2,none⟩ (.int .u64 v0)).setCell ⟨T,3,none⟩ (.int .u64 v1)).setCell ⟨T,4,none⟩ (.bool ev))):=Lib.hid (((((HBw.out.setCell (p:=⟨T,0,none⟩) (Nat.le_refl _) _).setCell (p:=⟨T,1,none⟩) (Nat.le_refl _) _).setCell (p:=⟨T,2,none⟩) (Nat.le_refl _) _).setCell (p:=⟨T,3,none⟩) (Nat.le_refl _) _).setCell (p:=⟨T,4,none⟩) (Nat.le_refl _) _)
  clear qr qT q0 hI
  by_cases hm1 : v2 <= x2
  ·have hs12:=hstep hm1
   obtain ⟨sm,hsm⟩ : ∃ z,v1 + v2 = z:=⟨_,rfl⟩
   obtain ⟨df,hdf⟩ : ∃ z,x1 - x2 = z:=⟨_,rfl⟩
   rw [hsm] at hs12
   have hs12i : (v1 : Int) + (v2 : Int) = (sm : Int):=by omega
   have hd12i : (x1 : Int) - (x2 : Int) = (df : Int):=by omega
   have hw1 : IntKind.u64.wrap (sm : Int) = (sm : Int):=wu64 hs12
   have hw2 : IntKind.u64.wrap (df : Int) = (df : Int):=wu64 (by omega)
   by_cases hm2 : sm <= df
   ·have hM : Lh.more ⟨x1,x2,u0,u1,u2,v0,v1,v2,ev⟩:=⟨hm1,by show v1 + v2 <= x1 - x2; omega⟩
    have HI2:=Lib.hid (hmore hM)
    have HG2:=Lib.hid (hgo hM)
    have hx20 : 0 < x2:=by omega
    have hrlt : x1 % x2 < x2:=Nat.mod_lt _ hx20
    have hv64 : v1 + x1 / x2 * v2 < 18446744073709551616:=HG2.out.v2
    have hu64 : u1 + x1 / x2 * u2 < 18446744073709551616:=HG2.out.u2
    have hq64 : x1 / x2 <= x1:=Nat.div_le_self _ _
    obtain ⟨q,hq⟩ : ∃ z,x1 / x2 = z:=⟨_,rfl⟩
    obtain ⟨r,hr⟩ : ∃ z,x1 % x2 = z:=⟨_,rfl⟩
    rw [hq] at hv64 hu64 hq64
    rw [hr] at hrlt
    obtain ⟨qv,hqv⟩ : ∃ z,q * v2 = z:=⟨_,rfl⟩
    obtain ⟨qu,hqu⟩ : ∃ z,q * u2 = z:=⟨_,rfl⟩
    have hqvi : (q : Int) * (v2 : Int) = (qv : Int):=by rw [<- hqv]; simp
    have hqui : (q : Int) * (u2 : Int) = (qu : Int):=by rw [<- hqu]; simp
    rw [hqv] at hv64
    rw [hqu] at hu64
    obtain ⟨vn,hvn⟩ : ∃ z,v1 + qv = z:=⟨_,rfl⟩
    obtain ⟨un,hun⟩ : ∃ z,u1 + qu = z:=⟨_,rfl⟩
    have hvni : (v1 : Int) + (qv : Int) = (vn : Int):=by omega
    have huni : (u1 : Int) + (qu : Int) = (un : Int):=by omega
    have hw3 : IntKind.u64.wrap (qv : Int) = qv:=wu64 (by omega)
    have hw4 : IntKind.u64.wrap (qu : Int) = qu:=wu64 (by omega)
    have hw5 : IntKind.u64.wrap (vn : Int) = vn:=wu64 (by omega)
    have hw6 : IntKind.u64.wrap (un : Int) = un:=wu64 (by omega)
    have hw7 : IntKind.u64.wrap (q : Int) = q:=wu64 (by omega)
    have hw8 : IntKind.u64.wrap (r : Int) = r:=wu64 (by omega)
    have hqi : (x1 : Int).tdiv (x2 : Int) = (q : Int):=by rw [Int.tdiv_eq_ediv_of_nonneg (by omega),<- hq]; simp
    have hri : (x1 : Int).tmod (x2 : Int) = (r : Int):=by rw [Int.tmod_eq_emod_of_nonneg (by omega),<- hr]; simp
    have hqi2 : (x1 : Int) / (x2 : Int) = (q : Int):=by rw [<- hq]; simp
    have hri2 : (x1 : Int) % (x2 : Int) = (r : Int):=by rw [<- hr]; simp
    have hd0 : ((x2 : Int) != 0) = true:=by simp; omega
    have hd1 : ((x2 : Int) == 0) = false:=by simp; omega
    have HE:=Lib.hid (And.intro hq (And.intro hr (And.intro hqv (And.intro hqu (And.intro hvn hun)))))
    clear hmore hgo hstep hsm hdf hq hr hqv hqu hvn hun r0 r1 r2 r3 r4 g0 g1 g2 g3 g4 HKF HBF
    go_upto_region 7 with fail
    go_quiet (fail)
    obtain ⟨wd,hwd⟩ : ∃ z,wo.drewN nq = z:=⟨_,rfl⟩
    rw [hwd]
    have q0 : Blk wd T4 #[.int .u64 u0,.int .u64 u1,.int .u64 v0,.int .u64 v1,.bool ev] 137:=by rw [<- hwd]; exact HQ.out
    have e0 : wd.cell? ⟨T4,0,none⟩ = some (.int .u64 u0):=q0.at rfl
    have e1 : wd.cell? ⟨T4,1,none⟩ = some (.int .u64 u1):=q0.at rfl
    have e2 : wd.cell? ⟨T4,2,none⟩ = some (.int .u64 v0):=q0.at rfl
    have e3 : wd.cell? ⟨T4,3,none⟩ = some (.int .u64 v1):=q0.at rfl
    have e4 : wd.cell? ⟨T4,4,none⟩ = some (.bool ev):=q0.at rfl
    have f0 : wd.frozen? ⟨T4,0,none⟩ = false:=q0.free 0
    have f1 : wd.frozen? ⟨T4,1,none⟩ = false:=q0.free 1
    have f2 : wd.frozen? ⟨T4,2,none⟩ = false:=q0.free 2
    have f3 : wd.frozen? ⟨T4,3,none⟩ = false:=q0.free 3
    have f4 : wd.frozen? ⟨T4,4,none⟩ = false:=q0.free 4
    have HQF:=Lib.hid (((((q0.set (i:=0) (.int .u64 u1)).set (i:=1) (.int .u64 u2)).set (i:=2) (.int .u64 v1)).set (i:=3) (.int .u64 v2)).set (i:=4) (.bool !ev))
    have hbd : Below (T + 1) W1 wd:=by rw [<- hwd]; exact below_drewN3 HB.out nq
    have HBF:=Lib.hid (((((hbd.setCell (p:=⟨T4,0,none⟩) hT4l (.int .u64 u1)).setCell (p:=⟨T4,1,none⟩) hT4l (.int .u64 u2)).setCell (p:=⟨T4,2,none⟩) hT4l (.int .u64 v1)).setCell (p:=⟨T4,3,none⟩) hT4l (.int .u64 v2)).setCell (p:=⟨T4,4,none⟩) hT4l (.bool !ev))
    clear q0 hbd hwd
    go_wp2_with fail
    obtain ⟨rfl,rfl,rfl,rfl,rfl,rfl⟩:=HE.out
    exact ⟨⟨Lh.go ⟨x1,x2,u0,u1,u2,v0,v1,v2,ev⟩,HI2.out,HG2.out,rfl,rfl,rfl,rfl,HQF,HBF⟩,by simp [intOf]; omega⟩
   ·clear hmore hgo hstep hsm hdf
    go_wp2_with fail
    have qF:=HKF.out
    have k0:=Blk.at (i:=0) qF rfl
    have k1:=Blk.at (i:=1) qF rfl
    have k2:=Blk.at (i:=2) qF rfl
    have k3:=Blk.at (i:=3) qF rfl
    have k4:=Blk.at (i:=4) qF rfl
    refine bodyPost_ret (v:=.agg #[.int .u64 u0,.int .u64 u1,.int .u64 v0,.int .u64 v1,.bool ev]) (by simp [results,Tryz.results104,go_sem,k0,k1,k2,k3,k4]) rfl ?_
    exact ⟨s,⟨x1,x2,u0,u1,u2,v0,v1,v2,ev⟩,hs32,by rw [HXe.out]; exact HXlt.out,by rw [HXe.out,HYe.out]; exact HI.out,rfl,HBF.out⟩
  ·clear hmore hgo hstep
   go_wp2_with fail
   have qF:=HKF.out
   have k0:=Blk.at (i:=0) qF rfl
   have k1:=Blk.at (i:=1) qF rfl
   have k2:=Blk.at (i:=2) qF rfl
   have k3:=Blk.at (i:=3) qF rfl
   have k4:=Blk.at (i:=4) qF rfl
   refine bodyPost_ret (v:=.agg #[.int .u64 u0,.int .u64 u1,.int .u64 v0,.int .u64 v1,.bool ev]) (by simp [results,Tryz.results104,go_sem,k0,k1,k2,k3,k4]) rfl ?_
   exact ⟨s,⟨x1,x2,u0,u1,u2,v0,v1,v2,ev⟩,hs32,by rw [HXe.out]; exact HXlt.out,by rw [HXe.out,HYe.out]; exact HI.out,rfl,HBF.out⟩
end Go.Proofs.YtlldjmagbjjeoaaGreat
