/- Contracts and plain laws, several texts in one (NW4, NW5, NW6, NW7). No conditions beyond those stated. -/
import Derived.Deep.Upon
import Derived.Test.YtlldjmagbjjeoaaGreatPk5
set_option maxRecDepth 100000
set_option maxHeartbeats 40000000
namespace Go.Proofs.YtlldjmagbjjeoaaGreat
open Go.RowKit
set_option linter.unusedVariables false
theorem Ws.cells {K : Nat} {w : World} {a : Option Addr} {n c : Nat} {l : List Nat} (h : Ws K w (.slice a n c) l) : ∀ i d : Nat,l[i]? = some d -> ∃ b o,a = some ⟨b,o,none⟩ /\ b < K /\ w.cell? ⟨b,o + i,none⟩ = some (.int .u32 (d : Int)) /\ d < WB32:=fun i d hd => by
 obtain ⟨b,o,cap,he,_,_,hb,hc⟩:=h.at (by have := (List.getElem?_eq_some_iff.1 hd).1; omega)
 simp only [Value.slice.injEq] at he
 exact ⟨b,o,he.1,hb,hc i d hd,h.lt d (List.mem_of_getElem? hd)⟩
theorem ws_blk {K b : Nat} {w : World} {l : List Nat} {t : TypeId} (hq : Blk w b (wArr l) t) (hb : b < K) (hm : l.length <= maxLen) (hlt : ∀ d ∈ l,d < WB32) : Ws K w (.slice (some ⟨b,0,none⟩) l.length l.length) l :=
 Ws.mk' (Nat.le_refl _) hm hb (fun i d hd => by rw [Nat.zero_add]; exact hq.at (wArr_at hd)) hlt
theorem mul_cell {x y o c : Nat} (hx : x < WB32) (hy : y < WB32) (ho : o < WB32) (hc : c < WB32) : x * y <= 18446744065119617025 /\ (x * y + o + c) / WB32 < WB32:=by
 unfold WB32 at *
 have h1 : x * y <= 4294967295 * 4294967295:=Nat.mul_le_mul (by omega) (by omega)
 omega
theorem lt_set {l : List Nat} {i x : Nat} (h : ∀ d ∈ l,d < WB32) (hx : x < WB32) : ∀ d ∈ l.set i x,d < WB32:=fun d hd => by
 rcases List.mem_or_eq_of_mem_set hd with h1 | h1
 ·exact h d h1
 ·rw [h1]; exact hx
theorem ntimes_any (K : Nat) (u v : Value) (m n : Nat) (w : World) (hu : Bn K w u m) (hv : Bn K w v n) (hK : K <= w.heap.size) (hm30 : m < WB32 ^ 536870912) (hn30 : n < WB32 ^ 536870912) :
  Calls Tryz.prog 96 #[u,v] w fun e w' => ∃ v',e = .returned v' /\ Bn w'.heap.size w' v' (m * n) /\ Below w.heap.size w w' /\ NewV w.heap.size v':=by
 obtain ⟨la,hla,tla,rfl⟩:=hu
 obtain ⟨lb,hlb,tlb,rfl⟩:=hv
 have hlen : ∀ {l : List Nat},Tight l -> bv WB32 l < WB32 ^ 536870912 -> l.length <= 536870912:=fun {l} ht h => by
  by_cases h0 : l = []
  ·rw [h0]; exact Nat.zero_le _
  ·have h1:=tight_low (b:=WB32) ht h0
   have h2:=Nat.lt_of_le_of_lt h1 h
   have h3:=(Nat.pow_lt_pow_iff_right (a:=WB32) (by decide)).1 h2
   omega
 have hpl:=hlen tla hm30
 have hql:=hlen tlb hn30
 clear hlen hm30 hn30 tla tlb
 obtain ⟨ua,uc,rfl,hu1,hu2⟩:=hla.form
 obtain ⟨va,vc,rfl,hv1,hv2⟩:=hlb.form
 unfold maxLen at hu2 hv2
 obtain ⟨p,hp⟩ : ∃ p,la.length = p:=⟨_,rfl⟩
 obtain ⟨q,hq⟩ : ∃ q,lb.length = q:=⟨_,rfl⟩
 have hca:=hla.cells
 have hcb:=hlb.cells
 rw [hp] at hu1 hpl ⊢
 rw [hq] at hv1 hql ⊢
 obtain ⟨T,hT⟩ : ∃ T,w.heap.size = T:=⟨_,rfl⟩
 rw [hT] at hK ⊢
 obtain ⟨r,hr⟩ : ∃ r,p + q = r:=⟨_,rfl⟩
 have hr2 : (p : Int) + (q : Int) = (r : Int):=by omega
 have hr38 : r <= 2 ^ 38:=by omega
 have hmk:=make_words r hr38 w
 rw [hT] at hmk
 obtain ⟨W1,hW1⟩ : ∃ W,w.alloc (.cells (wArr (List.replicate r 0)) 130) = W:=⟨_,rfl⟩
 have b1 : Below T w W1:=by rw [<- hW1,<- hT]; exact (Below.refl _ _).alloc (Nat.le_refl _) _
 have q1 : Blk W1 T (wArr (List.replicate r 0)) 130:=by rw [<- hW1,<- hT]; exact Blk.new w _ _
 have s1 : W1.heap.size = T + 1:=by rw [<- hW1,<- hT]; simp
 have HP:=Lib.hid hp
 have HQ:=Lib.hid hq
 have HT:=Lib.hid hT
 have HR:=Lib.hid hr
 have HCA:=Lib.hid hca
 have HCB:=Lib.hid hcb
 have HW1:=Lib.hid hW1
 have HB1:=Lib.hid b1
 have HQ1:=Lib.hid q1
 have S1:=Lib.hid s1
 clear hla hlb hp hq hT hca hcb hW1 b1 q1 s1
 go_enter Tryz.func96,Tryz.ntmps96
 go_upto_region 2 with fail
 try simp only [HT.out]
 rw [HW1.out]
 go_wp2_with fail
 go_loopw [20] (fun iv wr => ∃ (i : Nat) (X : List Nat),i <= p /\ iv = .int .i64 i /\ Hid (X.length = r) /\ Hid (∀ d ∈ X,d < WB32) /\ Hid (∀ k,i + q <= k -> k < r -> X[k]? = some 0) /\ Hid (bv WB32 X = bv WB32 (la.take i) * bv WB32 lb) /\ Hid (Blk wr T (wArr X) 130) /\ Hid (Below T w wr) /\ Hid (wr.heap.size = T + 1)) (fun iv _ => p - (intOf iv).toNat)
 case atStart =>
  refine ⟨0,List.replicate r 0,Nat.zero_le _,rfl,Lib.hid (by simp),Lib.hid (fun d hd => by rw [List.eq_of_mem_replicate hd]; decide),Lib.hid (fun k _ hk => by simp [hk]),Lib.hid (by rw [bv_zeros,List.take_zero,bv,Nat.zero_mul]),HQ1,HB1,S1⟩
 case round =>
  obtain ⟨i,X,hi,rfl,HXL,HXT,HXZ,HXV,HXQ,HXB,HXS⟩:=hrel
  obtain ⟨wo,rfl⟩ : ∃ wo : World,wo = wr:=⟨_,rfl⟩
  by_cases hlt : i < p
  ·obtain ⟨x,hx⟩ : ∃ x,la[i]? = some x:=⟨_,List.getElem?_eq_getElem (by rw [HP.out]; exact hlt)⟩
   obtain ⟨ub,uo,rfl,hub,huc,hx32⟩:=HCA.out i x hx
   have e0 : wo.cell? ⟨ub,uo + i,none⟩ = some (.int .u32 (x : Int)):=(HXB.out.cell (p:=⟨ub,uo + i,none⟩) (show ub < T by omega)).trans huc
   have HX:=Lib.hid hx
   clear huc hx
   go_upto_region 6 with fail
   go_wp2_with fail
   go_loopw [8,27] (fun cv jv wr => ∃ (j c : Nat) (Y : List Nat),j <= q /\ jv = .int .i64 j /\ cv = .int .u64 c /\ c < WB32 /\ Hid (Y.length = r) /\ Hid (∀ d ∈ Y,d < WB32) /\ Hid (∀ k,i + q <= k -> k < r -> Y[k]? = some 0) /\ Hid (bv WB32 Y + WB32 ^ (i + j) * c = bv WB32 (la.take i) * bv WB32 lb + WB32 ^ i * (x * bv WB32 (lb.take j))) /\ Hid (Blk wr T (wArr Y) 130) /\ Hid (Below T w wr) /\ Hid (wr.heap.size = T + 1)) (fun _ jv _ => q - (intOf jv).toNat)
   case atStart => exact ⟨0,0,X,Nat.zero_le _,rfl,rfl,by decide,HXL,HXT,HXZ,Lib.hid (by rw [List.take_zero,bv]; simp [HXV.out]),HXQ,HXB,HXS⟩
   case round =>
    obtain ⟨j,c,Y,hj,rfl,rfl,hc32,HYL,HYT,HYZ,HYV,HYQ,HYB,HYS⟩:=hrel
    obtain ⟨wq,rfl⟩ : ∃ wq : World,wq = wr:=⟨_,rfl⟩
    clear HXL HXT HXZ HXV HXQ HXB HXS e0
    by_cases hjq : j < q
    ·obtain ⟨y,hy⟩ : ∃ y,lb[j]? = some y:=⟨_,List.getElem?_eq_getElem (by rw [HQ.out]; exact hjq)⟩
     obtain ⟨vb,vo,rfl,hvb,hvc,hy32⟩:=HCB.out j y hy
     have e0 : wq.cell? ⟨vb,vo + j,none⟩ = some (.int .u32 (y : Int)):=(HYB.out.cell (p:=⟨vb,vo + j,none⟩) (show vb < T by omega)).trans hvc
     obtain ⟨k,hk⟩ : ∃ k,i + j = k:=⟨_,rfl⟩
     have hk2 : (i : Int) + (j : Int) = (k : Int):=by omega
     have hkr : k < r:=by have := HR.out; omega
     obtain ⟨old,ho⟩ : ∃ old,Y[k]? = some old:=⟨_,List.getElem?_eq_getElem (by rw [HYL.out]; exact hkr)⟩
     have ho32:=HYT.out old (List.mem_of_getElem? ho)
     have e1 : wq.cell? ⟨T,k,none⟩ = some (.int .u32 (old : Int)):=HYQ.out.at (wArr_at ho)
     have f1 : wq.frozen? ⟨T,k,none⟩ = false:=HYQ.out.free k
     obtain ⟨hm1,hm2⟩:=mul_cell hx32 hy32 ho32 hc32
     obtain ⟨P,hP⟩ : ∃ P,x * y = P:=⟨_,rfl⟩
     have hP2 : (x : Int) * (y : Int) = (P : Int):=by rw [<- hP]; simp
     rw [hP] at hm1 hm2
     obtain ⟨s1,hs1⟩ : ∃ s1,P + old = s1:=⟨_,rfl⟩
     have hs1i : (P : Int) + (old : Int) = (s1 : Int):=by omega
     obtain ⟨s,hs⟩ : ∃ s,s1 + c = s:=⟨_,rfl⟩
     have hsi : (s1 : Int) + (c : Int) = (s : Int):=by omega
     rw [hs1,hs] at hm2
     obtain ⟨d,hd⟩ : ∃ d,s % WB32 = d:=⟨_,rfl⟩
     obtain ⟨g,hg⟩ : ∃ g,s / WB32 = g:=⟨_,rfl⟩
     rw [hg] at hm2
     have HY:=Lib.hid hy
     have HO:=Lib.hid ho
     have HPP:=Lib.hid hP
     have HS1:=Lib.hid hs1
     have HS:=Lib.hid hs
     have HD:=Lib.hid hd
     have HG:=Lib.hid hg
     have HKK:=Lib.hid hk
     unfold WB32 at hx32 hy32 ho32 hc32 hm2 hd hg
     have hwP : IntKind.u64.wrap (P : Int) = P:=wu64 (by omega)
     have hw1 : IntKind.u64.wrap (s1 : Int) = s1:=wu64 (by omega)
     have hw2 : IntKind.u64.wrap (s : Int) = s:=wu64 (by omega)
     have hwd : IntKind.u32.wrap (s : Int) = (d : Int):=by simp [IntKind.wrap,IntKind.bits,IntKind.signed]; omega
     have hsg : (s : Int) / 4294967296 = (g : Int):=by omega
     have hwx : IntKind.u64.wrap (x : Int) = x:=wu64 (by omega)
     have hwy : IntKind.u64.wrap (y : Int) = y:=wu64 (by omega)
     have hwo : IntKind.u64.wrap (old : Int) = old:=wu64 (by omega)
     have hwk : IntKind.i64.wrap (k : Int) = k:=wi64 (by omega) (by omega)
     clear hvc hy hk ho hP hs1 hs hd hg
     have hq2 : Blk (wq.setCell ⟨T,k,none⟩ (.int .u32 (d : Int))) T (wArr (Y.set k d)) 130:=by rw [<- wArr_set]; exact HYQ.out.set _
     have HQ2:=Lib.hid hq2
     have HB2:=Lib.hid (HYB.out.setCell (p:=⟨T,k,none⟩) (Nat.le_refl _) (.int .u32 (d : Int)))
     have HS2 : Hid ((wq.setCell ⟨T,k,none⟩ (.int .u32 (d : Int))).heap.size = T + 1):=Lib.hid (by simp [World.setCell]; exact HYS.out)
     have HV2 : Hid (bv WB32 (Y.set k d) + WB32 ^ (i + (j + 1)) * g = bv WB32 (la.take i) * bv WB32 lb + WB32 ^ i * (x * bv WB32 (lb.take (j + 1)))):=Lib.hid (by
      have h0:=HYV.out
      rw [HKK.out] at h0
      have := mul_step (x:=x) (y:=y) (s:=s) HO.out h0 (by rw [HPP.out,HS1.out,HS.out])
      rw [HD.out,HG.out] at this
      rw [show i + (j + 1) = k + 1 by have := HKK.out; omega,this,bv_take_succ HY.out,<- HKK.out,Nat.pow_add,Nat.mul_add x,Nat.mul_add,Nat.add_assoc]
      congr 2
      rw [Nat.mul_assoc,Nat.mul_left_comm x])
     clear hq2
     go_wp2_with fail
     exact ⟨⟨j + 1,g,Y.set k d,by omega,by go_num,rfl,hm2,Lib.hid (by rw [List.length_set]; exact HYL.out),Lib.hid (lt_set HYT.out (by rw [<- HD.out]; exact Nat.mod_lt _ (by decide))),Lib.hid (fun k2 h1 h2 => by rw [List.getElem?_set_ne (by have := HKK.out; omega)]; exact HYZ.out k2 h1 h2),HV2,HQ2,HB2,HS2⟩,by simp [intOf]; omega⟩
    ·obtain rfl : q = j:=by omega
     obtain ⟨k,hk⟩ : ∃ k,i + q = k:=⟨_,rfl⟩
     have hk2 : (i : Int) + (q : Int) = (k : Int):=by omega
     have hkr : k < r:=by have := HR.out; omega
     have ho:=HYZ.out k (by omega) hkr
     have e1 : wq.cell? ⟨T,k,none⟩ = some (.int .u32 ((0 : Nat) : Int)):=HYQ.out.at (wArr_at ho)
     have f1 : wq.frozen? ⟨T,k,none⟩ = false:=HYQ.out.free k
     have hc2 : c < 4294967296:=hc32
     have hwc : IntKind.u32.wrap (c : Int) = c:=wu32 hc2
     have hwk : IntKind.i64.wrap (k : Int) = k:=wi64 (by omega) (by omega)
     have hq2 : Blk (wq.setCell ⟨T,k,none⟩ (.int .u32 (c : Int))) T (wArr (Y.set k c)) 130:=by rw [<- wArr_set]; exact HYQ.out.set _
     have HQ2:=Lib.hid hq2
     have HB2:=Lib.hid (HYB.out.setCell (p:=⟨T,k,none⟩) (Nat.le_refl _) (.int .u32 (c : Int)))
     have HS2 : Hid ((wq.setCell ⟨T,k,none⟩ (.int .u32 (c : Int))).heap.size = T + 1):=Lib.hid (by simp [World.setCell]; exact HYS.out)
     have HV2 : Hid (bv WB32 (Y.set k c) = bv WB32 (la.take (i + 1)) * bv WB32 lb):=Lib.hid (by
      have h0:=HYV.out
      have h1:=bv_set (b:=WB32) (y:=c) ho
      rw [Nat.mul_zero,Nat.add_zero] at h1
      rw [hk,List.take_of_length_le (l:=lb) (by rw [HQ.out]; exact Nat.le_refl _)] at h0
      rw [h1,h0,bv_take_succ HX.out,Nat.add_mul,Nat.mul_assoc])
     have HKK:=Lib.hid hk
     clear hq2 ho hk
     go_wp2_with fail
     exact ⟨⟨i + 1,Y.set k c,by omega,by go_num,Lib.hid (by rw [List.length_set]; exact HYL.out),Lib.hid (lt_set HYT.out hc32),Lib.hid (fun k2 h1 h2 => by rw [List.getElem?_set_ne (by have := HKK.out; omega)]; exact HYZ.out k2 (by omega) h2),HV2,HQ2,HB2,HS2⟩,by simp [intOf]; omega⟩
  ·obtain rfl : p = i:=by omega
   have hws:=ws_blk (K:=wo.heap.size) HXQ.out (by rw [HXS.out]; omega) (by rw [HXL.out]; unfold maxLen; omega) HXT.out
   have ht:=ntrim_bn wo.heap.size _ X wo hws
   rw [HXL.out,HXV.out,List.take_of_length_le (by rw [HP.out]; exact Nat.le_refl _)] at ht
   have HTR:=Lib.hid ht
   clear hws ht
   go_wp2_with fail
   refine HTR.out.mono ?_
   clear HTR
   rintro e w9 ⟨a9,n9,c9,k9,he,rfl,hbn,rfl⟩
   simp only [Value.slice.injEq] at he
   obtain ⟨rfl,rfl,rfl⟩:=he
   have HBN:=Lib.hid hbn
   clear hbn
   go_wp2_with fail
   go_ret
   exact ⟨_,rfl,HBN.out,HXB.out,NewV.at (Nat.le_refl _)⟩
theorem top_bit {n : Nat} (h : n < 4294967296) : n / 2147483648 = if n.testBit 31 then 1 else 0:=by
 rw [Nat.testBit_eq_decide_div_mod_eq]
 have h1 : n / 2 ^ 31 < 2:=by omega
 have h2 : n / 2 ^ 31 % 2 = n / 2 ^ 31:=Nat.mod_eq_of_lt h1
 rw [h2]
 show n / 2 ^ 31 = _
 by_cases h3 : n / 2 ^ 31 = 1
 ·rw [h3]; rfl
 ·rw [if_neg (by simpa using h3)]; omega
theorem bit31 {n : Nat} (h : n < 4294967296) : n.testBit 31 = decide (2147483648 <= n):=by
 have h1:=top_bit h
 by_cases h2 : n.testBit 31 = true
 ·rw [if_pos h2] at h1
  rw [h2]; symm; exact decide_eq_true (by omega)
 ·rw [if_neg h2] at h1
  rw [Bool.not_eq_true] at h2
  rw [h2]; symm; exact decide_eq_false (by omega)
theorem borrow_bit {x y c d : Nat} (hx : x < 4294967296) (hy : y < 4294967296) (hc : c <= 1) (hd : d = (x + 4294967296 - y - c) % 4294967296) :
  (((4294967295 ^^^ x) &&& y) ||| ((4294967295 ^^^ (x ^^^ y)) &&& d)) / 2147483648 = if x < y + c then 1 else 0:=by
 have hd2 : d < 4294967296:=by omega
 have hn : (((4294967295 ^^^ x) &&& y) ||| ((4294967295 ^^^ (x ^^^ y)) &&& d)) < 4294967296:=Nat.or_lt_two_pow (n:=32) (Nat.and_lt_two_pow _ hy) (Nat.and_lt_two_pow _ hd2)
 rw [top_bit hn]
 have h31 : (4294967295 : Nat).testBit 31 = true:=by decide
 simp only [Nat.testBit_or,Nat.testBit_and,Nat.testBit_xor,h31,bit31 hx,bit31 hy,bit31 hd2]
 by_cases h1 : 2147483648 <= x <;> by_cases h2 : 2147483648 <= y <;> by_cases h3 : 2147483648 <= d <;> simp [h1,h2,h3] <;> omega
theorem sub32_any (x y c : Nat) (hx : x < WB32) (hy : y < WB32) (hc : c <= 1) (w : World) :
  Calls Tryz.prog 114 #[.int .u32 x,.int .u32 y,.int .u32 c] w fun e w' => ∃ d b : Nat,e = .returned (.tuple #[.int .u32 d,.int .u32 b]) /\ d < WB32 /\ b <= 1 /\ d + y + c = x + WB32 * b /\ w = w':=by
 unfold WB32 at *
 obtain ⟨d,hd⟩ : ∃ d,(x + 4294967296 - y - c) % 4294967296 = d:=⟨_,rfl⟩
 have hdi : ((x : Int) - (y : Int) - (c : Int)) % 4294967296 = (d : Int):=by omega
 obtain ⟨nx,hnx⟩ : ∃ n,4294967295 ^^^ x = n:=⟨_,rfl⟩
 obtain ⟨xy,hxy⟩ : ∃ n,x ^^^ y = n:=⟨_,rfl⟩
 obtain ⟨nxy,hnxy⟩ : ∃ n,4294967295 ^^^ xy = n:=⟨_,rfl⟩
 obtain ⟨a1,ha1⟩ : ∃ n,nx &&& y = n:=⟨_,rfl⟩
 obtain ⟨a2,ha2⟩ : ∃ n,nxy &&& d = n:=⟨_,rfl⟩
 obtain ⟨o,ho⟩ : ∃ n,a1 ||| a2 = n:=⟨_,rfl⟩
 have lxy : xy < 4294967296:=by rw [<- hxy]; exact Nat.xor_lt_two_pow (n:=32) hx hy
 have lnx : nx < 4294967296:=by rw [<- hnx]; exact Nat.xor_lt_two_pow (n:=32) (by decide) hx
 have lnxy : nxy < 4294967296:=by rw [<- hnxy]; exact Nat.xor_lt_two_pow (n:=32) (by decide) lxy
 have ld : d < 4294967296:=by omega
 have la1 : a1 < 4294967296:=by rw [<- ha1]; exact Nat.and_lt_two_pow (n:=32) _ hy
 have la2 : a2 < 4294967296:=by rw [<- ha2]; exact Nat.and_lt_two_pow (n:=32) _ ld
 have hbb:=borrow_bit hx hy hc hd.symm
 rw [hnx,hxy,hnxy,ha1,ha2,ho] at hbb
 obtain ⟨b,hb⟩ : ∃ b,(if x < y + c then 1 else 0 : Nat) = b:=⟨_,rfl⟩
 rw [hb] at hbb
 have hob : (o : Int) / 2147483648 = (b : Int):=by omega
 have hfin : d + y + c = x + 4294967296 * b /\ b <= 1:=by
  rw [<- hb]
  split <;> omega
 have k1 : bits BinOp.xor IntKind.u32 IntKind.u32.max (x : Int) = (nx : Int):=by rw [<- hnx]; exact u32_xor_nat 4294967295 x (by decide) hx
 have k2 : bits BinOp.and IntKind.u32 (nx : Int) (y : Int) = (a1 : Int):=by rw [<- ha1]; exact u32_and_nat nx y lnx hy
 have k3 : bits BinOp.xor IntKind.u32 (x : Int) (y : Int) = (xy : Int):=by rw [<- hxy]; exact u32_xor_nat x y hx hy
 have k4 : bits BinOp.xor IntKind.u32 IntKind.u32.max (xy : Int) = (nxy : Int):=by rw [<- hnxy]; exact u32_xor_nat 4294967295 xy (by decide) lxy
 have k5 : bits BinOp.and IntKind.u32 (nxy : Int) (d : Int) = (a2 : Int):=by rw [<- ha2]; exact u32_and_nat nxy d lnxy ld
 have k6 : bits BinOp.or IntKind.u32 (a1 : Int) (a2 : Int) = (o : Int):=by rw [<- ho]; exact u32_or_nat a1 a2 la1 la2
 have HF:=Lib.hid hfin
 have HD:=Lib.hid ld
 clear hd hnx hxy hnxy ha1 ha2 ho hbb hb hfin lxy lnx lnxy la1 la2 ld
 go_enter Tryz.func114,Tryz.ntmps114
 go_wp2_with fail
 all_goals go_ret2
 all_goals exact ⟨d,b,rfl,HD.out,HF.out.2,HF.out.1,rfl⟩
theorem add32_any (x y c : Nat) (hx : x < WB32) (hy : y < WB32) (hc : c <= 1) (w : World) :
  Calls Tryz.prog 119 #[.int .u32 x,.int .u32 y,.int .u32 c] w fun e w' => ∃ d b : Nat,e = .returned (.tuple #[.int .u32 d,.int .u32 b]) /\ d < WB32 /\ b <= 1 /\ d + WB32 * b = x + y + c /\ w = w':=by
 unfold WB32 at *
 obtain ⟨s1,hs1⟩ : ∃ s,x + y = s:=⟨_,rfl⟩
 obtain ⟨s,hs⟩ : ∃ s,s1 + c = s:=⟨_,rfl⟩
 have hs1i : (x : Int) + (y : Int) = (s1 : Int):=by omega
 have hsi : (s1 : Int) + (c : Int) = (s : Int):=by omega
 obtain ⟨d,hd⟩ : ∃ d,s % 4294967296 = d:=⟨_,rfl⟩
 obtain ⟨b,hb⟩ : ∃ b,s / 4294967296 = b:=⟨_,rfl⟩
 have hwd : IntKind.u32.wrap (s : Int) = (d : Int):=by simp [IntKind.wrap,IntKind.bits,IntKind.signed]; omega
 have hmd : (s : Int) % 4294967296 = (d : Int):=by omega
 have hbi : (s : Int) / 4294967296 = (b : Int):=by omega
 have hwb : IntKind.u32.wrap (b : Int) = (b : Int):=wu32 (by omega)
 have HF:=Lib.hid (show d < 4294967296 /\ b <= 1 /\ d + 4294967296 * b = x + y + c by omega)
 have l1 : s1 < 18446744073709551616:=by omega
 have l2 : s < 18446744073709551616:=by omega
 clear hs1 hs hd hb
 go_enter Tryz.func119,Tryz.ntmps119
 go_wp2_with fail
 all_goals go_ret2
 all_goals exact ⟨d,b,rfl,HF.out.1,HF.out.2.1,HF.out.2.2,rfl⟩
theorem ndiv32_any (h l d : Nat) (hh : h < d) (hl : l < WB32) (hd : d < WB32) (w : World) :
  Calls Tryz.prog 117 #[.int .u32 h,.int .u32 l,.int .u32 d] w fun e w' => e = .returned (.tuple #[.int .u32 ((h * WB32 + l) / d : Nat),.int .u32 ((h * WB32 + l) % d : Nat)]) /\ ∃ k,w' = w.drewN k:=by
 unfold WB32 at *
 obtain ⟨q,hq⟩ : ∃ q,(h * 4294967296 + l) / d = q:=⟨_,rfl⟩
 obtain ⟨r,hr⟩ : ∃ r,(h * 4294967296 + l) % d = r:=⟨_,rfl⟩
 obtain ⟨n,hn⟩ : ∃ n,h * 4294967296 + l = n:=⟨_,rfl⟩
 rw [hn] at hq hr
 rw [hn,hq,hr]
 have hn64 : n < 18446744073709551616:=by omega
 have hq32 : q < 4294967296:=by
  rw [<- hq]
  refine Nat.div_lt_of_lt_mul ?_
  have : (h + 1) * 4294967296 <= d * 4294967296:=Nat.mul_le_mul_right _ hh
  omega
 have hr32 : r < 4294967296:=by have := Nat.mod_lt n (show 0 < d by omega); omega
 obtain ⟨m,hm⟩ : ∃ m,h * 4294967296 = m:=⟨_,rfl⟩
 have hmi : (h : Int) * 4294967296 = (m : Int):=by omega
 have hor : bits BinOp.or IntKind.u64 (m : Int) (l : Int) = (n : Int):=by
  rw [u64_or_nat m l (by omega) (by omega)]
  have := Nat.two_pow_add_eq_or_of_lt (i:=32) hl h
  have e : m = 2 ^ 32 * h:=by omega
  rw [e,<- this]; omega
 have hqi : (n : Int).tdiv (d : Int) = (q : Int):=by rw [Int.tdiv_eq_ediv_of_nonneg (by omega),<- hq]; simp
 have hri : (n : Int).tmod (d : Int) = (r : Int):=by rw [Int.tmod_eq_emod_of_nonneg (by omega),<- hr]; simp
 have hqi2 : (n : Int) / (d : Int) = (q : Int):=by rw [<- hq]; simp
 have hri2 : (n : Int) % (d : Int) = (r : Int):=by rw [<- hr]; simp
 have hd0 : ((d : Int) != 0) = true:=by simp; omega
 have hd1 : ((d : Int) == 0) = false:=by simp; omega
 have hdh : decide ((d : Int) <= (h : Int)) = false:=decide_eq_false (by omega)
 have hw1 : IntKind.u64.wrap (h : Int) = h:=wu64 (by omega)
 have hw2 : IntKind.u64.wrap (l : Int) = l:=wu64 (by omega)
 have hw3 : IntKind.u64.wrap (d : Int) = d:=wu64 (by omega)
 have hw4 : IntKind.u64.wrap (m : Int) = m:=wu64 (by omega)
 have hw5 : IntKind.u32.wrap (q : Int) = q:=wu32 hq32
 have hw6 : IntKind.u32.wrap (r : Int) = r:=wu32 hr32
 have hw7 : IntKind.u64.wrap (q : Int) = q:=wu64 (by omega)
 have hw8 : IntKind.u64.wrap (r : Int) = r:=wu64 (by omega)
 have hdz : ¬ ((d : Int) = 0):=by omega
 clear hq hr hn hm
 go_enter Tryz.func117,Tryz.ntmps117
 go_upto_region 4 with fail
 go_quiet (fail)
 go_wp2_with fail
 go_ret2
 exact ⟨rfl,_,rfl⟩
def RowB (w : World) (T : Nat) (X : List Nat) : Prop:=∃ cs,Blk w T cs 130 /\ X.length <= cs.size /\ ∀ i d : Nat,X[i]? = some d -> cs[i]? = some (.int .u32 (d : Int))
section
variable {w w' : World} {T : Nat} {X : List Nat}
theorem RowB.lt (h : RowB w T X) : T < w.heap.size:=by obtain ⟨cs,h1,_⟩:=h; exact h1.lt
theorem RowB.at (h : RowB w T X) {i d : Nat} (hd : X[i]? = some d) : w.cell? ⟨T,i,none⟩ = some (.int .u32 (d : Int)):=by obtain ⟨cs,h1,h2,h3⟩:=h; exact h1.at (h3 i d hd)
theorem RowB.free (h : RowB w T X) (i : Nat) : w.frozen? ⟨T,i,none⟩ = false:=by obtain ⟨cs,h1,h2,h3⟩:=h; exact h1.free i
theorem RowB.below {B : Nat} (h : RowB w T X) (hb : Below B w w') (hT : T < B) : RowB w' T X:=by obtain ⟨cs,h1,h2⟩:=h; exact ⟨cs,h1.below hb hT,h2⟩
theorem RowB.set (h : RowB w T X) (i d : Nat) : RowB (w.setCell ⟨T,i,none⟩ (.int .u32 (d : Int))) T (X.set i d):=by
 obtain ⟨cs,h1,h2,h3⟩:=h
 refine ⟨_,h1.set _,by simpa using h2,fun j e he => ?_⟩
 by_cases hij : i = j
 ·subst hij
  have hi:=(List.getElem?_eq_some_iff.1 he).1
  rw [List.length_set] at hi
  rw [List.getElem?_set_self hi] at he
  cases he
  rw [Array.getElem?_setIfInBounds_self_of_lt (by omega)]
 ·rw [List.getElem?_set_ne hij] at he
  rw [Array.getElem?_setIfInBounds_ne hij]
  exact h3 j e he
theorem RowB.ws {K c : Nat} (h : RowB w T X) (hK : T < K) (hc : X.length <= c) (hm : c <= maxLen) (hlt : ∀ d ∈ X,d < WB32) : Ws K w (.slice (some ⟨T,0,none⟩) X.length c) X :=
 Ws.mk' hc hm hK (fun i d hd => by rw [Nat.zero_add]; exact h.at hd) hlt
theorem rowB_arr (h : Blk w T (wArr X) 130) : RowB w T X:=⟨_,h,by simp [wArr],fun i d hd => wArr_at hd⟩
end
theorem wpList_append_run {w w' : World} {ops : Array Oper} {rest : List Oper} {o : Oper} {a : Act} {Q : Exit -> Act -> World -> Prop} (hgd : o.guard = none) (s x : Operand) (t : TypeId)
  (ho : o.op = .call { callee:=.builtin .append,args:=#[s,x],argTypes:=#[t,t] }) (hty : o.type = t) {v u r : Value} (hs : a.eval s = v) (hx : a.eval x = u)
  (hr : (Builtin.append_ #[t,t] t #[v,u]).run Tryz.prog w = .ok r w') (h : wpList Tryz.prog ops Q rest (a.put o.dst r) w') : wpList Tryz.prog ops Q (o :: rest) a w:=by
 refine wpList_plain hgd fun K' hK' => ?_
 unfold Oper.wp
 simp [execOp,ho,resolve,invoke,builtin,hs,hx,hty,hr,Result.andThen]
 exact hK' _ _ h
structure ClnQ (B : Nat) (w' : World) (l : List Nat) (a : Option Addr) (c : Nat) : Prop where
 len : l.length <= c
 cap : c <= maxLen
 nil : a = none -> c = 0
 new : NewV B (.slice a l.length c)
 row : l ≠ [] -> ∃ T,a = some ⟨T,0,none⟩ /\ B <= T /\ RowB w' T l
theorem eql_nil_words (w : World) (a : Option Addr) (n c : Nat) : (binOp .eql 121 (.slice a n c) (.slice none 0 0)).run Tryz.prog w = .ok (.bool a.isNone) w:=Lib.run_eql_slice_nil w _ _ a n c 0 0 Tryz.underlying121
theorem nclone_any (K : Nat) (v : Value) (l : List Nat) (w : World) (h : Ws K w v l) (hK : K <= w.heap.size) (hl : l.length <= 2 ^ 30) :
  Calls Tryz.prog 108 #[v] w fun e w' => ∃ a c,e = .returned (.slice a l.length c) /\ Below w.heap.size w w' /\ ClnQ w.heap.size w' l a c:=by
 obtain ⟨a,c,rfl,hlc,hcm⟩:=h.form
 unfold maxLen at hcm
 obtain ⟨i0,hi,hz0,hz1,hz2⟩:=info_parts Tryz.infoU32
 by_cases h0 : l = []
 ·subst h0
  simp only [List.length_nil] at hlc h ⊢
  cases a with
  | none =>
   obtain ⟨_,_,_,_,_,hz,_⟩:=h.row
   have he:=eql_nil_words w none 0 0
   go_enter Tryz.func108,Tryz.ntmps108
   go_wp2_with fail
   go_ret
   exact ⟨none,0,rfl,Below.refl _ _,Nat.le_refl _,by simp [maxLen],fun _ => rfl,NewV.nil _ _ _,fun e => absurd rfl e⟩
  | some ad =>
   have happ:=run_append_nothing (P:=Tryz.prog) (w.alloc (.cells #[] 130)) 121 121 121 130 i0 Tryz.underlying121 hi (some ⟨w.heap.size,0,none⟩) 0 0 (Nat.le_refl _) (.slice (some ad) 0 c)
    (Src.ofSlice _ Tryz.underlying121 ad 0 c [] (by simp) (fun j u hj => by simp at hj) (fun u hu => by simp at hu))
   have he:=eql_nil_words w (some ad) 0 c
   go_enter Tryz.func108,Tryz.ntmps108
   go_wp2_with fail
   go_ret
   exact ⟨_,0,rfl,(Below.refl _ _).alloc (Nat.le_refl _) _,Nat.le_refl _,by simp [maxLen],fun e => (by cases e),NewV.at (Nat.le_refl _),fun e => absurd rfl e⟩
 ·have hn0 : 0 < l.length:=List.length_pos_iff.2 h0
  obtain ⟨b,o,cap,he,_,_,hbK,hcl⟩:=h.at hn0
  simp only [Value.slice.injEq,true_and] at he
  obtain ⟨rfl,rfl⟩:=he
  obtain ⟨T,hT⟩ : ∃ T,w.heap.size = T:=⟨_,rfl⟩
  rw [hT] at hK ⊢
  obtain ⟨W1,hW1⟩ : ∃ W,w.alloc (.cells #[] 130) = W:=⟨_,rfl⟩
  have b1 : Below T w W1:=by rw [<- hW1,<- hT]; exact (Below.refl _ _).alloc (Nat.le_refl _) _
  have s1 : W1.heap.size = T + 1:=by rw [<- hW1,<- hT]; simp
  have hsrc : Src Tryz.prog i0.size 121 (.slice (some ⟨b,o,none⟩) l.length c) l.length (l.map fun n : Nat => (.int .u32 (n : Int) : Value)) W1:=by
   refine Src.ofSlice W1 Tryz.underlying121 ⟨b,o,none⟩ l.length c _ (by rw [List.length_map,hz1,Nat.mul_one]) (fun j u hj => ?_) (fun u hu => ?_)
   ·rw [List.getElem?_map] at hj
    obtain ⟨d,hd,rfl⟩:=Option.map_eq_some_iff.1 hj
    have := (b1.cell (p:=⟨b,o + j,none⟩) (show b < T by omega)).trans (hcl j d hd)
    by_cases hj0 : j = 0
    ·subst hj0; simpa [Addr.add] using this
    ·simpa [Addr.add,hj0] using this
   ·obtain ⟨d,_,rfl⟩:=List.mem_map.1 hu
    rfl
  have happ:=run_append_grow_src (P:=Tryz.prog) W1 121 121 121 130 i0 (.int .u32 0) Tryz.underlying121 hi hz0 (some ⟨T,0,none⟩) 0 0 [] (run_firstCells_some W1.drew i0.size 0 ⟨T,0,none⟩ 0 0 [] (by simp) (fun j u hj => by simp at hj)) _ l.length _ hsrc (by omega) (by omega)
   (by rw [hz2]; exact growslice_fits (by omega) (by omega))
  obtain ⟨W2,hW2⟩ : ∃ W,W1.drew.alloc (.cells (([] ++ l.map fun n : Nat => (.int .u32 (n : Int) : Value)).toArray ++ Builtin.zeroCells (Value.int .u32 0).cells (grownCap W1 (0 + l.length) 0 130 - (0 + l.length))) 130) = W:=⟨_,rfl⟩
  have hge:=grownCap_ge W1 (0 + l.length) 0 130
  have hle:=grownCap_le_maxLen W1 (0 + l.length) 0 130 (by unfold maxLen; omega)
  obtain ⟨g,hg⟩ : ∃ g,grownCap W1 (0 + l.length) 0 130 = g:=⟨_,rfl⟩
  rw [hg] at hge hle hW2 happ
  have q2 : Blk W2 (T + 1) (([] ++ l.map fun n : Nat => (.int .u32 (n : Int) : Value)).toArray ++ Builtin.zeroCells (Value.int .u32 0).cells (g - (0 + l.length))) 130:=by
   rw [<- hW2,<- s1]; exact Blk.new W1.drew _ _
  have b2 : Below T w W2:=by
   rw [<- hW2]; exact (below_quiet b1).alloc (show T <= W1.heap.size by omega) _
  rw [hW2,s1,Nat.zero_add] at happ
  have hrow : RowB W2 (T + 1) l:=⟨_,q2,by simp,fun i d hd => by
   have hi:=(List.getElem?_eq_some_iff.1 hd).1
   rw [Array.getElem?_append_left (by simpa using hi)]
   simp [hd]⟩
  obtain ⟨n,hn⟩ : ∃ n,l.length = n:=⟨_,rfl⟩
  rw [hn] at happ hge hlc ⊢
  have HROW:=Lib.hid hrow
  have HB2:=Lib.hid b2
  have HN:=Lib.hid hn
  have HT:=Lib.hid hT
  have HW1:=Lib.hid hW1
  have HGE:=Lib.hid hge
  have HLE:=Lib.hid hle
  clear hsrc hW2 q2 b2 hrow hn hT hW1 b1 s1 hcl hg hge hle h hi hz0 hz1 hz2
  have he:=eql_nil_words w (some ⟨b,o,none⟩) n c
  go_enter Tryz.func108,Tryz.ntmps108
  rw [<- HW1.out,<- HT.out] at happ
  go_wp2_with (at_builtin; refine wpList_append_run rfl (.tmp 5) (.tmp 6) 121 rfl rfl rfl rfl happ ?_)
  go_ret
  exact ⟨_,g,rfl,HB2.out,by have := HGE.out; have := HN.out; omega,HLE.out,fun e => (by cases e),NewV.at (by have := HT.out; omega),fun _ => ⟨T + 1,by rw [<- HT.out],by omega,HROW.out⟩⟩
theorem tight_len {l : List Nat} {k : Nat} (ht : Tight l) (h : bv WB32 l < WB32 ^ k) : l.length <= k:=by
 by_cases h0 : l = []
 ·rw [h0]; exact Nat.zero_le _
 ·have h1:=tight_low (b:=WB32) ht h0
  have h2:=Nat.lt_of_le_of_lt h1 h
  have h3:=(Nat.pow_lt_pow_iff_right (a:=WB32) (by decide)).1 h2
  omega
theorem tight_le {l r : List Nat} (hl : ∀ d ∈ l,d < WB32) (tr : Tight r) (h : bv WB32 r <= bv WB32 l) : r.length <= l.length:=by
 rcases Nat.lt_or_ge l.length r.length with h1 | h1
 ·have := bv_len_lt (b:=WB32) (by decide) hl tr h1
  omega
 ·exact h1
theorem set_take {l : List Nat} {i x : Nat} (hi : i < l.length) : (l.set i x).take (i + 1) = l.take i ++ [x]:=by
 rw [List.take_add_one,List.getElem?_set_self hi,List.take_set_of_le (Nat.le_refl i)]; rfl
theorem take_getD_bv {l : List Nat} {i : Nat} : bv WB32 (l.take (i + 1)) = bv WB32 (l.take i) + WB32 ^ i * (l[i]?.getD 0):=by
 cases h : l[i]? with
 | some x => exact bv_take_succ h
 | none =>
  have hl : l.length <= i:=List.getElem?_eq_none_iff.1 h
  rw [List.take_of_length_le (by omega),List.take_of_length_le hl]; simp
theorem nminus_any (K : Nat) (u v : Value) (m n : Nat) (w : World) (hu : Bn K w u m) (hv : Bn K w v n) (hK : K <= w.heap.size) (hle : n <= m) (hm30 : m < WB32 ^ 1073741824) :
  Calls Tryz.prog 102 #[u,v] w fun e w' => ∃ v',e = .returned v' /\ Bn w'.heap.size w' v' (m - n) /\ Below w.heap.size w w' /\ NewV w.heap.size v':=by
 obtain ⟨la,hla,tla,rfl⟩:=hu
 obtain ⟨lb,hlb,tlb,rfl⟩:=hv
 have hpl:=tight_len tla hm30
 have hqp:=tight_le hla.lt tlb hle
 have hcl:=nclone_any K u la w hla hK hpl
 obtain ⟨ua,uc,rfl,hu1,hu2⟩:=hla.form
 obtain ⟨va,vc,rfl,hv1,hv2⟩:=hlb.form
 unfold maxLen at hu2 hv2
 have hcb:=hlb.cells
 obtain ⟨p,hp⟩ : ∃ p,la.length = p:=⟨_,rfl⟩
 obtain ⟨q,hq⟩ : ∃ q,lb.length = q:=⟨_,rfl⟩
 rw [hp] at hu1 hpl hqp hcl ⊢
 rw [hq] at hv1 hqp ⊢
 obtain ⟨B,hB⟩ : ∃ B,w.heap.size = B:=⟨_,rfl⟩
 rw [hB] at hcl hK ⊢
 obtain ⟨N,hN⟩ : ∃ N,bv WB32 la - bv WB32 lb = N:=⟨_,rfl⟩
 rw [hN]
 have HN:=Lib.hid hN
 have HP:=Lib.hid hp
 have HQ:=Lib.hid hq
 have HCB:=Lib.hid hcb
 have HLE:=Lib.hid hle
 have HLA:=Lib.hid hla.lt
 have HLB:=Lib.hid hlb.lt
 have HCL:=Lib.hid hcl
 clear hla hlb tla tlb hm30 hcl hp hq hcb hle hN
 go_enter Tryz.func102,Tryz.ntmps102
 go_wp2_with fail
 refine HCL.out.mono ?_
 clear HCL
 rintro e w2 ⟨a,c,rfl,hb2,hc⟩
 have hpc:=hc.len
 have hcm:=hc.cap
 rw [HP.out] at hpc
 unfold maxLen at hcm
 have HC:=Lib.hid hc
 have HB2:=Lib.hid hb2
 clear hc hb2
 by_cases hp0 : p = 0
 ·subst hp0
  have hq0 : q = 0:=by omega
  subst hq0
  have e1 : la = []:=List.eq_nil_of_length_eq_zero HP.out
  have hN0 : N = 0:=by rw [<- HN.out,e1]; simp [bv]
  subst hN0
  have ht:=ntrim_bn w2.heap.size (.slice a 0 c) [] w2 (Ws.nil _ _ a c HC.out.cap HC.out.nil)
  have HT:=Lib.hid ht
  clear ht e1
  go_wp2_with fail
  refine wp_loop_rounds 1 ?_
  rw [rounds_succ]
  go_wp2_with fail
  refine HT.out.mono ?_
  rintro e w9 ⟨a9,n9,c9,k9,he,rfl,hbn,rfl⟩
  simp only [Value.slice.injEq] at he
  obtain ⟨rfl,rfl,rfl⟩:=he
  have hk0 : NewV B (.slice a k9 c):=fun b o m c' e => by
   simp only [Value.slice.injEq] at e
   exact HC.out.new b o 0 c (by rw [HP.out,e.1])
  have HBN:=Lib.hid hbn
  have HK0:=Lib.hid hk0
  clear hbn hk0 HT
  go_wp2_with fail
  go_ret
  exact ⟨_,rfl,HBN.out,HB2.out,HK0.out⟩
 ·obtain ⟨T,rfl,hTB,hrow⟩:=HC.out.row (fun e => hp0 (by rw [<- HP.out,e]; rfl))
  have HROW:=Lib.hid hrow
  clear hrow
  go_wp2_with fail
  go_loopw [6,13] (fun cv iv wr => ∃ (i b : Nat) (X : List Nat),i <= p /\ iv = .int .i64 i /\ cv = .int .u32 b /\ b <= 1 /\ Hid (X.length = p) /\ Hid (∀ d ∈ X,d < WB32) /\ Hid (∀ k,i <= k -> X[k]? = la[k]?) /\ Hid (bv WB32 (X.take i) + bv WB32 (lb.take i) = bv WB32 (la.take i) + WB32 ^ i * b) /\ Hid (RowB wr T X) /\ Hid (Below B w wr)) (fun _ iv _ => p - (intOf iv).toNat)
  case atStart => exact ⟨0,0,la,Nat.zero_le _,rfl,rfl,by omega,HP,HLA,Lib.hid (fun _ _ => rfl),Lib.hid (by simp [bv]),HROW,HB2⟩
  case round =>
   obtain ⟨i,b,X,hi,rfl,rfl,hb1,HXL,HXT,HXK,HXV,HXR,HXB⟩:=hrel
   obtain ⟨wo,rfl⟩ : ∃ wo : World,wo = wr:=⟨_,rfl⟩
   by_cases hlt : i < p
   ·obtain ⟨x,hx⟩ : ∃ x,la[i]? = some x:=⟨_,List.getElem?_eq_getElem (by rw [HP.out]; exact hlt)⟩
    have hxX : X[i]? = some x:=by rw [HXK.out i (Nat.le_refl _)]; exact hx
    have hx32:=HLA.out x (List.mem_of_getElem? hx)
    have e0 : wo.cell? ⟨T,i,none⟩ = some (.int .u32 (x : Int)):=HXR.out.at hxX
    have f0 : wo.frozen? ⟨T,i,none⟩ = false:=HXR.out.free i
    have HX:=Lib.hid hx
    clear hx hxX
    have HFIN : Hid (∀ (d b' y : Nat),lb[i]?.getD 0 = y -> d < WB32 -> d + y + b = x + WB32 * b' -> (X.set i d).length = p /\ (∀ d' ∈ X.set i d,d' < WB32) /\ (∀ k,i + 1 <= k -> (X.set i d)[k]? = la[k]?) /\ (bv WB32 ((X.set i d).take (i + 1)) + bv WB32 (lb.take (i + 1)) = bv WB32 (la.take (i + 1)) + WB32 ^ (i + 1) * b') /\ RowB (wo.setCell ⟨T,i,none⟩ (.int .u32 (d : Int))) T (X.set i d) /\ Below B w (wo.setCell ⟨T,i,none⟩ (.int .u32 (d : Int)))):=Lib.hid fun d b' y hy hd hs => by
     refine ⟨by rw [List.length_set]; exact HXL.out,lt_set HXT.out hd,fun k hk => ?_,?_,HXR.out.set i d,HXB.out.setCell (p:=⟨T,i,none⟩) hTB _⟩
     ·rw [List.getElem?_set_ne (by omega)]; exact HXK.out k (by omega)
     ·rw [set_take (by rw [HXL.out]; exact hlt),bv_take_succ HX.out,take_getD_bv,hy]
      exact sub_step (by rw [List.length_take,HXL.out]; omega) HXV.out hs
    by_cases hiq : i < q
    ·obtain ⟨y,hy⟩ : ∃ y,lb[i]? = some y:=⟨_,List.getElem?_eq_getElem (by rw [HQ.out]; exact hiq)⟩
     obtain ⟨vb,vo,rfl,hvb,hvc,hy32⟩:=HCB.out i y hy
     have e1 : wo.cell? ⟨vb,vo + i,none⟩ = some (.int .u32 (y : Int)):=(HXB.out.cell (p:=⟨vb,vo + i,none⟩) (show vb < B by omega)).trans hvc
     have hs:=sub32_any x y b hx32 hy32 hb1 wo
     have HS:=Lib.hid hs
     have HY:=Lib.hid hy
     clear hs hvc hy
     go_wp2_with fail
     refine HS.out.mono ?_
     clear HS
     rintro e w3 ⟨d,b',rfl,hd,hb',hsum,rfl⟩
     obtain ⟨h1,h2,h3,h4,h5,h6⟩:=HFIN.out d b' y (by rw [HY.out]; rfl) hd hsum
     have H1:=Lib.hid h1
     have H2:=Lib.hid h2
     have H3:=Lib.hid h3
     have H4:=Lib.hid h4
     have H5:=Lib.hid h5
     have H6:=Lib.hid h6
     clear h1 h2 h3 h4 h5 h6 hsum
     go_wp2_with fail
     exact ⟨⟨i + 1,b',X.set i d,by omega,by go_num,rfl,hb',H1,H2,H3,H4,H5,H6⟩,by simp [intOf]; omega⟩
    ·have hs:=sub32_any x 0 b hx32 (by decide) hb1 wo
     have HS:=Lib.hid hs
     have hn : lb[i]?.getD 0 = 0:=by rw [List.getElem?_eq_none (by rw [HQ.out]; omega)]; rfl
     have HNN:=Lib.hid hn
     clear hs hn
     go_wp2_with fail
     refine HS.out.mono ?_
     clear HS
     rintro e w3 ⟨d,b',rfl,hd,hb',hsum,rfl⟩
     obtain ⟨h1,h2,h3,h4,h5,h6⟩:=HFIN.out d b' 0 HNN.out hd hsum
     have H1:=Lib.hid h1
     have H2:=Lib.hid h2
     have H3:=Lib.hid h3
     have H4:=Lib.hid h4
     have H5:=Lib.hid h5
     have H6:=Lib.hid h6
     clear h1 h2 h3 h4 h5 h6 hsum
     go_wp2_with fail
     exact ⟨⟨i + 1,b',X.set i d,by omega,by go_num,rfl,hb',H1,H2,H3,H4,H5,H6⟩,by simp [intOf]; omega⟩
   ·obtain rfl : p = i:=by omega
    have hXv : bv WB32 X = N:=by
     have h0:=HXV.out
     rw [List.take_of_length_le (by rw [HXL.out]; exact Nat.le_refl _),List.take_of_length_le (by rw [HQ.out]; exact hqp),List.take_of_length_le (by rw [HP.out]; exact Nat.le_refl _)] at h0
     have h1:=bv_lt X HXT.out
     rw [HXL.out] at h1
     have h2:=HLE.out
     have hb0 : b = 0:=by
      rcases Nat.eq_zero_or_pos b with h | h
      ·exact h
      ·obtain rfl : b = 1:=by omega
       rw [Nat.mul_one] at h0
       omega
     subst hb0
     rw [<- HN.out]; omega
    have hws:=HXR.out.ws (K:=wo.heap.size) (c:=c) HXR.out.lt (by rw [HXL.out]; exact hpc) HC.out.cap HXT.out
    have ht:=ntrim_bn wo.heap.size _ X wo hws
    rw [HXL.out,hXv] at ht
    have HT:=Lib.hid ht
    clear hws ht hXv
    go_wp2_with fail
    refine HT.out.mono ?_
    clear HT
    rintro e w9 ⟨a9,n9,c9,k9,he,rfl,hbn,rfl⟩
    simp only [Value.slice.injEq] at he
    obtain ⟨rfl,rfl,rfl⟩:=he
    have HBN:=Lib.hid hbn
    clear hbn
    go_wp2_with fail
    go_ret
    exact ⟨_,rfl,HBN.out,HXB.out,NewV.at hTB⟩
end Go.Proofs.YtlldjmagbjjeoaaGreat
