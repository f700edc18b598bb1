/- Contracts and plain laws, several texts in one (NWord, NW1, GNum2). No conditions beyond those stated. -/
import Derived.Test.YtlldjmagbjjeoaaGreatPk1
set_option maxRecDepth 100000
set_option maxHeartbeats 40000000
namespace Go.Proofs.YtlldjmagbjjeoaaGreat
set_option linter.unusedVariables false
def bv (b : Nat) : List Nat -> Nat
 | [] => 0
 | x :: r => x + b * bv b r
section
variable {b : Nat}
theorem bv_append : ∀ (l r : List Nat),bv b (l ++ r) = bv b l + b ^ l.length * bv b r
 | [],r => by simp [bv]
 | x :: l,r => by
  rw [List.cons_append,bv,bv,bv_append l r,List.length_cons,Nat.pow_succ,Nat.mul_add,Nat.mul_comm (b ^ l.length) b,Nat.mul_assoc]
  omega
theorem bv_snoc (l : List Nat) (x : Nat) : bv b (l ++ [x]) = bv b l + b ^ l.length * x:=by rw [bv_append]; simp [bv]
theorem bv_lt : ∀ (l : List Nat),(∀ x ∈ l,x < b) -> bv b l < b ^ l.length
 | [],_ => by simp [bv]
 | x :: l,h => by
  have h1:=bv_lt l fun y hy => h y (List.mem_cons_of_mem _ hy)
  have h2:=h x (List.mem_cons_self ..)
  rw [bv,List.length_cons,Nat.pow_succ,Nat.mul_comm _ b]
  have h3 : b * (bv b l + 1) <= b * b ^ l.length:=Nat.mul_le_mul_left _ h1
  rw [Nat.mul_add,Nat.mul_one] at h3
  omega
theorem bv_take_succ {l : List Nat} {i x : Nat} (h : l[i]? = some x) : bv b (l.take (i + 1)) = bv b (l.take i) + b ^ i * x:=by
 have hi:=(List.getElem?_eq_some_iff.1 h).1
 have : l.take (i + 1) = l.take i ++ [x]:=by rw [List.take_add_one,h]; rfl
 rw [this,bv_snoc,List.length_take,Nat.min_eq_left (by omega)]
theorem bv_drop {l : List Nat} {i x : Nat} (h : l[i]? = some x) : bv b (l.drop i) = x + b * bv b (l.drop (i + 1)):=by
 obtain ⟨hi,rfl⟩:=List.getElem?_eq_some_iff.1 h
 rw [List.drop_eq_getElem_cons hi,bv]
theorem bv_split (l : List Nat) (i : Nat) (hi : i <= l.length) : bv b l = bv b (l.take i) + b ^ i * bv b (l.drop i):=by
 have := bv_append (b:=b) (l.take i) (l.drop i)
 rw [List.take_append_drop,List.length_take,Nat.min_eq_left hi] at this
 exact this
theorem bv_zeros : ∀ n : Nat,bv b (List.replicate n 0) = 0
 | 0 => rfl
 | n + 1 => by rw [List.replicate_succ,bv,bv_zeros n]; simp
theorem bv_set {l : List Nat} {i x y : Nat} (h : l[i]? = some x) : bv b (l.set i y) + b ^ i * x = bv b l + b ^ i * y:=by
 induction l generalizing i with
 | nil => cases h
 | cons a l ih =>
  cases i with
  | zero =>
   cases h
   simp [bv]
   omega
  | succ i =>
   have := ih (i:=i) h
   rw [List.set_cons_succ,bv,bv,Nat.pow_succ]
   have h2 : b * (bv b (l.set i y) + b ^ i * x) = b * (bv b l + b ^ i * y):=by rw [this]
   rw [Nat.mul_add,Nat.mul_add,<- Nat.mul_assoc,<- Nat.mul_assoc,Nat.mul_comm b (b ^ i)] at h2
   omega
def Tight (l : List Nat) : Prop:=l = [] \/ l.getLast?.getD 0 ≠ 0
theorem tight_low {l : List Nat} (h : Tight l) (h0 : l ≠ []) : b ^ (l.length - 1) <= bv b l:=by
 obtain ⟨r,x,rfl⟩ : ∃ r x,l = r ++ [x]:=⟨l.dropLast,l.getLast h0,(List.dropLast_concat_getLast h0).symm⟩
 have hx : x ≠ 0:=by
  rcases h with h | h
  ·exact absurd h h0
  ·simpa using h
 rw [bv_snoc,List.length_append]
 simp only [List.length_cons,List.length_nil,Nat.zero_add,Nat.add_sub_cancel]
 have : b ^ r.length * 1 <= b ^ r.length * x:=Nat.mul_le_mul_left _ (by omega)
 omega
theorem bv_len_lt {l r : List Nat} (hb : 1 < b) (hl : ∀ x ∈ l,x < b) (hr : Tight r) (h : l.length < r.length) : bv b l < bv b r:=by
 have h1:=bv_lt l hl
 have h2:=tight_low (b:=b) hr (by intro e; rw [e] at h; simp at h)
 have h3 : b ^ l.length <= b ^ (r.length - 1):=Nat.pow_le_pow_right (by omega) (by omega)
 omega
theorem bv_top_lt {l r : List Nat} (hl : ∀ x ∈ l,x < b) (hlen : l.length = r.length) {i x y : Nat} (hx : l[i]? = some x) (hy : r[i]? = some y) (hlt : x < y) (hs : l.drop (i + 1) = r.drop (i + 1)) : bv b l < bv b r:=by
 have hi:=(List.getElem?_eq_some_iff.1 hx).1
 rw [bv_split l i (by omega),bv_split r i (by omega),bv_drop hx,bv_drop hy,hs]
 have h1 : bv b (l.take i) < b ^ i:=by
  have := bv_lt (l.take i) fun x hx => hl x (List.mem_of_mem_take hx)
  rwa [List.length_take,Nat.min_eq_left (by omega)] at this
 have h2 : b ^ i * (x + b * bv b (r.drop (i + 1)) + 1) <= b ^ i * (y + b * bv b (r.drop (i + 1))):=Nat.mul_le_mul_left _ (by omega)
 rw [Nat.mul_add,Nat.mul_one] at h2
 omega
theorem bv_inj : ∀ {l r : List Nat},(∀ x ∈ l,x < b) -> (∀ x ∈ r,x < b) -> l.length = r.length -> bv b l = bv b r -> l = r
 | [],[],_,_,_,_ => rfl
 | [],_ :: _,_,_,h,_ => by cases h
 | _ :: _,[],_,_,h,_ => by cases h
 | x :: l,y :: r,hl,hr,hlen,h => by
  have h1:=hl x (List.mem_cons_self ..)
  have h2:=hr y (List.mem_cons_self ..)
  rw [bv,bv] at h
  have e1 : (x + b * bv b l) % b = x:=by rw [Nat.add_mul_mod_self_left,Nat.mod_eq_of_lt h1]
  have e2 : (y + b * bv b r) % b = y:=by rw [Nat.add_mul_mod_self_left,Nat.mod_eq_of_lt h2]
  have e : x = y:=by rw [<- e1,<- e2,h]
  subst e
  have e3 : bv b l = bv b r:=by
   have : b * bv b l = b * bv b r:=by omega
   exact Nat.eq_of_mul_eq_mul_left (by omega) this
  rw [bv_inj (fun z hz => hl z (List.mem_cons_of_mem _ hz)) (fun z hz => hr z (List.mem_cons_of_mem _ hz)) (by simpa using hlen) e3]
theorem tight_inj {l r : List Nat} (hb : 1 < b) (hl : ∀ x ∈ l,x < b) (hr : ∀ x ∈ r,x < b) (tl : Tight l) (tr : Tight r) (h : bv b l = bv b r) : l = r:=by
 refine bv_inj hl hr ?_ h
 rcases Nat.lt_trichotomy l.length r.length with h1 | h1 | h1
 ·have := bv_len_lt hb hl tr h1; omega
 ·exact h1
 ·have := bv_len_lt hb hr tl h1; omega
theorem bv_zero_iff {l : List Nat} (hb : 1 < b) (tl : Tight l) : bv b l = 0 ↔ l = []:=by
 constructor
 ·intro h
  by_cases h0 : l = []
  ·exact h0
  ·have := tight_low (b:=b) tl h0
   have h2 : 0 < b ^ (l.length - 1):=Nat.pow_pos (by omega)
   omega
 ·rintro rfl; rfl
theorem add_step {l : List Nat} {c A B x y s i : Nat} (hi : l.length = i) (h : bv b l + b ^ i * c = A + B) (hs : s = x + y + c) : bv b (l ++ [s % b]) + b ^ (i + 1) * (s / b) = (A + b ^ i * x) + (B + b ^ i * y):=by
 rw [bv_snoc,hi,Nat.pow_succ,Nat.mul_assoc]
 have h1 : b ^ i * (s % b) + b ^ i * (b * (s / b)) = b ^ i * s:=by rw [<- Nat.mul_add,Nat.mod_add_div]
 have h2 : b ^ i * s = b ^ i * x + b ^ i * y + b ^ i * c:=by rw [hs,Nat.mul_add,Nat.mul_add]
 omega
theorem sub_step {l : List Nat} {c c' A B x y d i : Nat} (hi : l.length = i) (h : bv b l + B = A + b ^ i * c) (hd : d + y + c = x + b * c') : bv b (l ++ [d]) + (B + b ^ i * y) = (A + b ^ i * x) + b ^ (i + 1) * c':=by
 rw [bv_snoc,hi,Nat.pow_succ,Nat.mul_assoc]
 have h1 : b ^ i * (d + y + c) = b ^ i * (x + b * c'):=by rw [hd]
 rw [Nat.mul_add,Nat.mul_add,Nat.mul_add] at h1
 omega
theorem mul_step {W : List Nat} {k old x y c s T : Nat} (hw : W[k]? = some old) (h : bv b W + b ^ k * c = T) (hs : s = x * y + old + c) : bv b (W.set k (s % b)) + b ^ (k + 1) * (s / b) = T + b ^ k * (x * y):=by
 have h1:=bv_set (b:=b) (y:=s % b) hw
 rw [Nat.pow_succ,Nat.mul_assoc]
 have h2 : b ^ k * (s % b) + b ^ k * (b * (s / b)) = b ^ k * s:=by rw [<- Nat.mul_add,Nat.mod_add_div]
 have h3 : b ^ k * s = b ^ k * (x * y) + b ^ k * old + b ^ k * c:=by rw [hs,Nat.mul_add,Nat.mul_add]
 omega
theorem div_step {a q : List Nat} {i x d r : Nat} (hx : a[i]? = some x) (h : bv b (a.drop (i + 1)) = bv b q * d + r) : bv b (a.drop i) = bv b ((r * b + x) / d :: q) * d + (r * b + x) % d:=by
 rw [bv_drop hx,h,bv,Nat.add_mul]
 have h1 : d * ((r * b + x) / d) + (r * b + x) % d = r * b + x:=Nat.div_add_mod _ _
 have h2 : b * (bv b q * d + r) = b * bv b q * d + r * b:=by rw [Nat.mul_add,Nat.mul_assoc,Nat.mul_comm b r]
 rw [h2,Nat.mul_comm ((r * b + x) / d) d]
 omega
end
open Go.RowKit
theorem wu16 {x : Nat} (h : x < 65536) : IntKind.u16.wrap (x : Int) = x:=by simp [IntKind.wrap,IntKind.bits,IntKind.signed]; omega
theorem wu32 {x : Nat} (h : x < 4294967296) : IntKind.u32.wrap (x : Int) = x:=by simp [IntKind.wrap,IntKind.bits,IntKind.signed]; omega
theorem wu64 {x : Nat} (h : x < 18446744073709551616) : IntKind.u64.wrap (x : Int) = x:=by simp [IntKind.wrap,IntKind.bits,IntKind.signed]; omega
theorem wi64 {x : Int} (h : -9223372036854775808 <= x) (h2 : x < 9223372036854775808) : IntKind.i64.wrap x = x:=by simp [IntKind.wrap,IntKind.bits,IntKind.signed]; split <;> omega
abbrev WB32 : Nat:=4294967296
structure Ws (K : Nat) (w : World) (v : Value) (l : List Nat) : Prop where
 row : RowsV 1 (fun i _ => .int .u32 ((l[i]?.getD 0 : Nat) : Int)) K w v l.length
 lt : ∀ d ∈ l,d < WB32
theorem Ws.below {K K' B : Nat} {w w' : World} {v : Value} {l : List Nat} (h : Ws K w v l) (hb : Below B w w') (hB : K <= B) (hK : K <= K') : Ws K' w' v l:=⟨h.row.below hb hB hK,h.lt⟩
theorem Ws.form {K : Nat} {w : World} {v : Value} {l : List Nat} (h : Ws K w v l) : ∃ a cap,v = .slice a l.length cap /\ l.length <= cap /\ cap <= maxLen:=h.row.form
theorem Ws.at {K : Nat} {w : World} {v : Value} {l : List Nat} (h : Ws K w v l) (hl : 0 < l.length) : ∃ b o cap,v = .slice (some ⟨b,o,none⟩) l.length cap /\ l.length <= cap /\ cap <= maxLen /\ b < K /\ ∀ i d : Nat,l[i]? = some d -> w.cell? ⟨b,o + i,none⟩ = some (.int .u32 (d : Int)):=by
 obtain ⟨b,o,cap,h1,h2,h3,h4,h5⟩:=h.row.pos hl
 refine ⟨b,o,cap,h1,h2,h3,h4,fun i d hd => ?_⟩
 have hi:=(List.getElem?_eq_some_iff.1 hd).1
 have := h5 i hi 0 (by omega)
 rw [hd,Option.getD_some] at this
 simpa using this
theorem Ws.mk' {K b o cap : Nat} {w : World} {l : List Nat} (hl : l.length <= cap) (hm : cap <= maxLen) (hb : b < K) (hc : ∀ i d : Nat,l[i]? = some d -> w.cell? ⟨b,o + i,none⟩ = some (.int .u32 (d : Int))) (hlt : ∀ d ∈ l,d < WB32) : Ws K w (.slice (some ⟨b,o,none⟩) l.length cap) l:=by
 refine ⟨RowsV.mk_cells hl hm hb fun i hi j hj => ?_,hlt⟩
 obtain rfl : j = 0:=by omega
 have hd:=List.getElem?_eq_getElem hi
 rw [hd,Option.getD_some,Nat.mul_one,Nat.add_zero]
 exact hc i _ hd
theorem Ws.nil (K : Nat) (w : World) (a : Option Addr) (cap : Nat) (hm : cap <= maxLen) (hz : a = none -> cap = 0) : Ws K w (.slice a 0 cap) []:=⟨RowsV.nil a cap hm hz,fun d h => by cases h⟩
theorem Ws.take {K n c : Nat} {w : World} {a : Option Addr} {l : List Nat} (h : Ws K w (.slice a n c) l) {k : Nat} (hk : k <= l.length) : Ws K w (.slice a k c) (l.take k):=by
 obtain ⟨a',cap,he,h1,h2,h3,h4⟩:=h.row
 simp only [Value.slice.injEq] at he
 obtain ⟨rfl,rfl,rfl⟩:=he
 have hl : (l.take k).length = k:=by rw [List.length_take]; omega
 refine ⟨⟨a,c,by rw [hl],by rw [hl]; omega,h2,h3,fun i hi => ?_⟩,fun d hd => h.lt d (List.mem_of_mem_take hd)⟩
 rw [hl] at hi
 obtain ⟨b,o,e1,e2,e3⟩:=h4 i (by omega)
 refine ⟨b,o,e1,e2,fun j hj => ?_⟩
 rw [e3 j hj]
 show _ = some (Value.int .u32 (((l.take k)[i]?.getD 0 : Nat) : Int))
 rw [List.getElem?_take_of_lt hi]
def Bn (K : Nat) (w : World) (v : Value) (n : Nat) : Prop:=∃ l,Ws K w v l /\ Tight l /\ bv WB32 l = n
theorem Bn.below {K K' B : Nat} {w w' : World} {v : Value} {n : Nat} (h : Bn K w v n) (hb : Below B w w') (hB : K <= B) (hK : K <= K') : Bn K' w' v n:=by
 obtain ⟨l,h1,h2⟩:=h; exact ⟨l,h1.below hb hB hK,h2⟩
theorem Tight.nil : Tight []:=.inl rfl
theorem tight_take {l : List Nat} {k d : Nat} (hd : l[k]? = some d) (h0 : d ≠ 0) : Tight (l.take (k + 1)):=by
 right
 rw [List.take_add_one,hd]
 simpa using h0
def lenV : Value -> Nat
 | .slice _ n _ => n
 | _ => 0
theorem ntrim_any (K : Nat) (a : Option Addr) (n c : Nat) (l : List Nat) (w : World) (h : Ws K w (.slice a n c) l) :
  Calls Tryz.prog 103 #[.slice a n c] w fun e w' => ∃ k,k <= l.length /\ e = .returned (.slice a k c) /\ Tight (l.take k) /\ bv WB32 (l.take k) = bv WB32 l /\ w = w':=by
 obtain ⟨_,_,he,hnc,hcm⟩:=h.form
 simp only [Value.slice.injEq] at he
 obtain ⟨ha,hn,rfl⟩:=he
 subst hn
 clear ha
 unfold maxLen at hcm
 obtain ⟨n,hn⟩ : ∃ n,l.length = n:=⟨_,rfl⟩
 rw [hn] at hnc h ⊢
 have HN:=Lib.hid hn
 have HW:=Lib.hid h
 clear h hn
 go_enter Tryz.func103,Tryz.ntmps103
 go_wp2_with fail
 go_loop [0] (fun v => ∃ k,k <= n /\ v = .slice a k c /\ Hid (bv WB32 (l.take k) = bv WB32 l)) (fun v => lenV v)
 case atStart => exact ⟨n,Nat.le_refl _,rfl,Lib.hid (by rw [List.take_of_length_le (by rw [HN.out]; exact Nat.le_refl _)])⟩
 case round =>
  obtain ⟨k,hk,rfl,HV⟩:=hrel
  cases k with
  | zero =>
   go_wp2_with fail
   go_ret
   exact ⟨0,Nat.zero_le _,rfl,Tight.nil,HV.out,rfl⟩
  | succ k =>
   have hl0 : 0 < l.length:=by rw [HN.out]; omega
   have hw2:=HW.out
   rw [<- HN.out] at hw2
   obtain ⟨b,o,cap,he,_,_,_,hcl⟩:=hw2.at hl0
   simp only [Value.slice.injEq,true_and] at he
   obtain ⟨rfl,rfl⟩:=he
   obtain ⟨d,hd⟩ : ∃ d,l[k]? = some d:=⟨_,List.getElem?_eq_getElem (by rw [HN.out]; omega)⟩
   have e0:=hcl k d hd
   have HD:=Lib.hid hd
   clear hcl hd hw2 hl0
   by_cases h0 : d = 0
   ·subst h0
    have HV2 : Hid (bv WB32 (l.take k) = bv WB32 l):=Lib.hid (by have := HV.out; rw [bv_take_succ HD.out] at this; omega)
    go_wp2_with fail
    go_round
    case rel => exact ⟨k,by omega,rfl,HV2⟩
    case measure => simp [lenV]
   ·have hx : ((d : Int) == 0) = false:=by simp; omega
    go_wp2_with fail
    go_ret
    exact ⟨k + 1,hk,rfl,tight_take HD.out h0,HV.out,rfl⟩
theorem ntrim_bn (K : Nat) (v : Value) (l : List Nat) (w : World) (h : Ws K w v l) : Calls Tryz.prog 103 #[v] w fun e w' => ∃ a n c k,v = .slice a n c /\ e = .returned (.slice a k c) /\ Bn K w' (.slice a k c) (bv WB32 l) /\ w = w':=by
 obtain ⟨a,c,rfl,_⟩:=h.form
 refine (ntrim_any K a _ c l w h).mono ?_
 rintro e w' ⟨k,hk,rfl,ht,hv,rfl⟩
 exact ⟨a,_,c,k,rfl,rfl,⟨_,h.take hk,ht,hv⟩,rfl⟩
theorem drewN_ex3 {w wr : World} {k : Nat} (h : wr = w.drewN k) (a b : Nat) : ∃ k,(wr.drewN a).drewN b = w.drewN k:=⟨k + (a + b),by rw [h,drewN_two,drewN_two]⟩
def cmpN (m n : Nat) : Int:=if m < n then -1 else if n < m then 1 else 0
theorem cmpN_lt {m n : Nat} (h : m < n) : cmpN m n = -1:=if_pos h
theorem cmpN_gt {m n : Nat} (h : n < m) : cmpN m n = 1:=by unfold cmpN; rw [if_neg (by omega),if_pos h]
theorem cmpN_self (m : Nat) : cmpN m m = 0:=by unfold cmpN; rw [if_neg (by omega),if_neg (by omega)]
theorem ncompare_any (K : Nat) (u v : Value) (m n : Nat) (w : World) (hu : Bn K w u m) (hv : Bn K w v n) : Calls Tryz.prog 88 #[u,v] w fun e w' => e = .returned (.int .i64 (cmpN m n)) /\ ∃ k,w' = w.drewN k:=by
 obtain ⟨l,hl,tl,rfl⟩:=hu
 obtain ⟨r,hr,tr,rfl⟩:=hv
 obtain ⟨ua,uc,rfl,hu1,hu2⟩:=hl.form
 obtain ⟨va,vc,rfl,hv1,hv2⟩:=hr.form
 unfold maxLen at hu2 hv2
 obtain ⟨x,hx⟩ : ∃ x,cmpN (bv WB32 l) (bv WB32 r) = x:=⟨_,rfl⟩
 rw [hx]
 obtain ⟨p,hp⟩ : ∃ p,l.length = p:=⟨_,rfl⟩
 obtain ⟨q,hq⟩ : ∃ q,r.length = q:=⟨_,rfl⟩
 rw [hp] at hu1 ⊢
 rw [hq] at hv1 ⊢
 have HX:=Lib.hid hx
 have HP:=Lib.hid hp
 have HQ:=Lib.hid hq
 have HL:=Lib.hid hl
 have HR:=Lib.hid hr
 have TL:=Lib.hid tl
 have TR:=Lib.hid tr
 clear hx hp hq hl hr tl tr
 by_cases hpq : p = q
 ·subst hpq
  have e1 : ((p : Int) != (p : Int)) = false:=by simp
  go_enter Tryz.func88,Tryz.ntmps88
  go_wp2_with fail
  go_loopw [5] (fun iv wr => ∃ (i k : Nat),i <= p /\ iv = .int .i64 ((i : Int) - 1) /\ Hid (l.drop i = r.drop i) /\ Hid (wr = w.drewN k)) (fun iv _ => (intOf iv + 1).toNat)
  case atStart => exact ⟨p,0,Nat.le_refl _,rfl,Lib.hid (by rw [List.drop_of_length_le (by rw [HP.out]; exact Nat.le_refl _),List.drop_of_length_le (by rw [HQ.out]; exact Nat.le_refl _)]),Lib.hid rfl⟩
  case round =>
   obtain ⟨i,k,hi,rfl,HD,HK⟩:=hrel
   cases i with
   | zero =>
    have hx0 : x = 0:=by
     have := HD.out
     rw [List.drop_zero,List.drop_zero] at this
     rw [<- HX.out,this,cmpN_self]
    subst hx0
    go_wp2_with fail
    go_ret
    exact ⟨rfl,k,HK.out⟩
   | succ i =>
    have hiz : (((i + 1 : Nat) : Int) - 1) = (i : Int):=by omega
    rw [hiz]
    have hip : i < p:=by omega
    obtain ⟨b,o,cap,he,_,_,_,hcl⟩:=HL.out.at (by rw [HP.out]; omega)
    rw [HP.out] at he
    simp only [Value.slice.injEq,true_and] at he
    obtain ⟨rfl,rfl⟩:=he
    obtain ⟨b2,o2,cap2,he,_,_,_,hcr⟩:=HR.out.at (by rw [HQ.out]; omega)
    rw [HQ.out] at he
    simp only [Value.slice.injEq,true_and] at he
    obtain ⟨rfl,rfl⟩:=he
    obtain ⟨d,hd⟩ : ∃ d,l[i]? = some d:=⟨_,List.getElem?_eq_getElem (by rw [HP.out]; omega)⟩
    obtain ⟨g,hg⟩ : ∃ g,r[i]? = some g:=⟨_,List.getElem?_eq_getElem (by rw [HQ.out]; omega)⟩
    have hwk:=HK.out
    have e2 : wr.cell? ⟨b,o + i,none⟩ = some (.int .u32 (d : Int)):=by rw [hwk]; exact hcl i d hd
    have e3 : wr.cell? ⟨b2,o2 + i,none⟩ = some (.int .u32 (g : Int)):=by rw [hwk]; exact hcr i g hg
    have HDD:=Lib.hid hd
    have HGG:=Lib.hid hg
    clear hcl hcr hd hg hiz hwk
    by_cases hdg : d = g
    ·subst hdg
     have e4 : ((d : Int) != (d : Int)) = false:=by simp
     have HD2 : Hid (l.drop i = r.drop i):=Lib.hid (by
      obtain ⟨h1,e1⟩:=List.getElem?_eq_some_iff.1 HDD.out
      obtain ⟨h2,e2⟩:=List.getElem?_eq_some_iff.1 HGG.out
      rw [List.drop_eq_getElem_cons h1,List.drop_eq_getElem_cons h2,e1,e2,HD.out])
     go_upto_region 8 with fail
     go_quiet (fail)
     go_wp2_with fail
     exact ⟨⟨i,_,by omega,rfl,HD2,Lib.hid (by rw [HK.out]; exact drewN_two _ _ _)⟩,by simp [intOf]⟩
    ·have e4 : ((d : Int) != (g : Int)) = true:=by simp; omega
     by_cases hlt : d < g
     ·have e5 : decide ((d : Int) < (g : Int)) = true:=by simp; omega
      have hx1 : x = -1:=by
       rw [<- HX.out]
       exact cmpN_lt (bv_top_lt HL.out.lt (by rw [HP.out,HQ.out]) HDD.out HGG.out hlt HD.out)
      subst hx1
      go_upto_region 8 with fail
      go_quiet (fail)
      go_upto_region 9 with fail
      go_quiet (fail)
      go_wp2_with fail
      go_ret
      exact ⟨rfl,drewN_ex3 HK.out _ _⟩
     ·have e5 : decide ((d : Int) < (g : Int)) = false:=by simp; omega
      have hx1 : x = 1:=by
       rw [<- HX.out]
       exact cmpN_gt (bv_top_lt HR.out.lt (by rw [HP.out,HQ.out]) HGG.out HDD.out (by omega) HD.out.symm)
      subst hx1
      go_upto_region 8 with fail
      go_quiet (fail)
      go_upto_region 9 with fail
      go_quiet (fail)
      go_wp2_with fail
      go_ret
      exact ⟨rfl,drewN_ex3 HK.out _ _⟩
 ·have e1 : ((p : Int) != (q : Int)) = true:=by simp; omega
  by_cases hlt : p < q
  ·have e2 : decide ((p : Int) < (q : Int)) = true:=by simp; omega
   have hx1 : x = -1:=by
    rw [<- HX.out]
    exact cmpN_lt (bv_len_lt (by decide) HL.out.lt TR.out (by rw [HP.out,HQ.out]; exact hlt))
   subst hx1
   go_enter Tryz.func88,Tryz.ntmps88
   go_wp2_with fail
   go_ret
   exact ⟨rfl,0,rfl⟩
  ·have e2 : decide ((p : Int) < (q : Int)) = false:=by simp; omega
   have hx1 : x = 1:=by
    rw [<- HX.out]
    exact cmpN_gt (bv_len_lt (by decide) HR.out.lt TL.out (by rw [HP.out,HQ.out]; omega))
   subst hx1
   go_enter Tryz.func88,Tryz.ntmps88
   go_wp2_with fail
   go_ret
   exact ⟨rfl,0,rfl⟩
theorem below_quiet {B : Nat} {a w : World} (h : Below B a w) : Below B a w.drew:=h.trans ⟨rfl,rfl,rfl,Nat.le_refl _,fun _ _ => rfl⟩
theorem times_any (K : Nat) (u v : Value) (m n : Nat) (w : World) (hu : Wd .u32 K w u m) (hv : Wd .u32 K w v n) (hK : K <= w.heap.size) (hmn : m * n < 65536) (hm : m < 65536) (hn : n < 65536) :
  Calls Tryz.prog 96 #[u,v] w fun e w' => ∃ v',e = .returned v' /\ Wd .u32 w'.heap.size w' v' (m * n) /\ Below w.heap.size w w':=by
 have fin : ∀ (W : World) (x : Value),Below w.heap.size w W -> Pre .u32 W.heap.size W x (m * n) -> Calls Tryz.prog 103 #[x] W fun e w' => ∃ v',e = .returned v' /\ Wd .u32 w'.heap.size w' v' (m * n) /\ Below w.heap.size w w':=fun W x hb hp => (trim_any _ x _ W hp).mono (by rintro e w' ⟨v',rfl,h,rfl⟩; exact ⟨v',rfl,h,hb⟩)
 have m0:=make_w0
 have m1:=make_w1
 have m2:=make_w2
 rcases hu with ⟨rfl,a,c,rfl,hc⟩ | ⟨h0,b,o,c,rfl,h1,hc,hb,h5⟩
 ·rcases hv with ⟨rfl,a',c',rfl,hc'⟩ | ⟨h0',b',o',c',rfl,h1',hc',hb',h5'⟩
  ·go_enter Tryz.func96,Tryz.ntmps96
   go_wp2_with fail
   refine wp_loop_rounds 1 ?_
   rw [rounds_succ]
   go_wp2_with fail
   refine (fin _ _ ((Below.refl _ w).alloc (Nat.le_refl _) _) (.inl ⟨by omega,_,_,rfl,by simp [maxLen]⟩)).mono ?_
   rintro e w' ⟨v',rfl,h⟩
   go_wp2_with fail
   go_ret
   exact ⟨_,rfl,h⟩
  ·go_enter Tryz.func96,Tryz.ntmps96
   go_wp2_with fail
   refine wp_loop_rounds 1 ?_
   rw [rounds_succ]
   go_wp2_with fail
   refine (fin _ _ ((Below.refl _ w).alloc (Nat.le_refl _) _) (.inr (.inl ⟨_,_,_,rfl,by omega,by simp [maxLen],by simp,by simp⟩))).mono ?_
   rintro e w' ⟨v',rfl,h⟩
   go_wp2_with fail
   go_ret
   exact ⟨_,rfl,h⟩
 ·have hlt : b < w.heap.size:=by omega
  have hne : ¬ b = w.heap.size:=by omega
  rcases hv with ⟨rfl,a',c',rfl,hc'⟩ | ⟨h0',b',o',c',rfl,h1',hc',hb',h5'⟩
  ·go_enter Tryz.func96,Tryz.ntmps96
   go_wp2_with fail
   refine wp_loop_rounds 2 ?_
   rw [rounds_succ]
   go_wp2_with fail
   refine wp_loop_rounds 1 ?_
   rw [rounds_succ]
   go_wp2_with fail
   rw [rounds_succ]
   go_wp2_with fail
   refine (fin _ _ ((Below.refl _ w).alloc (Nat.le_refl _) _) (.inr (.inl ⟨_,_,_,rfl,by omega,by simp [maxLen],by simp,by simp⟩))).mono ?_
   rintro e w' ⟨v',rfl,h⟩
   go_wp2_with fail
   go_ret
   exact ⟨_,rfl,h⟩
  ·have hlt' : b' < w.heap.size:=by omega
   have hne' : ¬ b' = w.heap.size:=by omega
   obtain ⟨p,hp⟩ : ∃ p,m * n = p:=⟨_,rfl⟩
   have hpi : ((m : Int) * (n : Int)) = (p : Int):=by rw [<- hp]; simp
   rw [hp] at fin hmn ⊢
   go_enter Tryz.func96,Tryz.ntmps96
   go_wp2_with fail
   refine wp_loop_rounds 2 ?_
   rw [rounds_succ]
   go_wp2_with fail
   refine wp_loop_rounds 2 ?_
   rw [rounds_succ]
   go_wp2_with fail
   rw [rounds_succ]
   go_wp2_with fail
   rw [rounds_succ]
   go_wp2_with fail
   refine (fin _ _ ((Below.refl _ w).alloc (Nat.le_refl _) _) (.inr (.inr ⟨_,_,_,rfl,by omega,by simp [maxLen],by simp,by simp,by simp; omega⟩))).mono ?_
   rintro e w' ⟨v',rfl,h⟩
   go_wp2_with fail
   go_ret
   exact ⟨_,rfl,h⟩
theorem short_any (n : Nat) (w : World) (hn : n < 65536) :
  Calls Tryz.prog 107 #[.int .u64 n] w fun e w' => ∃ v',e = .returned v' /\ Wd .u32 w'.heap.size w' v' n /\ Below w.heap.size w w':=by
 have fin : ∀ (W : World) (x : Value),Below w.heap.size w W -> Pre .u32 W.heap.size W x n -> Calls Tryz.prog 103 #[x] W fun e w' => ∃ v',e = .returned v' /\ Wd .u32 w'.heap.size w' v' n /\ Below w.heap.size w w':=fun W x hb hp => (trim_any _ x _ W hp).mono (by rintro e w' ⟨v',rfl,h,rfl⟩; exact ⟨v',rfl,h,hb⟩)
 go_enter Tryz.func107,Tryz.ntmps107
 go_wp2_with fail
 refine (fin _ _ ((Below.refl _ w).alloc (Nat.le_refl _) _) (.inr (.inr ⟨_,_,_,rfl,by omega,by simp [maxLen],by simp,by simp,by simp; omega⟩))).mono ?_
 rintro e w' ⟨v',rfl,h⟩
 go_wp2_with fail
 go_ret
 exact ⟨_,rfl,h⟩
theorem div32_any (m : Nat) (w : World) (hm : m < 65536) : Calls Tryz.prog 117 #[.int .u32 0,.int .u32 m,.int .u32 1] w fun e w' => e = .returned (.tuple #[.int .u32 m,.int .u32 0]) /\ ∃ k,w' = w.drewN k:=by
 have hbits : bits BinOp.or IntKind.u64 0 (m : Int) = m:=by have := u64_or_nat 0 m (by decide) (by omega); simpa using this
 go_enter Tryz.func117,Tryz.ntmps117
 go_upto_region 4 with fail
 go_quiet (fail)
 go_wp2_with fail
 go_ret2
 exact ⟨by simp,_,rfl⟩
theorem divShort_any (K : Nat) (u : Value) (m : Nat) (w : World) (hu : Wd .u32 K w u m) (hm0 : 0 < m) (hK : K <= w.heap.size) (hm : m < 65536) :
  Calls Tryz.prog 109 #[u,.int .u32 1] w fun e w' => ∃ v',e = .returned (.tuple #[v',.int .u32 0]) /\ Wd .u32 w'.heap.size w' v' m /\ Below w.heap.size w w':=by
 have fin : ∀ (W : World) (x : Value),Below w.heap.size w W -> Pre .u32 W.heap.size W x m -> Calls Tryz.prog 103 #[x] W fun e w' => ∃ v',e = .returned v' /\ Wd .u32 w'.heap.size w' v' m /\ Below w.heap.size w w':=fun W x hb hp => (trim_any _ x _ W hp).mono (by rintro e w' ⟨v',rfl,h,rfl⟩; exact ⟨v',rfl,h,hb⟩)
 have m1:=make_w1
 rcases hu with ⟨rfl,a,c,rfl,hc⟩ | ⟨h0,b,o,c,rfl,h1,hc,hb,h5⟩
 ·omega
 ·have hlt : b < w.heap.size:=by omega
  have hne : ¬ b = w.heap.size:=by omega
  go_enter Tryz.func109,Tryz.ntmps109
  go_wp2_with fail
  refine wp_loop_rounds 2 ?_
  rw [rounds_succ]
  go_wp2_with fail
  refine (div32_any m _ hm).mono ?_
  rintro e w' ⟨rfl,k,rfl⟩
  go_wp2_with fail
  rw [rounds_succ]
  go_wp2_with fail
  have hq : Blk (((w.alloc (.cells #[.int .u32 0] 130)).drewN k).setCell ⟨w.heap.size,0,none⟩ (.int .u32 m)) w.heap.size #[.int .u32 m] 130:=Blk.set (w:=(w.alloc (.cells #[.int .u32 0] 130)).drewN k) (Blk.new w #[.int .u32 0] 130) (i:=0) (.int .u32 m)
  refine (fin (((w.alloc (.cells #[.int .u32 0] 130)).drewN k).setCell ⟨w.heap.size,0,none⟩ (.int .u32 m)) (.slice (some ⟨w.heap.size,0,none⟩) 1 1) ((below_drewN2 ((Below.refl _ w).alloc (Nat.le_refl _) _) _).setCell (p:=⟨w.heap.size,0,none⟩) (Nat.le_refl _) _) (.inr (.inl ⟨w.heap.size,0,1,rfl,by omega,by simp [maxLen],hq.lt,hq.at rfl⟩))).mono ?_
  rintro e w' ⟨v',rfl,h⟩
  go_wp2_with fail
  go_ret2
  exact ⟨_,rfl,h⟩
theorem divide1_any (K : Nat) (u v : Value) (m : Nat) (w : World) (hu : Wd .u32 K w u m) (hm0 : 0 < m) (hv : Wd .u32 K w v 1) (hK : K <= w.heap.size) (hm : m < 65536) :
  Calls Tryz.prog 100 #[u,v] w fun e w' => ∃ v' r,e = .returned (.tuple #[v',r]) /\ Wd .u32 w'.heap.size w' v' m /\ Wd .u32 w'.heap.size w' r 0 /\ Below w.heap.size w w':=by
 have hcmp:=compare_any K u v m 1 w hu hv
 have e1 : (if m < 1 then (-1 : Int) else if 1 < m then 1 else 0) = if 1 < m then 1 else 0:=by rw [if_neg (by omega)]
 obtain ⟨cv,hcv⟩ : ∃ cv : Int,(if 1 < m then (1 : Int) else 0) = cv:=⟨_,rfl⟩
 have hcv0 : ¬ cv < 0:=by rw [<- hcv]; split <;> omega
 rw [e1,hcv] at hcmp
 rcases hv with ⟨h0,_⟩ | ⟨_,b',o',c',rfl,h1',hc',hb',h5'⟩
 ·omega
 have hds : ∀ k,Calls Tryz.prog 109 #[u,.int .u32 1] (w.drewN k) fun e w' => ∃ v',e = .returned (.tuple #[v',.int .u32 0]) /\ Wd .u32 w'.heap.size w' v' m /\ Below w.heap.size w w':=fun k => (divShort_any K u m (w.drewN k) hu hm0 hK hm).mono (by rintro e w' ⟨v',rfl,h1,h2⟩; exact ⟨v',rfl,h1,(below_drewN2 (Below.refl _ w) k).trans h2⟩)
 obtain ⟨ua,um,uc,rfl⟩:=hu.form
 clear hcv e1
 go_enter Tryz.func100,Tryz.ntmps100
 go_wp2_with fail
 refine hcmp.mono ?_
 rintro e w1 ⟨rfl,k,rfl⟩
 go_wp2_with fail
 refine (hds k).mono ?_
 rintro e w2 ⟨v',rfl,hv',hb2⟩
 obtain ⟨va,vm,vc,rfl⟩:=hv'.form
 go_wp2_with fail
 have hb3 : Below w2.heap.size w2 (w2.alloc (.cells #[.int .u32 0] 130)):=(Below.refl _ _).alloc (Nat.le_refl _) _
 have ht:=trim_any (w2.heap.size + 1) (.slice (some ⟨w2.heap.size,0,none⟩) 1 1) 0 (w2.alloc (.cells #[.int .u32 0] 130)) (.inr (.inl ⟨_,_,_,rfl,by omega,by simp [maxLen],by omega,by simp⟩))
 refine ht.mono ?_
 rintro e w3 ⟨r,rfl,hr,rfl⟩
 obtain ⟨ra,rm,rc,rfl⟩:=hr.form
 go_wp2_with fail
 go_ret2
 exact ⟨_,_,rfl,hv'.below hb3 (Nat.le_refl _) (by simp),hr.below (Below.refl _ _) (Nat.le_refl _) (by simp),hb2.trans (hb3.mono hb2.size)⟩
end Go.Proofs.YtlldjmagbjjeoaaGreat
