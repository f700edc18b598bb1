/- Contracts and plain laws, several texts in one (NW9, NShelf, NW10S). No conditions beyond those stated. -/
import Derived.Deep.CutBlock
import Derived.Deep.LoopGhost
import Derived.Shelf.Small.Bits
import Derived.Lib.ItoaNum
import Derived.Test.YtlldjmagbjjeoaaGreatPk8
set_option maxRecDepth 100000
set_option maxHeartbeats 40000000
namespace Go.Proofs.YtlldjmagbjjeoaaGreat
open Go.RowKit
set_option linter.unusedVariables false
theorem grown_trans3 {w w' w'' : World} {r : Option Nat} (h : w.grownBy w' r) (h' : w'.grownBy w'' r) : w.grownBy w'' r :=
 ⟨h'.os.trans h.os,h'.tape.trans h.tape,h'.output.trans h.output,Nat.le_trans h.size h'.size,fun k hk hr => (h'.block k (Nat.lt_of_lt_of_le hk h.size) hr).trans (h.block k hk hr)⟩
theorem ndivstep_any (T j n vb vo vc uc : Nat) (X V : List Nat) (w : World) (hX : RowB w T X) (hXlt : ∀ d ∈ X,d < WB32) (hn2 : 2 <= n) (hj : j + n < X.length) (hVl : V.length = n) (hVlt : ∀ d ∈ V,d < WB32)
  (hVc : ∀ i d : Nat,V[i]? = some d -> w.cell? ⟨vb,vo + i,none⟩ = some (.int .u32 (d : Int))) (hne : vb ≠ T) (hvw : vb < w.heap.size) (hn30 : n <= 2 ^ 31) (hj30 : j <= 2 ^ 31) (htop : ∀ t,V[n - 1]? = some t -> 2147483648 <= t) (hlt : bv WB32 (sg X j (n + 1)) < bv WB32 V * WB32) :
  Calls Tryz.prog 112 #[.slice (some ⟨T,j,none⟩) (n + 1) uc,.slice (some ⟨vb,vo,none⟩) n vc] w fun e w' => ∃ X',e = .returned (.int .u32 (bv WB32 (sg X j (n + 1)) / bv WB32 V : Nat)) /\ RowB w' T X' /\ X'.length = X.length /\ (∀ d ∈ X',d < WB32) ∧
   bv WB32 (sg X' j (n + 1)) = bv WB32 (sg X j (n + 1)) % bv WB32 V /\ (∀ i,i < j \/ j + (n + 1) <= i -> X'[i]? = X[i]?) /\ w.grownBy w' (some T):=by
 obtain ⟨k,hn⟩ : ∃ k,k + 2 = n:=⟨n - 2,by omega⟩
 have hn3 : k + 3 = n + 1:=by omega
 obtain ⟨x2,hx2⟩ : ∃ x,X[j + k]? = some x:=⟨_,List.getElem?_eq_getElem (by omega)⟩
 obtain ⟨y,hy⟩ : ∃ x,X[j + (k + 1)]? = some x:=⟨_,List.getElem?_eq_getElem (by omega)⟩
 obtain ⟨z,hz⟩ : ∃ x,X[j + (k + 2)]? = some x:=⟨_,List.getElem?_eq_getElem (by omega)⟩
 obtain ⟨v2,hv2⟩ : ∃ x,V[k]? = some x:=⟨_,List.getElem?_eq_getElem (by omega)⟩
 obtain ⟨tp,htp⟩ : ∃ x,V[k + 1]? = some x:=⟨_,List.getElem?_eq_getElem (by omega)⟩
 have hx32:=hXlt x2 (List.mem_of_getElem? hx2)
 have hy32:=hXlt y (List.mem_of_getElem? hy)
 have hz32:=hXlt z (List.mem_of_getElem? hz)
 have hv32:=hVlt v2 (List.mem_of_getElem? hv2)
 have ht32:=hVlt tp (List.mem_of_getElem? htp)
 have ht31:=htop tp (by rw [show n - 1 = k + 1 by omega]; exact htp)
 have hUl:=sg_lead hx2 hy hz
 have hVd:=bv_lead (hVl.trans hn.symm) hv2 htp
 obtain ⟨M,hM⟩ : ∃ M,WB32 ^ k = M:=⟨_,rfl⟩
 obtain ⟨Ur,hUr⟩ : ∃ r,bv WB32 (sg X j k) = r:=⟨_,rfl⟩
 obtain ⟨Vr,hVr⟩ : ∃ r,bv WB32 (V.take k) = r:=⟨_,rfl⟩
 obtain ⟨hd,hhd⟩ : ∃ h,z * WB32 + y = h:=⟨_,rfl⟩
 rw [hM,hUr,hhd,hn3] at hUl
 rw [hM,hVr] at hVd
 have hUrM : Ur < M:=by
  have := bv_lt (sg X j k) (sg_lt hXlt)
  rw [sg_len (by omega),hM,hUr] at this
  exact this
 have hVrM : Vr < M:=by
  have := bv_lt (V.take k) (fun d hd => hVlt d (List.mem_of_mem_take hd))
  rw [List.length_take,hVl,show min k n = k by omega,hM,hVr] at this
  exact this
 obtain ⟨U,hU⟩ : ∃ U,bv WB32 (sg X j (n + 1)) = U:=⟨_,rfl⟩
 obtain ⟨D,hD⟩ : ∃ D,bv WB32 V = D:=⟨_,rfl⟩
 rw [hU] at hUl hlt ⊢
 rw [hD] at hVd hlt ⊢
 have hh1 : hd <= tp * WB32 + WB32 - 1:=knu_first (U:=0) (by decide) (by unfold WB32; omega) hx32 hUrM hv32 hVrM (by rw [<- hUl,<- hVd]; exact hlt)
 have hs0:=knu_start (b:=WB32) (M:=M) (top:=tp) (v2:=v2) (Vr:=Vr) (head:=hd) (u2:=x2) (Ur:=Ur) (by omega) hx32 hUrM
 rw [<- hUl,<- hVd] at hs0
 have hd64 : hd < 18446744073709551616:=by unfold WB32 at *; omega
 obtain ⟨d0,hd0⟩ : ∃ q,hd / tp = q:=⟨_,rfl⟩
 obtain ⟨r0,hr0⟩ : ∃ r,hd % tp = r:=⟨_,rfl⟩
 rw [hd0] at hs0
 have hdig0 : Dig U D hd tp d0 r0:=⟨by rw [<- hd0,<- hr0,Nat.mul_comm]; exact Nat.div_add_mod hd tp,hs0⟩
 have hr0t : r0 < tp:=by rw [<- hr0]; exact Nat.mod_lt _ (by omega)
 have hd0b : d0 <= WB32 + 1:=by
  have h1:=hdig0.eq
  rcases Nat.lt_or_ge (WB32 + 1) d0 with h2 | h2
  ·have h3 : (WB32 + 2) * tp <= d0 * tp:=Nat.mul_le_mul_right _ h2
   rw [Nat.add_mul,Nat.mul_comm WB32 tp] at h3
   unfold WB32 at *
   omega
  ·exact h2
 have hqi : (hd : Int).tdiv (tp : Int) = (d0 : Int):=by rw [Int.tdiv_eq_ediv_of_nonneg (by omega),<- hd0]; simp
 have hri : (hd : Int).tmod (tp : Int) = (r0 : Int):=by rw [Int.tmod_eq_emod_of_nonneg (by omega),<- hr0]; simp
 have hqi2 : (hd : Int) / (tp : Int) = (d0 : Int):=by rw [<- hd0]; simp
 have hri2 : (hd : Int) % (tp : Int) = (r0 : Int):=by rw [<- hr0]; simp
 obtain ⟨zs,hzs⟩ : ∃ s,z * WB32 = s:=⟨_,rfl⟩
 have hzi : (z : Int) * 4294967296 = (zs : Int):=by unfold WB32 at hzs; omega
 have hor : bits BinOp.or IntKind.u64 (zs : Int) (y : Int) = (hd : Int):=by
  rw [u64_or_nat zs y (by unfold WB32 at *; omega) (by unfold WB32 at *; omega)]
  have := Nat.two_pow_add_eq_or_of_lt (i:=32) (show y < 2 ^ 32 from hy32) z
  have e : zs = 2 ^ 32 * z:=by unfold WB32 at hzs; omega
  rw [e,<- this]; unfold WB32 at *; omega
 have e1 : w.cell? ⟨T,j + n,none⟩ = some (.int .u32 (z : Int)):=by rw [<- hn]; exact hX.at hz
 have e2 : w.cell? ⟨T,j + (k + 1),none⟩ = some (.int .u32 (y : Int)):=hX.at hy
 have e3 : w.cell? ⟨T,j + k,none⟩ = some (.int .u32 (x2 : Int)):=hX.at hx2
 have e4:=hVc (k + 1) tp htp
 have e5:=hVc k v2 hv2
 have hnk1 : (n : Int) - 1 = ((k + 1 : Nat) : Int):=by omega
 have hnk2 : (n : Int) - 2 = (k : Int):=by omega
 obtain ⟨k1,hk1⟩ : ∃ k1,k + 1 = k1:=⟨_,rfl⟩
 rw [hk1] at hnk1 e2 e4
 have hnn1 : j + n < 9223372036854775808:=by omega
 have hwz : IntKind.u64.wrap (z : Int) = z:=wu64 (by unfold WB32 at hz32; omega)
 have hwzs : IntKind.u64.wrap (zs : Int) = zs:=wu64 (by unfold WB32 at *; omega)
 have hwy : IntKind.u64.wrap (y : Int) = y:=wu64 (by unfold WB32 at hy32; omega)
 have hwt : IntKind.u64.wrap (tp : Int) = tp:=wu64 (by unfold WB32 at ht32; omega)
 have hwk1 : IntKind.i64.wrap (k1 : Int) = k1:=wi64 (by omega) (by omega)
 have hwk : IntKind.i64.wrap (k : Int) = k:=wi64 (by omega) (by omega)
 have ht0 : ¬ ((tp : Int) = 0):=by omega
 have ht0b : ((tp : Int) == 0) = false:=by simp; omega
 have hwd0 : IntKind.u64.wrap (d0 : Int) = d0:=wu64 (by unfold WB32 at hd0b; omega)
 have hwr0 : IntKind.u64.wrap (r0 : Int) = r0:=wu64 (by unfold WB32 at ht32; omega)
 have hk1n : k1 < n + 1:=by omega
 have hk1n2 : k1 < n:=by omega
 have hkn : k < n + 1:=by omega
 have hkn2 : k < n:=by omega
 have HM:=Lib.hid hM
 have HUL:=Lib.hid hUl
 have HVD:=Lib.hid hVd
 have HUR:=Lib.hid hUrM
 have HVR:=Lib.hid hVrM
 have HU:=Lib.hid hU
 have HD:=Lib.hid hD
 have HH1:=Lib.hid hh1
 have HLT:=Lib.hid hlt
 have HX:=Lib.hid hX
 have HXL:=Lib.hid hXlt
 have HJ:=Lib.hid hj
 have HVL:=Lib.hid hVl
 have HVT:=Lib.hid hVlt
 have HVC:=Lib.hid hVc
 have HZ : Hid (X[j + n]? = some z):=Lib.hid (by rw [<- hn]; exact hz)
 have HDG0:=Lib.hid hdig0
 have HNE:=Lib.hid hne
 have HX32:=Lib.hid hx32
 have HV32:=Lib.hid hv32
 have HZ32:=Lib.hid hz32
 have HT32:=Lib.hid ht32
 have HE3:=Lib.hid e3
 have HE5:=Lib.hid e5
 have hw0 : IntKind.u32.wrap (z : Int) = z:=wu32 hz32
 have hr032 : r0 < WB32:=by omega
 clear hUl hVd hM hUrM hVrM hU hD hh1 hlt hX hXlt hj hVl hVlt hVc hx2 hy hz hv2 htp hUr hVr hhd hs0 hd0 hr0 hdig0 htop hzs hk1 hn hn3
 go_enter Tryz.func112,Tryz.ntmps112
 go_upto_region 2 with fail
 go_quiet (fail)
 go_upto_region 4 with fail
 go_quiet (fail)
 go_upto_block 0 with fail
 go_cut [8] from 47 to 75 (fun dv wc => ∃ (d kk : Nat),dv = .int .u64 d /\ Hid (DigEnd U D d) /\ Hid (wc = w.drewN kk))
 case first =>
  go_wp2_with fail
  go_loopw [8,9] (fun dv rv wr => ∃ (d r kk : Nat),dv = .int .u64 d /\ rv = .int .u64 r /\ r < WB32 /\ d <= WB32 + 1 /\ Hid (Dig U D hd tp d r) /\ Hid (wr = w.drewN kk)) (fun dv _ _ => (intOf dv).toNat)
  case atStart => exact ⟨d0,r0,_,rfl,rfl,hr032,hd0b,HDG0,Lib.hid (drewN_two _ _ _)⟩
  case round =>
   obtain ⟨d,r,kk,rfl,rfl,hr32,hdb,HDG,HWK⟩:=hrel
   obtain ⟨wo,rfl⟩ : ∃ wo : World,wo = wr:=⟨_,rfl⟩
   have HDOWN : Hid (U < d * D -> ∀ nq : Nat,1 <= d /\ Dig U D hd tp (d - 1) (r + tp) /\ wo.drewN nq = w.drewN (kk + nq)):=Lib.hid fun h nq => by
    obtain ⟨h1,h2⟩:=HDG.out.down h
    exact ⟨h1,h2,by rw [HWK.out]; exact drewN_two _ _ _⟩
   have HBRK : Hid (∀ d' : Nat,Dig U D hd tp d' (r + tp) -> WB32 <= r + tp -> DigEnd U D d'):=Lib.hid fun d' h hr => by
    rw [HUL.out,HVD.out] at h ⊢
    exact digEnd_break h (by omega) HVR.out HV32.out HH1.out hr
   obtain ⟨rt,hrt⟩ : ∃ x,r + tp = x:=⟨_,rfl⟩
   have hrti : (r : Int) + (tp : Int) = (rt : Int):=by omega
   have hwrt : IntKind.u64.wrap (rt : Int) = rt:=wu64 (by have := HT32.out; unfold WB32 at *; omega)
   rw [hrt] at HDOWN HBRK
   have HRT:=Lib.hid hrt
   clear hrt
   by_cases hbig : WB32 <= d
   ·have hge : decide ((4294967296 : Int) <= (d : Int)) = true:=decide_eq_true (by unfold WB32 at hbig; omega)
    have hU2 : U < d * D:=knu_base HLT.out hbig
    have hd1 : 1 <= d:=by unfold WB32 at hbig; omega
    obtain ⟨e,he⟩ : ∃ e,d - 1 = e:=⟨_,rfl⟩
    have hei : (d : Int) - 1 = (e : Int):=by omega
    have hwe : IntKind.u64.wrap (e : Int) = e:=wu64 (by unfold WB32 at hdb; omega)
    have HE:=Lib.hid he
    have HUD:=Lib.hid hU2
    clear hU2 he
    by_cases hrb : WB32 <= rt
    ·have hge2 : decide ((4294967296 : Int) <= (rt : Int)) = true:=decide_eq_true (by unfold WB32 at hrb; omega)
     go_upto_region 5 with fail
     go_quiet (fail)
     go_wp2_with fail
     obtain ⟨h1,h2,h3⟩:=HDOWN.out HUD.out nq
     rw [HE.out] at h2
     go_meet
     exact ⟨e,_,rfl,Lib.hid (HBRK.out e h2 hrb),Lib.hid h3⟩
    ·have hge2 : decide ((4294967296 : Int) <= (rt : Int)) = false:=decide_eq_false (by unfold WB32 at hrb; omega)
     go_upto_region 5 with fail
     go_quiet (fail)
     go_wp2_with fail
     obtain ⟨h1,h2,h3⟩:=HDOWN.out HUD.out nq
     rw [HE.out] at h2
     exact ⟨⟨e,rt,_,rfl,rfl,by omega,by omega,Lib.hid h2,Lib.hid h3⟩,by simp [intOf]; omega⟩
   ·have hge : decide ((4294967296 : Int) <= (d : Int)) = false:=decide_eq_false (by unfold WB32 at hbig; omega)
    obtain ⟨P,hP⟩ : ∃ P,d * v2 = P:=⟨_,rfl⟩
    have hPi : (d : Int) * (v2 : Int) = (P : Int):=by rw [<- hP]; simp
    have hP64 : P < 18446744073709551616:=by
     rw [<- hP]
     have h1 : d * v2 <= 4294967295 * 4294967295:=Nat.mul_le_mul (by unfold WB32 at hbig; omega) (by have := HV32.out; unfold WB32 at this; omega)
     omega
    obtain ⟨rs,hrs⟩ : ∃ s,r * WB32 = s:=⟨_,rfl⟩
    have hrsi : (r : Int) * 4294967296 = (rs : Int):=by unfold WB32 at hrs; omega
    obtain ⟨S,hS⟩ : ∃ S,r * WB32 + x2 = S:=⟨_,rfl⟩
    have hor2 : bits BinOp.or IntKind.u64 (rs : Int) (x2 : Int) = (S : Int):=by
     have h1:=HX32.out
     rw [u64_or_nat rs x2 (by unfold WB32 at *; omega) (by unfold WB32 at *; omega)]
     have := Nat.two_pow_add_eq_or_of_lt (i:=32) (show x2 < 2 ^ 32 from h1) r
     have e : rs = 2 ^ 32 * r:=by unfold WB32 at hrs; omega
     rw [e,<- this]; unfold WB32 at *; omega
    have hwrs : IntKind.u64.wrap (rs : Int) = rs:=wu64 (by unfold WB32 at *; omega)
    have hwP : IntKind.u64.wrap (P : Int) = P:=wu64 hP64
    have hwx2 : IntKind.u64.wrap (x2 : Int) = x2:=wu64 (by have := HX32.out; unfold WB32 at this; omega)
    have hwv2 : IntKind.u64.wrap (v2 : Int) = v2:=wu64 (by have := HV32.out; unfold WB32 at this; omega)
    have hwk:=HWK.out
    have e3 : wo.cell? ⟨T,j + k,none⟩ = some (.int .u32 (x2 : Int)):=by rw [hwk]; exact HE3.out
    have e5 : wo.cell? ⟨vb,vo + k,none⟩ = some (.int .u32 (v2 : Int)):=by rw [hwk]; exact HE5.out
    have HPP:=Lib.hid hP
    have HSS:=Lib.hid hS
    clear hP hrs hS hwk
    by_cases hgt : S < P
    ·have hgt2 : decide ((S : Int) < (P : Int)) = true:=decide_eq_true (by omega)
     have hU2 : U < d * D:=by
      have := knu_big (b:=WB32) (M:=M) (top:=tp) (v2:=v2) (Vr:=Vr) (head:=hd) (u2:=x2) (Ur:=Ur) (d:=d) (rest:=r) HUR.out HDG.out.eq (by rw [HSS.out,HPP.out]; exact hgt)
      rw [HUL.out,HVD.out]; exact this
     have hd1 : 1 <= d:=by
      rcases Nat.eq_zero_or_pos d with h | h
      ·rw [h,Nat.zero_mul] at hU2; omega
      ·exact h
     obtain ⟨e,he⟩ : ∃ e,d - 1 = e:=⟨_,rfl⟩
     have hei : (d : Int) - 1 = (e : Int):=by omega
     have hwe : IntKind.u64.wrap (e : Int) = e:=wu64 (by unfold WB32 at hdb; omega)
     have HE:=Lib.hid he
     have HUD:=Lib.hid hU2
     clear hU2 he
     by_cases hrb : WB32 <= rt
     ·have hge2 : decide ((4294967296 : Int) <= (rt : Int)) = true:=decide_eq_true (by unfold WB32 at hrb; omega)
      go_upto_region 5 with fail
      go_quiet (fail)
      go_wp2_with fail
      obtain ⟨h1,h2,h3⟩:=HDOWN.out HUD.out nq
      rw [HE.out] at h2
      go_meet
      exact ⟨e,_,rfl,Lib.hid (HBRK.out e h2 hrb),Lib.hid h3⟩
     ·have hge2 : decide ((4294967296 : Int) <= (rt : Int)) = false:=decide_eq_false (by unfold WB32 at hrb; omega)
      go_upto_region 5 with fail
      go_quiet (fail)
      go_wp2_with fail
      obtain ⟨h1,h2,h3⟩:=HDOWN.out HUD.out nq
      rw [HE.out] at h2
      exact ⟨⟨e,rt,_,rfl,rfl,by omega,by omega,Lib.hid h2,Lib.hid h3⟩,by simp [intOf]; omega⟩
    ·have hgt2 : decide ((S : Int) < (P : Int)) = false:=decide_eq_false (by omega)
     have hend : DigEnd U D d:=by
      have h:=HDG.out
      have h5:=HSS.out
      have h6:=HPP.out
      rw [HUL.out,HVD.out] at h ⊢
      exact digEnd_now h (by omega) HVR.out (by omega) (by omega)
     have HEND:=Lib.hid hend
     clear hend
     go_upto_region 5 with fail
     go_quiet (fail)
     go_wp2_with fail
     go_meet
     exact ⟨d,_,rfl,HEND,Lib.hid (by rw [HWK.out]; exact drewN_two _ _ _)⟩
 case rest =>
  obtain ⟨d,kk,rfl,HEND,HWK⟩:=hcut
  obtain ⟨W2,hW2⟩ : ∃ W2,W2 = wc:=⟨_,rfl⟩
  rw [<- hW2] at HWK ⊢
  clear hW2
  have hd32 : d < WB32:=HEND.out.lt
  have hg2 : w.grownBy W2 (some T):=by rw [HWK.out]; exact ⟨rfl,rfl,rfl,Nat.le_refl _,fun _ _ _ => rfl⟩
  have hx2' : RowB W2 T X:=by rw [HWK.out]; exact HX.out
  have HG2:=Lib.hid hg2
  have HXR2:=Lib.hid hx2'
  clear hg2 hx2' e1 e2 e4
  go_wp2_with fail
  go_loopw [10,11,78] (fun cv bb iv wr => ∃ (i c b : Nat) (Y : List Nat),i <= n /\ cv = .int .u64 c /\ bb = .int .u64 b /\ iv = .int .i64 i /\ c < WB32 /\ b <= 1 /\ Hid (Y.length = X.length) /\ Hid (∀ e ∈ Y,e < WB32) /\ Hid (bv WB32 (sg Y j i) + d * bv WB32 (V.take i) = bv WB32 (sg X j i) + WB32 ^ i * (b + c)) /\ Hid (∀ e,e < j \/ j + i <= e -> Y[e]? = X[e]?) /\ Hid (RowB wr T Y) /\ Hid (w.grownBy wr (some T))) (fun _ _ iv _ => n - (intOf iv).toNat)
  case atStart => exact ⟨0,0,0,X,Nat.zero_le _,rfl,rfl,rfl,by decide,by omega,Lib.hid rfl,HXL,Lib.hid (by simp [sg,bv]),Lib.hid (fun _ _ => rfl),HXR2,HG2⟩
  case round =>
   obtain ⟨i,c,b,Y,hi,rfl,rfl,rfl,hc32,hb1,HYL,HYT,HYV,HYK,HYR,HYG⟩:=hrel
   obtain ⟨wo,rfl⟩ : ∃ wo : World,wo = wr:=⟨_,rfl⟩
   by_cases hlt : i < n
   ·obtain ⟨v,hv⟩ : ∃ x,V[i]? = some x:=⟨_,List.getElem?_eq_getElem (by rw [HVL.out]; exact hlt)⟩
    have hv32:=HVT.out v (List.mem_of_getElem? hv)
    have e4 : wo.cell? ⟨vb,vo + i,none⟩ = some (.int .u32 (v : Int)):=HYG.out.cell (HVC.out i v hv) (by simpa using HNE.out)
    obtain ⟨x,hx⟩ : ∃ x,X[j + i]? = some x:=⟨_,List.getElem?_eq_getElem (by have := HJ.out; omega)⟩
    have hx32:=HXL.out x (List.mem_of_getElem? hx)
    have hxY : Y[j + i]? = some x:=by rw [HYK.out (j + i) (by omega)]; exact hx
    have e1 : wo.cell? ⟨T,j + i,none⟩ = some (.int .u32 (x : Int)):=HYR.out.at hxY
    have f1 : wo.frozen? ⟨T,j + i,none⟩ = false:=HYR.out.free (j + i)
    obtain ⟨hS64,hcn,nw,b',hnw,hb',heq⟩:=sub_digit hd32 hv32 hc32 hx32 hb1
    obtain ⟨P,hP⟩ : ∃ P,d * v = P:=⟨_,rfl⟩
    have hPi : (d : Int) * (v : Int) = (P : Int):=by rw [<- hP]; simp
    rw [hP] at hS64 hcn heq
    obtain ⟨S,hS⟩ : ∃ S,P + c = S:=⟨_,rfl⟩
    have hSi : (P : Int) + (c : Int) = (S : Int):=by omega
    rw [hS] at hS64 hcn heq
    obtain ⟨lo,hlo⟩ : ∃ lo,S % WB32 = lo:=⟨_,rfl⟩
    obtain ⟨cn,hcne⟩ : ∃ cn,S / WB32 = cn:=⟨_,rfl⟩
    rw [hlo] at heq
    rw [hcne] at hcn
    obtain ⟨F,hF⟩ : ∃ F,x + 18446744073709551616 * b' - lo - b = F:=⟨_,rfl⟩
    have hlo32 : lo < WB32:=by rw [<- hlo]; exact Nat.mod_lt _ (by decide)
    have hb01 : b' = 0 \/ b' = 1:=by omega
    obtain ⟨F1,hF1⟩ : ∃ F1,(x + 18446744073709551616 - lo) % 18446744073709551616 = F1:=⟨_,rfl⟩
    have hF1w : IntKind.u64.wrap ((x : Int) - (lo : Int)) = (F1 : Int):=by
     unfold WB32 at *
     simp [IntKind.wrap,IntKind.bits,IntKind.signed]
     omega
    have hF2w : IntKind.u64.wrap ((F1 : Int) - (b : Int)) = (F : Int):=by
     unfold WB32 at *
     simp [IntKind.wrap,IntKind.bits,IntKind.signed]
     rcases hb01 with h | h <;> subst h <;> omega
    have hFw : IntKind.u32.wrap (F : Int) = (nw : Int):=by
     unfold WB32 at *
     simp [IntKind.wrap,IntKind.bits,IntKind.signed]
     rcases hb01 with h | h <;> subst h <;> omega
    have hFm : (F : Int) % 4294967296 = (nw : Int):=by
     unfold WB32 at *
     rcases hb01 with h | h <;> subst h <;> omega
    have hFb : (F : Int) / 9223372036854775808 = (b' : Int):=by
     unfold WB32 at *
     rcases hb01 with h | h <;> subst h <;> omega
    have hSd : (S : Int) / 4294967296 = (cn : Int):=by unfold WB32 at *; omega
    have hSw : IntKind.u32.wrap (S : Int) = (lo : Int):=by unfold WB32 at *; simp [IntKind.wrap,IntKind.bits,IntKind.signed]; omega
    have hwP : IntKind.u64.wrap (P : Int) = P:=wu64 (by omega)
    have hwS : IntKind.u64.wrap (S : Int) = S:=wu64 (by omega)
    have hwv : IntKind.u64.wrap (v : Int) = v:=wu64 (by unfold WB32 at *; omega)
    have hwx : IntKind.u64.wrap (x : Int) = x:=wu64 (by unfold WB32 at *; omega)
    have hwlo : IntKind.u64.wrap (lo : Int) = lo:=wu64 (by unfold WB32 at *; omega)
    have hY2 : bv WB32 (sg (Y.set (j + i) nw) j (i + 1)) + d * bv WB32 (V.take (i + 1)) = bv WB32 (sg X j (i + 1)) + WB32 ^ (i + 1) * (b' + cn):=by
     have hlY : j + i < Y.length:=by rw [HYL.out]; have := HJ.out; omega
     rw [sg_set hlY,bv_take_succ hv,sg_succ hx,Nat.mul_add d,Nat.mul_left_comm d,hP]
     refine sub_step (y:=P) (c:=b + c) (sg_len (by omega)) HYV.out ?_
     unfold WB32 at *
     omega
    have HY2:=Lib.hid hY2
    have HR2:=Lib.hid (HYR.out.set (j + i) nw)
    have HG3 : Hid (w.grownBy (wo.setCell ⟨T,j + i,none⟩ (.int .u32 (nw : Int))) (some T)):=Lib.hid (grown_trans3 HYG.out (grownBy_setCell _ _ _ _))
    have HK2 : Hid (∀ e,e < j \/ j + (i + 1) <= e -> (Y.set (j + i) nw)[e]? = X[e]?):=Lib.hid (fun e he => by rw [List.getElem?_set_ne (by omega)]; exact HYK.out e (by omega))
    have HT2 : Hid (∀ e ∈ Y.set (j + i) nw,e < WB32):=Lib.hid (lt_set HYT.out hnw)
    have HL2 : Hid ((Y.set (j + i) nw).length = X.length):=Lib.hid (by rw [List.length_set]; exact HYL.out)
    clear hv hx hxY hP hS hlo hcne hF hF1 hY2 heq hb01
    go_wp2_with fail
    exact ⟨⟨i + 1,cn,b',Y.set (j + i) nw,by omega,rfl,rfl,by go_num,hcn,hb',HL2,HT2,HY2,HK2,HR2,HG3⟩,by simp [intOf]; omega⟩
   ·obtain rfl : n = i:=by omega
    have hsY:=HYV.out
    rw [List.take_of_length_le (by rw [HVL.out]; exact Nat.le_refl _),HD.out] at hsY
    have hUz : bv WB32 (sg X j n) + WB32 ^ n * z = U:=by rw [<- HU.out]; exact (sg_succ HZ.out).symm
    have hzY : Y[j + n]? = some z:=by rw [HYK.out (j + n) (by omega)]; exact HZ.out
    have e1 : wo.cell? ⟨T,j + n,none⟩ = some (.int .u32 (z : Int)):=HYR.out.at hzY
    have f1 : wo.frozen? ⟨T,j + n,none⟩ = false:=HYR.out.free (j + n)
    have hz3:=HZ32.out
    have hYn : bv WB32 (sg Y j n) < WB32 ^ n:=by
     have := bv_lt (sg Y j n) (sg_lt HYT.out)
     rwa [sg_len (by rw [HYL.out]; have := HJ.out; omega)] at this
    obtain ⟨Bn',hBn⟩ : ∃ b,WB32 ^ n = b:=⟨_,rfl⟩
    rw [hBn] at hsY hUz hYn
    have HSY:=Lib.hid hsY
    have HUZ:=Lib.hid hUz
    have HYN:=Lib.hid hYn
    have HBN:=Lib.hid hBn
    have HZY:=Lib.hid hzY
    have hwz' : IntKind.u64.wrap (z : Int) = z:=wu64 (by unfold WB32 at *; omega)
    have hwd : IntKind.u32.wrap (d : Int) = d:=wu32 hd32
    have hjY : j + n < Y.length:=by rw [HYL.out]; exact HJ.out
    have HJY:=Lib.hid hjY
    clear hsY hUz hzY hYn hBn hjY hi hlt
    by_cases hge : c + b <= z
    ·obtain ⟨F,hF⟩ : ∃ F,z - (c + b) = F:=⟨_,rfl⟩
     have hF1i : (z : Int) - (c : Int) = ((z - c : Nat) : Int):=by omega
     obtain ⟨F1,hF1⟩ : ∃ F1,z - c = F1:=⟨_,rfl⟩
     rw [hF1] at hF1i
     have hF2i : (F1 : Int) - (b : Int) = (F : Int):=by omega
     have hwF1 : IntKind.u64.wrap (F1 : Int) = F1:=wu64 (by unfold WB32 at *; omega)
     have hwF : IntKind.u64.wrap (F : Int) = F:=wu64 (by unfold WB32 at *; omega)
     have hwFu : IntKind.u32.wrap (F : Int) = F:=wu32 (by unfold WB32 at *; omega)
     have hFm : (F : Int) % 4294967296 = (F : Int):=by unfold WB32 at *; omega
     have hFb : (F : Int) / 9223372036854775808 = 0:=by unfold WB32 at *; omega
     have hres : bv WB32 (sg (Y.set (j + n) F) j (n + 1)) + d * D = U:=by
      rw [sg_set HJY.out,bv_snoc,sg_len (by have := HJY.out; omega),HBN.out]
      have h1:=HSY.out
      have h2:=HUZ.out
      have h3 : Bn' * z = Bn' * (b + c) + Bn' * F:=by rw [<- Nat.mul_add]; congr 1; omega
      omega
     have hdv : U / D = d /\ U % D = bv WB32 (sg (Y.set (j + n) F) j (n + 1)):=by
      have hD0 : 0 < D:=by
       rcases Nat.eq_zero_or_pos D with h | h
       ·have := HEND.out.low; rw [h] at this; simp at this
       ·exact h
      have h1:=HEND.out.low
      rw [Nat.add_mul,Nat.one_mul] at h1
      exact (Nat.div_mod_unique hD0).2 ⟨by rw [Nat.mul_comm D d]; omega,by omega⟩
     have HDV:=Lib.hid hdv
     have HR2:=Lib.hid (HYR.out.set (j + n) F)
     have HG3 : Hid (w.grownBy (wo.setCell ⟨T,j + n,none⟩ (.int .u32 (F : Int))) (some T)):=Lib.hid (grown_trans3 HYG.out (grownBy_setCell _ _ _ _))
     have HK2 : Hid (∀ e,e < j \/ j + (n + 1) <= e -> (Y.set (j + n) F)[e]? = X[e]?):=Lib.hid (fun e he => by rw [List.getElem?_set_ne (by omega)]; exact HYK.out e (by omega))
     have HT2 : Hid (∀ e ∈ Y.set (j + n) F,e < WB32):=Lib.hid (lt_set HYT.out (by omega))
     have HL2 : Hid ((Y.set (j + n) F).length = X.length):=Lib.hid (by rw [List.length_set]; exact HYL.out)
     clear hF hF1 hres hdv
     go_wp2_with fail
     go_ret
     exact ⟨Y.set (j + n) F,by rw [HDV.out.1]; rfl,HR2.out,HL2.out,HT2.out,HDV.out.2.symm,HK2.out,HG3.out⟩
    ·obtain ⟨t,ht⟩ : ∃ t,WB32 + z - (c + b) = t:=⟨_,rfl⟩
     have ht32' : t < WB32:=by unfold WB32 at *; omega
     obtain ⟨F,hF⟩ : ∃ F,18446744073709551616 + z - (c + b) = F:=⟨_,rfl⟩
     obtain ⟨F1,hF1⟩ : ∃ F1,(z + 18446744073709551616 - c) % 18446744073709551616 = F1:=⟨_,rfl⟩
     have hF1w : IntKind.u64.wrap ((z : Int) - (c : Int)) = (F1 : Int):=by
      unfold WB32 at *
      simp [IntKind.wrap,IntKind.bits,IntKind.signed]
      omega
     have hF2w : IntKind.u64.wrap ((F1 : Int) - (b : Int)) = (F : Int):=by
      unfold WB32 at *
      simp [IntKind.wrap,IntKind.bits,IntKind.signed]
      omega
     have hFw : IntKind.u32.wrap (F : Int) = (t : Int):=by
      unfold WB32 at *
      simp [IntKind.wrap,IntKind.bits,IntKind.signed]
      omega
     have hFm : (F : Int) % 4294967296 = (t : Int):=by unfold WB32 at *; omega
     have hFb : (F : Int) / 9223372036854775808 = 1:=by unfold WB32 at *; omega
     have HT3:=Lib.hid ht
     have HR2:=Lib.hid (HYR.out.set (j + n) t)
     have HG3 : Hid (w.grownBy (wo.setCell ⟨T,j + n,none⟩ (.int .u32 (t : Int))) (some T)):=Lib.hid (grown_trans3 HYG.out (grownBy_setCell _ _ _ _))
     have HGE:=Lib.hid hge
     clear ht hF hF1 hge
     go_upto_region 24 with fail
     obtain ⟨W3,hW3⟩ : ∃ W,wo.setCell ⟨T,j + n,none⟩ (.int .u32 (t : Int)) = W:=⟨_,rfl⟩
     rw [hW3] at HR2 HG3 ⊢
     obtain ⟨Y3,hY3⟩ : ∃ Y3,Y.set (j + n) t = Y3:=⟨_,rfl⟩
     have hYlow : sg Y3 j n = sg Y j n:=by rw [<- hY3]; exact sg_set_low (Nat.le_refl _)
     have hY3l : Y3.length = X.length:=by rw [<- hY3,List.length_set]; exact HYL.out
     have hY3t : ∀ e ∈ Y3,e < WB32:=by rw [<- hY3]; exact lt_set HYT.out ht32'
     have hY3k : ∀ e,e < j \/ j + (n + 1) <= e -> Y3[e]? = X[e]? := fun e he => by rw [<- hY3,List.getElem?_set_ne (by omega)]; exact HYK.out e (by omega)
     have hY3n : Y3[j + n]? = some t:=by rw [<- hY3]; exact List.getElem?_set_self HJY.out
     rw [hY3] at HR2
     have HYLOW:=Lib.hid hYlow
     have HY3L:=Lib.hid hY3l
     have HY3T:=Lib.hid hY3t
     have HY3K:=Lib.hid hY3k
     have HY3N:=Lib.hid hY3n
     clear hW3 hY3 hYlow hY3l hY3t hY3k hY3n e1 f1 hFb hFm hFw hF2w hF1w
     go_wp2_with fail
     go_loopw [17,131] (fun uv iv wr => ∃ (i up : Nat) (Q : List Nat),i <= n /\ uv = .int .u32 up /\ iv = .int .i64 i /\ up <= 1 /\ Hid (Q.length = X.length) /\ Hid (∀ e ∈ Q,e < WB32) /\ Hid (bv WB32 (sg Q j i) + WB32 ^ i * up = bv WB32 (sg Y3 j i) + bv WB32 (V.take i)) /\ Hid (∀ e,e < j \/ j + i <= e -> Q[e]? = Y3[e]?) /\ Hid (RowB wr T Q) /\ Hid (w.grownBy wr (some T))) (fun _ iv _ => n - (intOf iv).toNat)
     case atStart => exact ⟨0,0,Y3,Nat.zero_le _,rfl,rfl,by omega,HY3L,HY3T,Lib.hid (by simp [sg,bv]),Lib.hid (fun _ _ => rfl),HR2,HG3⟩
     case round =>
      obtain ⟨i,up,Q,hi,rfl,rfl,hup,HQL,HQT,HQV,HQK,HQR,HQG⟩:=hrel
      obtain ⟨wq,rfl⟩ : ∃ wq : World,wq = wr:=⟨_,rfl⟩
      by_cases hlt : i < n
      ·obtain ⟨v,hv⟩ : ∃ x,V[i]? = some x:=⟨_,List.getElem?_eq_getElem (by rw [HVL.out]; exact hlt)⟩
       have hv32:=HVT.out v (List.mem_of_getElem? hv)
       have e4 : wq.cell? ⟨vb,vo + i,none⟩ = some (.int .u32 (v : Int)):=HQG.out.cell (HVC.out i v hv) (by simpa using HNE.out)
       obtain ⟨x,hx⟩ : ∃ x,Y3[j + i]? = some x:=⟨_,List.getElem?_eq_getElem (by rw [HY3L.out]; have := HJ.out; omega)⟩
       have hx32:=HY3T.out x (List.mem_of_getElem? hx)
       have hxQ : Q[j + i]? = some x:=by rw [HQK.out (j + i) (by omega)]; exact hx
       have e1 : wq.cell? ⟨T,j + i,none⟩ = some (.int .u32 (x : Int)):=HQR.out.at hxQ
       have f1 : wq.frozen? ⟨T,j + i,none⟩ = false:=HQR.out.free (j + i)
       have hadd:=add32_any x v up hx32 hv32 hup wq
       have HADD:=Lib.hid hadd
       have HV:=Lib.hid hv
       have HXX:=Lib.hid hx
       clear hv hx hxQ hadd
       go_wp2_with fail
       refine HADD.out.mono ?_
       clear HADD
       rintro e w5 ⟨s,b',rfl,hs32,hb',hsum,rfl⟩
       have hQ2 : bv WB32 (sg (Q.set (j + i) s) j (i + 1)) + WB32 ^ (i + 1) * b' = bv WB32 (sg Y3 j (i + 1)) + bv WB32 (V.take (i + 1)):=by
        have hlQ : j + i < Q.length:=by rw [HQL.out]; have := HJ.out; omega
        rw [sg_set hlQ,bv_snoc,sg_len (by omega),bv_take_succ HV.out,sg_succ HXX.out,Nat.pow_succ,Nat.mul_assoc]
        have h1:=HQV.out
        have h2 : WB32 ^ i * s + WB32 ^ i * (WB32 * b') = WB32 ^ i * x + WB32 ^ i * v + WB32 ^ i * up:=by
         rw [<- Nat.mul_add,hsum,Nat.mul_add,Nat.mul_add]
        omega
       have HQ2:=Lib.hid hQ2
       have HR4:=Lib.hid (HQR.out.set (j + i) s)
       have HG4 : Hid (w.grownBy (wq.setCell ⟨T,j + i,none⟩ (.int .u32 (s : Int))) (some T)):=Lib.hid (grown_trans3 HQG.out (grownBy_setCell _ _ _ _))
       have HK4 : Hid (∀ e,e < j \/ j + (i + 1) <= e -> (Q.set (j + i) s)[e]? = Y3[e]?):=Lib.hid (fun e he => by rw [List.getElem?_set_ne (by omega)]; exact HQK.out e (by omega))
       have HT4 : Hid (∀ e ∈ Q.set (j + i) s,e < WB32):=Lib.hid (lt_set HQT.out hs32)
       have HL4 : Hid ((Q.set (j + i) s).length = X.length):=Lib.hid (by rw [List.length_set]; exact HQL.out)
       clear hQ2 hsum
       go_wp2_with fail
       exact ⟨⟨i + 1,b',Q.set (j + i) s,by omega,rfl,by go_num,hb',HL4,HT4,HQ2,HK4,HR4,HG4⟩,by simp [intOf]; omega⟩
      ·obtain rfl : n = i:=by omega
       have hQV:=HQV.out
       rw [List.take_of_length_le (by rw [HVL.out]; exact Nat.le_refl _),HD.out,HYLOW.out,HBN.out] at hQV
       have hQn : bv WB32 (sg Q j n) < Bn':=by
        have := bv_lt (sg Q j n) (sg_lt HQT.out)
        rwa [sg_len (by rw [HQL.out]; have := HJ.out; omega),HBN.out] at this
       have hend:=HEND.out
       have h1:=HSY.out
       have h2:=HUZ.out
       have h3:=hend.high
       have h6:=HGE.out
       have hcb : c + b = z + 1 /\ up = 1:=by
        have h4 : Bn' * (b + c) < Bn' * (1 + up + z):=by
         rw [Nat.mul_add Bn' (1 + up) z,Nat.mul_add Bn' 1 up,Nat.mul_one]
         omega
        have h5:=Nat.lt_of_mul_lt_mul_left h4
        omega
       obtain ⟨hcz,rfl⟩:=hcb
       have ht1 : t = WB32 - 1:=by have := HT3.out; unfold WB32 at *; omega
       have hnQ : Q[j + n]? = some t:=by rw [HQK.out (j + n) (by omega)]; exact HY3N.out
       have e1 : wq.cell? ⟨T,j + n,none⟩ = some (.int .u32 (t : Int)):=HQR.out.at hnQ
       have f1 : wq.frozen? ⟨T,j + n,none⟩ = false:=HQR.out.free (j + n)
       have hfin : bv WB32 (sg (Q.set (j + n) 0) j (n + 1)) + d * D = U + D:=by
        rw [sg_set (by rw [HQL.out]; exact HJ.out),bv_snoc,Nat.mul_zero,Nat.add_zero]
        have h4 : Bn' * (b + c) = Bn' * z + Bn':=by rw [show b + c = z + 1 by omega,Nat.mul_add,Nat.mul_one]
        omega
       have hneg : U < d * D:=by
        have h4 : Bn' * (b + c) = Bn' * z + Bn':=by rw [show b + c = z + 1 by omega,Nat.mul_add,Nat.mul_one]
        have h5:=HYN.out
        omega
       have hd1 : 1 <= d:=by
        rcases Nat.eq_zero_or_pos d with h | h
        ·rw [h] at hneg; simp at hneg
        ·exact h
       obtain ⟨g,hg⟩ : ∃ g,d - 1 = g:=⟨_,rfl⟩
       have hgi : (d : Int) - 1 = (g : Int):=by omega
       have hdg : d * D = g * D + D:=by rw [show d = g + 1 by omega,Nat.add_mul,Nat.one_mul]
       have hdv : U / D = g /\ U % D = bv WB32 (sg (Q.set (j + n) 0) j (n + 1)):=by
        have hD0 : 0 < D:=by
         rcases Nat.eq_zero_or_pos D with h | h
         ·rw [h] at hneg; simp at hneg
         ·exact h
        exact (Nat.div_mod_unique hD0).2 ⟨by rw [Nat.mul_comm D g]; omega,by omega⟩
       have htm : ((t : Int) + 1) % 4294967296 = 0:=by unfold WB32 at ht1; omega
       have htw : IntKind.u32.wrap ((t : Int) + 1) = 0:=by unfold WB32 at ht1; simp [IntKind.wrap,IntKind.bits,IntKind.signed]; omega
       have hwg : IntKind.u64.wrap (g : Int) = g:=wu64 (by unfold WB32 at *; omega)
       have hwg2 : IntKind.u32.wrap (g : Int) = g:=wu32 (by unfold WB32 at *; omega)
       have HDV:=Lib.hid hdv
       have HR5:=Lib.hid (HQR.out.set (j + n) 0)
       have HG5 : Hid (w.grownBy (wq.setCell ⟨T,j + n,none⟩ (.int .u32 ((0 : Nat) : Int))) (some T)):=Lib.hid (grown_trans3 HQG.out (grownBy_setCell _ _ _ _))
       have HK5 : Hid (∀ e,e < j \/ j + (n + 1) <= e -> (Q.set (j + n) 0)[e]? = X[e]?):=Lib.hid (fun e he => by rw [List.getElem?_set_ne (by omega),HQK.out e (by omega)]; exact HY3K.out e he)
       have HT5 : Hid (∀ e ∈ Q.set (j + n) 0,e < WB32):=Lib.hid (lt_set HQT.out (by decide))
       have HL5 : Hid ((Q.set (j + n) 0).length = X.length):=Lib.hid (by rw [List.length_set]; exact HQL.out)
       clear hQV hQn hend h1 h2 h3 h6 hcz ht1 hnQ hfin hneg hg hdg hdv
       go_wp2_with fail
       go_ret
       exact ⟨Q.set (j + n) 0,by rw [HDV.out.1]; rfl,HR5.out,HL5.out,HT5.out,HDV.out.2.symm,HK5.out,HG5.out⟩
end Go.Proofs.YtlldjmagbjjeoaaGreat
namespace Go.Proofs
open Go.Shelf
def Tryz.lays133_ren : Go.Shelf.Ren:=⟨fun | 133 => 110 | 128 => 118 | n => n,fun | 51 => 130 | 3 => 3 | 4 => 4 | 46 => 89 | 5 => 5 | 9 => 9 | n => n,fun | n => n⟩
theorem Tryz.lays133 : Go.Proofs.Lays.n133 Tryz.prog Tryz.lays133_ren:={
 mixed:=by kernel_rfl
 f128:=Tryz.func118.trans (congrArg some (by kernel_rfl))
 f133:=Tryz.func110.trans (congrArg some (by kernel_rfl))
 t3:=Tryz.underlying3
 a3:=Tryz.isAgg3
 z3:=Tryz.sizeOf3
 v3:=Tryz.zeroValue3
 t4:=Tryz.underlying4
 a4:=Tryz.isAgg4
 z4:=Tryz.sizeOf4
 v4:=Tryz.zeroValue4
 t5:=Tryz.underlying5
 a5:=Tryz.isAgg5
 z5:=Tryz.sizeOf5
 v5:=Tryz.zeroValue5
 t9:=Tryz.underlying9
 a9:=Tryz.isAgg9
 z9:=Tryz.sizeOf9
 v9:=Tryz.zeroValue9
 t46:=Tryz.underlying89
 a46:=Tryz.isAgg89
 z46:=Tryz.sizeOf89
 v46:=Tryz.zeroValue89
 t51:=Tryz.underlying130
 a51:=Tryz.isAgg130
 z51:=Tryz.sizeOf130
 v51:=Tryz.zeroValue130 }
theorem Tryz.bits_LeadingZeros32 (x : Int) (w : World) (h0 : 0 <= x) (h1 : x <= 4294967295) :
  Calls Tryz.prog 110 #[.int .u32 x] w fun e w' => e = .returned (.int .i64 (32 - (Lib.bitLen x.toNat : Int))) /\ w' = w:=Any.bits_LeadingZeros32 Tryz.lays133 x w h0 h1
end Go.Proofs
namespace Go.Proofs.YtlldjmagbjjeoaaGreat
open Go.RowKit
set_option linter.unusedVariables false
theorem nlz_any (x : Nat) (hx : x < WB32) (h0 : x ≠ 0) (w : World) : ∃ s : Nat,s < 32 /\ x * 2 ^ s < WB32 /\ 2147483648 <= x * 2 ^ s /\ Calls Tryz.prog 110 #[.int .u32 x] w fun e w' => e = .returned (.int .i64 s) /\ w' = w:=by
 have hx64 : x < 2 ^ 64:=by unfold WB32 at hx; omega
 obtain ⟨h1,h2,h3⟩:=Lib.bitLenAux_bounds 64 x hx64 h0
 have e : Lib.bitLen x = Lib.bitLenAux 64 x:=rfl
 obtain ⟨b,hb⟩ : ∃ b,Lib.bitLenAux 64 x = b:=⟨_,rfl⟩
 rw [hb] at h1 h2 h3 e
 have hb32 : b <= 32:=by
  rcases Nat.lt_or_ge 32 b with h | h
  ·have h4 : 2 ^ 32 <= 2 ^ (b - 1):=Nat.pow_le_pow_right (by omega) (by omega)
   unfold WB32 at hx
   omega
  ·exact h
 refine ⟨32 - b,by omega,?_,?_,?_⟩
 ·have h4 : x * 2 ^ (32 - b) < 2 ^ b * 2 ^ (32 - b):=Nat.mul_lt_mul_of_pos_right h3 (Nat.pow_pos (by omega))
  rw [<- Nat.pow_add,show b + (32 - b) = 32 by omega] at h4
  exact h4
 ·have h4 : 2 ^ (b - 1) * 2 ^ (32 - b) <= x * 2 ^ (32 - b):=Nat.mul_le_mul_right _ h2
  rw [<- Nat.pow_add,show b - 1 + (32 - b) = 31 by omega] at h4
  exact h4
 ·have := Tryz.bits_LeadingZeros32 x w (by omega) (by unfold WB32 at hx; omega)
  rw [Int.toNat_natCast,e] at this
  rw [show ((32 - b : Nat) : Int) = 32 - (b : Int) by omega]
  exact this
theorem bv_low {l : List Nat} {k x : Nat} (hl : l.length = k + 1) (hx : l[k]? = some x) : bv WB32 l = bv WB32 (l.take k) + WB32 ^ k * x:=by
 have : l = l.take (k + 1):=(List.take_of_length_le (by omega)).symm
 conv => lhs; rw [this]
 exact bv_take_succ hx
theorem shift_divisor {lb X : List Nat} {k t s : Nat} (hl : lb.length = k + 1) (hlt : ∀ d ∈ lb,d < WB32) (ht : lb[k]? = some t) (hs : s < 32) (h1 : t * 2 ^ s < WB32) (h2 : 2147483648 <= t * 2 ^ s)
  (hX : X.length = k + 2) (hXt : ∀ d ∈ X,d < WB32) (hXv : bv WB32 X = bv WB32 lb * 2 ^ s) :
  bv WB32 (X.take (k + 1)) = bv WB32 lb * 2 ^ s /\ ∀ y,(X.take (k + 1))[k]? = some y -> 2147483648 <= y:=by
 obtain ⟨P,hP⟩ : ∃ P,2 ^ s = P:=⟨_,rfl⟩
 have hPB : 2 ^ s * 2 ^ (32 - s) = WB32:=by rw [<- Nat.pow_add,show s + (32 - s) = 32 by omega]
 rw [hP] at h1 h2 hXv hPB ⊢
 obtain ⟨M,hM⟩ : ∃ M,WB32 ^ k = M:=⟨_,rfl⟩
 have hM0 : 0 < M:=by rw [<- hM]; exact Nat.pow_pos (by decide)
 have hb:=bv_low hl ht
 have hbl:=bv_lt (lb.take k) (fun d hd => hlt d (List.mem_of_mem_take hd))
 rw [List.length_take,hl,show min k (k + 1) = k by omega] at hbl
 rw [hM] at hb hbl
 have hP0 : 0 < P:=by rw [<- hP]; exact Nat.pow_pos (by omega)
 obtain ⟨x,hx⟩ : ∃ x,X[k + 1]? = some x:=⟨_,List.getElem?_eq_getElem (by omega)⟩
 obtain ⟨y,hy⟩ : ∃ y,X[k]? = some y:=⟨_,List.getElem?_eq_getElem (by omega)⟩
 have hXb:=bv_low hX hx
 have hXk : bv WB32 (X.take (k + 1)) = bv WB32 (X.take k) + M * y:=by rw [bv_take_succ hy,hM]
 have hXl:=bv_lt (X.take k) (fun d hd => hXt d (List.mem_of_mem_take hd))
 rw [List.length_take,hX,show min k (k + 2) = k by omega,hM] at hXl
 have hy32:=hXt y (List.mem_of_getElem? hy)
 have hmul : bv WB32 lb * P < M * WB32:=by
  have h3 : bv WB32 lb < M * (t + 1):=by rw [hb,Nat.mul_add,Nat.mul_one]; omega
  have h4 : (t + 1) * P <= WB32:=by
   have hCP : 2 ^ (32 - s) * P = WB32:=by rw [Nat.mul_comm]; exact hPB
   have h5 : t * P < 2 ^ (32 - s) * P:=by rw [hCP]; exact h1
   have h6:=Nat.lt_of_mul_lt_mul_right h5
   have h7 : (t + 1) * P <= 2 ^ (32 - s) * P:=Nat.mul_le_mul_right _ h6
   rw [hCP] at h7
   exact h7
  have h5 : bv WB32 lb * P < M * (t + 1) * P:=Nat.mul_lt_mul_of_pos_right h3 hP0
  have h6 : M * ((t + 1) * P) <= M * WB32:=Nat.mul_le_mul_left _ h4
  rw [Nat.mul_assoc] at h5
  omega
 have hx0 : x = 0:=by
  rcases Nat.eq_zero_or_pos x with h | h
  ·exact h
  ·have h3 : WB32 ^ (k + 1) * 1 <= WB32 ^ (k + 1) * x:=Nat.mul_le_mul_left _ h
   rw [Nat.mul_one] at h3
   have h4 : WB32 ^ (k + 1) = M * WB32:=by rw [Nat.pow_succ,hM]
   omega
 have hv : bv WB32 (X.take (k + 1)) = bv WB32 lb * P:=by
  rw [hx0,Nat.mul_zero] at hXb
  rw [<- hXv]; exact hXb.symm
 refine ⟨hv,fun y' hy' => ?_⟩
 rw [List.getElem?_take_of_lt (by omega),hy] at hy'
 cases hy'
 have h3 : M * (t * P) <= bv WB32 lb * P:=by
  rw [hb,Nat.add_mul,Nat.mul_assoc]; omega
 rw [<- hv,hXk] at h3
 have h4 : M * 2147483648 <= M * (t * P):=Nat.mul_le_mul_left _ h2
 have h5 : M * 2147483648 < M * (y + 1):=by rw [Nat.mul_add,Nat.mul_one]; omega
 have h6:=Nat.lt_of_mul_lt_mul_left h5
 omega
structure Dvn (X2 X Q : List Nat) (D n i : Nat) : Prop where
 val : bv WB32 X2 = WB32 ^ i * (bv WB32 (Q.drop i) * D) + (bv WB32 (X.take i) + WB32 ^ i * bv WB32 (sg X i n))
 low : bv WB32 (sg X i n) < D
 zero : X[i + n]?.getD 0 = 0
theorem dvn_head {X : List Nat} {j n x : Nat} (hx : X[j]? = some x) : bv WB32 (sg X j (n + 1)) = x + WB32 * bv WB32 (sg X (j + 1) n):=by
 unfold sg
 have hj:=(List.getElem?_eq_some_iff.1 hx).1
 rw [List.drop_eq_getElem_cons hj,List.take_succ_cons,bv]
 have : X[j] = x:=by have := List.getElem?_eq_getElem hj; rw [hx] at this; cases this; rfl
 rw [this]
theorem Dvn.step {X2 X X' Q : List Nat} {D n j q : Nat} (h : Dvn X2 X Q D n (j + 1)) (hXl : j + n < X.length) (hXt : ∀ d ∈ X,d < WB32) (hX't : ∀ d ∈ X',d < WB32) (hX'l : X'.length = X.length) (hDn : D < WB32 ^ n) (hD0 : 0 < D) (hQ : j < Q.length)
  (hq : q = bv WB32 (sg X j (n + 1)) / D) (hr : bv WB32 (sg X' j (n + 1)) = bv WB32 (sg X j (n + 1)) % D) (hk : ∀ i,i < j \/ j + (n + 1) <= i -> X'[i]? = X[i]?) : Dvn X2 X' (Q.set j q) D n j:=by
 obtain ⟨x,hx⟩ : ∃ x,X[j]? = some x:=⟨_,List.getElem?_eq_getElem (by omega)⟩
 obtain ⟨z,hz⟩ : ∃ z,X'[j + n]? = some z:=⟨_,List.getElem?_eq_getElem (by omega)⟩
 have hU:=dvn_head (n:=n) hx
 have hrl : bv WB32 (sg X' j (n + 1)) < D:=by rw [hr]; exact Nat.mod_lt _ hD0
 have hs0:=sg_succ hz
 have hz0 : z = 0:=by
  rcases Nat.eq_zero_or_pos z with h0 | h0
  ·exact h0
  ·have h3 : WB32 ^ n * 1 <= WB32 ^ n * z:=Nat.mul_le_mul_left _ h0
   omega
 rw [hz0,Nat.mul_zero] at hs0
 have hs : bv WB32 (sg X' j (n + 1)) = bv WB32 (sg X' j n):=hs0
 have htk : X'.take j = X.take j:=by
  apply List.ext_getElem?
  intro i
  by_cases hi : i < j
  ·rw [List.getElem?_take_of_lt hi,List.getElem?_take_of_lt hi,hk i (.inl hi)]
  ·rw [List.getElem?_take_eq_none (by omega),List.getElem?_take_eq_none (by omega)]
 refine ⟨?_,by rw [<- hs]; exact hrl,by rw [hz,hz0]; rfl⟩
 rw [set_drop hQ,bv,htk,<- hs,hr]
 have h1:=h.val
 rw [bv_take_succ hx] at h1
 have h2:=Nat.div_add_mod (bv WB32 (sg X j (n + 1))) D
 rw [<- hq] at h2
 obtain ⟨M,hM⟩ : ∃ M,WB32 ^ j = M:=⟨_,rfl⟩
 rw [Nat.pow_succ,hM] at h1
 rw [hM]
 obtain ⟨R,hR⟩ : ∃ R,bv WB32 (sg X j (n + 1)) % D = R:=⟨_,rfl⟩
 obtain ⟨S,hS⟩ : ∃ S,bv WB32 (sg X (j + 1) n) = S:=⟨_,rfl⟩
 obtain ⟨E,hE⟩ : ∃ E,bv WB32 (Q.drop (j + 1)) = E:=⟨_,rfl⟩
 rw [hR] at h2 ⊢
 rw [hS] at h1 hU
 rw [hE] at h1 ⊢
 rw [h1,Nat.add_mul q,Nat.mul_add M]
 have e1 : M * (q * D) + M * R = M * x + M * (WB32 * S):=by
  rw [<- Nat.mul_add,Nat.mul_comm q D,h2,hU,Nat.mul_add]
 have e2 : M * WB32 * (E * D) = M * (WB32 * E * D):=by rw [Nat.mul_assoc,<- Nat.mul_assoc WB32]
 have e3 : M * WB32 * S = M * (WB32 * S):=Nat.mul_assoc _ _ _
 omega
structure Unsh (X Y : List Nat) (P n i : Nat) : Prop where
 val : bv WB32 (Y.take i) * P + X[0]?.getD 0 % P = bv WB32 (X.take i) + WB32 ^ i * (X[i]?.getD 0 % P)
 keep : ∀ k,i <= k -> Y[k]? = X[k]?
theorem Unsh.start {X : List Nat} {P n : Nat} : Unsh X X P n 0:=⟨by simp [bv],fun _ _ => rfl⟩
theorem unsh_word {P s x y : Nat} (hP : 2 ^ s = P) (hs : s < 32) (hx : x < WB32) : (y * WB32 + x) / P % WB32 * P = x - x % P + WB32 * (y % P) /\ (y * WB32 + x) / P % WB32 < WB32:=by
 have hP0 : 0 < P:=by rw [<- hP]; exact Nat.pow_pos (by omega)
 obtain ⟨C,hC⟩ : ∃ C,2 ^ (32 - s) = C:=⟨_,rfl⟩
 have hPC : P * C = WB32:=by rw [<- hP,<- hC,<- Nat.pow_add,show s + (32 - s) = 32 by omega]
 refine ⟨?_,Nat.mod_lt _ (by decide)⟩
 have h1 : (y * WB32 + x) / P = y * C + x / P:=by
  rw [<- hPC,Nat.mul_left_comm,Nat.mul_add_div hP0]
 have hxP : x / P < C:=by
  refine Nat.div_lt_of_lt_mul ?_
  rw [hPC]; exact hx
 have h2 : (y * C + x / P) % WB32 = (y % P) * C + x / P:=by
  have h3 : y = P * (y / P) + y % P:=(Nat.div_add_mod y P).symm
  have h4 : y * C + x / P = WB32 * (y / P) + ((y % P) * C + x / P):=by
   have e : y * C = P * (y / P) * C + (y % P) * C:=by rw [<- Nat.add_mul,<- h3]
   have e2 : P * (y / P) * C = WB32 * (y / P):=by rw [Nat.mul_right_comm,hPC]
   omega
  rw [h4,Nat.mul_add_mod]
  refine Nat.mod_eq_of_lt ?_
  have h5 : y % P < P:=Nat.mod_lt _ hP0
  have h6 : (y % P + 1) * C <= P * C:=Nat.mul_le_mul_right _ h5
  rw [Nat.add_mul,Nat.one_mul,hPC] at h6
  omega
 rw [h1,h2,Nat.add_mul]
 have h3 : x / P * P = x - x % P:=by have := Nat.div_add_mod x P; rw [Nat.mul_comm] at this; omega
 have h4 : y % P * C * P = WB32 * (y % P):=by rw [Nat.mul_assoc,Nat.mul_comm C P,hPC,Nat.mul_comm]
 omega
theorem Unsh.step {X Y : List Nat} {P n i s x y z : Nat} (h : Unsh X Y P n i) (hP : 2 ^ s = P) (hs : s < 32) (hx : X[i]? = some x) (hx32 : x < WB32) (hy : X[i + 1]? = some y) (hz : z = (y * WB32 + x) / P % WB32) (hl : Y.length = X.length) : Unsh X (Y.set i z) P n (i + 1):=by
 have hi:=(List.getElem?_eq_some_iff.1 hx).1
 obtain ⟨h1,_⟩:=unsh_word (y:=y) hP hs hx32
 rw [<- hz] at h1
 refine ⟨?_,fun k hk => by rw [List.getElem?_set_ne (by omega)]; exact h.keep k (by omega)⟩
 rw [set_take (by omega),bv_snoc,List.length_take,show min i Y.length = i by omega,bv_take_succ hx,hy,Option.getD_some,Nat.pow_succ,Nat.add_mul,Nat.mul_assoc,h1]
 have h2:=h.val
 rw [hx,Option.getD_some] at h2
 have h3 : x % P <= x:=Nat.mod_le _ _
 have e1 : WB32 ^ i * (x - x % P + WB32 * (y % P)) + WB32 ^ i * (x % P) = WB32 ^ i * x + WB32 ^ i * WB32 * (y % P):=by
  rw [<- Nat.mul_add,Nat.mul_assoc,<- Nat.mul_add]; congr 1; omega
 omega
theorem Unsh.done {X Y : List Nat} {P n R : Nat} (h : Unsh X Y P n n) (hP0 : 0 < P) (hz : X[n]?.getD 0 = 0) (hR : bv WB32 (X.take n) = R * P) : bv WB32 (Y.take n) = R:=by
 have h1:=h.val
 rw [hz,Nat.zero_mod,Nat.mul_zero,Nat.add_zero,hR] at h1
 have h2 : X[0]?.getD 0 % P < P:=Nat.mod_lt _ hP0
 have h3 : X[0]?.getD 0 % P = 0:=by
  have h4 : (bv WB32 (Y.take n) * P + X[0]?.getD 0 % P) % P = 0:=by rw [h1]; exact Nat.mul_mod_left _ _
  rw [Nat.mul_add_mod_self_right,Nat.mod_mod] at h4
  exact h4
 rw [h3,Nat.add_zero] at h1
 exact Nat.eq_of_mul_eq_mul_right hP0 h1
end Go.Proofs.YtlldjmagbjjeoaaGreat
