/- Contracts and plain laws, several texts in one (GLight, GHold3). No conditions beyond those stated. -/
import Derived.Test.YtlldjmagbjjeoaaGreatPk31
set_option maxRecDepth 100000
set_option maxHeartbeats 40000000
namespace Go.Proofs.YtlldjmagbjjeoaaGreat
open Go.RowKit
set_option linter.unusedVariables false
def lightV (v : Vq) : Bool:=decide (v.l1.length <= 8) && decide (v.l2.length <= 8)
mutual
def lightG : Gx -> Bool
 | .mk _ _ v es => lightV v && lightGL es
def lightGL : List Gx -> Bool
 | [] => true
 | e :: r => lightG e && lightGL r
end
theorem lightGL_append (a b : List Gx) : lightGL (a ++ b) = (lightGL a && lightGL b):=by
 induction a with
 | nil => simp [lightGL]
 | cons e r ih => rw [List.cons_append,lightGL,lightGL,ih,Bool.and_assoc]
theorem lightG_eq (e : Gx) : lightG e = (lightV e.v && lightGL e.args):=by
 cases e with | mk o n v es => rw [lightG]; rfl
theorem lightGL_no {l : List Gx} {e : Gx} (he : e ∈ l) (h : lightG e = false) : lightGL l = false:=by
 induction l with
 | nil => cases he
 | cons a r ih =>
  rw [lightGL]
  rcases List.mem_cons.1 he with rfl | h1
  ·rw [h]; rfl
  ·rw [ih h1]; simp
mutual
def Gx.ex : Gx -> Ex
 | .mk o n _ es => .mk o n (exL es)
def exL : List Gx -> List Ex
 | [] => []
 | e :: r => e.ex :: exL r
end
theorem exL_map (l : List Gx) : exL l = l.map Gx.ex:=by
 induction l with
 | nil => rw [exL]; rfl
 | cons e r ih => rw [exL,ih]; rfl
theorem ExG.toX : ∀ (m : Nat) {K : Nat} {w : World} (e : Gx) (x : Xv),e.parts <= m -> ExG K w e x -> ExX K w e.ex x:=by
 intro m
 induction m with
 | zero => intro K w e x hm; cases e; rw [partsG_mk] at hm; omega
 | succ m ih =>
  intro K w e x hm h
  cases e with
  | mk op nm v es =>
   rw [ExG] at h
   obtain ⟨h1,h2,h3,_,g,h5,h6⟩:=h
   rw [Gx.ex,ExX,exL_map]
   refine ⟨h1,h2,h3,g,by rw [List.length_map]; exact h5,exsX_iff.2 fun j e hj => ?_⟩
   rw [List.getElem?_map] at hj
   cases hq : es[j]? with
   | none => rw [hq] at hj; cases hj
   | some a =>
    rw [hq] at hj
    simp only [Option.map_some,Option.some.injEq] at hj
    subst hj
    have hp:=partsG_arg (List.mem_of_getElem? hq)
    rw [partsG_mk] at hm
    exact ih a _ (by omega) (exsG_iff.1 h6 j a hq)
theorem light_any (K : Nat) (v : Vq) (x : Vv) (w : World) (h : VlX K w v x) :
  Calls Tryz.prog 5 #[x.agg] w fun e w' => e = .returned (.bool (lightV v)) /\ Below w.heap.size w w':=by
 have b1 : Below w.heap.size w (w.alloc (.cells x.cells 28)):=(Below.refl _ _).alloc (Nat.le_refl _) _
 obtain ⟨a1,c1,e1,_,_⟩:=h.n.form
 obtain ⟨a2,c2,e2,_,_⟩:=h.d.form
 unfold lightV
 obtain ⟨n1,hn1⟩ : ∃ n,v.l1.length = n:=⟨_,rfl⟩
 obtain ⟨n2,hn2⟩ : ∃ n,v.l2.length = n:=⟨_,rfl⟩
 obtain ⟨kd,f1,s1,f2,s2,i⟩:=x
 dsimp only at e1 e2
 subst e1 e2
 rw [hn1,hn2] at *
 clear h hn1 hn2
 by_cases q1 : n1 <= 8
 ·have z1 : decide ((n1 : Int) <= 8) = true:=by simp; omega
  by_cases q2 : n2 <= 8
  ·have z2 : decide ((n2 : Int) <= 8) = true:=by simp; omega
   rw [decide_eq_true q1,decide_eq_true q2]
   clear q1 q2
   go_enter Tryz.func5,Tryz.ntmps5
   go_wp2_with fail
   go_ret
   exact ⟨rfl,b1⟩
  ·have z2 : decide ((n2 : Int) <= 8) = false:=by simp; omega
   rw [decide_eq_true q1,decide_eq_false q2]
   clear q1 q2
   go_enter Tryz.func5,Tryz.ntmps5
   go_wp2_with fail
   go_ret
   exact ⟨rfl,b1⟩
 ·have z1 : decide ((n1 : Int) <= 8) = false:=by simp; omega
  rw [decide_eq_false q1]
  clear q1
  go_enter Tryz.func5,Tryz.ntmps5
  go_wp2_with fail
  go_ret
  exact ⟨by simp,b1⟩
theorem lightAll_any (m : Nat) : ∀ (K : Nat) (e : Gx) (x : Xv) (w : World),e.parts <= m -> ExG K w e x -> K <= w.heap.size →
  Calls Tryz.prog 31 #[x.agg] w fun en w' => en = .returned (.bool (lightG e)) /\ Below w.heap.size w w':=by
 induction m with
 | zero => intro K e x w hm; cases e; rw [partsG_mk] at hm; omega
 | succ m ih =>
  intro K e x w hm h hK
  obtain ⟨h1,h2,h3,hv,g,hrow,hargs⟩:=h.open
  rw [lightG_eq]
  have hpm : ∀ a ∈ e.args,a.parts <= m:=fun a ha => by
   cases e with
   | mk o n v es => rw [partsG_mk] at hm; have := partsG_arg ha; dsimp only [Gx.args] at this; omega
  obtain ⟨es,hes⟩ : ∃ es,e.args = es:=⟨_,rfl⟩
  obtain ⟨v,hev⟩ : ∃ v,e.v = v:=⟨_,rfl⟩
  rw [hes] at hrow hargs hpm ⊢
  rw [hev] at hv ⊢
  obtain ⟨B0,hB0⟩ : ∃ B0,w.heap.size = B0:=⟨_,rfl⟩
  rw [hB0] at hK ⊢
  obtain ⟨W1,hW1⟩ : ∃ W1,w.alloc (.cells x.cells 31) = W1:=⟨_,rfl⟩
  have hb1 : Below B0 w W1:=hW1 ▸ (Below.refl B0 w).alloc (by omega) _
  have hs1 : W1.heap.size = B0 + 1:=by rw [<- hW1,<- hB0]; simp
  have q1 : Blk W1 B0 x.cells 31:=by rw [<- hW1,<- hB0]; exact Blk.new w _ _
  have hl:=light_any K v x.vv W1 (hv.below hb1 hK (Nat.le_refl _))
  obtain ⟨va,vcap,h8,hvl,hvm⟩:=hrow.form
  obtain ⟨xop,xnm,kd,b3,⟨a4,n4,m4⟩,b5,⟨a6,n6,m6⟩,i7,⟨a8,n8,m8⟩⟩:=x
  dsimp only at h8 hrow
  simp only [Sl.val,Value.slice.injEq] at h8
  obtain ⟨rfl,rfl,rfl⟩:=h8
  have hvm : es.length <= maxLen:=by omega
  clear hvl
  unfold maxLen at hvm
  obtain ⟨lv,hlv⟩ : ∃ b,lightV v = b:=⟨_,rfl⟩
  rw [hlv] at hl ⊢
  obtain ⟨n,hn⟩ : ∃ n,es.length = n:=⟨_,rfl⟩
  have HN:=Lib.hid hn
  rw [hn] at hrow hvm hW1 q1 hl ⊢
  have HROW:=Lib.hid hrow
  have HARGS:=Lib.hid hargs
  have HPM:=Lib.hid hpm
  have HW1:=Lib.hid hW1
  have HB:=Lib.hid hB0
  have HB1:=Lib.hid hb1
  have HL:=Lib.hid hl
  have HIH:=Lib.hid ih
  obtain ⟨d0,d1,d2,d3,d4,d5,d6,d7,d8⟩:=q1.nine
  dsimp only [Xv.cells,Xv.agg] at HW1 ⊢
  clear hW1 hB0 hn hrow hargs hpm hb1 hl ih h hm h1 h2 h3 hv hes hev hlv q1 d0 d1
  go_enter Tryz.func31,Tryz.ntmps31
  go_wp2_with fail
  simp only [HB.out]
  rw [HW1.out]
  go_wp2_with fail
  refine HL.out.mono ?_
  rintro en w2 ⟨rfl,hb2⟩
  clear HL d2 d3 d4 d5 d6 d7
  have HB2 : Hid (Below B0 w w2):=Lib.hid (HB1.out.trans (hb2.mono (by omega)))
  replace d8:=(hb2.cell (p:=⟨B0,8,none⟩) (by show B0 < _; omega)).trans d8
  have hs2:=hb2.size
  clear hb2
  cases lv with
  | false =>
   go_wp2_with fail
   go_ret
   exact ⟨rfl,HB2.out⟩
  | true =>
   go_wp2_with fail
   go_loopw [12] (fun i wr => ∃ k : Nat,k <= n /\ i = .int .i64 k /\ Hid (lightGL (es.take k) = true) /\ Below B0 w wr /\ B0 + 1 <= wr.heap.size) (fun i _ => n - (intOf i).toNat)
   case atStart => exact ⟨0,Nat.zero_le _,rfl,Lib.hid (by rw [List.take_zero,lightGL]),HB2.out,by omega⟩
   case round =>
    obtain ⟨k,hk,rfl,HT,hbr,hsr⟩:=hrel
    by_cases hlt : k < n
    ·obtain ⟨b,o,cap,he,_,hcm,hbK,hc⟩:=HROW.out.pos (by omega)
     simp only [Sl.val,Value.slice.injEq,true_and] at he
     obtain ⟨rfl,rfl⟩:=he
     obtain ⟨k0,k1,k2,k3,k4,k5,k6,k7,k8⟩:=ex_cells (cells_below hbr (Nat.lt_of_lt_of_le hbK hK) hc) hlt
     have hkl : k < es.length:=by rw [HN.out]; exact hlt
     obtain ⟨ek,hek⟩ : ∃ ek,es[k]? = some ek:=⟨_,List.getElem?_eq_getElem hkl⟩
     have hq:=HARGS.out k ek hek
     have hmem:=List.mem_of_getElem? hek
     obtain ⟨y,hy⟩ : ∃ y,g k = y:=⟨_,rfl⟩
     rw [hy] at hq k0 k1 k2 k3 k4 k5 k6 k7 k8
     have hbl : Below B0 w (wr.alloc (.cells y.cells 31)):=hbr.alloc (by omega) _
     have hcall:=HIH.out K ek y (wr.alloc (.cells y.cells 31)) (HPM.out ek hmem) (hq.below hbl hK (Nat.le_refl _)) (by simp; omega)
     have HT2 : Hid (lightGL (es.take (k + 1)) = lightG ek):=Lib.hid (by
      rw [List.take_add_one,hek,lightGL_append,HT.out]
      simp [lightGL])
     have HNO : Hid (lightG ek = false -> lightGL es = false):=Lib.hid fun h => lightGL_no hmem h
     obtain ⟨z,hz⟩ : ∃ z,lightG ek = z:=⟨_,rfl⟩
     rw [hz] at hcall HT2 HNO
     have HC:=Lib.hid hcall
     have HBL:=Lib.hid hbl
     clear hek hc hy hq hmem hz HT hcall hbl hkl
     go_wp2_with fail
     refine HC.out.mono ?_
     rintro e w5 ⟨rfl,hb5⟩
     have hs5:=hb5.size
     simp only [World.size_alloc] at hs5
     have HB5 : Hid (Below B0 w w5):=Lib.hid (HBL.out.trans (hb5.mono (by simp; omega)))
     clear hb5 HC
     cases z with
     | false =>
      have HE : Hid (lightGL es = false):=Lib.hid (HNO.out rfl)
      go_wp2_with fail
      go_ret
      exact ⟨by rw [HE.out]; rfl,HB5.out⟩
     | true =>
      go_wp2_with fail
      exact ⟨⟨k + 1,by omega,by go_num,HT2,HB5.out,by omega⟩,by simp [intOf]; omega⟩
    ·obtain rfl : k = n:=by omega
     have HE : Hid (lightGL es = true):=Lib.hid (by rw [<- HT.out,<- HN.out,List.take_length])
     go_wp2_with fail
     go_ret
     exact ⟨by rw [HE.out]; rfl,hbr⟩
def lightX (most : Nat) (e : Gx) : Bool:=decide (sizeE 24 most e.ex <= most) && lightG e
theorem lightX_any (K most : Nat) (e : Gx) (x : Xv) (w : World) (h : ExG K w e x) (hK : K <= w.heap.size) (hm : most <= 2 ^ 20) :
  Calls Tryz.prog 12 #[x.agg,.int .i64 most] w fun en w' => en = .returned (.bool (lightX most e)) /\ Below w.heap.size w w':=by
 obtain ⟨W1,hW1⟩ : ∃ W1,w.alloc (.cells x.cells 31) = W1:=⟨_,rfl⟩
 have hb1 : Below w.heap.size w W1:=hW1 ▸ (Below.refl _ w).alloc (Nat.le_refl _) _
 have hs1 : W1.heap.size = w.heap.size + 1:=by rw [<- hW1]; simp
 have q1 : Blk W1 w.heap.size x.cells 31:=by rw [<- hW1]; exact Blk.new w _ _
 have h1:=h.below hb1 hK (Nat.le_refl _)
 have hsz:=Size_any W1.heap.size most e.ex x W1 (ExG.toX e.parts e x (Nat.le_refl _) (h.below hb1 hK (by omega))) (Nat.le_refl _) (by omega)
 have hll : ∀ W,Below W1.heap.size W1 W -> Calls Tryz.prog 31 #[x.agg] W fun en w' => en = .returned (.bool (lightG e)) /\ Below W.heap.size W w':=fun W hb => lightAll_any e.parts W1.heap.size e x W (Nat.le_refl _) (h.below (hb1.trans (hb.mono (by omega))) hK (by omega)) hb.size
 have hle:=sizeE_le 24 most e.ex
 unfold lightX
 obtain ⟨z,hz⟩ : ∃ z,sizeE 24 most e.ex = z:=⟨_,rfl⟩
 rw [hz] at hsz hle ⊢
 obtain ⟨l,hl⟩ : ∃ l,lightG e = l:=⟨_,rfl⟩
 rw [hl] at hll ⊢
 obtain ⟨r,hr'⟩ : ∃ r,(decide (z <= most) && l) = r:=⟨_,rfl⟩
 rw [hr']
 have HR:=Lib.hid hr'
 clear hr'
 obtain ⟨B,hB⟩ : ∃ B,w.heap.size = B:=⟨_,rfl⟩
 rw [hB] at hb1 hs1 q1 hK ⊢
 have hr : W1.rangeAt B 0 x.cells.toList:=q1.range
 have HB:=Lib.hid hB
 have HW1:=Lib.hid hW1
 have HLL:=Lib.hid hll
 have HSZ:=Lib.hid hsz
 have HB1:=Lib.hid hb1
 have HQ1:=Lib.hid q1
 obtain ⟨xop,xnm,kd,b3,⟨a4,n4,m4⟩,b5,⟨a6,n6,m6⟩,i7,⟨a8,n8,m8⟩⟩:=x
 obtain ⟨d0,d1,d2,d3,d4,d5,d6,d7,d8⟩:=HQ1.out.nine
 clear hW1 h q1 h1 hsz hll hz hl hB hb1 hr
 go_enter Tryz.func12,Tryz.ntmps12
 go_wp2_with fail
 simp only [HB.out]
 rw [HW1.out]
 go_wp2_with fail
 refine HSZ.out.mono ?_
 rintro en w2 ⟨rfl,hb2⟩
 have hs2:=hb2.size
 have HB2 : Hid (Below B w w2):=Lib.hid (HB1.out.trans (hb2.mono (by omega)))
 have q2:=HQ1.out.below hb2 HQ1.out.lt
 have HL2:=Lib.hid (HLL.out w2 hb2)
 clear hb2 d0 d1 d2 d3 d4 d5 d6 d7 d8 HSZ HLL
 obtain ⟨d0,d1,d2,d3,d4,d5,d6,d7,d8⟩:=q2.nine
 clear q2
 by_cases hc : z <= most
 ·have hd : decide (z <= most) = true:=decide_eq_true hc
  have HE : Hid (l = r):=Lib.hid (by rw [<- HR.out,decide_eq_true hc]; simp)
  clear hc hle
  go_wp2_with fail
  refine HL2.out.mono ?_
  rintro en w3 ⟨rfl,hb3⟩
  clear HL2 d0 d1 d2 d3 d4 d5 d6 d7 d8
  go_wp2_with fail
  go_ret
  exact ⟨by rw [HE.out]; rfl,HB2.out.trans (hb3.mono (by omega))⟩
 ·have hd : decide (z <= most) = false:=decide_eq_false hc
  have HE : Hid (r = false):=Lib.hid (by rw [<- HR.out,decide_eq_false hc]; rfl)
  clear hc hle HL2 d0 d1 d2 d3 d4 d5 d6 d7 d8
  go_wp2_with fail
  go_ret
  exact ⟨by rw [HE.out]; rfl,HB2.out⟩
theorem holdsS_bad {e : Gx} {l : List Sc} {cs : List Int} {i : Nat} (hi : i < l.length) (h : cellB l cs i = false) : holdsS e l cs = (false,2):=by
 unfold holdsS
 split
 ·rfl
 ·rw [if_pos]
  rw [List.any_eq_true]
  exact ⟨i,List.mem_range.2 hi,by rw [h]; rfl⟩
theorem holdsS_ok {e : Gx} {l : List Sc} {cs : List Int} (hf : fits e = true) (hlen : cs.length = l.length) (h : ∀ i,i < l.length -> cellB l cs i = true) : holdsS e l cs = if (holdG l cs e).2 = false then (false,2) else ((holdG l cs e).1,0):=by
 unfold holdsS
 rw [if_neg (by rw [hf]; simp [hlen]),if_neg]
 intro h2
 rw [List.any_eq_true] at h2
 obtain ⟨i,hi,hh⟩:=h2
 rw [h i (List.mem_range.1 hi)] at hh
 cases hh
theorem cellB_ok {l : List Sc} {cs : List Int} {i : Nat} (hi : i < l.length) (h : cellB l cs i = true) : (l[i]).okB = true:=by
 unfold cellB at h
 rw [List.getElem?_eq_getElem hi] at h
 simp only [Bool.and_eq_true,Option.getD_some] at h
 exact h.1.1
theorem gholds_any (K : Nat) (e : Gx) (x : Xv) (l : List Sc) (lv : Value) (cs : List Int) (cv : Value) (w : World) (he : ExG K w e x) (hg : e.good = true) (hl : ScsX K w lv l) (hc : IntsX K w cv cs) (hK : K <= w.heap.size) (hgo : ∀ s ∈ l,∀ c ∈ s.cuts,c.good = true) (hbig : ∀ s ∈ l,s.cuts.length <= 2 ^ 38) :
  Calls Tryz.prog 19 #[x.agg,lv,cv] w fun en w' => en = .returned (.tuple #[.bool (holdsS e l cs).1,.int .i64 (holdsS e l cs).2]) /\ Below w.heap.size w w':=by
 obtain ⟨la,lc,hlv,hll,hlm⟩:=hl.form
 obtain ⟨ca,cc,hcv,hcl,hcm⟩:=hc.form
 have HLV:=Lib.hid hlv
 have HCV:=Lib.hid hcv
 have HX:=Lib.hid he
 have HL:=Lib.hid hl
 have HC:=Lib.hid hc
 have HGO:=Lib.hid hgo
 have HBIG:=Lib.hid hbig
 subst hlv hcv
 unfold maxLen at hlm hcm
 obtain ⟨xop,xnm,kd,b3,⟨a4,n4,m4⟩,b5,⟨a6,n6,m6⟩,i7,⟨a8,n8,m8⟩⟩:=x
 obtain ⟨W1,hW1⟩ : ∃ W1,((w.alloc (.cells (⟨xop,xnm,kd,b3,⟨a4,n4,m4⟩,b5,⟨a6,n6,m6⟩,i7,⟨a8,n8,m8⟩⟩ : Xv).cells 31)).alloc (.cells #[.slice la l.length lc] 36)).alloc (.cells #[.slice ca cs.length cc] 39) = W1:=⟨_,rfl⟩
 obtain ⟨b1,q0,q1,q2,s1⟩:=alloc3 w _ _ _ _ _ _ hW1
 obtain ⟨B,hB⟩ : ∃ B,w.heap.size = B:=⟨_,rfl⟩
 have HB:=Lib.hid hB
 rw [hB] at hK b1 q0 q1 q2 s1 ⊢
 have HW:=Lib.hid hW1
 have hsz:=sized_any K e _ W1 (he.below b1 hK (Nat.le_refl _)) (by omega)
 have HQ0:=Lib.hid q0
 have HQ1:=Lib.hid q1
 have HQ2:=Lib.hid q2
 obtain ⟨R,hR⟩ : ∃ R,holdsS e l cs = R:=⟨_,rfl⟩
 rw [hR]
 have HR:=Lib.hid hR
 obtain ⟨n,hn⟩ : ∃ n,l.length = n:=⟨_,rfl⟩
 obtain ⟨k0,hk0⟩ : ∃ k,cs.length = k:=⟨_,rfl⟩
 rw [hn] at hll HW ⊢
 rw [hk0] at hcl HW ⊢
 have HN:=Lib.hid hn
 have HK0:=Lib.hid hk0
 obtain ⟨d0,d1,d2,d3,d4,d5,d6,d7,d8⟩:=q0.nine
 obtain ⟨ft,hft⟩ : ∃ f,fits e = f:=⟨_,rfl⟩
 rw [hft] at hsz
 have HFT:=Lib.hid hft
 clear he hl hc hgo hbig hB hW1 q0 q1 q2 hR hn hk0 hft
 go_enter Tryz.func19,Tryz.ntmps19
 go_upto_region 1 with fail
 simp only [HB.out]
 rw [HW.out]
 cases ft with
 | false =>
  have hr : R = (false,2):=by rw [<- HR.out]; unfold holdsS; rw [if_pos (.inl HFT.out)]
  subst hr
  go_wp2_with fail
  refine hsz.mono ?_
  rintro en w2 ⟨rfl,hb2⟩
  go_wp2_with fail
  go_ret2
  exact ⟨rfl,b1.trans (hb2.mono (by omega))⟩
 | true =>
  go_wp2_with fail
  refine hsz.mono ?_
  rintro en w2 ⟨rfl,hb2⟩
  clear hsz d0 d1 d2 d3 d4 d5 d6 d7 d8
  have hs2:=hb2.size
  have c1:=(HQ1.out.below hb2 (by omega)).one.1
  have c2:=(HQ2.out.below hb2 (by omega)).one.1
  rw [HN.out] at c1
  rw [HK0.out] at c2
  by_cases hlen : k0 = n
  ·subst hlen
   have e0 : ((k0 : Int) != (k0 : Int)) = false:=by simp
   have HB2:=Lib.hid hb2
   go_wp2_with fail
   go_loopw [25] (fun i wr => ∃ (j : Nat),j <= k0 /\ i = .int .i64 j /\ Below W1.heap.size W1 wr /\ Hid (∀ i,i < j -> cellB l cs i = true)) (fun i _ => k0 - (intOf i).toNat)
   case atStart => exact ⟨0,Nat.zero_le _,rfl,HB2.out,Lib.hid fun i hi => absurd hi (Nat.not_lt_zero i)⟩
   case round =>
    obtain ⟨j,hj,rfl,hbr,HALL⟩:=hrel
    have hsr:=hbr.size
    by_cases hlt : j < k0
    ·obtain ⟨g,hg0,hgs⟩:=HL.out
     obtain ⟨sb,so,scap,hse,_,hsm,hsb,hscl⟩:=hg0.pos (by rw [HN.out]; omega)
     simp only [Value.slice.injEq,true_and] at hse
     obtain ⟨rfl,rfl⟩:=hse
     have hyx:=hgs j (by rw [HN.out]; exact hlt)
     have hscl2:=cells_below (b1.trans (hbr.mono (by omega))) (show sb < B by omega) hscl
     have hrg:=sv_range hscl2 (show j < l.length by rw [HN.out]; exact hlt)
     obtain ⟨kb,ko,kcap,hke,_,hkm,hkb,hkcl⟩:=HC.out.pos (by rw [HK0.out]; omega)
     simp only [Value.slice.injEq,true_and] at hke
     obtain ⟨rfl,rfl⟩:=hke
     obtain ⟨y,hy⟩ : ∃ y,g j = y:=⟨_,rfl⟩
     obtain ⟨sc,hsc⟩ : ∃ s,l[j]?.getD default = s:=⟨_,rfl⟩
     obtain ⟨ci,hci⟩ : ∃ c,cs[j]?.getD 0 = c:=⟨_,rfl⟩
     rw [hsc,hy] at hyx
     rw [hy] at hrg
     have HRG:=Lib.hid hrg
     have HKC : Hid (∀ W',Below w.heap.size w W' -> W'.cell? ⟨kb,ko + j,none⟩ = some (.int .i64 ci)):=Lib.hid fun W' hb => by
      have := cells_below hb (by rw [HB.out]; omega) hkcl j (by rw [HK0.out]; exact hlt) 0 (by omega)
      simpa [hci] using this
     have HYX:=Lib.hid hyx
     have HSC:=Lib.hid hsc
     have HCI:=Lib.hid hci
     obtain ⟨⟨yop,ynm,yk,yb3,⟨y4,y4n,y4m⟩,yb5,⟨y6,y6n,y6m⟩,yi7,⟨y8,y8n,y8m⟩⟩,sk,⟨sa,sn,sm⟩⟩:=y
     clear hg0 hgs hscl hscl2 hkcl hyx hrg hy hsc hci c1 c2
     have hsbl : sb < wr.heap.size:=by omega
     go_upto_region 6 with (first
      | refine wpList_load_mid rfl 34 (.tmp 28) rfl sb (so + j * 11) rfl (⟨⟨yop,ynm,yk,yb3,⟨y4,y4n,y4m⟩,yb5,⟨y6,y6n,y6m⟩,yi7,⟨y8,y8n,y8m⟩⟩,sk,⟨sa,sn,sm⟩⟩ : Sv).cells.toList _ HRG.out Tryz.underlying34 rfl infoScaleN ?_
      | refine wpList_store_new rfl 34 (.tmp 9) (.tmp 29) rfl (⟨⟨yop,ynm,yk,yb3,⟨y4,y4n,y4m⟩,yb5,⟨y6,y6n,y6m⟩,yi7,⟨y8,y8n,y8m⟩⟩,sk,⟨sa,sn,sm⟩⟩ : Sv).cells _ infoScaleN rfl (by simp [Value.oneCell']) wr.heap.size rfl rfl rfl ?_)
     generalize hW3 : wr.alloc _ = W3
     have b3' : Below wr.heap.size wr W3:=by rw [<- hW3]; exact (Below.refl _ _).alloc (Nat.le_refl _) _
     have q3 : Blk W3 wr.heap.size (⟨⟨yop,ynm,yk,yb3,⟨y4,y4n,y4m⟩,yb5,⟨y6,y6n,y6m⟩,yi7,⟨y8,y8n,y8m⟩⟩,sk,⟨sa,sn,sm⟩⟩ : Sv).cells 34:=by rw [<- hW3]; exact Blk.new wr _ _
     have b3 : Below W1.heap.size W1 W3:=hbr.trans (b3'.mono hsr)
     have q3lt:=q3.lt
     obtain ⟨u,hu⟩ : ∃ u,wr.heap.size = u:=⟨_,rfl⟩
     rw [hu] at q3 q3lt ⊢
     have hu2 : W1.heap.size <= u:=by omega
     have hs3:=b3.size
     have hgo:=HGO.out sc (by rw [<- HSC.out,List.getElem?_eq_getElem (by rw [HN.out]; exact hlt)]; exact List.getElem_mem _)
     have hbg:=HBIG.out sc (by rw [<- HSC.out,List.getElem?_eq_getElem (by rw [HN.out]; exact hlt)]; exact List.getElem_mem _)
     have hyx3:=HYX.out.below (b1.trans (b3.mono (by omega))) hK (Nat.le_refl _)
     have hv : ∀ W',Below W3.heap.size W3 W' -> Calls Tryz.prog 11 #[(⟨⟨yop,ynm,yk,yb3,⟨y4,y4n,y4m⟩,yb5,⟨y6,y6n,y6m⟩,yi7,⟨y8,y8n,y8m⟩⟩,sk,⟨sa,sn,sm⟩⟩ : Sv).agg] W' fun e w' => e = .returned (.bool sc.okB) /\ Below W'.heap.size W' w':=fun W' hb => gvalid_any K sc _ W' (hyx3.below hb (by omega) (Nat.le_refl _)) (by have := hb.size; omega) hgo hbg
     have hkds : sk = sc.kd:=hyx3.kd
     have hcls : sn = sc.cuts.length:=by obtain ⟨_,_,h9,_,_⟩:=hyx3.cuts.form; simp only [Sl.val,Value.slice.injEq] at h9; exact h9.2.1
     have hcb : cellB l cs j = (sc.okB && decide (0 <= ci) && decide (ci < cntN sk sn)):=by unfold cellB; rw [HSC.out,HCI.out,hkds,hcls]
     have HCB:=Lib.hid hcb
     have HV:=Lib.hid hv
     have HBG : Hid (sn <= 2 ^ 38):=Lib.hid (by rw [hcls]; exact hbg)
     have HQ3:=Lib.hid q3
     have HB3:=Lib.hid b3
     have HBAD : Hid (cellB l cs j = false -> R = (false,2)):=Lib.hid fun h => by rw [<- HR.out]; exact holdsS_bad (by rw [HN.out]; exact hlt) h
     obtain ⟨rv,hrv⟩ : ∃ r,sc.okB = r:=⟨_,rfl⟩
     rw [hrv] at hv hcb
     have HCB:=Lib.hid hcb
     have HV:=Lib.hid hv
     clear hW3 b3' q3 b3 hu hgo hbg hyx3 hkds hcls hcb hv hbr hrv
     refine region_plain (fun W' => Below W3.heap.size W3 W') [] (by kernel_rfl) ?_
     have qS : (fun W' => Below W3.heap.size W3 W') W3.drew:=below_quiet (Below.refl _ _)
     have b13 : ∀ W',Below W3.heap.size W3 W' -> Below W1.heap.size W1 W':=fun W' h => HB3.out.trans (h.mono hs3)
     refine wpAnyD_tk (i:=0) (v:=(⟨⟨yop,ynm,yk,yb3,⟨y4,y4n,y4m⟩,yb5,⟨y6,y6n,y6m⟩,yi7,⟨y8,y8n,y8m⟩⟩,sk,⟨sa,sn,sm⟩⟩ : Sv).agg) rfl (yieldsIf_load_mid (by kernel_rfl) 34 (.tmp 9) rfl u 0 rfl (⟨⟨yop,ynm,yk,yb3,⟨y4,y4n,y4m⟩,yb5,⟨y6,y6n,y6m⟩,yi7,⟨y8,y8n,y8m⟩⟩,sk,⟨sa,sn,sm⟩⟩ : Sv).cells.toList _ (fun W' hS => (HQ3.out.below hS q3lt).range) Tryz.underlying34 rfl infoScaleN) qS ?_
     refine wpAnyD_on (i:=1) rfl ?_
     go_simp
     refine (HV.out _ qS).mono ?_
     rintro en w4 ⟨rfl,hb4⟩
     have qS4 : Below W3.heap.size W3 w4:=qS.trans (hb4.mono qS.size)
     refine ⟨qS4,?_⟩
     clear hb4 qS
     cases rv with
     | false =>
      obtain rfl:=HBAD.out (by rw [HCB.out]; rfl)
      refine wpAnyD_tp (i:=2) (v:=.bool true) rfl qS4 ?_
      refine wpAnyD_tp (i:=3) (v:=.bool true) rfl qS4 ?_
      refine wpAnyD_tk (i:=4) (v:=undef) rfl (.inr ⟨by kernel_rfl,rfl⟩) qS4 ?_
      refine wpAnyD_tk (i:=5) (v:=undef) rfl (.inr ⟨by kernel_rfl,rfl⟩) qS4 ?_
      refine wpAnyD_tk (i:=6) (v:=undef) rfl (.inr ⟨by kernel_rfl,rfl⟩) qS4 ?_
      refine wpAnyD_tk (i:=7) (v:=undef) rfl (.inr ⟨by kernel_rfl,rfl⟩) qS4 ?_
      refine wpAnyD_tk (i:=8) (v:=undef) rfl (.inr ⟨by kernel_rfl,rfl⟩) qS4 ?_
      refine wpAnyD_tp (i:=9) (v:=.bool true) rfl qS4 ?_
      refine wpAnyD_tp (i:=10) (v:=.bool true) rfl qS4 ?_
      refine wpAnyD_tk (i:=11) (v:=undef) rfl (.inr ⟨by kernel_rfl,rfl⟩) qS4 ?_
      refine wpAnyD_tk (i:=12) (v:=undef) rfl (.inr ⟨by kernel_rfl,rfl⟩) qS4 ?_
      refine wpAnyD_tk (i:=13) (v:=undef) rfl (.inr ⟨by kernel_rfl,rfl⟩) qS4 ?_
      refine wpAnyD_tk (i:=14) (v:=undef) rfl (.inr ⟨by kernel_rfl,rfl⟩) qS4 ?_
      refine wpAnyD_tk (i:=15) (v:=undef) rfl (.inr ⟨by kernel_rfl,rfl⟩) qS4 ?_
      refine wpAnyD_tk (i:=16) (v:=undef) rfl (.inr ⟨by kernel_rfl,rfl⟩) qS4 ?_
      refine wpAnyD_tp (i:=17) (v:=.bool true) rfl qS4 ?_
      refine wpAnyD_done (by kernel_rfl) ?_ _
      go_simp
      iterate 14 go_step
      change bodyPost _ _ (fun en w' => en = .returned (.tuple #[.bool false,.int .i64 2]) /\ Below B w w') .ret _ _
      go_ret2
      exact ⟨rfl,b1.trans ((b13 _ qS4).mono (by omega))⟩
     | true =>
      refine wpAnyD_tp (i:=2) (v:=.bool false) rfl qS4 ?_
      refine wpAnyD_tp (i:=3) (v:=.bool false) rfl qS4 ?_
      refine wpAnyD_tk (i:=4) (v:=.slice (some ⟨kb,ko,none⟩) k0 cc) rfl (.inl ⟨by kernel_rfl,fun W' hS => by have d0:=(HQ2.out.below (b13 W' hS) (by omega)).one.1; rw [HK0.out] at d0; go_simp⟩) qS4 ?_
      refine wpAnyD_tp (i:=5) (v:=.int .i64 (j : Int)) rfl qS4 ?_
      refine wpAnyD_tp (i:=6) (v:=.pointer (some ⟨kb,ko + j,none⟩)) rfl qS4 ?_
      refine wpAnyD_tk (i:=7) (v:=.int .i64 ci) rfl (.inl ⟨by kernel_rfl,fun W' hS => by have d0:=HKC.out W' (HB.out.symm ▸ (b1.trans ((b13 W' hS).mono (by omega)))); go_simp⟩) qS4 ?_
      by_cases h0 : ci < 0
      ·obtain rfl:=HBAD.out (by rw [HCB.out]; simp; omega)
       have e0 : decide (ci < 0) = true:=by simp; omega
       refine wpAnyD_tp (i:=8) (v:=.bool true) rfl qS4 ?_
       refine wpAnyD_tp (i:=9) (v:=.bool true) rfl qS4 ?_
       refine wpAnyD_tp (i:=10) (v:=.bool true) rfl qS4 ?_
       refine wpAnyD_tk (i:=11) (v:=undef) rfl (.inr ⟨by kernel_rfl,rfl⟩) qS4 ?_
       refine wpAnyD_tk (i:=12) (v:=undef) rfl (.inr ⟨by kernel_rfl,rfl⟩) qS4 ?_
       refine wpAnyD_tk (i:=13) (v:=undef) rfl (.inr ⟨by kernel_rfl,rfl⟩) qS4 ?_
       refine wpAnyD_tk (i:=14) (v:=undef) rfl (.inr ⟨by kernel_rfl,rfl⟩) qS4 ?_
       refine wpAnyD_tk (i:=15) (v:=undef) rfl (.inr ⟨by kernel_rfl,rfl⟩) qS4 ?_
       refine wpAnyD_tk (i:=16) (v:=undef) rfl (.inr ⟨by kernel_rfl,rfl⟩) qS4 ?_
       refine wpAnyD_tp (i:=17) (v:=.bool true) rfl qS4 ?_
       refine wpAnyD_done (by kernel_rfl) ?_ _
       go_simp
       iterate 14 go_step
       change bodyPost _ _ (fun en w' => en = .returned (.tuple #[.bool false,.int .i64 2]) /\ Below B w w') .ret _ _
       go_ret2
       exact ⟨rfl,b1.trans ((b13 _ qS4).mono (by omega))⟩
      ·have e0 : decide (ci < 0) = false:=by simp; omega
       refine wpAnyD_tp (i:=8) (v:=.bool false) rfl qS4 ?_
       refine wpAnyD_tp (i:=9) (v:=.bool false) rfl qS4 ?_
       refine wpAnyD_tp (i:=10) (v:=.bool false) rfl qS4 ?_
       refine wpAnyD_tk (i:=11) (v:=.slice (some ⟨kb,ko,none⟩) k0 cc) rfl (.inl ⟨by kernel_rfl,fun W' hS => by have d0:=(HQ2.out.below (b13 W' hS) (by omega)).one.1; rw [HK0.out] at d0; go_simp⟩) qS4 ?_
       refine wpAnyD_tp (i:=12) (v:=.int .i64 (j : Int)) rfl qS4 ?_
       refine wpAnyD_tp (i:=13) (v:=.pointer (some ⟨kb,ko + j,none⟩)) rfl qS4 ?_
       refine wpAnyD_tk (i:=14) (v:=.int .i64 ci) rfl (.inl ⟨by kernel_rfl,fun W' hS => by have d0:=HKC.out W' (HB.out.symm ▸ (b1.trans ((b13 W' hS).mono (by omega)))); go_simp⟩) qS4 ?_
       refine wpAnyD_on (i:=15) rfl ?_
       go_simp
       have q4:=HQ3.out.below qS4 q3lt
       refine (gcount_any u 0 sn sm sa sk w4 (q4.at (i:=9) rfl) (q4.at (i:=10) rfl) HBG.out).mono ?_
       rintro en w5 ⟨rfl,hb5⟩
       have qS5 : Below W3.heap.size W3 w5:=qS4.trans (hb5.mono qS4.size)
       refine ⟨qS5,?_⟩
       obtain ⟨cn,hcn⟩ : ∃ c,cntN sk sn = c:=⟨_,rfl⟩
       have hcb:=HCB.out
       rw [hcn] at hcb ⊢
       clear qS4 q4 hb5 hcn
       by_cases h1 : (cn : Int) <= ci
       ·obtain rfl:=HBAD.out (by rw [hcb]; simp; omega)
        have e1 : decide ((cn : Int) <= ci) = true:=by simp; omega
        refine wpAnyD_tp (i:=16) (v:=.bool true) rfl qS5 ?_
        refine wpAnyD_tp (i:=17) (v:=.bool true) rfl qS5 ?_
        refine wpAnyD_done (by kernel_rfl) ?_ _
        go_simp
        iterate 14 go_step
        change bodyPost _ _ (fun en w' => en = .returned (.tuple #[.bool false,.int .i64 2]) /\ Below B w w') .ret _ _
        go_ret2
        exact ⟨rfl,b1.trans ((b13 _ qS5).mono (by omega))⟩
       ·have e1 : decide ((cn : Int) <= ci) = false:=by simp; omega
        have hok : cellB l cs j = true:=by rw [hcb]; simp; omega
        have HALL2 : Hid (∀ i,i < j + 1 -> cellB l cs i = true):=Lib.hid fun i hi => by
         by_cases h : i = j
         ·subst h; exact hok
         ·exact HALL.out i (by omega)
        clear hcb hok
        refine wpAnyD_tp (i:=16) (v:=.bool false) rfl qS5 ?_
        refine wpAnyD_tp (i:=17) (v:=.bool false) rfl qS5 ?_
        have b15:=b13 _ qS5
        refine wpAnyD_done (by kernel_rfl) ?_ _
        go_simp
        iterate 14 go_step
        change _ /\ _
        go_roundw
        case rel => exact ⟨j + 1,by omega,by simp,b15,HALL2⟩
        case measure => simp [intOf]; omega
    ·obtain rfl : j = k0:=by omega
     have hall : ∀ i,i < l.length -> cellB l cs i = true:=fun i hi => HALL.out i (by have := HN.out; omega)
     have hres:=holdsS_ok HFT.out (by rw [HN.out,HK0.out]) hall
     rw [HR.out] at hres
     have hinf : (Tryz.prog.info? 68).map (fun i => i.size) = some 1:=by kernel_rfl
     have HRES:=Lib.hid hres
     clear hres c1 c2 hall
     go_upto_region 11 with fail
     generalize hW2 : (wr.alloc _).alloc _ = W2
     have x2 : Below W1.heap.size W1 W2:=by rw [<- hW2]; exact (hbr.alloc hsr _).alloc (by simp; omega) _
     have p1 : Blk W2 wr.heap.size #[.bool true] 4:=by rw [<- hW2]; exact (Blk.new wr _ _).alloc _
     have p2 : Blk W2 (wr.heap.size + 1) #[.nilFunc] 68:=by
      rw [<- hW2]
      have := Blk.new (wr.alloc (.cells #[.bool true] 4)) #[.nilFunc] 68
      rwa [World.size_alloc] at this
     obtain ⟨u,hu⟩ : ∃ u,wr.heap.size = u:=⟨_,rfl⟩
     rw [hu] at p1 p2 hsr ⊢
     clear hW2 hu hbr
     iterate 4 go_step
     refine wpList_store_val rfl 68 68 (.tmp 11) (.tmp 49) rfl (hdF (B + 1) u (B + 1 + 1) (u + 1)) .nilFunc (u + 1) p2 hinf rfl rfl rfl ?_
     intro W3 t1 t2 t3 t4
     have hx : Below W1.heap.size W1 W3:=x2.trans (t2 _ (by omega))
     have hs3:=hx.size
     have h1:=HQ1.out.below hx (by omega)
     have h2:=HQ2.out.below hx (by omega)
     have h3:=HL.out.below (b1.trans (hx.mono (by omega))) hK (show K <= W1.heap.size by omega)
     have h4:=HC.out.below (b1.trans (hx.mono (by omega))) hK (show K <= W1.heap.size by omega)
     rw [HN.out] at h1 h3
     rw [HK0.out] at h2 h4
     have hpb : Blk W3 u #[.bool true] 4:=p1.below (t2 (u + 1) (Nat.le_refl _)) (by omega)
     have hcl : HdW W1.heap.size (B + 1) u (B + 1 + 1) (u + 1) l cs (.slice la j lc) (.slice ca j cc) true W3 :=
      ⟨h3,by unfold IntsX; rw [HK0.out]; exact h4,hpb,h1,h2,t1⟩
     have hfit:=HFT.out
     unfold fits at hfit
     simp only [Bool.and_eq_true,decide_eq_true_eq] at hfit
     have hoks : ∀ s ∈ l,CutsOk s.kd s.cuts /\ s.cuts.length <= 2 ^ 38:=fun s hs => by
      obtain ⟨i,hi,rfl⟩:=List.mem_iff_getElem.1 hs
      exact ⟨okB_cutsOk (cellB_ok hi (HALL.out i (by have := HN.out; omega))) (HGO.out _ (List.getElem_mem hi)),HBIG.out _ (List.getElem_mem hi)⟩
     have hcall:=holdsF_at W1.heap.size u (B + 1) (B + 1 + 1) (u + 1) l cs _ _ (by rw [HN.out,HK0.out]) hoks hsr e.parts e (Nat.le_refl _) hfit.1 hg true _ W3 (HX.out.below (b1.trans (hx.mono (by omega))) hK (show K <= W1.heap.size by omega)) hcl
     have f1:=t1.one.1
     obtain ⟨d0,d1,d2,d3,d4,d5,d6,d7,d8⟩:=(HQ0.out.below hx (by omega)).nine
     have hb3 : Below B w W3:=b1.trans (hx.mono (by omega))
     have ul : u < W3.heap.size:=hpb.lt
     obtain ⟨G,hG⟩ : ∃ G,holdG l cs e = G:=⟨_,rfl⟩
     rw [hG] at hcall
     have hR2:=HRES.out
     rw [hG] at hR2
     clear p1 p2 x2 t2 t3 t4 h1 h2 h3 h4 hpb hcl hoks hfit hG t1 hx
     go_wp2_with fail
     refine hcall.mono ?_
     rintro en W4 ⟨rfl,hg4,hq4⟩
     clear hcall d0 d1 d2 d3 d4 d5 d6 d7 d8 f1
     have hb4 : Below B w W4:=hb3.trans (below_of_grownBy hg4 (by have := hb3.size; omega) (by omega))
     obtain ⟨g1,g2⟩:=G
     have c4:=hq4.one.1
     cases g2 with
     | false =>
      rw [if_pos rfl] at hR2
      subst hR2
      go_wp2_with fail
      go_ret2
      exact ⟨rfl,hb4⟩
     | true =>
      rw [if_neg (by simp)] at hR2
      subst hR2
      go_wp2_with fail
      go_ret2
      exact ⟨rfl,hb4⟩
  ·have hr : R = (false,2):=by rw [<- HR.out]; unfold holdsS; rw [if_pos (.inr (by rw [HN.out,HK0.out]; exact hlen))]
   subst hr
   have e1 : ((k0 : Int) != (n : Int)) = true:=by simp; omega
   have e2 : ((k0 : Int) == (n : Int)) = false:=by simp; omega
   go_wp2_with fail
   go_ret2
   exact ⟨rfl,b1.trans (hb2.mono (by omega))⟩
end Go.Proofs.YtlldjmagbjjeoaaGreat
