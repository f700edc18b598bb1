/- Contracts and plain laws, several texts in one (DRch, DRch2, DLead, DSrch0). No conditions beyond those stated. -/
import Derived.Test.YtlidpghnlloinaaGreatDoorPk24
set_option maxRecDepth 100000
set_option maxHeartbeats 40000000
namespace Go.Proofs.YtlidpghnlloinaaGreatDoor
open Go.RowKit
set_option linter.unusedVariables false
theorem fN_atD (g : Nat -> Option Value) (n : Nat) (h : n <= 2 ^ 62) : fN g (.int .i64 n) = g n:=by
 show (if 0 <= (n : Int) /\ (n : Int) <= 2 ^ 62 then g (n : Int).toNat else none) = g n
 rw [if_pos ⟨by omega,by omega⟩]
 rfl
def knF (p : Int -> Bool) (D : List Nat) : Nat -> Option Value:=fun k => if D.contains k then some (.bool (p (k : Int))) else none
theorem knF_add (p : Int -> Bool) (D : List Nat) (k : Nat) : updF (knF p D) k (.bool (p (k : Int))) = knF p (D ++ [k]):=by
 funext j
 unfold updF knF
 by_cases h : j = k
 ·subst h; simp
 ·simp [h]
structure RInv (w0 : World) (kb N : Nat) (p : Int -> Bool) (W : World) : Prop where
 grown : w0.grownBy W (some kb)
 map : ∃ D : List Nat,D.Nodup /\ (∀ k ∈ D,k < N) /\ MapIs W 3 kb D.length (fN (knF p D))
theorem nodup_len {D : List Nat} {N : Nat} (h : D.Nodup) (hl : ∀ k ∈ D,k < N) : D.length <= N:=by
 have := List.Nodup.length_le_of_subset h (l₂:=List.range N) fun k hk => List.mem_range.2 (hl k hk)
 simpa using this
theorem RInv.drewN {w0 W : World} {kb N : Nat} {p : Int -> Bool} (h : RInv w0 kb N p W) (n : Nat) : RInv w0 kb N p (W.drewN n):=⟨⟨h.grown.os,h.grown.tape,h.grown.output,h.grown.size,h.grown.block⟩,h.map⟩
theorem grown_cell {w0 W : World} {kb b i : Nat} {v : Value} (h : w0.grownBy W (some kb)) (hb : b ≠ kb) (hc : w0.cell? ⟨b,i,none⟩ = some v) : W.cell? ⟨b,i,none⟩ = some v:=h.cell hc (by simpa using hb)
structure RBox (w0 : World) (K wb db mb rb kb gw : Nat) (x : Dv) (scs : List Sc) (st : DSt) (root : Int) (Wp : List Nat -> Bool) : Prop where
 w : Blk w0 wb #[.func (.func gw) #[] #[]] 112
 d : Blk w0 db x.cells 29
 m : Blk w0 mb #[.map (some kb)] 172
 r : Blk w0 rb #[.func (.func 123) #[] #[.pointer (some ⟨wb,0,none⟩),.pointer (some ⟨db,0,none⟩),.pointer (some ⟨mb,0,none⟩),.pointer (some ⟨rb,0,none⟩)]] 132
 dg : DgX K w0 x scs st root
 dv : DgV scs st root
 kk : K <= kb
 kl : kb < w0.heap.size
 n1 : wb ≠ kb
 n2 : db ≠ kb
 n3 : mb ≠ kb
 n4 : rb ≠ kb
 eg : ∀ args w,(callFunc gw args).run Tryz.prog w = .ok (.enter gw args) w
 wc : ∀ (W : World) (v : Value) (l : List Nat),Nats W.heap.size W v l -> Calls Tryz.prog gw #[v] W fun e W' => e = .returned (.bool (Wp l)) /\ W' = W
abbrev rchV (wb db mb rb : Nat) : Array Value:=#[.pointer (some ⟨wb,0,none⟩),.pointer (some ⟨db,0,none⟩),.pointer (some ⟨mb,0,none⟩),.pointer (some ⟨rb,0,none⟩)]
theorem rch_leaf (w0 : World) (K wb db mb rb kb gw : Nat) (x : Dv) (scs : List Sc) (st : DSt) (root : Int) (Wp : List Nat -> Bool) (h : RBox w0 K wb db mb rb kb gw x scs st root Wp) (p : Int -> Bool) (hp : ∀ t,p t = true ↔ Gets st Wp t) (n : Nat) (hn : n < st.lvs.length) (W : World) (hI : RInv w0 kb st.nds.length p W) :
  Calls Tryz.prog 123 (#[.int .i64 (-1 - (n : Int))] ++ rchV wb db mb rb) W fun e W' => e = .returned (.bool (p (-1 - (n : Int)))) /\ RInv w0 kb st.nds.length p W':=by
 obtain ⟨_,_,l3⟩:=h.dg.lens
 obtain ⟨l,hl⟩ : ∃ l,st.lvs[n]? = some l:=⟨_,List.getElem?_eq_getElem hn⟩
 have hpl : p (-1 - (n : Int)) = Wp l:=by
  have := (hp (-1 - (n : Int))).trans gets_leaf
  cases hw : Wp l with
  | true => exact this.2 ⟨l,hl,hw⟩
  | false =>
   cases hq : p (-1 - (n : Int)) with
   | false => rfl
   | true =>
    obtain ⟨l',h1,h2⟩:=this.1 hq
    rw [hl] at h1; cases h1; rw [hw] at h2; cases h2
 rw [hpl]
 obtain ⟨lg,hlr,hlg⟩:=h.dg.l
 obtain ⟨lb,lo,lcap,hle,_,_,hlbK,hlc⟩:=hlr.pos (by omega)
 have hgk:=hlg n hn
 rw [hl,Option.getD_some] at hgk
 obtain ⟨ea,ec,hef,_,_⟩:=hgk.form
 have hkl:=h.kk
 have e0 : W.cell? ⟨lb,lo + n,none⟩ = some (.slice ea l.length ec):=grown_cell hI.grown (by omega) (by have := hlc n hn 0 (by omega); rw [hef] at this; simpa using this)
 have e1 : W.cell? ⟨db,2,none⟩ = some (.slice (some ⟨lb,lo,none⟩) st.lvs.length lcap):=grown_cell hI.grown h.n2 (by have := h.d.at (i:=2) (x:=x.l.val) rfl; rw [this]; exact congrArg some hle)
 have e2 : W.cell? ⟨wb,0,none⟩ = some (.func (.func gw) #[] #[]):=grown_cell hI.grown h.n1 (h.w.at rfl)
 have hnat : Nats W.heap.size W (.slice ea l.length ec) l:=by
  rw [hef] at hgk
  have hb : Below K w0 W:=⟨hI.grown.os,hI.grown.tape,hI.grown.output,hI.grown.size,fun b hb => hI.grown.block b (by have := h.kl; omega) (by simp; omega)⟩
  exact hgk.below hb (Nat.le_refl _) (by have := hI.grown.size; have := h.kl; omega)
 have hwc : ∀ z,Calls Tryz.prog gw #[.slice ea l.length ec] (W.drewN z) fun e W' => e = .returned (.bool (Wp l)) /\ W' = W.drewN z:=fun z => h.wc (W.drewN z) _ l hnat
 have eg:=h.eg
 have HWC:=Lib.hid hwc
 have HI:=Lib.hid hI
 obtain ⟨q,hq⟩ : ∃ q,st.lvs.length = q:=⟨_,rfl⟩
 rw [hq] at e1 hn
 have hq40:=h.dv.lsz
 obtain ⟨t,ht⟩ : ∃ t : Int,-1 - (n : Int) = t:=⟨_,rfl⟩
 have ht0 : decide (t < 0) = true:=decide_eq_true (by omega)
 have hw : IntKind.i64.wrap (-1 - t) = (n : Int):=by rw [<- ht,show (-1 - (-1 - (n : Int))) = (n : Int) by omega]; exact IntWalk.i64_in _ (by omega)
 obtain ⟨r,hr⟩ : ∃ r,Wp l = r:=⟨_,rfl⟩
 rw [hr] at HWC ⊢
 obtain ⟨u,hu⟩ : ∃ u,l.length = u:=⟨_,rfl⟩
 rw [hu] at HWC e0
 rw [ht]
 show Calls Tryz.prog 123 #[.int .i64 t,.pointer (some ⟨wb,0,none⟩),.pointer (some ⟨db,0,none⟩),.pointer (some ⟨mb,0,none⟩),.pointer (some ⟨rb,0,none⟩)] W _
 clear l3 hl hpl hlr hlg hle hlc hgk hef hnat hwc hI hq hq40 hr hu ht h hp
 go_enter Tryz.func123,Tryz.ntmps123
 go_upto_region 2 with fail
 have hwc:=HWC.out
 go_quiet (first | (refine Calls.quiet_of_same (hwc _)))
 clear hwc
 go_wp2_with fail
 go_ret
 exact ⟨rfl,HI.out.drewN _⟩
theorem rch_node (w0 : World) (K wb db mb rb kb gw : Nat) (x : Dv) (scs : List Sc) (st : DSt) (root : Int) (Wp : List Nat -> Bool) (h : RBox w0 K wb db mb rb kb gw x scs st root Wp) (p : Int -> Bool) (hp : ∀ t,p t = true ↔ Gets st Wp t) (k sc : Nat) (nx : List Int) (hk : st.nds[k]? = some (sc,nx)) (W : World) (hI : RInv w0 kb st.nds.length p W)
  (hrec : ∀ t ∈ nx,∀ W,RInv w0 kb st.nds.length p W -> Calls Tryz.prog 123 (#[.int .i64 t] ++ rchV wb db mb rb) W fun e W' => e = .returned (.bool (p t)) /\ RInv w0 kb st.nds.length p W') :
  Calls Tryz.prog 123 (#[.int .i64 (k : Int)] ++ rchV wb db mb rb) W fun e W' => e = .returned (.bool (p (k : Int))) /\ RInv w0 kb st.nds.length p W':=by
 obtain ⟨_,l2,_⟩:=h.dg.lens
 have hkl:=(List.getElem?_eq_some_iff.1 hk).1
 have hpk : p (k : Int) = nx.any p:=by
  have h1:=(hp (k : Int)).trans (gets_node hk)
  cases hq : nx.any p with
  | true =>
   obtain ⟨t,ht,hpt⟩:=List.any_eq_true.1 hq
   exact h1.2 ⟨t,ht,(hp t).1 hpt⟩
  | false =>
   cases hr : p (k : Int) with
   | false => rfl
   | true =>
    obtain ⟨t,ht,hg⟩:=h1.1 hr
    rw [List.any_eq_true.2 ⟨t,ht,(hp t).2 hg⟩] at hq; cases hq
 obtain ⟨ng,hnr,hng⟩:=h.dg.n
 obtain ⟨b,o,cap,he,_,_,hbK,hcl⟩:=hnr.pos (by omega)
 have hgk:=hng k hkl
 rw [hk] at hgk
 dsimp only [Option.getD_some] at hgk
 obtain ⟨xa,xc,hxf,hxl,hxm⟩:=RowsV.form hgk
 have hkk:=h.kk
 have e5 : ∀ V,w0.grownBy V (some kb) -> V.cell? ⟨b,o + k * 2 + 1,none⟩ = some (.slice xa nx.length xc):=fun V hV => grown_cell hV (by omega) (by have := hcl k hkl 1 (by omega); rw [Nat.add_assoc,<- hxf]; simpa using this)
 have e1 : ∀ V,w0.grownBy V (some kb) -> V.cell? ⟨db,1,none⟩ = some (.slice (some ⟨b,o,none⟩) st.nds.length cap):=fun V hV => grown_cell hV h.n2 (by have := h.d.at (i:=1) (x:=x.n.val) rfl; rw [this]; exact congrArg some he)
 have e6 : ∀ V,w0.grownBy V (some kb) -> V.cell? ⟨rb,0,none⟩ = some (.func (.func 123) #[] (rchV wb db mb rb)):=fun V hV => grown_cell hV h.n4 (h.r.at rfl)
 have e0 : W.cell? ⟨mb,0,none⟩ = some (.map (some kb)):=grown_cell hI.grown h.n3 (h.m.at rfl)
 have hIL : InvL (RInv w0 kb st.nds.length p) (.slice xa nx.length xc) nx:=by
  refine ⟨⟨xa,xc,rfl,hxl,hxm⟩,fun h0 => ?_⟩
  obtain ⟨xb,xo,xc',hxe,_,_,hxK,hxc⟩:=RowsV.pos hgk h0
  rw [hxf] at hxe
  simp only [Value.slice.injEq,true_and] at hxe
  obtain ⟨rfl,rfl⟩:=hxe
  exact ⟨xb,xo,xc,rfl,fun V hV i hi => grown_cell hV.grown (by omega) (by have := hxc i hi 0 (by omega); simpa using this)⟩
 have hm40:=h.dv.nsz
 obtain ⟨D,hD1,hD2,hmap⟩:=hI.map
 have hDl:=nodup_len hD1 hD2
 have hk62 : k <= 2 ^ 62:=by omega
 have hml : D.length < maxLen:=by unfold maxLen; omega
 have H1:=Lib.hid e1
 have H5:=Lib.hid e5
 have H6:=Lib.hid e6
 have HIL:=Lib.hid hIL
 have HI:=Lib.hid hI
 have HM:=Lib.hid hmap
 have HD:=Lib.hid (And.intro hD1 hD2)
 have HREC:=Lib.hid hrec
 have HPK:=Lib.hid hpk
 have HNE3:=Lib.hid h.n3
 have HMB : Hid (w0.cell? ⟨mb,0,none⟩ = some (.map (some kb))):=Lib.hid (h.m.at rfl)
 obtain ⟨m,hm⟩ : ∃ m,st.nds.length = m:=⟨_,rfl⟩
 have HMM:=Lib.hid hm
 rw [hm] at H1 hkl
 have t0 : decide ((k : Int) < 0) = false:=decide_eq_false (by omega)
 have hat : fN (knF p D) (.int .i64 (k : Int)) = knF p D k:=fN_atD _ k hk62
 obtain ⟨r,hr⟩ : ∃ r,p (k : Int) = r:=⟨_,rfl⟩
 have HR:=Lib.hid hr
 rw [hr]
 obtain ⟨u,hu⟩ : ∃ u,nx.length = u:=⟨_,rfl⟩
 rw [hu] at H5 HIL
 show Calls Tryz.prog 123 #[.int .i64 (k : Int),.pointer (some ⟨wb,0,none⟩),.pointer (some ⟨db,0,none⟩),.pointer (some ⟨mb,0,none⟩),.pointer (some ⟨rb,0,none⟩)] W _
 by_cases hkD : D.contains k = true
 ·have hv1 : Hid ((fN (knF p D) (.int .i64 (k : Int))).getD (.bool false) = .bool r):=Lib.hid (by rw [hat]; unfold knF; rw [if_pos hkD,hr]; rfl)
  have hv2 : Hid ((fN (knF p D) (.int .i64 (k : Int))).isSome = true):=Lib.hid (by rw [hat]; unfold knF; rw [if_pos hkD]; rfl)
  clear l2 hpk hnr hng he hcl hgk hxf hxl hxm e1 e5 e6 hIL hD1 hD2 hmap hI h hp hk hrec hat hr hu hm hkD
  go_enter Tryz.func123,Tryz.ntmps123
  go_wp2_with (at_lookup; refine wpList_lookOk_M _ rfl _ _ 172 rfl _ keyN Tryz.underlying172 (Tryz.zeroValue4 _) rfl HM.out _ (.int .i64 (k : Int)) rfl (keyOf_Z k hk62) (.bool r) true hv1.out hv2.out ?_)
  go_ret
  exact ⟨rfl,HI.out⟩
 ·have hv1 : Hid ((fN (knF p D) (.int .i64 (k : Int))).getD (.bool false) = .bool false):=Lib.hid (by rw [hat]; unfold knF; rw [if_neg hkD]; rfl)
  have hv2 : Hid ((fN (knF p D) (.int .i64 (k : Int))).isSome = false):=Lib.hid (by rw [hat]; unfold knF; rw [if_neg hkD]; rfl)
  have hcont:=contf_any 123 (rchV wb db mb rb) (enters_of Tryz.func123 (by kernel_rfl) rfl) nx p (.slice xa u xc) (RInv w0 kb st.nds.length p) HIL.out hrec W.drew (hI.drewN 1)
  rw [<- hpk,hr] at hcont
  have HC:=Lib.hid hcont
  have EG:=h.eg
  clear EG l2 hpk hnr hng he hcl hgk hxf hxl hxm e1 e5 e6 hIL hD1 hD2 hmap hI h hp hk hrec hat hr hu hm hcont
  go_enter Tryz.func123,Tryz.ntmps123
  go_upto_region 5 with (at_lookup; refine wpList_lookOk_M _ rfl _ _ 172 rfl _ keyN Tryz.underlying172 (Tryz.zeroValue4 _) rfl HM.out _ (.int .i64 (k : Int)) rfl (keyOf_Z k hk62) (.bool false) false hv1.out hv2.out ?_)
  have qS : (fun W' => w0.grownBy W' (some kb)) W.drew:=(HI.out.drewN 1).grown
  refine region_plain (fun W' => w0.grownBy W' (some kb)) [] (by kernel_rfl) ?_
  refine wpAnyD_tp (i:=0) (v:=.pointer (some ⟨db,1,none⟩)) rfl qS ?_
  refine wpAnyD_tk (i:=1) (v:=.slice (some ⟨b,o,none⟩) m cap) rfl (.inl ⟨by kernel_rfl,fun W' hS => by have d0:=H1.out W' hS; go_simp⟩) qS ?_
  refine wpAnyD_tp (i:=2) (v:=.int .i64 (k : Int)) rfl qS ?_
  refine wpAnyD_tp (i:=3) (v:=.pointer (some ⟨b,o + k * 2,none⟩)) rfl qS ?_
  refine wpAnyD_tp (i:=4) (v:=.pointer (some ⟨b,o + k * 2 + 1,none⟩)) rfl qS ?_
  refine wpAnyD_tk (i:=5) (v:=.slice xa u xc) rfl (.inl ⟨by kernel_rfl,fun W' hS => by have d0:=H5.out W' hS; go_simp⟩) qS ?_
  refine wpAnyD_tk (i:=6) (v:=.func (.func 123) #[] (rchV wb db mb rb)) rfl (.inl ⟨by kernel_rfl,fun W' hS => by have d0:=H6.out W' hS; go_simp⟩) qS ?_
  refine wpAnyD_one (i:=7) (by kernel_rfl) rfl (by kernel_rfl) ?_
  go_simp
  refine HC.out.mono ?_
  clear HC
  rintro en w2 ⟨rfl,hi2⟩
  have qS2 : w0.grownBy w2 (some kb):=hi2.grown
  refine ⟨qS2,?_⟩
  refine wpAnyD_one (i:=8) (by kernel_rfl) rfl (by kernel_rfl) ?_
  go_simp
  refine wpAnyD_done (by kernel_rfl) ?_ _
  go_simp
  obtain ⟨D2,hE1,hE2,hmap2⟩:=hi2.map
  have hE3:=nodup_len hE1 hE2
  have hml2 : D2.length < maxLen:=by unfold maxLen; have := HMM.out; omega
  have HM2:=Lib.hid hmap2
  have HE:=Lib.hid (And.intro hE1 hE2)
  have HG2:=Lib.hid qS2
  have c0 : w2.cell? ⟨mb,0,none⟩ = some (.map (some kb)):=grown_cell qS2 HNE3.out HMB.out
  clear hi2 qS2 hE1 hE2 hE3 hmap2 qS e0
  apply (show ∀ (a : Act) (w : World),_ -> _ from by assumption)
  go_wp2_with (at_mapUpdate; refine wpList_put_M _ rfl _ _ _ 172 rfl _ keyN Tryz.underlying172 rfl HM2.out hml2 _ (.int .i64 (k : Int)) rfl (keyOf_Z k hk62) (.bool r) rfl ?_; intro w3 hm3 hg3)
  go_ret
  refine ⟨rfl,grownBy_then HG2.out hg3,?_⟩
  rw [upd_N _ _ hk62,show (.bool r : Value) = .bool (p (k : Int)) by rw [HR.out],knF_add] at hm3
  by_cases hkE : D2.contains k = true
  ·rw [show (fN (knF p D2) (.int .i64 (k : Int))).isSome = true by rw [fN_atD _ k hk62]; unfold knF; rw [if_pos hkE]; rfl] at hm3
   have e : knF p (D2 ++ [k]) = knF p D2:=by
    funext j
    unfold knF
    by_cases hj : j = k
    ·subst hj; simp; simpa using hkE
    ·simp [hj]
   rw [e] at hm3
   exact ⟨D2,HE.out.1,HE.out.2,hm3⟩
  ·rw [show (fN (knF p D2) (.int .i64 (k : Int))).isSome = false by rw [fN_atD _ k hk62]; unfold knF; rw [if_neg hkE]; rfl] at hm3
   refine ⟨D2 ++ [k],?_,fun j hj => ?_,by rw [List.length_append]; exact hm3⟩
   ·rw [List.nodup_append]
    exact ⟨HE.out.1,by simp,fun a ha b hb => by rw [List.mem_singleton.1 hb]; rintro rfl; exact hkE (List.contains_iff_mem.2 ha)⟩
   ·rcases List.mem_append.1 hj with hj | hj
    ·exact HE.out.2 j hj
    ·rw [List.mem_singleton.1 hj,HMM.out]; exact hkl
theorem rch_any (w0 : World) (K wb db mb rb kb gw : Nat) (x : Dv) (scs : List Sc) (st : DSt) (root : Int) (Wp : List Nat -> Bool) (h : RBox w0 K wb db mb rb kb gw x scs st root Wp) (p : Int -> Bool) (hp : ∀ t,p t = true ↔ Gets st Wp t) (N : Nat) : ∀ (t : Int),dmz st scs.length t <= N -> TOk st 0 t -> ∀ (W : World),RInv w0 kb st.nds.length p W →
  Calls Tryz.prog 123 (#[.int .i64 t] ++ rchV wb db mb rb) W fun e W' => e = .returned (.bool (p t)) /\ RInv w0 kb st.nds.length p W':=by
 induction N with
 | zero =>
  intro t ht hto W hI
  rcases hto with ⟨n,rfl,hn⟩ | ⟨k,y,rfl,hk,_⟩
  ·exact rch_leaf w0 K wb db mb rb kb gw x scs st root Wp h p hp n hn W hI
  ·exfalso
   obtain ⟨s,hs,_,_⟩:=h.dv.node k y.1 y.2 hk
   have hlt:=(List.getElem?_eq_some_iff.1 hs).1
   unfold dmz at ht
   rw [if_neg (by omega),show ((k : Int)).toNat = k from rfl,hk] at ht
   have : scs.length - y.1 <= 0:=ht
   omega
 | succ N ih =>
  intro t ht hto W hI
  rcases hto with ⟨n,rfl,hn⟩ | ⟨k,y,rfl,hk,_⟩
  ·exact rch_leaf w0 K wb db mb rb kb gw x scs st root Wp h p hp n hn W hI
  ·obtain ⟨sc,nx⟩:=y
   obtain ⟨s,hs,_,htk⟩:=h.dv.node k sc nx hk
   have hlt:=(List.getElem?_eq_some_iff.1 hs).1
   refine rch_node w0 K wb db mb rb kb gw x scs st root Wp h p hp k sc nx hk W hI fun t' ht' W' hI' => ?_
   have := dmz_step hk hlt (htk t' ht')
   exact ih t' (by omega) ((htk t' ht').mono (Ext.refl _) (Nat.zero_le _)) W' hI'
def LexLe (a b : List Nat) : Prop:=(∃ i : Nat,a[i]?.getD 0 < b[i]?.getD 0 /\ ∀ j : Nat,j < i -> a[j]?.getD 0 = b[j]?.getD 0) \/ ∀ j : Nat,a[j]?.getD 0 = b[j]?.getD 0
theorem cellsS_sorted (s : Sc) : (cellsS s).Pairwise (· < ·):=by
 unfold cellsS
 split
 ·exact List.Pairwise.filter _ List.pairwise_lt_range
 ·exact .nil
theorem sorted_head {l : List Nat} (h : l.Pairwise (· < ·)) {c : Nat} (hc : c ∈ l) : l.headD 0 <= c:=by
 cases l with
 | nil => cases hc
 | cons a r =>
  rcases List.mem_cons.1 hc with rfl | hc
  ·exact Nat.le_refl _
  ·exact Nat.le_of_lt (List.rel_of_pairwise_cons h hc)
section
variable {P : List (List Nat)} {st : DSt} {root : Int} {W : List Nat -> Bool}
theorem CellsIn.at {cs : List Nat} (h : CellsIn P cs) {j : Nat} (hj : j < P.length) : cs[j]?.getD 0 ∈ (P[j]?.getD []):=by
 have hl : j < cs.length:=by rw [h.1]; exact hj
 obtain ⟨p,hp,hc⟩:=h.2 j _ (List.getElem?_eq_getElem hl)
 rw [List.getElem?_eq_getElem hl,hp]; exact hc
theorem skip_cells (hP : ∀ p ∈ P,p.Pairwise (· < ·)) {a cs : List Nat} (hcs : CellsIn P cs) (s : Nat) (h0 : ∀ j,j < s -> a[j]?.getD 0 = cs[j]?.getD 0) : ∀ e,e <= P.length -> (∀ j,s <= j -> j < e -> a[j]?.getD 0 = (P[j]?.getD []).headD 0) →
  (∃ i,a[i]?.getD 0 < cs[i]?.getD 0 /\ i < e /\ ∀ j,j < i -> a[j]?.getD 0 = cs[j]?.getD 0) \/ ∀ j,j < e -> a[j]?.getD 0 = cs[j]?.getD 0
 | 0,_,_ => .inr fun j hj => absurd hj (Nat.not_lt_zero _)
 | e + 1,he,ha => by
  rcases skip_cells hP hcs s h0 e (by omega) (fun j h1 h2 => ha j h1 (by omega)) with ⟨i,h1,h2,h3⟩ | h
  ·exact .inl ⟨i,h1,by omega,h3⟩
  ·by_cases hes : e < s
   ·exact .inr fun j hj => h0 j (by omega)
   ·have h1:=ha e (by omega) (by omega)
    have hm:=hcs.at (j:=e) (by omega)
    have hp : (P[e]?.getD []).Pairwise (· < ·):=by
     rw [List.getElem?_eq_getElem (show e < P.length by omega)]
     exact hP _ (List.getElem_mem _)
    have h2:=sorted_head hp hm
    rw [<- h1] at h2
    by_cases heq : a[e]?.getD 0 = cs[e]?.getD 0
    ·refine .inr fun j hj => ?_
     by_cases hje : j = e
     ·rw [hje]; exact heq
     ·exact h j (by omega)
    ·exact .inl ⟨e,by omega,by omega,h⟩
def Least (P : List (List Nat)) (st : DSt) (root : Int) (W : List Nat -> Bool) (cells : List Nat) : Prop:=∀ cs l,CellsIn P cs -> Evals P st cs root l -> W l = true -> LexLe cells cs
structure Lead2 (P : List (List Nat)) (st : DSt) (W : List Nat -> Bool) (root t : Int) (cells : List Nat) : Prop where
 leads : Leads P st root t cells
 rest : ∀ i,tsc P st t <= i -> i < P.length -> cells[i]?.getD 0 = (P[i]?.getD []).headD 0
 tle : tsc P st t <= P.length
 min : ∀ cs l,CellsIn P cs -> Evals P st cs root l -> W l = true -> (∃ i,cells[i]?.getD 0 < cs[i]?.getD 0 /\ i < tsc P st t /\ ∀ j,j < i -> cells[j]?.getD 0 = cs[j]?.getD 0) \/ ((∀ j,j < tsc P st t -> cells[j]?.getD 0 = cs[j]?.getD 0) /\ Evals P st cs t l)
theorem Lead2.start (hP : ∀ p ∈ P,p.Pairwise (· < ·)) {cells : List Nat} (hc : cells = P.map fun p => p.headD 0) (ht : tsc P st root <= P.length) : Lead2 P st W root root cells:=by
 have hr : ∀ i,i < P.length -> cells[i]?.getD 0 = (P[i]?.getD []).headD 0:=fun i hi => by
  rw [hc,List.getElem?_map,List.getElem?_eq_getElem hi]; rfl
 refine ⟨Leads.start _,fun i _ => hr i,ht,fun cs l hcs hev hw => ?_⟩
 rcases skip_cells hP hcs 0 (fun j hj => absurd hj (Nat.not_lt_zero _)) (tsc P st root) ht (fun j _ hj => hr j (by omega)) with h | h
 ·exact .inl h
 ·exact .inr ⟨h,hev⟩
theorem Evals.gets {cs : List Nat} {t : Int} {l : List Nat} (h : Evals P st cs t l) (hw : W l = true) : Gets st W t:=by
 obtain ⟨n,hn,hl⟩:=h.reach
 exact ⟨n,l,hn,hl,hw⟩
theorem Lead2.step (hP : ∀ p ∈ P,p.Pairwise (· < ·)) {t : Int} {n sc i c : Nat} {nx : List Int} {cells : List Nat} (h : Lead2 P st W root (n : Int) cells) (hn : st.nds[n]? = some (sc,nx)) (ht : nx[i]? = some t) (hs : sc < tsc P st t) (hte : tsc P st t <= P.length) (hc : (P[sc]?.getD [])[i]? = some c) (hl : cells.length = P.length)
  (hmin : ∀ j t',j < i -> nx[j]? = some t' -> ¬ Gets st W t') : Lead2 P st W root t (cells.set sc c):=by
 have hscl : sc < P.length:=by omega
 have hp : (P[sc]?.getD []).Pairwise (· < ·):=by
  rw [List.getElem?_eq_getElem hscl]; exact hP _ (List.getElem_mem _)
 have hnd : (P[sc]?.getD []).Nodup:=hp.imp fun h => Nat.ne_of_lt h
 have e0 : ∀ j,j ≠ sc -> (cells.set sc c)[j]?.getD 0 = cells[j]?.getD 0:=fun j hj => by rw [List.getElem?_set_ne (Ne.symm hj)]
 have e1 : (cells.set sc c)[sc]?.getD 0 = c:=by rw [List.getElem?_set_self (by omega)]; rfl
 have htn : tsc P st (n : Int) = sc:=tsc_node hn
 refine ⟨h.leads.step hn ht hs hc hnd (by omega),fun j hj hjl => ?_,hte,fun cs l hcs hev hw => ?_⟩
 ·rw [e0 j (by omega)]; exact h.rest j (by rw [htn]; omega) hjl
 ·rcases h.min cs l hcs hev hw with ⟨k,h1,h2,h3⟩ | ⟨h1,h2⟩
  ·rw [htn] at h2
   exact .inl ⟨k,by rw [e0 k (by omega)]; exact h1,by omega,fun j hj => by rw [e0 j (by omega)]; exact h3 j hj⟩
  ·rw [htn] at h1
   generalize en : (n : Int) = u at h2
   cases h2 with
   | leaf m => omega
   | node m sc' nx' t' _ g1 g2 g3 =>
    obtain rfl : m = n:=by omega
    rw [hn] at g1
    cases g1
    have hm:=hcs.at hscl
    obtain ⟨k,hk⟩ : ∃ k,(P[sc]?.getD []).idxOf (cs[sc]?.getD 0) = k:=⟨_,rfl⟩
    rw [hk] at g2
    have hkl : k < (P[sc]?.getD []).length:=by rw [<- hk]; exact List.idxOf_lt_length_of_mem hm
    have hke : (P[sc]?.getD [])[k]? = some (cs[sc]?.getD 0):=by
     rw [List.getElem?_eq_getElem hkl]
     congr 1
     have := List.getElem_idxOf (x:=cs[sc]?.getD 0) (xs:=P[sc]?.getD []) (by rw [hk]; exact hkl)
     simpa only [hk] using this
    have hki : i <= k:=Nat.le_of_not_lt fun hlt => hmin k t' hlt g2 (g3.gets hw)
    by_cases hik : k = i
    ·subst hik
     rw [hc] at hke
     have hce:=Option.some.inj hke
     rw [ht] at g2
     cases g2
     have hb : ∀ j,j < sc + 1 -> (cells.set sc c)[j]?.getD 0 = cs[j]?.getD 0:=fun j hj => by
      by_cases hjs : j = sc
      ·rw [hjs,e1,hce]
      ·rw [e0 j hjs]; exact h1 j (by omega)
     rcases skip_cells hP hcs (sc + 1) hb (tsc P st t) hte (fun j hj1 hj2 => by rw [e0 j (by omega)]; exact h.rest j (by rw [htn]; omega) (by omega)) with hh | hh
     ·exact .inl hh
     ·exact .inr ⟨hh,g3⟩
    ·refine .inl ⟨sc,?_,by omega,fun j hj => by rw [e0 j (by omega)]; exact h1 j hj⟩
     rw [e1]
     obtain ⟨il,ie⟩:=List.getElem?_eq_some_iff.1 hc
     obtain ⟨kl,ke⟩:=List.getElem?_eq_some_iff.1 hke
     rw [<- ie,<- ke]
     exact List.pairwise_iff_getElem.1 hp i k il kl (by omega)
theorem Lead2.least {k : Nat} {cells : List Nat} (h : Lead2 P st W root (-1 - (k : Int)) cells) (hl : cells.length = P.length) : Least P st root W cells:=by
 intro cs l hcs hev hw
 rcases h.min cs l hcs hev hw with ⟨i,h1,h2,h3⟩ | ⟨h1,_⟩
 ·exact .inl ⟨i,h1,h3⟩
 ·refine .inr fun j => ?_
  rw [tsc_leaf] at h1
  by_cases hj : j < P.length
  ·exact h1 j hj
  ·rw [List.getElem?_eq_none (by omega),List.getElem?_eq_none (by rw [hcs.1]; omega)]
end
theorem knF_nil (p : Int -> Bool) : (fun _ => none : Lit -> Option Value) = fN (knF p []):=by
 funext x
 unfold fN knF
 split <;> simp
abbrev rchC (T : Nat) : Value:=.func (.func 123) #[] (rchV (T + 1) T (T + 3) (T + 4))
abbrev srchW (w : World) (dc : Array Value) (gw T : Nat) : World:=((((w.alloc (.cells dc 29)).alloc (.cells #[.func (.func gw) #[] #[]] 112)).alloc (.map #[] 0)).alloc (.cells #[.map (some (T + 2))] 172)).alloc (.cells #[.nilFunc] 132)
structure SrchL (w : World) (dc : Array Value) (gw T : Nat) (W : World) : Prop where
 d : Blk W T dc 29
 g : Blk W (T + 1) #[.func (.func gw) #[] #[]] 112
 k : ∀ p,MapIs W 3 (T + 2) 0 (fN (knF p []))
 m : Blk W (T + 3) #[.map (some (T + 2))] 172
 r : Blk W (T + 4) #[rchC T] 132
 bel : Below T w W
 size : W.heap.size = T + 5
theorem srch_laid (w : World) (dc : Array Value) (gw T : Nat) (hT : w.heap.size = T) : Blk (srchW w dc gw T) (T + 4) #[.nilFunc] 132 /\ SrchL w dc gw T ((srchW w dc gw T).setCell ⟨T + 4,0,none⟩ (rchC T)):=by
 subst hT
 have b : Below w.heap.size w (srchW w dc gw w.heap.size):=(((((Below.refl _ w).alloc (Nat.le_refl _) _).alloc (by simp) _).alloc (by simp; omega) _).alloc (by simp; omega) _).alloc (by simp; omega) _
 have k4:=Blk.new ((((w.alloc (.cells dc 29)).alloc (.cells #[.func (.func gw) #[] #[]] 112)).alloc (.map #[] 0)).alloc (.cells #[.map (some (w.heap.size + 2))] 172)) #[.nilFunc] 132
 have k3:=(Blk.new (((w.alloc (.cells dc 29)).alloc (.cells #[.func (.func gw) #[] #[]] 112)).alloc (.map #[] 0)) #[.map (some (w.heap.size + 2))] 172).alloc (.cells #[.nilFunc] 132)
 have k1:=(((Blk.new (w.alloc (.cells dc 29)) #[.func (.func gw) #[] #[]] 112).alloc (.map #[] 0)).alloc (.cells #[.map (some (w.heap.size + 2))] 172)).alloc (.cells #[.nilFunc] 132)
 have k0:=((((Blk.new w dc 29).alloc (.cells #[.func (.func gw) #[] #[]] 112)).alloc (.map #[] 0)).alloc (.cells #[.map (some (w.heap.size + 2))] 172)).alloc (.cells #[.nilFunc] 132)
 have k2:=((MapIs.made ((w.alloc (.cells dc 29)).alloc (.cells #[.func (.func gw) #[] #[]] 112)) 3).alloc (.cells #[.map (some (w.heap.size + 2))] 172)).alloc (.cells #[.nilFunc] 132)
 simp only [World.size_alloc,Nat.add_assoc,Nat.reduceAdd] at k1 k2 k3 k4
 refine ⟨k4,k0.other (by omega) _,k1.other (by omega) _,fun p => ?_,k3.other (by omega) _,k4.set _,b.setCell (p:=⟨w.heap.size + 4,0,none⟩) (by simp) _,by simp [World.setCell,World.size_alloc]⟩
 rw [<- knF_nil]
 exact MapIs.kept k2 (grownBy_setCell _ (w.heap.size + 4) 0 _) (by simp)
theorem grown_bel {w0 W : World} {kb : Nat} (h : w0.grownBy W (some kb)) (hk : kb <= w0.heap.size) : Below kb w0 W :=
 ⟨h.os,h.tape,h.output,h.size,fun b hb => h.block b (by omega) (by simp; omega)⟩
theorem grown_blk {w0 W : World} {kb b t : Nat} {cs : Array Value} (h : w0.grownBy W (some kb)) (hq : Blk w0 b cs t) (hne : b ≠ kb) : Blk W b cs t:=(h.block b hq.lt (by simpa using hne)).trans hq
theorem RBox.go {w0 W : World} {K wb db mb rb kb gw : Nat} {x : Dv} {scs : List Sc} {st : DSt} {root : Int} {Wp : List Nat -> Bool} (h : RBox w0 K wb db mb rb kb gw x scs st root Wp) (hg : w0.grownBy W (some kb)) : RBox W K wb db mb rb kb gw x scs st root Wp :=
 ⟨grown_blk hg h.w h.n1,grown_blk hg h.d h.n2,grown_blk hg h.m h.n3,grown_blk hg h.r h.n4,h.dg.below ((grown_bel hg (Nat.le_of_lt h.kl))) h.kk (Nat.le_refl _),h.dv,h.kk,Nat.lt_of_lt_of_le h.kl hg.size,h.n1,h.n2,h.n3,h.n4,h.eg,h.wc⟩
theorem RInv.step {w0 W W' : World} {kb N : Nat} {p : Int -> Bool} {r : Option Nat} (h : RInv w0 kb N p W) (hg : W.grownBy W' r) (hk : kb < w0.heap.size) (hr : ∀ g,r = some g -> w0.heap.size <= g) : RInv w0 kb N p W':=by
 have hs:=h.grown.size
 obtain ⟨D,h1,h2,h3⟩:=h.map
 exact ⟨⟨hg.os.trans h.grown.os,hg.tape.trans h.grown.tape,hg.output.trans h.grown.output,Nat.le_trans hs hg.size,fun b hb hne => (hg.block b (by omega) (fun e => absurd (hr b e.symm) (by omega))).trans (h.grown.block b hb hne)⟩,D,h1,h2,h3.kept hg (fun e => by have := hr kb e.symm; omega)⟩
theorem RInv.fresh {w0 : World} {kb N : Nat} {p : Int -> Bool} (h : ∃ D : List Nat,D.Nodup /\ (∀ k ∈ D,k < N) /\ MapIs w0 3 kb D.length (fN (knF p D))) : RInv w0 kb N p w0 :=
 ⟨⟨rfl,rfl,rfl,Nat.le_refl _,fun _ _ _ => rfl⟩,h⟩
theorem OwnN.set {base g n c i x : Nat} {w : World} {l : List Nat} (h : OwnN base w (.slice (some ⟨g,0,none⟩) n c) l) (hi : i < l.length) : OwnN base (w.setCell ⟨g,i,none⟩ (Z x)) (.slice (some ⟨g,0,none⟩) n c) (l.set i x):=by
 obtain ⟨_,hr⟩:=h
 rcases hr with ⟨hv,h0⟩ | ⟨g',cap,cur,hv,hb,hg,hn,hm,hsz,ht⟩
 ·omega
 simp only [Value.slice.injEq,Option.some.injEq,Addr.mk.injEq,and_true] at hv
 obtain ⟨rfl,rfl,rfl⟩:=hv
 rw [Nat.mul_one] at ht hsz
 have hb2:=(show Blk w g cur 3 from hg).set (i:=i) (Z x)
 unfold OwnN
 rw [List.length_set]
 refine ⟨by simp,.inr ⟨g,c,_,rfl,hb,hb2,hn,hm,by simp [hsz],?_⟩⟩
 rw [Nat.mul_one]
 apply List.ext_getElem?
 intro k
 by_cases hk : k < l.length
 ·have hck : k < cur.size:=by omega
  have h0 : cur[k]? = (l.map Z)[k]? := by
   have := congrArg (·[k]?) ht
   simpa only [List.getElem?_take_of_lt hk,Array.getElem?_toList] using this
  rw [List.getElem?_take_of_lt hk,Array.getElem?_toList,List.getElem?_map]
  by_cases h1 : k = i
  ·subst h1
   rw [Array.getElem?_setIfInBounds_self_of_lt hck,List.getElem?_set_self hk]; rfl
  ·rw [Array.getElem?_setIfInBounds_ne (fun e => h1 e.symm),List.getElem?_set_ne (fun e => h1 e.symm),h0,List.getElem?_map]
 ·rw [List.getElem?_take_eq_none (by omega),List.getElem?_eq_none (by simp; omega)]
theorem no_at {base : Nat} {W : World} {pv : Value} {L : List (List Nat)} {vs : List Value} {F : Nat -> Prop} (h : NO base W pv L vs F) {i : Nat} {l : List Nat} (hl : L[i]? = some l) {j c : Nat} (hc : l[j]? = some c) :
  ∃ pb po pm gb go gc,pv = .slice (some ⟨pb,po,none⟩) L.length pm /\ vs[i]? = some (.slice (some ⟨gb,go,none⟩) l.length gc) /\ W.cell? ⟨pb,po + i,none⟩ = some (.slice (some ⟨gb,go,none⟩) l.length gc) /\ W.cell? ⟨gb,go + j,none⟩ = some (Z c):=by
 have hi:=(List.getElem?_eq_some_iff.1 hl).1
 have hj:=(List.getElem?_eq_some_iff.1 hc).1
 obtain ⟨u,hu⟩ : ∃ u,vs[i]? = some u:=⟨_,List.getElem?_eq_getElem (by rw [h.len]; exact hi)⟩
 have hn : Nats W.heap.size W u l:=h.get hl hu
 obtain ⟨gb,go,gc,he,_,_,_,hcl⟩:=Nats.pos hn (by omega)
 obtain ⟨pb,po,pm,hpe,_,_,_,hpc⟩:=h.rows.pos (by omega)
 have h1:=hpc i hi 0 (by omega)
 rw [zip_at (row:=fun _ u => [u]) hl hu] at h1
 have h2:=hcl j hj
 rw [hc] at h2
 subst he
 exact ⟨pb,po,pm,gb,go,gc,hpe,hu,by simpa using h1,by simpa using h2⟩
def SrchQ (scs : List Sc) (st : DSt) (root : Int) (Wp : List Nat -> Bool) (B : Nat) (e : Ending) (w' : World) : Prop :=
 (e = .returned (.tuple #[.slice none 0 0,.bool false]) /\ ¬ Gets st Wp root) ∨
 ∃ v cs l,e = .returned (.tuple #[v,.bool true]) /\ OwnN B w' v cs /\ CellsIn (pcs scs) cs /\ Evals (pcs scs) st cs root l /\ Wp l = true /\ Least (pcs scs) st root Wp cs
end Go.Proofs.YtlidpghnlloinaaGreatDoor
