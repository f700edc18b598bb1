/- Contracts and plain laws, several texts in one (DLeaf, DTgt0). No conditions beyond those stated. -/
import Derived.Test.YtlidpghnlloinaaGreatDoorPk20
set_option maxRecDepth 100000
set_option maxHeartbeats 40000000
namespace Go.Proofs.YtlidpghnlloinaaGreatDoor
open Go.RowKit
set_option linter.unusedVariables false
theorem nats_ints {K : Nat} {w : World} {v : Value} {l : List Nat} (h : Nats K w v l) : IntsX K w v (l.map fun n : Nat => (n : Int)):=by
 have e : (l.map fun n : Nat => (n : Int)).length = l.length:=List.length_map ..
 unfold IntsX
 rw [e]
 exact RowsV.congr h fun i hi j _ => by rw [List.getElem?_map,List.getElem?_eq_getElem hi]; rfl
theorem ints_nil (K : Nat) (w : World) : IntsX K w (.slice none 0 0) []:=RowsV.nil none 0 (Nat.zero_le _) (fun _ => rfl)
theorem nats_blk {w : World} {b : Nat} {l : List Nat} {K : Nat} (h : Blk w b (l.map Z).toArray 3) (hl : l.length <= maxLen) (hb : b < K) : Nats K w (.slice (some ⟨b,0,none⟩) l.length l.length) l :=
 RowsV.mk_cells (Nat.le_refl _) hl hb fun i hi j hj => by
  obtain rfl : j = 0:=by omega
  have := h.at (i:=i) (x:=Z (l[i]?.getD 0)) (by simp [List.getElem?_eq_getElem hi])
  simpa using this
theorem range_filter (p : Nat -> Bool) (k : Nat) : (List.range (k + 1)).filter p = (List.range k).filter p ++ if p k = true then [k] else []:=by
 rw [List.range_succ,List.filter_append]
 cases h : p k <;> simp [h]
theorem filter_range_len (p : Nat -> Bool) (k : Nat) : ((List.range k).filter p).length <= k:=by
 have := List.length_filter_le p (List.range k)
 rwa [List.length_range] at this
theorem dleaf_any (x : Bn) (ok : BnOk x) {scs : List Sc} {es : List Gx} {d : Dy} {st : DSt} {cur : List Nat} (w : World) (h : BI x scs es d st st cur w)
  (hcs : CellsIn (pcs scs) cur) (htab : PTab x.B w) (hes : es.length <= 2 ^ 20) (hsz : st.lvs.length + 1 <= 2 ^ 38) (hsn : x.sv.n <= 2 ^ 20) :
  Calls Tryz.prog 108 #[.pointer (some ⟨x.bb,0,none⟩)] w fun e w' => e = .returned (.int .i64 (addLeaf st (lfS scs es cur)).1) ∧
   ∃ d',BI x scs es d' (addLeaf st (lfS scs es cur)).2 (addLeaf st (lfS scs es cur)).2 cur w' /\ Fr x d d' w w':=by
 obtain ⟨hC,hF,_,_⟩:=h.get
 obtain ⟨n,hn⟩ : ∃ n,es.length = n:=⟨_,rfl⟩
 rw [hn] at hC hF hes
 obtain ⟨ca,cm,hcv,hcl,hcm⟩:=hC.form
 rw [hcv] at hC
 unfold maxLen at hcm
 obtain ⟨la,lc,hlv,hll,hlm⟩:=h.lvs.own.form
 have hzl : (List.zipWith (fun (_ : List Nat) (u : Value) => [u]) st.lvs d.ls).length = st.lvs.length:=by rw [List.length_zipWith,h.lvs.len,Nat.min_self]
 rw [hzl] at hlv hll
 have HZL:=Lib.hid hzl
 obtain ⟨T,hT⟩ : ∃ T,w.heap.size = T:=⟨_,rfl⟩
 have HT:=Lib.hid hT
 have hTx : x.T <= T:=by rw [<- hT]; exact h.big
 have hBT : x.B <= T:=by have := ok.l1; have := ok.u1; omega
 have hbbT : x.bb < T:=by have := ok.u1; omega
 have hcbT : x.cb < T:=by have := ok.u2; omega
 have hlmT : x.lm < T:=by have := ok.u4; omega
 have c2 : w.cell? ⟨x.bb,2,none⟩ = some (.slice la st.lvs.length lc):=by rw [<- hlv]; exact h.blk.at rfl
 have c4 : w.cell? ⟨x.bb,4,none⟩ = some (.slice ca n cm):=by rw [<- hcv]; exact h.blk.at rfl
 have c6 : w.cell? ⟨x.bb,6,none⟩ = some (.slice (some ⟨x.cb,0,none⟩) x.sv.n x.sv.n):=h.blk.at rfl
 have c8 : w.cell? ⟨x.bb,8,none⟩ = some (.map (some x.lm)):=h.blk.at rfl
 have HC:=Lib.hid hC
 have HF:=Lib.hid hF
 have HB:=Lib.hid h
 have HTAB:=Lib.hid htab
 have HN:=Lib.hid hn
 have HLV:=Lib.hid hlv
 have HCS:=Lib.hid hcs
 obtain ⟨lf,hlf⟩ : ∃ lf,lfS scs es cur = lf:=⟨_,rfl⟩
 have HLF : Hid (((List.range n).filter fun i => evG scs cur (es[i]?.getD default)) = lf):=Lib.hid (by rw [<- hn,<- hlf]; rfl)
 rw [hlf]
 clear hlf
 have HNAT : Hid (∀ W,Below T w W -> Nats W.heap.size W (.slice (some ⟨x.cb,0,none⟩) x.sv.n x.sv.n) cur):=Lib.hid fun W hb => by
  have := nats_blk (K:=W.heap.size) (h.cells.below hb hcbT) (by rw [h.len]; unfold maxLen; omega) (by have := hb.size; omega)
  rwa [h.len] at this
 clear hC hF htab hn hlv hcs hcv hT hzl
 have h:=HB.out
 clear h
 go_enter Tryz.func108,Tryz.ntmps108
 go_wp2_with fail
 go_loopw [3,14] (fun ov iv wr => ∃ (k : Nat),k <= n /\ iv = .int .i64 k /\ OwnN T wr ov ((List.range k).filter fun i => evG scs cur (es[i]?.getD default)) /\ Below T w wr) (fun _ iv _ => n - (intOf iv).toNat)
 case atStart => exact ⟨0,Nat.zero_le _,rfl,World.ownsRow_nil _ _ _ _,Below.refl _ _⟩
 case round =>
  obtain ⟨k,hk,rfl,hown,hbw⟩:=hrel
  obtain ⟨wo,rfl⟩ : ∃ wo : World,wo = wr:=⟨_,rfl⟩
  obtain ⟨oa,oc,hov,_,_⟩:=ownsRow_form hown
  have hTo : T <= wo.heap.size:=by have := hbw.size; have := HT.out; omega
  have HOWN:=Lib.hid hown
  have HBW:=Lib.hid hbw
  have HNT:=Lib.hid (HNAT.out wo hbw)
  have d2:=(hbw.cell (p:=⟨x.bb,2,none⟩) hbbT).trans c2
  have d4:=(hbw.cell (p:=⟨x.bb,4,none⟩) hbbT).trans c4
  have d6:=(hbw.cell (p:=⟨x.bb,6,none⟩) hbbT).trans c6
  have d8:=(hbw.cell (p:=⟨x.bb,8,none⟩) hbbT).trans c8
  obtain ⟨pl,hpl⟩ : ∃ pl,((List.range k).filter fun i => evG scs cur (es[i]?.getD default)) = pl:=⟨_,rfl⟩
  have hpll : pl.length <= n:=by rw [<- hpl]; exact Nat.le_trans (filter_range_len _ _) hk
  rw [hpl] at hown hov HOWN
  have HPL:=Lib.hid hpl
  obtain ⟨q,hq⟩ : ∃ q,pl.length = q:=⟨_,rfl⟩
  rw [hq] at hov hpll
  subst hov
  have HQ:=Lib.hid hq
  clear hown hbw hpl hq
  by_cases hlt : k < n
  ·obtain ⟨b,o,cap,he,_,_,hbK,hc⟩:=HC.out.pos (by omega)
   simp only [Value.slice.injEq,true_and] at he
   obtain ⟨rfl,rfl⟩:=he
   have e0 : wo.cell? ⟨b,o + k,none⟩ = some (x.fv k):=(HBW.out.cell (p:=⟨b,o + k,none⟩) (by rw [<- HT.out]; exact hbK)).trans (by have := hc k hlt 0 (by omega); simpa using this)
   obtain ⟨g,caps,hfv,hg,hcall⟩:=HF.out k hlt
   rw [hfv] at e0
   obtain ⟨t,ht⟩ : ∃ t,evG scs cur (es[k]?.getD default) = t:=⟨_,rfl⟩
   have hca:=hcall wo _ cur (by rw [HT.out]; exact HBW.out) (by rw [HT.out]; exact hTo) HNT.out HCS.out
   simp only [ht] at hca
   have HCA:=Lib.hid hca
   have HTT:=Lib.hid ht
   clear hc hcall hca ht hfv
   go_wp2_with fail
   refine HCA.out.mono ?_
   clear HCA
   rintro e w3 ⟨rfl,hb3⟩
   have hb3T : Below T wo w3:=hb3.mono hTo
   have HB3:=Lib.hid (HBW.out.trans hb3T)
   have hT3 : T <= w3.heap.size:=by have := hb3.size; omega
   have HO3 : Hid (OwnN T w3 (.slice oa q oc) pl):=Lib.hid (HOWN.out.old hb3 (Nat.le_refl _))
   clear hb3 hb3T
   cases t with
   | true =>
    have hts : Hid (((List.range (k + 1)).filter fun i => evG scs cur (es[i]?.getD default)) = pl ++ [k]):=Lib.hid (by rw [range_filter,HPL.out,if_pos HTT.out])
    have hl1 : pl.length + 1 <= 2 ^ 40:=by rw [HQ.out]; omega
    go_wp2_with (at_builtin; refine wpList_append_N rfl (.tmp 25) (.tmp 27) rfl rfl rfl (HO3.out.old ((Below.refl _ _).alloc (Nat.le_refl _) _) (Nat.le_refl _)) ((Blk.new w3 #[Z k] _).at rfl) hl1 (by simp; omega) ?_; intro g1 cap1 w5 hown5 hg5 hat5)
    have hb5 : Below T w w5:=(HB3.out.alloc hT3 _).grown hg5 (by simp; omega) (fun r hr => (ownsRow_cells HO3.out hr).1)
    exact ⟨⟨k + 1,by omega,by go_num,by rw [hts.out]; exact hown5,hb5⟩,by simp [intOf]; omega⟩
   | false =>
    have hts : Hid (((List.range (k + 1)).filter fun i => evG scs cur (es[i]?.getD default)) = pl):=Lib.hid (by rw [range_filter,HPL.out,if_neg (by rw [HTT.out]; simp),List.append_nil])
    go_wp2_with fail
    exact ⟨⟨k + 1,by omega,by go_num,by rw [hts.out]; exact HO3.out,HB3.out⟩,by simp [intOf]; omega⟩
  ·obtain rfl : k = n:=by omega
   obtain rfl : lf = pl:=by rw [<- HLF.out,HPL.out]
   have hn40 : ∀ z ∈ ([] : List Int) ++ lf.map (fun n : Nat => (n : Int)),-(2 ^ 62) < z /\ z < 2 ^ 62:=fun z hz => by
    rw [List.nil_append] at hz
    obtain ⟨y,hy,rfl⟩:=List.mem_map.1 hz
    rw [<- HPL.out] at hy
    have := List.mem_range.1 (List.mem_filter.1 hy).1
    omega
   have htx:=dtext_any wo.heap.size (.slice oa q oc) (.slice none 0 0) (lf.map fun n : Nat => (n : Int)) [] wo (nats_ints (OwnN.nats HOWN.out)) (ints_nil _ _) hn40 (by rw [List.length_map,HQ.out]; simp; omega) (Nat.le_refl _) ((HTAB.out.on (HBW.out.mono hBT)).up (by omega))
   rw [List.nil_append] at htx
   have hkl : (keyF lf).length <= maxLen:=by
    have := keyL_len (lf.map fun n : Nat => (n : Int)) fun z hz => hn40 z (by rw [List.nil_append]; exact hz)
    rw [List.length_map,HQ.out] at this
    unfold keyF maxLen; omega
   have HTX:=Lib.hid htx
   obtain ⟨key,hkey⟩ : ∃ key,keyF lf = key:=⟨_,rfl⟩
   have hkey2 : keyL (lf.map fun n : Nat => (n : Int)) = key:=hkey
   rw [hkey2] at HTX
   rw [hkey] at hkl
   have HKEY:=Lib.hid hkey
   clear htx hn40 hkey hkey2
   go_wp2_with fail
   refine HTX.out.mono ?_
   clear HTX
   rintro e w3 ⟨rfl,hb3⟩
   have hTb3 : Below T wo w3:=hb3.mono hTo
   have hb3w : Below T w w3:=HBW.out.trans hTb3
   have hT3 : T <= w3.heap.size:=by have := hb3.size; omega
   have d2:=(hTb3.cell (p:=⟨x.bb,2,none⟩) hbbT).trans d2
   have d8:=(hTb3.cell (p:=⟨x.bb,8,none⟩) hbbT).trans d8
   have hbi:=HB.out.old (by rw [HT.out]; exact hb3w) ok
   have HBI:=Lib.hid hbi
   have HM:=Lib.hid hbi.lmap
   have HFR:=Lib.hid (HB.out.fr_old ok (by rw [HT.out]; exact hb3w))
   have HOWN3 : Hid (OwnN T w3 (.slice oa q oc) lf):=Lib.hid (HOWN.out.old hb3 (Nat.le_refl _))
   have hat:=lmF_at (l:=st.lvs) (a:=lf)
   rw [HKEY.out] at hat
   have HB3:=Lib.hid hb3w
   clear hbi hb3 hTb3 hb3w
   by_cases hi : st.lvs.idxOf lf < st.lvs.length
   ·rw [if_pos hi] at hat
    have hv1 : Hid ((fS (lmF st.lvs) (.string key)).getD (.int .i64 0) = Z (st.lvs.idxOf lf)):=Lib.hid (by rw [fS_str,hat]; rfl)
    have hv2 : Hid ((fS (lmF st.lvs) (.string key)).isSome = true):=Lib.hid (by rw [fS_str,hat]; rfl)
    have hres : addLeaf st lf = (-1 - (st.lvs.idxOf lf : Int),st):=by unfold addLeaf; rw [if_pos hi]
    obtain ⟨ix,hix⟩ : ∃ ix,st.lvs.idxOf lf = ix:=⟨_,rfl⟩
    rw [hix] at hv1 hi hres
    have hw : IntKind.i64.wrap (-1 - (ix : Int)) = -1 - (ix : Int):=IntWalk.i64_in _ (by omega)
    have HRES:=Lib.hid hres
    clear hat hres hix
    go_wp2_with (at_lookup; refine wpList_lookOk_M _ rfl _ _ 108 rfl _ keyS Tryz.underlying108 (Tryz.zeroValue3 _) rfl HM.out _ (.string key) rfl (keyOf_S key hkl) (Z ix) true hv1.out hv2.out ?_)
    go_ret
    rw [HRES.out]
    exact ⟨rfl,d,HBI.out,HFR.out⟩
   ·rw [if_neg hi] at hat
    have hv1 : Hid ((fS (lmF st.lvs) (.string key)).getD (.int .i64 0) = .int .i64 0):=Lib.hid (by rw [fS_str,hat]; rfl)
    have hv2 : Hid ((fS (lmF st.lvs) (.string key)).isSome = false):=Lib.hid (by rw [fS_str,hat]; rfl)
    have hres : addLeaf st lf = (-1 - (st.lvs.length : Int),⟨st.nds,st.lvs ++ [lf]⟩):=by unfold addLeaf; rw [if_neg hi]
    have HSN:=Lib.hid (lmF_snoc (l:=st.lvs) (a:=lf) hi)
    obtain ⟨m,hm⟩ : ∃ m,st.lvs.length = m:=⟨_,rfl⟩
    rw [hm] at d2 hres hsz HLV HZL HSN HM hll
    have hml : m < maxLen:=by unfold maxLen; omega
    have hw : IntKind.i64.wrap (-1 - (m : Int)) = -1 - (m : Int):=IntWalk.i64_in _ (by omega)
    have HRES:=Lib.hid hres
    have HMM:=Lib.hid hm
    clear hat hres hm hi
    go_upto_region 12 with (at_lookup; refine wpList_lookOk_M _ rfl _ _ 108 rfl _ keyS Tryz.underlying108 (Tryz.zeroValue3 _) rfl HM.out _ (.string key) rfl (keyOf_S key hkl) (.int .i64 0) false hv1.out hv2.out ?_)
    have d8' : w3.cell? ⟨x.bb,8,none⟩ = some (.map (some x.lm)):=d8
    go_upto_region 13 with (at_mapUpdate; refine wpList_put_M _ rfl _ _ _ 108 rfl _ keyS Tryz.underlying108 rfl HM.out hml _ (.string key) rfl (keyOf_S key hkl) (Z m) rfl ?_; intro w4 hm4 hg4; rw [hv2.out,upd_S,<- HKEY.out,HSN.out] at hm4)
    have hbi4:=HBI.out.putL ok (l':=st.lvs ++ [lf]) hg4 (by rw [List.length_append,HMM.out]; exact hm4)
    have HFR4:=Lib.hid (HFR.out.trans (HBI.out.fr_put ok (.inr rfl) hg4))
    have hs4:=hg4.size
    have hu4 : ∀ b,(Value.slice oa q oc).ownBlock = some b -> T <= b /\ b < w3.heap.size:=fun b hb => ⟨(ownsRow_cells HOWN3.out hb).1,ownsRow_lt HOWN3.out hb⟩
    have HOWN4 : Hid (OwnN T w4 (.slice oa q oc) lf):=Lib.hid (World.ownsRow.kept HOWN3.out hg4 (.inr fun e => by have := (ownsRow_cells HOWN3.out (r:=x.lm) e).1; omega))
    have hbe : Below w4.heap.size w4 (w4.alloc (.cells #[.slice oa q oc] 56)):=(Below.refl _ _).alloc (Nat.le_refl _) _
    have hbi5:=hbi4.old hbe ok
    have HFR5:=Lib.hid (HFR4.out.trans (hbi4.fr_old ok hbe))
    have HBI5:=Lib.hid hbi5
    have HOWN5 : Hid (OwnN T (w4.alloc (.cells #[.slice oa q oc] 56)) (.slice oa q oc) lf):=Lib.hid (HOWN4.out.old hbe (Nat.le_refl _))
    have HU:=Lib.hid hu4
    have e2 : w4.cell? ⟨x.bb,2,none⟩ = some (.slice la m lc):=by rw [<- HLV.out]; exact hbi4.blk.at rfl
    have HL5 : Hid (OwnR 1 56 x.T (w4.alloc (.cells #[.slice oa q oc] 56)) (.slice la m lc) (List.zipWith (fun (_ : List Nat) (u : Value) => [u]) st.lvs d.ls)):=Lib.hid (by rw [<- HLV.out]; exact hbi5.lvs.own)
    have HROW1 : Hid (RowsOk 1 [[.slice oa q oc]]):=Lib.hid (RowsOk.one rfl fun u hu => by rw [List.mem_singleton.1 hu]; rfl)
    have HRC : Hid (∀ (i : Nat) (r : List Value) (j : Nat) (u : Value),([[.slice oa q oc]] : List (List Value))[i]? = some r -> r[j]? = some u -> (w4.alloc (.cells #[.slice oa q oc] 56)).cell? ⟨w4.heap.size,0 + (i * 1 + j),none⟩ = some u):=Lib.hid fun i r j u h1 h2 => by
     have hi0 : i = 0:=by have := (List.getElem?_eq_some_iff.1 h1).1; simp at this; omega
     subst hi0
     cases h1
     have hj0 : j = 0:=by have := (List.getElem?_eq_some_iff.1 h2).1; simp at this; omega
     subst hj0
     cases h2
     exact (Blk.new w4 #[.slice oa q oc] 56).at rfl
    have hxT4 : x.T <= w4.heap.size:=by omega
    obtain ⟨RS,hRS⟩ : ∃ RS,List.zipWith (fun (_ : List Nat) (u : Value) => [u]) st.lvs d.ls = RS:=⟨_,rfl⟩
    rw [hRS] at HL5 HZL
    have HRS:=Lib.hid hRS
    clear hRS
    clear hbi4 hbe hbi5 hu4 hg4 hm4 d2 d4 d6 d8 d8'
    go_wp2_with (at_builtin; refine wpList_append_rows rfl (.tmp 60) (.tmp 62) 27 rfl Tryz.underlying27 Tryz.infoIntsG (by kernel_rfl) (by decide) rfl HL5.out (b:=w4.heap.size) (off:=0) (m:=1) (cap:=1) (ms:=[[.slice oa q oc]]) rfl rfl HROW1.out HRC.out (by decide) (by rw [HZL.out]; unfold maxLen; omega) (by rw [HZL.out]; omega) (by simp; omega) ?_; intro g1 cap1 w5 hown5 hg5 hat5; have q5:=HBI5.out.blk.kept hg5 (fun e => by rw [<- HLV.out] at e; have := (HBI5.out.llow e.symm).1; have := ok.u1; omega); have e22:=q5.at (i:=2) rfl; have f22:=q5.free 2)
    go_ret
    have hp:=HBI5.out.pushL ok HFR5.out (l:=lf) (u:=.slice oa q oc) (G:=fun b => (Value.slice oa q oc).ownBlock = some b) (nats_own HOWN5.out fun b h => h) (fun b hb => by rw [HT.out]; exact (HU.out b hb).1)
     (fun b hb => ⟨by have := (HU.out b hb).1; omega,by have := (HU.out b hb).2; simp; omega,fun e => by have := (HB.out.llow e).2; have := (HU.out b hb).1; have := HT.out; omega,fun e => by have := (HB.out.nlow e).2; have := (HU.out b hb).1; have := HT.out; omega⟩)
     (by rw [HLV.out]; exact hg5) (by rw [HRS.out]; exact hown5) (by rw [HLV.out]; rcases hat5 with e | e; exact .inl e; exact .inr e)
    rw [HRES.out]
    exact ⟨rfl,_,hp.1,hp.2⟩
theorem nth_toArray (zs : List Int) {j : Nat} (h : j < zs.length) : zs.toArray[j]! = zs[j]:=by
 rw [getElem!_pos zs.toArray j (by simpa using h)]; simp
theorem compact_one {zs : List Int} (h : zs ≠ []) : (Lib.compact zs).length = 1 ↔ alike zs = true:=by
 obtain ⟨n,hn⟩ : ∃ n,zs.length = n + 1:=⟨zs.length - 1,by have := List.length_pos_iff.2 h; omega⟩
 unfold Lib.compact Lib.compactUpTo
 rw [List.length_map,hn]
 have h0 : zs.headD 0 = zs[0]:=by cases zs with | nil => cases hn | cons a b => rfl
 have h00 : 0 ∈ (List.range (n + 1)).filter (Lib.keeps zs.toArray):=List.mem_filter.2 ⟨List.mem_range.2 (by omega),Lib.keeps_lt_one _ 0 (by omega)⟩
 constructor
 ·intro h1
  obtain ⟨a,ha⟩:=List.length_eq_one_iff.1 h1
  rw [ha,List.mem_singleton] at h00
  subst h00
  have hstep : ∀ j,j < n + 1 -> zs.toArray[j]! = zs.toArray[0]! := by
   intro j
   induction j with
   | zero => intro _; rfl
   | succ j ih =>
    intro hj
    rw [<- ih (by omega)]
    by_cases e : zs.toArray[j + 1]! = zs.toArray[j]!
    ·exact e
    ·have : j + 1 ∈ (List.range (n + 1)).filter (Lib.keeps zs.toArray):=List.mem_filter.2 ⟨List.mem_range.2 hj,Lib.keeps_pos e⟩
     rw [ha,List.mem_singleton] at this
     omega
  unfold alike
  rw [List.all_eq_true]
  intro t ht
  obtain ⟨j,hj,rfl⟩:=List.getElem_of_mem ht
  have := hstep j (by omega)
  rw [nth_toArray zs hj,nth_toArray zs (by omega)] at this
  rw [this,h0]; simp
 ·intro ha
  have e : (List.range (n + 1)).filter (Lib.keeps zs.toArray) = (List.range (n + 1)).filter fun j => decide (j = 0):=by
   refine List.filter_congr fun j hj => ?_
   have hj:=List.mem_range.1 hj
   by_cases hj0 : j = 0
   ·subst hj0; rw [Lib.keeps_lt_one _ 0 (by omega)]; rfl
   ·rw [Lib.keeps_neg (by omega) ?_]
    ·simp [hj0]
    ·rw [nth_toArray zs (by omega),nth_toArray zs (by omega),alike_head ha (List.getElem_mem _),alike_head ha (List.getElem_mem _)]
  rw [e,List.range_succ_eq_map,List.filter_cons_of_pos (by simp),List.filter_map]
  simp
theorem OwnI.nonempty {base : Nat} {w : World} {v : Value} {l : List Int} (h : OwnI base w v l) (h0 : l ≠ []) : ∃ g c,v = .slice (some ⟨g,0,none⟩) l.length c /\ base <= g /\ g < w.heap.size /\ l.length <= c /\ c <= maxLen /\ ∀ j,w.frozen? ⟨g,j,none⟩ = false:=by
 rcases id h.2 with ⟨rfl,h1⟩ | ⟨g,cap,cur,rfl,hb,hg,hn,hm,_⟩
 ·exact absurd (List.eq_nil_of_length_eq_zero h1) h0
 ·exact ⟨g,cap,rfl,hb,(Array.getElem?_eq_some_iff.1 hg).1,hn,hm,fun j => Blk.free hg j⟩
theorem dclone_any (base : Nat) (v : Value) (l : List Int) (w : World) (h : OwnI base w v l) (h0 : l ≠ []) (hl : l.length <= 2 ^ 40) :
  Calls Tryz.prog 64 #[v] w fun e w' => ∃ v',e = .returned v' /\ OwnI w.heap.size w' v' l /\ Below w.heap.size w w':=by
 obtain ⟨g,c,rfl,_,_,hn,_,_⟩:=h.nonempty h0
 refine (Tryz.slices_Clone_int g 0 l.length c l w (Nat.le_refl _) (by omega) fun j hj => ?_).mono ?_
 ·have := h.at j hj
  rw [Nat.zero_add,List.getD_eq_getElem?_getD]; exact this
 ·rintro e w' ⟨v',rfl,ho,_,hb⟩
  rw [List.take_length] at ho
  exact ⟨v',rfl,ho,hb⟩
theorem dcomp_any (base : Nat) (v : Value) (l : List Int) (w : World) (h : OwnI base w v l) (h0 : l ≠ []) (hl : l.length <= 2 ^ 40) :
  Calls Tryz.prog 109 #[v] w fun e w' => ∃ a c,e = .returned (.slice a (Lib.compact l).length c) /\ Below base w w':=by
 obtain ⟨g,c,rfl,hbg,_,hn,_,hf⟩:=h.nonempty h0
 refine (Tryz.slices_Compact_int_cells g 0 l.length c l w (Nat.le_refl _) (by omega) hn (fun j hj => ?_) fun j _ => ?_).mono ?_
 ·have := h.at j hj
  rw [Nat.zero_add,List.getD_eq_getElem?_getD]; exact this
 ·rw [Nat.zero_add]; exact hf j
 ·rintro e w' ⟨rfl,q,rfl⟩
  rw [List.take_length]
  exact ⟨_,_,rfl,below_setCells hbg _ _ _ ((Below.refl base w).trans ⟨rfl,rfl,rfl,Nat.le_refl _,fun _ _ => rfl⟩)⟩
theorem Fr.grown {x : Bn} {d d' : Dy} {w w' w'' : World} {row : Option Nat} (h : Fr x d d' w w') (hg : w'.grownBy w'' row) (hr : ∀ g,row = some g -> w.heap.size <= g) (hB : x.B <= w.heap.size) : Fr x d d' w w'' :=
 ⟨h.bel.trans (below_grown hg (fun k e => Nat.le_trans hB (hr k e)) (Nat.le_trans hB h.bel.size)),fun b hl h1 h2 h3 h4 h5 h6 => (hg.block b (Nat.lt_of_lt_of_le hl h.bel.size) fun e => by have := hr b e.symm; omega).trans (h.keep b hl h1 h2 h3 h4 h5 h6),h.nat,h.lat,h.f1,h.f2⟩
def TgtC (x : Bn) (scs : List Sc) (es : List Gx) (Q : List (List Nat)) : Prop :=
 ∀ (sc : Nat) (pre : List Nat) (st : DSt) (d : Dy) (cur : List Nat) (w : World),(pcs scs).drop sc = Q -> sc <= scs.length -> WF (pcs scs) (lfS scs es) st -> CellsIn ((pcs scs).take sc) pre -> BI x scs es d st st cur w -> cur.take sc = pre -> PTab x.B w →
  st.nds.length + prodL Q <= 2 ^ 30 -> st.lvs.length + prodL Q <= 2 ^ 30 →
  Calls Tryz.prog 50 #[.pointer (some ⟨x.bb,0,none⟩),.int .i64 sc] w fun e w' => e = .returned (.int .i64 (tgt (lfS scs es) Q sc pre st).1) ∧
   ∃ d' cur',BI x scs es d' (tgt (lfS scs es) Q sc pre st).2 (tgt (lfS scs es) Q sc pre st).2 cur' w' /\ Fr x d d' w w' /\ cur'.take sc = pre
theorem dtarget_nil (x : Bn) (ok : BnOk x) (scs : List Sc) (es : List Gx) (hes : es.length <= 2 ^ 20) (hsn : x.sv.n <= 2 ^ 20) : TgtC x scs es []:=by
 intro sc pre st d cur w hd hs hwf hcs h htk htab hn hl
 have hsc : sc = x.sv.n:=by
  have := congrArg List.length hd
  have h2:=h.scl
  simp [pcs] at this; omega
 subst hsc
 have e : cur = pre:=by rw [<- htk,List.take_of_length_le (by rw [h.len]; exact Nat.le_refl _)]
 have hcl : CellsIn (pcs scs) cur:=by
  rw [e]
  rwa [List.take_of_length_le (by unfold pcs; rw [List.length_map,h.scl]; exact Nat.le_refl _)] at hcs
 have hlf:=dleaf_any x ok w h hcl htab hes (by have : 1 <= prodL []:=Nat.le_refl _; omega) hsn
 have HLF:=Lib.hid hlf
 have c0 : w.cell? ⟨x.bb,0,none⟩ = some (.slice x.sv.a x.sv.n x.sv.m):=h.blk.at rfl
 have hbb:=h.blk.lt
 rw [<- e]
 have HE:=Lib.hid htk
 have HL:=Lib.hid h.len
 show Calls _ _ _ _ (fun e w' => e = .returned (.int .i64 (addLeaf st (lfS scs es cur)).1) /\ _)
 clear hd hs hwf hcs h htk htab hn hl hlf hcl e
 go_enter Tryz.func50,Tryz.ntmps50
 go_wp2_with fail
 refine HLF.out.mono ?_
 clear HLF
 rintro e w3 ⟨rfl,d',hbi,hfr⟩
 go_wp2_with fail
 go_ret
 exact ⟨rfl,d',cur,hbi,hfr,List.take_of_length_le (by rw [HL.out]; exact Nat.le_refl _)⟩
end Go.Proofs.YtlidpghnlloinaaGreatDoor
