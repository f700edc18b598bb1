/- Contracts and plain laws, several texts in one (GlM12, DLaw, DLaw2, DVal0, DExi, DCnd1, DTst0). No conditions beyond those stated. -/
import Derived.Laws.MakeOwn
import Derived.Test.YtlidpghnlloinaaGreatDoorPk20
import Derived.Test.YtlidpghnlloinaaGreatDoorPk23
set_option maxRecDepth 100000
set_option maxHeartbeats 40000000
namespace Go.Proofs.YtlidpghnlloinaaGreatDoor
open Go.RowKit
set_option linter.unusedVariables false
theorem row72 {w : World} {b t k : Nat} {g : Nat -> Vv} (h : Blk w b (cells72 g).toArray t) (hk : k < 12) : w.rangeAt b (k * 6) (g k).cells.toList:=by
 intro j v hj
 have hj6 : j < 6:=(List.getElem?_eq_some_iff.1 hj).1
 refine h.at ?_
 rw [List.getElem?_toArray,cells72_at g hk hj6,<- hj]
 have hj7 : j = 0 \/ j = 1 \/ j = 2 \/ j = 3 \/ j = 4 \/ j = 5:=by omega
 rcases hj7 with rfl | rfl | rfl | rfl | rfl | rfl <;> rfl
def cNs (vals : Nat -> Vq) (l : List Sc) : List Nat:=l.map fun s => (cellS s (vals (scIx s))).1.toNat
theorem cNs_at {vals : Nat -> Vq} (hv : ValOk vals) (h1 : ∀ k,k < 12 -> kindN k = 1 -> (vals k).i = 0 \/ (vals k).i = 1) {l : List Sc} (hl : LM l) (hf : Full l) {s : Sc} (hs : s ∈ l) : cellS s (vals (scIx s)) = (((cellS s (vals (scIx s))).1.toNat : Int),true):=by
 obtain ⟨c1,c2⟩:=cell_M hv (hl.each s hs) (hf s hs)
 have h0 : 0 <= (cellS s (vals (scIx s))).1:=by
  rw [c2]
  show 0 <= if s.kd = 0 then _ else _
  split
  ·rename_i hk
   obtain ⟨k,hk12,e,hh⟩:=hl.each s hs
   have hix : scIx s = k:=by unfold scIx; rw [e,sub_ix,Nat.mod_eq_of_lt hk12]
   rcases hh with hh | hh
   ·have := h1 k hk12 hh.1; rw [hix]; omega
   ·have := kind_cut hh.1; omega
  ·omega
 have h2 : (cellS s (vals (scIx s))).2 = true:=by rw [c2]
 rw [Int.toNat_of_nonneg h0,<- h2]
theorem ints_of_nats {K : Nat} {w : World} {v : Value} {vals : Nat -> Vq} (hv : ValOk vals) (h1 : ∀ k,k < 12 -> kindN k = 1 -> (vals k).i = 0 \/ (vals k).i = 1) {l : List Sc} (hl : LM l) (hf : Full l) (h : Nats K w v (cNs vals l)) : IntsX K w v (cellsM vals l):=by
 have hlen : (cNs vals l).length = (cellsM vals l).length:=by simp [cNs,cellsM]
 have h2 : RowsV 1 (fun i _ => Z ((cNs vals l)[i]?.getD 0)) K w v (cellsM vals l).length:=hlen ▸ h
 refine h2.congr fun i hi j _ => ?_
 have hi' : i < l.length:=by simpa [cellsM] using hi
 unfold cNs cellsM
 rw [List.getElem?_map,List.getElem?_map,List.getElem?_eq_getElem hi']
 have := congrArg Prod.fst (cNs_at hv h1 hl hf (List.getElem_mem hi'))
 show Z ((cellS l[i] (vals (scIx l[i]))).1.toNat) = .int .i64 (cellS l[i] (vals (scIx l[i]))).1
 rw [this]; rfl
theorem gplace_any (K : Nat) (lv : Value) (l : List Sc) (nl : List Nat) (g : Nat -> Vv) (w : World) (hs : ScsX K w lv l) (hm : LM l) (hf : Full l) (hv : ∀ k,k < 12 -> VlX K w (valsM nl k) (g k)) (hK : K <= w.heap.size) :
  Calls Tryz.prog 38 #[lv,.agg (cells72 g).toArray] w fun e w' => ∃ v,e = .returned (.tuple #[v,.bool true]) /\ IntsX w'.heap.size w' v (cellsM (valsM nl) l) /\ Below w.heap.size w w':=by
 have hlen12:=hm.len
 obtain ⟨la,lc,rfl,_,hlm⟩:=hs.form
 obtain ⟨gy,hrow,hsc⟩:=hs
 obtain ⟨n,hn⟩ : ∃ n,l.length = n:=⟨_,rfl⟩
 have HN:=Lib.hid hn
 rw [hn] at hrow hsc hlen12 ⊢
 obtain ⟨C,hC⟩ : ∃ C,cNs (valsM nl) l = C:=⟨_,rfl⟩
 have hCl : C.length = n:=by rw [<- hC,<- hn]; simp [cNs]
 have HC:=Lib.hid hC
 obtain ⟨arr,harr⟩ : ∃ arr : Array Value,(cells72 g).toArray = arr:=⟨_,rfl⟩
 have HA:=Lib.hid harr
 rw [harr]
 obtain ⟨W1,hW1⟩ : ∃ W1,w.alloc (.cells arr 86) = W1:=⟨_,rfl⟩
 have b1 : Below w.heap.size w W1:=by rw [<- hW1]; exact (Below.refl _ _).alloc (Nat.le_refl _) _
 have q1 : Blk W1 w.heap.size arr 86:=by rw [<- hW1]; exact Blk.new w _ _
 have s1 : W1.heap.size = w.heap.size + 1:=by rw [<- hW1]; simp
 obtain ⟨B,hB⟩ : ∃ B,w.heap.size = B:=⟨_,rfl⟩
 have HB:=Lib.hid hB
 have HW:=Lib.hid hW1
 rw [hB] at b1 q1 s1 hK ⊢
 have HM:=Lib.hid hm
 have HF:=Lib.hid hf
 have HV:=Lib.hid hv
 have HSC:=Lib.hid hsc
 have HFIN : Hid (∀ W v,OwnN (B + 1) W v C -> IntsX W.heap.size W v (cellsM (valsM nl) l)):=Lib.hid fun W v h => ints_of_nats (valsM_ok nl) (valsM_truth nl) hm hf (by rw [hC]; exact h.nats)
 have HROW:=Lib.hid hrow
 clear hB hW1 hm hf hv hsc hn harr hC hrow
 go_enter Tryz.func38,Tryz.ntmps38
 go_upto_region 1 with fail
 simp only [HB.out]
 rw [HW.out]
 go_wp2_with fail
 go_loopw [6,13] (fun ov iv wr => ∃ i : Nat,i <= n /\ iv = .int .i64 i /\ OwnN (B + 1) wr ov (C.take i) /\ Blk wr B arr 86 /\ Below B w wr /\ B + 1 <= wr.heap.size) (fun _ iv _ => n - (intOf iv).toNat)
 case atStart => exact ⟨0,Nat.zero_le _,rfl,OwnN.nil _ _,q1,b1,by omega⟩
 case round =>
  obtain ⟨i,hi,rfl,hown,hq,hbw,hbs⟩:=hrel
  obtain ⟨wo,rfl⟩ : ∃ wo : World,wo = wr:=⟨_,rfl⟩
  obtain ⟨oa,oc,rfl,_,_⟩:=hown.form
  by_cases hlt : i < n
  ·obtain ⟨b,o,cap,he,_,_,hbK,hc⟩:=HROW.out.pos (by omega)
   simp only [Value.slice.injEq,true_and] at he
   obtain ⟨rfl,rfl⟩:=he
   have hli : i < l.length:=by rw [HN.out]; exact hlt
   obtain ⟨s,hs⟩ : ∃ s,l[i] = s:=⟨_,rfl⟩
   have hsm : s ∈ l:=by rw [<- hs]; exact List.getElem_mem hli
   have hgs : l[i]? = some s:=by rw [<- hs]; exact List.getElem?_eq_getElem hli
   have hx:=HSC.out i hlt
   rw [hgs,Option.getD_some] at hx
   have hrg:=sv_range (g:=gy) (cells_below hbw (Nat.lt_of_lt_of_le hbK hK) hc) hlt
   obtain ⟨y,hy⟩ : ∃ y,gy i = y:=⟨_,rfl⟩
   rw [hy] at hx hrg
   obtain ⟨k,hk,hse,hkind⟩:=HM.out.each s hsm
   have hix : scIx s = k:=by unfold scIx; rw [hse,sub_ix,Nat.mod_eq_of_lt hk]
   have hcn:=cNs_at (valsM_ok nl) (valsM_truth nl) HM.out HF.out hsm
   rw [hix] at hcn
   have hcv : C[i]? = some (cellS s (valsM nl k)).1.toNat:=by rw [<- HC.out]; unfold cNs; rw [List.getElem?_map,hgs,<- hix]; rfl
   obtain ⟨c,hcc⟩ : ∃ c,(cellS s (valsM nl k)).1.toNat = c:=⟨_,rfl⟩
   rw [hcc] at hcn hcv
   have hex:=hx.e
   rw [hse] at hex
   have hop : y.x.op = 5:=by have := hex; unfold subG at this; rw [ExG] at this; exact this.1
   have hnm : y.x.nm = [115,UInt8.ofNat (48 + k)]:=by have := hex; unfold subG at this; rw [ExG,Nat.mod_eq_of_lt hk] at this; exact this.2.1
   obtain ⟨bb,hbb⟩ : ∃ bb,UInt8.ofNat (48 + k) = bb:=⟨_,rfl⟩
   have hbi : (bb.toNat : Int) = 48 + (k : Int):=by rw [<- hbb,UInt8.toNat_ofNat']; omega
   rw [hbb] at hnm
   have hgood : ∀ c ∈ s.cuts,c.good = true:=fun c hc => (half_M (HM.out.each s hsm) c hc).2
   have hbig : s.cuts.length <= 2 ^ 38:=by
    rcases hkind with h | h
    ·rw [h.2.2]; simp
    ·have := cuts_len h.1 h.2.2.1 h.2.2.2; omega
   have HCELL : Hid (∀ W,Below B w W -> Calls Tryz.prog 36 #[y.agg,(g k).agg] W fun e w' => e = .returned (.tuple #[.int .i64 (c : Int),.bool true]) /\ Below W.heap.size W w'):=Lib.hid fun W hW => by
    have := gcell_any K s y (valsM nl k) (g k) W (hx.below hW hK (Nat.le_refl _)) ((HV.out k hk).below hW hK (Nat.le_refl _)) (by have := hW.size; have := HB.out; omega) hgood ((valsM_ok nl).good k hk) hbig
    rwa [hcn] at this
   have HCV:=Lib.hid hcv
   obtain ⟨⟨yop,ynm,yk,yb3,⟨y4,y4n,y4m⟩,yb5,⟨y6,y6n,y6m⟩,yi7,⟨y8,y8n,y8m⟩⟩,ykd,⟨ya,yn,ym⟩⟩:=y
   dsimp only at hop hnm
   subst hop hnm
   obtain ⟨Y,hY⟩ : ∃ Y : Sv,(⟨⟨5,[115,bb],yk,yb3,⟨y4,y4n,y4m⟩,yb5,⟨y6,y6n,y6m⟩,yi7,⟨y8,y8n,y8m⟩⟩,ykd,⟨ya,yn,ym⟩⟩ : Sv) = Y:=⟨_,rfl⟩
   have h1c : ∀ u ∈ (⟨⟨5,[115,bb],yk,yb3,⟨y4,y4n,y4m⟩,yb5,⟨y6,y6n,y6m⟩,yi7,⟨y8,y8n,y8m⟩⟩,ykd,⟨ya,yn,ym⟩⟩ : Sv).cells,u.oneCell' = true:=by simp [Value.oneCell']
   have HO:=Lib.hid hown
   have HQ:=Lib.hid hq
   have HBW:=Lib.hid hbw
   clear hY hs hgs hsm hx hy hex hse hkind hcn hcv hcc hgood hbig hc hown hq hbw hix hbb
   go_upto_region 5 with (first
    | (refine wpList_load_mid rfl 79 (.tmp 15) rfl b (o + i * 11) rfl (⟨⟨5,[115,bb],yk,yb3,⟨y4,y4n,y4m⟩,yb5,⟨y6,y6n,y6m⟩,yi7,⟨y8,y8n,y8m⟩⟩,ykd,⟨ya,yn,ym⟩⟩ : Sv).cells.toList _ hrg Tryz.underlying79 rfl infoScaleN ?_)
    | (refine wpList_store_new rfl 79 (.tmp 8) (.tmp 16) rfl (⟨⟨5,[115,bb],yk,yb3,⟨y4,y4n,y4m⟩,yb5,⟨y6,y6n,y6m⟩,yi7,⟨y8,y8n,y8m⟩⟩,ykd,⟨ya,yn,ym⟩⟩ : Sv).cells _ infoScaleN rfl h1c wo.heap.size rfl rfl rfl ?_))
   clear hrg
   obtain ⟨T,hS⟩ : ∃ T,wo.heap.size = T:=⟨_,rfl⟩
   obtain ⟨W2,hW2⟩ : ∃ W2,wo.alloc (.cells (⟨⟨5,[115,bb],yk,yb3,⟨y4,y4n,y4m⟩,yb5,⟨y6,y6n,y6m⟩,yi7,⟨y8,y8n,y8m⟩⟩,ykd,⟨ya,yn,ym⟩⟩ : Sv).cells 79) = W2:=⟨_,rfl⟩
   have b2 : Below wo.heap.size wo W2:=by rw [<- hW2]; exact (Below.refl _ _).alloc (Nat.le_refl _) _
   have qs : Blk W2 T (⟨⟨5,[115,bb],yk,yb3,⟨y4,y4n,y4m⟩,yb5,⟨y6,y6n,y6m⟩,yi7,⟨y8,y8n,y8m⟩⟩,ykd,⟨ya,yn,ym⟩⟩ : Sv).cells 79:=by rw [<- hW2,<- hS]; exact Blk.new wo _ _
   have s2 : W2.heap.size = T + 1:=by rw [<- hW2,<- hS]; simp
   have c0 : W2.cell? ⟨T,0,none⟩ = some (.int .u8 5):=qs.at rfl
   have c1 : W2.cell? ⟨T,1,none⟩ = some (S [115,bb]):=qs.at rfl
   have HQ2:=Lib.hid (HQ.out.below b2 (by omega))
   have HO2:=Lib.hid (HO.out.old b2 (Nat.le_refl _))
   have HBW2:=Lib.hid (HBW.out.trans (b2.mono (by omega)))
   have HQS:=Lib.hid qs
   have sS : B + 1 <= T:=by omega
   have HS:=Lib.hid hS
   have HW2:=Lib.hid hW2
   dsimp only [Sv.cells] at HW2
   have hbT : Below B w W2:=HBW2.out
   have hq2:=HQ2.out
   simp only [HS.out]
   rw [HW2.out]
   clear HW2 HS b2 qs hS hW2 HO HQ HBW
   have hb2 : (((⟨#[115,bb]⟩ : ByteArray)[1]'(by show 1 < 2; omega)).toNat : Int) = 48 + (k : Int):=hbi
   have d1 : decide ((48 : Int) + (k : Int) < 48) = false:=decide_eq_false (by omega)
   have hwk : IntKind.u8.wrap (48 + (k : Int) - 48) = k:=by rw [show 48 + (k : Int) - 48 = k by omega]; exact IntWalk.u8_in _ (by omega)
   have hk12 : (k : Int) < 12:=by omega
   have d2 : decide ((59 : Int) < 48 + (k : Int)) = false:=decide_eq_false (by omega)
   go_upto_region 7 with fail
   have HRS : Hid (∀ W',Below W2.heap.size W2 W' -> W'.rangeAt T 0 (⟨⟨5,[115,bb],yk,yb3,⟨y4,y4n,y4m⟩,yb5,⟨y6,y6n,y6m⟩,yi7,⟨y8,y8n,y8m⟩⟩,ykd,⟨ya,yn,ym⟩⟩ : Sv).cells.toList):=Lib.hid fun W' h => (HQS.out.below h HQS.out.lt).range
   have HRV : Hid (∀ W',Below W2.heap.size W2 W' -> W'.rangeAt B (k * 6) (g k).cells.toList):=Lib.hid fun W' h => row72 (HA.out ▸ (HQ2.out.below h HQ2.out.lt)) hk
   have HC1 : Hid (∀ W',Below W2.heap.size W2 W' -> W'.cell? ⟨T,1,none⟩ = some (S [115,bb])):=Lib.hid fun W' h => (HQS.out.below h HQS.out.lt).at rfl
   have HCALL : Hid (∀ W',Below W2.heap.size W2 W' -> _):=Lib.hid fun W' h => HCELL.out W' (HBW2.out.trans (h.mono (by omega)))
   have SW2:=Lib.hid s2
   clear s2 c0 c1 hbT hq2
   refine region_WQ (fun W' => Below W2.heap.size W2 W') (by kernel_rfl) (by kernel_rfl) ⟨rfl,rfl,rfl,Nat.le_refl _,fun _ _ => rfl⟩ ?_
   refine WQ.take ((⟨⟨5,[115,bb],yk,yb3,⟨y4,y4n,y4m⟩,yb5,⟨y6,y6n,y6m⟩,yi7,⟨y8,y8n,y8m⟩⟩,ykd,⟨ya,yn,ym⟩⟩ : Sv).agg) (yieldsIn_of_if (yieldsIf_load_mid (by kernel_rfl) 79 (.tmp 8) rfl T 0 (by rfl) (⟨⟨5,[115,bb],yk,yb3,⟨y4,y4n,y4m⟩,yb5,⟨y6,y6n,y6m⟩,yi7,⟨y8,y8n,y8m⟩⟩,ykd,⟨ya,yn,ym⟩⟩ : Sv).cells.toList _ (fun W' hS => HRS.out W' hS) Tryz.underlying79 rfl infoScaleN)) ?_
   refine WQ.take (.pointer (some ⟨T,0,none⟩)) (.inl ⟨by kernel_rfl,fun W' hS => by go_simp <;> exact hS⟩) ?_
   refine WQ.take (.pointer (some ⟨T,1,none⟩)) (.inl ⟨by kernel_rfl,fun W' hS => by go_simp <;> exact hS⟩) ?_
   refine WQ.take (S [115,bb]) (.inl ⟨by kernel_rfl,fun W' hS => by have u:=HC1.out W' hS; go_simp <;> exact hS⟩) ?_
   refine WQ.take (.int .u8 (48 + (k : Int))) (.inl ⟨by kernel_rfl,fun W' hS => by go_simp <;> exact hS⟩) ?_
   refine WQ.take (.int .u8 (k : Int)) (.inl ⟨by kernel_rfl,fun W' hS => by go_simp <;> exact hS⟩) ?_
   refine WQ.take (.pointer (some ⟨B,k * 6,none⟩)) (.inl ⟨by kernel_rfl,fun W' hS => by go_simp <;> exact hS⟩) ?_
   refine WQ.take ((g k).agg) (yieldsIn_of_if (yieldsIf_load_mid (by kernel_rfl) 47 (.tmp 49) rfl B (k * 6) (by rfl) (g k).cells.toList _ (fun W' hS => HRV.out W' hS) Tryz.underlying47 rfl infoValN)) ?_
   refine WQ.take (.tuple #[.int .i64 (c : Int),.bool true]) (.inl ⟨by kernel_rfl,fun W' hS => by go_simp <;> exact (HCALL.out W' hS).mono fun e W'' ⟨h1,h2⟩ => ⟨h1,hS.trans (h2.mono hS.size)⟩⟩) ?_
   refine WQ.take (.tuple #[.int .i64 (c : Int),.bool true]) (.inl ⟨by kernel_rfl,fun W' hS => by go_simp <;> exact hS⟩) ?_
   refine WQ.take (.int .i64 (c : Int)) (.inl ⟨by kernel_rfl,fun W' hS => by go_simp <;> exact hS⟩) ?_
   refine WQ.take (.bool true) (.inl ⟨by kernel_rfl,fun W' hS => by go_simp <;> exact hS⟩) ?_
   refine WQ.take (.int .i64 (c : Int)) (.inl ⟨by kernel_rfl,fun W' hS => by go_simp <;> exact hS⟩) ?_
   refine WQ.take (.bool true) (.inl ⟨by kernel_rfl,fun W' hS => by go_simp <;> exact hS⟩) ?_
   refine WQ.nil ?_
   intro W9 hS9
   have hs9:=hS9.size
   have HO9:=Lib.hid (HO2.out.old hS9 (Nat.le_refl _))
   have q9:=HQ2.out.below hS9 HQ2.out.lt
   have bw9:=HBW2.out.trans (hS9.mono (by have := SW2.out; omega))
   have hs99 : B + 1 <= W9.heap.size:=by have := SW2.out; omega
   clear hS9 HRS HRV HC1 HCALL HCELL HQS HQ2 HO2 HBW2
   go_simp
   go_upto_region 8 with fail
   have hlen1 : Hid ((C.take i).length + 1 <= 2 ^ 40):=Lib.hid (by rw [List.length_take]; omega)
   have hlt1 : (C.take i).length = i:=by rw [List.length_take]; omega
   have HLT1:=Lib.hid hlt1
   have HO9' : Hid (OwnN (B + 1) W9 (.slice oa i oc) (C.take i)):=Lib.hid (by have := HO9.out; rwa [hlt1] at this)
   clear hlt1
   go_wp2_with (at_builtin; refine wpList_append_N rfl (.tmp 56) (.tmp 58) rfl rfl rfl (HO9'.out.old ((Below.refl _ _).alloc (Nat.le_refl _) _) (Nat.le_refl _)) ((Blk.new W9 #[Z c] _).at rfl) hlen1.out (by simp; omega) ?_; intro g1 cap1 w6 hown6 hg6 hat6)
   have hb6 : Below (B + 1) W9 w6:=((Below.refl _ _).alloc (by omega) _).trans (below_grown hg6 (fun r e => (ownsRow_cells HO9'.out e).1) (by simp; omega))
   have hs6:=hb6.size
   have htk : C.take (i + 1) = C.take i ++ [c]:=by rw [List.take_add_one,HCV.out]; rfl
   have HT6 : Hid (OwnN (B + 1) w6 (.slice (some ⟨g1,0,none⟩) (i + 1) cap1) (C.take (i + 1))):=Lib.hid (by rw [htk]; have := hown6; rwa [HLT1.out] at this)
   have q6:=q9.below hb6 (by omega)
   have bw6:=bw9.trans (hb6.mono (by omega))
   first
    | exact ⟨⟨i + 1,by omega,by go_num,HT6.out,q6,bw6,by omega⟩,by simp [intOf]; omega⟩
    | exact ⟨⟨_,_,.int .i64 ((i + 1 : Nat) : Int),⟨i + 1,by omega,rfl,HT6.out,q6,bw6,by omega⟩,rfl,rfl,rfl⟩,by simp [intOf]; omega⟩
    | exact ⟨⟨_,.int .i64 ((i + 1 : Nat) : Int),⟨i + 1,by omega,rfl,HT6.out,q6,bw6,by omega⟩,rfl,rfl⟩,by simp [intOf]; omega⟩
  ·obtain rfl : i = n:=by omega
   have htk : C.take i = C:=List.take_of_length_le (by omega)
   rw [htk] at hown ⊢
   go_wp2_with fail
   go_ret2
   exact ⟨_,rfl,HFIN.out _ _ hown,hbw⟩
theorem cellsS_nodup (s : Sc) : (cellsS s).Nodup:=by
 unfold cellsS
 split
 ·unfold possL; exact List.Nodup.sublist List.filter_sublist List.nodup_range
 ·exact List.nodup_nil
theorem pcs_ok {l : List Sc} (hl : LM l) (hf : Full l) : ∀ p ∈ pcs l,p.Nodup /\ p ≠ []:=by
 intro p hp
 obtain ⟨s,hs,rfl⟩:=List.mem_map.1 hp
 exact ⟨cellsS_nodup s,cells_ne (hl.each s hs) (hf s hs)⟩
theorem kind_ok_day {v : Vq} (h : v.ok = true) (hk : v.kd = 4) : 0 <= v.i /\ v.i < 65536:=by
 have hf : v.fr = false:=by unfold Vq.fr; simp [hk]
 unfold Vq.ok at h
 rw [hf] at h
 simp [hk] at h
 omega
theorem cell_in {vals : Nat -> Vq} (hv : ValOk vals) (h1 : ∀ k,k < 12 -> kindN k = 1 -> (vals k).i = 0 \/ (vals k).i = 1) {s : Sc} (hs : ScM s) (hf : s.kd ≠ 0 -> s.cuts ≠ []) : (cellS s (vals (scIx s))).1.toNat ∈ cellsS s:=by
 have hok:=okB_M hs hf
 obtain ⟨hix,hc⟩:=cell_M hv hs hf
 have hsM:=hs
 obtain ⟨k,hk,e,hh⟩:=hs
 have hixk : scIx s = k:=by unfold scIx; rw [e,sub_ix,Nat.mod_eq_of_lt hk]
 rw [hc]
 unfold cellsS
 rw [if_pos hok]
 unfold possL
 show (if s.kd = 0 then (vals (scIx s)).i else ((cellN s.cuts (vals (scIx s)) : Nat) : Int)).toNat ∈ _
 rw [hixk]
 rcases hh with hh | hh
 ·rw [if_pos hh.2.1]
  have hvi:=h1 k hk hh.1
  have hcn : cntN s.kd s.cuts.length = 2:=by unfold cntN; rw [if_pos hh.2.1]
  have hp : ∀ c : Nat,c < 2 -> s.poss (c : Int) = true:=fun c hc => by
   unfold Sc.poss possN
   rw [hcn]
   have : isDay s.kd = false:=by rw [hh.2.1]; rfl
   rw [this]
   simp
   omega
  rw [List.mem_filter,List.mem_range,hcn]
  rcases hvi with h | h <;> rw [h] <;> exact ⟨by decide,hp _ (by decide)⟩
 ·obtain ⟨g1,g2,g3,g4⟩:=hh
  have hkr:=kind_cut g1
  have h0 : s.kd ≠ 0:=by omega
  rw [if_neg h0,Int.toNat_natCast]
  obtain ⟨v,hvv⟩ : ∃ v,vals k = v:=⟨_,rfl⟩
  have hvk : v.kd = s.kd:=by rw [<- hvv,hv.kd k hk,g2]
  have hvo : v.ok = true:=by rw [<- hvv]; exact hv.ok k hk
  have hvh : Half v:=by rw [<- hvv]; exact hv.half k hk
  rw [hvv]
  have hhalf : ∀ c ∈ s.cuts,Half c:=fun c hc => (half_M hsM c hc).1
  have hinc:=inc_M hsM
  obtain ⟨s1,s2⟩:=srch_tw hhalf hvh
  have hle : srch s.cuts v <= s.cuts.length:=List.findIdx_le_length
  have hcnt : cntN s.kd s.cuts.length = 2 * s.cuts.length + 1:=by unfold cntN; rw [if_neg h0]
  have hlt : cellN s.cuts v < 2 * s.cuts.length + 1:=by
   unfold cellN
   split
   ·rename_i hfn
    unfold fnd at hfn
    simp only [Bool.and_eq_true,decide_eq_true_eq] at hfn
    omega
   ·omega
  rw [List.mem_filter,List.mem_range,hcnt]
  refine ⟨hlt,?_⟩
  unfold Sc.poss
  rw [hcnt]
  have hp : possN s.kd s.cuts ((cellN s.cuts v : Nat) : Int).toNat = true:=by
   rw [Int.toNat_natCast]
   unfold possN
   by_cases hd : isDay s.kd = true
   ·by_cases hfn : fnd s.cuts v = true
    ·have : cellN s.cuts v = 2 * srch s.cuts v + 1:=by unfold cellN; rw [if_pos hfn]
     rw [this]
     have : (2 * srch s.cuts v + 1) % 2 = 1:=by omega
     simp [this]
    ·have hcell : cellN s.cuts v = 2 * srch s.cuts v:=by unfold cellN; rw [if_neg hfn]
     rw [hcell]
     have hkk : s.kd = 4 \/ s.kd = 5 \/ s.kd = 6:=by unfold isDay at hd; simp at hd; omega
     have hcut : ∀ c ∈ s.cuts,tw c = 2 * c.i:=fun c hc => by
      have : c.kd = s.kd:=by
       obtain ⟨n,hn,rfl⟩:=g4 c hc
       rw [(wV_facts (kindN k) n hkr hn).1,g2]
      exact tw_whole (by omega) (by omega)
     have hvt : tw v = 2 * v.i:=tw_whole (by omega) (by omega)
     have hb:=day_bound hvo (by rw [hvk]; exact hd)
     have hlo : loS s.kd s.cuts (2 * srch s.cuts v) < v.i:=by
      unfold loS
      by_cases h2 : 0 < 2 * srch s.cuts v
      ·rw [if_pos h2,show 2 * srch s.cuts v / 2 - 1 = srch s.cuts v - 1 by omega]
       have h3:=s1 (srch s.cuts v - 1) (by omega)
       have h4 : s.cuts[srch s.cuts v - 1]?.getD v0 ∈ s.cuts:=by rw [List.getElem?_eq_getElem (by omega),Option.getD_some]; exact List.getElem_mem _
       rw [hcut _ h4,hvt] at h3
       omega
      ·rw [if_neg h2]
       split
       ·have := kind_ok_day hvo (by omega); omega
       ·omega
     have hhi : v.i < hiS s.kd s.cuts (2 * srch s.cuts v):=by
      unfold hiS
      rw [show 2 * srch s.cuts v / 2 = srch s.cuts v by omega]
      by_cases h2 : srch s.cuts v < s.cuts.length
      ·rw [if_pos h2]
       have h3:=s2 h2
       have h4 : s.cuts[srch s.cuts v]?.getD v0 ∈ s.cuts:=by rw [List.getElem?_eq_getElem h2,Option.getD_some]; exact List.getElem_mem _
       have h5 : tw (s.cuts[srch s.cuts v]?.getD v0) ≠ tw v:=fun e => hfn (by
        unfold fnd
        rw [veq_tw (hhalf _ h4) hvh,e]
        simp [h2])
       rw [hcut _ h4,hvt] at h3 h5
       omega
      ·rw [if_neg h2]
       split
       ·have := kind_ok_day hvo (by omega); omega
       ·omega
     simp only [Bool.or_eq_true,decide_eq_true_eq]
     exact .inr (by omega)
   ·have : isDay s.kd = false:=by simpa using hd
    rw [this]; rfl
  rw [hp]
  simp only [Bool.and_true,Bool.and_eq_true,decide_eq_true_eq]
  omega
theorem place_in {vals : Nat -> Vq} (hv : ValOk vals) (h1 : ∀ k,k < 12 -> kindN k = 1 -> (vals k).i = 0 \/ (vals k).i = 1) {l : List Sc} (hl : LM l) (hf : Full l) : CellsIn (pcs l) (cNs vals l):=by
 refine ⟨by simp [pcs,cNs],fun i c hc => ?_⟩
 unfold cNs at hc
 rw [List.getElem?_map] at hc
 obtain ⟨s,hs,rfl⟩:=Option.map_eq_some_iff.1 hc
 have hsm:=List.mem_of_getElem? hs
 exact ⟨cellsS s,by unfold pcs; rw [List.getElem?_map,hs]; rfl,cell_in hv h1 (hl.each s hsm) (hf s hsm)⟩
theorem place_ints {vals : Nat -> Vq} (hv : ValOk vals) (h1 : ∀ k,k < 12 -> kindN k = 1 -> (vals k).i = 0 \/ (vals k).i = 1) {l : List Sc} (hl : LM l) (hf : Full l) : (cNs vals l).map (fun c : Nat => (c : Int)) = cellsM vals l:=by
 unfold cNs cellsM
 rw [List.map_map]
 refine List.map_congr_left fun s hs => ?_
 have := congrArg Prod.fst (cNs_at hv h1 hl hf hs)
 exact this.symm
theorem ev_true {vals : Nat -> Vq} (hv : ValOk vals) (h1 : ∀ k,k < 12 -> kindN k = 1 -> (vals k).i = 0 \/ (vals k).i = 1) {l : List Sc} (hl : LM l) (hf : Full l) {e : Gx} (he : Md e) (hfit : fits e = true) (h : ∀ t ∈ e.tests,Has l (testOf t)) : evG l (cNs vals l) e = trueG vals e:=by
 rw [evG_M hl hf (place_in hv h1 hl hf) he hfit h,place_ints hv h1 hl hf,holdG_M hv hl hf he h]
section
variable {l : List Sc} {cs : List Nat} {a : Gx}
theorem ev_no (hl : LM l) (hf : Full l) (hcs : CellsIn (pcs l) cs) (ha : Md a) (fa : fits a = true) (fn : fits (.mk 17 [] v0 [a]) = true) (h : ∀ t ∈ a.tests,Has l (testOf t)) : evG l cs (.mk 17 [] v0 [a]) = !evG l cs a:=by
 rw [evG_M hl hf hcs (.no a ha) fn (by rw [no_testsE]; exact h),evG_M hl hf hcs ha fa h,holdG_eq,if_neg (by simp [Gx.settled,Gx.op]),if_pos (by simp [Gx.composed,Gx.op,Gx.args])]
 simp [combG,argH,Gx.op,Gx.args]
end
theorem lfS_two (l : List Sc) (a b : Gx) (cs : List Nat) : lfS l [a,b] cs = (if evG l cs a then [0] else []) ++ (if evG l cs b then [1] else []):=by
 unfold lfS
 show (([0,1] : List Nat).filter fun i => evG l cs (([a,b] : List Gx)[i]?.getD default)) = _
 have e0 : (([a,b] : List Gx)[0]?.getD default) = a:=rfl
 have e1 : (([a,b] : List Gx)[1]?.getD default) = b:=rfl
 cases ha : evG l cs a <;> cases hb : evG l cs b <;> simp [ha,hb]
theorem lfS_no {l : List Sc} {cs : List Nat} {a : Gx} (hl : LM l) (hf : Full l) (hcs : CellsIn (pcs l) cs) (ha : Md a) (fa : fits a = true) (fn : fits (.mk 17 [] v0 [a]) = true) (h : ∀ t ∈ a.tests,Has l (testOf t)) : (lfS l [a,.mk 17 [] v0 [a]] cs).length = 1:=by
 rw [lfS_two,ev_no hl hf hcs ha fa fn h]
 cases evG l cs a <;> rfl
theorem lfS_same (l : List Sc) (a : Gx) (cs : List Nat) : (lfS l [a,a] cs).length ≠ 1:=by
 rw [lfS_two]
 cases evG l cs a <;> simp
theorem some_cells {P : List (List Nat)} (h : ∀ p ∈ P,p.Nodup /\ p ≠ []) : ∃ cs,CellsIn P cs:=by
 induction P with
 | nil => exact ⟨[],CellsIn.nil⟩
 | cons p P ih =>
  obtain ⟨cs,hc⟩:=ih fun q hq => h q (List.mem_cons_of_mem _ hq)
  obtain ⟨c,hcm⟩:=List.exists_mem_of_ne_nil _ (h p (List.mem_cons_self ..)).2
  exact ⟨c :: cs,CellsIn.cons hcm hc⟩
theorem first_cells {P : List (List Nat)} (h : ∀ p ∈ P,p ≠ []) : CellsIn P (P.map fun p => p.headD 0):=by
 refine ⟨by simp,fun i c hc => ?_⟩
 rw [List.getElem?_map] at hc
 obtain ⟨p,hp,rfl⟩:=Option.map_eq_some_iff.1 hc
 refine ⟨p,hp,?_⟩
 have := h p (List.mem_of_getElem? hp)
 cases p with
 | nil => exact absurd rfl this
 | cons a b => exact List.mem_cons_self ..
theorem one_iff (ls : List (List Nat)) : (∃ l ∈ ls,(l.length != 1) = true) ↔ (∃ l ∈ ls,(l.length == 0) = true) \/ ∃ l ∈ ls,decide (1 < l.length) = true:=by
 constructor
 ·rintro ⟨l,hl,h⟩
  simp at h
  by_cases h0 : l.length = 0
  ·exact .inl ⟨l,hl,by simp [h0]⟩
  ·exact .inr ⟨l,hl,by simp; omega⟩
 ·rintro (⟨l,hl,h⟩ | ⟨l,hl,h⟩)
  ·exact ⟨l,hl,by simp at h ⊢; simp [h]⟩
  ·exact ⟨l,hl,by simp at h ⊢; omega⟩
theorem Evals.fun {P : List (List Nat)} {st : DSt} {cs : List Nat} {t : Int} {a b : List Nat} (h : Evals P st cs t a) (h' : Evals P st cs t b) : a = b:=by
 induction h with
 | leaf n l h =>
  generalize e : (-1 - (n : Int)) = u at h'
  cases h' with
  | leaf m l' h2 =>
   have : m = n:=by omega
   subst this
   rw [h] at h2
   exact Option.some.inj h2
  | node m => omega
 | node n sc nx t l h1 h2 _ ih =>
  generalize e : (n : Int) = u at h'
  cases h' with
  | leaf m l' _ => omega
  | node m sc' nx' t' l' h3 h4 h5 =>
   have : m = n:=by omega
   subst this
   rw [h1] at h3
   cases h3
   rw [h2] at h4
   cases h4
   exact ih h5
structure DgV (scs : List Sc) (st : DSt) (root : Int) : Prop where
 len : scs.length <= 16
 ok : ∀ s ∈ scs,s.okB = true
 node : ∀ (n sc : Nat) (nx : List Int),st.nds[n]? = some (sc,nx) -> ∃ s,scs[sc]? = some s /\ nx.length = (cellsS s).length /\ ∀ t ∈ nx,TOk st (sc + 1) t
 leaf : ∀ (n : Nat) (l : List Nat),st.lvs[n]? = some l -> l.Pairwise (· < ·)
 root : TOk st 0 root
 nsz : st.nds.length <= 2 ^ 40
 lsz : st.lvs.length <= 2 ^ 40
theorem lfS_inc (l : List Sc) (es : List Gx) (cs : List Nat) : (lfS l es cs).Pairwise (· < ·):=by
 unfold lfS
 exact List.Pairwise.filter _ List.pairwise_lt_range
theorem dgv_ok {scs : List Sc} (es : List Gx) (hlen : scs.length <= 16) (hok : ∀ s ∈ scs,s.okB = true) (hP : ∀ p ∈ pcs scs,p.Nodup /\ p ≠ []) (hsz : prodL (pcs scs) <= 2 ^ 40) :
  DgV scs (tgt (lfS scs es) (pcs scs) 0 [] DSt.no).2 (tgt (lfS scs es) (pcs scs) 0 [] DSt.no).1:=by
 have h:=dg_ok (lf:=lfS scs es) hP
 have hs:=tgt_size (lfS scs es) (pcs scs) 0 [] DSt.no fun p hp => (hP p hp).2
 have h1 : (tgt (lfS scs es) (pcs scs) 0 [] DSt.no).2.nds.length + 1 <= 0 + prodL (pcs scs):=hs.1
 have h2 : (tgt (lfS scs es) (pcs scs) 0 [] DSt.no).2.lvs.length <= 0 + prodL (pcs scs):=hs.2
 refine ⟨hlen,hok,fun n sc nx hn => ?_,fun n l hl => ?_,h.tok,by omega,by omega⟩
 ·obtain ⟨g1,g2,_,g4⟩:=h.wf.node n sc nx hn
  unfold pcs at g1 g2
  rw [List.length_map] at g1
  refine ⟨scs[sc],List.getElem?_eq_getElem g1,?_,g4⟩
  rw [List.getElem?_map,List.getElem?_eq_getElem g1] at g2
  exact g2
 ·obtain ⟨cs,_,rfl⟩:=h.wf.leaf n l hl
  exact lfS_inc _ _ _
def exB (nl nn : Nat) (t : Int) : Bool:=if t < 0 then decide (-1 - t < (nl : Int)) else decide (t < (nn : Int))
theorem exB_ok {st : DSt} {sc : Nat} {t : Int} (h : TOk st sc t) : exB st.lvs.length st.nds.length t = true:=by
 unfold exB
 rcases h with ⟨n,rfl,hn⟩ | ⟨n,x,rfl,hn,_⟩
 ·rw [if_pos (by omega)]; exact decide_eq_true (by omega)
 ·rw [if_neg (by omega)]; exact decide_eq_true (by have := (List.getElem?_eq_some_iff.1 hn).1; omega)
theorem dexists_any (b : Nat) (x : Dv) (t : Int) (w : World) (hq : Blk w b x.cells 29) (ht : -(2 ^ 62) < t /\ t < 2 ^ 62) :
  Calls Tryz.prog 70 #[.pointer (some ⟨b,0,none⟩),.int .i64 t] w fun e w' => e = .returned (.bool (exB x.l.n x.n.n t)) /\ w' = w:=by
 obtain ⟨c0,c1,c2,c3⟩:=hq.four
 have hb:=hq.lt
 unfold exB
 by_cases h : t < 0
 ·have hd : decide (t < 0) = true:=by simpa using h
  have hw : IntKind.i64.wrap (-1 - t) = -1 - t:=IntWalk.i64_in _ (by omega)
  rw [if_pos h]
  clear ht hq
  go_enter Tryz.func70,Tryz.ntmps70
  go_wp2_with fail
  go_ret
  exact ⟨rfl,rfl⟩
 ·have hd : decide (t < 0) = false:=by simpa using h
  rw [if_neg h]
  clear ht hq
  go_enter Tryz.func70,Tryz.ntmps70
  go_wp2_with fail
  go_ret
  exact ⟨rfl,rfl⟩
theorem nats_at {K : Nat} {w : World} {v : Value} {l : List Nat} (h : Nats K w v l) {i : Nat} (hi : i < l.length) : ∃ b o c,v = .slice (some ⟨b,o,none⟩) l.length c /\ w.cell? ⟨b,o + i,none⟩ = some (Z (l[i]?.getD 0)):=by
 obtain ⟨b,o,c,he,_,_,_,hc⟩:=Nats.pos h (by omega)
 exact ⟨b,o,c,he,hc i hi⟩
theorem cond_const (P : List Nat -> Prop) (K b : Nat) (t : Bool) (W : World) (hb : Blk W b #[.bool t] 4) (hK : b < K) : CondR P (fun _ => t) (.func (.func 101) #[] #[.pointer (some ⟨b,0,none⟩)]) K W:=by
 refine ⟨101,_,rfl,enters_of Tryz.func101 (by kernel_rfl) rfl,fun W' v cs hbw hkw hv hp => ?_⟩
 have c0 : W'.cell? ⟨b,0,none⟩ = some (.bool t):=(hb.below hbw hK).at rfl
 clear hb hbw hv hp
 show Calls _ _ #[v,.pointer (some ⟨b,0,none⟩)] W' _
 go_enter Tryz.func101,Tryz.ntmps101
 go_wp2_with fail
 go_ret
 exact ⟨rfl,Below.refl _ _⟩
theorem cond_no (P : List Nat -> Prop) (K : Nat) (W : World) : CondR P (fun _ => false) (.func (.func 153) #[] #[]) K W:=by
 refine ⟨153,_,rfl,enters_of Tryz.func153 (by kernel_rfl) rfl,fun W' v cs hbw hkw hv hp => ?_⟩
 clear hbw hv hp
 show Calls _ _ #[v] W' _
 go_enter Tryz.func153,Tryz.ntmps153
 go_wp2_with fail
 go_ret
 exact ⟨rfl,Below.refl _ _⟩
structure CBox (P : List Nat -> Prop) (lb n : Nat) (ps : Nat -> List Nat -> Bool) (K : Nat) (W : World) : Prop where
 box : ∃ a c,Blk W lb #[.slice a n c] 109 /\ lb < K /\ ∃ fv : Nat -> Value,RowsV 1 (fun i _ => fv i) K W (.slice a n c) n /\ ∀ i,i < n -> CondR P (ps i) (fv i) K W
theorem CBox.cells {P : List Nat -> Prop} {lb n : Nat} {ps : Nat -> List Nat -> Bool} {K : Nat} {W W' : World} (h : CBox P lb n ps K W) (hb : Below K W W') (hn : 0 < n) : ∃ b o c,W'.cell? ⟨lb,0,none⟩ = some (.slice (some ⟨b,o,none⟩) n c) ∧
  ∀ i,i < n -> ∃ g caps,(∀ args w,(callFunc g args).run Tryz.prog w = .ok (.enter g args) w) /\ W'.cell? ⟨b,o + i,none⟩ = some (.func (.func g) #[] caps) ∧
   ∀ (W'' : World) (v : Value) (cs : List Nat),Below K W W'' -> K <= W''.heap.size -> Nats W''.heap.size W'' v cs -> P cs -> Calls Tryz.prog g (#[v] ++ caps) W'' fun e W3 => e = .returned (.bool (ps i cs)) /\ Below W''.heap.size W'' W3:=by
 obtain ⟨a,c,hq,hlb,fv,hr,hf⟩:=h.box
 obtain ⟨b,o,cap,he,_,_,hbK,hc⟩:=hr.pos hn
 simp only [Value.slice.injEq,true_and] at he
 obtain ⟨rfl,rfl⟩:=he
 refine ⟨b,o,c,(hq.below hb hlb).at rfl,fun i hi => ?_⟩
 obtain ⟨g,caps,hfv,hg,hcall⟩:=hf i hi
 exact ⟨g,caps,hg,(hb.cell (p:=⟨b,o + i,none⟩) hbK).trans (by have := hc i hi 0 (by omega); rw [hfv] at this; simpa using this),hcall⟩
theorem cond_not (P : List Nat -> Prop) (K lb : Nat) (ps : Nat -> List Nat -> Bool) (W : World) (h : CBox P lb 1 ps K W) : CondR P (fun cs => !ps 0 cs) (.func (.func 105) #[] #[.pointer (some ⟨lb,0,none⟩)]) K W:=by
 refine ⟨105,_,rfl,enters_of Tryz.func105 (by kernel_rfl) rfl,fun W' v cs hbw hkw hv hp => ?_⟩
 obtain ⟨b,o,c,c0,hc⟩:=h.cells hbw (by omega)
 obtain ⟨g0,p0,e0,d0,h0⟩:=hc 0 (by omega)
 rw [Nat.add_zero] at d0
 have H0:=Lib.hid (h0 W' v cs hbw hkw hv hp)
 obtain ⟨t0,ht0⟩ : ∃ t,ps 0 cs = t:=⟨_,rfl⟩
 rw [ht0] at H0
 simp only [ht0]
 clear h hbw hc h0 hv hp ht0
 show Calls _ _ #[v,.pointer (some ⟨lb,0,none⟩)] W' _
 go_enter Tryz.func105,Tryz.ntmps105
 go_wp2_with fail
 refine H0.out.mono ?_
 clear H0
 rintro e w1 ⟨rfl,hb1⟩
 go_wp2_with fail
 go_ret
 exact ⟨rfl,hb1⟩
theorem cond_and (P : List Nat -> Prop) (K lb : Nat) (ps : Nat -> List Nat -> Bool) (W : World) (h : CBox P lb 2 ps K W) : CondR P (fun cs => ps 0 cs && ps 1 cs) (.func (.func 103) #[] #[.pointer (some ⟨lb,0,none⟩)]) K W:=by
 refine ⟨103,_,rfl,enters_of Tryz.func103 (by kernel_rfl) rfl,fun W' v cs hbw hkw hv hp => ?_⟩
 obtain ⟨b,o,c,c0,hc⟩:=h.cells hbw (by omega)
 obtain ⟨g0,p0,e0,d0,h0⟩:=hc 0 (by omega)
 rw [Nat.add_zero] at d0
 have H0:=Lib.hid (h0 W' v cs hbw hkw hv hp)
 have HBW:=Lib.hid hbw
 have HV:=Lib.hid hv
 have HP:=Lib.hid hp
 have H:=Lib.hid h
 obtain ⟨t1,ht1⟩ : ∃ t,ps 1 cs = t:=⟨_,rfl⟩
 have HT1:=Lib.hid ht1
 obtain ⟨t0,ht0⟩ : ∃ t,ps 0 cs = t:=⟨_,rfl⟩
 rw [ht0] at H0
 simp only [ht0,ht1]
 clear h hbw hc h0 hv hp ht0 ht1
 show Calls _ _ #[v,.pointer (some ⟨lb,0,none⟩)] W' _
 go_enter Tryz.func103,Tryz.ntmps103
 go_wp2_with fail
 refine H0.out.mono ?_
 clear H0 c0 d0 e0
 rintro e w1 ⟨rfl,hb1⟩
 have hbw1 : Below K W w1:=HBW.out.trans (hb1.mono hkw)
 cases t0 with
 | true =>
  obtain ⟨b,o,c,c0,hc⟩:=H.out.cells hbw1 (by omega)
  obtain ⟨g1,p1,e1,d1,h1⟩:=hc 1 (by omega)
  have H1:=Lib.hid (h1 w1 v cs hbw1 (by have := hb1.size; omega) (HV.out.below hb1 (Nat.le_refl _) hb1.size) HP.out)
  rw [HT1.out] at H1
  have HB1:=Lib.hid hb1
  clear hc h1 hbw1 hb1
  go_wp2_with fail
  refine H1.out.mono ?_
  clear H1
  rintro e w2 ⟨rfl,hb2⟩
  go_wp2_with fail
  go_ret
  exact ⟨by show Ending.returned (.bool t1) = _; simp,HB1.out.trans (hb2.mono HB1.out.size)⟩
 | false =>
  have HB1:=Lib.hid hb1
  clear hbw1 hb1
  go_wp2_with fail
  go_ret
  exact ⟨by first | rfl | (show Ending.returned (.bool _) = _; simp),HB1.out⟩
theorem cond_or (P : List Nat -> Prop) (K lb : Nat) (ps : Nat -> List Nat -> Bool) (W : World) (h : CBox P lb 2 ps K W) : CondR P (fun cs => ps 0 cs || ps 1 cs) (.func (.func 104) #[] #[.pointer (some ⟨lb,0,none⟩)]) K W:=by
 refine ⟨104,_,rfl,enters_of Tryz.func104 (by kernel_rfl) rfl,fun W' v cs hbw hkw hv hp => ?_⟩
 obtain ⟨b,o,c,c0,hc⟩:=h.cells hbw (by omega)
 obtain ⟨g0,p0,e0,d0,h0⟩:=hc 0 (by omega)
 rw [Nat.add_zero] at d0
 have H0:=Lib.hid (h0 W' v cs hbw hkw hv hp)
 have HBW:=Lib.hid hbw
 have HV:=Lib.hid hv
 have HP:=Lib.hid hp
 have H:=Lib.hid h
 obtain ⟨t1,ht1⟩ : ∃ t,ps 1 cs = t:=⟨_,rfl⟩
 have HT1:=Lib.hid ht1
 obtain ⟨t0,ht0⟩ : ∃ t,ps 0 cs = t:=⟨_,rfl⟩
 rw [ht0] at H0
 simp only [ht0,ht1]
 clear h hbw hc h0 hv hp ht0 ht1
 show Calls _ _ #[v,.pointer (some ⟨lb,0,none⟩)] W' _
 go_enter Tryz.func104,Tryz.ntmps104
 go_wp2_with fail
 refine H0.out.mono ?_
 clear H0 c0 d0 e0
 rintro e w1 ⟨rfl,hb1⟩
 have hbw1 : Below K W w1:=HBW.out.trans (hb1.mono hkw)
 cases t0 with
 | false =>
  obtain ⟨b,o,c,c0,hc⟩:=H.out.cells hbw1 (by omega)
  obtain ⟨g1,p1,e1,d1,h1⟩:=hc 1 (by omega)
  have H1:=Lib.hid (h1 w1 v cs hbw1 (by have := hb1.size; omega) (HV.out.below hb1 (Nat.le_refl _) hb1.size) HP.out)
  rw [HT1.out] at H1
  have HB1:=Lib.hid hb1
  clear hc h1 hbw1 hb1
  go_wp2_with fail
  refine H1.out.mono ?_
  clear H1
  rintro e w2 ⟨rfl,hb2⟩
  go_wp2_with fail
  go_ret
  exact ⟨by show Ending.returned (.bool t1) = _; simp,HB1.out.trans (hb2.mono HB1.out.size)⟩
 | true =>
  have HB1:=Lib.hid hb1
  clear hbw1 hb1
  go_wp2_with fail
  go_ret
  exact ⟨by first | rfl | (show Ending.returned (.bool _) = _; simp),HB1.out⟩
theorem cond_if (P : List Nat -> Prop) (K lb : Nat) (ps : Nat -> List Nat -> Bool) (W : World) (h : CBox P lb 3 ps K W) : CondR P (fun cs => if ps 0 cs then ps 1 cs else ps 2 cs) (.func (.func 106) #[] #[.pointer (some ⟨lb,0,none⟩)]) K W:=by
 refine ⟨106,_,rfl,enters_of Tryz.func106 (by kernel_rfl) rfl,fun W' v cs hbw hkw hv hp => ?_⟩
 obtain ⟨b,o,c,c0,hc⟩:=h.cells hbw (by omega)
 obtain ⟨g0,p0,e0,d0,h0⟩:=hc 0 (by omega)
 rw [Nat.add_zero] at d0
 have H0:=Lib.hid (h0 W' v cs hbw hkw hv hp)
 have HBW:=Lib.hid hbw
 have HV:=Lib.hid hv
 have HP:=Lib.hid hp
 have H:=Lib.hid h
 obtain ⟨t1,ht1⟩ : ∃ t,ps 1 cs = t:=⟨_,rfl⟩
 have HT1:=Lib.hid ht1
 obtain ⟨t2,ht2⟩ : ∃ t,ps 2 cs = t:=⟨_,rfl⟩
 have HT2:=Lib.hid ht2
 obtain ⟨t0,ht0⟩ : ∃ t,ps 0 cs = t:=⟨_,rfl⟩
 rw [ht0] at H0
 simp only [ht0,ht1,ht2]
 clear h hbw hc h0 hv hp ht0 ht1 ht2
 show Calls _ _ #[v,.pointer (some ⟨lb,0,none⟩)] W' _
 go_enter Tryz.func106,Tryz.ntmps106
 go_wp2_with fail
 refine H0.out.mono ?_
 clear H0 c0 d0 e0
 rintro e w1 ⟨rfl,hb1⟩
 have hbw1 : Below K W w1:=HBW.out.trans (hb1.mono hkw)
 cases t0 with
 | true =>
  obtain ⟨b,o,c,c0,hc⟩:=H.out.cells hbw1 (by omega)
  obtain ⟨g1,p1,e1,d1,h1⟩:=hc 1 (by omega)
  have H1:=Lib.hid (h1 w1 v cs hbw1 (by have := hb1.size; omega) (HV.out.below hb1 (Nat.le_refl _) hb1.size) HP.out)
  rw [HT1.out] at H1
  have HB1:=Lib.hid hb1
  clear hc h1 hbw1 hb1
  go_wp2_with fail
  refine H1.out.mono ?_
  clear H1
  rintro e w2 ⟨rfl,hb2⟩
  go_wp2_with fail
  go_ret
  exact ⟨rfl,HB1.out.trans (hb2.mono HB1.out.size)⟩
 | false =>
  obtain ⟨b,o,c,c0,hc⟩:=H.out.cells hbw1 (by omega)
  obtain ⟨g1,p1,e1,d1,h1⟩:=hc 2 (by omega)
  have H1:=Lib.hid (h1 w1 v cs hbw1 (by have := hb1.size; omega) (HV.out.below hb1 (Nat.le_refl _) hb1.size) HP.out)
  rw [HT2.out] at H1
  have HB1:=Lib.hid hb1
  clear hc h1 hbw1 hb1
  go_wp2_with fail
  refine H1.out.mono ?_
  clear H1
  rintro e w2 ⟨rfl,hb2⟩
  go_wp2_with fail
  go_ret
  exact ⟨rfl,HB1.out.trans (hb2.mono HB1.out.size)⟩
def arrD (n : Nat) (f : Nat -> Value) : Array Value:=((List.range n).map f).toArray
theorem arrD_size (n : Nat) (f : Nat -> Value) : (arrD n f).size = n:=by simp [arrD]
theorem arrD_at {n i : Nat} (f : Nat -> Value) (h : i < n) : (arrD n f)[i]? = some (f i):=by simp [arrD,h]
theorem arrD_set (n i : Nat) (f : Nat -> Value) (x : Value) : (arrD n f).setIfInBounds i x = arrD n (fun k => if k = i then x else f k):=by
 apply Array.ext_getElem?
 intro k
 by_cases hk : k < n
 ·rw [arrD_at _ hk]
  by_cases h : k = i
  ·subst h; rw [Array.getElem?_setIfInBounds_self_of_lt (by rw [arrD_size]; exact hk)]; simp
  ·rw [Array.getElem?_setIfInBounds_ne (fun e => h e.symm),arrD_at _ hk,if_neg h]
 ·rw [Array.getElem?_eq_none (by simp [arrD_size]; omega),Array.getElem?_eq_none (by simp [arrD_size]; omega)]
theorem arrD_congr {n : Nat} {f g : Nat -> Value} (h : ∀ i,i < n -> f i = g i) : arrD n f = arrD n g:=by
 unfold arrD
 congr 1
 exact List.map_congr_left fun i hi => h i (List.mem_range.1 hi)
theorem made_oneD (z : Value) (n : Nat) : madeCells #[z] (n * 1) = arrD n fun _ => z:=by
 apply Array.ext_getElem?
 intro k
 by_cases hk : k < n
 ·rw [arrD_at _ hk]; simp [madeCells,hk,Nat.mod_one]
 ·rw [Array.getElem?_eq_none (by simp [madeCells]; omega),Array.getElem?_eq_none (by simp [arrD_size]; omega)]
theorem infoBoolD : (Tryz.prog.info? 4).map (fun i => (i.zero,i.size,i.bytes)) = some (some (.bool false),1,1):=by kernel_rfl
theorem make_boolsD (n : Nat) (hn : n <= 2 ^ 38) (w : World) : (Instr.makeSlice 193 (.int .i64 n) (.int .i64 n)).run Tryz.prog w = .ok (.slice (some ⟨w.heap.size,0,none⟩) n n) (w.alloc (.cells (arrD n fun _ => .bool false) 4)):=by
 obtain ⟨i0,hi,hz0,hz1,hz2⟩:=info_parts infoBoolD
 have h:=run_make (P:=Tryz.prog) w 193 4 i0 _ Tryz.underlying193 hi hz0 .i64 .i64 n n (by omega) (Int.le_refl _) (by rw [hz2]; omega) (by omega)
 rw [hz1,Int.toNat_natCast] at h
 rw [h]
 have := made_oneD (.bool false) n
 simp only [Value.cells] at this ⊢
 rw [this]
def sawB (vis : List Nat) (h : Nat -> Bool) (k : Nat) : Value:=.bool (vis.contains k && h k)
theorem saw_set (vis : List Nat) (h : Nat -> Bool) (m c : Nat) : (arrD m (sawB vis h)).setIfInBounds c (.bool (h c)) = arrD m (sawB (vis ++ [c]) h):=by
 rw [arrD_set]
 refine arrD_congr fun k _ => ?_
 unfold sawB
 by_cases e : k = c
 ·subst e; simp
 ·rw [if_neg e]; simp [e]
theorem cond_test (P : List Nat -> Prop) (p : List Nat -> Bool) (K hb rb ib m i : Nat) (f : Nat -> Value) (W : World) (q1 : Blk W hb #[.slice (some ⟨rb,0,none⟩) m m] 193) (q2 : Blk W rb (arrD m f) 4) (q3 : Blk W ib #[.int .i64 i] 3)
  (h1 : hb < K) (h2 : rb < K) (h3 : ib < K) (hp : ∀ cs,P cs -> i < cs.length /\ cs[i]?.getD 0 < m /\ f (cs[i]?.getD 0) = .bool (p cs)) :
  CondR P p (.func (.func 152) #[] #[.pointer (some ⟨hb,0,none⟩),.pointer (some ⟨ib,0,none⟩)]) K W:=by
 refine ⟨152,_,rfl,enters_of Tryz.func152 (by kernel_rfl) rfl,fun W' v cs hbw hkw hv hpc => ?_⟩
 obtain ⟨g1,g2,g3⟩:=hp cs hpc
 obtain ⟨b,o,c,rfl,e0⟩:=nats_at hv g1
 have c0 : W'.cell? ⟨hb,0,none⟩ = some (.slice (some ⟨rb,0,none⟩) m m):=(q1.below hbw h1).at rfl
 have c3 : W'.cell? ⟨ib,0,none⟩ = some (.int .i64 i):=(q3.below hbw h3).at rfl
 obtain ⟨z,hz⟩ : ∃ z,cs[i]?.getD 0 = z:=⟨_,rfl⟩
 rw [hz] at g2 g3 e0
 have c2 : W'.cell? ⟨rb,z,none⟩ = some (.bool (p cs)):=(q2.below hbw h2).at (by rw [arrD_at f g2,g3])
 obtain ⟨n,hn⟩ : ∃ n,cs.length = n:=⟨_,rfl⟩
 obtain ⟨t,ht⟩ : ∃ t,p cs = t:=⟨_,rfl⟩
 rw [ht] at c2
 simp only [ht]
 rw [hn] at g1 ⊢
 clear hbw hkw hv hpc hp q1 q2 q3 g3 hz hn ht
 show Calls _ _ #[.slice (some ⟨b,o,none⟩) n c,.pointer (some ⟨hb,0,none⟩),.pointer (some ⟨ib,0,none⟩)] W' _
 go_enter Tryz.func152,Tryz.ntmps152
 go_upto_region 1 with fail
 go_quiet (fail)
 go_wp2_with fail
 go_ret
 exact ⟨rfl,below_drewN2 (Below.refl _ _) _⟩
structure BC (bb : Nat) (sv pv : Sl) (scs : List Sc) (gv : Nat -> Value) (K : Nat) (w : World) : Prop where
 blk : ∃ cs,Blk w bb cs 111 /\ cs[0]? = some sv.val /\ cs[5]? = some pv.val
 lt : bb < K
 s : ScsX K w sv.val scs
 p : RowsV 1 (fun i _ => gv i) K w pv.val scs.length
 pn : ∀ i,i < scs.length -> Nats K w (gv i) (cellsS (scs[i]?.getD default))
theorem BC.below {bb : Nat} {sv pv : Sl} {scs : List Sc} {gv : Nat -> Value} {K K' B : Nat} {w w' : World} (h : BC bb sv pv scs gv K w) (hb : Below B w w') (hB : K <= B) (hK : K <= K') : BC bb sv pv scs gv K' w':=by
 obtain ⟨cs,h1,h2,h3⟩:=h.blk
 have := h.lt
 exact ⟨⟨cs,h1.below hb (by omega),h2,h3⟩,by omega,h.s.below hb hB hK,RowsV.below h.p hb hB hK,fun i hi => Nats.below (h.pn i hi) hb hB hK⟩
def ScOkD (scs : List Sc) : Prop:=∀ s ∈ scs,(∀ c ∈ s.cuts,c.good = true) /\ s.cuts.length <= 2 ^ 38 /\ cellsS s ≠ [] /\ ∀ c ∈ cellsS s,c <= 2 ^ 30
theorem cells_inc (s : Sc) : (cellsS s).Pairwise (· < ·):=by
 unfold cellsS
 split
 ·unfold possL; exact List.Pairwise.filter _ List.pairwise_lt_range
 ·exact List.Pairwise.nil
theorem last_le {l : List Nat} (h : l.Pairwise (· < ·)) {c : Nat} (hc : c ∈ l) : c <= l[l.length - 1]?.getD 0:=by
 obtain ⟨j,hj,rfl⟩:=List.getElem_of_mem hc
 rw [List.getElem?_eq_getElem (by omega),Option.getD_some]
 by_cases e : j = l.length - 1
 ·simp [e]
 ·exact Nat.le_of_lt (List.pairwise_iff_getElem.1 h j (l.length - 1) hj (by omega) (by omega))
theorem ScsX.one {K : Nat} {w : World} {b o n sm i : Nat} {l : List Sc} {c : Nat} (h : ScsX K w (.slice (some ⟨b,o,none⟩) n sm) l) (hn : l.length = n) (hi : i < n) (hc : 1 <= c) (hm : c <= maxLen) : ScsX K w (.slice (some ⟨b,o + i * 11,none⟩) 1 c) [l[i]?.getD default]:=by
 obtain ⟨g,h1,h2⟩:=h
 subst hn
 obtain ⟨b',o',cap,he,_,_,hbK,hcl⟩:=h1.pos (by omega)
 simp only [Value.slice.injEq,Option.some.injEq,Addr.mk.injEq,and_true,true_and] at he
 obtain ⟨⟨rfl,rfl⟩,rfl⟩:=he
 refine ⟨fun _ => g i,⟨_,c,rfl,hc,hm,fun h => (by cases h),fun k hk => ⟨b,o + i * 11,rfl,hbK,fun j hj => ?_⟩⟩,fun k hk => ?_⟩
 ·have hk0 : k = 0:=by simp at hk; omega
  subst hk0
  rw [Nat.zero_mul,Nat.zero_add,Nat.add_assoc]
  exact hcl i hi j hj
 ·have hk0 : k = 0:=by simp at hk; omega
  subst hk0
  exact h2 i hi
end Go.Proofs.YtlidpghnlloinaaGreatDoor
