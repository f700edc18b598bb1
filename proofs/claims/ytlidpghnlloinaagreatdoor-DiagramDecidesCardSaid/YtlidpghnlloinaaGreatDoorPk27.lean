/- Contracts and plain laws, several texts in one (DSrch0, DSrch). No conditions beyond those stated. -/
import Derived.Test.YtlidpghnlloinaaGreatDoorPk26
set_option maxRecDepth 100000
set_option maxHeartbeats 40000000
namespace Go.Proofs.YtlidpghnlloinaaGreatDoor
open Go.RowKit
set_option linter.unusedVariables false
theorem knF_nil (p : Int -> Bool) : (fun _ => none : Lit -> Option Value) = fN (knF p []):=by
 funext x
 unfold fN knF
 split <;> simp
abbrev rchC (T : Nat) : Value:=.func (.func 123) #[] (rchV (T + 1) T (T + 3) (T + 4))
abbrev srchW (w : World) (dc : Array Value) (gw T : Nat) : World:=((((w.alloc (.cells dc 29)).alloc (.cells #[.func (.func gw) #[] #[]] 112)).alloc (.map #[] 0)).alloc (.cells #[.map (some (T + 2))] 172)).alloc (.cells #[.nilFunc] 132)
structure SrchL (w : World) (dc : Array Value) (gw T : Nat) (W : World) : Prop where
 d : Blk W T dc 29
 g : Blk W (T + 1) #[.func (.func gw) #[] #[]] 112
 k : ∀ p,MapIs W 3 (T + 2) 0 (fN (knF p []))
 m : Blk W (T + 3) #[.map (some (T + 2))] 172
 r : Blk W (T + 4) #[rchC T] 132
 bel : Below T w W
 size : W.heap.size = T + 5
theorem srch_laid (w : World) (dc : Array Value) (gw T : Nat) (hT : w.heap.size = T) : Blk (srchW w dc gw T) (T + 4) #[.nilFunc] 132 /\ SrchL w dc gw T ((srchW w dc gw T).setCell ⟨T + 4,0,none⟩ (rchC T)):=by
 subst hT
 have b : Below w.heap.size w (srchW w dc gw w.heap.size):=(((((Below.refl _ w).alloc (Nat.le_refl _) _).alloc (by simp) _).alloc (by simp; omega) _).alloc (by simp; omega) _).alloc (by simp; omega) _
 have k4:=Blk.new ((((w.alloc (.cells dc 29)).alloc (.cells #[.func (.func gw) #[] #[]] 112)).alloc (.map #[] 0)).alloc (.cells #[.map (some (w.heap.size + 2))] 172)) #[.nilFunc] 132
 have k3:=(Blk.new (((w.alloc (.cells dc 29)).alloc (.cells #[.func (.func gw) #[] #[]] 112)).alloc (.map #[] 0)) #[.map (some (w.heap.size + 2))] 172).alloc (.cells #[.nilFunc] 132)
 have k1:=(((Blk.new (w.alloc (.cells dc 29)) #[.func (.func gw) #[] #[]] 112).alloc (.map #[] 0)).alloc (.cells #[.map (some (w.heap.size + 2))] 172)).alloc (.cells #[.nilFunc] 132)
 have k0:=((((Blk.new w dc 29).alloc (.cells #[.func (.func gw) #[] #[]] 112)).alloc (.map #[] 0)).alloc (.cells #[.map (some (w.heap.size + 2))] 172)).alloc (.cells #[.nilFunc] 132)
 have k2:=((MapIs.made ((w.alloc (.cells dc 29)).alloc (.cells #[.func (.func gw) #[] #[]] 112)) 3).alloc (.cells #[.map (some (w.heap.size + 2))] 172)).alloc (.cells #[.nilFunc] 132)
 simp only [World.size_alloc,Nat.add_assoc,Nat.reduceAdd] at k1 k2 k3 k4
 refine ⟨k4,k0.other (by omega) _,k1.other (by omega) _,fun p => ?_,k3.other (by omega) _,k4.set _,b.setCell (p:=⟨w.heap.size + 4,0,none⟩) (by simp) _,by simp [World.setCell,World.size_alloc]⟩
 rw [<- knF_nil]
 exact MapIs.kept k2 (grownBy_setCell _ (w.heap.size + 4) 0 _) (by simp)
theorem grown_bel {w0 W : World} {kb : Nat} (h : w0.grownBy W (some kb)) (hk : kb <= w0.heap.size) : Below kb w0 W :=
 ⟨h.os,h.tape,h.output,h.size,fun b hb => h.block b (by omega) (by simp; omega)⟩
theorem grown_blk {w0 W : World} {kb b t : Nat} {cs : Array Value} (h : w0.grownBy W (some kb)) (hq : Blk w0 b cs t) (hne : b ≠ kb) : Blk W b cs t:=(h.block b hq.lt (by simpa using hne)).trans hq
theorem RBox.go {w0 W : World} {K wb db mb rb kb gw : Nat} {x : Dv} {scs : List Sc} {st : DSt} {root : Int} {Wp : List Nat -> Bool} (h : RBox w0 K wb db mb rb kb gw x scs st root Wp) (hg : w0.grownBy W (some kb)) : RBox W K wb db mb rb kb gw x scs st root Wp :=
 ⟨grown_blk hg h.w h.n1,grown_blk hg h.d h.n2,grown_blk hg h.m h.n3,grown_blk hg h.r h.n4,h.dg.below ((grown_bel hg (Nat.le_of_lt h.kl))) h.kk (Nat.le_refl _),h.dv,h.kk,Nat.lt_of_lt_of_le h.kl hg.size,h.n1,h.n2,h.n3,h.n4,h.eg,h.wc⟩
theorem RInv.step {w0 W W' : World} {kb N : Nat} {p : Int -> Bool} {r : Option Nat} (h : RInv w0 kb N p W) (hg : W.grownBy W' r) (hk : kb < w0.heap.size) (hr : ∀ g,r = some g -> w0.heap.size <= g) : RInv w0 kb N p W':=by
 have hs:=h.grown.size
 obtain ⟨D,h1,h2,h3⟩:=h.map
 exact ⟨⟨hg.os.trans h.grown.os,hg.tape.trans h.grown.tape,hg.output.trans h.grown.output,Nat.le_trans hs hg.size,fun b hb hne => (hg.block b (by omega) (fun e => absurd (hr b e.symm) (by omega))).trans (h.grown.block b hb hne)⟩,D,h1,h2,h3.kept hg (fun e => by have := hr kb e.symm; omega)⟩
theorem RInv.fresh {w0 : World} {kb N : Nat} {p : Int -> Bool} (h : ∃ D : List Nat,D.Nodup /\ (∀ k ∈ D,k < N) /\ MapIs w0 3 kb D.length (fN (knF p D))) : RInv w0 kb N p w0 :=
 ⟨⟨rfl,rfl,rfl,Nat.le_refl _,fun _ _ _ => rfl⟩,h⟩
theorem OwnN.set {base g n c i x : Nat} {w : World} {l : List Nat} (h : OwnN base w (.slice (some ⟨g,0,none⟩) n c) l) (hi : i < l.length) : OwnN base (w.setCell ⟨g,i,none⟩ (Z x)) (.slice (some ⟨g,0,none⟩) n c) (l.set i x):=by
 obtain ⟨_,hr⟩:=h
 rcases hr with ⟨hv,h0⟩ | ⟨g',cap,cur,hv,hb,hg,hn,hm,hsz,ht⟩
 ·omega
 simp only [Value.slice.injEq,Option.some.injEq,Addr.mk.injEq,and_true] at hv
 obtain ⟨rfl,rfl,rfl⟩:=hv
 rw [Nat.mul_one] at ht hsz
 have hb2:=(show Blk w g cur 3 from hg).set (i:=i) (Z x)
 unfold OwnN
 rw [List.length_set]
 refine ⟨by simp,.inr ⟨g,c,_,rfl,hb,hb2,hn,hm,by simp [hsz],?_⟩⟩
 rw [Nat.mul_one]
 apply List.ext_getElem?
 intro k
 by_cases hk : k < l.length
 ·have hck : k < cur.size:=by omega
  have h0 : cur[k]? = (l.map Z)[k]? := by
   have := congrArg (·[k]?) ht
   simpa only [List.getElem?_take_of_lt hk,Array.getElem?_toList] using this
  rw [List.getElem?_take_of_lt hk,Array.getElem?_toList,List.getElem?_map]
  by_cases h1 : k = i
  ·subst h1
   rw [Array.getElem?_setIfInBounds_self_of_lt hck,List.getElem?_set_self hk]; rfl
  ·rw [Array.getElem?_setIfInBounds_ne (fun e => h1 e.symm),List.getElem?_set_ne (fun e => h1 e.symm),h0,List.getElem?_map]
 ·rw [List.getElem?_take_eq_none (by omega),List.getElem?_eq_none (by simp; omega)]
theorem no_at {base : Nat} {W : World} {pv : Value} {L : List (List Nat)} {vs : List Value} {F : Nat -> Prop} (h : NO base W pv L vs F) {i : Nat} {l : List Nat} (hl : L[i]? = some l) {j c : Nat} (hc : l[j]? = some c) :
  ∃ pb po pm gb go gc,pv = .slice (some ⟨pb,po,none⟩) L.length pm /\ vs[i]? = some (.slice (some ⟨gb,go,none⟩) l.length gc) /\ W.cell? ⟨pb,po + i,none⟩ = some (.slice (some ⟨gb,go,none⟩) l.length gc) /\ W.cell? ⟨gb,go + j,none⟩ = some (Z c):=by
 have hi:=(List.getElem?_eq_some_iff.1 hl).1
 have hj:=(List.getElem?_eq_some_iff.1 hc).1
 obtain ⟨u,hu⟩ : ∃ u,vs[i]? = some u:=⟨_,List.getElem?_eq_getElem (by rw [h.len]; exact hi)⟩
 have hn : Nats W.heap.size W u l:=h.get hl hu
 obtain ⟨gb,go,gc,he,_,_,_,hcl⟩:=Nats.pos hn (by omega)
 obtain ⟨pb,po,pm,hpe,_,_,_,hpc⟩:=h.rows.pos (by omega)
 have h1:=hpc i hi 0 (by omega)
 rw [zip_at (row:=fun _ u => [u]) hl hu] at h1
 have h2:=hcl j hj
 rw [hc] at h2
 subst he
 exact ⟨pb,po,pm,gb,go,gc,hpe,hu,by simpa using h1,by simpa using h2⟩
def SrchQ (scs : List Sc) (st : DSt) (root : Int) (Wp : List Nat -> Bool) (B : Nat) (e : Ending) (w' : World) : Prop :=
 (e = .returned (.tuple #[.slice none 0 0,.bool false]) /\ ¬ Gets st Wp root) ∨
 ∃ v cs l,e = .returned (.tuple #[v,.bool true]) /\ OwnN B w' v cs /\ CellsIn (pcs scs) cs /\ Evals (pcs scs) st cs root l /\ Wp l = true /\ Least (pcs scs) st root Wp cs
theorem dsearch_ok (K : Nat) (x : Dv) (scs : List Sc) (st : DSt) (root : Int) (gw : Nat) (Wp : List Nat -> Bool) (w : World) (h : DgX K w x scs st root) (hv : DgV scs st root) (hg : ScGood scs) (hne : ∀ p ∈ pcs scs,p.Nodup /\ p ≠ []) (hK : K <= w.heap.size)
  (heg : ∀ args w,(callFunc gw args).run Tryz.prog w = .ok (.enter gw args) w)
  (hwc : ∀ (W : World) (v : Value) (l : List Nat),Nats W.heap.size W v l -> Calls Tryz.prog gw #[v] W fun e W' => e = .returned (.bool (Wp l)) /\ W' = W) :
  Calls Tryz.prog 66 #[x.agg,.func (.func gw) #[] #[]] w fun e w' => SrchQ scs st root Wp w.heap.size e w' /\ Below w.heap.size w w':=by
 obtain ⟨p,hp⟩ : ∃ p : Int -> Bool,∀ t,p t = true ↔ Gets st Wp t:=by
  classical
  exact ⟨fun t => decide (Gets st Wp t),fun t => by simp⟩
 have hmm:=@run_makeMap Tryz.prog
 have hstf : ∀ (a : Addr) (f : Fn) (b c : Array Value) (m : Mode) (W : World),(store a (.func f b c) m).run Tryz.prog W = stored Tryz.prog W a (.func f b c) m:=fun a f b c m W => run_store Tryz.prog W a _ m rfl
 obtain ⟨T,hT⟩ : ∃ T,w.heap.size = T:=⟨_,rfl⟩
 obtain ⟨kn,hL⟩:=srch_laid w x.cells gw T hT
 obtain ⟨W1,hW1⟩ : ∃ W1,srchW w x.cells gw T = W1:=⟨_,rfl⟩
 obtain ⟨W2,hW2⟩ : ∃ W2,(srchW w x.cells gw T).setCell ⟨T + 4,0,none⟩ (rchC T) = W2:=⟨_,rfl⟩
 rw [hW2] at hL
 rw [hW1] at kn hW2
 obtain ⟨n0,n1⟩:=kn.one
 have hbox : RBox W2 K (T + 1) T (T + 3) (T + 4) (T + 2) gw x scs st root Wp:=⟨hL.g,hL.d,hL.m,hL.r,h.below hL.bel (by omega) (Nat.le_refl _),hv,by omega,by rw [hL.size]; omega,by omega,by omega,by omega,by omega,heg,hwc⟩
 have hrch:=rch_any W2 K (T + 1) T (T + 3) (T + 4) (T + 2) gw x scs st root Wp hbox p hp
 have hI0 : RInv W2 (T + 2) st.nds.length p W2:=RInv.fresh ⟨[],List.nodup_nil,fun k hk => (by cases hk),hL.k p⟩
 have hroot:=hrch _ root (Nat.le_refl _) hv.root W2 hI0
 obtain ⟨⟨sa,sn,sm⟩,⟨na,nn,nm⟩,⟨la,ln,lm⟩,rt⟩:=x
 have hrt : rt = root:=h.r
 subst hrt
 obtain ⟨n,hn⟩ : ∃ n,scs.length = n:=⟨_,rfl⟩
 have hn16:=hv.len
 rw [hn] at hn16
 obtain ⟨M,hM⟩ : ∃ M,st.nds.length = M:=⟨_,rfl⟩
 rw [hM] at hroot
 have HN:=Lib.hid hn
 have HM:=Lib.hid hM
 have HT:=Lib.hid hT
 have HW1:=Lib.hid hW1
 have HW2:=Lib.hid hW2
 have HR0:=Lib.hid hroot
 have HS:=Lib.hid h.s
 have HL:=Lib.hid hL
 have HV:=Lib.hid hv
 have HG:=Lib.hid hg
 have HNE:=Lib.hid hne
 have HP:=Lib.hid hp
 have HBOX:=Lib.hid hbox
 have c3 : W2.cell? ⟨T,3,none⟩ = some (.int .i64 rt):=hL.d.at rfl
 have c4 : W2.cell? ⟨T + 4,0,none⟩ = some (rchC T):=hL.r.at rfl
 dsimp only [Dv.agg,Dv.cells,Sl.val] at HW1 HL ⊢
 rw [hT] at hK ⊢
 obtain ⟨pr,hpr⟩ : ∃ pr,p rt = pr:=⟨_,rfl⟩
 rw [hpr] at HR0
 have HPR:=Lib.hid hpr
 clear h hv hg hne hp hwc heg hT hL kn hW1 hW2 hbox hrch hI0 hroot hn hM hpr
 go_enter Tryz.func66,Tryz.ntmps66
 go_upto_region 3 with fail
 simp only [HT.out,Nat.add_assoc,Nat.reduceAdd]
 rw [show ((((w.alloc (.cells #[.slice sa sn sm,.slice na nn nm,.slice la ln lm,.int .i64 rt] 29)).alloc (.cells #[.func (.func gw) #[] #[]] 112)).alloc (.map #[] 0)).alloc (.cells #[.map (some (T + 2))] 172)).alloc (.cells #[.nilFunc] 132) = W1 from HW1.out]
 go_upto_region 4 with fail
 rw [show W1.setCell ⟨T + 4,0,none⟩ (.func (.func 123) #[] #[.pointer (some ⟨T + 1,0,none⟩),.pointer (some ⟨T,0,none⟩),.pointer (some ⟨T + 3,0,none⟩),.pointer (some ⟨T + 4,0,none⟩)]) = W2 from HW2.out]
 clear n0 n1 hmm hstf
 go_wp2_with fail
 refine HR0.out.mono ?_
 clear HR0 c3 c4
 rintro en w3 ⟨rfl,hi3⟩
 have HI3:=Lib.hid hi3
 have b23 : Below (T + 2) W2 w3:=grown_bel hi3.grown (by rw [HL.out.size]; omega)
 have bT3 : Below T w w3:=HL.out.bel.trans (b23.mono (by omega))
 have HBT3:=Lib.hid bT3
 have hs3 : T + 5 <= w3.heap.size:=by have := hi3.grown.size; rw [HL.out.size] at this; exact this
 cases pr with
 | false =>
  clear hi3 b23 bT3
  go_wp2_with fail
  refine bodyPost_ret (v:=.tuple #[.slice none 0 0,.bool false]) (by simp [results,Tryz.results66,go_sem]) rfl ?_
  exact ⟨.inl ⟨rfl,fun hgets => by rw [(HP.out rt).2 hgets] at HPR; cases HPR.out⟩,HBT3.out⟩
 | true =>
  have d0 : w3.cell? ⟨T,0,none⟩ = some (.slice sa sn sm):=(grown_blk hi3.grown HL.out.d (by omega)).at rfl
  have hps:=dposs_any K (.slice sa sn sm) scs w3 (HS.out.below bT3 hK (by omega)) HG.out (by rw [HN.out]; omega) (by omega)
  have HPS:=Lib.hid hps
  clear hps hi3 b23 bT3
  go_wp2_with fail
  refine HPS.out.mono ?_
  clear HPS d0
  rintro en w4 ⟨pv,pvs,F,rfl,hno,hb4⟩
  have hpcs : scs.map cellsS = pcs scs:=rfl
  rw [hpcs] at hno
  obtain ⟨P,hP⟩ : ∃ P,pcs scs = P:=⟨_,rfl⟩
  have hPl : P.length = n:=by rw [<- hP]; unfold pcs; rw [List.length_map]; exact HN.out
  rw [hP] at hno
  have hnn:=hno.read
  obtain ⟨pa,pc,hpf,hpl,hpm⟩:=hnn.form
  rw [hPl] at hpf hpl
  subst hpf
  have hi4:=HI3.out.step (r:=none) (grown_of_below hb4) (by rw [HL.out.size]; omega) (fun g hg => by cases hg)
  have HI4:=Lib.hid hi4
  have hs4:=hb4.size
  obtain ⟨B4,hB4⟩ : ∃ B4,w4.heap.size = B4:=⟨_,rfl⟩
  have HB4:=Lib.hid hB4
  rw [hB4] at hs4 hnn
  have HPP:=Lib.hid hP
  have HPL:=Lib.hid hPl
  have HNO:=Lib.hid hno
  have HNN:=Lib.hid hnn
  have HBT4:=Lib.hid (HBT3.out.trans (hb4.mono (by omega)))
  have HNE2 : Hid (∀ l ∈ P,l.Nodup /\ l ≠ []):=Lib.hid (by rw [<- hP]; exact HNE.out)
  unfold maxLen at hpm
  clear hpcs hno hnn hi4 hb4 hP hPl hB4
  go_upto_region 8 with fail
  go_wp2_with fail
  go_loopw [9,27] (fun ov iv wr => ∃ i : Nat,i <= n /\ iv = .int .i64 i /\ OwnN B4 wr ov ((P.take i).map fun l => l.headD 0) /\ Below B4 w4 wr) (fun _ iv _ => n - (intOf iv).toNat)
  case atStart => exact ⟨0,Nat.zero_le _,rfl,OwnN.nil _ _,Below.refl _ _⟩
  case round =>
   obtain ⟨i,hi,rfl,hown,hbw⟩:=hrel
   obtain ⟨wo,rfl⟩ : ∃ wo : World,wo = wr:=⟨_,rfl⟩
   obtain ⟨oa,oc,hov,hoc,hocm⟩:=hown.form
   have hll : ((P.take i).map fun l => l.headD 0).length = i:=by rw [List.length_map,List.length_take,HPL.out]; omega
   obtain ⟨cl,hcl⟩ : ∃ cl,((P.take i).map fun l => l.headD 0) = cl:=⟨_,rfl⟩
   rw [hcl] at hll hown hov hoc
   rw [hll] at hov hoc
   subst hov
   have HCL:=Lib.hid hcl
   have HLL:=Lib.hid hll
   have HOWN:=Lib.hid hown
   have HBW:=Lib.hid hbw
   have hso : B4 <= wo.heap.size:=by have := hbw.size; have := HB4.out; omega
   clear hcl hll hown hbw
   by_cases hlt : i < n
   ·obtain ⟨l,hl⟩ : ∃ l,P[i]? = some l:=⟨_,List.getElem?_eq_getElem (by rw [HPL.out]; exact hlt)⟩
    have hlne:=(HNE2.out l (List.mem_of_getElem? hl)).2
    obtain ⟨c,l',rfl⟩ : ∃ c l',l = c :: l':=by cases l with
     | nil => exact absurd rfl hlne
     | cons a b => exact ⟨a,b,rfl⟩
    obtain ⟨pg,hpr,hpg⟩:=HNN.out
    rw [HPL.out] at hpr hpg
    obtain ⟨pb,po,pcap,hpe,_,_,hpbK,hpc⟩:=hpr.pos (by omega)
    simp only [Value.slice.injEq,true_and] at hpe
    obtain ⟨rfl,rfl⟩:=hpe
    have hpi:=hpg i hlt
    rw [hl,Option.getD_some] at hpi
    obtain ⟨gb,go,gc,hgf,_,hgm,hgK,hgc⟩:=Nats.pos hpi (by simp)
    have e0 : wo.cell? ⟨pb,po + i,none⟩ = some (.slice (some ⟨gb,go,none⟩) (c :: l').length gc):=(HBW.out.cell (p:=⟨pb,po + i,none⟩) hpbK).trans (by have := hpc i hlt 0 (by omega); rw [hgf] at this; simpa using this)
    have e1 : wo.cell? ⟨gb,go,none⟩ = some (.int .i64 (c : Int)):=(HBW.out.cell (p:=⟨gb,go,none⟩) hgK).trans (by have := hgc 0 (by simp); simpa using this)
    obtain ⟨u,hu⟩ : ∃ u,(c :: l').length = u:=⟨_,rfl⟩
    have hu0 : 0 < u:=by rw [<- hu]; simp
    rw [hu] at e0
    have hts : (P.take (i + 1)).map (fun l => l.headD 0) = cl ++ [c]:=by rw [List.take_add_one,hl,<- HCL.out]; simp
    have HTS:=Lib.hid hts
    have hl1 : cl.length + 1 <= 2 ^ 40:=by rw [HLL.out]; omega
    have HL1:=Lib.hid hl1
    clear hl hlne hpr hpg hpc hpi hgf hgc hu hts hl1
    go_wp2_with (at_builtin; refine wpList_append_N rfl (.tmp 31) (.tmp 35) rfl rfl rfl (HOWN.out.old ((Below.refl _ _).alloc (Nat.le_refl _) _) (Nat.le_refl _)) ((Blk.new wo #[Z c] _).at rfl) HL1.out (by simp; omega) ?_; intro g1 cap1 w5 hown5 hg5 hat5)
    have hb5 : Below B4 w4 w5:=(HBW.out.alloc hso _).grown hg5 (by simp; omega) (fun r hr => (ownsRow_cells HOWN.out hr).1)
    exact ⟨⟨i + 1,by omega,by go_num,by rw [HTS.out]; exact hown5,hb5⟩,by simp [intOf]; omega⟩
   ·obtain rfl : i = n:=by omega
    have hcin : CellsIn P cl:=by
     have := first_cells (P:=P) fun l hl => (HNE2.out l hl).2
     rw [<- HCL.out,List.take_of_length_le (by rw [HPL.out]; exact Nat.le_refl _)]
     exact this
    have HCIN:=Lib.hid hcin
    have HPS : Hid (∀ p ∈ P,p.Pairwise (· < ·)):=Lib.hid (by rw [<- HPP.out]; intro q hq; unfold pcs at hq; obtain ⟨s,_,rfl⟩:=List.mem_map.1 hq; exact cellsS_sorted s)
    have HTS : Hid (∀ t,TOk st 0 t -> tsc P st t <= P.length):=Lib.hid fun t ht => by
     rcases ht with ⟨m,rfl,_⟩ | ⟨m,y,rfl,hy,_⟩
     ·rw [tsc_leaf]; exact Nat.le_refl _
     ·rw [tsc_node (nx:=y.2) hy]
      obtain ⟨s,hs,_⟩:=HV.out.node m y.1 y.2 hy
      rw [HPL.out,<- HN.out]; exact Nat.le_of_lt (List.getElem?_eq_some_iff.1 hs).1
    have HLD0 : Hid (Lead2 P st Wp rt rt cl):=Lib.hid (Lead2.start HPS.out (by rw [<- HCL.out,List.take_of_length_le (by rw [HPL.out]; exact Nat.le_refl _)]) (HTS.out rt HV.out.root))
    have hi5:=HI4.out.step (r:=none) (grown_of_below (by rw [HB4.out]; exact HBW.out)) (by rw [HL.out.size]; omega) (fun g hg => by cases hg)
    have HI5:=Lib.hid hi5
    have hno5 : NO w3.heap.size wo (.slice pa i pc) P pvs F:=HNO.out.old HBW.out (by rw [HB4.out]; exact Nat.le_refl _)
    have HNO5:=Lib.hid hno5
    have HF : Hid (∀ g,(Value.slice oa i oc).ownBlock = some g -> B4 <= g /\ ¬ F g /\ (Value.slice pa i pc).ownBlock ≠ some g):=Lib.hid fun g hg => by
     have h1:=(ownsRow_cells HOWN.out hg).1
     refine ⟨h1,fun hF => ?_,fun e => ?_⟩
     ·have := (HNO.out.rng g hF).2; have := HB4.out; omega
     ·have := HNO.out.own.lt e; have := HB4.out; omega
    have hso2 : T + 5 <= wo.heap.size:=by omega
    have d3 : wo.cell? ⟨T,3,none⟩ = some (.int .i64 rt):=(grown_blk hi5.grown HL.out.d (by omega)).at rfl
    have hbTo : Below T w wo:=HBT4.out.trans (HBW.out.mono (by omega))
    have HBTO:=Lib.hid hbTo
    obtain ⟨wl,hwl⟩ : ∃ wl : World,wl = wo:=⟨_,rfl⟩
    have HWL:=Lib.hid hwl
    clear hcin hi5 hno5 hbTo hwl
    go_wp2_with fail
    go_loopw [12] (fun tv wr => ∃ (t : Int) (cs : List Nat),tv = .int .i64 t /\ Hid (TOk st 0 t) /\ Hid (p t = true) /\ Hid (CellsIn P cs) /\ Hid (Lead2 P st Wp rt t cs) /\ Hid (RInv W2 (T + 2) M p wr) /\ Hid (OwnN B4 wr (.slice oa i oc) cs) /\ Hid (NO w3.heap.size wr (.slice pa i pc) P pvs F)) (fun tv _ => dmz st i (intOf tv))
    case atStart => exact ⟨rt,cl,rfl,Lib.hid HV.out.root,HPR,HCIN,HLD0,HI5,HOWN,HNO5⟩
    case round =>
     clear HI3 HI4 HI5 HNO5 HOWN HBW HCIN HCL HLL HNO HNN HBTO HBT4 HBT3 d3 hso hso2 hocm hoc
     obtain ⟨t,cs,rfl,HTO,HPT,HCI,HLD,HRI,HOW,HNR⟩:=hrel
     obtain ⟨wq,rfl⟩ : ∃ wq : World,wq = wr:=⟨_,rfl⟩
     have hboxo:=HBOX.out.go HRI.out.grown
     have hLq : T + 5 <= wq.heap.size:=by have := HRI.out.grown.size; rw [HL.out.size] at this; exact this
     have hcl : cs.length = i:=by rw [HCI.out.1]; exact HPL.out
     have HCSL:=Lib.hid hcl
     clear hcl
     by_cases ht : 0 <= t
     ·obtain ⟨k,y,rfl,hk,_⟩ : ∃ (k : Nat) (y : Nat × List Int),t = (k : Int) /\ st.nds[k]? = some y /\ 0 <= y.1:=by
       rcases HTO.out with ⟨m,rfl,_⟩ | ⟨k,y,rfl,hk,hy⟩
       ·omega
       ·exact ⟨k,y,rfl,hk,hy⟩
      obtain ⟨sc,nx⟩:=y
      have hkm : k < M:=by rw [<- HM.out]; exact (List.getElem?_eq_some_iff.1 hk).1
      obtain ⟨s,hs,hnl,htk⟩:=HV.out.node k sc nx hk
      have hscn : sc < i:=by rw [<- HN.out]; exact (List.getElem?_eq_some_iff.1 hs).1
      have hpsc : P[sc]? = some (cellsS s):=by rw [<- HPP.out]; unfold pcs; rw [List.getElem?_map,hs]; rfl
      obtain ⟨t1,ht1,hg1⟩:=(gets_node hk).1 ((HP.out _).1 HPT.out)
      have hany : nx.any p = true:=List.any_eq_true.2 ⟨t1,ht1,(HP.out t1).2 hg1⟩
      obtain ⟨ix,hixx⟩ : ∃ ix,nx.findIdx p = ix:=⟨_,rfl⟩
      have hixl : ix < nx.length:=by rw [<- hixx]; exact List.findIdx_lt_length_of_exists (by simpa using hany)
      obtain ⟨t',ht'⟩ : ∃ t',nx[ix]? = some t':=⟨_,List.getElem?_eq_getElem hixl⟩
      have hpt' : p t' = true:=by
       obtain ⟨hl,he⟩:=List.getElem?_eq_some_iff.1 ht'
       rw [<- he]
       have := List.findIdx_getElem (p:=p) (xs:=nx) (w:=by rw [hixx]; exact hl)
       simpa only [hixx] using this
      have hidx : idxP p nx = (ix : Int):=by unfold idxP; rw [if_pos hany,hixx]
      obtain ⟨c,hc⟩ : ∃ c,(cellsS s)[ix]? = some c:=⟨_,List.getElem?_eq_getElem (by rw [<- hnl]; exact hixl)⟩
      have hcm : c ∈ cellsS s:=List.mem_of_getElem? hc
      have hto':=htk t' (List.mem_of_getElem? ht')
      have hdm:=dmz_step (n:=i) hk hscn hto'
      have htsc : sc < tsc P st t':=by
       rcases hto' with ⟨m,rfl,_⟩ | ⟨m,y,rfl,hy,hle⟩
       ·rw [tsc_leaf,HPL.out]; exact hscn
       ·rw [tsc_node (nx:=y.2) hy]; omega
      have hnd:=(HNE2.out _ (List.mem_of_getElem? hpsc)).1
      have htok0 : TOk st 0 t':=hto'.mono (Ext.refl _) (Nat.zero_le (sc + 1))
      have hld' : Lead2 P st Wp rt t' (cs.set sc c):=HLD.out.step HPS.out hk ht' htsc (HTS.out t' htok0) (by rw [hpsc]; exact hc) (by rw [HCSL.out,HPL.out]) (fun j u hj hu hg => by
       obtain ⟨hul,hue⟩:=List.getElem?_eq_some_iff.1 hu
       have hnot:=List.not_of_lt_findIdx (p:=p) (xs:=nx) (i:=j) (by rw [hixx]; exact hj)
       have hpu:=(HP.out u).2 hg
       rw [<- hue] at hpu
       exact absurd hpu (by simpa using hnot))
      clear htok0
      have hci' : CellsIn P (cs.set sc c):=CellsIn.set HCI.out hpsc hcm
      have htok':=hto'.mono (Ext.refl _) (Nat.zero_le (sc + 1))
      obtain ⟨ng,hnr,hng⟩:=hboxo.dg.n
      obtain ⟨b,o,cap,he,_,_,hbK,hcl⟩:=hnr.pos (by rw [HM.out]; omega)
      dsimp only [Sl.val] at he
      simp only [Value.slice.injEq] at he
      obtain ⟨rfl,hnnE,_⟩:=he
      have hkn : k < nn:=by rw [hnnE,HM.out]; exact hkm
      have hkl : k < st.nds.length:=by rw [HM.out]; exact hkm
      have e0 : wq.cell? ⟨b,o + k * 2,none⟩ = some (.int .i64 sc):=by have := hcl k hkl 0 (by omega); rw [hk] at this; simpa using this
      have e1 : wq.cell? ⟨b,o + k * 2 + 1,none⟩ = some (ng k):=by have := hcl k hkl 1 (by omega); rw [Nat.add_assoc]; simpa using this
      have hgk:=hng k hkl
      rw [hk] at hgk
      dsimp only [Option.getD_some] at hgk
      obtain ⟨xb,xo,xc,hxf,hxl,hxm,hxK,hxc⟩:=RowsV.pos hgk (Nat.lt_of_le_of_lt (Nat.zero_le _) hixl)
      rw [hxf] at e1
      obtain ⟨u,hu⟩ : ∃ u,nx.length = u:=⟨_,rfl⟩
      rw [hu] at e1
      have g1 : wq.cell? ⟨T,1,none⟩ = some (.slice (some ⟨b,o,none⟩) nn nm):=hboxo.d.at rfl
      obtain ⟨A0,hA0⟩ : ∃ A0,wq.heap.size = A0:=⟨_,rfl⟩
      obtain ⟨W5,hW5⟩ : ∃ W,wq.alloc (.cells #[.int .i64 sc,.slice (some ⟨xb,xo,none⟩) u xc] 65) = W:=⟨_,rfl⟩
      have b5 : Below A0 wq W5:=by rw [<- hW5,<- hA0]; exact (Below.refl _ _).alloc (Nat.le_refl _) _
      have q5 : Blk W5 A0 #[.int .i64 sc,.slice (some ⟨xb,xo,none⟩) u xc] 65:=by rw [<- hW5,<- hA0]; exact Blk.new wq _ _
      have hg5 : wq.grownBy W5 none:=by rw [<- hW5]; exact World.grownBy_alloc wq _ none
      have hbox5:=hboxo.go (grownBy_to hg5)
      have hri5:=HRI.out.step hg5 (by rw [HL.out.size]; omega) (fun g hg => by cases hg)
      have hI5 : RInv W5 (T + 2) st.nds.length p W5:=RInv.fresh (by rw [HM.out]; exact hri5.map)
      have k0 : W5.cell? ⟨T + 4,0,none⟩ = some (rchC T):=hbox5.r.at rfl
      have hKA : K <= A0:=by omega
      have hxc5 : ∀ j,j < nx.length -> W5.cell? ⟨xb,xo + j,none⟩ = some (.int .i64 (nx[j]?.getD 0)):=fun j hj => (b5.cell (p:=⟨xb,xo + j,none⟩) (Nat.lt_of_lt_of_le hxK hKA)).trans (by have := hxc j hj 0 (by omega); simpa using this)
      have hIL : InvL (RInv W5 (T + 2) st.nds.length p) (.slice (some ⟨xb,xo,none⟩) nx.length xc) nx :=
       ⟨⟨_,xc,rfl,hxl,hxm⟩,fun _ => ⟨xb,xo,xc,rfl,fun V hV j hj => grown_cell hV.grown (by omega) (hxc5 j hj)⟩⟩
      have hrch:=rch_any W5 K (T + 1) T (T + 3) (T + 4) (T + 2) gw _ scs st rt Wp hbox5 p HP.out
      have hcall:=idxf_any 123 (rchV (T + 1) T (T + 3) (T + 4)) (enters_of Tryz.func123 (by kernel_rfl) rfl) nx p _ (RInv W5 (T + 2) st.nds.length p) hIL (fun t ht W hW => hrch _ t (Nat.le_refl _) ((htk t ht).mono (Ext.refl _) (Nat.zero_le _)) W hW) W5 hI5
      rw [hidx,HM.out,hu] at hcall
      have k5 : W5.cell? ⟨xb,xo + ix,none⟩ = some (.int .i64 t'):=by have := hxc5 ix hixl; rw [ht'] at this; exact this
      have hixu : ix < u:=by rw [<- hu]; exact hixl
      rw [hu] at hxl
      unfold maxLen at hxm
      obtain ⟨m0,m1⟩:=q5.two
      have HCALL:=Lib.hid hcall
      have HW5:=Lib.hid hW5
      have HA0:=Lib.hid hA0
      have HB5:=Lib.hid b5
      have HQ5:=Lib.hid q5
      have HTOK':=Lib.hid htok'
      have HPT':=Lib.hid hpt'
      have HLD':=Lib.hid hld'
      have HCI':=Lib.hid hci'
      have HDM:=Lib.hid hdm
      have HRI5:=Lib.hid hri5
      have HNX : Hid (xb < K):=Lib.hid hxK
      have HPSC:=Lib.hid hpsc
      have HCC:=Lib.hid hc
      have t0 : decide ((0 : Int) <= (k : Int)) = true:=decide_eq_true (by omega)
      have hTA : T + 5 <= A0:=by omega
      clear ht hk hkm hs hnl htk hpsc ht1 hg1 hany hixx hixl ht' hpt' hidx hc hcm hto' hdm htsc hnd hld' hci' htok' hnr hng hcl hnnE hkl hgk hxf hxc hu hA0 hW5 b5 q5 hg5 hbox5 hri5 hI5 hxc5 hIL hrch hcall hboxo hxK hbK
      go_upto_region 16 with fail
      rw [HW5.out]
      rw [HA0.out]
      go_wp2_with fail
      refine HCALL.out.mono ?_
      clear HCALL e0 e1 g1 t0
      rintro en w6 ⟨rfl,hi6⟩
      have hri6 : RInv W2 (T + 2) M p w6:=⟨grownBy_then HRI5.out.grown hi6.grown,hi6.map⟩
      have q6 : Blk w6 A0 #[.int .i64 sc,.slice (some ⟨xb,xo,none⟩) u xc] 65:=grown_blk hi6.grown HQ5.out (by omega)
      have k6 : w6.cell? ⟨xb,xo + ix,none⟩ = some (.int .i64 t'):=grown_cell hi6.grown (by have := HNX.out; omega) k5
      have no6 : NO w3.heap.size w6 (.slice pa i pc) P pvs F:=(HNR.out.old HB5.out (by rw [HA0.out]; exact Nat.le_refl _)).kept hi6.grown (fun b e hF => by cases e; have := (HNR.out.rng _ hF).1; omega) (fun b e hv => by cases e; have := HNR.out.own.low hv; omega)
      have ow6 : OwnN B4 w6 (.slice oa i oc) cs:=(HOW.out.old HB5.out (by rw [HA0.out]; exact Nat.le_refl _)).kept hi6.grown (.inr fun e => by have := (HF.out _ e).1; omega)
      obtain ⟨g,hg0⟩ : ∃ g,oa = some ⟨g,0,none⟩:=by
       rcases ow6.2 with ⟨hv,h0⟩ | ⟨g',cap',cur',hv,_⟩
       ·have := HCSL.out; omega
       ·simp only [Value.slice.injEq] at hv; exact ⟨g',hv.1⟩
      subst hg0
      obtain ⟨hgB,hgF,hgP⟩:=HF.out g rfl
      obtain ⟨cur,hblk⟩ : ∃ cur,Blk w6 g cur 3:=by
       rcases ow6.2 with ⟨hv,h0⟩ | ⟨g',cap',cur',hv,_,hgg,_⟩
       ·have := HCSL.out; omega
       ·simp only [Value.slice.injEq,Option.some.injEq,Addr.mk.injEq,and_true] at hv
        obtain ⟨rfl,_⟩:=hv
        exact ⟨cur',hgg⟩
      have s1 : w6.frozen? ⟨g,sc,none⟩ = false:=hblk.free sc
      obtain ⟨oldc,s0⟩ : ∃ v : Int,w6.cell? ⟨g,sc,none⟩ = some (.int .i64 v):=by
       obtain ⟨gb,go,gc,he,_,_,_,hcc⟩:=Nats.pos ow6.nats (by rw [HCSL.out]; omega)
       simp only [Value.slice.injEq,Option.some.injEq,Addr.mk.injEq,and_true] at he
       obtain ⟨⟨rfl,rfl⟩,_⟩:=he
       have := hcc sc (by rw [HCSL.out]; exact hscn)
       exact ⟨_,by simpa using this⟩
      obtain ⟨pb,po,pm,gb,go,gc,hpv,hpvs,f0,f1⟩:=no_at no6 HPSC.out HCC.out
      simp only [Value.slice.injEq] at hpv
      obtain ⟨rfl,hzz,rfl⟩:=hpv
      clear hzz
      obtain ⟨ln2,hln2⟩ : ∃ q,(cellsS s).length = q:=⟨_,rfl⟩
      have hixq : ix < ln2:=by rw [<- hln2]; exact (List.getElem?_eq_some_iff.1 HCC.out).1
      rw [hln2] at f0 hpvs
      have hgA : g ≠ A0:=fun e => by have := ownsRow_lt HOW.out (r:=g) rfl; have := HA0.out; omega
      have hb7 : w6.grownBy (w6.setCell ⟨g,sc,none⟩ (Z c)) (some g):=grownBy_setCell _ _ _ _
      have no7 : NO w3.heap.size (w6.setCell ⟨g,sc,none⟩ (Z c)) (.slice (some ⟨pb,po,none⟩) i pc) P pvs F:=no6.kept hb7 (fun b e hF => by cases e; exact hgF hF) (fun b e hv => by cases e; exact hgP hv)
      have ow7 : OwnN B4 (w6.setCell ⟨g,sc,none⟩ (Z c)) (.slice (some ⟨g,0,none⟩) i oc) (cs.set sc c):=OwnN.set ow6 (by rw [HCSL.out]; exact hscn)
      have n1 : w6.cell? ⟨A0,0,none⟩ = some (.int .i64 sc):=q6.at rfl
      have HS6 : Hid (w6.cell? ⟨A0,0,none⟩ = some (.int .i64 sc) /\ w6.cell? ⟨pb,po + sc,none⟩ = some (.slice (some ⟨gb,go,none⟩) ln2 gc) /\ w6.cell? ⟨gb,go + ix,none⟩ = some (Z c)):=Lib.hid ⟨n1,f0,f1⟩
      have HS7 : Hid ((w6.setCell ⟨g,sc,none⟩ (Z c)).cell? ⟨A0,0,none⟩ = some (.int .i64 sc) /\ (w6.setCell ⟨g,sc,none⟩ (Z c)).cell? ⟨pb,po + sc,none⟩ = some (.slice (some ⟨gb,go,none⟩) ln2 gc) /\ (w6.setCell ⟨g,sc,none⟩ (Z c)).cell? ⟨gb,go + ix,none⟩ = some (Z c)):=by
       obtain ⟨pb',po',pm',gb',go',gc',hpv',hpvs',f0',f1'⟩:=no_at no7 HPSC.out HCC.out
       simp only [Value.slice.injEq,Option.some.injEq,Addr.mk.injEq,and_true] at hpv'
       obtain ⟨⟨rfl,rfl⟩,_,rfl⟩:=hpv'
       rw [hln2] at f0' hpvs'
       rw [hpvs] at hpvs'
       simp only [Option.some.injEq,Value.slice.injEq,Addr.mk.injEq,and_true,true_and] at hpvs'
       obtain ⟨⟨rfl,rfl⟩,rfl⟩:=hpvs'
       exact Lib.hid ⟨grown_cell hb7 (Ne.symm hgA) n1,f0',f1'⟩
      have n7 : (w6.setCell ⟨g,sc,none⟩ (Z c)).cell? ⟨A0,1,none⟩ = some (.slice (some ⟨xb,xo,none⟩) u xc):=grown_cell hb7 (Ne.symm hgA) (q6.at rfl)
      have k7 : (w6.setCell ⟨g,sc,none⟩ (Z c)).cell? ⟨xb,xo + ix,none⟩ = some (.int .i64 t'):=grown_cell hb7 (by have := HNX.out; omega) k6
      have ri7:=hri6.step hb7 (by rw [HL.out.size]; omega) (fun b e => by cases e; rw [HL.out.size]; omega)
      have HRI7:=Lib.hid ri7
      have HOW7:=Lib.hid ow7
      have HNO7:=Lib.hid no7
      have HN7:=Lib.hid n7
      have HK7:=Lib.hid k7
      clear hri6 q6 k6 no6 ow6 hblk hpvs f0 f1 hln2 hb7 no7 ow7 n1 n7 k7 ri7 hi6 m0 m1 k0 k5 hgF hgP
      go_upto_region 17 with fail
      refine region_plain (fun W' => W'.cell? ⟨A0,0,none⟩ = some (.int .i64 sc) /\ W'.cell? ⟨pb,po + sc,none⟩ = some (.slice (some ⟨gb,go,none⟩) ln2 gc) /\ W'.cell? ⟨gb,go + ix,none⟩ = some (Z c)) [] (by kernel_rfl) ?_
      have qS : (fun W' : World => W'.cell? ⟨A0,0,none⟩ = some (.int .i64 sc) /\ W'.cell? ⟨pb,po + sc,none⟩ = some (.slice (some ⟨gb,go,none⟩) ln2 gc) /\ W'.cell? ⟨gb,go + ix,none⟩ = some (Z c)) w6.drew:=HS6.out
      refine wpAnyD_tp (i:=0) (v:=.slice (some ⟨g,0,none⟩) i oc) rfl qS ?_
      refine wpAnyD_tp (i:=1) (v:=.pointer (some ⟨A0,0,none⟩)) rfl qS ?_
      refine wpAnyD_tk (i:=2) (v:=.int .i64 sc) rfl (.inl ⟨by kernel_rfl,fun W' hS => by obtain ⟨x0,x1,x2⟩:=hS; go_simp⟩) qS ?_
      refine wpAnyD_tp (i:=3) (v:=.slice (some ⟨pb,po,none⟩) i pc) rfl qS ?_
      refine wpAnyD_tp (i:=4) (v:=.pointer (some ⟨A0,0,none⟩)) rfl qS ?_
      refine wpAnyD_tk (i:=5) (v:=.int .i64 sc) rfl (.inl ⟨by kernel_rfl,fun W' hS => by obtain ⟨x0,x1,x2⟩:=hS; go_simp⟩) qS ?_
      refine wpAnyD_tp (i:=6) (v:=.pointer (some ⟨pb,po + sc,none⟩)) rfl qS ?_
      refine wpAnyD_tk (i:=7) (v:=.slice (some ⟨gb,go,none⟩) ln2 gc) rfl (.inl ⟨by kernel_rfl,fun W' hS => by obtain ⟨x0,x1,x2⟩:=hS; go_simp⟩) qS ?_
      refine wpAnyD_tp (i:=8) (v:=.int .i64 ix) rfl qS ?_
      refine wpAnyD_tp (i:=9) (v:=.pointer (some ⟨gb,go + ix,none⟩)) rfl qS ?_
      refine wpAnyD_tk (i:=10) (v:=.int .i64 c) rfl (.inl ⟨by kernel_rfl,fun W' hS => by obtain ⟨x0,x1,x2⟩:=hS; go_simp⟩) qS ?_
      refine wpAnyD_tp (i:=11) (v:=.pointer (some ⟨g,sc,none⟩)) rfl qS ?_
      refine wpAnyD_one (i:=12) (by kernel_rfl) rfl (by kernel_rfl) ?_
      go_simp
      refine ⟨⟨HS6.out.1,HS7.out.2⟩,?_⟩
      refine wpAnyD_done (by kernel_rfl) ?_ _
      obtain ⟨W7,hW7⟩ : ∃ W7,w6.setCell ⟨g,sc,none⟩ (.int .i64 (c : Int)) = W7:=⟨_,rfl⟩
      have HW7:=Lib.hid hW7
      have j1 : W7.cell? ⟨A0,1,none⟩ = some (.slice (some ⟨xb,xo,none⟩) u xc):=by rw [<- hW7]; exact HN7.out
      have j2 : W7.cell? ⟨xb,xo + ix,none⟩ = some (.int .i64 t'):=by rw [<- hW7]; exact HK7.out
      have r7:=HRI7.out
      have o7:=HOW7.out
      have n7:=HNO7.out
      rw [show w6.setCell ⟨g,sc,none⟩ (Z c) = W7 from hW7] at r7 o7 n7
      have R7:=Lib.hid r7
      have O7:=Lib.hid o7
      have N7:=Lib.hid n7
      rw [hW7]
      clear hW7 r7 o7 n7 s0 s1 HS7
      go_simp
      go_wp2_with fail
      have hbd : Below W7.heap.size W7 W7.drew:=below_drewN2 (Below.refl _ _) 1
      have R8 : RInv W2 (T + 2) M p W7.drew:=R7.out.drewN 1
      have O8 : OwnN B4 W7.drew (.slice (some ⟨g,0,none⟩) i oc) (cs.set sc c):=O7.out.old hbd (Nat.le_refl _)
      have N8 : NO w3.heap.size W7.drew (.slice (some ⟨pb,po,none⟩) i pc) P pvs F:=N7.out.old hbd (Nat.le_refl _)
      exact ⟨⟨cs.set sc c,HCI',HLD',Lib.hid R8,Lib.hid O8,Lib.hid N8⟩,HDM.out⟩
     ·obtain ⟨k,rfl⟩ : ∃ k : Nat,t = -1 - (k : Int):=⟨(-1 - t).toNat,by omega⟩
      obtain ⟨l,hl,hw⟩:=gets_leaf.1 ((HP.out _).1 HPT.out)
      have hev:=HLD.out.leads cs l (fun _ _ => rfl) (.leaf k l hl)
      have hlea:=Lib.hid (HLD.out.least (by rw [HCSL.out,HPL.out]))
      have HEV:=Lib.hid hev
      have HWL:=Lib.hid hw
      have t0 : decide ((0 : Int) <= -1 - (k : Int)) = false:=decide_eq_false (by omega)
      clear hl hw hev hboxo ht
      go_wp2_with fail
      refine bodyPost_ret (v:=.tuple #[.slice oa i oc,.bool true]) (by simp [results,Tryz.results66,go_sem]) rfl ?_
      exact ⟨.inr ⟨_,cs,l,rfl,OwnN.mono HOW.out (by have := HL.out.size; omega),by rw [HPP.out]; exact HCI.out,by rw [HPP.out]; exact HEV.out,HWL.out,by rw [HPP.out]; exact hlea.out⟩,HL.out.bel.trans ((grown_bel HRI.out.grown (by rw [HL.out.size]; omega)).mono (by omega))⟩
end Go.Proofs.YtlidpghnlloinaaGreatDoor
