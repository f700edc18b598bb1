/- Contracts and plain laws, several texts in one (DTgt, DFree, DBuild). No conditions beyond those stated. -/
import Derived.Test.YtlidpghnlloinaaGreatDoorPk27
import Derived.Test.YtlidpghnlloinaaGreatDoorPk28
set_option maxRecDepth 100000
set_option maxHeartbeats 40000000
namespace Go.Proofs.YtlidpghnlloinaaGreatDoor
open Go.RowKit
set_option linter.unusedVariables false
theorem infoNode : (Tryz.prog.info? 65).map (fun i => (i.zero,i.size,i.bytes)) = some (some (.agg #[.int .i64 0,.slice none 0 0]),2,32):=by kernel_rfl
theorem set_take {cur : List Nat} {sc c : Nat} {pre : List Nat} (h : cur.take sc = pre) (hl : sc < cur.length) : (cur.set sc c).take (sc + 1) = pre ++ [c]:=by
 rw [take_snoc (x:=c) (by rw [List.getElem?_set_self hl])]
 congr 1
 rw [<- h]
 apply List.ext_getElem?
 intro i
 rw [List.getElem?_take,List.getElem?_take]
 split
 ·rw [List.getElem?_set_ne (by omega)]
 ·rfl
theorem take_less {l pre : List Nat} {sc c : Nat} (h : l.take (sc + 1) = pre ++ [c]) (hp : pre.length = sc) : l.take sc = pre:=by
 have := congrArg (List.take sc) h
 have h2 : (pre ++ [c]).take sc = pre:=by rw [List.take_append_of_le_length (by omega)]; exact List.take_of_length_le (by omega)
 rw [List.take_take,Nat.min_eq_left (by omega),h2] at this
 exact this
theorem dtarget_cons (x : Bn) (ok : BnOk x) (scs : List Sc) (es : List Gx) (hP : ∀ p ∈ pcs scs,p.Nodup /\ p ≠ []) (p : List Nat) (Q : List (List Nat)) (ih : TgtC x scs es Q) (hsn : x.sv.n <= 2 ^ 20) (hpl : p.length <= 2 ^ 20) : TgtC x scs es (p :: Q):=by
 intro sc pre st d cur w hd hs hwf hcs h htk htab hn hl
 have hlen : (pcs scs).length = x.sv.n:=by unfold pcs; rw [List.length_map,h.scl]
 have hsc : sc < x.sv.n:=by
  rcases Nat.lt_or_ge sc (pcs scs).length with h1 | h1
  ·omega
  ·rw [List.drop_of_length_le h1] at hd; cases hd
 have hp : (pcs scs)[sc]? = some p:=by
  have := congrArg (·[0]?) hd
  simpa using this
 have hd' : (pcs scs).drop (sc + 1) = Q:=by
  have := congrArg List.tail hd
  simpa using this
 have hpre : pre.length = sc:=by rw [hcs.1,List.length_take]; omega
 obtain ⟨n1,n2⟩:=hP p (List.mem_of_getElem? hp)
 have hQne : ∀ q ∈ Q,q ≠ []:=fun q hq => (hP q (List.mem_of_mem_drop (by rw [hd']; exact hq))).2
 have htake : (pcs scs).take (sc + 1) = (pcs scs).take sc ++ [p]:=take_snoc hp
 obtain ⟨k,hk⟩ : ∃ k,prodL Q = k:=⟨_,rfl⟩
 have hpk : prodL (p :: Q) = p.length * k:=by rw [<- hk]; rfl
 have hk1 : 1 <= k:=by rw [<- hk]; exact prodL_pos hQne
 obtain ⟨m,hm⟩ : ∃ m,p.length = m:=⟨_,rfl⟩
 have hm0 : 0 < m:=by rw [<- hm]; exact List.length_pos_iff.2 n2
 rw [hpk,hm] at hn hl
 rw [hm] at hpl
 obtain ⟨f,hf⟩ : ∃ f : Nat -> DSt -> Int × DSt,(fun c s => tgt (lfS scs es) Q (sc + 1) (pre ++ [c]) s) = f:=⟨_,rfl⟩
 have hfa : ∀ c s,tgt (lfS scs es) Q (sc + 1) (pre ++ [c]) s = f c s:=fun c s => by rw [<- hf]
 have hres : tgt (lfS scs es) (p :: Q) sc pre st = shut sc (mapS f p st).1 (mapS f p st).2:=by rw [<- hf]; rfl
 have hfk : ∀ c s,(f c s).2.nds.length + 1 <= s.nds.length + k /\ (f c s).2.lvs.length <= s.lvs.length + k:=fun c s => by
  rw [<- hfa,<- hk]; exact tgt_size (lfS scs es) Q (sc + 1) (pre ++ [c]) s hQne
 have hCI : ∀ c ∈ p,CellsIn ((pcs scs).take (sc + 1)) (pre ++ [c]):=fun c hc => by rw [htake]; exact hcs.append (CellsIn.cons hc CellsIn.nil)
 have hok : ∀ j,MpOk (pcs scs) (lfS scs es) (sc + 1) pre Q (p.take j) st (mapS f (p.take j) st):=fun j => mapS_ok (p.take j) st hwf fun c hc s hs' => by
  rw [<- hfa]
  exact tgt_ok hP Q (sc + 1) (pre ++ [c]) s hd' (hCI c (List.mem_of_mem_take hc)) (by omega) hs'
 have hsz : ∀ j,j <= m -> (mapS f (p.take j) st).2.nds.length + j <= st.nds.length + j * k /\ (mapS f (p.take j) st).2.lvs.length <= st.lvs.length + j * k:=fun j hj => by
  have := mapS_size hfk (p.take j) st
  rw [List.length_take,hm,Nat.min_eq_left hj] at this
  exact this
 have hjk : ∀ j,j < m -> j * k + k <= m * k:=fun j hj => by
  have := Nat.mul_le_mul_right k (show j + 1 <= m from hj)
  rwa [Nat.succ_mul] at this
 have hint : ∀ j,j <= m -> ∀ t ∈ (mapS f (p.take j) st).1,-(2 ^ 62) < t /\ t < 2 ^ 62:=fun j hj t ht => by
  obtain ⟨i,hi,rfl⟩:=List.getElem_of_mem ht
  have hil : i < (p.take j).length:=by rw [mapS_len] at hi; exact hi
  have h1:=((hok j).each i _ _ (List.getElem?_eq_getElem hil) (List.getElem?_eq_getElem hi)).1
  have h2:=hsz j hj
  have h3 : j * k <= m * k:=Nat.mul_le_mul_right k hj
  rcases h1 with ⟨n,e,hn'⟩ | ⟨n,y,e,hn',_⟩
  ·rw [e]; omega
  ·have := (List.getElem?_eq_some_iff.1 hn').1
   rw [e]; omega
 obtain ⟨_,_,hG,hGN⟩:=h.get
 obtain ⟨pa,pm,hpv,hpvl,hpvm⟩:=hG.form
 rw [hlen] at hG hpv
 rw [hpv] at hG
 obtain ⟨ga,gm,hgv,_,hgm⟩:=(by have := hGN sc (by omega); rw [hp] at this; exact Nats.form this : ∃ a cap,x.gv sc = .slice a p.length cap /\ p.length <= cap /\ cap <= maxLen)
 rw [hm] at hgv
 obtain ⟨T,hT⟩ : ∃ T,w.heap.size = T:=⟨_,rfl⟩
 have HT:=Lib.hid hT
 have hTx : x.T <= T:=by rw [<- hT]; exact h.big
 have hBT : x.B <= T:=by have := ok.l1; have := ok.u1; omega
 have c0 : w.cell? ⟨x.bb,0,none⟩ = some (.slice x.sv.a x.sv.n x.sv.m):=h.blk.at rfl
 have c5 : w.cell? ⟨x.bb,5,none⟩ = some (.slice pa x.sv.n pm):=by rw [<- hpv]; exact h.blk.at rfl
 obtain ⟨b,o,cap,he,_,_,hbK,hc⟩:=hG.pos (by omega)
 simp only [Value.slice.injEq,true_and] at he
 obtain ⟨rfl,rfl⟩:=he
 have e0 : w.cell? ⟨b,o + sc,none⟩ = some (.slice ga m gm):=by rw [<- hgv]; have := hc sc hsc 0 (by omega); simpa using this
 have hsw : IntKind.i64.wrap ((sc : Int) + 1) = (sc : Int) + 1:=IntWalk.i64_in _ (by omega)
 have hse : ((sc : Int) == (x.sv.n : Int)) = false:=by simp; omega
 have HH:=Lib.hid h
 have HTAB:=Lib.hid htab
 have HOK:=Lib.hid hok
 have HSZ:=Lib.hid hsz
 have HJK:=Lib.hid hjk
 have HINT:=Lib.hid hint
 have HCI:=Lib.hid hCI
 have HFA:=Lib.hid hfa
 have HP1:=Lib.hid hp
 have HM:=Lib.hid hm
 have HGV:=Lib.hid hgv
 have HD:=Lib.hid hd'
 have HTK:=Lib.hid htk
 have HPRE:=Lib.hid hpre
 have HK:=Lib.hid hk
 have HIH:=Lib.hid ih
 have HLEN:=Lib.hid hlen
 rw [hres]
 clear hd hs hwf hcs htk htab h hok hsz hjk hint hCI hfa hp hm hgv hd' hf hres hfk hP hQne htake hG hGN hc hpv hpvl hT hpre hk ih hlen n1 n2 hpk
 go_enter Tryz.func50,Tryz.ntmps50
 go_wp2_with fail
 go_loopw [5,29] (fun ov iv wr => ∃ (j : Nat) (d' : Dy) (cur' : List Nat),j <= m /\ iv = .int .i64 j /\ BI x scs es d' (mapS f (p.take j) st).2 (mapS f (p.take j) st).2 cur' wr /\ Fr x d d' w wr /\ cur'.take sc = pre /\ OwnI T wr ov (mapS f (p.take j) st).1 /\ (∀ g,ov.ownBlock = some g -> ¬ d'.F1 g /\ ¬ d'.F2 g)) (fun _ iv _ => m - (intOf iv).toNat)
 case atStart => exact ⟨0,d,cur,Nat.zero_le _,rfl,HH.out,Fr.old (Below.refl _ _) (by rw [HT.out]; exact hBT),HTK.out,World.ownsRow_nil _ _ _ _,fun g hg => by cases hg⟩
 case round =>
  obtain ⟨j,d1,cur1,hj,rfl,hbi,hfr,htk1,hown,hFF⟩:=hrel
  obtain ⟨wo,rfl⟩ : ∃ wo : World,wo = wr:=⟨_,rfl⟩
  obtain ⟨oa,oc,hov,_,_⟩:=hown.form
  obtain ⟨L,hL⟩ : ∃ L,(mapS f (p.take j) st).1 = L:=⟨_,rfl⟩
  obtain ⟨s1,hs1⟩ : ∃ s,(mapS f (p.take j) st).2 = s:=⟨_,rfl⟩
  have hLj : L.length = j:=by rw [<- hL,mapS_len,List.length_take,HM.out]; omega
  rw [hL] at hov hown
  rw [hs1] at hbi
  rw [hLj] at hov
  subst hov
  have hTo : T <= wo.heap.size:=by have := hfr.bel.size; have := HT.out; omega
  have HOWN:=Lib.hid hown
  have HBI:=Lib.hid hbi
  have HFR:=Lib.hid hfr
  have HFF:=Lib.hid hFF
  have HLJ:=Lib.hid hLj
  have HL:=Lib.hid hL
  have HS1:=Lib.hid hs1
  have HTK1:=Lib.hid htk1
  by_cases hlt : j < m
  ·obtain ⟨b',o',cap',he,_,_,hbK',hc⟩:=(by have := (hbi.get).2.2.2 sc (by rw [HLEN.out]; exact hsc); rw [HP1.out,Option.getD_some] at this; exact Nats.pos this (by rw [HM.out]; omega) : ∃ b o cap,x.gv sc = .slice (some ⟨b,o,none⟩) p.length cap /\ p.length <= cap /\ cap <= maxLen /\ b < wo.heap.size /\ ∀ i,i < p.length -> wo.cell? ⟨b,o + i,none⟩ = some (Z (p[i]?.getD 0)))
   rw [HGV.out,HM.out] at he
   simp only [Value.slice.injEq,true_and] at he
   obtain ⟨rfl,rfl⟩:=he
   have hjp : j < p.length:=by rw [HM.out]; exact hlt
   obtain ⟨c,hcc⟩ : ∃ c,p[j]? = some c:=⟨_,List.getElem?_eq_getElem hjp⟩
   have e1 : wo.cell? ⟨b',o' + j,none⟩ = some (.int .i64 (c : Int)):=by have := hc j hjp; rw [hcc] at this; exact this
   have hcm : c ∈ p:=List.mem_of_getElem? hcc
   have d6 : wo.cell? ⟨x.bb,6,none⟩ = some (.slice (some ⟨x.cb,0,none⟩) x.sv.n x.sv.n):=hbi.blk.at rfl
   have hscl : sc < cur1.length:=by rw [hbi.len]; exact hsc
   have d7 : wo.cell? ⟨x.cb,sc,none⟩ = some (Z (cur1[sc]?.getD 0)):=hbi.cells.at (by simp [List.getElem?_eq_getElem hscl])
   have f7 : wo.frozen? ⟨x.cb,sc,none⟩ = false:=hbi.cells.free sc
   have hmp : mapS f (p.take (j + 1)) st = (L ++ [(f c s1).1],(f c s1).2):=by rw [take_snoc hcc,mapS_one,HL.out,HS1.out]
   have HMP:=Lib.hid hmp
   have hbi1:=hbi.setCur ok sc c
   have hfr1:=hfr.trans (hbi.fr_cur ok sc c)
   have hca:=HIH.out (sc + 1) (pre ++ [c]) s1 d1 (cur1.set sc c) (wo.setCell ⟨x.cb,sc,none⟩ (Z c)) HD.out (by have := hbi.scl; omega) (by rw [<- hs1]; exact (HOK.out j).wf) (HCI.out c hcm) hbi1 (set_take htk1 hscl) (HTAB.out.on hfr1.bel)
    (by have := (HSZ.out j hj).1; have := HJK.out j hlt; rw [HK.out,<- hs1]; omega) (by have := (HSZ.out j hj).2; have := HJK.out j hlt; rw [HK.out,<- hs1]; omega)
   rw [HFA.out,show (((sc + 1 : Nat)) : Int) = (sc : Int) + 1 by omega] at hca
   have HCA:=Lib.hid hca
   have HFR1:=Lib.hid hfr1
   have hown1 : OwnI T (wo.setCell ⟨x.cb,sc,none⟩ (Z c)) (.slice oa j oc) L:=hown.kept (grownBy_setCell wo x.cb sc (Z c)) (.inr fun e => by have := (ownsRow_cells hown (r:=x.cb) e).1; have := ok.u2; omega)
   have HOWN1:=Lib.hid hown1
   have HBI1:=Lib.hid hbi1
   have HB:=ok.u2
   obtain ⟨tv,htv⟩ : ∃ tv,(f c s1).1 = tv:=⟨_,rfl⟩
   obtain ⟨s2,hs2⟩ : ∃ s,(f c s1).2 = s:=⟨_,rfl⟩
   rw [htv,hs2] at HCA HMP
   have hz1 : (wo.setCell ⟨x.cb,sc,none⟩ (Z c)).heap.size = wo.heap.size:=by simp [World.setCell]
   have HZ1:=Lib.hid hz1
   clear hbi hfr hFF hLj hL hs1 htk1 hown hc hcc hcm hmp hca hown1 hbi1 hfr1 htv hs2 hjp hz1
   go_wp2_with fail
   refine HCA.out.mono ?_
   clear HCA
   rintro e w3 ⟨rfl,d3,cur3,hbi3,hfr3,htk3⟩
   have hs3:=hfr3.bel.size
   rw [HZ1.out] at hs3
   have hown3 : OwnI T w3 (.slice oa j oc) L:=ownsRow_at HOWN1.out fun g hg => hfr3.keep g (ownsRow_lt HOWN1.out hg) (by have := (ownsRow_cells HOWN1.out hg).1; have := ok.u1; omega) (by have := (ownsRow_cells HOWN1.out hg).1; have := ok.u2; omega) (by have := (ownsRow_cells HOWN1.out hg).1; have := ok.u3; omega) (by have := (ownsRow_cells HOWN1.out hg).1; have := ok.u4; omega)
    (fun e => by rcases rowsT_ne HOWN1.out HBI1.out.nds.own.1 (by decide) with h1 | h1 <;> rw [hg] at h1; cases h1; exact h1 e.symm)
    (fun e => by rcases rowsT_ne HOWN1.out HBI1.out.lvs.own.1 (by decide) with h1 | h1 <;> rw [hg] at h1; cases h1; exact h1 e.symm)
   have HOWN3:=Lib.hid hown3
   have HOWN4 : Hid (OwnI T (w3.alloc (.cells #[.int .i64 tv] 3)) (.slice oa j oc) L):=Lib.hid (hown3.alloc _)
   have HBI3:=Lib.hid hbi3
   have HFR3:=Lib.hid (HFR1.out.trans hfr3)
   have hFF3 : ∀ g,(Value.slice oa j oc).ownBlock = some g -> ¬ d3.F1 g /\ ¬ d3.F2 g:=fun g hg => by
    have hlt:=ownsRow_lt HOWN1.out hg
    refine ⟨fun e => ?_,fun e => ?_⟩
    ·rcases hfr3.f1 g e with h1 | h1
     ·exact (HFF.out g hg).1 h1
     ·omega
    ·rcases hfr3.f2 g e with h1 | h1
     ·exact (HFF.out g hg).2 h1
     ·omega
   have HFF3:=Lib.hid hFF3
   have hT3 : T <= w3.heap.size:=by omega
   have hl1 : L.length + 1 <= 2 ^ 40:=by rw [HLJ.out]; omega
   have hle : L.length = j:=HLJ.out
   have HTK3:=Lib.hid (take_less htk3 HPRE.out)
   clear hbi3 hfr3 hown3 hFF3 htk3 hle
   go_wp2_with (at_builtin; refine wpList_append_I rfl (.tmp 40) (.tmp 45) rfl rfl rfl HOWN4.out ((Blk.new w3 #[.int .i64 tv] _).at rfl) hl1 (by simp; omega) ?_; intro g1 cap1 w5 hown5 hg5 hat5)
   have hbe : Below w3.heap.size w3 (w3.alloc (.cells #[.int .i64 tv] 3)):=(Below.refl _ _).alloc (Nat.le_refl _) _
   have hbi4:=HBI3.out.old hbe ok
   have hrow : ∀ g,(Value.slice oa j oc).ownBlock = some g -> x.T <= g /\ d3.nv.val.ownBlock ≠ some g /\ d3.lv.val.ownBlock ≠ some g /\ ¬ d3.F1 g /\ ¬ d3.F2 g:=fun g hg => by
    refine ⟨by have := (ownsRow_cells HOWN3.out hg).1; omega,fun e => ?_,fun e => ?_,(HFF3.out g hg).1,(HFF3.out g hg).2⟩
    ·rcases rowsT_ne HOWN3.out HBI3.out.nds.own.1 (by decide) with h1 | h1 <;> rw [hg] at h1
     ·cases h1
     ·exact h1 e.symm
    ·rcases rowsT_ne HOWN3.out HBI3.out.lvs.own.1 (by decide) with h1 | h1 <;> rw [hg] at h1
     ·cases h1
     ·exact h1 e.symm
   have hbi5:=hbi4.other ok hg5 hrow
   have hfr5:=(HFR3.out.trans (HBI3.out.fr_old ok hbe)).grown hg5 (fun g hg => by rw [HT.out]; exact (ownsRow_cells HOWN3.out hg).1) (by rw [HT.out]; exact hBT)
   have hFF5 : ∀ g,(Value.slice (some ⟨g1,0,none⟩) (L.length + 1) cap1).ownBlock = some g -> ¬ d3.F1 g /\ ¬ d3.F2 g:=fun g hg => by
    simp only [Value.ownBlock,Option.some.injEq] at hg
    subst hg
    rcases hat5 with e | e
    ·exact HFF3.out _ e
    ·refine ⟨fun h1 => ?_,fun h1 => ?_⟩
     ·have := (HBI3.out.nds.rng _ h1).2; simp at e; omega
     ·have := (HBI3.out.lvs.rng _ h1).2; simp at e; omega
   exact ⟨⟨j + 1,d3,cur3,by omega,by go_num,by rw [HMP.out]; exact hbi5,hfr5,HTK3.out,by rw [HMP.out]; exact hown5,hFF5⟩,by simp [intOf]; omega⟩
  ·obtain rfl : j = m:=by omega
   have htkp : p.take j = p:=List.take_of_length_le (by rw [HM.out]; exact Nat.le_refl _)
   have hmk:=HOK.out j
   have hmi:=HINT.out j (Nat.le_refl _)
   have hms:=HSZ.out j (Nat.le_refl _)
   rw [htkp] at hL hs1 hmi hms
   have HL:=Lib.hid hL
   have HS1:=Lib.hid hs1
   rw [hL] at hmi
   rw [hs1] at hms
   have hL0 : L ≠ []:=fun e => by rw [e] at hLj; simp at hLj; omega
   have hmi' : ∀ t ∈ (sc : Int) :: L,-(2 ^ 62) < t /\ t < 2 ^ 62:=fun t ht => by
    rcases List.mem_cons.1 ht with rfl | ht
    ·omega
    ·exact hmi t ht
   have HMI:=Lib.hid hmi'
   obtain ⟨g,oc',hov,hgT,hgl,_,_,_⟩:=hown.nonempty hL0
   rw [hLj] at hov
   simp only [Value.slice.injEq,true_and] at hov
   obtain ⟨rfl,rfl⟩:=hov
   have hz0 : wo.cell? ⟨g,0,none⟩ = some (.int .i64 (L.headD 0)):=by
    have := hown.at 0 (by omega)
    rw [this]
    cases L with
    | nil => exact absurd rfl hL0
    | cons a b => rfl
   have hcl:=dclone_any T _ L wo hown hL0 (by omega)
   have HCL:=Lib.hid hcl
   have hsn1 : s1.nds.length + 1 <= 2 ^ 38:=by omega
   have HL0:=Lib.hid hL0
   have hLl : L.length <= 2 ^ 20:=by omega
   clear hcl hmk hmi hms hL0 hbi hfr hFF hL hs1 htk1 hmi' htkp hown hLj
   go_wp2_with fail
   refine HCL.out.mono ?_
   clear HCL
   rintro e w4 ⟨v4,rfl,ho4,hb4⟩
   have hcm:=dcomp_any wo.heap.size v4 L w4 ho4 HL0.out (by omega)
   obtain ⟨g4,c4,hv4,_,_,_,_,_⟩:=ho4.nonempty HL0.out
   rw [hv4] at hcm ⊢
   have HCM:=Lib.hid hcm
   clear ho4 hcm hv4
   go_wp2_with fail
   refine HCM.out.mono ?_
   clear HCM
   rintro e w5 ⟨a5,c5',rfl,hb5⟩
   obtain ⟨q,hq⟩ : ∃ q,(Lib.compact L).length = q:=⟨_,rfl⟩
   have hq1:=compact_one HL0.out
   rw [hq] at hq1 ⊢
   have hb45 : Below wo.heap.size wo w5:=hb4.trans hb5
   have hz5:=(hb45.cell (p:=⟨g,0,none⟩) hgl).trans hz0
   have HBI5:=Lib.hid (HBI.out.old hb45 ok)
   have HFR5:=Lib.hid (HFR.out.trans (HBI.out.fr_old ok hb45))
   have HB45:=Lib.hid hb45
   have hs45:=hb45.size
   clear hb4 hb5 hb45 hq
   by_cases ha : alike L = true
   ·have hqq : ((q : Int) == 1) = true:=by rw [hq1.2 ha]; rfl
    have hsh : shut sc L s1 = (L.headD 0,s1):=by unfold shut; rw [if_pos ha]
    have HSH:=Lib.hid hsh
    obtain ⟨hv,hhv⟩ : ∃ hv,L.headD 0 = hv:=⟨_,rfl⟩
    rw [hhv] at hz5 HSH
    clear hsh hq1 ha hz0 hhv
    go_wp2_with fail
    go_ret
    rw [HL.out,HS1.out,HSH.out]
    exact ⟨rfl,d1,cur1,HBI5.out,HFR5.out,HTK1.out⟩
   ·have hqq : ((q : Int) == 1) = false:=by
     have : q ≠ 1:=fun e => ha (hq1.1 e)
     simp; omega
    have hsh : shut sc L s1 = addNode s1 sc L:=by unfold shut; rw [if_neg ha]
    have HSH:=Lib.hid hsh
    have htx : Calls Tryz.prog 110 #[.slice (some ⟨g,0,none⟩) j oc,.slice (some ⟨w5.heap.size,0,none⟩) 1 1] (w5.alloc (.cells #[.int .i64 (sc : Int)] 3)) fun e w' => e = .returned (S (keyD (sc,L))) /\ Below w5.heap.size (w5.alloc (.cells #[.int .i64 (sc : Int)] 3)) w':=by
     have q6:=Blk.new w5 #[.int .i64 (sc : Int)] 3
     have b6 : Below w5.heap.size w5 (w5.alloc (.cells #[.int .i64 (sc : Int)] 3)):=(Below.refl _ _).alloc (Nat.le_refl _) _
     have s6 : (w5.alloc (.cells #[.int .i64 (sc : Int)] 3)).heap.size = w5.heap.size + 1:=World.size_alloc ..
     obtain ⟨W6,hW6⟩ : ∃ W,w5.alloc (.cells #[.int .i64 (sc : Int)] 3) = W:=⟨_,rfl⟩
     rw [hW6] at q6 b6 s6 ⊢
     have hown6 : OwnI T W6 (.slice (some ⟨g,0,none⟩) j oc) L:=(HOWN.out.below HB45.out (Nat.le_refl _)).below b6 (Nat.le_refl _)
     have hmore : IntsX W6.heap.size W6 (.slice (some ⟨w5.heap.size,0,none⟩) 1 1) [(sc : Int)]:=RowsV.mk_cells (n:=1) (Nat.le_refl _) (by simp [maxLen]) (by omega) fun i hi jj hj => by
      have hi0 : i = 0:=by omega
      have hj0 : jj = 0:=by omega
      subst hi0; subst hj0
      exact q6.at rfl
     have ht:=dtext_any W6.heap.size _ _ L [(sc : Int)] W6 hown6.ints hmore HMI.out (by simp; omega) (Nat.le_refl _) ((HTAB.out.on (HFR5.out.bel.trans (b6.mono (by omega)))).up (by omega))
     refine ht.mono ?_
     rintro e w' ⟨rfl,hb⟩
     exact ⟨rfl,hb.mono (by omega)⟩
    have HTX:=Lib.hid htx
    have hkl : (keyD (sc,L)).length <= maxLen:=by
     have := keyL_len ((sc : Int) :: L) HMI.out
     rw [List.length_cons] at this
     unfold keyD maxLen; simp only; omega
    obtain ⟨key,hkey⟩ : ∃ key,keyD (sc,L) = key:=⟨_,rfl⟩
    rw [hkey] at HTX hkl
    have HKEY:=Lib.hid hkey
    clear htx hsh hq1 ha hz0 hkey hz5
    go_wp2_with fail
    refine HTX.out.mono ?_
    clear HTX
    rintro e w7 ⟨rfl,hb7⟩
    have hb57 : Below w5.heap.size w5 w7:=((Below.refl _ _).alloc (Nat.le_refl _) _).trans hb7
    have hb7w : Below wo.heap.size wo w7:=HB45.out.trans (hb57.mono hs45)
    have hbi7:=HBI.out.old hb7w ok
    have HBI7:=Lib.hid hbi7
    have HM:=Lib.hid hbi7.nmap
    have HFR7:=Lib.hid (HFR.out.trans (HBI.out.fr_old ok hb7w))
    have HOWN7 : Hid (OwnI T w7 (.slice (some ⟨g,0,none⟩) j oc) L):=Lib.hid (HOWN.out.below hb7w (Nat.le_refl _))
    have d7 : w7.cell? ⟨x.bb,7,none⟩ = some (.map (some x.nm)):=hbi7.blk.at rfl
    obtain ⟨na,nc,hnv,hnl,hnm⟩:=hbi7.nds.own.form
    have hzl : (List.zipWith ndRow s1.nds d1.ns).length = s1.nds.length:=by rw [List.length_zipWith,hbi7.nds.len,Nat.min_self]
    rw [hzl] at hnv hnl
    have HZL:=Lib.hid hzl
    have HNV:=Lib.hid hnv
    have d1' : w7.cell? ⟨x.bb,1,none⟩ = some (.slice na s1.nds.length nc):=by rw [<- hnv]; exact hbi7.blk.at rfl
    have hat:=nmF_at (l:=s1.nds) (a:=(sc,L))
    rw [HKEY.out] at hat
    have hs7:=hb7w.size
    clear hb7 hb57 hb7w hbi7 hnv hzl
    by_cases hi : s1.nds.idxOf (sc,L) < s1.nds.length
    ·rw [if_pos hi] at hat
     have hv1 : Hid ((fS (nmF s1.nds) (.string key)).getD (.int .i64 0) = Z (s1.nds.idxOf (sc,L))):=Lib.hid (by rw [fS_str,hat]; rfl)
     have hv2 : Hid ((fS (nmF s1.nds) (.string key)).isSome = true):=Lib.hid (by rw [fS_str,hat]; rfl)
     have hres : addNode s1 sc L = ((s1.nds.idxOf (sc,L) : Int),s1):=by unfold addNode; rw [if_pos hi]
     obtain ⟨ix,hix⟩ : ∃ ix,s1.nds.idxOf (sc,L) = ix:=⟨_,rfl⟩
     rw [hix] at hv1 hi hres
     have HRES:=Lib.hid hres
     clear hat hres hix d1'
     go_wp2_with (at_lookup; refine wpList_lookOk_M _ rfl _ _ 108 rfl _ keyS Tryz.underlying108 (Tryz.zeroValue3 _) rfl HM.out _ (.string key) rfl (keyOf_S key hkl) (Z ix) true hv1.out hv2.out ?_)
     go_ret
     rw [HL.out,HS1.out,HSH.out,HRES.out]
     exact ⟨rfl,d1,cur1,HBI7.out,HFR7.out,HTK1.out⟩
    ·rw [if_neg hi] at hat
     have hv1 : Hid ((fS (nmF s1.nds) (.string key)).getD (.int .i64 0) = .int .i64 0):=Lib.hid (by rw [fS_str,hat]; rfl)
     have hv2 : Hid ((fS (nmF s1.nds) (.string key)).isSome = false):=Lib.hid (by rw [fS_str,hat]; rfl)
     have hres : addNode s1 sc L = ((s1.nds.length : Int),⟨s1.nds ++ [(sc,L)],s1.lvs⟩):=by unfold addNode; rw [if_neg hi]
     have HSN:=Lib.hid (nmF_snoc (l:=s1.nds) (a:=(sc,L)) hi)
     obtain ⟨r,hr⟩ : ∃ r,s1.nds.length = r:=⟨_,rfl⟩
     rw [hr] at d1' hres hsn1 HNV HZL HSN HM hnl
     have hml : r < maxLen:=by unfold maxLen; omega
     have HRES:=Lib.hid hres
     have HRR:=Lib.hid hr
     clear hat hres hr hi
     go_upto_region 16 with (at_lookup; refine wpList_lookOk_M _ rfl _ _ 108 rfl _ keyS Tryz.underlying108 (Tryz.zeroValue3 _) rfl HM.out _ (.string key) rfl (keyOf_S key hkl) (.int .i64 0) false hv1.out hv2.out ?_)
     go_upto_region 17 with (at_mapUpdate; refine wpList_put_M _ rfl _ _ _ 108 rfl _ keyS Tryz.underlying108 rfl HM.out hml _ (.string key) rfl (keyOf_S key hkl) (Z r) rfl ?_; intro w8 hm8 hg8; rw [hv2.out,upd_S,<- HKEY.out,HSN.out] at hm8)
     have hbi8:=HBI7.out.putN ok (n':=s1.nds ++ [(sc,L)]) hg8 (by rw [List.length_append,HRR.out]; exact hm8)
     have HFR8:=Lib.hid (HFR7.out.trans (HBI7.out.fr_put ok (.inl rfl) hg8))
     have hs8:=hg8.size
     have HOWN8 : Hid (OwnI T w8 (.slice (some ⟨g,0,none⟩) j oc) L):=Lib.hid (OwnI.kept HOWN7.out hg8 (.inr fun e => by have := (ownsRow_cells HOWN7.out (r:=x.nm) e).1; have := ok.u3; omega))
     have hbe : Below w8.heap.size w8 (w8.alloc (.cells #[.int .i64 (sc : Int),.slice (some ⟨g,0,none⟩) j oc] 65)):=(Below.refl _ _).alloc (Nat.le_refl _) _
     have hbi9:=hbi8.old hbe ok
     have HFR9:=Lib.hid (HFR8.out.trans (hbi8.fr_old ok hbe))
     have HBI9:=Lib.hid hbi9
     have HOWN9 : Hid (OwnI T (w8.alloc (.cells #[.int .i64 (sc : Int),.slice (some ⟨g,0,none⟩) j oc] 65)) (.slice (some ⟨g,0,none⟩) j oc) L):=Lib.hid (HOWN8.out.below hbe (Nat.le_refl _))
     have e1 : w8.cell? ⟨x.bb,1,none⟩ = some (.slice na r nc):=by rw [<- HNV.out]; exact hbi8.blk.at rfl
     have HL9 : Hid (OwnR 2 65 x.T (w8.alloc (.cells #[.int .i64 (sc : Int),.slice (some ⟨g,0,none⟩) j oc] 65)) (.slice na r nc) (List.zipWith ndRow s1.nds d1.ns)):=Lib.hid (by rw [<- HNV.out]; exact hbi9.nds.own)
     have HROW1 : Hid (RowsOk 2 [[.int .i64 (sc : Int),.slice (some ⟨g,0,none⟩) j oc]]):=Lib.hid (RowsOk.one rfl fun u hu => by
      rcases List.mem_cons.1 hu with rfl | hu
      ·rfl
      ·rw [List.mem_singleton.1 hu]; rfl)
     have HRC : Hid (∀ (i : Nat) (r : List Value) (jj : Nat) (u : Value),([[.int .i64 (sc : Int),.slice (some ⟨g,0,none⟩) j oc]] : List (List Value))[i]? = some r -> r[jj]? = some u -> (w8.alloc (.cells #[.int .i64 (sc : Int),.slice (some ⟨g,0,none⟩) j oc] 65)).cell? ⟨w8.heap.size,0 + (i * 2 + jj),none⟩ = some u):=Lib.hid fun i r jj u h1 h2 => by
      have hi0 : i = 0:=by have := (List.getElem?_eq_some_iff.1 h1).1; simp at this; omega
      subst hi0
      cases h1
      have hj0 : jj < 2:=by have := (List.getElem?_eq_some_iff.1 h2).1; simp at this; omega
      have hq:=Blk.new w8 #[.int .i64 (sc : Int),.slice (some ⟨g,0,none⟩) j oc] 65
      match jj,hj0 with
      | 0,_ => cases h2; exact hq.at rfl
      | 1,_ => cases h2; exact hq.at rfl
     have hxT8 : x.T <= w8.heap.size:=by omega
     obtain ⟨RS,hRS⟩ : ∃ RS,List.zipWith ndRow s1.nds d1.ns = RS:=⟨_,rfl⟩
     rw [hRS] at HL9 HZL
     have HRS:=Lib.hid hRS
     clear hRS
     clear hbi8 hbe hbi9 hg8 hm8 d1' d7
     go_wp2_with (at_builtin; refine wpList_append_rows rfl (.tmp 88) (.tmp 92) 26 rfl Tryz.underlying26 infoNode (by kernel_rfl) (by decide) rfl HL9.out (b:=w8.heap.size) (off:=0) (m:=1) (cap:=1) (ms:=[[.int .i64 (sc : Int),.slice (some ⟨g,0,none⟩) j oc]]) rfl rfl HROW1.out HRC.out (by decide) (by rw [HZL.out]; unfold maxLen; omega) (by rw [HZL.out]; omega) (by simp; omega) ?_; intro g1 cap1 w9 hown9 hg9 hat9; have q9:=HBI9.out.blk.kept hg9 (fun e => by rw [<- HNV.out] at e; have := (HBI9.out.nlow e.symm).1; have := ok.u1; omega); have e22:=q9.at (i:=1) rfl; have f22:=q9.free 1)
     go_ret
     have hp:=HBI9.out.pushN ok HFR9.out (z:=(sc,L)) (u:=.slice (some ⟨g,0,none⟩) j oc) (G:=fun b => (Value.slice (some ⟨g,0,none⟩) j oc).ownBlock = some b) (ints_own HOWN9.out fun b h => h)
      (fun b hb => by simp only [Value.ownBlock,Option.some.injEq] at hb; subst hb; rw [HT.out]; exact hgT)
      (fun b hb => by
       simp only [Value.ownBlock,Option.some.injEq] at hb
       subst hb
       refine ⟨by omega,by simp; omega,fun e => ?_,fun e => ?_⟩
       ·rcases rowsT_ne HOWN.out HBI.out.nds.own.1 (by decide) with h1 | h1
        ·cases h1
        ·exact h1 e.symm
       ·rcases rowsT_ne HOWN.out HBI.out.lvs.own.1 (by decide) with h1 | h1
        ·cases h1
        ·exact h1 e.symm)
      (by rw [HNV.out]; exact hg9) (by rw [HRS.out]; exact hown9) (by rw [HNV.out]; rcases hat9 with e | e; exact .inl e; exact .inr e)
     rw [HL.out,HS1.out,HSH.out,HRES.out]
     exact ⟨rfl,_,cur1,hp.1,hp.2,HTK1.out⟩
def updB (d : Nat -> Bool) (j : Nat) : Nat -> Bool:=fun k => if k = j then true else d k
def updV (x : Nat -> Value) (j : Nat) (v : Value) : Nat -> Value:=fun k => if k = j then v else x k
theorem updB_self (d : Nat -> Bool) (j : Nat) : updB d j j = true:=by simp [updB]
theorem updB_ne (d : Nat -> Bool) {j k : Nat} (h : k ≠ j) : updB d j k = d k:=by simp [updB,h]
theorem updV_self (x : Nat -> Value) (j : Nat) (v : Value) : updV x j v j = v:=by simp [updV]
theorem updV_ne (x : Nat -> Value) {j k : Nat} (v : Value) (h : k ≠ j) : updV x j v k = x k:=by simp [updV,h]
theorem left_upd (d : Nat -> Bool) {j : Nat} (hd : d j = false) : ∀ (J : List Nat),J.Nodup -> (J.filter fun k => !(updB d j k)).length + (if j ∈ J then 1 else 0) = (J.filter fun k => !(d k)).length
 | [],_ => by simp
 | k :: J,h => by
  obtain ⟨h1,h2⟩:=List.nodup_cons.1 h
  have ih:=left_upd d hd J h2
  by_cases e : k = j
  ·subst e
   rw [if_neg h1] at ih
   rw [if_pos (List.mem_cons_self ..),List.filter_cons_of_neg (by simp [updB_self]),List.filter_cons_of_pos (by simp [hd]),List.length_cons,<- ih]
  ·have hm : (j ∈ k :: J) ↔ j ∈ J:=by simp [List.mem_cons,Ne.symm e]
   simp only [hm]
   by_cases hk : d k = true
   ·rw [List.filter_cons_of_neg (by simp [updB_ne d e,hk]),List.filter_cons_of_neg (by simp [hk])]; exact ih
   ·rw [List.filter_cons_of_pos (by simp [updB_ne d e]; simpa using hk),List.filter_cons_of_pos (by simpa using hk),List.length_cons,List.length_cons,<- ih]; omega
section
variable {P : Program} {ops : Array Oper} {Q : Exit -> Act -> World -> Prop} {md : Region.Mode} {S : World -> Prop} {D : List Nat}
theorem wpAnyD_free {J : List Nat} (hJ : J.Nodup) (lst : (Nat -> Bool) -> Array Bool) (A : (Nat -> Value) -> Act) (Inv : (Nat -> Bool) -> (Nat -> Value) -> World -> Prop) {fuel0 : Nat}
  (hset : ∀ d,∀ j ∈ J,(lst d).setIfInBounds j true = lst (updB d j))
  (hready : ∀ d,(∃ j ∈ J,d j = false) -> Region.ready md ops (lst d) ≠ [] /\ ∀ i ∈ Region.ready md ops (lst d),i ∈ J /\ d i = false)
  (htrans : ∀ d x w,Inv d x w -> ∀ j ∈ J,d j = false -> j ∈ Region.ready md ops (lst d) -> ∃ o,ops[j]? = some o /\ Region.wanted o (yielded ops (A x).tmps) = true /\ o.wp P (A x) w (fun a' w' => (j ∉ D -> S w') /\ ∃ v,a' = A (updV x j v) /\ Inv (updB d j) (updV x j v) w') Q)
  (hfin : ∀ d x w,Inv d x w -> (∀ j ∈ J,d j = true) -> wpAnyD P md ops Q S D fuel0 (lst d) (A x) w) :
  ∀ (n : Nat) (d : Nat -> Bool) (x : Nat -> Value) (w : World),Inv d x w -> (J.filter fun k => !(d k)).length = n -> wpAnyD P md ops Q S D (fuel0 + n) (lst d) (A x) w
 | 0,d,x,w,hI,hn => hfin d x w hI fun j hj => by
  have h0:=List.eq_nil_of_length_eq_zero hn
  cases hd : d j with
  | true => rfl
  | false => exact absurd (show j ∈ J.filter fun k => !(d k) from List.mem_filter.2 ⟨hj,by simp [hd]⟩) (by rw [h0]; exact List.not_mem_nil)
 | n + 1,d,x,w,hI,hn => by
  have hex : ∃ j ∈ J,d j = false:=by
   obtain ⟨j,hj⟩:=List.exists_mem_of_length_pos (l:=J.filter fun k => !(d k)) (by omega)
   obtain ⟨h1,h2⟩:=List.mem_filter.1 hj
   exact ⟨j,h1,by simpa using h2⟩
  obtain ⟨hr1,hr2⟩:=hready d hex
  refine ⟨fun h => absurd h hr1,fun i hi => ?_⟩
  obtain ⟨hiJ,hid⟩:=hr2 i hi
  obtain ⟨o,ho,hw,hwp⟩:=htrans d x w hI i hiJ hid hi
  refine wpOp_mono (fun a' w' h => ?_) (wpOp_of ho hw hwp)
  obtain ⟨hS,v,rfl,hI'⟩:=h
  refine ⟨hS,?_⟩
  rw [hset d i hiJ]
  refine wpAnyD_free hJ lst A Inv hset hready htrans hfin n (updB d i) _ w' hI' ?_
  have := left_upd d hid J hJ
  rw [if_pos hiJ] at this
  omega
theorem wpAnyD_free' {J : List Nat} (hJ : J.Nodup) (lst : (Nat -> Bool) -> Array Bool) (A : (Nat -> Value) -> Act) (Inv : (Nat -> Bool) -> (Nat -> Value) -> World -> Prop) {fuel0 F : Nat} {L : Array Bool} {a : Act} {w : World}
  (hL : L = lst fun _ => false) (ha : a = A fun _ => undef) (hF : F = fuel0 + J.length) (h0 : Inv (fun _ => false) (fun _ => undef) w)
  (hset : ∀ d,∀ j ∈ J,(lst d).setIfInBounds j true = lst (updB d j))
  (hready : ∀ d,(∃ j ∈ J,d j = false) -> Region.ready md ops (lst d) ≠ [] /\ ∀ i ∈ Region.ready md ops (lst d),i ∈ J /\ d i = false)
  (htrans : ∀ d x w,Inv d x w -> ∀ j ∈ J,d j = false -> j ∈ Region.ready md ops (lst d) -> ∃ o,ops[j]? = some o /\ Region.wanted o (yielded ops (A x).tmps) = true /\ o.wp P (A x) w (fun a' w' => (j ∉ D -> S w') /\ ∃ v,a' = A (updV x j v) /\ Inv (updB d j) (updV x j v) w') Q)
  (hfin : ∀ d x w,Inv d x w -> (∀ j ∈ J,d j = true) -> wpAnyD P md ops Q S D fuel0 (lst d) (A x) w) : wpAnyD P md ops Q S D F L a w:=by
 subst hL ha hF
 exact wpAnyD_free hJ lst A Inv hset hready htrans hfin _ _ _ w h0 (by
  congr 1
  exact List.filter_eq_self.2 fun _ _ => rfl)
end
theorem dtarget_any (x : Bn) (ok : BnOk x) (scs : List Sc) (es : List Gx) (hP : ∀ p ∈ pcs scs,p.Nodup /\ p ≠ []) (hsn : x.sv.n <= 2 ^ 20) (hes : es.length <= 2 ^ 20) : ∀ (Q : List (List Nat)),(∀ p ∈ Q,p.length <= 2 ^ 20) -> TgtC x scs es Q
 | [],_ => dtarget_nil x ok scs es hes hsn
 | p :: Q,h => dtarget_cons x ok scs es hP p Q (dtarget_any x ok scs es hP hsn hes Q fun q hq => h q (List.mem_cons_of_mem _ hq)) hsn (h p (List.mem_cons_self ..))
theorem NO.zed {base : Nat} {w : World} {v : Value} {L : List (List Nat)} {vs : List Value} {F : Nat -> Prop} (h : NO base w v L vs F) :
  Zed (Btw base w.heap.size) w fun K W => RowsV 1 (fun i _ => vs[i]?.getD undef) K W v L.length /\ ∀ i,i < L.length -> Nats K W (vs[i]?.getD undef) (L[i]?.getD []):=by
 intro W K ha hK
 constructor
 ·have := OwnR.zed h.own (F:=Btw base w.heap.size) (fun b hb => ⟨h.own.low hb,h.own.lt hb⟩) W K ha hK
  rw [List.length_zipWith,h.len,Nat.min_self] at this
  refine this.congr fun i hi j hj => ?_
  obtain rfl : j = 0:=by omega
  have hv : vs[i]? = some (vs[i]'(by rw [h.len]; exact hi)):=List.getElem?_eq_getElem _
  rw [zip_at (row:=fun _ u => [u]) (List.getElem?_eq_getElem hi) hv,hv]
  rfl
 ·intro i hi
  have hv : vs[i]? = some (vs[i]'(by rw [h.len]; exact hi)):=List.getElem?_eq_getElem _
  have := ((h.dat i _ _ (List.getElem?_eq_getElem hi) hv).mono fun b hb => (⟨(h.rng b hb).1,(h.rng b hb).2⟩ : Btw base w.heap.size b)) W K ha hK
  rw [hv,List.getElem?_eq_getElem hi]
  exact this
structure NewB (scs : List Sc) (n K0 : Nat) (W0 : World) (d : Nat -> Bool) (x : Nat -> Value) (bk : Nat -> Nat) (lo hi : Nat) (gv : Nat -> Value) (w : World) : Prop where
 bel : Below K0 W0 w
 rng : ∀ j,(j = 6 \/ j = 7 \/ j = 8 \/ j = 10) -> d j = true -> K0 <= bk j /\ bk j < w.heap.size
 dis : ∀ i j,(i = 6 \/ i = 7 \/ i = 8 \/ i = 10) -> (j = 6 \/ j = 7 \/ j = 8 \/ j = 10) -> i ≠ j -> d i = true -> d j = true -> bk i ≠ bk j
 out : d 3 = true -> K0 <= lo /\ lo <= hi /\ hi <= w.heap.size /\ ∀ j,(j = 6 \/ j = 7 \/ j = 8 \/ j = 10) -> d j = true -> bk j < lo \/ hi <= bk j
 c3 : d 3 = true -> (∃ a c,x 3 = .slice a n c) /\ Zed (Btw lo hi) w fun K W => RowsV 1 (fun i _ => gv i) K W (x 3) n /\ ∀ i,i < n -> Nats K W (gv i) ((pcs scs)[i]?.getD [])
 c6 : d 6 = true -> x 6 = .slice (some ⟨bk 6,0,none⟩) n n /\ Blk w (bk 6) (arrD n fun _ => .int .i64 0) 3
 c7 : d 7 = true -> x 7 = .map (some (bk 7)) /\ MapIs w 9 (bk 7) 0 (fun _ => none)
 c8 : d 8 = true -> x 8 = .map (some (bk 8)) /\ MapIs w 9 (bk 8) 0 (fun _ => none)
 c10 : d 10 = true -> x 10 = .pointer (some ⟨bk 10,0,none⟩) /\ Blk w (bk 10) #[.slice none 0 0,.slice none 0 0,.slice none 0 0,.int .i64 0,.slice none 0 0,.slice none 0 0,.slice none 0 0,.map none,.map none] 111
def updN (d : Nat -> Nat) (j b : Nat) : Nat -> Nat:=fun k => if k = j then b else d k
section
variable {scs : List Sc} {n K0 : Nat} {W0 : World} {d : Nat -> Bool} {x : Nat -> Value} {bk : Nat -> Nat} {lo hi : Nat} {gv : Nat -> Value} {w w' : World}
theorem NewB.add (h : NewB scs n K0 W0 d x bk lo hi gv w) (hK : K0 <= w.heap.size) {j : Nat} (hj : j = 6 \/ j = 7 \/ j = 8 \/ j = 10) (v : Value) (o : Obj)
  (h6 : j = 6 -> v = .slice (some ⟨w.heap.size,0,none⟩) n n /\ o = .cells (arrD n fun _ => .int .i64 0) 3)
  (h7 : j = 7 -> v = .map (some w.heap.size) /\ o = .map #[] 0) (h8 : j = 8 -> v = .map (some w.heap.size) /\ o = .map #[] 0)
  (h10 : j = 10 -> v = .pointer (some ⟨w.heap.size,0,none⟩) /\ o = .cells #[.slice none 0 0,.slice none 0 0,.slice none 0 0,.int .i64 0,.slice none 0 0,.slice none 0 0,.slice none 0 0,.map none,.map none] 111) :
  NewB scs n K0 W0 (updB d j) (updV x j v) (updN bk j w.heap.size) lo hi gv (w.alloc o):=by
 have hb : Below w.heap.size w (w.alloc o):=(Below.refl _ _).alloc (Nat.le_refl _) _
 have hs : (w.alloc o).heap.size = w.heap.size + 1:=World.size_alloc ..
 have hd : ∀ k,k ≠ j -> updB d j k = d k:=fun k hk => updB_ne d hk
 have hx : ∀ k,k ≠ j -> updV x j v k = x k:=fun k hk => updV_ne x v hk
 have hn : ∀ k,k ≠ j -> updN bk j w.heap.size k = bk k:=fun k hk => by simp [updN,hk]
 have hnj : updN bk j w.heap.size j = w.heap.size:=by simp [updN]
 have hxj : updV x j v j = v:=updV_self ..
 have h3j : (3 : Nat) ≠ j:=by omega
 refine ⟨h.bel.trans (hb.mono hK),fun k hk hdk => ?_,fun i k hi hk hne hdi hdk => ?_,fun hd3 => ?_,fun hd3 => ?_,fun hdk => ?_,fun hdk => ?_,fun hdk => ?_,fun hdk => ?_⟩
 ·by_cases e : k = j
  ·subst e; rw [hnj]; omega
  ·rw [hn k e]; rw [hd k e] at hdk
   have := h.rng k hk hdk; omega
 ·by_cases ei : i = j
  ·have ek : k ≠ j:=fun e => hne (by omega)
   rw [ei,hnj,hn k ek]
   rw [hd k ek] at hdk
   have := (h.rng k hk hdk).2; omega
  ·by_cases ek : k = j
   ·rw [ek,hnj,hn i ei]
    rw [hd i ei] at hdi
    have := (h.rng i hi hdi).2; omega
   ·rw [hn i ei,hn k ek]
    rw [hd i ei] at hdi
    rw [hd k ek] at hdk
    exact h.dis i k hi hk hne hdi hdk
 ·rw [hd 3 h3j] at hd3
  obtain ⟨g1,g2,g3,g4⟩:=h.out hd3
  refine ⟨g1,g2,by omega,fun k hk hdk => ?_⟩
  by_cases e : k = j
  ·rw [e,hnj]; exact .inr g3
  ·rw [hn k e]; rw [hd k e] at hdk; exact g4 k hk hdk
 ·rw [hd 3 h3j] at hd3
  rw [hx 3 h3j]
  obtain ⟨g1,g2⟩:=h.c3 hd3
  exact ⟨g1,g2.move (agr_below hb fun b hb => by have := hb.2; have := (h.out hd3).2.2.1; omega)⟩
 ·by_cases e : 6 = j
  ·subst e
   obtain ⟨e1,e2⟩:=h6 rfl
   rw [hxj,hnj,e1,e2]
   exact ⟨rfl,Blk.new w _ _⟩
  ·rw [hx 6 e,hn 6 e]; rw [hd 6 e] at hdk
   exact ⟨(h.c6 hdk).1,(h.c6 hdk).2.alloc _⟩
 ·by_cases e : 7 = j
  ·subst e
   obtain ⟨e1,e2⟩:=h7 rfl
   rw [hxj,hnj,e1,e2]
   exact ⟨rfl,MapIs.made w _⟩
  ·rw [hx 7 e,hn 7 e]; rw [hd 7 e] at hdk
   exact ⟨(h.c7 hdk).1,(h.c7 hdk).2.alloc _⟩
 ·by_cases e : 8 = j
  ·subst e
   obtain ⟨e1,e2⟩:=h8 rfl
   rw [hxj,hnj,e1,e2]
   exact ⟨rfl,MapIs.made w _⟩
  ·rw [hx 8 e,hn 8 e]; rw [hd 8 e] at hdk
   exact ⟨(h.c8 hdk).1,(h.c8 hdk).2.alloc _⟩
 ·by_cases e : 10 = j
  ·subst e
   obtain ⟨e1,e2⟩:=h10 rfl
   rw [hxj,hnj,e1,e2]
   exact ⟨rfl,Blk.new w _ _⟩
  ·rw [hx 10 e,hn 10 e]; rw [hd 10 e] at hdk
   exact ⟨(h.c10 hdk).1,(h.c10 hdk).2.alloc _⟩
theorem NewB.poss (h : NewB scs n K0 W0 d x bk lo hi gv w) (hK : K0 <= w.heap.size) {v : Value} {gv' : Nat -> Value} (hv : ∃ a c,v = .slice a n c) (hb : Below w.heap.size w w')
  (hz : Zed (Btw w.heap.size w'.heap.size) w' fun K W => RowsV 1 (fun i _ => gv' i) K W v n /\ ∀ i,i < n -> Nats K W (gv' i) ((pcs scs)[i]?.getD [])) : NewB scs n K0 W0 (updB d 3) (updV x 3 v) bk w.heap.size w'.heap.size gv' w':=by
 have hs:=hb.size
 have hd : ∀ k,k ≠ 3 -> updB d 3 k = d k:=fun k hk => updB_ne d hk
 have hx : ∀ k,k ≠ 3 -> updV x 3 v k = x k:=fun k hk => updV_ne x v hk
 have hlt : ∀ k,(k = 6 \/ k = 7 \/ k = 8 \/ k = 10) -> updB d 3 k = true -> K0 <= bk k /\ bk k < w.heap.size:=fun k hk hdk => by
  rw [hd k (by omega)] at hdk; exact h.rng k hk hdk
 refine ⟨h.bel.trans (hb.mono hK),fun k hk hdk => by have := hlt k hk hdk; omega,fun i k hi hk hne hdi hdk => ?_,fun _ => ⟨hK,hs,Nat.le_refl _,fun k hk hdk => .inl (hlt k hk hdk).2⟩,fun _ => by rw [updV_self]; exact ⟨hv,hz⟩,fun hdk => ?_,fun hdk => ?_,fun hdk => ?_,fun hdk => ?_⟩
 ·rw [hd i (by omega)] at hdi
  rw [hd k (by omega)] at hdk
  exact h.dis i k hi hk hne hdi hdk
 ·have := (hlt 6 (by omega) hdk).2
  rw [hd 6 (by omega)] at hdk
  rw [hx 6 (by omega)]
  exact ⟨(h.c6 hdk).1,(h.c6 hdk).2.below hb this⟩
 ·have := (hlt 7 (by omega) hdk).2
  rw [hd 7 (by omega)] at hdk
  rw [hx 7 (by omega)]
  exact ⟨(h.c7 hdk).1,(h.c7 hdk).2.below hb this⟩
 ·have := (hlt 8 (by omega) hdk).2
  rw [hd 8 (by omega)] at hdk
  rw [hx 8 (by omega)]
  exact ⟨(h.c8 hdk).1,(h.c8 hdk).2.below hb this⟩
 ·have := (hlt 10 (by omega) hdk).2
  rw [hd 10 (by omega)] at hdk
  rw [hx 10 (by omega)]
  exact ⟨(h.c10 hdk).1,(h.c10 hdk).2.below hb this⟩
end
theorem NewB.nine {scs : List Sc} {n K0 : Nat} {W0 : World} {d : Nat -> Bool} {x : Nat -> Value} {bk : Nat -> Nat} {lo hi : Nat} {gv : Nat -> Value} {w : World} (h : NewB scs n K0 W0 d x bk lo hi gv w) (v : Value) : NewB scs n K0 W0 (updB d 9) (updV x 9 v) bk lo hi gv w where
 bel:=h.bel
 rng:=fun j hj hd => h.rng j hj (by rwa [updB_ne d (by omega)] at hd)
 dis:=fun i j hi hj hne h1 h2 => h.dis i j hi hj hne (by rwa [updB_ne d (by omega)] at h1) (by rwa [updB_ne d (by omega)] at h2)
 out:=fun h3 => by
  rw [updB_ne d (by omega)] at h3
  obtain ⟨g1,g2,g3,g4⟩:=h.out h3
  exact ⟨g1,g2,g3,fun j hj hd => g4 j hj (by rwa [updB_ne d (by omega)] at hd)⟩
 c3:=fun h3 => by rw [updB_ne d (by omega)] at h3; rw [updV_ne x v (by omega)]; exact h.c3 h3
 c6:=fun h3 => by rw [updB_ne d (by omega)] at h3; rw [updV_ne x v (by omega)]; exact h.c6 h3
 c7:=fun h3 => by rw [updB_ne d (by omega)] at h3; rw [updV_ne x v (by omega)]; exact h.c7 h3
 c8:=fun h3 => by rw [updB_ne d (by omega)] at h3; rw [updV_ne x v (by omega)]; exact h.c8 h3
 c10:=fun h3 => by rw [updB_ne d (by omega)] at h3; rw [updV_ne x v (by omega)]; exact h.c10 h3
structure CdOk (scs : List Sc) (es : List Gx) (T k : Nat) (ca : Option Addr) (cm : Nat) (vs : List Value) (w : World) : Prop where
 own : OwnR 1 113 T w (.slice ca k cm) (vs.map fun u => [u])
 len : vs.length = k
 dat : ∀ i,i < k -> Zed (Frz T w.heap.size (.slice ca k cm)) w (CondR (CellsIn (pcs scs)) (fun cs => evG scs cs (es[i]?.getD default)) (vs[i]?.getD undef))
abbrev bldC (sa : Option Addr) (n sm : Nat) (cv : Value) (pa : Option Addr) (pc cb nm lm : Nat) : Array Value:=#[.slice sa n sm,.slice none 0 0,.slice none 0 0,.int .i64 0,cv,.slice pa n pc,.slice (some ⟨cb,0,none⟩) n n,.map (some nm),.map (some lm)]
theorem wp_store_blkD {op : Oper} {a : Act} {w : World} {K : Act -> World -> Prop} {Q : Exit -> Act -> World -> Prop} (ty t : TypeId) (x y : Operand) (ho : op.op = .store ty x y) (cs old : Array Value) (b : Nat)
  (hq : Blk w b old t) (hi : (Tryz.prog.info? ty).map (fun i => i.size) = some cs.size) (hsz : old.size = cs.size) (h1 : ∀ v ∈ cs,v.oneCell' = true)
  (hx : a.eval x = .pointer (some ⟨b,0,none⟩)) (hy : a.eval y = .agg cs)
  (h : ∀ W',Blk W' b cs t -> (∀ B,B <= b -> Below B w W') -> w.grownBy W' (some b) -> W'.heap.size = w.heap.size -> K (a.put op.dst undef) W') : op.wp Tryz.prog a w K Q:=by
 have hs : (w.setRow b cs).heap.size = w.heap.size:=by simp [World.setRow]
 refine wp_store_row ty x y ho b cs hx hy t old hq hi hsz (by rw [Array.all_eq_true_iff_forall_mem]; exact h1) ?_
 exact h _ (setRow_heap w b old cs t _ hq) (fun B hB => ⟨rfl,rfl,rfl,Nat.le_of_eq hs.symm,fun k hk => setRow_other w b k cs (by omega)⟩) ⟨rfl,rfl,rfl,Nat.le_of_eq hs.symm,fun k _ hk => setRow_other w b k cs (fun e => hk (by rw [e]))⟩ hs
theorem infoBuildN : (Tryz.prog.info? 111).map (fun i => i.size) = some 9:=by kernel_rfl
theorem prodL_append : ∀ (P Q : List (List Nat)),prodL (P ++ Q) = prodL P * prodL Q
 | [],Q => by show _ = 1 * _; rw [Nat.one_mul]; rfl
 | p :: P,Q => by show p.length * prodL (P ++ Q) = p.length * prodL P * prodL Q; rw [prodL_append P Q,Nat.mul_assoc]
theorem prodL_take {P : List (List Nat)} (h : ∀ p ∈ P,p ≠ []) (i : Nat) : prodL (P.take i) <= prodL P:=by
 have h1:=prodL_append (P.take i) (P.drop i)
 rw [List.take_append_drop] at h1
 have h2:=prodL_pos (P:=P.drop i) fun p hp => h p (List.mem_of_mem_drop hp)
 rw [h1]
 exact Nat.le_mul_of_pos_right _ h2
theorem prodL_snoc (P : List (List Nat)) (p : List Nat) : prodL (P ++ [p]) = prodL P * p.length:=by rw [prodL_append]; show _ * (p.length * 1) = _; rw [Nat.mul_one]
theorem MapIs.same {w w' : World} {k : TypeId} {b m : Nat} {f : Lit -> Option Value} (h : MapIs w k b m f) (e : w'.heap[b]? = w.heap[b]?) : MapIs w' k b m f:=by
 obtain ⟨D,⟨es,clock,hh,rest⟩,h2⟩:=h; exact ⟨D,⟨es,clock,e.trans hh,rest⟩,h2⟩
theorem nmF_nil : (fun _ => none : Lit -> Option Value) = fS (nmF []):=by
 funext x; cases x <;> simp [fS,nmF,atKey]
theorem lmF_nil : (fun _ => none : Lit -> Option Value) = fS (lmF []):=by
 funext x; cases x <;> simp [fS,lmF,atKey]
theorem arr_zero (n : Nat) : arrD n (fun _ => .int .i64 0) = ((List.replicate n 0).map Z).toArray:=by
 unfold arrD
 congr 1
 rw [List.map_replicate]
 apply List.ext_getElem?
 intro i
 rw [List.getElem?_map]
 by_cases h : i < n
 ·rw [List.getElem?_range h,List.getElem?_replicate,if_pos h]; rfl
 ·rw [List.getElem?_eq_none (by simpa using h),List.getElem?_eq_none (by simpa using h)]; rfl
theorem prodL_mem {P : List (List Nat)} (h : ∀ p ∈ P,p ≠ []) {p : List Nat} (hp : p ∈ P) : p.length <= prodL P:=by
 obtain ⟨i,hi,rfl⟩:=List.getElem_of_mem hp
 have h1:=prodL_take h (i + 1)
 rw [take_snoc (List.getElem?_eq_getElem hi),prodL_snoc] at h1
 have h2:=prodL_pos (P:=P.take i) fun p hp => h p (List.mem_of_mem_take hp)
 exact Nat.le_trans (Nat.le_mul_of_pos_left _ h2) h1
theorem make_intsD (n : Nat) (hn : n <= 2 ^ 38) (w : World) : (Instr.makeSlice 56 (.int .i64 n) (.int .i64 n)).run Tryz.prog w = .ok (.slice (some ⟨w.heap.size,0,none⟩) n n) (w.alloc (.cells (arrD n fun _ => .int .i64 0) 3)):=by
 obtain ⟨i0,hi,hz0,hz1,hz2⟩:=info_parts infoIntD
 have h:=run_make (P:=Tryz.prog) w 56 3 i0 _ Tryz.underlying56 hi hz0 .i64 .i64 n n (by omega) (Int.le_refl _) (by rw [hz2]; omega) (by omega)
 rw [hz1,Int.toNat_natCast] at h
 rw [h]
 have := made_oneD (.int .i64 0) n
 simp only [Value.cells] at this ⊢
 rw [this]
end Go.Proofs.YtlidpghnlloinaaGreatDoor
