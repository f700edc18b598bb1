/- Contracts and plain laws, several texts in one (DlFits, DlConds, DlDecS). No conditions beyond those stated. -/
import Derived.Test.YtlidpghnlloinaaGreatDoorPk30
set_option maxRecDepth 100000
set_option maxHeartbeats 40000000
namespace Go.Proofs.YtlidpghnlloinaaGreatDoor
open Go.RowKit
set_option linter.unusedVariables false
def prM (m n : List Nat) : List Gx:=[(madeM 6 (m.take 20)).1,(madeM 6 (n.take 20)).1]
theorem made_fits2 (l : List Nat) (hl : l.length <= 30) : fits (madeM 6 l).1 = true:=by
 have h1:=madeM_size 6 l
 have h2:=madeM_depth 6 l
 unfold fits
 simp only [Bool.and_eq_true,decide_eq_true_eq]
 exact ⟨by omega,by omega⟩
theorem take20 (l : List Nat) : (l.take 20).length <= 20:=by rw [List.length_take]; omega
theorem prM_md {m n : List Nat} : ∀ e ∈ prM m n,Md e /\ fits e = true:=by
 intro e he
 simp only [prM,List.mem_cons,List.not_mem_nil,or_false] at he
 rcases he with rfl | rfl
 ·exact ⟨madeM_md 6 _,made_fits2 _ (by have := take20 m; omega)⟩
 ·exact ⟨madeM_md 6 _,made_fits2 _ (by have := take20 n; omega)⟩
theorem pr_ok (m n : List Nat) : ∃ l,scalesS (prM m n) = (l,0) /\ LM l /\ Full l /\ ∀ e ∈ prM m n,∀ t ∈ e.tests,Has l (testOf t):=scales_M (fun e he => (prM_md e he).1) (fun e he => (prM_md e he).2)
theorem sc_good {l : List Sc} (h : LM l) (hf : Full l) : ScGood l:=fun s hs => ⟨fun c hc => (half_M (h.each s hs) c hc).2,Nat.le_trans (okB_len (okB_M (h.each s hs) (hf s hs))) (by decide)⟩
theorem U8s.take20 {K : Nat} {w : World} {a : Option Addr} {cap : Nat} {l : List Nat} (h : U8s K w (.slice a l.length cap) l) (k : Nat) (hk : min l.length 20 = k) : U8s K w (.slice a k cap) (l.take 20):=by
 have hlen : (l.take 20).length = k:=by rw [List.length_take]; omega
 obtain ⟨a',cap',he,h1,h2,h3,h4⟩:=h
 simp only [Value.slice.injEq,true_and] at he
 obtain ⟨rfl,rfl⟩:=he
 unfold U8s
 rw [hlen]
 refine ⟨a,cap,rfl,by omega,h2,h3,fun i hi => ?_⟩
 obtain ⟨b,o,e,hb,hc⟩:=h4 i (by omega)
 refine ⟨b,o,e,hb,fun j hj => ?_⟩
 rw [hc j hj]
 show some (Value.int .u8 ((l[i]?.getD 0 : Nat) : Int)) = some (Value.int .u8 (((l.take 20)[i]?.getD 0 : Nat) : Int))
 rw [List.getElem?_take,if_pos (by omega)]
def fitP (m n : List Nat) : Bool:=decide (regL ((pcs (scalesS (prM m n)).1).map (·.length)) 1 <= 300)
theorem dlfits_any (K : Nat) (m : List Nat) (mv : Value) (n : List Nat) (nv : Value) (w : World) (hm : U8s K w mv m) (hxm : ∀ y ∈ m,y < 256) (hn : U8s K w nv n) (hxn : ∀ y ∈ n,y < 256) (hK : K <= w.heap.size) :
  Calls Tryz.prog 23 #[mv,nv] w fun e w' => e = .returned (.bool (fitP m n)) /\ Below w.heap.size w w':=by
 obtain ⟨ma,mc,rfl,hmc,hmm⟩:=id (RowsV.form hm)
 obtain ⟨na,nc,rfl,hnc,hnm⟩:=id (RowsV.form hn)
 unfold maxLen at hmm hnm
 obtain ⟨mk,hmk⟩ : ∃ k,min m.length 20 = k:=⟨_,rfl⟩
 obtain ⟨nk,hnk⟩ : ∃ k,min n.length 20 = k:=⟨_,rfl⟩
 have hm2:=hm.take20 mk hmk
 have hn2:=hn.take20 nk hnk
 obtain ⟨ls,hls,hLM,hLF,_⟩:=pr_ok m n
 have hda : ∀ a ∈ prM m n,a.good = true:=fun a ha => md_good (prM_md a ha).1
 unfold fitP
 rw [hls]
 obtain ⟨z,hz⟩ : ∃ z,regL ((pcs ls).map (·.length)) 1 = z:=⟨_,rfl⟩
 have HZ:=Lib.hid hz
 dsimp only
 rw [hz]
 unfold prM at hls hda
 have hxm2 : ∀ y ∈ m.take 20,y < 256:=fun y hy => hxm y (List.mem_of_mem_take hy)
 have hxn2 : ∀ y ∈ n.take 20,y < 256:=fun y hy => hxn y (List.mem_of_mem_take hy)
 have hma : ∀ W,Below w.heap.size w W -> Calls Tryz.prog 57 #[.slice ma mk mc] W fun e w' => ∃ X : Xv,e = .returned X.agg /\ ExN W.heap.size w' (madeM 6 (m.take 20)).1 X /\ Below W.heap.size W w':=fun W hb => gMade_any K _ _ W (hm2.below hb hK (Nat.le_refl _)) hxm2 (by have := hb.size; omega) (by have := take20 m; omega)
 have hna : ∀ W,Below w.heap.size w W -> Calls Tryz.prog 57 #[.slice na nk nc] W fun e w' => ∃ X : Xv,e = .returned X.agg /\ ExN W.heap.size w' (madeM 6 (n.take 20)).1 X /\ Below W.heap.size W w':=fun W hb => gMade_any K _ _ W (hn2.below hb hK (Nat.le_refl _)) hxn2 (by have := hb.size; omega) (by have := take20 n; omega)
 obtain ⟨ea,hea⟩ : ∃ e,(madeM 6 (m.take 20)).1 = e:=⟨_,rfl⟩
 obtain ⟨eb,heb⟩ : ∃ e,(madeM 6 (n.take 20)).1 = e:=⟨_,rfl⟩
 simp only [hea,heb] at hma hna hls hda
 obtain ⟨ml,hmle⟩ : ∃ k,m.length = k:=⟨_,rfl⟩
 obtain ⟨nle,hnle⟩ : ∃ k,n.length = k:=⟨_,rfl⟩
 rw [hmle] at hmc hmk ⊢
 rw [hnle] at hnc hnk ⊢
 have hmkc : mk <= mc:=by omega
 have hnkc : nk <= nc:=by omega
 have hm20 : (if (20 : Int) < (ml : Int) then (20 : Int) else (ml : Int)) = (mk : Int):=by split <;> omega
 have hn20 : (if (20 : Int) < (nle : Int) then (20 : Int) else (nle : Int)) = (nk : Int):=by split <;> omega
 have HMK:=Lib.hid hm20
 have HNK:=Lib.hid hn20
 have HMK2 : Hid (min (ml : Int) 20 = (mk : Int)):=Lib.hid (by omega)
 have HNK2 : Hid (min (nle : Int) 20 = (nk : Int)):=Lib.hid (by omega)
 have HMA:=Lib.hid hma
 have HNA:=Lib.hid hna
 have HLS:=Lib.hid hls
 have HDA:=Lib.hid hda
 have HLM:=Lib.hid hLM
 have HLF:=Lib.hid hLF
 clear hm hn hm2 hn2 hxm hxn hxm2 hxn2 hmle hnle hma hna hea heb hls hda hLM hLF hmk hnk hm20 hn20 hz
 obtain ⟨B,hB⟩ : ∃ B,w.heap.size = B:=⟨_,rfl⟩
 rw [hB] at hK HMA HNA ⊢
 have HB:=Lib.hid hB
 clear hB
 have hrest : ∀ (X Y : Xv) (w4 : World),Below B w w4 -> ExG w4.heap.size w4 ea X -> ExG w4.heap.size w4 eb Y -> ∀ W6,Below w4.heap.size w4 W6 -> Blk W6 w4.heap.size (cells2 X Y) 49 -> Calls Tryz.prog 47 #[.slice (some ⟨w4.heap.size,0,none⟩) 2 2] W6 fun e w' => ∃ a c,e = .returned (.tuple #[.slice a ls.length c,.int .i64 0]) /\ (Calls Tryz.prog 58 #[.slice a ls.length c] w' fun e w'' => e = .returned (.int .i64 z) /\ Below B w w'') /\ Below B w w':=by
  intro X Y w4 hb4 hX hY W6 hb6 q6
  have hs4:=hb4.size
  rw [HB.out] at hs4
  have hs6:=hb6.size
  have hX6:=hX.below hb6 (Nat.le_refl _) hs6
  have hY6:=hY.below hb6 (Nat.le_refl _) hs6
  have hsc:=scales_any W6.heap.size (.slice (some ⟨w4.heap.size,0,none⟩) 2 2) [ea,eb] (g2x X Y) W6 (rows_ex2 q6 q6.lt) (fun i a ha => by
   rcases i with _ | _ | i
   ·cases ha; exact hX6
   ·cases ha; exact hY6
   ·cases ha) HDA.out (Nat.le_refl _)
  rw [HLS.out] at hsc
  refine hsc.mono ?_
  rintro e w7 ⟨lv,rfl,hlv,hb7⟩
  obtain ⟨la,lc,rfl,_,_⟩:=id hlv.form
  have b7 : Below B w w7:=hb4.trans ((hb6.mono hs4).trans (hb7.mono (by omega)))
  refine ⟨la,lc,rfl,?_,b7⟩
  refine (dlregions_any w7.heap.size _ ls w7 hlv (sc_good HLM.out HLF.out) (by have := LM.len HLM.out; omega) (Nat.le_refl _)).mono ?_
  rintro e w8 ⟨rfl,hb8⟩
  exact ⟨by rw [HZ.out],b7.trans (hb8.mono (by have := b7.size; rw [HB.out] at this; exact this))⟩
 have HREST:=Lib.hid hrest
 clear hrest
 go_enter Tryz.func23,Tryz.ntmps23
 go_upto_region 1 with fail
 refine region_plain (fun _ => True) [] (by kernel_rfl) ?_
 refine wpAnyD_tp (i:=0) (v:=.slice ma ml mc) rfl trivial ?_
 refine wpAnyD_tp (i:=1) (v:=.slice ma ml mc) rfl trivial ?_
 refine wpAnyD_tp (i:=2) (v:=.int .i64 ml) rfl trivial ?_
 refine wpAnyD_tk (i:=3) (v:=.int .i64 mk) rfl (.inl ⟨by kernel_rfl,fun W' hS => by have hmk:=HMK.out; go_simp <;> exact HMK2.out⟩) trivial ?_
 refine wpAnyD_tp (i:=4) (v:=.slice ma mk mc) rfl trivial ?_
 refine wpAnyD_tp (i:=6) (v:=.slice na nle nc) rfl trivial ?_
 refine wpAnyD_tp (i:=7) (v:=.slice na nle nc) rfl trivial ?_
 refine wpAnyD_tp (i:=8) (v:=.int .i64 nle) rfl trivial ?_
 refine wpAnyD_tk (i:=9) (v:=.int .i64 nk) rfl (.inl ⟨by kernel_rfl,fun W' hS => by have hnk:=HNK.out; go_simp <;> exact HNK2.out⟩) trivial ?_
 refine wpAnyD_tp (i:=10) (v:=.slice na nk nc) rfl trivial ?_
 have hb0 : Below B w w.drew:=below_drewN2 (Below.refl _ _) 1
 have hB0 : w.drew.heap.size = B:=HB.out
 obtain ⟨W0,hW0⟩ : ∃ W,w.drew = W:=⟨_,rfl⟩
 rw [hW0] at hb0 hB0 ⊢
 have HB0:=Lib.hid hb0
 have HBB:=Lib.hid hB0
 clear hb0 hB0 hW0
 refine wpAnyD_one (i:=5) (by kernel_rfl) rfl (by kernel_rfl) ?_
 go_simp
 refine (HMA.out W0 HB0.out).mono ?_
 rintro en w3 ⟨X1,rfl,hX1,hb3⟩
 have b3 : Below B w w3:=HB0.out.trans (hb3.mono (by rw [HBB.out]; exact Nat.le_refl _))
 have hs3 : B <= w3.heap.size:=by have := b3.size; rw [HB.out] at this; exact this
 have hX3:=hX1.now
 have HX3:=Lib.hid hX3
 have HB3:=Lib.hid b3
 clear hX1 hb3 hX3 b3
 refine wpAnyD_one (i:=11) (by kernel_rfl) rfl (by kernel_rfl) ?_
 go_simp
 refine (HNA.out w3 HB3.out).mono ?_
 rintro en w4 ⟨X2,rfl,hX2,hb4⟩
 have b4 : Below B w w4:=HB3.out.trans (hb4.mono hs3)
 have hX4:=HX3.out.below hb4 (Nat.le_refl _) hb4.size
 have hY4:=hX2.now
 have hr:=HREST.out X1 X2 w4 b4 hX4 hY4 (w4.alloc (.cells (cells2 X1 X2) 49)) ((Below.refl _ _).alloc (Nat.le_refl _) _) (Blk.new w4 _ _)
 have HR:=Lib.hid hr
 clear hX2 hb4 b4 hX4 hY4 hr HX3 HB3
 refine wpAnyD_one (i:=12) (by kernel_rfl) rfl (by kernel_rfl) ?_
 go_simp
 refine wpAnyD_one (i:=13) (by kernel_rfl) rfl (by kernel_rfl) ?_
 go_simp
 refine HR.out.mono ?_
 rintro en w7 ⟨la,lc,rfl,hreg,hb7⟩
 have HREG:=Lib.hid hreg
 have HB7:=Lib.hid hb7
 clear hreg hb7 HR
 refine wpAnyD_tp (i:=14) (v:=.tuple #[.slice la ls.length lc,.int .i64 0]) rfl trivial ?_
 refine wpAnyD_tp (i:=15) (v:=.slice la ls.length lc) rfl trivial ?_
 refine wpAnyD_tp (i:=16) (v:=.int .i64 0) rfl trivial ?_
 refine wpAnyD_tp (i:=17) (v:=.slice la ls.length lc) rfl trivial ?_
 refine wpAnyD_tp (i:=18) (v:=.int .i64 0) rfl trivial ?_
 refine wpAnyD_done (by kernel_rfl) ?_ _
 go_simp
 go_wp2_with fail
 refine HREG.out.mono ?_
 clear HREG
 rintro en w8 ⟨rfl,hb8⟩
 have hle : ((z : Int) <= 300) ↔ z <= 300:=by omega
 go_wp2_with fail
 go_ret
 exact ⟨rfl,hb8⟩
theorem results_mid {fn : Func} {r t s : Tmp} {ty : TypeId} (h : fn.results = #[.tmp r,.cell t ty,.tmp s]) (tmps : Array Value) (w : World) (b : Nat) (cs : Array Value) (d : TypeDesc) (hc : Blk w b cs ty) (ht : tmps.getD t undef = .pointer (some ⟨b,0,none⟩))
  (hu : Tryz.prog.underlying ty = some d) (hd : d.isRow = true) (hi : (Tryz.prog.info? ty).map (fun i => i.size) = some cs.size) : (results fn tmps).run Tryz.prog w = .ok (.tuple #[tmps.getD r undef,.agg cs,tmps.getD s undef]) w:=by
 have hl:=run_loadVar_mid (P:=Tryz.prog) w b 0 ty cs.toList d hc.range hu hd (by rw [hi]; simp)
 have ht' : tmps[t]?.getD undef = .pointer (some ⟨b,0,none⟩):=by simpa using ht
 simp [results,h,ht',asAddr,hl]
theorem sc_okD {l : List Sc} (h : LM l) (hf : Full l) : ScOkD l:=fun s hs => by
 have h32:=okB_len (okB_M (h.each s hs) (hf s hs))
 refine ⟨(sc_good h hf s hs).1,(sc_good h hf s hs).2,cells_ne (h.each s hs) (hf s hs),fun c hc => ?_⟩
 unfold cellsS at hc
 split at hc
 ·unfold possL at hc
  have := List.mem_range.1 (List.mem_filter.1 hc).1
  unfold cntN at this
  split at this <;> omega
 ·cases hc
theorem sc_okB {l : List Sc} (h : LM l) (hf : Full l) : ∀ s ∈ l,s.okB = true:=fun s hs => okB_M (h.each s hs) (hf s hs)
def prS (m n : List Nat) : List Sc:=(scalesS (prM m n)).1
def prT (m n : List Nat) : Int × DSt:=tgt (lfS (prS m n) (prM m n)) (pcs (prS m n)) 0 [] DSt.no
theorem prod_300 {m n : List Nat} (h : fitP m n = true) : prodL (pcs (prS m n)) <= 300:=by
 obtain ⟨l,hl,hLM,hLF,_⟩:=pr_ok m n
 unfold fitP at h
 unfold prS
 rw [hl] at h ⊢
 show prodL (pcs l) <= 300
 have := (regL_prod (pcs l) 1 (by omega) (fun p hp => (pcs_ok hLM hLF p hp).2)).1 (of_decide_eq_true h)
 omega
theorem pr_dgv {m n : List Nat} (h : fitP m n = true) : DgV (prS m n) (prT m n).2 (prT m n).1:=by
 have hp:=prod_300 h
 obtain ⟨l,hl,hLM,hLF,_⟩:=pr_ok m n
 unfold prT
 have hs : prS m n = l:=by unfold prS; rw [hl]
 rw [hs] at hp ⊢
 exact dgv_ok (prM m n) (by have := LM.len hLM; omega) (sc_okB hLM hLF) (pcs_ok hLM hLF) (by omega)
theorem dlconds_any (K : Nat) (m : List Nat) (mv : Value) (n : List Nat) (nv : Value) (w : World) (hm : U8s K w mv m) (hxm : ∀ y ∈ m,y < 256) (hn : U8s K w nv n) (hxn : ∀ y ∈ n,y < 256) (hK : K <= w.heap.size) (hfit : fitP m n = true) (htab : PTab K w) :
  Calls Tryz.prog 24 #[mv,nv] w fun e w' => ∃ (b : Nat) (X Y : Xv) (y : Dv),e = .returned (.tuple #[.slice (some ⟨b,0,none⟩) 2 2,y.agg,.bool true]) /\ w.heap.size <= b /\ Blk w' b (cells2 X Y) 49 /\ ExG w'.heap.size w' (madeM 6 (m.take 20)).1 X /\ ExG w'.heap.size w' (madeM 6 (n.take 20)).1 Y /\ DgX w'.heap.size w' y (prS m n) (prT m n).2 (prT m n).1 /\ Below w.heap.size w w':=by
 have hdv:=pr_dgv hfit
 have hp3:=prod_300 hfit
 have hz3 : regL ((pcs (prS m n)).map (·.length)) 1 <= 300:=of_decide_eq_true hfit
 obtain ⟨ma,mc,rfl,hmc,hmm⟩:=id (RowsV.form hm)
 obtain ⟨na,nc,rfl,hnc,hnm⟩:=id (RowsV.form hn)
 unfold maxLen at hmm hnm
 obtain ⟨mk,hmk⟩ : ∃ k,min m.length 20 = k:=⟨_,rfl⟩
 obtain ⟨nk,hnk⟩ : ∃ k,min n.length 20 = k:=⟨_,rfl⟩
 have hm2:=hm.take20 mk hmk
 have hn2:=hn.take20 nk hnk
 obtain ⟨ls,hls,hLM,hLF,_⟩:=pr_ok m n
 have hpS : prS m n = ls:=by unfold prS; rw [hls]
 have hda : ∀ a ∈ prM m n,a.good = true:=fun a ha => md_good (prM_md a ha).1
 have hpa : ∀ a ∈ prM m n,a.parts <= 2 ^ 20:=fun a ha => by
  simp only [prM,List.mem_cons,List.not_mem_nil,or_false] at ha
  rcases ha with rfl | rfl
  ·have := madeM_size 6 (m.take 20); have := take20 m; omega
  ·have := madeM_size 6 (n.take 20); have := take20 n; omega
 obtain ⟨st,hst⟩ : ∃ st,(prT m n).2 = st:=⟨_,rfl⟩
 obtain ⟨rt,hrt⟩ : ∃ rt,(prT m n).1 = rt:=⟨_,rfl⟩
 rw [hst,hrt,hpS] at hdv
 rw [hst,hrt,hpS]
 rw [hpS] at hp3 hz3
 unfold prT at hst hrt
 rw [hpS] at hst hrt
 obtain ⟨z,hz⟩ : ∃ z,regL ((pcs ls).map (·.length)) 1 = z:=⟨_,rfl⟩
 rw [hz] at hz3
 have HZ:=Lib.hid hz
 unfold prM at hls hda hpa hst hrt
 have hxm2 : ∀ y ∈ m.take 20,y < 256:=fun y hy => hxm y (List.mem_of_mem_take hy)
 have hxn2 : ∀ y ∈ n.take 20,y < 256:=fun y hy => hxn y (List.mem_of_mem_take hy)
 obtain ⟨W1,hW1⟩ : ∃ W1,w.alloc (.cells #[.slice none 0 0,.slice none 0 0,.slice none 0 0,.int .i64 0] 29) = W1:=⟨_,rfl⟩
 have b1 : Below w.heap.size w W1:=by rw [<- hW1]; exact (Below.refl _ _).alloc (Nat.le_refl _) _
 have q1 : Blk W1 w.heap.size #[.slice none 0 0,.slice none 0 0,.slice none 0 0,.int .i64 0] 29:=by rw [<- hW1]; exact Blk.new w _ _
 have s1 : W1.heap.size = w.heap.size + 1:=by rw [<- hW1]; simp
 have hma : ∀ W,Below w.heap.size w W -> Calls Tryz.prog 57 #[.slice ma mk mc] W fun e w' => ∃ X : Xv,e = .returned X.agg /\ ExN W.heap.size w' (madeM 6 (m.take 20)).1 X /\ Below W.heap.size W w':=fun W hb => gMade_any K _ _ W (hm2.below hb hK (Nat.le_refl _)) hxm2 (by have := hb.size; omega) (by have := take20 m; omega)
 have hna : ∀ W,Below w.heap.size w W -> Calls Tryz.prog 57 #[.slice na nk nc] W fun e w' => ∃ X : Xv,e = .returned X.agg /\ ExN W.heap.size w' (madeM 6 (n.take 20)).1 X /\ Below W.heap.size W w':=fun W hb => gMade_any K _ _ W (hn2.below hb hK (Nat.le_refl _)) hxn2 (by have := hb.size; omega) (by have := take20 n; omega)
 obtain ⟨ea,hea⟩ : ∃ e,(madeM 6 (m.take 20)).1 = e:=⟨_,rfl⟩
 obtain ⟨eb,heb⟩ : ∃ e,(madeM 6 (n.take 20)).1 = e:=⟨_,rfl⟩
 simp only [hea,heb] at hma hna hls hda hpa hst hrt ⊢
 obtain ⟨ml,hmle⟩ : ∃ k,m.length = k:=⟨_,rfl⟩
 obtain ⟨nle,hnle⟩ : ∃ k,n.length = k:=⟨_,rfl⟩
 rw [hmle] at hmc hmk ⊢
 rw [hnle] at hnc hnk ⊢
 have hmkc : mk <= mc:=by omega
 have hnkc : nk <= nc:=by omega
 have hm20 : (if (20 : Int) < (ml : Int) then (20 : Int) else (ml : Int)) = (mk : Int):=by split <;> omega
 have hn20 : (if (20 : Int) < (nle : Int) then (20 : Int) else (nle : Int)) = (nk : Int):=by split <;> omega
 have HMK:=Lib.hid hm20
 have HNK:=Lib.hid hn20
 have HMK2 : Hid (min (ml : Int) 20 = (mk : Int)):=Lib.hid (by omega)
 have HNK2 : Hid (min (nle : Int) 20 = (nk : Int)):=Lib.hid (by omega)
 have HMA:=Lib.hid hma
 have HNA:=Lib.hid hna
 have HLS:=Lib.hid hls
 have HDA:=Lib.hid hda
 have HPA:=Lib.hid hpa
 have HLM:=Lib.hid hLM
 have HLF:=Lib.hid hLF
 have HST:=Lib.hid hst
 have HRT:=Lib.hid hrt
 have HDV:=Lib.hid hdv
 have HTAB:=Lib.hid htab
 obtain ⟨B,hB⟩ : ∃ B,w.heap.size = B:=⟨_,rfl⟩
 rw [hB] at hK HMA HNA b1 q1 s1 ⊢
 have HB:=Lib.hid hB
 have HW1:=Lib.hid hW1
 have HB1:=Lib.hid b1
 have HQ1:=Lib.hid q1
 have S1:=Lib.hid s1
 have HP3:=Lib.hid hp3
 clear hm hn hm2 hn2 hxm hxn hxm2 hxn2 hmle hnle hma hna hea heb hls hda hpa hLM hLF hmk hnk hm20 hn20 hz hst hrt hdv htab hpS hp3 hfit hB hW1 b1 q1 s1
 go_enter Tryz.func24,Tryz.ntmps24
 go_upto_region 1 with fail
 simp only [HB.out]
 rw [HW1.out]
 refine region_plain (fun _ => True) [] (by kernel_rfl) ?_
 refine wpAnyD_tp (i:=0) (v:=.slice ma ml mc) rfl trivial ?_
 refine wpAnyD_tp (i:=1) (v:=.slice ma ml mc) rfl trivial ?_
 refine wpAnyD_tp (i:=2) (v:=.int .i64 ml) rfl trivial ?_
 refine wpAnyD_tk (i:=3) (v:=.int .i64 mk) rfl (.inl ⟨by kernel_rfl,fun W' hS => by have hmk:=HMK.out; go_simp <;> exact HMK2.out⟩) trivial ?_
 refine wpAnyD_tp (i:=4) (v:=.slice ma mk mc) rfl trivial ?_
 refine wpAnyD_tp (i:=6) (v:=.slice na nle nc) rfl trivial ?_
 refine wpAnyD_tp (i:=7) (v:=.slice na nle nc) rfl trivial ?_
 refine wpAnyD_tp (i:=8) (v:=.int .i64 nle) rfl trivial ?_
 refine wpAnyD_tk (i:=9) (v:=.int .i64 nk) rfl (.inl ⟨by kernel_rfl,fun W' hS => by have hnk:=HNK.out; go_simp <;> exact HNK2.out⟩) trivial ?_
 refine wpAnyD_tp (i:=10) (v:=.slice na nk nc) rfl trivial ?_
 have hb0 : Below B w W1.drew:=below_drewN2 HB1.out 1
 have hB0 : W1.drew.heap.size = B + 1:=S1.out
 have hq0 : Blk W1.drew B #[.slice none 0 0,.slice none 0 0,.slice none 0 0,.int .i64 0] 29:=HQ1.out
 obtain ⟨W0,hW0⟩ : ∃ W,W1.drew = W:=⟨_,rfl⟩
 rw [hW0] at hb0 hB0 hq0 ⊢
 have HB0:=Lib.hid hb0
 have HBB:=Lib.hid hB0
 have HQ0:=Lib.hid hq0
 clear hb0 hB0 hW0 hq0 HQ1 HB1
 refine wpAnyD_one (i:=5) (by kernel_rfl) rfl (by kernel_rfl) ?_
 go_simp
 refine (HMA.out W0 HB0.out).mono ?_
 rintro en w3 ⟨X1,rfl,hX1,hb3⟩
 have b3 : Below B w w3:=HB0.out.trans (hb3.mono (by rw [HBB.out]; omega))
 have b03 : Below (B + 1) W0 w3:=by have := hb3; rwa [HBB.out] at this
 have hs3 : B + 1 <= w3.heap.size:=by have := hb3.size; rw [HBB.out] at this; exact this
 have hX3:=hX1.now
 have HX3:=Lib.hid hX3
 rw [HBB.out] at hX1
 have HXN3:=Lib.hid hX1
 have HB3:=Lib.hid b3
 have HB03:=Lib.hid b03
 clear hX1 hb3 hX3 b3 b03
 refine wpAnyD_one (i:=11) (by kernel_rfl) rfl (by kernel_rfl) ?_
 go_simp
 refine (HNA.out w3 HB3.out).mono ?_
 rintro en w4 ⟨X2,rfl,hX2,hb4⟩
 have b4 : Below B w w4:=HB3.out.trans (hb4.mono (by omega))
 have b04 : Below (B + 1) W0 w4:=HB03.out.trans (hb4.mono (by omega))
 have hs4 : B + 1 <= w4.heap.size:=by have := hb4.size; omega
 have hX4:=HX3.out.below hb4 (Nat.le_refl _) hb4.size
 have hY4:=hX2.now
 have HXN4:=Lib.hid (HXN3.out.move (NewW.of hb4))
 have HYN4:=Lib.hid (hX2.mono hs3)
 obtain ⟨b,hbe⟩ : ∃ b,w4.heap.size = b:=⟨_,rfl⟩
 obtain ⟨W5,hW5⟩ : ∃ W5,w4.alloc (.cells (cells2 X1 X2) 49) = W5:=⟨_,rfl⟩
 have b5 : Below b w4 W5:=by rw [<- hW5,<- hbe]; exact (Below.refl _ _).alloc (Nat.le_refl _) _
 have q5 : Blk W5 b (cells2 X1 X2) 49:=by rw [<- hW5,<- hbe]; exact Blk.new w4 _ _
 have s5 : W5.heap.size = b + 1:=by rw [<- hW5,<- hbe]; simp
 rw [hbe] at hX4 hY4 hs4
 have HXN5:=Lib.hid (HXN4.out.move (NewW.of (by rw [hbe]; exact b5)))
 have HYN5:=Lib.hid (HYN4.out.move (NewW.of (by rw [hbe]; exact b5)))
 have HX5:=Lib.hid (hX4.below b5 (Nat.le_refl _) (show b <= W5.heap.size by omega))
 have HY5:=Lib.hid (hY4.below b5 (Nat.le_refl _) (show b <= W5.heap.size by omega))
 have HB5:=Lib.hid (b4.trans (b5.mono (by omega)))
 have HB05:=Lib.hid (b04.trans (b5.mono hs4))
 have HQ5:=Lib.hid q5
 have HW5:=Lib.hid hW5
 have HBE:=Lib.hid hbe
 have S5:=Lib.hid s5
 dsimp only [cells2] at HW5
 clear hX2 hb4 b4 hX4 hY4 HX3 HXN3 HXN4 HYN4 HB3 hbe hW5 b5 q5 s5 b04 HB03 HB0
 refine wpAnyD_one (i:=12) (by kernel_rfl) rfl (by kernel_rfl) ?_
 go_simp
 simp only [HBE.out]
 rw [HW5.out]
 refine wpAnyD_tp (i:=13) (v:=.slice (some ⟨b,0,none⟩) 2 2) rfl trivial ?_
 refine wpAnyD_done (by kernel_rfl) ?_ _
 have hrow : ∀ W,Below W5.heap.size W5 W -> RowsV 9 (fun i j => (g2x X1 X2 i).cell j) W.heap.size W (.slice (some ⟨b,0,none⟩) 2 2) 2:=fun W hb => by
  have hq:=HQ5.out.below hb HQ5.out.lt
  exact rows_ex2 hq hq.lt
 have hexs : ∀ W,Below W5.heap.size W5 W -> ∀ (i : Nat) (a : Gx),[ea,eb][i]? = some a -> ExG W.heap.size W a (g2x X1 X2 i):=fun W hb i a ha => by
  rcases i with _ | _ | i
  ·cases ha; exact HX5.out.below hb (Nat.le_refl _) hb.size
  ·cases ha; exact HY5.out.below hb (Nat.le_refl _) hb.size
  ·cases ha
 have hsc:=scales_any W5.heap.size (.slice (some ⟨b,0,none⟩) 2 2) [ea,eb] (g2x X1 X2) W5 (hrow W5 (Below.refl _ _)) (hexs W5 (Below.refl _ _)) HDA.out (Nat.le_refl _)
 rw [HLS.out] at hsc
 have HSC:=Lib.hid hsc
 have HROW:=Lib.hid hrow
 have HEXS:=Lib.hid hexs
 clear hsc hrow hexs
 go_simp
 go_wp2_with fail
 refine HSC.out.mono ?_
 clear HSC
 rintro en w7 ⟨lv,rfl,hlv,hb7⟩
 obtain ⟨la,lc,rfl,_,_⟩:=id hlv.form
 have hrg:=dlregions_any w7.heap.size _ ls w7 hlv (sc_good HLM.out HLF.out) (by have := LM.len HLM.out; omega) (Nat.le_refl _)
 rw [HZ.out] at hrg
 have HRG:=Lib.hid hrg
 have HB7:=Lib.hid hb7
 obtain ⟨ln,hln⟩ : ∃ k,ls.length = k:=⟨_,rfl⟩
 rw [hln] at HRG ⊢
 have HLN:=Lib.hid hln
 have t300 : decide ((300 : Int) < (z : Int)) = false:=decide_eq_false (by omega)
 clear hrg hlv hb7 hln
 go_wp2_with fail
 refine HRG.out.mono ?_
 clear HRG
 rintro en w8 ⟨rfl,hb8⟩
 have b58 : Below W5.heap.size W5 w8:=HB7.out.trans (hb8.mono HB7.out.size)
 have hbd:=dbuild_any w8.heap.size (.slice (some ⟨b,0,none⟩) 2 2) [ea,eb] (g2x X1 X2) w8 (HROW.out w8 b58) (HEXS.out w8 b58) HDA.out HPA.out (Nat.le_refl _) (by simp) ls HLS.out (sc_okD HLM.out HLF.out) (by have := LM.len HLM.out; omega) (by have := HP3.out; omega) ((HTAB.out.on ((HB5.out.trans (b58.mono (by have := HB5.out.size; rw [HB.out] at this; exact this))).mono hK)).up (by have := b58.size; have := S5.out; omega))
 rw [HST.out,HRT.out] at hbd
 have HBD:=Lib.hid hbd
 have HB58:=Lib.hid b58
 have HB8 : Hid (B < w8.heap.size):=Lib.hid (by have := b58.size; have := S5.out; omega)
 clear hbd b58 hb8 HB7
 go_wp2_with fail
 refine HBD.out.mono ?_
 clear HBD
 rintro en w9 ⟨y,rfl,hdg,hb9⟩
 obtain ⟨l1,l2,l3⟩:=(hdg w9 (NewW.refl _ _)).lens
 have hval : ∀ W,Below w9.heap.size w9 W -> Calls Tryz.prog 31 #[y.agg] W fun e w' => e = .returned (.bool true) /\ Below W.heap.size W w':=fun W hb => dvalid_ok W.heap.size y ls st rt W (hdg W (NewW.of hb)) HDV.out (sc_good HLM.out HLF.out) (Nat.le_refl _)
 obtain ⟨⟨sa,sn,sm⟩,⟨da,dn,dm⟩,⟨fa,fn,fm⟩,rr⟩:=y
 dsimp only [Dv.agg,Dv.cells,Sl.val] at hval l1 l2 l3 hdg ⊢
 rw [HLN.out] at l1
 subst l1
 have h1c : ∀ u ∈ (#[.slice sa sn sm,.slice da dn dm,.slice fa fn fm,.int .i64 rr] : Array Value),u.oneCell' = true:=by simp [Value.oneCell']
 have HDG:=Lib.hid hdg
 have HVAL:=Lib.hid hval
 have b59 : Below W5.heap.size W5 w9:=HB58.out.trans (hb9.mono HB58.out.size)
 have HB59:=Lib.hid b59
 obtain ⟨D,hD⟩ : ∃ D,w9.heap.size = D:=⟨_,rfl⟩
 obtain ⟨W10,hW10⟩ : ∃ W,w9.alloc (.cells #[.slice sa sn sm,.slice da dn dm,.slice fa fn fm,.int .i64 rr] 29) = W:=⟨_,rfl⟩
 have b10 : Below w9.heap.size w9 W10:=by rw [<- hW10]; exact (Below.refl _ _).alloc (Nat.le_refl _) _
 have q10 : Blk W10 D #[.slice sa sn sm,.slice da dn dm,.slice fa fn fm,.int .i64 rr] 29:=by rw [<- hW10,<- hD]; exact Blk.new w9 _ _
 have HB10:=Lib.hid b10
 have HQ10:=Lib.hid q10
 have HW10:=Lib.hid hW10
 have HD:=Lib.hid hD
 have hD5 : W5.heap.size <= D:=by rw [<- hD]; exact b59.size
 obtain ⟨c0,c1,c2,c3⟩:=q10.four
 clear hdg hval b59 hb9 l2 l3 hW10 b10 q10 hD HB58
 go_upto_region 6 with (refine wpList_store_new rfl 29 (.tmp 10) (.tmp 41) rfl #[.slice sa sn sm,.slice da dn dm,.slice fa fn fm,.int .i64 rr] _ infoDiagN rfl h1c w9.heap.size rfl rfl rfl ?_)
 simp only [HD.out]
 rw [HW10.out]
 have hv10:=HVAL.out W10 HB10.out
 have HV10:=Lib.hid hv10
 clear hv10
 go_wp2_with fail
 refine HV10.out.mono ?_
 clear HV10 HVAL c1 c2 c3
 rintro en w11 ⟨rfl,hb11⟩
 have q11:=HQ10.out.below hb11 HQ10.out.lt
 have d0 : w11.cell? ⟨D,0,none⟩ = some (.slice sa sn sm):=q11.at rfl
 have HQ11:=Lib.hid q11
 have HB11:=Lib.hid (HB10.out.trans (hb11.mono HB10.out.size))
 clear q11 hb11 c0
 go_upto_region 8 with fail
 obtain ⟨W12,hW12⟩ : ∃ W,w11.drew = W:=⟨_,rfl⟩
 have hq12 : Blk W12 D #[.slice sa sn sm,.slice da dn dm,.slice fa fn fm,.int .i64 rr] 29:=by rw [<- hW12]; exact HQ11.out
 have b12 : Below w9.heap.size w9 W12:=by rw [<- hW12]; exact below_drewN2 HB11.out 1
 have b512 : Below W5.heap.size W5 W12:=HB59.out.trans (b12.mono (by rw [HD.out]; exact hD5))
 have b012 : Below (B + 1) W0 W12:=HB05.out.trans (b512.mono (by have := HB05.out.size; rw [HBB.out] at this; exact this))
 have q0:=HQ0.out.below b012 (Nat.lt_succ_self B)
 have HB12:=Lib.hid b12
 have HB512:=Lib.hid b512
 have HQ12:=Lib.hid hq12
 have HQB:=Lib.hid q0
 have HDB : Hid (D ≠ B):=Lib.hid (by have := S5.out; omega)
 clear b12 b512 b012 q0 hq12 d0
 refine region_plain (fun W' => Blk W' D #[.slice sa sn sm,.slice da dn dm,.slice fa fn fm,.int .i64 rr] 29) [] (by kernel_rfl) ?_
 rw [hW12]
 have qS : (fun W' => Blk W' D #[.slice sa sn sm,.slice da dn dm,.slice fa fn fm,.int .i64 rr] 29) W12:=HQ12.out
 clear hW12
 refine wpAnyD_tp (i:=0) (v:=.slice (some ⟨b,0,none⟩) 2 2) rfl qS ?_
 refine wpAnyD_tk (i:=1) (v:=.agg #[.slice sa sn sm,.slice da dn dm,.slice fa fn fm,.int .i64 rr]) rfl (.inl ⟨by kernel_rfl,fun W' hS => by obtain ⟨c0,c1,c2,c3⟩:=Blk.four hS; go_simp⟩) qS ?_
 refine wpAnyD_tp (i:=2) (v:=.slice (some ⟨b,0,none⟩) 2 2) rfl qS ?_
 refine wpAnyD_one (i:=3) (by kernel_rfl) rfl (by kernel_rfl) ?_
 refine wp_store_blkD 29 29 (.tmp 5) (.tmp 60) rfl #[.slice sa sn sm,.slice da dn dm,.slice fa fn fm,.int .i64 rr] _ B HQB.out infoDiagN rfl h1c rfl rfl ?_
 intro W13 t1 t2 t3 t4
 have qS13 : (fun W' => Blk W' D #[.slice sa sn sm,.slice da dn dm,.slice fa fn fm,.int .i64 rr] 29) W13:=(t3.block D HQ12.out.lt (by simp; exact HDB.out)).trans HQ12.out
 refine ⟨fun _ => qS13,?_⟩
 refine wpAnyD_tp (i:=4) (v:=.bool true) rfl qS13 ?_
 refine wpAnyD_done (by kernel_rfl) ?_ _
 go_simp
 go_wp2_with fail
 refine bodyPost_ret (results_mid rfl _ _ B _ _ t1 rfl Tryz.underlying29 rfl infoDiagN) rfl ?_
 have hBb : B + 1 <= b:=hs4
 have hb8 : B < w8.heap.size:=HB8.out
 exact ⟨b,X1,X2,⟨⟨sa,sn,sm⟩,⟨da,dn,dm⟩,⟨fa,fn,fm⟩,rr⟩,rfl,by omega,(t3.block b (HQ5.out.below HB512.out HQ5.out.lt).lt (by simp; omega)).trans (HQ5.out.below HB512.out HQ5.out.lt),
  ((HXN5.out.move (NewW.of HB512.out)).move (NewW.put t3 (Nat.lt_succ_self B))).now,((HYN5.out.move (NewW.of HB512.out)).move (NewW.put t3 (Nat.lt_succ_self B))).now,
  HDG.out W13 (((NewW.of HB12.out).trans (NewW.put t3 hb8))),HB5.out.trans ((HB512.out.mono (by have := S5.out; omega)).trans (t2 B (Nat.le_refl _)))⟩
theorem pr_scs {m n : List Nat} : ∃ l,prS m n = l /\ scalesS (prM m n) = (l,0) /\ LM l /\ Full l /\ ∀ e ∈ prM m n,∀ t ∈ e.tests,Has l (testOf t):=by
 obtain ⟨l,h1,h2,h3,h4⟩:=pr_ok m n
 exact ⟨l,by unfold prS; rw [h1],h1,h2,h3,h4⟩
theorem dec_dg (m n : List Nat) : DgOk (pcs (prS m n)) (lfS (prS m n) (prM m n)) (prT m n).2 (prT m n).1:=by
 obtain ⟨l,h1,_,hLM,hLF,_⟩:=@pr_scs m n
 unfold prT
 rw [h1]
 exact dg_ok (pcs_ok hLM hLF)
end Go.Proofs.YtlidpghnlloinaaGreatDoor
