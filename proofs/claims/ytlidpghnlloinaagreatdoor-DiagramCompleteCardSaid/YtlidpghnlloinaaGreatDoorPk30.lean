/- Contracts and plain laws, several texts in one (DBuildW). No conditions beyond those stated. -/
import Derived.Test.YtlidpghnlloinaaGreatDoorPk29
set_option maxRecDepth 100000
set_option maxHeartbeats 40000000
namespace Go.Proofs.YtlidpghnlloinaaGreatDoor
open Go.RowKit
set_option linter.unusedVariables false
def lst6 (d : Nat -> Bool) : Array Bool:=#[true,true,true,d 3,true,true,d 6,d 7,d 8,d 9,d 10,false]
def J6 : List Nat:=[3,6,7,8,10,9]
theorem lst6_of (d : Nat -> Bool) {i : Nat} (hi : i ∈ J6) (h : (lst6 d).getD i true = false) : d i = false:=by
 unfold J6 at hi
 simp only [List.mem_cons,List.not_mem_nil,or_false] at hi
 rcases hi with rfl | rfl | rfl | rfl | rfl | rfl <;> exact h
theorem ready_chk {md : Region.Mode} {ops : Array Oper} (d : Nat -> Bool) (h : ((!(Region.ready md ops (lst6 d)).isEmpty) && (Region.ready md ops (lst6 d)).all fun i => J6.contains i) = true) : Region.ready md ops (lst6 d) ≠ [] /\ ∀ i ∈ Region.ready md ops (lst6 d),i ∈ J6 /\ d i = false:=by
 rw [Bool.and_eq_true] at h
 refine ⟨fun e => by rw [e] at h; simp at h,fun i hi => ?_⟩
 have h1:=List.all_eq_true.1 h.2 i hi
 have h2 : i ∈ J6:=by simpa using h1
 exact ⟨h2,lst6_of d h2 (mem_ready.1 hi).1⟩
theorem dbuild_any (K : Nat) (v : Value) (es : List Gx) (g : Nat -> Xv) (w : World) (hv : RowsV 9 (fun i j => (g i).cell j) K w v es.length) (hx : ∀ (i : Nat) (a : Gx),es[i]? = some a -> ExG K w a (g i)) (hgood : ∀ a ∈ es,a.good = true) (hparts : ∀ a ∈ es,a.parts <= 2 ^ 20) (hK : K <= w.heap.size)
  (h40 : es.length <= 40) (scs : List Sc) (hsc : scalesS es = (scs,0)) (hok : ScOkD scs) (hn20 : scs.length <= 2 ^ 20) (hprod : prodL (pcs scs) <= 8192) (htab : PTab K w) :
  Calls Tryz.prog 13 #[v] w fun e w' => ∃ y : Dv,e = .returned (.tuple #[y.agg,.int .i64 0]) /\ (∀ W,NewW w.heap.size w' W -> DgX W.heap.size W y scs (tgt (lfS scs es) (pcs scs) 0 [] DSt.no).2 (tgt (lfS scs es) (pcs scs) 0 [] DSt.no).1) /\ Below w.heap.size w w':=by
 obtain ⟨va,vm,rfl,hvl,hvm⟩:=hv.form
 obtain ⟨m,hm⟩ : ∃ m,es.length = m:=⟨_,rfl⟩
 obtain ⟨n,hn⟩ : ∃ n,scs.length = n:=⟨_,rfl⟩
 rw [hm] at hv hvl h40 ⊢
 rw [hn] at hn20
 obtain ⟨W1,hW1⟩ : ∃ W1,w.alloc (.cells #[.slice none 0 0,.slice none 0 0,.slice none 0 0,.int .i64 0] 29) = W1:=⟨_,rfl⟩
 have b1 : Below w.heap.size w W1:=by rw [<- hW1]; exact (Below.refl _ _).alloc (Nat.le_refl _) _
 have q1 : Blk W1 w.heap.size #[.slice none 0 0,.slice none 0 0,.slice none 0 0,.int .i64 0] 29:=by rw [<- hW1]; exact Blk.new w _ _
 have s1 : W1.heap.size = w.heap.size + 1:=by rw [<- hW1]; simp
 obtain ⟨T,hT⟩ : ∃ T,w.heap.size = T:=⟨_,rfl⟩
 have HT:=Lib.hid hT
 have HW:=Lib.hid hW1
 rw [hT] at b1 q1 s1 hK ⊢
 have hs:=scales_own K (.slice va m vm) es g W1 (by rw [hm]; exact hv.below b1 hK (Nat.le_refl _)) (fun i a ha => (hx i a ha).below b1 hK (Nat.le_refl _)) hgood (by omega)
 rw [hsc] at hs
 have HS:=Lib.hid hs
 have HV:=Lib.hid hv
 have HX:=Lib.hid hx
 have HM:=Lib.hid hm
 have HN:=Lib.hid hn
 have HG:=Lib.hid hgood
 have HPT:=Lib.hid hparts
 have HOK:=Lib.hid hok
 have HTAB:=Lib.hid htab
 have HB1:=Lib.hid b1
 have HQ1:=Lib.hid q1
 have S1:=Lib.hid s1
 have HPR:=Lib.hid hprod
 have h40d : decide ((40 : Int) < (m : Int)) = false:=by simp; omega
 unfold maxLen at hvm
 clear hv hx hgood hparts hok htab b1 q1 s1 hs hsc hm hn hT hW1 hprod
 go_enter Tryz.func13,Tryz.ntmps13
 go_upto_region 1 with fail
 simp only [HT.out]
 rw [HW.out]
 go_wp2_with fail
 refine HS.out.mono ?_
 clear HS
 rintro en w2 ⟨lv,rfl,hown2,hb2⟩
 have hlv:=hown2.read
 obtain ⟨sa,sm,rfl,hsl,hsm⟩:=hlv.form
 rw [HN.out] at hlv hsl hown2 ⊢
 have HZS:=Lib.hid hown2.zed
 have HLV:=Lib.hid hlv
 have HB2:=Lib.hid hb2
 have hs2 : T + 1 <= w2.heap.size:=by have := hb2.size; have := S1.out; omega
 clear hlv hb2 hown2
 go_upto_region 6 with fail
 have hmk:=make_intsD n (by omega)
 have hK2 : K <= T:=hK
 refine region_plain (fun _ => True) [] (by kernel_rfl) ?_
 refine wpAnyD_tp (i:=0) (v:=.slice sa n sm) rfl trivial ?_
 refine wpAnyD_tp (i:=1) (v:=.agg #[.slice sa n sm,.slice none 0 0,.slice none 0 0,.int .i64 0]) rfl trivial ?_
 refine wpAnyD_tp (i:=2) (v:=.slice sa n sm) rfl trivial ?_
 refine wpAnyD_tp (i:=4) (v:=.slice sa n sm) rfl trivial ?_
 refine wpAnyD_tp (i:=5) (v:=.int .i64 n) rfl trivial ?_
 have hAA : ∃ AA : (Nat -> Value) -> Act,AA = (fun x => { tmps:=List.toArray (.slice va m vm :: undef :: .pointer (some ⟨T,0,none⟩) :: .int .i64 0 :: .slice sa n sm :: .int .i64 0 :: x 10 :: undef :: undef :: undef :: undef :: undef :: .slice va m vm :: .int .i64 m :: .bool false :: undef :: .tuple #[.slice sa n sm,.int .i64 0] :: .slice va m vm :: .tuple #[.slice sa n sm,.int .i64 0] :: .slice sa n sm :: .int .i64 0 :: .int .i64 0 :: .bool false :: undef :: undef :: .slice sa n sm :: .agg #[.slice sa n sm,.slice none 0 0,.slice none 0 0,.int .i64 0] :: .slice sa n sm :: x 3 :: .slice sa n sm :: .int .i64 n :: x 6 :: x 7 :: x 8 :: x 9 :: undef :: undef :: undef :: undef :: undef :: undef :: undef :: undef :: undef :: undef :: undef :: undef :: undef :: undef :: undef :: undef :: undef :: undef :: undef :: undef :: undef :: undef :: undef :: undef :: undef :: undef :: undef :: undef :: undef :: undef :: undef :: undef :: undef :: undef :: []),defers:=[] }):=⟨_,rfl⟩
 obtain ⟨AA,hAA⟩:=hAA
 refine wpAnyD_free' (J:=J6) (by decide) lst6 AA (fun d x W => ∃ bk lo hi gv,NewB scs n w2.heap.size w2 d x bk lo hi gv W /\ w2.heap.size <= W.heap.size /\ (d 9 = true -> x 9 = .agg #[.slice sa n sm,.slice none 0 0,.slice none 0 0,.int .i64 0,.slice none 0 0,x 3,x 6,x 7,x 8] /\ d 3 = true /\ d 6 = true /\ d 7 = true /\ d 8 = true)) (fuel0:=1) (by kernel_rfl) (by rw [hAA]; rfl) rfl ?_ ?_ ?_ ?_ ?_
 ·exact ⟨fun _ => 0,0,0,fun _ => undef,⟨below_quiet (Below.refl _ _),fun j _ h => (by cases h),fun i j _ _ _ h => (by cases h),fun h => (by cases h),fun h => (by cases h),fun h => (by cases h),fun h => (by cases h),fun h => (by cases h),fun h => (by cases h)⟩,Nat.le_refl _,fun h => (by cases h)⟩
 ·intro d j hj
  unfold J6 at hj
  simp only [List.mem_cons,List.not_mem_nil,or_false] at hj
  rcases hj with rfl | rfl | rfl | rfl | rfl | rfl <;> rfl
 ·intro d hex
  refine ready_chk d ?_
  have hall6 : (d 3 && d 6 && d 7 && d 8 && d 9 && d 10) = false:=by
   obtain ⟨j,hj,hdj⟩:=hex
   unfold J6 at hj
   simp only [List.mem_cons,List.not_mem_nil,or_false] at hj
   rcases hj with rfl | rfl | rfl | rfl | rfl | rfl <;> simp [hdj]
  have hl : lst6 d = #[true,true,true,d 3,true,true,d 6,d 7,d 8,d 9,d 10,false]:=rfl
  rw [hl]
  clear hl hex
  generalize d 3 = b3 at hall6 ⊢
  generalize d 6 = b6 at hall6 ⊢
  generalize d 7 = b7 at hall6 ⊢
  generalize d 8 = b8 at hall6 ⊢
  generalize d 9 = b9 at hall6 ⊢
  generalize d 10 = b10 at hall6 ⊢
  clear hAA
  cases b3 <;> cases b6 <;> cases b7 <;> cases b8 <;> cases b9 <;> cases b10 <;> first | (exact absurd hall6 (by decide)) | (show (_ : Bool) = true; kernel_rfl)
 ·intro d x W hI j hj hd hrdy
  obtain ⟨bk,lo,hi,gv,hnb,hKW,h9⟩:=hI
  unfold J6 at hj
  simp only [List.mem_cons,List.not_mem_nil,or_false] at hj
  rcases hj with rfl | rfl | rfl | rfl | rfl | rfl
  ·refine ⟨_,rfl,rfl,?_⟩
   suffices h : ∀ KK : Act -> World -> Prop,(∀ v W',(∃ bk lo hi gv,NewB scs n w2.heap.size w2 (updB d 3) (updV x 3 v) bk lo hi gv W' /\ w2.heap.size <= W'.heap.size /\ (updB d 3 9 = true -> updV x 3 v 9 = .agg #[.slice sa n sm,.slice none 0 0,.slice none 0 0,.int .i64 0,.slice none 0 0,updV x 3 v 3,updV x 3 v 6,updV x 3 v 7,updV x 3 v 8] /\ updB d 3 3 = true /\ updB d 3 6 = true /\ updB d 3 7 = true /\ updB d 3 8 = true)) -> KK (AA (updV x 3 v)) W') -> Oper.wp Tryz.prog _ _ W KK _ from h _ fun v W' hI' => ⟨fun _ => trivial,v,rfl,hI'⟩
   intro KK hKK
   rw [hAA] at hKK ⊢
   go_simp
   refine (dposs_any w2.heap.size (.slice sa n sm) scs W (HLV.out.below hnb.bel (Nat.le_refl _) (Nat.le_refl _)) (fun s hs => ⟨(HOK.out s hs).1,(HOK.out s hs).2.1⟩) (by rw [HN.out]; exact hn20) hKW).mono ?_
   rintro en w3 ⟨pv,pvs,pF,rfl,hno,hb3⟩
   have hz:=NO.zed hno
   have hlen : (scs.map cellsS).length = n:=by rw [List.length_map]; exact HN.out
   obtain ⟨pa,pc,hpf,_,_⟩:=hno.own.form
   rw [List.length_zipWith,hno.len,Nat.min_self,hlen] at hpf
   rw [hlen] at hz
   exact hKK pv w3 ⟨bk,_,_,_,hnb.poss hKW ⟨pa,pc,hpf⟩ hb3 hz,Nat.le_trans hKW hb3.size,fun e9 => by rw [updB_ne d (by decide)] at e9; rw [(h9 e9).2.1] at hd; cases hd⟩
  ·refine ⟨_,rfl,rfl,?_⟩
   suffices h : ∀ KK : Act -> World -> Prop,(∀ v W',(∃ bk lo hi gv,NewB scs n w2.heap.size w2 (updB d 6) (updV x 6 v) bk lo hi gv W' /\ w2.heap.size <= W'.heap.size /\ (updB d 6 9 = true -> updV x 6 v 9 = .agg #[.slice sa n sm,.slice none 0 0,.slice none 0 0,.int .i64 0,.slice none 0 0,updV x 6 v 3,updV x 6 v 6,updV x 6 v 7,updV x 6 v 8] /\ updB d 6 3 = true /\ updB d 6 6 = true /\ updB d 6 7 = true /\ updB d 6 8 = true)) -> KK (AA (updV x 6 v)) W') -> Oper.wp Tryz.prog _ _ W KK _ from h _ fun v W' hI' => ⟨fun _ => trivial,v,rfl,hI'⟩
   intro KK hKK
   rw [hAA] at hKK ⊢
   go_simp
   exact hKK (.slice (some ⟨W.heap.size,0,none⟩) n n) (W.alloc (.cells (arrD n fun _ => .int .i64 0) 3)) ⟨_,_,_,_,hnb.add hKW (j:=6) (by decide) (.slice (some ⟨W.heap.size,0,none⟩) n n) (.cells (arrD n fun _ => .int .i64 0) 3) (fun e => ⟨rfl,rfl⟩) (fun e => absurd e (by decide)) (fun e => absurd e (by decide)) (fun e => absurd e (by decide)),by simp; omega,fun e9 => by rw [updB_ne d (by decide)] at e9; rw [(h9 e9).2.2.1] at hd; cases hd⟩
  ·refine ⟨_,rfl,rfl,?_⟩
   suffices h : ∀ KK : Act -> World -> Prop,(∀ v W',(∃ bk lo hi gv,NewB scs n w2.heap.size w2 (updB d 7) (updV x 7 v) bk lo hi gv W' /\ w2.heap.size <= W'.heap.size /\ (updB d 7 9 = true -> updV x 7 v 9 = .agg #[.slice sa n sm,.slice none 0 0,.slice none 0 0,.int .i64 0,.slice none 0 0,updV x 7 v 3,updV x 7 v 6,updV x 7 v 7,updV x 7 v 8] /\ updB d 7 3 = true /\ updB d 7 6 = true /\ updB d 7 7 = true /\ updB d 7 8 = true)) -> KK (AA (updV x 7 v)) W') -> Oper.wp Tryz.prog _ _ W KK _ from h _ fun v W' hI' => ⟨fun _ => trivial,v,rfl,hI'⟩
   intro KK hKK
   rw [hAA] at hKK ⊢
   go_simp
   exact hKK (.map (some W.heap.size)) (W.alloc (.map #[] 0)) ⟨_,_,_,_,hnb.add hKW (j:=7) (by decide) (.map (some W.heap.size)) (.map #[] 0) (fun e => absurd e (by decide)) (fun e => ⟨rfl,rfl⟩) (fun e => absurd e (by decide)) (fun e => absurd e (by decide)),by simp; omega,fun e9 => by rw [updB_ne d (by decide)] at e9; rw [(h9 e9).2.2.2.1] at hd; cases hd⟩
  ·refine ⟨_,rfl,rfl,?_⟩
   suffices h : ∀ KK : Act -> World -> Prop,(∀ v W',(∃ bk lo hi gv,NewB scs n w2.heap.size w2 (updB d 8) (updV x 8 v) bk lo hi gv W' /\ w2.heap.size <= W'.heap.size /\ (updB d 8 9 = true -> updV x 8 v 9 = .agg #[.slice sa n sm,.slice none 0 0,.slice none 0 0,.int .i64 0,.slice none 0 0,updV x 8 v 3,updV x 8 v 6,updV x 8 v 7,updV x 8 v 8] /\ updB d 8 3 = true /\ updB d 8 6 = true /\ updB d 8 7 = true /\ updB d 8 8 = true)) -> KK (AA (updV x 8 v)) W') -> Oper.wp Tryz.prog _ _ W KK _ from h _ fun v W' hI' => ⟨fun _ => trivial,v,rfl,hI'⟩
   intro KK hKK
   rw [hAA] at hKK ⊢
   go_simp
   exact hKK (.map (some W.heap.size)) (W.alloc (.map #[] 0)) ⟨_,_,_,_,hnb.add hKW (j:=8) (by decide) (.map (some W.heap.size)) (.map #[] 0) (fun e => absurd e (by decide)) (fun e => absurd e (by decide)) (fun e => ⟨rfl,rfl⟩) (fun e => absurd e (by decide)),by simp; omega,fun e9 => by rw [updB_ne d (by decide)] at e9; rw [(h9 e9).2.2.2.2] at hd; cases hd⟩
  ·refine ⟨_,rfl,rfl,?_⟩
   suffices h : ∀ KK : Act -> World -> Prop,(∀ v W',(∃ bk lo hi gv,NewB scs n w2.heap.size w2 (updB d 10) (updV x 10 v) bk lo hi gv W' /\ w2.heap.size <= W'.heap.size /\ (updB d 10 9 = true -> updV x 10 v 9 = .agg #[.slice sa n sm,.slice none 0 0,.slice none 0 0,.int .i64 0,.slice none 0 0,updV x 10 v 3,updV x 10 v 6,updV x 10 v 7,updV x 10 v 8] /\ updB d 10 3 = true /\ updB d 10 6 = true /\ updB d 10 7 = true /\ updB d 10 8 = true)) -> KK (AA (updV x 10 v)) W') -> Oper.wp Tryz.prog _ _ W KK _ from h _ fun v W' hI' => ⟨fun _ => trivial,v,rfl,hI'⟩
   intro KK hKK
   rw [hAA] at hKK ⊢
   go_simp
   exact hKK (.pointer (some ⟨W.heap.size,0,none⟩)) (W.alloc (.cells #[.slice none 0 0,.slice none 0 0,.slice none 0 0,.int .i64 0,.slice none 0 0,.slice none 0 0,.slice none 0 0,.map none,.map none] 111)) ⟨_,_,_,_,hnb.add hKW (j:=10) (by decide) (.pointer (some ⟨W.heap.size,0,none⟩)) (.cells #[.slice none 0 0,.slice none 0 0,.slice none 0 0,.int .i64 0,.slice none 0 0,.slice none 0 0,.slice none 0 0,.map none,.map none] 111) (fun e => absurd e (by decide)) (fun e => absurd e (by decide)) (fun e => absurd e (by decide)) (fun e => ⟨rfl,rfl⟩),by simp; omega,fun e9 => by
    rw [updB_ne d (by decide)] at e9
    obtain ⟨g1,g2,g3,g4,g5⟩:=h9 e9
    rw [updV_ne x _ (by decide),updV_ne x _ (by decide),updV_ne x _ (by decide),updV_ne x _ (by decide),updV_ne x _ (by decide),updB_ne d (by decide),updB_ne d (by decide),updB_ne d (by decide),updB_ne d (by decide)]
    exact ⟨g1,g2,g3,g4,g5⟩⟩
  ·refine ⟨_,rfl,rfl,?_⟩
   suffices h : ∀ KK : Act -> World -> Prop,(∀ v W',(∃ bk lo hi gv,NewB scs n w2.heap.size w2 (updB d 9) (updV x 9 v) bk lo hi gv W' /\ w2.heap.size <= W'.heap.size /\ (updB d 9 9 = true -> updV x 9 v 9 = .agg #[.slice sa n sm,.slice none 0 0,.slice none 0 0,.int .i64 0,.slice none 0 0,updV x 9 v 3,updV x 9 v 6,updV x 9 v 7,updV x 9 v 8] /\ updB d 9 3 = true /\ updB d 9 6 = true /\ updB d 9 7 = true /\ updB d 9 8 = true)) -> KK (AA (updV x 9 v)) W') -> Oper.wp Tryz.prog _ _ W KK _ from h _ fun v W' hI' => ⟨fun _ => trivial,v,rfl,hI'⟩
   intro KK hKK
   rw [hAA] at hKK ⊢
   obtain ⟨_,oj,hoj,hall⟩:=mem_ready.1 hrdy
   cases hoj
   have d3 : d 3 = true:=hall ⟨3,.data⟩ (by simp) rfl
   have d6 : d 6 = true:=hall ⟨6,.data⟩ (by simp) rfl
   have d7 : d 7 = true:=hall ⟨7,.data⟩ (by simp) rfl
   have d8 : d 8 = true:=hall ⟨8,.data⟩ (by simp) rfl
   obtain ⟨⟨pa,pc,hx3⟩,_⟩:=hnb.c3 d3
   have hx6:=(hnb.c6 d6).1
   have hx7:=(hnb.c7 d7).1
   have hx8:=(hnb.c8 d8).1
   dsimp only
   rw [hx3,hx6,hx7,hx8]
   go_simp
   have hk:=hKK (.agg #[.slice sa n sm,.slice none 0 0,.slice none 0 0,.int .i64 0,.slice none 0 0,.slice pa n pc,.slice (some ⟨bk 6,0,none⟩) n n,.map (some (bk 7)),.map (some (bk 8))]) W ⟨bk,lo,hi,gv,hnb.nine _,hKW,fun _ => by
    rw [updV_self,updV_ne x _ (show 3 ≠ 9 by decide),updV_ne x _ (show 6 ≠ 9 by decide),updV_ne x _ (show 7 ≠ 9 by decide),updV_ne x _ (show 8 ≠ 9 by decide),hx3,hx6,hx7,hx8,updB_ne d (show 3 ≠ 9 by decide),updB_ne d (show 6 ≠ 9 by decide),updB_ne d (show 7 ≠ 9 by decide),updB_ne d (show 8 ≠ 9 by decide)]
    exact ⟨rfl,d3,d6,d7,d8⟩⟩
   dsimp only at hk
   rw [updV_self,updV_ne x _ (show 3 ≠ 9 by decide),updV_ne x _ (show 6 ≠ 9 by decide),updV_ne x _ (show 7 ≠ 9 by decide),updV_ne x _ (show 8 ≠ 9 by decide),updV_ne x _ (show 10 ≠ 9 by decide),hx3,hx6,hx7,hx8] at hk
   exact hk
 ·intro d x W hI hall
  obtain ⟨bk,lo,hi,gv,hnb,hKW,h9⟩:=hI
  have d3:=hall 3 (by decide)
  have d6:=hall 6 (by decide)
  have d7:=hall 7 (by decide)
  have d8:=hall 8 (by decide)
  have d9:=hall 9 (by decide)
  have d10:=hall 10 (by decide)
  have hx9:=(h9 d9).1
  obtain ⟨⟨pa,pc,hx3⟩,hzp⟩:=hnb.c3 d3
  simp only [hx3] at hzp
  obtain ⟨hx6,q6⟩:=hnb.c6 d6
  obtain ⟨hx7,q7⟩:=hnb.c7 d7
  obtain ⟨hx8,q8⟩:=hnb.c8 d8
  obtain ⟨hx10,q10⟩:=hnb.c10 d10
  have hl : lst6 d = #[true,true,true,true,true,true,true,true,true,true,true,false]:=by unfold lst6; rw [d3,d6,d7,d8,d9,d10]
  rw [hl,hAA]
  dsimp only
  rw [hx9,hx10,hx3,hx6,hx7,hx8]
  refine wpAnyD_one (i:=11) (by kernel_rfl) rfl (by kernel_rfl) ?_
  refine wp_store_blkD 111 111 (.tmp 6) (.tmp 34) rfl #[.slice sa n sm,.slice none 0 0,.slice none 0 0,.int .i64 0,.slice none 0 0,.slice pa n pc,.slice (some ⟨bk 6,0,none⟩) n n,.map (some (bk 7)),.map (some (bk 8))] _ (bk 10) q10 infoBuildN rfl (by simp [Value.oneCell']) rfl rfl ?_
  intro W3 t1 t2 t3 t4
  refine ⟨fun _ => trivial,?_⟩
  refine wpAnyD_done (by kernel_rfl) ?_ _
  go_simp
  have r10:=hnb.rng 10 (by decide) d10
  have r6:=hnb.rng 6 (by decide) d6
  have r7:=hnb.rng 7 (by decide) d7
  have r8:=hnb.rng 8 (by decide) d8
  have n1:=hnb.dis 10 6 (by decide) (by decide) (by decide) d10 d6
  have n2:=hnb.dis 10 7 (by decide) (by decide) (by decide) d10 d7
  have n3:=hnb.dis 10 8 (by decide) (by decide) (by decide) d10 d8
  have n4:=hnb.dis 6 7 (by decide) (by decide) (by decide) d6 d7
  have n5:=hnb.dis 6 8 (by decide) (by decide) (by decide) d6 d8
  have n6:=hnb.dis 7 8 (by decide) (by decide) (by decide) d7 d8
  obtain ⟨o1,o2,o3,o4⟩:=hnb.out d3
  have p10:=o4 10 (by decide) d10
  have p6:=o4 6 (by decide) d6
  have p7:=o4 7 (by decide) d7
  have p8:=o4 8 (by decide) d8
  have hbel:=hnb.bel
  obtain ⟨bb,hbb⟩ : ∃ b,bk 10 = b:=⟨_,rfl⟩
  obtain ⟨cb,hcb⟩ : ∃ b,bk 6 = b:=⟨_,rfl⟩
  obtain ⟨nm,hnm⟩ : ∃ b,bk 7 = b:=⟨_,rfl⟩
  obtain ⟨lm,hlm⟩ : ∃ b,bk 8 = b:=⟨_,rfl⟩
  rw [hbb] at r10 n1 n2 n3 p10 t1 t2 t3
  rw [hcb] at r6 n1 n4 n5 p6 t1 q6
  rw [hnm] at r7 n2 n4 n6 p7 t1 q7
  rw [hlm] at r8 n3 n5 n6 p8 t1 q8
  rw [hbb,hcb,hnm,hlm]
  have hch : ∀ b,b ≠ bb -> W3.heap[b]? = W.heap[b]? := fun b hb => by
   by_cases h : b < W.heap.size
   ·exact t3.block b h (by simpa using hb)
   ·rw [Array.getElem?_eq_none (by omega),Array.getElem?_eq_none (by omega)]
  have qc3 : Blk W3 cb (arrD n fun _ => .int .i64 0) 3:=(hch cb n1.symm).trans q6
  have qn3 : MapIs W3 9 nm 0 (fun _ => none):=q7.kept t3 (by simpa using n2.symm)
  have ql3 : MapIs W3 9 lm 0 (fun _ => none):=q8.kept t3 (by simpa using n3.symm)
  have hzp3:=hzp.move (w':=W3) (Agr.of fun b hb => hch b (by have := hb.1; have := hb.2; omega))
  have hbel3 : Below w2.heap.size w2 W3:=hbel.trans (t2 _ r10.1)
  have HQB:=Lib.hid t1
  have HQC:=Lib.hid qc3
  have HQN:=Lib.hid qn3
  have HQL:=Lib.hid ql3
  have HZP:=Lib.hid hzp3
  have HBEL:=Lib.hid hbel3
  have hL : W3.heap.size = W.heap.size:=t4
  obtain ⟨L,hLL⟩ : ∃ L,W3.heap.size = L:=⟨_,rfl⟩
  have HLL:=Lib.hid hLL
  have HRG : Hid ((w2.heap.size <= bb /\ bb < L) /\ (w2.heap.size <= cb /\ cb < L) /\ (w2.heap.size <= nm /\ nm < L) /\ (w2.heap.size <= lm /\ lm < L)):=Lib.hid (by omega)
  have HNE : Hid (bb ≠ cb /\ bb ≠ nm /\ bb ≠ lm /\ cb ≠ nm /\ cb ≠ lm /\ nm ≠ lm):=Lib.hid ⟨n1,n2,n3,n4,n5,n6⟩
  have HPO : Hid (w2.heap.size <= lo /\ lo <= hi /\ hi <= L /\ (bb < lo \/ hi <= bb) /\ (cb < lo \/ hi <= cb) /\ (nm < lo \/ hi <= nm) /\ (lm < lo \/ hi <= lm)):=Lib.hid ⟨o1,o2,by omega,p10,p6,p7,p8⟩
  have hpne : Hid (∀ p ∈ pcs scs,p ≠ []):=Lib.hid fun p hp => by
   unfold pcs at hp
   obtain ⟨s,hs,rfl⟩:=List.mem_map.1 hp
   exact (HOK.out s hs).2.2.1
  have hPl : (pcs scs).length = n:=by unfold pcs; rw [List.length_map]; exact HN.out
  have HPL:=Lib.hid hPl
  have c5 : W3.cell? ⟨bb,5,none⟩ = some (.slice pa n pc):=HQB.out.at rfl
  have hp0 : prodL ((pcs scs).take 0) = 1:=rfl
  have HP0:=Lib.hid hp0
  clear hnb h9 hx9 hx3 hx6 hx7 hx8 hx10 hzp q6 q7 q8 q10 hl d3 d6 d7 d8 d9 d10 hall hKW t1 t2 t3 t4 r10 r6 r7 r8 n1 n2 n3 n4 n5 n6 o1 o2 o3 o4 p10 p6 p7 p8 hbel hbb hcb hnm hlm hch qc3 qn3 ql3 hzp3 hbel3 hL hLL hPl hp0 hAA
  apply (show ∀ (a : Act) (w : World),_ -> _ from by assumption)
  go_wp2_with fail
  go_loopw [7,38] (fun rv iv wr => W3 = wr /\ ∃ i : Nat,i <= n /\ rv = .int .i64 (prodL ((pcs scs).take i) : Nat) /\ iv = .int .i64 i) (fun _ iv _ => n - (intOf iv).toNat)
  case atStart => exact ⟨rfl,0,Nat.zero_le _,by rw [HP0.out]; rfl,rfl⟩
  case round =>
   obtain ⟨rfl,i,hi',rfl,rfl⟩:=hrel
   by_cases hlt : i < n
   ·obtain ⟨hgR,hgN⟩:=HZP.out.get fun b hb => by have := hb.2; have := HPO.out.2.2.1; have := HLL.out; omega
    obtain ⟨pb,po,pcap,he,_,_,_,hpcl⟩:=hgR.pos (by omega)
    simp only [Value.slice.injEq,true_and] at he
    obtain ⟨rfl,rfl⟩:=he
    obtain ⟨pp,hpp⟩ : ∃ pp,(pcs scs)[i]? = some pp:=⟨_,List.getElem?_eq_getElem (by rw [HPL.out]; exact hlt)⟩
    have hgi:=hgN i hlt
    rw [hpp,Option.getD_some] at hgi
    obtain ⟨ga,gc,hgf,_,_⟩:=hgi.form
    obtain ⟨k,hk⟩ : ∃ k,pp.length = k:=⟨_,rfl⟩
    rw [hk] at hgf
    have e1 : W3.cell? ⟨pb,po + i,none⟩ = some (.slice ga k gc):=by have := hpcl i hlt 0 (by omega); rw [hgf] at this; simpa using this
    have hts : prodL ((pcs scs).take (i + 1)) = prodL ((pcs scs).take i) * k:=by rw [take_snoc hpp,prodL_snoc,hk]
    have hle:=Nat.le_trans (prodL_take hpne.out (i + 1)) HPR.out
    obtain ⟨q1,hq1⟩ : ∃ q,prodL ((pcs scs).take i) = q:=⟨_,rfl⟩
    obtain ⟨q2,hq2⟩ : ∃ q,prodL ((pcs scs).take (i + 1)) = q:=⟨_,rfl⟩
    rw [hq2] at hts hle
    rw [hq1] at hts ⊢
    have hw : IntKind.i64.wrap ((q1 : Int) * (k : Int)) = (q2 : Int):=by rw [hts,Int.natCast_mul]; exact IntWalk.i64_in _ (by rw [<- Int.natCast_mul,<- hts]; omega)
    have hgt : decide ((8192 : Int) < (q2 : Int)) = false:=decide_eq_false (by omega)
    have HQ2:=Lib.hid hq2
    clear hgR hgN hpcl hgi hpp hk hgf hts hle hq1 hq2
    go_wp2_with fail
    exact ⟨⟨trivial,i + 1,by omega,by rw [HQ2.out],by go_num⟩,by simp [intOf]; omega⟩
   ·obtain rfl : i = n:=by omega
    clear hi' hlt
    go_wp2_with fail
    have HMs:=HM.out
    clear HMs
    go_loopw [52] (fun iv wr => ∃ (j : Nat) (vs : List Value) (ca : Option Addr) (cm : Nat),j <= m /\ iv = .int .i64 j /\ Blk wr bb (bldC sa i sm (.slice ca j cm) pa pc cb nm lm) 111 /\ CdOk scs es L j ca cm vs wr /\ L <= wr.heap.size /\ Hid (Below w2.heap.size w2 wr) /\ Hid (∀ b,b < L -> b ≠ bb -> wr.heap[b]? = W3.heap[b]?)) (fun iv _ => m - (intOf iv).toNat)
    case atStart => exact ⟨0,[],none,0,Nat.zero_le _,rfl,HQB.out,⟨OwnR.nil _ _ _ _,rfl,fun i hi => absurd hi (Nat.not_lt_zero i)⟩,by rw [HLL.out]; exact Nat.le_refl _,HBEL,Lib.hid fun b _ _ => rfl⟩
    case round =>
     obtain ⟨j,vs,ca,cm,hj,rfl,hq,hcd,hsr,HBR,HKP⟩:=hrel
     obtain ⟨wo,rfl⟩ : ∃ wo : World,wo = wr:=⟨_,rfl⟩
     have HQ:=Lib.hid hq
     have HCD:=Lib.hid hcd
     by_cases hlt : j < m
     ·obtain ⟨b,o,cap,he,_,_,hbK,hc⟩:=HV.out.pos (by omega)
      simp only [Value.slice.injEq,true_and] at he
      obtain ⟨rfl,rfl⟩:=he
      have bTo : Below T w wo:=(HB1.out.trans (HB2.out.mono (by have := S1.out; omega))).trans (HBR.out.mono (by omega))
      have hrg:=xv_range (cells_below bTo (by omega) hc) hlt
      obtain ⟨ea,hea⟩ : ∃ a,es[j]? = some a:=⟨_,List.getElem?_eq_getElem (by rw [HM.out]; exact hlt)⟩
      have hae:=HX.out j ea hea
      have heam : ea ∈ es:=List.mem_of_getElem? hea
      obtain ⟨y,hy⟩ : ∃ y,g j = y:=⟨_,rfl⟩
      rw [hy] at hrg hae
      have H1C : Hid (∀ u ∈ y.cells,u.oneCell' = true):=Lib.hid (by simp [Value.oneCell'])
      have hzo:=HZP.out.move (w':=wo) (Agr.of fun b hb => HKP.out b (by have := hb.2; have := HPO.out; omega) (by have := hb.1; have := hb.2; have := HPO.out; omega))
      have HZO:=Lib.hid hzo
      have HAE:=Lib.hid hae
      have HEA:=Lib.hid hea
      have HEM:=Lib.hid heam
      have HBTO:=Lib.hid bTo
      clear hc hq hcd hy hae hea heam hzo bTo
      go_upto_region 18 with (first
       | (refine wpList_load_mid rfl 49 (.tmp 54) rfl b (o + j * 9) rfl y.cells.toList _ hrg Tryz.underlying49 rfl infoExprM ?_)
       | (refine wpList_store_new rfl 49 (.tmp 11) (.tmp 55) rfl y.cells _ infoExprM rfl H1C.out wo.heap.size rfl rfl rfl ?_))
      obtain ⟨A0,hA0⟩ : ∃ A0,wo.heap.size = A0:=⟨_,rfl⟩
      obtain ⟨W4,hW4⟩ : ∃ W,wo.alloc (.cells y.cells 49) = W:=⟨_,rfl⟩
      have b4 : Below A0 wo W4:=by rw [<- hW4,<- hA0]; exact (Below.refl _ _).alloc (Nat.le_refl _) _
      have q4 : Blk W4 A0 y.cells 49:=by rw [<- hW4,<- hA0]; exact Blk.new wo _ _
      have s4 : W4.heap.size = A0 + 1:=by rw [<- hW4,<- hA0]; simp
      rw [hA0]
      rw [hW4]
      have hrg1:=HRG.out
      have hLA : L <= A0:=by omega
      have qb4 : Blk W4 bb (bldC sa i sm (.slice ca j cm) pa pc cb nm lm) 111:=HQ.out.below b4 (by omega)
      have hbo : Below w2.heap.size w2 W4.drew:=(HBR.out.trans (b4.mono (by omega))).trans (below_quiet (Below.refl _ _))
      have hbT : Below T w W4.drew:=(HBTO.out.trans (b4.mono (by omega))).trans (below_quiet (Below.refl _ _))
      have hs4 : A0 + 1 <= W4.heap.size:=by omega
      have hbc : BC bb ⟨sa,i,sm⟩ ⟨pa,i,pc⟩ scs gv W4.drew.heap.size W4.drew:=by
       obtain ⟨z1,z2⟩:=HZO.out W4.drew W4.heap.size (agr_below (b4.trans (below_quiet (Below.refl _ _))) fun b hb => by have := hb.2; have := HPO.out; omega) fun b hb => by have := hb.2; have := HPO.out; omega
       refine ⟨⟨_,qb4,rfl,rfl⟩,by show bb < W4.heap.size; omega,HLV.out.below hbo (Nat.le_refl _) (by show w2.heap.size <= W4.heap.size; omega),by rw [HN.out]; exact z1,fun k hk => ?_⟩
       have := z2 k (by rw [<- HN.out]; exact hk)
       unfold pcs at this
       rw [List.getElem?_map,List.getElem?_eq_getElem hk] at this
       rw [List.getElem?_eq_getElem hk]
       exact this
      have hca:=dcond_any bb ⟨sa,i,sm⟩ ⟨pa,i,pc⟩ scs gv HOK.out (by rw [HN.out]; exact hn20) ea.parts ea (Nat.le_refl _) (HPT.out ea HEM.out) (HG.out ea HEM.out) y W4.drew hbc (HAE.out.below hbT hK2 (by show K <= W4.heap.size; omega))
      have HCA:=Lib.hid hca
      have HQ4:=Lib.hid q4
      have HQB4:=Lib.hid qb4
      have HB4:=Lib.hid b4
      have HWO:=Lib.hid hA0
      have S4:=Lib.hid s4
      have hlow : ∀ r,(Value.slice ca j cm).ownBlock = some r -> L <= r:=fun r hr => HCD.out.own.low hr
      have hlt2 : ∀ r,(Value.slice ca j cm).ownBlock = some r -> r < A0:=fun r hr => by have := HCD.out.own.lt hr; omega
      have HLOW:=Lib.hid hlow
      have HLT:=Lib.hid hlt2
      have qS : (fun W' => Blk W' bb (bldC sa i sm (.slice ca j cm) pa pc cb nm lm) 111 /\ Blk W' A0 y.cells 49) W4.drew:=⟨qb4,q4⟩
      clear hca hbc hW4 b4 q4 s4 hA0 hrg H1C qb4 hbo hbT hlow hlt2
      refine region_plain (fun W' => Blk W' bb (bldC sa i sm (.slice ca j cm) pa pc cb nm lm) 111 /\ Blk W' A0 y.cells 49) [7] (by kernel_rfl) ?_
      refine wpAnyD_tp (i:=0) (v:=.pointer (some ⟨bb,4,none⟩)) rfl qS ?_
      refine wpAnyD_tk (i:=1) (v:=.slice ca j cm) rfl (.inl ⟨by kernel_rfl,fun W' hS => by have u0 : W'.cell? ⟨bb,4,none⟩ = some (.slice ca j cm):=hS.1.at rfl; go_simp⟩) qS ?_
      refine wpAnyD_tk (i:=2) (v:=y.agg) rfl (yieldsIf_load_mid (by kernel_rfl) 49 (.tmp 11) rfl A0 0 rfl y.cells.toList _ (fun W' hS => hS.2.range) Tryz.underlying49 rfl infoExprM) qS ?_
      refine wpAnyD_one (i:=3) (by kernel_rfl) rfl (by kernel_rfl) ?_
      go_simp
      refine HCA.out.mono ?_
      rintro en w5 ⟨u,rfl,hz5,hb5⟩
      have hb5 : Below W4.heap.size W4.drew w5:=hb5
      have b45 : Below W4.heap.size W4 w5:=(below_quiet (Below.refl _ _)).trans hb5
      have qb5:=HQB4.out.below b45 HQB4.out.lt
      have qa5:=HQ4.out.below b45 HQ4.out.lt
      refine ⟨⟨qb5,qa5⟩,?_⟩
      obtain ⟨gg,caps,rfl,_,_⟩:=hz5.get fun b hb => hb.2
      have hs5:=b45.size
      have bA : Below A0 wo w5:=HB4.out.trans (b45.mono (by omega))
      have ho5:=HCD.out.own.old bA (by rw [HWO.out]; exact Nat.le_refl _)
      have hb6 : Below w5.heap.size w5 (w5.alloc (.cells #[.func (.func gg) #[] caps] 113)):=(Below.refl _ _).alloc (Nat.le_refl _) _
      have HO6 : Hid (OwnR 1 113 L (w5.alloc (.cells #[.func (.func gg) #[] caps] 113)) (.slice ca j cm) (vs.map fun u => [u])):=Lib.hid (ho5.old hb6 (Nat.le_refl _))
      obtain ⟨RS,hRS⟩ : ∃ RS,vs.map (fun u : Value => [u]) = RS:=⟨_,rfl⟩
      have HRL : Hid (RS.length = j):=Lib.hid (by rw [<- hRS,List.length_map]; exact HCD.out.len)
      rw [hRS] at HO6
      have HRS:=Lib.hid hRS
      have HROW1 : Hid (RowsOk 1 [[.func (.func gg) #[] caps]]):=Lib.hid (RowsOk.one rfl fun u hu => by rw [List.mem_singleton.1 hu]; rfl)
      have HRC : Hid (∀ (i : Nat) (r : List Value) (jj : Nat) (u : Value),([[.func (.func gg) #[] caps]] : List (List Value))[i]? = some r -> r[jj]? = some u -> (w5.alloc (.cells #[.func (.func gg) #[] caps] 113)).cell? ⟨w5.heap.size,0 + (i * 1 + jj),none⟩ = some u):=Lib.hid fun i r jj u h1 h2 => by
       have hi0 : i = 0:=by have := (List.getElem?_eq_some_iff.1 h1).1; simp at this; omega
       subst hi0
       cases h1
       have hj0 : jj = 0:=by have := (List.getElem?_eq_some_iff.1 h2).1; simp at this; omega
       subst hj0
       cases h2
       exact (Blk.new w5 #[.func (.func gg) #[] caps] 113).at rfl
      have HZ5:=Lib.hid hz5
      have HBA:=Lib.hid bA
      have HB45:=Lib.hid b45
      have qb6:=qb5.alloc (.cells #[.func (.func gg) #[] caps] 113)
      have qa6:=qa5.alloc (.cells #[.func (.func gg) #[] caps] 113)
      have hL5 : L <= w5.heap.size:=by omega
      clear hRS hz5 bA ho5 hb6 b45 hb5 qS
      refine wpAnyD_one (i:=4) (by kernel_rfl) rfl (by kernel_rfl) ?_
      go_simp
      refine wpAnyD_one (i:=5) (by kernel_rfl) rfl (by kernel_rfl) ?_
      refine wp_append_rows (.tmp 57) (.tmp 60) 109 rfl Tryz.underlying109 infoCond (by kernel_rfl) (by decide) (by simp [Act.eval]) HO6.out (b:=w5.heap.size) (off:=0) (m:=1) (cap:=1) (ms:=[[.func (.func gg) #[] caps]]) (by simp [Act.eval]) rfl HROW1.out HRC.out (by decide) (by rw [HRL.out]; simp [maxLen]; omega) (by rw [HRL.out]; omega) (by simp; omega) ?_
      intro g1 cap1 w7 hown7 hg7 hat7
      have qb7:=qb6.kept hg7 (fun e => by have := HLOW.out bb e.symm; omega)
      have qa7:=qa6.kept hg7 (fun e => by have := HLT.out A0 e.symm; omega)
      refine ⟨fun _ => ⟨qb7,qa7⟩,?_⟩
      refine wpAnyD_tp (i:=6) (v:=.pointer (some ⟨bb,4,none⟩)) rfl ⟨qb7,qa7⟩ ?_
      have u7 : w7.cell? ⟨bb,4,none⟩ = some (.slice ca j cm):=qb7.at rfl
      have f7 : w7.frozen? ⟨bb,4,none⟩ = false:=qb7.free 4
      refine wpAnyD_one (i:=7) (by kernel_rfl) rfl (by kernel_rfl) ?_
      go_simp
      refine wpAnyD_done (by kernel_rfl) ?_ _
      go_simp
      have HG7:=Lib.hid hg7
      have HAT:=Lib.hid hat7
      have HOWN7:=Lib.hid hown7
      have HQB7:=Lib.hid qb7
      clear hg7 hat7 hown7 qb7 qa7 u7 f7 qb5 qa5 qb6 qa6
      apply (show ∀ (a : Act) (w : World),_ -> _ from by assumption)
      go_wp2_with fail
      have hg7:=HG7.out
      have hat7:=HAT.out
      have hsz7:=hg7.size
      rw [World.size_alloc] at hsz7
      have hrg1:=HRG.out
      have hLA : L <= A0:=by omega
      have hgT : L <= g1:=by
       rcases hat7 with h | h
       ·exact HLOW.out g1 h
       ·rw [World.size_alloc] at h; omega
      have hb34 : Below wo.heap.size wo (w5.alloc (.cells #[.func (.func gg) #[] caps] 113)):=by rw [HWO.out]; exact HBA.out.alloc (by have := HBA.out.size; have := HWO.out; omega) _
      have hs8 : (w7.setCell ⟨bb,4,none⟩ (.slice (some ⟨g1,0,none⟩) (RS.length + 1) cap1)).heap.size = w7.heap.size:=by simp [World.setCell]
      have hch : ∀ b,b ≠ bb -> (w7.setCell ⟨bb,4,none⟩ (.slice (some ⟨g1,0,none⟩) (RS.length + 1) cap1)).heap[b]? = w7.heap[b]? := fun b hb => Below.heap_setCell _ _ _ _ hb
      have hmv : ∀ R,Zed (Frz L w7.heap.size (.slice (some ⟨g1,0,none⟩) (RS.length + 1) cap1)) w7 R -> Zed (Frz L (w7.setCell ⟨bb,4,none⟩ (.slice (some ⟨g1,0,none⟩) (RS.length + 1) cap1)).heap.size (.slice (some ⟨g1,0,none⟩) (RS.length + 1) cap1)) (w7.setCell ⟨bb,4,none⟩ (.slice (some ⟨g1,0,none⟩) (RS.length + 1) cap1)) R:=fun R h => by
       rw [hs8]
       exact h.move (Agr.of fun b hb => hch b (by have := hb.1; omega))
      have hbK : Below w2.heap.size w2 (w7.setCell ⟨bb,4,none⟩ (.slice (some ⟨g1,0,none⟩) (RS.length + 1) cap1)):=((HBR.out.trans (hb34.mono (by omega))).grown hg7 (by simp; omega) (fun r hr => by have := HLOW.out r hr; omega)).setCell (p:=⟨bb,4,none⟩) hrg1.1.1 _
      have hkp : ∀ b,b < L -> b ≠ bb -> (w7.setCell ⟨bb,4,none⟩ (.slice (some ⟨g1,0,none⟩) (RS.length + 1) cap1)).heap[b]? = W3.heap[b]? := fun b hb hne =>
       (hch b hne).trans ((hg7.block b (by simp; omega) (fun e => by have := HLOW.out b e.symm; omega)).trans ((hb34.block b (by omega)).trans (HKP.out b hb hne)))
      have hcd8 : CdOk scs es L (RS.length + 1) (some ⟨g1,0,none⟩) cap1 (vs ++ [.func (.func gg) #[] caps]) (w7.setCell ⟨bb,4,none⟩ (.slice (some ⟨g1,0,none⟩) (RS.length + 1) cap1)):=by
       refine ⟨?_,by rw [List.length_append,HCD.out.len,HRL.out]; rfl,fun i hi => ?_⟩
       ·rw [List.map_append,HRS.out]
        exact HOWN7.out.moveEq fun q hq => hch q (by simp only [Value.ownBlock,Option.some.injEq] at hq; omega)
       ·by_cases hij : i = j
        ·subst hij
         refine hmv _ ?_
         rw [List.getElem?_append_right (by rw [HCD.out.len]; exact Nat.le_refl _),HCD.out.len,Nat.sub_self,HEA.out]
         exact frz_new hg7 hat7 rfl (lo':=W4.heap.size) (hi:=w5.heap.size) (by have := S4.out; omega) (fun r hr => by have := HLT.out r hr; have := S4.out; omega) (by simp) (HZ5.out.move (agr_below ((Below.refl w5.heap.size w5).alloc (Nat.le_refl _) _) fun b hb => hb.2))
        ·have hij' : i < j:=by have := HRL.out; omega
         refine hmv _ ?_
         rw [List.getElem?_append_left (by rw [HCD.out.len]; exact hij')]
         exact frz_step hg7 hat7 rfl hb34 (HCD.out.dat i hij')
      have hq8:=HQB7.out.set (i:=4) (.slice (some ⟨g1,0,none⟩) (RS.length + 1) cap1)
      rw [HRL.out] at hcd8 hbK hkp hs8 hq8 ⊢
      exact ⟨⟨j + 1,vs ++ [.func (.func gg) #[] caps],_,_,by omega,by go_num,hq8,hcd8,by rw [hs8]; omega,Lib.hid hbK,Lib.hid hkp⟩,by simp [intOf]; omega⟩
     ·obtain rfl : j = m:=by omega
      clear hj hlt
      have hrg:=HRG.out
      have hne:=HNE.out
      have hpo:=HPO.out
      have hll:=HLL.out
      obtain ⟨X,hX⟩ : ∃ X : Bn,X = ⟨bb,cb,nm,lm,w2.heap.size,wo.heap.size,⟨sa,i,sm⟩,⟨ca,j,cm⟩,⟨pa,i,pc⟩,fun k => vs[k]?.getD undef,gv,fun b => w2.heap.size <= b /\ b < wo.heap.size /\ b ≠ bb /\ b ≠ cb /\ b ≠ nm /\ b ≠ lm⟩:=⟨_,rfl⟩
      have ok : BnOk X:=by subst hX; exact ⟨hrg.1.1,hrg.2.1.1,hrg.2.2.1.1,hrg.2.2.2.1,by dsimp only; omega,by dsimp only; omega,by dsimp only; omega,by dsimp only; omega,hne.1,hne.2.1,hne.2.2.1,hne.2.2.2.1,hne.2.2.2.2.1,hne.2.2.2.2.2⟩
      have hP : ∀ p ∈ pcs scs,p.Nodup /\ p ≠ []:=fun p hp => by
       refine ⟨?_,hpne.out p hp⟩
       unfold pcs at hp
       obtain ⟨s,_,rfl⟩:=List.mem_map.1 hp
       exact (cells_inc s).imp fun h => Nat.ne_of_lt h
      have hbi : BI X scs es ⟨⟨none,0,0⟩,⟨none,0,0⟩,[],[],fun _ => False,fun _ => False⟩ DSt.no DSt.no (List.replicate i 0) wo:=by
       subst hX
       refine ⟨hq,RO.nil _ _,RO.nil _ _,?_,?_,?_,List.length_replicate ..,HN.out,fun b h => h.elim,fun b h => h.elim,Nat.le_refl _,fun W K ha hK => ⟨?_,fun k hk => ?_,?_,fun k hk => ?_⟩,fun b hb => hb.2⟩
       ·show MapIs wo 9 nm 0 (fS (nmF []))
        rw [<- nmF_nil]
        exact HQN.out.same (HKP.out nm hrg.2.2.1.2 hne.2.1.symm)
       ·show MapIs wo 9 lm 0 (fS (lmF []))
        rw [<- lmF_nil]
        exact HQL.out.same (HKP.out lm hrg.2.2.2.2 hne.2.2.1.symm)
       ·show Blk wo cb ((List.replicate i 0).map Z).toArray 3
        rw [<- arr_zero]
        exact (HKP.out cb hrg.2.1.2 hne.1.symm).trans HQC.out
       ·have := OwnR.zed HCD.out.own (F:=fun b => w2.heap.size <= b /\ b < wo.heap.size /\ b ≠ bb /\ b ≠ cb /\ b ≠ nm /\ b ≠ lm) (fun b hb => by have := HCD.out.own.low hb; have := HCD.out.own.lt hb; omega) W K ha hK
        rw [List.length_map,HCD.out.len] at this
        rw [HM.out]
        refine this.congr fun k hk jj hjj => ?_
        obtain rfl : jj = 0:=by omega
        rw [List.getElem?_map]
        cases hv : vs[k]? with
        | none => have := List.getElem?_eq_none_iff.1 hv; rw [HCD.out.len] at this; omega
        | some v => show v = vs[k]?.getD undef; rw [hv]; rfl
       ·exact ((HCD.out.dat k (by rw [<- HM.out]; exact hk)).mono fun b hb => by have := hb.1; have := hb.2.1; exact ⟨by omega,hb.2.1,by omega,by omega,by omega,by omega⟩) W K ha hK
       ·have hz:=((HZP.out.move (w':=wo) (Agr.of fun b hb => HKP.out b (by have := hb.2; omega) (by have := hb.1; have := hb.2; omega))).mono fun b hb => (by have := hb.1; have := hb.2; exact ⟨by omega,by omega,by omega,by omega,by omega,by omega⟩ : w2.heap.size <= b /\ b < wo.heap.size /\ b ≠ bb /\ b ≠ cb /\ b ≠ nm /\ b ≠ lm)) W K ha hK
        rw [HPL.out]; exact hz.1
       ·have hz:=((HZP.out.move (w':=wo) (Agr.of fun b hb => HKP.out b (by have := hb.2; omega) (by have := hb.1; have := hb.2; omega))).mono fun b hb => (by have := hb.1; have := hb.2; exact ⟨by omega,by omega,by omega,by omega,by omega,by omega⟩ : w2.heap.size <= b /\ b < wo.heap.size /\ b ≠ bb /\ b ≠ cb /\ b ≠ nm /\ b ≠ lm)) W K ha hK
        exact hz.2 k (by rw [<- HPL.out]; exact hk)
      have hbw1 : Below T w w2:=HB1.out.trans (HB2.out.mono (by have := S1.out; omega))
      have hbwo : Below T w wo:=hbw1.trans (HBR.out.mono (by omega))
      have htb : PTab X.B wo:=by
       have h1 : PTab K wo:=HTAB.out.on (hbwo.mono hK2)
       have h2:=h1.up (B:=w2.heap.size) (by omega)
       rw [hX]; exact h2
      have hpr:=HPR.out
      have hXn : X.sv.n = i:=by rw [hX]
      have hXb : X.bb = bb:=by rw [hX]
      have hXB : X.B = w2.heap.size:=by rw [hX]
      have hXT : X.T = wo.heap.size:=by rw [hX]
      have hca:=dtarget_any X ok scs es hP (by rw [hXn]; exact hn20) (by rw [HM.out]; omega) (pcs scs) (fun p hp => by have := prodL_mem hpne.out hp; omega) 0 [] DSt.no _ _ wo rfl (Nat.zero_le _) (WF.no _ _) CellsIn.nil hbi rfl htb (by show 0 + _ <= _; omega) (by show 0 + _ <= _; omega)
      rw [hXb,show ((0 : Nat) : Int) = 0 from rfl] at hca
      have HCA:=Lib.hid hca
      have HX2:=Lib.hid (And.intro hX (And.intro hXB hXT))
      have HOKX:=Lib.hid ok
      have HBWO:=Lib.hid hbwo
      have HBBX:=Lib.hid hXb
      obtain ⟨TG,hTG⟩ : ∃ TG,tgt (lfS scs es) (pcs scs) 0 [] DSt.no = TG:=⟨_,rfl⟩
      rw [hTG] at HCA
      have HTG:=Lib.hid hTG
      clear hca hX hXn hXb hXB hXT ok hP hbi hbw1 hbwo htb hpr hTG hq hcd hrg hne hpo hll
      go_wp2_with fail
      refine HCA.out.mono ?_
      clear HCA
      rintro en w9 ⟨rfl,d',cur',hbi9,hfr9,_⟩
      obtain ⟨hX,hXB,hXT⟩:=HX2.out
      have hbX:=HBBX.out
      have q9:=hbi9.blk
      rw [hbX] at q9
      have e3 : w9.cell? ⟨bb,3,none⟩ = some (.int .i64 0):=q9.at rfl
      have f3 : w9.frozen? ⟨bb,3,none⟩ = false:=q9.free 3
      have hbel9:=hfr9.bel
      rw [hXB] at hbel9
      have hT2 : T < w2.heap.size:=by omega
      have hrg:=HRG.out
      have qT : Blk w9 T #[.slice none 0 0,.slice none 0 0,.slice none 0 0,.int .i64 0] 29:=((HQ1.out.below HB2.out HQ1.out.lt).below HBR.out hT2).below hbel9 hT2
      have hTb : T ≠ bb:=by omega
      have HBI9:=Lib.hid hbi9
      have HB9:=Lib.hid hbel9
      have HQ9:=Lib.hid q9
      have HQT:=Lib.hid qT
      obtain ⟨rt,hrt⟩ : ∃ rt,TG.1 = rt:=⟨_,rfl⟩
      rw [hrt]
      have HRT:=Lib.hid hrt
      have c10:=q9.set (i:=3) (.int .i64 rt)
      have g0 : (w9.setCell ⟨bb,3,none⟩ (.int .i64 rt)).cell? ⟨bb,0,none⟩ = some (.slice sa i sm):=by have := c10.at (i:=0) (x:=X.sv.val) rfl; rw [hX] at this; exact this
      have g1 : (w9.setCell ⟨bb,3,none⟩ (.int .i64 rt)).cell? ⟨bb,1,none⟩ = some (.slice d'.nv.a d'.nv.n d'.nv.m):=c10.at rfl
      have g2 : (w9.setCell ⟨bb,3,none⟩ (.int .i64 rt)).cell? ⟨bb,2,none⟩ = some (.slice d'.lv.a d'.lv.n d'.lv.m):=c10.at rfl
      have g3 : (w9.setCell ⟨bb,3,none⟩ (.int .i64 rt)).cell? ⟨bb,3,none⟩ = some (.int .i64 rt):=c10.at rfl
      have qT10:=qT.other hTb (i:=3) (.int .i64 rt)
      obtain ⟨k0,k1,k2,k3⟩:=qT10.four
      have z0:=qT10.free 0
      have z1:=qT10.free 1
      have z2:=qT10.free 2
      have z3:=qT10.free 3
      have q11:=(((qT10.set (i:=0) (.slice sa i sm)).set (i:=1) (.slice d'.nv.a d'.nv.n d'.nv.m)).set (i:=2) (.slice d'.lv.a d'.lv.n d'.lv.m)).set (i:=3) (.int .i64 rt)
      obtain ⟨y0,y1,y2,y3⟩:=q11.four
      clear hbi9 hfr9 hbel9 q9 qT c10 qT10 q11 hrt hX hXB hXT hbX
      go_wp2_with fail
      refine bodyPost_ret (v:=.tuple #[.agg #[.slice sa i sm,.slice d'.nv.a d'.nv.n d'.nv.m,.slice d'.lv.a d'.lv.n d'.lv.m,.int .i64 rt],.int .i64 0]) (by simp [results,Tryz.results13,go_sem,y0,y1,y2,y3]) rfl ?_
      obtain ⟨WF,hWF⟩ : ∃ WF,(((((w9.setCell ⟨bb,3,none⟩ (.int .i64 rt)).setCell ⟨T,0,none⟩ (.slice sa i sm)).setCell ⟨T,1,none⟩ (.slice d'.nv.a d'.nv.n d'.nv.m)).setCell ⟨T,2,none⟩ (.slice d'.lv.a d'.lv.n d'.lv.m)).setCell ⟨T,3,none⟩ (.int .i64 rt)) = WF:=⟨_,rfl⟩
      have hch : ∀ b,b ≠ bb -> b ≠ T -> WF.heap[b]? = w9.heap[b]? := fun b h1 h2 => by
       rw [<- hWF]
       exact (Below.heap_setCell _ _ _ _ h2).trans ((Below.heap_setCell _ _ _ _ h2).trans ((Below.heap_setCell _ _ _ _ h2).trans ((Below.heap_setCell _ _ _ _ h2).trans (Below.heap_setCell _ _ _ _ h1))))
      have hsF : WF.heap.size = w9.heap.size:=by rw [<- hWF]; simp [World.setCell]
      have hb9:=HB9.out
      have hs9:=hb9.size
      have hbwF : Below T w WF:=by
       rw [<- hWF]
       exact (((((HBWO.out.trans (hb9.mono (by omega))).setCell (p:=⟨bb,3,none⟩) (by show T <= bb; omega) _).setCell (p:=⟨T,0,none⟩) (Nat.le_refl _) _).setCell (p:=⟨T,1,none⟩) (Nat.le_refl _) _).setCell (p:=⟨T,2,none⟩) (Nat.le_refl _) _).setCell (p:=⟨T,3,none⟩) (Nat.le_refl _) _
      rw [hWF]
      have hbi9:=HBI9.out
      obtain ⟨hX,hXB,hXT⟩:=HX2.out
      have hTT : T < X.T /\ bb < X.T:=by rw [hXT]; omega
      have hs1:=S1.out
      have hnF : DO X.T WF d'.nv.val TG.2.nds d'.ns d'.F1:=hbi9.nds.move (Agr.of fun b hb => hch b (by have := (hbi9.nds.rng b hb).1; omega) (by have := (hbi9.nds.rng b hb).1; omega)) (fun q hq => hch q (by have := (hbi9.nlow hq).1; omega) (by have := (hbi9.nlow hq).1; omega)) (by omega)
      have hlF : NO X.T WF d'.lv.val TG.2.lvs d'.ls d'.F2:=hbi9.lvs.move (Agr.of fun b hb => hch b (by have := (hbi9.lvs.rng b hb).1; omega) (by have := (hbi9.lvs.rng b hb).1; omega)) (fun q hq => hch q (by have := (hbi9.llow hq).1; omega) (by have := (hbi9.llow hq).1; omega)) (by omega)
      refine ⟨⟨⟨sa,i,sm⟩,d'.nv,d'.lv,rt⟩,rfl,fun W hW => ⟨?_,?_,?_,?_⟩,hbwF⟩
      ·refine HZS.out W W.heap.size (Agr.of fun b hb => ?_) fun b hb => by have := hb.2; have := HBR.out.size; have := hW.size; omega
       have h1:=hb.1
       have h2:=hb.2
       have h3:=HBR.out.size
       exact (hW.block b (by omega) (by omega)).trans ((hch b (by omega) (by omega)).trans ((hb9.block b h2).trans (HBR.out.block b h2)))
      ·rw [HTG.out]
       have hnW : DO X.T W d'.nv.val TG.2.nds d'.ns d'.F1:=(hnF.move (Agr.of fun b hb => hW.block b (by have := (hnF.rng b hb).1; omega) (hnF.rng b hb).2) (fun q hq => hW.block q (by have := hnF.own.low hq; omega) (hnF.own.lt hq)) hW.size)
       exact hnW.read
      ·rw [HTG.out]
       have hlW : NO X.T W d'.lv.val TG.2.lvs d'.ls d'.F2:=(hlF.move (Agr.of fun b hb => hW.block b (by have := (hlF.rng b hb).1; omega) (hlF.rng b hb).2) (fun q hq => hW.block q (by have := hlF.own.low hq; omega) (hlF.own.lt hq)) hW.size)
       exact hlW.read
      ·rw [HTG.out]; exact HRT.out.symm
end Go.Proofs.YtlidpghnlloinaaGreatDoor
