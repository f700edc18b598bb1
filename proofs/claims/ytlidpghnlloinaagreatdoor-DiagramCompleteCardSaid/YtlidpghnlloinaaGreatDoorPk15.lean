/- Contracts and plain laws, several texts in one (GlK4, GlK5, GMadeS, GlM1, GlM2). No conditions beyond those stated. -/
import Derived.Laws.IdiomStrings
import Derived.Test.YtlidpghnlloinaaGreatDoorPk14
set_option maxRecDepth 100000
set_option maxHeartbeats 40000000
namespace Go.Proofs.YtlidpghnlloinaaGreatDoor
open Go.RowKit
set_option linter.unusedVariables false
theorem infoExN : (Tryz.prog.info? 49).map (fun i => i.size) = some 9:=by kernel_rfl
abbrev conX (kd : Int) (f1 : Bool) (s1 : Sl) (f2 : Bool) (s2 : Sl) (i : Int) : Xv:=⟨1,[],kd,f1,s1,f2,s2,i,⟨none,0,0⟩⟩
theorem gcon_any (kd : Int) (f1 f2 : Bool) (s1 s2 : Sl) (i : Int) (w : World) : Calls Tryz.prog 157 #[(⟨kd,f1,s1.val,f2,s2.val,i⟩ : Vv).agg] w fun e w' => e = .returned (conX kd f1 s1 f2 s2 i).agg /\ Below w.heap.size w w':=by
 obtain ⟨a1,n1,m1⟩:=s1
 obtain ⟨a2,n2,m2⟩:=s2
 have h1c : ∀ u ∈ (conX kd f1 ⟨a1,n1,m1⟩ f2 ⟨a2,n2,m2⟩ i).cells,u.oneCell' = true:=by simp [Value.oneCell']
 obtain ⟨W1,hW1⟩ : ∃ W1,w.alloc (.cells (⟨kd,f1,.slice a1 n1 m1,f2,.slice a2 n2 m2,i⟩ : Vv).cells 47) = W1:=⟨_,rfl⟩
 have q1 : Blk W1 w.heap.size (⟨kd,f1,.slice a1 n1 m1,f2,.slice a2 n2 m2,i⟩ : Vv).cells 47:=by rw [<- hW1]; exact Blk.new w _ _
 have b1 : Below w.heap.size w W1:=by rw [<- hW1]; exact (Below.refl _ _).alloc (Nat.le_refl _) _
 have s1 : W1.heap.size = w.heap.size + 1:=by rw [<- hW1]; simp
 have HW:=Lib.hid hW1
 dsimp only [Vv.cells] at HW
 obtain ⟨c0,c1,c2,c3,c4,c5⟩:=q1.six
 have hlt : w.heap.size < W1.heap.size:=by omega
 have hne : ¬ w.heap.size = W1.heap.size:=by omega
 clear hW1
 go_enter Tryz.func157,Tryz.ntmps157
 go_upto_region 1 with fail
 rw [HW.out]
 go_wp2_with (refine wpList_store_new rfl 49 (.tmp 2) (.tmp 4) rfl (conX kd f1 ⟨a1,n1,m1⟩ f2 ⟨a2,n2,m2⟩ i).cells _ infoExN rfl h1c (w.heap.size + 1) s1.symm rfl rfl ?_)
 have qn : Blk (W1.alloc (.cells (conX kd f1 ⟨a1,n1,m1⟩ f2 ⟨a2,n2,m2⟩ i).cells 49)) (w.heap.size + 1) (conX kd f1 ⟨a1,n1,m1⟩ f2 ⟨a2,n2,m2⟩ i).cells 49:=by
  have := Blk.new W1 (conX kd f1 ⟨a1,n1,m1⟩ f2 ⟨a2,n2,m2⟩ i).cells 49
  rwa [s1] at this
 refine bodyPost_ret (results_blk rfl _ _ (w.heap.size + 1) _ _ qn rfl Tryz.underlying49 rfl infoExN) rfl ?_
 exact ⟨rfl,b1.trans ((Below.refl _ _).alloc (by omega) _)⟩
abbrev opX (o : Int) (s : Sl) : Xv:=⟨o,[],0,false,⟨none,0,0⟩,false,⟨none,0,0⟩,0,s⟩
theorem gop_any (o : Int) (s : Sl) (w : World) : Calls Tryz.prog 158 #[.int .u8 o,s.val] w fun e w' => e = .returned (opX o s).agg /\ Below w.heap.size w w':=by
 obtain ⟨a1,n1,m1⟩:=s
 have h1c : ∀ u ∈ (opX o ⟨a1,n1,m1⟩).cells,u.oneCell' = true:=by simp [Value.oneCell']
 have b1 : Below w.heap.size w (w.alloc (.cells (opX o ⟨a1,n1,m1⟩).cells 49)):=(Below.refl _ _).alloc (Nat.le_refl _) _
 go_enter Tryz.func158,Tryz.ntmps158
 go_upto_region 1 with fail
 go_wp2_with (refine wpList_store_new rfl 49 (.tmp 4) (.tmp 7) rfl (opX o ⟨a1,n1,m1⟩).cells _ infoExN rfl h1c w.heap.size rfl rfl rfl ?_)
 refine bodyPost_ret (results_blk rfl _ _ w.heap.size _ _ (Blk.new w _ _) rfl Tryz.underlying49 rfl infoExN) rfl ?_
 exact ⟨rfl,b1⟩
abbrev todX : Xv:=⟨2,[],0,false,⟨none,0,0⟩,false,⟨none,0,0⟩,0,⟨none,0,0⟩⟩
theorem Lm.one {K n : Nat} {w : World} {v : Value} (h : Lm K w v [n]) : ∃ a c,v = .slice a 1 c:=by obtain ⟨a,c,e,_⟩:=h.form; exact ⟨a,c,e⟩
theorem ksamelimbs_any (K n : Nat) (u v : Value) (w : World) (hu : Lm K w u [n]) (hv : Lm K w v [n]) : Calls Tryz.prog 156 #[u,v] w fun e w' => e = .returned (.bool true) /\ Below w.heap.size w w':=by
 obtain ⟨b,o,c,rfl,h1,h2,h3,h4⟩:=hu.pos (by simp)
 obtain ⟨b',o',c',rfl,h1',h2',h3',h4'⟩:=hv.pos (by simp)
 have c1 : w.cell? ⟨b,o,none⟩ = some (.int .u16 n):=by have := h4 0 (by simp); simpa using this
 have c2 : w.cell? ⟨b',o',none⟩ = some (.int .u16 n):=by have := h4' 0 (by simp); simpa using this
 have he : ((n : Int) != (n : Int)) = false:=by simp
 clear hu hv h4 h4'
 simp only [List.length_cons,List.length_nil,Nat.zero_add] at *
 go_enter Tryz.func156,Tryz.ntmps156
 go_wp2_with fail
 refine wp_loop_rounds 2 ?_
 rw [rounds_succ]
 go_upto_region 6 with fail
 go_quiet (fail)
 go_wp2_with fail
 rw [rounds_succ]
 go_wp2_with fail
 go_ret
 exact ⟨rfl,below_drewN2 (Below.refl _ _) _⟩
theorem ksamewhole_any (K n : Nat) (u v : Value) (w : World) (hu : Lm K w u [n]) (hv : Lm K w v [n]) (hK : K <= w.heap.size) : Calls Tryz.prog 114 #[Wv u,Wv v] w fun e w' => e = .returned (.bool true) /\ Below w.heap.size w w':=by
 obtain ⟨W1,hW1⟩ : ∃ W1,(w.alloc (.cells #[.bool false,u] 43)).alloc (.cells #[.bool false,v] 43) = W1:=⟨_,rfl⟩
 have b1 : Below w.heap.size w W1:=by rw [<- hW1]; exact ((Below.refl _ _).alloc (Nat.le_refl _) _).alloc (by simp) _
 have q0 : Blk W1 w.heap.size #[.bool false,u] 43:=by rw [<- hW1]; exact (Blk.new w _ _).alloc _
 have q1 : Blk W1 (w.heap.size + 1) #[.bool false,v] 43:=by
  rw [<- hW1]
  have := Blk.new (w.alloc (.cells #[.bool false,u] 43)) #[.bool false,v] 43
  rwa [World.size_alloc] at this
 have hc:=ksamelimbs_any w.heap.size n u v W1 (hu.below b1 hK hK) (hv.below b1 hK hK)
 have hs:=b1.size
 obtain ⟨B,hB⟩ : ∃ B,w.heap.size = B:=⟨_,rfl⟩
 have HB:=Lib.hid hB
 have HW:=Lib.hid hW1
 rw [hB] at b1 q0 q1 hs ⊢
 obtain ⟨ua,uc,rfl⟩:=hu.one
 obtain ⟨va,vc,rfl⟩:=hv.one
 obtain ⟨d0,d1⟩:=q0.two
 obtain ⟨d2,d3⟩:=q1.two
 clear hB hW1
 go_enter Tryz.func114,Tryz.ntmps114
 go_upto_region 1 with fail
 simp only [HB.out]
 rw [HW.out]
 go_wp2_with fail
 refine hc.mono ?_
 rintro e w2 ⟨rfl,hb2⟩
 go_wp2_with fail
 go_ret
 exact ⟨rfl,b1.trans (hb2.mono hs)⟩
theorem ksamefrac_any (K m n : Nat) (u v x y : Value) (w : World) (hu : Lm K w u [m]) (hv : Lm K w v [n]) (hx : Lm K w x [m]) (hy : Lm K w y [n]) (hK : K <= w.heap.size) : Calls Tryz.prog 55 #[Fv u v,Fv x y] w fun e w' => e = .returned (.bool true) /\ Below w.heap.size w w':=by
 obtain ⟨W1,hW1⟩ : ∃ W1,(w.alloc (.cells #[.bool false,u,.bool false,v] 45)).alloc (.cells #[.bool false,x,.bool false,y] 45) = W1:=⟨_,rfl⟩
 have b1 : Below w.heap.size w W1:=by rw [<- hW1]; exact ((Below.refl _ _).alloc (Nat.le_refl _) _).alloc (by simp) _
 have q0 : Blk W1 w.heap.size #[.bool false,u,.bool false,v] 45:=by rw [<- hW1]; exact (Blk.new w _ _).alloc _
 have q1 : Blk W1 (w.heap.size + 1) #[.bool false,x,.bool false,y] 45:=by
  rw [<- hW1]
  have := Blk.new (w.alloc (.cells #[.bool false,u,.bool false,v] 45)) #[.bool false,x,.bool false,y] 45
  rwa [World.size_alloc] at this
 have hs:=b1.size
 have hc:=ksamewhole_any w.heap.size m u x W1 (hu.below b1 hK hK) (hx.below b1 hK hK) hs
 have hc2 : ∀ W,Below W1.heap.size W1 W -> Calls Tryz.prog 114 #[Wv v,Wv y] W fun e w' => e = .returned (.bool true) /\ Below W.heap.size W w':=fun W hb => ksamewhole_any w.heap.size n v y W ((hv.below b1 hK hK).below hb hs (Nat.le_refl _)) ((hy.below b1 hK hK).below hb hs (Nat.le_refl _)) (Nat.le_trans hs hb.size)
 have HC2:=Lib.hid hc2
 have s1 : W1.heap.size = w.heap.size + 2:=by rw [<- hW1]; simp
 obtain ⟨B,hB⟩ : ∃ B,w.heap.size = B:=⟨_,rfl⟩
 have HB:=Lib.hid hB
 have HW:=Lib.hid hW1
 rw [hB] at b1 q0 q1 hs s1 ⊢
 obtain ⟨ua,uc,rfl⟩:=hu.one
 obtain ⟨va,vc,rfl⟩:=hv.one
 obtain ⟨xa,xc,rfl⟩:=hx.one
 obtain ⟨ya,yc,rfl⟩:=hy.one
 obtain ⟨d0,d1,d2,d3⟩:=q0.four
 obtain ⟨d4,d5,d6,d7⟩:=q1.four
 clear hB hW1 hc2
 go_enter Tryz.func55,Tryz.ntmps55
 go_upto_region 1 with fail
 simp only [HB.out]
 rw [HW.out]
 go_wp2_with fail
 refine hc.mono ?_
 rintro e w2 ⟨rfl,hb2⟩
 clear hc d0 d1 d2 d3 d4 d5 d6 d7
 obtain ⟨d0,d1,d2,d3⟩:=(q0.below hb2 (by omega)).four
 obtain ⟨d4,d5,d6,d7⟩:=(q1.below hb2 (by omega)).four
 go_wp2_with fail
 refine (HC2.out w2 hb2).mono ?_
 rintro e w3 ⟨rfl,hb3⟩
 go_wp2_with fail
 go_ret
 exact ⟨rfl,b1.trans ((hb2.trans (hb3.mono hb2.size)).mono hs)⟩
def Half (v : Vq) : Prop:=v.bot = 1 \/ v.bot = 2
def tw (v : Vq) : Int:=if v.bot = 1 then 2 * v.top else v.top
theorem vle_tw {a b : Vq} (ha : Half a) (hb : Half b) : vle a b = decide (tw a <= tw b):=by
 unfold vle tw
 rcases ha with ha | ha <;> rcases hb with hb | hb <;> simp [ha,hb] <;> omega
theorem veq_tw {a b : Vq} (ha : Half a) (hb : Half b) : veq a b = decide (tw a = tw b):=by
 unfold veq tw
 rcases ha with ha | ha <;> rcases hb with hb | hb <;> simp [ha,hb] <;> omega
theorem vlt_tw {a b : Vq} (ha : Half a) (hb : Half b) : vlt a b ↔ tw a < tw b:=by
 unfold vlt tw
 rcases ha with ha | ha <;> rcases hb with hb | hb <;> simp [ha,hb] <;> omega
section
variable {l : List Vq} {u v : Vq}
theorem getD_half (hl : ∀ c ∈ l,Half c) {i : Nat} (hi : i < l.length) : Half (l[i]?.getD v0):=by
 rw [List.getElem?_eq_getElem hi]; exact hl _ (List.getElem_mem hi)
theorem cuts_mono (hl : ∀ c ∈ l,Half c) (hs : l.Pairwise vlt) {i j : Nat} (hij : i < j) (hj : j < l.length) : tw (l[i]?.getD v0) < tw (l[j]?.getD v0):=by
 rw [<- vlt_tw (getD_half hl (by omega)) (getD_half hl hj),List.getElem?_eq_getElem hj,List.getElem?_eq_getElem (by omega : i < l.length)]
 exact List.pairwise_iff_getElem.1 hs i j (by omega) hj hij
theorem srch_tw (hl : ∀ c ∈ l,Half c) (hv : Half v) : (∀ i,i < srch l v -> tw (l[i]?.getD v0) < tw v) /\ (srch l v < l.length -> tw v <= tw (l[srch l v]?.getD v0)):=by
 obtain ⟨h1,h2⟩:=srch_spec l v
 have hle : srch l v <= l.length:=List.findIdx_le_length
 refine ⟨fun i hi => ?_,fun h => ?_⟩
 ·have := h1 i hi
  rw [vle_tw hv (getD_half hl (by omega)),decide_eq_false_iff_not] at this
  omega
 ·have := h2 h
  rwa [vle_tw hv (getD_half hl h),decide_eq_true_eq] at this
theorem fnd_tw (hl : ∀ c ∈ l,Half c) (hs : l.Pairwise vlt) (hu : Half u) (h : ∃ c ∈ l,tw c = tw u) : srch l u < l.length /\ tw (l[srch l u]?.getD v0) = tw u /\ fnd l u = true:=by
 obtain ⟨c,hc,he⟩:=h
 obtain ⟨r,hr,rfl⟩:=List.getElem_of_mem hc
 obtain ⟨s1,s2⟩:=srch_tw hl hu
 have er : tw (l[r]?.getD v0) = tw u:=by rw [List.getElem?_eq_getElem hr]; exact he
 have hle : srch l u <= r:=by
  rcases Nat.lt_or_ge r (srch l u) with h | h
  ·have := s1 r h; omega
  ·exact h
 have hlt : srch l u < l.length:=by omega
 have he2 : srch l u = r:=by
  rcases Nat.lt_or_eq_of_le hle with h | h
  ·have h1:=s2 hlt
   have h2:=cuts_mono hl hs h hr
   omega
  ·exact h
 have e2 : tw (l[srch l u]?.getD v0) = tw u:=by rw [he2]; exact er
 refine ⟨hlt,e2,?_⟩
 unfold fnd
 rw [veq_tw (getD_half hl hlt) hu]
 rw [e2]; simp [hlt]
end
def kindN (k : Nat) : Int:=1 + ((k % 12 % 6 : Nat) : Int)
def subG (k : Nat) : Gx:=.mk 5 [115,UInt8.ofNat (48 + k % 12)] v0 [.mk 2 [] v0 []]
def wV (kd : Int) (n : Nat) : Vq:=if kd = 2 \/ kd = 3 then ⟨kd,false,if n = 0 then [] else [n],false,[1],0⟩ else wholeV kd n
def conV (v : Vq) : Gx:=.mk 1 [] v []
def truG : Gx:=conV (wholeV 1 1)
def tstG (x n : Nat) : Gx :=
 .mk (if x % 4 < 2 then 13 else 14) [] v0 (if x % 2 = 0 then [subG (x / 3),conV (wV (kindN (x / 3)) n)] else [conV (wV (kindN (x / 3)) n),subG (x / 3)])
def leafM (x : Nat) (r : List Nat) : Gx × List Nat:=if kindN (x / 3) = 1 then (subG (x / 3),r) else (tstG x (r.headD 0 % 8),r.tail)
def madeM : Nat -> List Nat -> Gx × List Nat
 | _,[] => (truG,[])
 | 0,x :: r => leafM x r
 | d + 1,x :: r =>
  if x % 3 = 0 then
   if x % 4 = 0 then (.mk 17 [] v0 [(madeM d r).1],(madeM d r).2)
   else if x % 4 = 3 then (.mk 18 [] v0 [(madeM d r).1,(madeM d (madeM d r).2).1,(madeM d (madeM d (madeM d r).2).2).1],(madeM d (madeM d (madeM d r).2).2).2)
   else (.mk (15 + ((x % 2 : Nat) : Int)) [] v0 [(madeM d r).1,(madeM d (madeM d r).2).1],(madeM d (madeM d r).2).2)
  else leafM x r
inductive Md : Gx -> Prop
 | tru : Md truG
 | sub (k : Nat) : kindN k = 1 -> Md (subG k)
 | tst (x n : Nat) : kindN (x / 3) ≠ 1 -> n < 8 -> Md (tstG x n)
 | no (a : Gx) : Md a -> Md (.mk 17 [] v0 [a])
 | two (o : Int) (a b : Gx) : (o = 15 \/ o = 16) -> Md a -> Md b -> Md (.mk o [] v0 [a,b])
 | ite (a b c : Gx) : Md a -> Md b -> Md c -> Md (.mk 18 [] v0 [a,b,c])
theorem leafM_md (x : Nat) (r : List Nat) : Md (leafM x r).1:=by
 unfold leafM
 split
 ·exact .sub _ (by assumption)
 ·exact .tst _ _ (by assumption) (by omega)
theorem madeM_md : ∀ (d : Nat) (l : List Nat),Md (madeM d l).1
 | d,[] => by cases d <;> exact .tru
 | 0,x :: r => leafM_md x r
 | d + 1,x :: r => by
  rw [madeM]
  split
  ·split
   ·exact .no _ (madeM_md d r)
   ·split
    ·exact .ite _ _ _ (madeM_md d r) (madeM_md d _) (madeM_md d _)
    ·exact .two _ _ _ (by omega) (madeM_md d r) (madeM_md d _)
  ·exact leafM_md x r
theorem subG_parts (k : Nat) : (subG k).parts = 2:=by simp [subG,Gx.parts,partsL]
theorem conV_parts (v : Vq) : (conV v).parts = 1:=by simp [conV,Gx.parts,partsL]
theorem tstG_parts (x n : Nat) : (tstG x n).parts = 4:=by
 by_cases h : x % 2 = 0 <;> simp [tstG,h,Gx.parts,partsL,subG_parts,conV_parts]
theorem leafM_size (x : Nat) (r : List Nat) : (leafM x r).1.parts <= 4 /\ (leafM x r).2.length <= r.length:=by
 unfold leafM
 split
 ·simp [subG_parts]
 ·simp [tstG_parts]
theorem madeM_size : ∀ (d : Nat) (l : List Nat),(madeM d l).1.parts + 4 * (madeM d l).2.length <= 1 + 4 * l.length
 | d,[] => by cases d <;> simp [madeM,truG,conV_parts]
 | 0,x :: r => by have := leafM_size x r; rw [madeM]; simp only [List.length_cons]; omega
 | d + 1,x :: r => by
  have h1:=madeM_size d r
  have h2:=madeM_size d (madeM d r).2
  have h3:=madeM_size d (madeM d (madeM d r).2).2
  have h0:=leafM_size x r
  rw [madeM]
  simp only [List.length_cons]
  split
  ·split
   ·simp only [Gx.parts,partsL]; omega
   ·split
    ·simp only [Gx.parts,partsL]; omega
    ·simp only [Gx.parts,partsL]; omega
  ·omega
theorem subG_depth (k : Nat) : (subG k).depth = 2:=by simp [subG,Gx.depth,depthL]
theorem conV_depth (v : Vq) : (conV v).depth = 1:=by simp [conV,Gx.depth,depthL]
theorem tstG_depth (x n : Nat) : (tstG x n).depth = 3:=by
 by_cases h : x % 2 = 0 <;> simp [tstG,h,Gx.depth,depthL,subG_depth,conV_depth]
theorem leafM_depth (x : Nat) (r : List Nat) : (leafM x r).1.depth <= 3:=by
 unfold leafM
 split
 ·simp [subG_depth]
 ·simp [tstG_depth]
theorem madeM_depth : ∀ (d : Nat) (l : List Nat),(madeM d l).1.depth <= d + 3
 | d,[] => by cases d <;> simp [madeM,truG,conV_depth]
 | 0,x :: r => by have := leafM_depth x r; rw [madeM]; omega
 | d + 1,x :: r => by
  have h1:=madeM_depth d r
  have h2:=madeM_depth d (madeM d r).2
  have h3:=madeM_depth d (madeM d (madeM d r).2).2
  have h0:=leafM_depth x r
  rw [madeM]
  split
  ·split
   ·simp only [Gx.depth,depthL]; omega
   ·split
    ·simp only [Gx.depth,depthL]; omega
    ·simp only [Gx.depth,depthL]; omega
  ·omega
theorem kindN_range (k : Nat) : 1 <= kindN k /\ kindN k <= 6:=by unfold kindN; omega
theorem wV_facts (kd : Int) (n : Nat) (h : 2 <= kd /\ kd <= 6) (hn : n < 8) : (wV kd n).kd = kd /\ (wV kd n).ok = true /\ (wV kd n).good = true /\ Half (wV kd n) /\ tw (wV kd n) = 2 * n:=by
 obtain ⟨h1,h2⟩:=h
 have hk : kd = 2 \/ kd = 3 \/ kd = 4 \/ kd = 5 \/ kd = 6:=by omega
 have hm : n = 0 \/ n = 1 \/ n = 2 \/ n = 3 \/ n = 4 \/ n = 5 \/ n = 6 \/ n = 7:=by omega
 unfold Half
 rcases hk with rfl | rfl | rfl | rfl | rfl <;> rcases hm with rfl | rfl | rfl | rfl | rfl | rfl | rfl | rfl <;> exact ⟨by kernel_rfl,by kernel_rfl,by kernel_rfl,.inl (by kernel_rfl),by kernel_rfl⟩
theorem md_good {e : Gx} (h : Md e) : e.good = true:=by
 induction h with
 | tru => kernel_rfl
 | sub k h => simp [subG,Gx.good,goodL]; kernel_rfl
 | tst x n h hn =>
  have hk:=kindN_range (x / 3)
  have hw:=(wV_facts (kindN (x / 3)) n (by omega) hn).2.2.1
  have h0 : v0.good = true:=by kernel_rfl
  by_cases h : x % 2 = 0 <;> simp [tstG,h,Gx.good,goodL,subG,conV,hw,h0]
 | no a _ ih => simp [Gx.good,goodL,ih]; kernel_rfl
 | two o a b _ _ _ i1 i2 => simp [Gx.good,goodL,i1,i2]; kernel_rfl
 | ite a b c _ _ _ i1 i2 i3 => simp [Gx.good,goodL,i1,i2,i3]; kernel_rfl
theorem gkindof_any (k : Nat) (w : World) (hk : k < 256) : Calls Tryz.prog 82 #[.int .u8 k] w fun e w' => e = .returned (.int .u8 (kindN k)) /\ Below w.heap.size w w':=by
 have e : kindN k = 1 + ((k % 12 % 6 : Nat) : Int):=rfl
 rw [e]
 go_enter Tryz.func82,Tryz.ntmps82
 go_wp2_with fail
 go_ret
 refine ⟨?_,Below.refl _ _⟩
 show Ending.returned (Value.int .u8 (1 + (k : Int) % 6)) = _
 congr 2
 omega
theorem conv_sub (k : Nat) (w : World) : (convert 60 9 (.slice (some ⟨w.heap.size,0,none⟩) 2 2)).run Tryz.prog (w.alloc (.cells #[.int .u8 115,.int .u8 (48 + (k : Int) % 12)] 5)) = .ok (S [115,UInt8.ofNat (48 + k % 12)]) (w.alloc (.cells #[.int .u8 115,.int .u8 (48 + (k : Int) % 12)] 5)):=by
 have hk : k % 12 < 12:=Nat.mod_lt _ (by omega)
 have e : ((UInt8.ofNat (48 + k % 12)).toNat : Int) = 48 + (k : Int) % 12:=by rw [UInt8.toNat_ofNat']; omega
 refine run_convert_bytes_back _ 60 9 5 ⟨w.heap.size,0,none⟩ 2 [115,UInt8.ofNat (48 + k % 12)] Tryz.underlying60 Tryz.underlying5 Tryz.underlying9 fun j hj => ?_
 match j,hj with
 | 0,_ => exact (Blk.new w #[Value.int .u8 115,Value.int .u8 (48 + (k : Int) % 12)] 5).at rfl
 | 1,_ =>
  have := (Blk.new w #[Value.int .u8 115,Value.int .u8 (48 + (k : Int) % 12)] 5).at (i:=1) rfl
  show _ = some (Value.int .u8 ((UInt8.ofNat (48 + k % 12)).toNat : Int))
  rw [e]; exact this
abbrev refX (nm : Str) (b : Nat) : Xv:=⟨5,nm,0,false,⟨none,0,0⟩,false,⟨none,0,0⟩,0,⟨some ⟨b,0,none⟩,1,1⟩⟩
theorem refX_is {K b : Nat} {nm : Str} {w : World} (h : Blk w b todX.cells 49) (hb : b < K) (hn : nm.length <= maxLen) : ExG K w (.mk 5 nm v0 [.mk 2 [] v0 []]) (refX nm b):=by
 have hv : ∀ K w,VlX K w v0 (⟨0,false,.slice none 0 0,false,.slice none 0 0,0⟩ : Vv):=fun K w => ⟨rfl,rfl,rfl,rfl,Lm.nil _ _,Lm.nil _ _⟩
 rw [ExG]
 refine ⟨rfl,rfl,hn,hv _ _,fun _ => todX,RowsV.mk_cells (Nat.le_refl _) (by simp [maxLen]) hb fun i hi j hj => ?_,?_,trivial⟩
 ·have hi0 : i = 0:=by have : i < 1:=hi; omega
  subst hi0
  have := h.at (i:=j) (x:=todX.cell j) (by
   have : j = 0 \/ j = 1 \/ j = 2 \/ j = 3 \/ j = 4 \/ j = 5 \/ j = 6 \/ j = 7 \/ j = 8:=by omega
   rcases this with rfl | rfl | rfl | rfl | rfl | rfl | rfl | rfl | rfl <;> rfl)
  simpa using this
 ·rw [ExG]
  exact ⟨rfl,rfl,by simp,hv _ _,fun _ => todX,RowsV.nil _ _ (by simp [maxLen]) (fun _ => rfl),trivial⟩
theorem gref2_any (nm : Str) (w : World) : Calls Tryz.prog 183 #[S nm] w fun e w' => ∃ b,e = .returned (⟨5,nm,0,false,⟨none,0,0⟩,false,⟨none,0,0⟩,0,⟨some ⟨b,0,none⟩,1,1⟩⟩ : Xv).agg /\ Blk w' b todX.cells 49 /\ w.heap.size < b /\ Below w.heap.size w w':=by
 obtain ⟨W1,hW1⟩ : ∃ W1,(w.alloc (.cells xz.cells 49)).alloc (.cells todX.cells 49) = W1:=⟨_,rfl⟩
 have b1 : Below w.heap.size w W1:=by rw [<- hW1]; exact ((Below.refl _ _).alloc (Nat.le_refl _) _).alloc (by simp) _
 have q1 : Blk W1 w.heap.size xz.cells 49:=by rw [<- hW1]; exact (Blk.new w _ _).alloc _
 have q2 : Blk W1 (w.heap.size + 1) todX.cells 49:=by
  rw [<- hW1]
  have := Blk.new (w.alloc (.cells xz.cells 49)) todX.cells 49
  rwa [World.size_alloc] at this
 obtain ⟨B,hB⟩ : ∃ B,w.heap.size = B:=⟨_,rfl⟩
 have HB:=Lib.hid hB
 have HW : Hid ((w.alloc (.cells #[.int .u8 0,.string ⟨#[]⟩,.int .u8 0,.bool false,.slice none 0 0,.bool false,.slice none 0 0,.int .i64 0,.slice none 0 0] 49)).alloc (.cells #[.int .u8 2,.string ⟨#[]⟩,.int .u8 0,.bool false,.slice none 0 0,.bool false,.slice none 0 0,.int .i64 0,.slice none 0 0] 49) = W1):=Lib.hid hW1
 rw [hB] at b1 q1 q2 ⊢
 have h1c : ∀ u ∈ (⟨5,nm,0,false,⟨none,0,0⟩,false,⟨none,0,0⟩,0,⟨some ⟨B + 1,0,none⟩,1,1⟩⟩ : Xv).cells,u.oneCell' = true:=by simp [Value.oneCell']
 clear hB hW1
 go_enter Tryz.func183,Tryz.ntmps183
 go_upto_region 1 with fail
 go_wp2_with (simp only [HB.out]; rw [HW.out]; refine wpList_store_blk rfl 49 49 (.tmp 2) (.tmp 6) rfl (⟨5,nm,0,false,⟨none,0,0⟩,false,⟨none,0,0⟩,0,⟨some ⟨B + 1,0,none⟩,1,1⟩⟩ : Xv).cells _ B q1 infoExN rfl h1c rfl rfl ?_; intro W2 t1 t2 t3 t4)
 refine bodyPost_ret (results_blk rfl _ _ B _ _ t1 rfl Tryz.underlying49 rfl infoExN) rfl ?_
 exact ⟨B + 1,rfl,q2.kept t3 (by simp),by omega,b1.trans (t2 B (Nat.le_refl _))⟩
theorem gvalw_any (kd n : Int) (hk : kd = 1 \/ kd = 4 \/ kd = 5 \/ kd = 6) (w : World) : Calls Tryz.prog 81 #[.int .u8 kd,.int .i64 n] w fun e w' => e = .returned (wholeX kd n).agg /\ Below w.heap.size w w':=by
 rcases hk with rfl | rfl | rfl | rfl
 ·have b1 : Below w.heap.size w (w.alloc (.cells (wholeX 1 n).cells 47)):=(Below.refl _ _).alloc (Nat.le_refl _) _
  have h1c : ∀ u ∈ (wholeX 1 n).cells,u.oneCell' = true:=by simp [Value.oneCell']
  go_enter Tryz.func81,Tryz.ntmps81
  go_upto_region 3 with fail
  go_wp2_with (refine wpList_store_new rfl 47 (.tmp 4) (.tmp 17) rfl (wholeX 1 n).cells _ infoValN rfl h1c w.heap.size rfl rfl rfl ?_)
  refine bodyPost_ret (results_blk rfl _ _ w.heap.size _ _ (Blk.new w _ _) rfl Tryz.underlying47 rfl infoValN) rfl ?_
  exact ⟨rfl,b1⟩
 ·have b1 : Below w.heap.size w (w.alloc (.cells (wholeX 4 n).cells 47)):=(Below.refl _ _).alloc (Nat.le_refl _) _
  have h1c : ∀ u ∈ (wholeX 4 n).cells,u.oneCell' = true:=by simp [Value.oneCell']
  go_enter Tryz.func81,Tryz.ntmps81
  go_upto_region 3 with fail
  go_wp2_with (refine wpList_store_new rfl 47 (.tmp 4) (.tmp 17) rfl (wholeX 4 n).cells _ infoValN rfl h1c w.heap.size rfl rfl rfl ?_)
  refine bodyPost_ret (results_blk rfl _ _ w.heap.size _ _ (Blk.new w _ _) rfl Tryz.underlying47 rfl infoValN) rfl ?_
  exact ⟨rfl,b1⟩
 ·have b1 : Below w.heap.size w (w.alloc (.cells (wholeX 5 n).cells 47)):=(Below.refl _ _).alloc (Nat.le_refl _) _
  have h1c : ∀ u ∈ (wholeX 5 n).cells,u.oneCell' = true:=by simp [Value.oneCell']
  go_enter Tryz.func81,Tryz.ntmps81
  go_upto_region 3 with fail
  go_wp2_with (refine wpList_store_new rfl 47 (.tmp 4) (.tmp 17) rfl (wholeX 5 n).cells _ infoValN rfl h1c w.heap.size rfl rfl rfl ?_)
  refine bodyPost_ret (results_blk rfl _ _ w.heap.size _ _ (Blk.new w _ _) rfl Tryz.underlying47 rfl infoValN) rfl ?_
  exact ⟨rfl,b1⟩
 ·have b1 : Below w.heap.size w (w.alloc (.cells (wholeX 6 n).cells 47)):=(Below.refl _ _).alloc (Nat.le_refl _) _
  have h1c : ∀ u ∈ (wholeX 6 n).cells,u.oneCell' = true:=by simp [Value.oneCell']
  go_enter Tryz.func81,Tryz.ntmps81
  go_upto_region 3 with fail
  go_wp2_with (refine wpList_store_new rfl 47 (.tmp 4) (.tmp 17) rfl (wholeX 6 n).cells _ infoValN rfl h1c w.heap.size rfl rfl rfl ?_)
  refine bodyPost_ret (results_blk rfl _ _ w.heap.size _ _ (Blk.new w _ _) rfl Tryz.underlying47 rfl infoValN) rfl ?_
  exact ⟨rfl,b1⟩
theorem gvalf_any (kd : Int) (hkd : kd = 2 \/ kd = 3) (n : Nat) (w : World) (hn : n < 65536) : Calls Tryz.prog 81 #[.int .u8 kd,.int .i64 n] w fun e w' => ∃ x : Vv,e = .returned x.agg /\ VlX w'.heap.size w' ⟨kd,false,if n = 0 then [] else [n],false,[1],0⟩ x /\ NewV w.heap.size x.s1 /\ NewV w.heap.size x.s2 /\ Below w.heap.size w w':=by
 obtain ⟨W1,hW1⟩ : ∃ W1,w.alloc (.cells vv0.cells 47) = W1:=⟨_,rfl⟩
 have b1 : Below w.heap.size w W1:=by rw [<- hW1]; exact (Below.refl _ _).alloc (Nat.le_refl _) _
 have q1 : Blk W1 w.heap.size vv0.cells 47:=by rw [<- hW1]; exact Blk.new w _ _
 have s1 : W1.heap.size = w.heap.size + 1:=by rw [<- hW1]; simp
 have hc : Calls Tryz.prog 83 #[.int .i64 n,.int .i64 1] W1 fun e w' => ∃ au nu mu av mv,e = .returned (Fv (.slice au nu mu) (.slice av 1 mv)) /\ (∀ r,r < W1.heap.size -> ∀ w'',w'.grownBy w'' (some r) -> Lm w''.heap.size w'' (.slice au nu mu) (if n = 0 then [] else [n]) /\ Lm w''.heap.size w'' (.slice av 1 mv) [1]) /\ NewV W1.heap.size (.slice au nu mu) /\ NewV W1.heap.size (.slice av 1 mv) /\ Below W1.heap.size W1 w':=by
  by_cases h0 : n = 0
  ·subst h0
   refine (kfrac0_any W1).mono ?_
   rintro e w' ⟨v,rfl,⟨a,c,rfl⟩,hl,hb,hn⟩
   exact ⟨none,0,0,a,c,rfl,fun r hr w'' hg => ⟨Lm.nil _ _,lm_put hl hn hr hg hg.size⟩,NewV.nil _ _ _,hn,hb⟩
  ·refine (kfrac1_any n W1 (by omega) hn).mono ?_
   rintro e w' ⟨u,v,rfl,⟨a,c,rfl⟩,⟨a',c',rfl⟩,hl,hl',hb,hn,hn'⟩
   exact ⟨a,1,c,a',c',rfl,fun r hr w'' hg => ⟨by rw [if_neg h0]; exact lm_put hl hn hr hg hg.size,lm_put hl' hn' hr hg hg.size⟩,hn,hn',hb⟩
 obtain ⟨L,hL⟩ : ∃ L,(if n = 0 then [] else [n]) = L:=⟨_,rfl⟩
 rw [hL] at hc ⊢
 obtain ⟨B,hB⟩ : ∃ B,w.heap.size = B:=⟨_,rfl⟩
 have HB:=Lib.hid hB
 have HW:=Lib.hid hW1
 rw [hB] at b1 q1 s1 ⊢
 dsimp only [Vv.cells,vv0] at HW
 clear hB hW1 hL
 rcases hkd with rfl | rfl
 ·go_enter Tryz.func81,Tryz.ntmps81
  go_upto_region 1 with fail
  simp only [HB.out]
  rw [HW.out]
  go_wp2_with fail
  refine hc.mono ?_
  rintro e w2 ⟨au,nu,mu,av,mv,rfl,hk,hn1,hn2,hb2⟩
  have q2:=q1.below hb2 (by omega)
  have HK:=Lib.hid hk
  have h1c : ∀ u ∈ (⟨2,false,.slice au nu mu,false,.slice av 1 mv,0⟩ : Vv).cells,u.oneCell' = true:=by simp [Value.oneCell']
  clear hc hk
  go_wp2_with (refine wpList_store_blk rfl 47 47 (.tmp 4) (.tmp 14) rfl (⟨2,false,.slice au nu mu,false,.slice av 1 mv,0⟩ : Vv).cells _ B q2 infoValN rfl h1c rfl rfl ?_; intro W2 t1 t2 t3 t4)
  refine bodyPost_ret (results_blk rfl _ _ B _ _ t1 rfl Tryz.underlying47 rfl infoValN) rfl ?_
  obtain ⟨h1,h2⟩:=HK.out B (by omega) W2 t3
  exact ⟨⟨2,false,.slice au nu mu,false,.slice av 1 mv,0⟩,rfl,⟨rfl,rfl,rfl,rfl,h1,h2⟩,hn1.mono (by omega),hn2.mono (by omega),b1.trans ((hb2.mono (by omega)).trans (t2 B (Nat.le_refl _)))⟩
 ·go_enter Tryz.func81,Tryz.ntmps81
  go_upto_region 1 with fail
  simp only [HB.out]
  rw [HW.out]
  go_wp2_with fail
  refine hc.mono ?_
  rintro e w2 ⟨au,nu,mu,av,mv,rfl,hk,hn1,hn2,hb2⟩
  have q2:=q1.below hb2 (by omega)
  have HK:=Lib.hid hk
  have h1c : ∀ u ∈ (⟨3,false,.slice au nu mu,false,.slice av 1 mv,0⟩ : Vv).cells,u.oneCell' = true:=by simp [Value.oneCell']
  clear hc hk
  go_wp2_with (refine wpList_store_blk rfl 47 47 (.tmp 4) (.tmp 14) rfl (⟨3,false,.slice au nu mu,false,.slice av 1 mv,0⟩ : Vv).cells _ B q2 infoValN rfl h1c rfl rfl ?_; intro W2 t1 t2 t3 t4)
  refine bodyPost_ret (results_blk rfl _ _ B _ _ t1 rfl Tryz.underlying47 rfl infoValN) rfl ?_
  obtain ⟨h1,h2⟩:=HK.out B (by omega) W2 t3
  exact ⟨⟨3,false,.slice au nu mu,false,.slice av 1 mv,0⟩,rfl,⟨rfl,rfl,rfl,rfl,h1,h2⟩,hn1.mono (by omega),hn2.mono (by omega),b1.trans ((hb2.mono (by omega)).trans (t2 B (Nat.le_refl _)))⟩
end Go.Proofs.YtlidpghnlloinaaGreatDoor
