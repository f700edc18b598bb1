/- Contracts and plain laws, several texts in one (DTst0, DTst). No conditions beyond those stated. -/
import Derived.Laws.MakeOwn
import Derived.Test.YtlidpghnlloinaaGreatDoorPk22
set_option maxRecDepth 100000
set_option maxHeartbeats 40000000
namespace Go.Proofs.YtlidpghnlloinaaGreatDoor
open Go.RowKit
set_option linter.unusedVariables false
def arrD (n : Nat) (f : Nat -> Value) : Array Value:=((List.range n).map f).toArray
theorem arrD_size (n : Nat) (f : Nat -> Value) : (arrD n f).size = n:=by simp [arrD]
theorem arrD_at {n i : Nat} (f : Nat -> Value) (h : i < n) : (arrD n f)[i]? = some (f i):=by simp [arrD,h]
theorem arrD_set (n i : Nat) (f : Nat -> Value) (x : Value) : (arrD n f).setIfInBounds i x = arrD n (fun k => if k = i then x else f k):=by
 apply Array.ext_getElem?
 intro k
 by_cases hk : k < n
 ·rw [arrD_at _ hk]
  by_cases h : k = i
  ·subst h; rw [Array.getElem?_setIfInBounds_self_of_lt (by rw [arrD_size]; exact hk)]; simp
  ·rw [Array.getElem?_setIfInBounds_ne (fun e => h e.symm),arrD_at _ hk,if_neg h]
 ·rw [Array.getElem?_eq_none (by simp [arrD_size]; omega),Array.getElem?_eq_none (by simp [arrD_size]; omega)]
theorem arrD_congr {n : Nat} {f g : Nat -> Value} (h : ∀ i,i < n -> f i = g i) : arrD n f = arrD n g:=by
 unfold arrD
 congr 1
 exact List.map_congr_left fun i hi => h i (List.mem_range.1 hi)
theorem made_oneD (z : Value) (n : Nat) : madeCells #[z] (n * 1) = arrD n fun _ => z:=by
 apply Array.ext_getElem?
 intro k
 by_cases hk : k < n
 ·rw [arrD_at _ hk]; simp [madeCells,hk,Nat.mod_one]
 ·rw [Array.getElem?_eq_none (by simp [madeCells]; omega),Array.getElem?_eq_none (by simp [arrD_size]; omega)]
theorem infoBoolD : (Tryz.prog.info? 4).map (fun i => (i.zero,i.size,i.bytes)) = some (some (.bool false),1,1):=by kernel_rfl
theorem make_boolsD (n : Nat) (hn : n <= 2 ^ 38) (w : World) : (Instr.makeSlice 193 (.int .i64 n) (.int .i64 n)).run Tryz.prog w = .ok (.slice (some ⟨w.heap.size,0,none⟩) n n) (w.alloc (.cells (arrD n fun _ => .bool false) 4)):=by
 obtain ⟨i0,hi,hz0,hz1,hz2⟩:=info_parts infoBoolD
 have h:=run_make (P:=Tryz.prog) w 193 4 i0 _ Tryz.underlying193 hi hz0 .i64 .i64 n n (by omega) (Int.le_refl _) (by rw [hz2]; omega) (by omega)
 rw [hz1,Int.toNat_natCast] at h
 rw [h]
 have := made_oneD (.bool false) n
 simp only [Value.cells] at this ⊢
 rw [this]
def sawB (vis : List Nat) (h : Nat -> Bool) (k : Nat) : Value:=.bool (vis.contains k && h k)
theorem saw_set (vis : List Nat) (h : Nat -> Bool) (m c : Nat) : (arrD m (sawB vis h)).setIfInBounds c (.bool (h c)) = arrD m (sawB (vis ++ [c]) h):=by
 rw [arrD_set]
 refine arrD_congr fun k _ => ?_
 unfold sawB
 by_cases e : k = c
 ·subst e; simp
 ·rw [if_neg e]; simp [e]
theorem cond_test (P : List Nat -> Prop) (p : List Nat -> Bool) (K hb rb ib m i : Nat) (f : Nat -> Value) (W : World) (q1 : Blk W hb #[.slice (some ⟨rb,0,none⟩) m m] 193) (q2 : Blk W rb (arrD m f) 4) (q3 : Blk W ib #[.int .i64 i] 3)
  (h1 : hb < K) (h2 : rb < K) (h3 : ib < K) (hp : ∀ cs,P cs -> i < cs.length /\ cs[i]?.getD 0 < m /\ f (cs[i]?.getD 0) = .bool (p cs)) :
  CondR P p (.func (.func 152) #[] #[.pointer (some ⟨hb,0,none⟩),.pointer (some ⟨ib,0,none⟩)]) K W:=by
 refine ⟨152,_,rfl,enters_of Tryz.func152 (by kernel_rfl) rfl,fun W' v cs hbw hkw hv hpc => ?_⟩
 obtain ⟨g1,g2,g3⟩:=hp cs hpc
 obtain ⟨b,o,c,rfl,e0⟩:=nats_at hv g1
 have c0 : W'.cell? ⟨hb,0,none⟩ = some (.slice (some ⟨rb,0,none⟩) m m):=(q1.below hbw h1).at rfl
 have c3 : W'.cell? ⟨ib,0,none⟩ = some (.int .i64 i):=(q3.below hbw h3).at rfl
 obtain ⟨z,hz⟩ : ∃ z,cs[i]?.getD 0 = z:=⟨_,rfl⟩
 rw [hz] at g2 g3 e0
 have c2 : W'.cell? ⟨rb,z,none⟩ = some (.bool (p cs)):=(q2.below hbw h2).at (by rw [arrD_at f g2,g3])
 obtain ⟨n,hn⟩ : ∃ n,cs.length = n:=⟨_,rfl⟩
 obtain ⟨t,ht⟩ : ∃ t,p cs = t:=⟨_,rfl⟩
 rw [ht] at c2
 simp only [ht]
 rw [hn] at g1 ⊢
 clear hbw hkw hv hpc hp q1 q2 q3 g3 hz hn ht
 show Calls _ _ #[.slice (some ⟨b,o,none⟩) n c,.pointer (some ⟨hb,0,none⟩),.pointer (some ⟨ib,0,none⟩)] W' _
 go_enter Tryz.func152,Tryz.ntmps152
 go_upto_region 1 with fail
 go_quiet (fail)
 go_wp2_with fail
 go_ret
 exact ⟨rfl,below_drewN2 (Below.refl _ _) _⟩
structure BC (bb : Nat) (sv pv : Sl) (scs : List Sc) (gv : Nat -> Value) (K : Nat) (w : World) : Prop where
 blk : ∃ cs,Blk w bb cs 111 /\ cs[0]? = some sv.val /\ cs[5]? = some pv.val
 lt : bb < K
 s : ScsX K w sv.val scs
 p : RowsV 1 (fun i _ => gv i) K w pv.val scs.length
 pn : ∀ i,i < scs.length -> Nats K w (gv i) (cellsS (scs[i]?.getD default))
theorem BC.below {bb : Nat} {sv pv : Sl} {scs : List Sc} {gv : Nat -> Value} {K K' B : Nat} {w w' : World} (h : BC bb sv pv scs gv K w) (hb : Below B w w') (hB : K <= B) (hK : K <= K') : BC bb sv pv scs gv K' w':=by
 obtain ⟨cs,h1,h2,h3⟩:=h.blk
 have := h.lt
 exact ⟨⟨cs,h1.below hb (by omega),h2,h3⟩,by omega,h.s.below hb hB hK,RowsV.below h.p hb hB hK,fun i hi => Nats.below (h.pn i hi) hb hB hK⟩
def ScOkD (scs : List Sc) : Prop:=∀ s ∈ scs,(∀ c ∈ s.cuts,c.good = true) /\ s.cuts.length <= 2 ^ 38 /\ cellsS s ≠ [] /\ ∀ c ∈ cellsS s,c <= 2 ^ 30
theorem cells_inc (s : Sc) : (cellsS s).Pairwise (· < ·):=by
 unfold cellsS
 split
 ·unfold possL; exact List.Pairwise.filter _ List.pairwise_lt_range
 ·exact List.Pairwise.nil
theorem last_le {l : List Nat} (h : l.Pairwise (· < ·)) {c : Nat} (hc : c ∈ l) : c <= l[l.length - 1]?.getD 0:=by
 obtain ⟨j,hj,rfl⟩:=List.getElem_of_mem hc
 rw [List.getElem?_eq_getElem (by omega),Option.getD_some]
 by_cases e : j = l.length - 1
 ·simp [e]
 ·exact Nat.le_of_lt (List.pairwise_iff_getElem.1 h j (l.length - 1) hj (by omega) (by omega))
theorem ScsX.one {K : Nat} {w : World} {b o n sm i : Nat} {l : List Sc} {c : Nat} (h : ScsX K w (.slice (some ⟨b,o,none⟩) n sm) l) (hn : l.length = n) (hi : i < n) (hc : 1 <= c) (hm : c <= maxLen) : ScsX K w (.slice (some ⟨b,o + i * 11,none⟩) 1 c) [l[i]?.getD default]:=by
 obtain ⟨g,h1,h2⟩:=h
 subst hn
 obtain ⟨b',o',cap,he,_,_,hbK,hcl⟩:=h1.pos (by omega)
 simp only [Value.slice.injEq,Option.some.injEq,Addr.mk.injEq,and_true,true_and] at he
 obtain ⟨⟨rfl,rfl⟩,rfl⟩:=he
 refine ⟨fun _ => g i,⟨_,c,rfl,hc,hm,fun h => (by cases h),fun k hk => ⟨b,o + i * 11,rfl,hbK,fun j hj => ?_⟩⟩,fun k hk => ?_⟩
 ·have hk0 : k = 0:=by simp at hk; omega
  subst hk0
  rw [Nat.zero_mul,Nat.zero_add,Nat.add_assoc]
  exact hcl i hi j hj
 ·have hk0 : k = 0:=by simp at hk; omega
  subst hk0
  exact h2 i hi
theorem infoExprM : (Tryz.prog.info? 49).map (fun i => i.size) = some 9:=by kernel_rfl
theorem dtest_any (bb : Nat) (sv pv : Sl) (scs : List Sc) (gv : Nat -> Value) (e : Gx) (xv : Xv) (w : World) (h : BC bb sv pv scs gv w.heap.size w) (hok : ScOkD scs) (he : ExG w.heap.size w e xv) (hg : e.good = true) (hn20 : scs.length <= 2 ^ 20) :
  Calls Tryz.prog 107 #[.pointer (some ⟨bb,0,none⟩),xv.agg] w fun en w' => ∃ u,en = .returned u /\ Zed (Btw w.heap.size w'.heap.size) w' (CondR (CellsIn (pcs scs)) (fun cs => evT scs cs e) u) /\ Below w.heap.size w w':=by
 obtain ⟨W1,hW1⟩ : ∃ W1,w.alloc (.cells xv.cells 49) = W1:=⟨_,rfl⟩
 have b1 : Below w.heap.size w W1:=by rw [<- hW1]; exact (Below.refl _ _).alloc (Nat.le_refl _) _
 have q1 : Blk W1 w.heap.size xv.cells 49:=by rw [<- hW1]; exact Blk.new w _ _
 have s1 : W1.heap.size = w.heap.size + 1:=by rw [<- hW1]; simp
 have hbc:=h.below b1 (Nat.le_refl _) b1.size
 have hex:=he.below b1 (Nat.le_refl _) b1.size
 obtain ⟨T,hT⟩ : ∃ T,w.heap.size = T:=⟨_,rfl⟩
 have HT:=Lib.hid hT
 have HW:=Lib.hid hW1
 dsimp only [Xv.cells] at HW
 rw [hT] at b1 q1 s1 ⊢
 obtain ⟨n,hn⟩ : ∃ n,scs.length = n:=⟨_,rfl⟩
 rw [hn] at hn20
 obtain ⟨sa,sm,hsv,hsl,hsm⟩:=hbc.s.form
 obtain ⟨pa,pm,hpv,hpl,hpm⟩:=RowsV.form hbc.p
 rw [hn] at hsv hsl hpv hpl
 obtain ⟨cs,hq,hc0,hc5⟩:=hbc.blk
 rw [hsv] at hc0
 rw [hpv] at hc5
 have c0 : W1.cell? ⟨bb,0,none⟩ = some (.slice sa n sm):=hq.at hc0
 have c5 : W1.cell? ⟨bb,5,none⟩ = some (.slice pa n pm):=hq.at hc5
 have hbb:=hq.lt
 have HBC:=Lib.hid hbc
 have HEX:=Lib.hid hex
 have HN:=Lib.hid hn
 have HSV:=Lib.hid hsv
 have HPV:=Lib.hid hpv
 have HOK:=Lib.hid hok
 have HB1:=Lib.hid b1
 have HQ1:=Lib.hid q1
 unfold maxLen at hsm hpm
 clear h hok he hT hW1 hbc hex hn hsv hpv hq hc0 hc5 b1 q1
 dsimp only [Xv.agg]
 go_enter Tryz.func107,Tryz.ntmps107
 go_upto_region 1 with fail
 simp only [HT.out]
 rw [HW.out]
 go_wp2_with fail
 go_loopw [20] (fun iv wr => ∃ (i : Nat),i <= n /\ iv = .int .i64 i /\ Below W1.heap.size W1 wr /\ ∀ j,j < i -> tstOk e (scs[j]?.getD default) = false) (fun iv _ => n - (intOf iv).toNat)
 case atStart => exact ⟨0,Nat.zero_le _,rfl,Below.refl _ _,fun j hj => absurd hj (Nat.not_lt_zero j)⟩
 case round =>
  obtain ⟨i,hi,rfl,hbw,hno⟩:=hrel
  obtain ⟨wo,rfl⟩ : ∃ wo : World,wo = wr:=⟨_,rfl⟩
  have HBW:=Lib.hid hbw
  have HNO:=Lib.hid hno
  have hso:=hbw.size
  clear hno
  by_cases hlt : i < n
  ·obtain ⟨s,hs⟩ : ∃ s,scs[i]?.getD default = s:=⟨_,rfl⟩
   have hil : i < scs.length:=by rw [HN.out]; exact hlt
   have hsm' : s ∈ scs:=by rw [<- hs,List.getElem?_eq_getElem hil]; exact List.getElem_mem hil
   obtain ⟨k1,k2,k3,k4⟩:=HOK.out s hsm'
   obtain ⟨sb,so,sc',hse,_,_,hsbK⟩:=(by obtain ⟨g,h1,_⟩:=HBC.out.s; have := h1.pos (by omega); rw [HN.out,HSV.out] at this; obtain ⟨b,o,cap,h1,h2,h3,h4,_⟩:=this; exact ⟨b,o,cap,h1,h2,h3,h4⟩ : ∃ b o cap,(Value.slice sa n sm) = .slice (some ⟨b,o,none⟩) n cap /\ n <= cap /\ cap <= maxLen /\ b < W1.heap.size)
   simp only [Value.slice.injEq,true_and] at hse
   obtain ⟨rfl,rfl⟩:=hse
   obtain ⟨pb,po,pc',hpe,_,_,hpbK,hpc⟩:=(by have := HBC.out.p; rw [HN.out,HPV.out] at this; exact RowsV.pos this (by omega) : ∃ b o cap,(Value.slice pa n pm) = .slice (some ⟨b,o,none⟩) n cap /\ n <= cap /\ cap <= maxLen /\ b < W1.heap.size /\ ∀ i,i < n -> ∀ j,j < 1 -> W1.cell? ⟨b,o + (i * 1 + j),none⟩ = some (gv i))
   simp only [Value.slice.injEq,true_and] at hpe
   obtain ⟨rfl,rfl⟩:=hpe
   have hgn:=HBC.out.pn i hil
   rw [hs] at hgn
   have hml : 0 < (cellsS s).length:=List.length_pos_iff.2 k3
   obtain ⟨gb,go',gc,hge,_,hgc,hgK,hgcl⟩:=hgn.pos hml
   obtain ⟨m,hm⟩ : ∃ m,(cellsS s).length = m:=⟨_,rfl⟩
   rw [hm] at hml hge hgcl
   have hlast : ∀ c ∈ cellsS s,c <= (cellsS s)[(cellsS s).length - 1]?.getD 0:=fun c hc => last_le (cells_inc s) hc
   obtain ⟨la,hla⟩ : ∃ la,(cellsS s)[(cellsS s).length - 1]?.getD 0 = la:=⟨_,rfl⟩
   rw [hla] at hlast
   rw [hm] at hla
   have hla30 : la <= 2 ^ 30:=by rw [<- hla]; exact k4 _ (by rw [List.getElem?_eq_getElem (by omega)]; exact List.getElem_mem _)
   obtain ⟨W2,hW2⟩ : ∃ W2,wo.alloc (.cells #[.int .i64 (i : Int)] 3) = W2:=⟨_,rfl⟩
   have b2 : Below wo.heap.size wo W2:=by rw [<- hW2]; exact (Below.refl _ _).alloc (Nat.le_refl _) _
   have q2 : Blk W2 wo.heap.size #[.int .i64 (i : Int)] 3:=by rw [<- hW2]; exact Blk.new wo _ _
   have s2 : W2.heap.size = wo.heap.size + 1:=by rw [<- hW2]; simp
   have b12 : Below W1.heap.size W1 W2:=hbw.trans (b2.mono hso)
   have d0:=(b12.cell (p:=⟨bb,0,none⟩) hbb).trans c0
   have d5:=(b12.cell (p:=⟨bb,5,none⟩) hbb).trans c5
   have e1 : W2.cell? ⟨pb,po + i,none⟩ = some (.slice (some ⟨gb,go',none⟩) m gc):=(b12.cell (p:=⟨pb,po + i,none⟩) hpbK).trans (by have := hpc i hlt 0 (by omega); rw [hge] at this; simpa using this)
   have e2 : W2.cell? ⟨gb,go' + (m - 1),none⟩ = some (.int .i64 la):=(b12.cell (p:=⟨gb,go' + (m - 1),none⟩) hgK).trans (by have := hgcl (m - 1) (by omega); rw [hla] at this; exact this)
   have e3 : W2.cell? ⟨wo.heap.size,0,none⟩ = some (.int .i64 i):=q2.at rfl
   have hiw : IntKind.i64.wrap ((i : Int) + 1) = (i : Int) + 1:=IntWalk.i64_in _ (by omega)
   have hmw : IntKind.i64.wrap ((m : Int) - 1) = ((m - 1 : Nat) : Int):=by rw [show ((m - 1 : Nat) : Int) = (m : Int) - 1 by omega]; exact IntWalk.i64_in _ (by unfold maxLen at hgc; omega)
   obtain ⟨l1,hl1⟩ : ∃ l1,la + 1 = l1:=⟨_,rfl⟩
   have hlw : IntKind.i64.wrap ((la : Int) + 1) = (l1 : Int):=by rw [show (l1 : Int) = (la : Int) + 1 by omega]; exact IntWalk.i64_in _ (by omega)
   have hmk:=make_boolsD l1 (by omega)
   have HW2:=Lib.hid hW2
   have HGN:=Lib.hid hgn
   have HGE:=Lib.hid hge
   have HM:=Lib.hid hm
   have HLAST:=Lib.hid hlast
   have hmM : m <= 9223372036854775807:=by have := hgn.form; obtain ⟨_,cc,_,h1,h2⟩:=this; unfold maxLen at h2; omega
   have HS:=Lib.hid hs
   have HK:=Lib.hid (And.intro k1 (And.intro k2 k4))
   clear hbw hpc hgn hge hgcl hm hlast hla hW2 hs k1 k2 k3 k4 hsm' hil
   go_upto_region 4 with fail
   rw [HW2.out]
   go_quiet (fail)
   generalize hW3 : World.drewN W2 _ = W3
   have b3 : Below W2.heap.size W2 W3:=by rw [<- hW3]; exact below_drewN2 (Below.refl _ _) _
   have s3 : W3.heap.size = W2.heap.size:=by rw [<- hW3]; rfl
   have b13 : Below W1.heap.size W1 W3:=b12.trans (b3.mono b12.size)
   have d5:=(b3.cell (p:=⟨bb,5,none⟩) (Nat.lt_of_lt_of_le hbb b12.size)).trans d5
   have e1:=(b3.cell (p:=⟨pb,po + i,none⟩) (Nat.lt_of_lt_of_le hpbK b12.size)).trans e1
   have e2:=(b3.cell (p:=⟨gb,go' + (m - 1),none⟩) (Nat.lt_of_lt_of_le hgK b12.size)).trans e2
   have e3:=(b3.cell (p:=⟨wo.heap.size,0,none⟩) (show wo.heap.size < W2.heap.size by omega)).trans e3
   have q3:=q2.below b3 q2.lt
   clear hW3 HW2 d0 q2
   go_upto_region 5 with fail
   go_quiet (fail)
   generalize hW4 : World.drewN W3 _ = W4
   have b4 : Below W3.heap.size W3 W4:=by rw [<- hW4]; exact below_drewN2 (Below.refl _ _) _
   have s4 : W4.heap.size = W3.heap.size:=by rw [<- hW4]; rfl
   have b14 : Below W1.heap.size W1 W4:=b13.trans (b4.mono b13.size)
   have e2:=(b4.cell (p:=⟨gb,go' + (m - 1),none⟩) (Nat.lt_of_lt_of_le hgK b13.size)).trans e2
   have q4:=q3.below b4 q3.lt
   obtain ⟨R,hR⟩ : ∃ R,W4.heap.size = R:=⟨_,rfl⟩
   have HR:=Lib.hid hR
   obtain ⟨W5,hW5⟩ : ∃ W5,(W4.alloc (.cells (arrD l1 fun _ => .bool false) 4)).alloc (.cells #[.slice (some ⟨W4.heap.size,0,none⟩) l1 l1] 193) = W5:=⟨_,rfl⟩
   have b5 : Below R W4 W5:=by rw [<- hW5,<- hR]; exact ((Below.refl _ _).alloc (Nat.le_refl _) _).alloc (by simp) _
   have r5 : Blk W5 R (arrD l1 fun _ => .bool false) 4:=by rw [<- hW5,<- hR]; exact (Blk.new W4 _ _).alloc _
   have t5 : Blk W5 (R + 1) #[.slice (some ⟨R,0,none⟩) l1 l1] 193:=by
    rw [<- hW5,<- hR]
    have := Blk.new (W4.alloc (.cells (arrD l1 fun _ => .bool false) 4)) #[.slice (some ⟨W4.heap.size,0,none⟩) l1 l1] 193
    rwa [World.size_alloc] at this
   have s5 : W5.heap.size = R + 2:=by rw [<- hW5,<- hR]; simp
   have HW5:=Lib.hid hW5
   have s14:=b14.size
   have SS:=Lib.hid (And.intro s2 (And.intro s3 s4))
   clear hW4 d5 e1 e3 q3 hW5 b2 b3 b4 b12 b13 s2 s3 s4 hR
   go_wp2_with fail
   rw [HW5.out]
   rw [HR.out]
   have hR:=HR.out
   obtain ⟨s2,s3,s4⟩:=SS.out
   obtain ⟨hF,hhF⟩ : ∃ hF : Nat -> Bool,(fun c : Nat => (holdsS e [s] [(c : Int)]).1) = hF:=⟨_,rfl⟩
   have HHF : Hid (∀ c : Nat,(holdsS e [s] [(c : Int)]).1 = hF c):=Lib.hid fun c => by rw [<- hhF]
   have q5:=q4.below b5 (by omega)
   have HB14:=Lib.hid b14
   have HB5:=Lib.hid b5
   have HQ4:=Lib.hid q4
   have s14R : W1.heap.size <= R:=by omega
   have hwoR : wo.heap.size < R:=by omega
   clear hR hhF e2 b14 b5 HW5 s2 s3 s4
   go_loopw [9,49] (fun bv iv wr => ∃ (j : Nat),j <= m /\ bv = .bool true /\ iv = .int .i64 j /\ Below R W4 wr /\ R + 2 <= wr.heap.size /\ Blk wr R (arrD l1 (sawB ((cellsS s).take j) hF)) 4 /\ Blk wr (R + 1) #[.slice (some ⟨R,0,none⟩) l1 l1] 193 ∧
    Hid (∀ c ∈ (cellsS s).take j,(holdsS e [s] [(c : Int)]).2 = 0)) (fun _ iv _ => m - (intOf iv).toNat)
   case atStart => exact ⟨0,Nat.zero_le _,rfl,rfl,HB5.out,by omega,r5,t5,Lib.hid fun c hc => by simp at hc⟩
   case round =>
    obtain ⟨j,hj,rfl,rfl,hbj,hsj,rj,tj,HALL⟩:=hrel
    obtain ⟨wi,rfl⟩ : ∃ wi : World,wi = wr:=⟨_,rfl⟩
    have b1i : Below W1.heap.size W1 wi:=HB14.out.trans (hbj.mono (by omega))
    have HBJ:=Lib.hid hbj
    have HRJ:=Lib.hid rj
    have HTJ:=Lib.hid tj
    have H1I:=Lib.hid b1i
    have s1i:=b1i.size
    by_cases hlj : j < m
    ·have hgn:=HGN.out
     obtain ⟨c,hcc⟩ : ∃ c,(cellsS s)[j]? = some c:=⟨_,List.getElem?_eq_getElem (by rw [HM.out]; exact hlj)⟩
     obtain ⟨gb',go2,gc',hge',_,_,hgK',hgcl'⟩:=hgn.pos (by rw [HM.out]; omega)
     rw [HGE.out,HM.out] at hge'
     simp only [Value.slice.injEq,Option.some.injEq,Addr.mk.injEq,and_true,true_and] at hge'
     obtain ⟨⟨rfl,rfl⟩,rfl⟩:=hge'
     have e4 : wi.cell? ⟨gb,go' + j,none⟩ = some (.int .i64 (c : Int)):=(b1i.cell (p:=⟨gb,go' + j,none⟩) hgK').trans (by have := hgcl' j (by rw [HM.out]; exact hlj); rw [hcc] at this; exact this)
     have hcl : c <= la:=HLAST.out c (List.mem_of_getElem? hcc)
     have hqx:=HQ1.out.below b1i (by omega)
     have hr0 : wi.rangeAt T 0 xv.cells.toList:=hqx.range
     obtain ⟨W6,hW6⟩ : ∃ W6,wi.alloc (.cells #[.int .i64 (c : Int)] 3) = W6:=⟨_,rfl⟩
     have b6 : Below wi.heap.size wi W6:=by rw [<- hW6]; exact (Below.refl _ _).alloc (Nat.le_refl _) _
     have q6 : Blk W6 wi.heap.size #[.int .i64 (c : Int)] 3:=by rw [<- hW6]; exact Blk.new wi _ _
     have b16 : Below W1.heap.size W1 W6:=b1i.trans (b6.mono s1i)
     have hls : ScsX W1.heap.size W1 (.slice (some ⟨sb,so + i * 11,none⟩) 1 (sm - i)) [s]:=by
      have := HBC.out.s
      rw [HSV.out] at this
      have h2:=ScsX.one this HN.out hlt (c:=sm - i) (by omega) (by unfold maxLen; omega)
      rwa [HS.out] at h2
     have hci : IntsX W6.heap.size W6 (.slice (some ⟨wi.heap.size,0,none⟩) 1 1) [(c : Int)]:=RowsV.mk_cells (n:=1) (Nat.le_refl _) (by simp [maxLen]) q6.lt fun k hk jj hjj => by
      have hk0 : k = 0:=by omega
      have hj0 : jj = 0:=by omega
      subst hk0; subst hj0
      exact q6.at rfl
     have hho:=gholds_any W6.heap.size e xv [s] _ [(c : Int)] _ W6 (HEX.out.below b16 (Nat.le_refl _) b16.size) hg (hls.below b16 (Nat.le_refl _) b16.size) hci (Nat.le_refl _) (fun s' hs' => by rw [List.mem_singleton.1 hs']; exact HK.out.1) (fun s' hs' => by rw [List.mem_singleton.1 hs']; exact HK.out.2.1)
     have hfc:=HHF.out c
     obtain ⟨r,hr⟩ : ∃ r,holdsS e [s] [(c : Int)] = r:=⟨_,rfl⟩
     rw [hr] at hho hfc
     have HHO:=Lib.hid hho
     have HRR:=Lib.hid hr
     have HFC:=Lib.hid hfc
     have HW6:=Lib.hid hW6
     have HCC:=Lib.hid hcc
     have HB6:=Lib.hid b6
     dsimp only [Xv.agg,Xv.cells] at HHO
     clear hgn hcc hgcl' hqx hls hci hho hr hfc hW6 b16 hbj rj tj b1i b6 q6
     go_wp2_with (refine wpList_load_mid rfl 49 (.tmp 3) rfl T 0 rfl xv.cells.toList _ hr0 Tryz.underlying49 rfl infoExprM ?_)
     rw [HW6.out]
     refine HHO.out.mono ?_
     clear HHO hr0 e4
     rintro en w7 ⟨rfl,hb7⟩
     have hbi7 : Below wi.heap.size wi w7:=HB6.out.trans (hb7.mono HB6.out.size)
     have HB7:=Lib.hid hbi7
     have s7:=hbi7.size
     have r7:=HRJ.out.below hbi7 (by omega)
     have t7:=HTJ.out.below hbi7 (by omega)
     obtain ⟨r1,r2⟩:=r
     dsimp only at HFC HRR ⊢
     by_cases hz : r2 = 0
     ·subst hz
      have u0 : w7.cell? ⟨R + 1,0,none⟩ = some (.slice (some ⟨R,0,none⟩) l1 l1):=t7.at rfl
      have u1 : w7.cell? ⟨R,c,none⟩ = some (sawB ((cellsS s).take j) hF c):=r7.at (arrD_at _ (by omega))
      have u2 : w7.frozen? ⟨R,c,none⟩ = false:=r7.free c
      have hcl1 : c < l1:=by omega
      have rz : Blk (w7.setCell ⟨R,c,none⟩ (.bool r1)) R (arrD l1 (sawB ((cellsS s).take (j + 1)) hF)) 4:=by
       have := r7.set (i:=c) (.bool r1)
       rw [show r1 = hF c from HFC.out,saw_set] at this
       rw [take_snoc HCC.out]
       rwa [show r1 = hF c from HFC.out]
      have tz : Blk (w7.setCell ⟨R,c,none⟩ (.bool r1)) (R + 1) #[.slice (some ⟨R,0,none⟩) l1 l1] 193:=t7.other (by omega) _
      have bz : Below R W4 (w7.setCell ⟨R,c,none⟩ (.bool r1)):=(HBJ.out.trans (hbi7.mono (by omega))).setCell (p:=⟨R,c,none⟩) (Nat.le_refl _) _
      have hal : Hid (∀ c ∈ (cellsS s).take (j + 1),(holdsS e [s] [(c : Int)]).2 = 0):=Lib.hid fun c' hc' => by
       rw [take_snoc HCC.out] at hc'
       rcases List.mem_append.1 hc' with hc' | hc'
       ·exact HALL.out c' hc'
       ·rw [List.mem_singleton.1 hc',HRR.out]
      have HRZ:=Lib.hid rz
      have HTZ:=Lib.hid tz
      have HBZ:=Lib.hid bz
      clear rz tz bz r7 t7 hb7 hbi7
      go_wp2_with fail
      exact ⟨⟨j + 1,by omega,rfl,by go_num,HBZ.out,by simp [World.setCell]; omega,HRZ.out,HTZ.out,hal⟩,by simp [intOf]; omega⟩
     ·have hne : (r2 != 0) = true:=by simpa using hz
      have hbad : Hid (∀ k,k < i + 1 -> tstOk e (scs[k]?.getD default) = false):=Lib.hid fun k hk => by
       by_cases hki : k < i
       ·exact HNO.out k hki
       ·obtain rfl : k = i:=by omega
        rw [HS.out]
        unfold tstOk
        rw [List.all_eq_false]
        exact ⟨c,List.mem_of_getElem? HCC.out,by rw [HRR.out]; simpa using hz⟩
      have hb17 : Below W1.heap.size W1 w7:=H1I.out.trans (hbi7.mono s1i)
      have HB17:=Lib.hid hb17
      clear r7 t7 hb7 hbi7 hb17 hz
      go_wp2_with fail
      exact ⟨⟨i + 1,by omega,by go_num,HB17.out,hbad.out⟩,by simp [intOf]; omega⟩
    ·obtain rfl : j = m:=by omega
     have htk : (cellsS s).take j = cellsS s:=List.take_of_length_le (by rw [HM.out]; exact Nat.le_refl _)
     rw [htk] at rj
     have hall:=HALL.out
     rw [htk] at hall
     have q6:=HQ4.out.below hbj (by omega)
     have HQ6:=Lib.hid q6
     have hix : tstIx scs e = i:=by
      unfold tstIx
      have hil : i < scs.length:=by rw [HN.out]; exact hlt
      rw [List.findIdx_eq hil]
      have hsi : scs[i] = s:=by have := HS.out; rw [List.getElem?_eq_getElem hil] at this; exact this
      refine ⟨?_,fun k hk => ?_⟩
      ·rw [hsi]
       unfold tstOk
       rw [List.all_eq_true]
       intro c hc
       rw [hall c hc]; rfl
      ·have := HNO.out k hk
       rwa [List.getElem?_eq_getElem (by omega)] at this
     have HIX:=Lib.hid hix
     have HRJ2:=Lib.hid rj
     clear hix hall htk rj tj hbj q6 b1i
     go_wp2_with fail
     go_ret
     refine ⟨_,rfl,fun W K ha hK => ?_,HB1.out.trans (H1I.out.mono (by omega))⟩
     have hin : ∀ b,T <= b -> b < wi.heap.size -> Btw T wi.heap.size b:=fun b h1 h2 => ⟨h1,h2⟩
     have z1 : Blk W (R + 1) #[.slice (some ⟨R,0,none⟩) l1 l1] 193:=ha _ _ (hin _ (by omega) (by omega)) HTJ.out rfl
     have z2 : Blk W R (arrD l1 (sawB (cellsS s) hF)) 4:=ha _ _ (hin _ (by omega) (by omega)) HRJ2.out rfl
     have z3 : Blk W wo.heap.size #[.int .i64 (i : Int)] 3:=ha _ _ (hin _ (by omega) (by omega)) HQ6.out rfl
     refine cond_test _ _ K (R + 1) R wo.heap.size l1 i (sawB (cellsS s) hF) W z1 z2 z3 (hK _ (hin _ (by omega) (by omega))) (hK _ (hin _ (by omega) (by omega))) (hK _ (hin _ (by omega) (by omega))) fun cs hcs => ?_
     have hil : i < scs.length:=by rw [HN.out]; exact hlt
     have hcl : i < cs.length:=by rw [hcs.1]; unfold pcs; rw [List.length_map]; exact hil
     obtain ⟨p,hp,hc⟩:=hcs.2 i _ (List.getElem?_eq_getElem hcl)
     have hsi : scs[i]? = some s:=by have := HS.out; rw [List.getElem?_eq_getElem hil] at this ⊢; exact congrArg some this
     unfold pcs at hp
     rw [List.getElem?_map,hsi] at hp
     cases hp
     have hle:=HLAST.out _ hc
     refine ⟨hcl,by rw [List.getElem?_eq_getElem hcl,Option.getD_some]; omega,?_⟩
     unfold evT sawB
     rw [HIX.out,if_pos hil,hsi,List.getElem?_eq_getElem hcl,Option.getD_some,Option.getD_some]
     rw [HHF.out,List.contains_iff_mem.2 hc,Bool.true_and]
  ·obtain rfl : i = n:=by omega
   have hev : ∀ cs,evT scs cs e = false:=fun cs => by
    unfold evT tstIx
    rw [if_neg]
    rw [Nat.not_lt]
    refine Nat.le_of_eq (Eq.symm (List.findIdx_eq_length.2 fun s hs => ?_))
    obtain ⟨k,hk,rfl⟩:=List.getElem_of_mem hs
    have := HNO.out k (by rw [<- HN.out]; exact hk)
    rw [List.getElem?_eq_getElem hk] at this
    simpa using this
   have HEV:=Lib.hid hev
   clear hev
   go_wp2_with fail
   refine bodyPost_ret (v:=.func (.func 153) #[] #[]) (by simp [results,Tryz.results107,go_sem]) rfl ?_
   refine ⟨_,rfl,fun W K ha hK => ?_,HB1.out.trans (HBW.out.mono (by omega))⟩
   have := cond_no (CellsIn (pcs scs)) K W
   simp only [HEV.out]
   exact this
end Go.Proofs.YtlidpghnlloinaaGreatDoor
