/- Contracts and plain laws, several texts in one (GScale, GVal). No conditions beyond those stated. -/
import Derived.Test.YtlidpghnlloinaaGreatDoorPk7
set_option maxRecDepth 100000
set_option maxHeartbeats 40000000
namespace Go.Proofs.YtlidpghnlloinaaGreatDoor
open Go.RowKit
set_option linter.unusedVariables false
structure Sv where
 x : Xv
 kd : Int
 c : Sl
def Sv.cell (s : Sv) : Nat -> Value
 | 0 => s.x.cell 0
 | 1 => s.x.cell 1
 | 2 => s.x.cell 2
 | 3 => s.x.cell 3
 | 4 => s.x.cell 4
 | 5 => s.x.cell 5
 | 6 => s.x.cell 6
 | 7 => s.x.cell 7
 | 8 => s.x.cell 8
 | 9 => .int .u8 s.kd
 | _ => s.c.val
abbrev Sv.cells (s : Sv) : Array Value:=#[.int .u8 s.x.op,S s.x.nm,.int .u8 s.x.kd,.bool s.x.b3,.slice s.x.s4.a s.x.s4.n s.x.s4.m,.bool s.x.b5,.slice s.x.s6.a s.x.s6.n s.x.s6.m,.int .i64 s.x.i7,.slice s.x.s8.a s.x.s8.n s.x.s8.m,.int .u8 s.kd,.slice s.c.a s.c.n s.c.m]
abbrev Sv.agg (s : Sv) : Value:=.agg s.cells
structure ScX (K : Nat) (w : World) (s : Sc) (y : Sv) : Prop where
 e : ExG K w s.e y.x
 kd : y.kd = s.kd
 cuts : CutsX K w y.c.val s.cuts
theorem ScX.below {K K' B : Nat} {w w' : World} {s : Sc} {y : Sv} (h : ScX K w s y) (hb : Below B w w') (hB : K <= B) (hK : K <= K') : ScX K' w' s y:=⟨h.e.below hb hB hK,h.kd,h.cuts.below hb hB hK⟩
def ScsX (K : Nat) (w : World) (v : Value) (l : List Sc) : Prop:=∃ g : Nat -> Sv,RowsV 11 (fun i j => (g i).cell j) K w v l.length /\ ∀ i,i < l.length -> ScX K w (l[i]?.getD default) (g i)
theorem ScsX.below {K K' B : Nat} {w w' : World} {v : Value} {l : List Sc} (h : ScsX K w v l) (hb : Below B w w') (hB : K <= B) (hK : K <= K') : ScsX K' w' v l:=by
 obtain ⟨g,h1,h2⟩:=h
 exact ⟨g,h1.below hb hB hK,fun i hi => (h2 i hi).below hb hB hK⟩
theorem ScsX.form {K : Nat} {w : World} {v : Value} {l : List Sc} (h : ScsX K w v l) : ∃ a cap,v = .slice a l.length cap /\ l.length <= cap /\ cap <= maxLen:=by
 obtain ⟨g,h1,h2⟩:=h; exact h1.form
theorem sc_cells {g : Nat -> Sv} {w : World} {b o k n : Nat} (hc : ∀ i,i < n -> ∀ j,j < 11 -> w.cell? ⟨b,o + (i * 11 + j),none⟩ = some ((g i).cell j)) (hk : k < n) :
  w.cell? ⟨b,o + k * 11,none⟩ = some (.int .u8 (g k).x.op) /\ w.cell? ⟨b,o + k * 11 + 1,none⟩ = some (S (g k).x.nm) /\ w.cell? ⟨b,o + k * 11 + 2,none⟩ = some (.int .u8 (g k).x.kd) ∧
  w.cell? ⟨b,o + k * 11 + 3,none⟩ = some (.bool (g k).x.b3) /\ w.cell? ⟨b,o + k * 11 + 4,none⟩ = some (g k).x.s4.val /\ w.cell? ⟨b,o + k * 11 + 5,none⟩ = some (.bool (g k).x.b5) ∧
  w.cell? ⟨b,o + k * 11 + 6,none⟩ = some (g k).x.s6.val /\ w.cell? ⟨b,o + k * 11 + 7,none⟩ = some (.int .i64 (g k).x.i7) /\ w.cell? ⟨b,o + k * 11 + 8,none⟩ = some (g k).x.s8.val ∧
  w.cell? ⟨b,o + k * 11 + 9,none⟩ = some (.int .u8 (g k).kd) /\ w.cell? ⟨b,o + k * 11 + 10,none⟩ = some (g k).c.val:=by
 have h:=hc k hk
 exact ⟨h 0 (by omega),h 1 (by omega),h 2 (by omega),h 3 (by omega),h 4 (by omega),h 5 (by omega),h 6 (by omega),h 7 (by omega),h 8 (by omega),h 9 (by omega),h 10 (by omega)⟩
theorem Blk.eleven {w : World} {b t : Nat} {x0 x1 x2 x3 x4 x5 x6 x7 x8 x9 x10 : Value} (h : Blk w b #[x0,x1,x2,x3,x4,x5,x6,x7,x8,x9,x10] t) : w.cell? ⟨b,0,none⟩ = some x0 /\ w.cell? ⟨b,1,none⟩ = some x1 /\ w.cell? ⟨b,2,none⟩ = some x2 ∧
  w.cell? ⟨b,3,none⟩ = some x3 /\ w.cell? ⟨b,4,none⟩ = some x4 /\ w.cell? ⟨b,5,none⟩ = some x5 /\ w.cell? ⟨b,6,none⟩ = some x6 /\ w.cell? ⟨b,7,none⟩ = some x7 /\ w.cell? ⟨b,8,none⟩ = some x8 /\ w.cell? ⟨b,9,none⟩ = some x9 /\ w.cell? ⟨b,10,none⟩ = some x10 :=
 ⟨h.at rfl,h.at rfl,h.at rfl,h.at rfl,h.at rfl,h.at rfl,h.at rfl,h.at rfl,h.at rfl,h.at rfl,h.at rfl⟩
theorem belongs_any (K : Nat) (t : Tq) (s : Sc) (x : Tv) (y : Sv) (w : World) (ht : TqX K w t x) (hs : ScX K w s y) (hK : K <= w.heap.size) :
  Calls Tryz.prog 97 #[x.agg,y.agg] w fun e w' => e = .returned (.bool (t.belongs s)) /\ Below w.heap.size w w':=by
 have hbW : Below w.heap.size w ((w.alloc (.cells x.cells 156)).alloc (.cells y.cells 79)):=((Below.refl _ _).alloc (Nat.le_refl _) _).alloc (by simp) _
 have hc:=gsame_any w.heap.size t.sub s.e x.sub y.x _ (ht.sub.below hbW hK hK) (hs.e.below hbW hK hK) (by simp; omega)
 have hr : t.belongs s = (x.kd == y.kd && sameG t.sub s.e):=by unfold Tq.belongs; rw [ht.kd,hs.kd]
 obtain ⟨r,hr1⟩ : ∃ r,t.belongs s = r:=⟨_,rfl⟩
 obtain ⟨r2,hr2⟩ : ∃ r,sameG t.sub s.e = r:=⟨_,rfl⟩
 obtain ⟨c1,hc1⟩ : ∃ c,(x.kd == y.kd) = c:=⟨_,rfl⟩
 rw [hr1,hr2,hc1] at hr
 rw [hr2] at hc
 rw [hr1]
 have HR:=Lib.hid hr
 obtain ⟨vs1,vm1,hv1,_⟩:=ht.cut.n.form
 obtain ⟨vs2,vm2,hv2,_⟩:=ht.cut.d.form
 clear hr hr1 hr2 ht hs
 obtain ⟨⟨xop,xnm,xkd,xb3,⟨x4,x4n,x4m⟩,xb5,⟨x6,x6n,x6m⟩,xi7,⟨x8,x8n,x8m⟩⟩,tk,⟨vk,vb1,vs1,vb2,vs2,vi⟩,top,tsn⟩:=x
 obtain ⟨⟨yop,ynm,ykd,yb3,⟨y4,y4n,y4m⟩,yb5,⟨y6,y6n,y6m⟩,yi7,⟨y8,y8n,y8m⟩⟩,sk,⟨ca,cn,cm⟩⟩:=y
 dsimp only at hc1 hv1 hv2
 subst hv1 hv2
 cases c1 with
 | false =>
  clear hc
  go_enter Tryz.func97,Tryz.ntmps97
  go_wp2_with fail
  go_ret
  exact ⟨by rw [HR.out]; rfl,hbW⟩
 | true =>
  go_enter Tryz.func97,Tryz.ntmps97
  go_wp2_with fail
  refine hc.mono ?_
  rintro e w2 ⟨rfl,hb2⟩
  go_wp2_with fail
  go_ret
  exact ⟨by rw [HR.out]; rfl,hbW.trans (hb2.mono (by simp; omega))⟩
def idxS (l : List Sc) (t : Tq) : Int:=if l.findIdx t.belongs < l.length then (l.findIdx t.belongs : Int) else -1
theorem idxS_at {l : List Sc} {t : Tq} {k : Nat} (hk : k < l.length) (h0 : ∀ i,i < k -> t.belongs (l[i]?.getD default) = false) (h : t.belongs (l[k]?.getD default) = true) : idxS l t = k:=by
 have : l.findIdx t.belongs = k:=by
  rw [List.findIdx_eq hk]
  refine ⟨by rw [List.getElem?_eq_getElem hk] at h; exact h,fun j hj => ?_⟩
  have := h0 j hj
  rwa [List.getElem?_eq_getElem (by omega)] at this
 unfold idxS; rw [this,if_pos hk]
theorem idxS_none {l : List Sc} {t : Tq} (h0 : ∀ i,i < l.length -> t.belongs (l[i]?.getD default) = false) : idxS l t = -1:=by
 have : l.findIdx t.belongs = l.length:=by
  rw [List.findIdx_eq_length]
  intro x hx
  obtain ⟨j,hj,rfl⟩:=List.mem_iff_getElem.1 hx
  have := h0 j hj
  rwa [List.getElem?_eq_getElem hj] at this
 unfold idxS; rw [this,if_neg (Nat.lt_irrefl _)]
theorem idxScale_any (K : Nat) (t : Tq) (x : Tv) (v : Value) (l : List Sc) (w : World) (ht : TqX K w t x) (hv : ScsX K w v l) (hK : K <= w.heap.size) :
  Calls Tryz.prog 96 #[v,.func (.func 97) #[x.agg] #[]] w fun e w' => e = .returned (.int .i64 (idxS l t)) /\ Below w.heap.size w w':=by
 obtain ⟨g,hg,hgs⟩:=hv
 obtain ⟨va,vcap,rfl,hv1,hv2⟩:=id hg.form
 unfold maxLen at hv2
 have HC : Hid (∀ i,i < l.length -> ∀ W,Below w.heap.size w W -> Calls Tryz.prog 97 #[x.agg,(g i).agg] W fun e w' => e = .returned (.bool (t.belongs (l[i]?.getD default))) /\ Below W.heap.size W w'):=Lib.hid fun i hi W hW => by
  have := hW.size
  exact belongs_any W.heap.size t _ x (g i) W (ht.below hW hK (by omega)) ((hgs i hi).below hW hK (by omega)) (Nat.le_refl _)
 obtain ⟨q,hq⟩ : ∃ q,l.length = q:=⟨_,rfl⟩
 rw [hq] at hg hv1 HC ⊢
 have HG:=Lib.hid hg
 have HQ:=Lib.hid hq
 obtain ⟨X,hX⟩ : ∃ X,x.agg = X:=⟨_,rfl⟩
 rw [hX] at HC ⊢
 clear hq hg hgs ht hX
 go_enter Tryz.func96,Tryz.ntmps96
 go_wp2_with fail
 go_loopw [8] (fun i wr => ∃ k : Nat,k <= q /\ i = .int .i64 k /\ Below w.heap.size w wr /\ Hid (∀ i,i < k -> t.belongs (l[i]?.getD default) = false)) (fun i _ => q - (intOf i).toNat)
 case atStart => exact ⟨0,Nat.zero_le _,rfl,Below.refl _ _,Lib.hid fun i hi => absurd hi (Nat.not_lt_zero i)⟩
 case round =>
  obtain ⟨k,hk,rfl,hbr,HALL⟩:=hrel
  by_cases hlt : k < q
  ·obtain ⟨b,o,cap,he,_,_,hbK,hc⟩:=HG.out.pos (by omega)
   simp only [Value.slice.injEq,true_and] at he
   obtain ⟨rfl,rfl⟩:=he
   obtain ⟨c0,c1,c2,c3,c4,c5,c6,c7,c8,c9,c10⟩:=sc_cells (cells_below hbr (by omega) hc) hlt
   have hcall:=HC.out k hlt wr hbr
   obtain ⟨r,hr⟩ : ∃ r,t.belongs (l[k]?.getD default) = r:=⟨_,rfl⟩
   rw [hr] at hcall
   obtain ⟨y,hy⟩ : ∃ y,g k = y:=⟨_,rfl⟩
   rw [hy] at c0 c1 c2 c3 c4 c5 c6 c7 c8 c9 c10 hcall
   have hsr:=hbr.size
   have hbl : b < wr.heap.size:=by omega
   have HR:=Lib.hid hr
   clear hy hc hr
   go_wp2_with fail
   refine hcall.mono ?_
   rintro e w2 ⟨rfl,hb2⟩
   clear hcall c0 c1 c2 c3 c4 c5 c6 c7 c8 c9 c10
   have hb3 : Below w.heap.size w w2:=hbr.trans (hb2.mono hsr)
   cases r with
   | true =>
    have HE:=Lib.hid (idxS_at (by rw [HQ.out]; exact hlt) HALL.out HR.out)
    go_wp2_with fail
    go_ret
    exact ⟨by rw [HE.out]; rfl,hb3⟩
   | false =>
    go_wp2_with fail
    refine ⟨⟨k + 1,by omega,by go_num,hb3,Lib.hid fun i hi => ?_⟩,by simp [intOf]; omega⟩
    by_cases hik : i = k
    ·rw [hik]; exact HR.out
    ·exact HALL.out i (by omega)
  ·obtain rfl : k = q:=by omega
   have HE:=Lib.hid (idxS_none (fun i hi => HALL.out i (by have := HQ.out; omega)))
   go_wp2_with fail
   go_ret
   exact ⟨by rw [HE.out]; rfl,hbr⟩
def cutB (kd : Int) (l : List Vq) (i : Nat) : Bool:=(l[i]?.getD v0).kd == kd && (l[i]?.getD v0).ok && (i == 0 || !vle (l[i]?.getD v0) (l[i - 1]?.getD v0))
def Sc.okB (s : Sc) : Bool:=if s.kd = 0 then s.cuts.length == 0 else decide (2 <= s.kd) && decide (s.kd <= 6) && decide (1 <= s.cuts.length) && decide (s.cuts.length <= 32) && (List.range s.cuts.length).all (cutB s.kd s.cuts)
theorem okB_bad {s : Sc} (h0 : s.kd ≠ 0) (h : s.kd < 2 \/ 6 < s.kd \/ s.cuts.length < 1 \/ 32 < s.cuts.length) : s.okB = false:=by
 unfold Sc.okB; rw [if_neg h0]
 rcases h with h | h | h | h
 ·rw [show decide (2 <= s.kd) = false by simpa using h]; simp
 ·rw [show decide (s.kd <= 6) = false by simpa using h]; simp
 ·rw [show decide (1 <= s.cuts.length) = false from decide_eq_false (by omega)]; simp
 ·rw [show decide (s.cuts.length <= 32) = false from decide_eq_false (by omega)]; simp
theorem okB_cut {s : Sc} {k : Nat} (h0 : s.kd ≠ 0) (hk : k < s.cuts.length) (h : cutB s.kd s.cuts k = false) : s.okB = false:=by
 unfold Sc.okB; rw [if_neg h0]
 rw [show (List.range s.cuts.length).all (cutB s.kd s.cuts) = false by
  rw [List.all_eq_false]; exact ⟨k,List.mem_range.2 hk,by simp [h]⟩]
 simp
theorem okB_all {s : Sc} (h0 : s.kd ≠ 0) (h1 : ¬ s.kd < 2) (h2 : ¬ 6 < s.kd) (h3 : ¬ s.cuts.length < 1) (h4 : ¬ 32 < s.cuts.length) (h : ∀ j,j < s.cuts.length -> cutB s.kd s.cuts j = true) : s.okB = true:=by
 unfold Sc.okB; rw [if_neg h0]
 rw [show (List.range s.cuts.length).all (cutB s.kd s.cuts) = true by rw [List.all_eq_true]; exact fun j hj => h j (List.mem_range.1 hj)]
 simp; omega
theorem infoValue : (Tryz.prog.info? 47).map (fun i => i.size) = some 6:=by kernel_rfl
theorem gvalid_any (K : Nat) (s : Sc) (y : Sv) (w : World) (hs : ScX K w s y) (hK : K <= w.heap.size) (hgo : ∀ c ∈ s.cuts,c.good = true) (hbig : s.cuts.length <= 2 ^ 38) :
  Calls Tryz.prog 69 #[y.agg] w fun e w' => e = .returned (.bool s.okB) /\ Below w.heap.size w w':=by
 obtain ⟨W1,hW1⟩ : ∃ W1,w.alloc (.cells y.cells 79) = W1:=⟨_,rfl⟩
 have b1 : Below w.heap.size w W1:=by rw [<- hW1]; exact (Below.refl _ _).alloc (Nat.le_refl _) _
 have q1 : Blk W1 w.heap.size y.cells 79:=by rw [<- hW1]; exact Blk.new w _ _
 have s1 : W1.heap.size = w.heap.size + 1:=by rw [<- hW1]; simp
 obtain ⟨B,hB⟩ : ∃ B,w.heap.size = B:=⟨_,rfl⟩
 have HB:=Lib.hid hB
 have HW:=Lib.hid hW1
 rw [hB] at hK b1 q1 s1 ⊢
 obtain ⟨g,hg,hgi⟩:=hs.cuts.below b1 hK hK
 obtain ⟨va,vcap,hve,hn,hm⟩:=id hg.form
 unfold maxLen at hm
 obtain ⟨n,hnl⟩ : ∃ n,s.cuts.length = n:=⟨_,rfl⟩
 have hkd:=hs.kd
 have HGO : Hid (∀ i,i < n -> (s.cuts[i]?.getD v0).good = true):=Lib.hid fun i hi => by
  rw [List.getElem?_eq_getElem (by omega)]; exact hgo _ (List.getElem_mem (by omega))
 clear hB hW1 hs hgo
 obtain ⟨⟨yop,ynm,yk,yb3,⟨y4,y4n,y4m⟩,yb5,⟨y6,y6n,y6m⟩,yi7,⟨y8,y8n,y8m⟩⟩,sk,⟨ca,cn,cm⟩⟩:=y
 dsimp only [Sl.val] at hve hkd
 simp only [Value.slice.injEq] at hve
 obtain ⟨rfl,rfl,rfl⟩:=hve
 subst hkd
 rw [hnl] at hg hn hgi hbig q1 HW ⊢
 have HN:=Lib.hid hnl
 clear hnl
 have c9 : W1.cell? ⟨B,9,none⟩ = some (.int .u8 s.kd):=q1.at rfl
 have c10 : W1.cell? ⟨B,10,none⟩ = some (.slice ca n cm):=q1.at rfl
 obtain ⟨r,hr⟩ : ∃ r,s.okB = r:=⟨_,rfl⟩
 obtain ⟨kd,hkd⟩ : ∃ kd,s.kd = kd:=⟨_,rfl⟩
 have HR:=Lib.hid hr
 have HKD:=Lib.hid hkd
 rw [hr]
 rw [hkd] at c9 q1 HW ⊢
 clear hr hkd
 have HG:=Lib.hid hg
 have HGI:=Lib.hid hgi
 clear hg hgi
 have HQ1:=Lib.hid q1
 clear q1
 by_cases h0 : kd = 0
 ·have hr : r = ((n : Int) == 0):=by rw [<- HR.out]; unfold Sc.okB; rw [if_pos (by rw [HKD.out]; exact h0),HN.out]; cases n <;> simp <;> omega
  subst h0 hr
  go_enter Tryz.func69,Tryz.ntmps69
  go_upto_region 1 with fail
  simp only [HB.out]
  rw [HW.out]
  go_wp2_with fail
  go_ret
  exact ⟨rfl,b1⟩
 have h0' : s.kd ≠ 0:=by rw [HKD.out]; exact h0
 have e0 : (kd == 0) = false:=by simpa using h0
 by_cases hbad : kd < 2 \/ 6 < kd \/ n < 1 \/ 32 < n
 ·have hr : r = false:=by rw [<- HR.out]; exact okB_bad h0' (by rw [HKD.out,HN.out]; exact hbad)
  subst hr
  by_cases h1 : kd < 2
  ·have e1 : decide (kd < 2) = true:=by simpa using h1
   clear hbad h0 h1
   go_enter Tryz.func69,Tryz.ntmps69
   go_upto_region 1 with fail
   simp only [HB.out]
   rw [HW.out]
   go_wp2_with fail
   go_ret
   exact ⟨rfl,b1⟩
  have e1 : decide (kd < 2) = false:=by simpa using h1
  by_cases h2 : 6 < kd
  ·have e2 : decide (6 < kd) = true:=by simpa using h2
   clear hbad h0 h1 h2
   go_enter Tryz.func69,Tryz.ntmps69
   go_upto_region 1 with fail
   simp only [HB.out]
   rw [HW.out]
   go_wp2_with fail
   go_ret
   exact ⟨rfl,b1⟩
  have e2 : decide (6 < kd) = false:=by simpa using h2
  by_cases h3 : n < 1
  ·have e3 : decide ((n : Int) < 1) = true:=by simp; omega
   clear hbad h0 h1 h2 h3
   go_enter Tryz.func69,Tryz.ntmps69
   go_upto_region 1 with fail
   simp only [HB.out]
   rw [HW.out]
   go_wp2_with fail
   go_ret
   exact ⟨rfl,b1⟩
  have e3 : decide ((n : Int) < 1) = false:=by simp; omega
  have h4 : 32 < n:=by omega
  have e4 : decide (32 < (n : Int)) = true:=by simp; omega
  clear hbad h0 h1 h2 h3 h4
  go_enter Tryz.func69,Tryz.ntmps69
  go_upto_region 1 with fail
  simp only [HB.out]
  rw [HW.out]
  go_wp2_with fail
  go_ret
  exact ⟨rfl,b1⟩
 have e1 : decide (kd < 2) = false:=by simp; omega
 have e2 : decide (6 < kd) = false:=by simp; omega
 have e3 : decide ((n : Int) < 1) = false:=by simp; omega
 have e4 : decide (32 < (n : Int)) = false:=by simp; omega
 have HBD:=Lib.hid hbad
 have HZ:=Lib.hid h0'
 clear hbad h0 h0'
 go_enter Tryz.func69,Tryz.ntmps69
 go_upto_region 1 with fail
 simp only [HB.out]
 rw [HW.out]
 go_wp2_with fail
 clear e0 e1 e2 e3 e4
 go_loopw [35] (fun i wr => ∃ k : Nat,k <= n /\ i = .int .i64 k /\ Below W1.heap.size W1 wr /\ Hid (∀ j,j < k -> cutB kd s.cuts j = true)) (fun i _ => n - (intOf i).toNat)
 case atStart => exact ⟨0,Nat.zero_le _,rfl,Below.refl _ _,Lib.hid fun i hi => absurd hi (Nat.not_lt_zero i)⟩
 case round =>
  obtain ⟨k,hk,rfl,hbr,HALL⟩:=hrel
  clear c9 c10
  have hsr:=hbr.size
  by_cases hlt : k < n
  ·obtain ⟨cb,co,cap,he,_,_,hbK,hc⟩:=HG.out.pos (by omega)
   simp only [Value.slice.injEq,true_and] at he
   obtain ⟨rfl,rfl⟩:=he
   have hcr:=cells_below hbr (by omega) hc
   obtain ⟨d0,d1,d2,d3,d4,d5⟩:=val_cells hcr hlt
   have hgx:=HGI.out k hlt
   have hbl : cb < wr.heap.size:=by omega
   have hgk:=HGO.out k hlt
   have hcall : ∀ W,Below wr.heap.size wr W -> Calls Tryz.prog 79 #[(g k).agg] W fun e w' => e = .returned (.bool (s.cuts[k]?.getD v0).ok) /\ Below W.heap.size W w':=fun W hb => by
    have hbb : Below W1.heap.size W1 W:=hbr.trans (hb.mono hsr)
    have := hbb.size
    exact tlvalid_any W.heap.size _ _ W (hgx.below hbb (by omega) (by omega)) (Nat.le_refl _) hgk
   have hkk : (g k).kd = (s.cuts[k]?.getD v0).kd:=hgx.kd
   have hcut : cutB kd s.cuts k = ((s.cuts[k]?.getD v0).kd == kd && (s.cuts[k]?.getD v0).ok && (k == 0 || !vle (s.cuts[k]?.getD v0) (s.cuts[k - 1]?.getD v0))):=rfl
   rw [<- hkk] at hcut
   have hcmp : Hid (∀ k',k = k' + 1 -> (g k).kd = kd -> (s.cuts[k]?.getD v0).ok = true -> ∀ W,Below wr.heap.size wr W -> Calls Tryz.prog 126 #[(g k').agg,(g k).agg] W fun e w' => e = .returned (.int .i64 (vcmp (s.cuts[k']?.getD v0) (s.cuts[k]?.getD v0))) /\ Below W.heap.size W w'):=Lib.hid fun k' he hkx hok W hb => by
    have hbb : Below W1.heap.size W1 W:=hbr.trans (hb.mono hsr)
    have := hbb.size
    have h9:=HALL.out k' (by omega)
    unfold cutB at h9
    simp only [Bool.and_eq_true,beq_iff_eq] at h9
    exact gcompare_any W.heap.size _ _ _ _ W ((HGI.out k' (by omega)).below hbb (by omega) (by omega)) (hgx.below hbb (by omega) (by omega)) (Nat.le_refl _) (HGO.out k' (by omega)) hgk h9.1.2 hok (by rw [h9.1.1,<- hkk,hkx])
   have hprev : Hid (∀ k',k = k' + 1 -> wr.cell? ⟨cb,co + k' * 6,none⟩ = some (.int .u8 (g k').kd) /\ wr.cell? ⟨cb,co + k' * 6 + 1,none⟩ = some (.bool (g k').b1) /\ wr.cell? ⟨cb,co + k' * 6 + 2,none⟩ = some (g k').s1 /\ wr.cell? ⟨cb,co + k' * 6 + 3,none⟩ = some (.bool (g k').b2) ∧
    wr.cell? ⟨cb,co + k' * 6 + 4,none⟩ = some (g k').s2 /\ wr.cell? ⟨cb,co + k' * 6 + 5,none⟩ = some (.int .i64 (g k').i)):=Lib.hid fun k' he => val_cells hcr (by omega)
   have HFAIL : Hid (cutB kd s.cuts k = false -> r = false):=Lib.hid fun h => by rw [<- HR.out]; exact okB_cut HZ.out (by rw [HN.out]; exact hlt) (by rw [HKD.out]; exact h)
   have HCALL:=Lib.hid hcall
   obtain ⟨rv,hrv⟩ : ∃ rv,(s.cuts[k]?.getD v0).ok = rv:=⟨_,rfl⟩
   simp only [hrv] at HCALL hcmp hcut
   have hcmp2:=hcmp
   have hvv : ∀ k',k = k' + 1 -> (!vle (s.cuts[k]?.getD v0) (s.cuts[k - 1]?.getD v0)) = !decide (0 <= vcmp (s.cuts[k']?.getD v0) (s.cuts[k]?.getD v0)):=fun k' he => by rw [vcmp_ge]; subst he; rfl
   have HVV:=Lib.hid hvv
   have HCUT:=Lib.hid hcut
   have hq:=HQ1.out.below hbr (by rw [s1]; omega)
   obtain ⟨a1,m1',hv1,_⟩:=hgx.n.form
   obtain ⟨a2,m2',hv2,_⟩:=hgx.d.form
   obtain ⟨n1',hn1⟩ : ∃ n,(s.cuts[k]?.getD v0).l1.length = n:=⟨_,rfl⟩
   obtain ⟨n2',hn2⟩ : ∃ n,(s.cuts[k]?.getD v0).l2.length = n:=⟨_,rfl⟩
   rw [hn1] at hv1
   rw [hn2] at hv2
   clear hcall hgx hkk hcut hvv hcr hc hgk hrv hcmp hn1 hn2
   obtain ⟨x,hx⟩ : ∃ x,g k = x:=⟨_,rfl⟩
   simp only [hx] at d0 d1 d2 d3 d4 d5 HCALL hcmp2 HCUT hv1 hv2
   clear hx
   obtain ⟨kx,m1,x1,m2,x2,xi⟩:=x
   dsimp only at hv1 hv2
   subst hv1 hv2
   have h1c : ∀ u ∈ (⟨kx,m1,.slice a1 n1' m1',m2,.slice a2 n2' m2',xi⟩ : Vv).cells,u.oneCell' = true:=by simp [Value.oneCell']
   go_upto_region 7 with fail
   iterate 16 go_step
   refine wpList_store_new rfl 47 (.tmp 4) (.tmp 39) rfl (⟨kx,m1,.slice a1 n1' m1',m2,.slice a2 n2' m2',xi⟩ : Vv).cells _ infoValue rfl h1c wr.heap.size rfl rfl rfl ?_
   obtain ⟨W2,hW2⟩ : ∃ W2,wr.alloc (.cells (⟨kx,m1,.slice a1 n1' m1',m2,.slice a2 n2' m2',xi⟩ : Vv).cells 47) = W2:=⟨_,rfl⟩
   have b2 : Below wr.heap.size wr W2:=by rw [<- hW2]; exact (Below.refl _ _).alloc (Nat.le_refl _) _
   have q2 : Blk W2 wr.heap.size (⟨kx,m1,.slice a1 n1' m1',m2,.slice a2 n2' m2',xi⟩ : Vv).cells 47:=by rw [<- hW2]; exact Blk.new wr _ _
   have s2 : W2.heap.size = wr.heap.size + 1:=by rw [<- hW2]; simp
   have qB : Blk W2 B _ 79:=hq.below b2 (by omega)
   have hW2':=hW2
   rw [hW2]
   clear hW2 hW2' d0 d1 d2 d3 d4 d5 hq
   obtain ⟨Bv,hBv⟩ : ∃ b,wr.heap.size = b:=⟨_,rfl⟩
   rw [hBv] at q2 hbl b2 s2 hsr HCALL hcmp2 ⊢
   have HBv:=Lib.hid hBv
   clear hBv
   go_upto_region 8 with fail
   obtain ⟨ckk,hckk⟩ : ∃ c,(kx == kd) = c:=⟨_,rfl⟩
   have hne : (kx != kd) = !ckk:=by rw [<- hckk]; rfl
   cases ckk with
   | false =>
    have hr : r = false:=HFAIL.out (by rw [HCUT.out]; simp [hckk])
    subst hr
    refine region_plain (fun W' => Below (Bv + 1) W2 W') [] (by kernel_rfl) ?_
    have qS : (fun W' => Below (Bv + 1) W2 W') W2.drew:=below_quiet (Below.refl _ _)
    refine wpAnyD_tp (i:=0) (v:=.pointer (some ⟨Bv,0,none⟩)) rfl qS ?_
    refine wpAnyD_tk (i:=1) (v:=.int .u8 kx) rfl (.inl ⟨by kernel_rfl,fun W' hS => by have u0:=(q2.below hS (by omega)).at (i:=0) rfl; go_simp⟩) qS ?_
    refine wpAnyD_tp (i:=2) (v:=.pointer (some ⟨B,9,none⟩)) rfl qS ?_
    refine wpAnyD_tk (i:=3) (v:=.int .u8 kd) rfl (.inl ⟨by kernel_rfl,fun W' hS => by have u9:=(qB.below hS (by omega)).at (i:=9) rfl; go_simp⟩) qS ?_
    refine wpAnyD_tp (i:=4) (v:=.bool true) rfl qS ?_
    refine wpAnyD_tp (i:=5) (v:=.bool true) rfl qS ?_
    refine wpAnyD_tk (i:=6) (v:=undef) rfl (.inr ⟨by kernel_rfl,rfl⟩) qS ?_
    refine wpAnyD_tk (i:=7) (v:=undef) rfl (.inr ⟨by kernel_rfl,rfl⟩) qS ?_
    refine wpAnyD_tk (i:=8) (v:=undef) rfl (.inr ⟨by kernel_rfl,rfl⟩) qS ?_
    refine wpAnyD_tp (i:=9) (v:=.bool true) rfl qS ?_
    refine wpAnyD_tp (i:=10) (v:=.bool true) rfl qS ?_
    refine wpAnyD_tk (i:=11) (v:=undef) rfl (.inr ⟨by kernel_rfl,rfl⟩) qS ?_
    refine wpAnyD_tk (i:=12) (v:=undef) rfl (.inr ⟨by kernel_rfl,rfl⟩) qS ?_
    refine wpAnyD_tk (i:=13) (v:=undef) rfl (.inr ⟨by kernel_rfl,rfl⟩) qS ?_
    refine wpAnyD_tk (i:=14) (v:=undef) rfl (.inr ⟨by kernel_rfl,rfl⟩) qS ?_
    refine wpAnyD_tk (i:=15) (v:=undef) rfl (.inr ⟨by kernel_rfl,rfl⟩) qS ?_
    refine wpAnyD_tk (i:=16) (v:=undef) rfl (.inr ⟨by kernel_rfl,rfl⟩) qS ?_
    refine wpAnyD_tk (i:=17) (v:=undef) rfl (.inr ⟨by kernel_rfl,rfl⟩) qS ?_
    refine wpAnyD_tk (i:=18) (v:=undef) rfl (.inr ⟨by kernel_rfl,rfl⟩) qS ?_
    refine wpAnyD_tk (i:=19) (v:=undef) rfl (.inr ⟨by kernel_rfl,rfl⟩) qS ?_
    refine wpAnyD_tk (i:=20) (v:=undef) rfl (.inr ⟨by kernel_rfl,rfl⟩) qS ?_
    refine wpAnyD_tk (i:=21) (v:=undef) rfl (.inr ⟨by kernel_rfl,rfl⟩) qS ?_
    refine wpAnyD_tk (i:=22) (v:=undef) rfl (.inr ⟨by kernel_rfl,rfl⟩) qS ?_
    refine wpAnyD_tk (i:=23) (v:=undef) rfl (.inr ⟨by kernel_rfl,rfl⟩) qS ?_
    refine wpAnyD_tp (i:=24) (v:=.bool true) rfl qS ?_
    refine wpAnyD_done (by kernel_rfl) ?_ _
    go_simp
    iterate 11 go_step
    change bodyPost _ _ (fun e w' => e = .returned (.bool false) /\ Below B w w') .ret _ _
    go_ret
    exact ⟨rfl,b1.trans ((hbr.mono (by omega)).trans ((b2.mono (by omega)).trans (qS.mono (by omega))))⟩
   | true =>
    obtain rfl : kx = kd:=by simpa using hckk
    clear hckk hne
    refine region_plain (fun W' => Below (Bv + 1) W2 W') [] (by kernel_rfl) ?_
    have qS : (fun W' => Below (Bv + 1) W2 W') W2.drew:=below_quiet (Below.refl _ _)
    refine wpAnyD_tp (i:=0) (v:=.pointer (some ⟨Bv,0,none⟩)) rfl qS ?_
    refine wpAnyD_tk (i:=1) (v:=.int .u8 kx) rfl (.inl ⟨by kernel_rfl,fun W' hS => by have u0:=(q2.below hS (by omega)).at (i:=0) rfl; go_simp⟩) qS ?_
    refine wpAnyD_tp (i:=2) (v:=.pointer (some ⟨B,9,none⟩)) rfl qS ?_
    refine wpAnyD_tk (i:=3) (v:=.int .u8 kx) rfl (.inl ⟨by kernel_rfl,fun W' hS => by have u9:=(qB.below hS (by omega)).at (i:=9) rfl; go_simp⟩) qS ?_
    refine wpAnyD_tp (i:=4) (v:=.bool false) rfl qS ?_
    refine wpAnyD_tp (i:=5) (v:=.bool false) rfl qS ?_
    refine wpAnyD_tk (i:=6) (v:=.agg #[.int .u8 kx,.bool m1,.slice a1 n1' m1',.bool m2,.slice a2 n2' m2',.int .i64 xi]) rfl (.inl ⟨by kernel_rfl,fun W' hS => by have u0:=(q2.below hS (by omega)).at (i:=0) rfl; have u1:=(q2.below hS (by omega)).at (i:=1) rfl; have u2:=(q2.below hS (by omega)).at (i:=2) rfl; have u3:=(q2.below hS (by omega)).at (i:=3) rfl; have u4:=(q2.below hS (by omega)).at (i:=4) rfl; have u5:=(q2.below hS (by omega)).at (i:=5) rfl; go_simp⟩) qS ?_
    refine wpAnyD_one (i:=7) (by kernel_rfl) rfl (by kernel_rfl) ?_
    go_simp
    refine (HCALL.out _ (b2.trans (qS.mono (by omega)))).mono ?_
    rintro e w3 ⟨rfl,hb3⟩
    have qS3 : Below (Bv + 1) W2 w3:=qS.trans (hb3.mono (by have := qS.size; omega))
    go_simp
    cases rv with
    | false =>
     have hr : r = false:=HFAIL.out (by rw [HCUT.out]; simp)
     subst hr
     refine wpAnyD_tp (i:=8) (v:=.bool true) rfl qS3 ?_
     refine wpAnyD_tp (i:=9) (v:=.bool true) rfl qS3 ?_
     refine wpAnyD_tp (i:=10) (v:=.bool true) rfl qS3 ?_
     refine wpAnyD_tk (i:=11) (v:=undef) rfl (.inr ⟨by kernel_rfl,rfl⟩) qS3 ?_
     refine wpAnyD_tk (i:=12) (v:=undef) rfl (.inr ⟨by kernel_rfl,rfl⟩) qS3 ?_
     refine wpAnyD_tk (i:=13) (v:=undef) rfl (.inr ⟨by kernel_rfl,rfl⟩) qS3 ?_
     refine wpAnyD_tk (i:=14) (v:=undef) rfl (.inr ⟨by kernel_rfl,rfl⟩) qS3 ?_
     refine wpAnyD_tk (i:=15) (v:=undef) rfl (.inr ⟨by kernel_rfl,rfl⟩) qS3 ?_
     refine wpAnyD_tk (i:=16) (v:=undef) rfl (.inr ⟨by kernel_rfl,rfl⟩) qS3 ?_
     refine wpAnyD_tk (i:=17) (v:=undef) rfl (.inr ⟨by kernel_rfl,rfl⟩) qS3 ?_
     refine wpAnyD_tk (i:=18) (v:=undef) rfl (.inr ⟨by kernel_rfl,rfl⟩) qS3 ?_
     refine wpAnyD_tk (i:=19) (v:=undef) rfl (.inr ⟨by kernel_rfl,rfl⟩) qS3 ?_
     refine wpAnyD_tk (i:=20) (v:=undef) rfl (.inr ⟨by kernel_rfl,rfl⟩) qS3 ?_
     refine wpAnyD_tk (i:=21) (v:=undef) rfl (.inr ⟨by kernel_rfl,rfl⟩) qS3 ?_
     refine wpAnyD_tk (i:=22) (v:=undef) rfl (.inr ⟨by kernel_rfl,rfl⟩) qS3 ?_
     refine wpAnyD_tk (i:=23) (v:=undef) rfl (.inr ⟨by kernel_rfl,rfl⟩) qS3 ?_
     refine wpAnyD_tp (i:=24) (v:=.bool true) rfl qS3 ?_
     refine wpAnyD_done (by kernel_rfl) ?_ _
     go_simp
     iterate 11 go_step
     change bodyPost _ _ (fun e w' => e = .returned (.bool false) /\ Below B w w') .ret _ _
     go_ret
     exact ⟨rfl,b1.trans ((hbr.mono (by omega)).trans ((b2.mono (by omega)).trans (qS3.mono (by omega))))⟩
    | true =>
     by_cases hk0 : k = 0
     ·have hct : cutB kx s.cuts 0 = true:=by rw [<- hk0,HCUT.out,hk0]; simp
      subst hk0
      refine wpAnyD_tp (i:=8) (v:=.bool false) rfl qS3 ?_
      refine wpAnyD_tp (i:=9) (v:=.bool false) rfl qS3 ?_
      refine wpAnyD_tp (i:=10) (v:=.bool false) rfl qS3 ?_
      refine wpAnyD_tp (i:=11) (v:=.int .i64 0) rfl qS3 ?_
      refine wpAnyD_tp (i:=12) (v:=.bool false) rfl qS3 ?_
      refine wpAnyD_tp (i:=13) (v:=.bool false) rfl qS3 ?_
      refine wpAnyD_tk (i:=14) (v:=undef) rfl (.inr ⟨by kernel_rfl,rfl⟩) qS3 ?_
      refine wpAnyD_tk (i:=15) (v:=undef) rfl (.inr ⟨by kernel_rfl,rfl⟩) qS3 ?_
      refine wpAnyD_tk (i:=16) (v:=undef) rfl (.inr ⟨by kernel_rfl,rfl⟩) qS3 ?_
      refine wpAnyD_tk (i:=17) (v:=undef) rfl (.inr ⟨by kernel_rfl,rfl⟩) qS3 ?_
      refine wpAnyD_tk (i:=18) (v:=undef) rfl (.inr ⟨by kernel_rfl,rfl⟩) qS3 ?_
      refine wpAnyD_tk (i:=19) (v:=undef) rfl (.inr ⟨by kernel_rfl,rfl⟩) qS3 ?_
      refine wpAnyD_tk (i:=20) (v:=undef) rfl (.inr ⟨by kernel_rfl,rfl⟩) qS3 ?_
      refine wpAnyD_tk (i:=21) (v:=undef) rfl (.inr ⟨by kernel_rfl,rfl⟩) qS3 ?_
      refine wpAnyD_tk (i:=22) (v:=undef) rfl (.inr ⟨by kernel_rfl,rfl⟩) qS3 ?_
      refine wpAnyD_tp (i:=23) (v:=.bool false) rfl qS3 ?_
      refine wpAnyD_tp (i:=24) (v:=.bool false) rfl qS3 ?_
      refine wpAnyD_done (by kernel_rfl) ?_ _
      go_simp
      iterate 14 go_step
      change _ /\ _
      go_roundw
      case rel => exact ⟨1,by omega,by simp,hbr.trans ((b2.mono (by omega)).trans (qS3.mono (by omega))),Lib.hid fun j hj => (by rw [show j = 0 by omega]; exact hct)⟩
      case measure => simp [intOf]; omega
     ·obtain ⟨k',hk'⟩ : ∃ k',k = k' + 1:=⟨k - 1,by omega⟩
      obtain ⟨p0,p1,p2,p3,p4,p5⟩:=hprev.out k' hk'
      have hcmp3:=hcmp2.out k' hk' rfl rfl
      have hvv:=HVV.out k' hk'
      obtain ⟨p,hp⟩ : ∃ p,g k' = p:=⟨_,rfl⟩
      obtain ⟨ci,hci⟩ : ∃ ci,vcmp (s.cuts[k']?.getD v0) (s.cuts[k]?.getD v0) = ci:=⟨_,rfl⟩
      rw [hp] at p0 p1 p2 p3 p4 p5 hcmp3
      simp only [hci] at hcmp3 hvv
      clear hp hci hcmp2 HVV hprev HCALL
      obtain ⟨kp,n1,y1,n2,y2,yi⟩:=p
      have hct : cutB kx s.cuts k = !decide (0 <= ci):=by rw [HCUT.out,hvv]; simp [hk0]
      have HCT:=Lib.hid hct
      clear hvv hct
      obtain ⟨cg,hcg⟩ : ∃ c,decide (0 <= ci) = c:=⟨_,rfl⟩
      subst hk'
      have HP:=Lib.hid (show _ /\ _ /\ _ /\ _ /\ _ /\ _ from ⟨p0,p1,p2,p3,p4,p5⟩)
      have bW : Below Bv wr W2:=b2
      clear p0 p1 p2 p3 p4 p5
      refine wpAnyD_tp (i:=8) (v:=.bool false) rfl qS3 ?_
      refine wpAnyD_tp (i:=9) (v:=.bool false) rfl qS3 ?_
      refine wpAnyD_tp (i:=10) (v:=.bool false) rfl qS3 ?_
      refine wpAnyD_tp (i:=11) (v:=.int .i64 (k' + 1 : Nat)) rfl qS3 ?_
      refine wpAnyD_tp (i:=12) (v:=.bool true) rfl qS3 ?_
      refine wpAnyD_tp (i:=13) (v:=.bool true) rfl qS3 ?_
      refine wpAnyD_tp (i:=14) (v:=.pointer (some ⟨B,10,none⟩)) rfl qS3 ?_
      refine wpAnyD_tk (i:=15) (v:=.slice (some ⟨cb,co,none⟩) n cm) rfl (.inl ⟨by kernel_rfl,fun W' hS => by have u9:=(qB.below hS (by omega)).at (i:=10) rfl; go_simp⟩) qS3 ?_
      refine wpAnyD_tp (i:=16) (v:=.int .i64 (k' + 1 : Nat)) rfl qS3 ?_
      refine wpAnyD_tk (i:=17) (v:=.int .i64 k') rfl (.inl ⟨by kernel_rfl,fun W' hS => by have hw1 : IntKind.i64.wrap (k' : Int) = (k' : Int):=IntWalk.i64_in _ (by omega); go_simp⟩) qS3 ?_
      refine wpAnyD_tk (i:=18) (v:=.pointer (some ⟨cb,co + k' * 6,none⟩)) rfl (.inl ⟨by kernel_rfl,fun W' hS => by have hkn : ¬ n <= k':=(by omega); go_simp⟩) qS3 ?_
      refine wpAnyD_tk (i:=19) (v:=.agg #[.int .u8 kp,.bool n1,y1,.bool n2,y2,.int .i64 yi]) rfl (.inl ⟨by kernel_rfl,fun W' hS => by obtain ⟨p0,p1,p2,p3,p4,p5⟩:=HP.out; have bz : Below Bv wr W':=bW.trans (hS.mono (by omega)); have z0:=(bz.cell (p:=⟨cb,_,none⟩) hbl).trans p0; have z1:=(bz.cell (p:=⟨cb,_,none⟩) hbl).trans p1; have z2:=(bz.cell (p:=⟨cb,_,none⟩) hbl).trans p2; have z3:=(bz.cell (p:=⟨cb,_,none⟩) hbl).trans p3; have z4:=(bz.cell (p:=⟨cb,_,none⟩) hbl).trans p4; have z5:=(bz.cell (p:=⟨cb,_,none⟩) hbl).trans p5; clear p0 p1 p2 p3 p4 p5; go_simp⟩) qS3 ?_
      refine wpAnyD_tk (i:=20) (v:=.agg #[.int .u8 kx,.bool m1,.slice a1 n1' m1',.bool m2,.slice a2 n2' m2',.int .i64 xi]) rfl (.inl ⟨by kernel_rfl,fun W' hS => by have u0:=(q2.below hS (by omega)).at (i:=0) rfl; have u1:=(q2.below hS (by omega)).at (i:=1) rfl; have u2:=(q2.below hS (by omega)).at (i:=2) rfl; have u3:=(q2.below hS (by omega)).at (i:=3) rfl; have u4:=(q2.below hS (by omega)).at (i:=4) rfl; have u5:=(q2.below hS (by omega)).at (i:=5) rfl; go_simp⟩) qS3 ?_
      refine wpAnyD_one (i:=21) (by kernel_rfl) rfl (by kernel_rfl) ?_
      go_simp
      refine (hcmp3 _ (b2.trans (qS3.mono (by omega)))).mono ?_
      rintro e w4 ⟨rfl,hb4⟩
      have qS4 : Below (Bv + 1) W2 w4:=qS3.trans (hb4.mono (by have := qS3.size; omega))
      go_simp
      refine wpAnyD_tp (i:=22) (v:=.bool cg) rfl qS4 ?_
      refine wpAnyD_tp (i:=23) (v:=.bool cg) rfl qS4 ?_
      refine wpAnyD_tp (i:=24) (v:=.bool cg) rfl qS4 ?_
      refine wpAnyD_done (by kernel_rfl) ?_ _
      cases cg with
      | false =>
       go_simp
       iterate 14 go_step
       change _ /\ _
       go_roundw
       case rel =>
        exact ⟨k' + 1 + 1,by omega,by simp,hbr.trans ((b2.mono (by omega)).trans (qS4.mono (by omega))),Lib.hid fun j hj => (by
        rcases Nat.lt_or_eq_of_le (Nat.le_of_lt_succ hj) with h | h
        ·exact HALL.out j h
        ·rw [h,HCT.out,hcg]; rfl)⟩
       case measure => simp [intOf]; omega
      | true =>
       have hr : r = false:=HFAIL.out (by rw [HCT.out,hcg]; rfl)
       subst hr
       go_simp
       iterate 11 go_step
       change bodyPost _ _ (fun e w' => e = .returned (.bool false) /\ Below B w w') .ret _ _
       go_ret
       exact ⟨rfl,b1.trans ((hbr.mono (by omega)).trans ((b2.mono (by omega)).trans (qS4.mono (by omega))))⟩
  ·obtain rfl : k = n:=by omega
   have hr : r = true:=by
    rw [<- HR.out]
    have hbd:=HBD.out
    exact okB_all HZ.out (by rw [HKD.out]; omega) (by rw [HKD.out]; omega) (by rw [HN.out]; omega) (by rw [HN.out]; omega) (fun j hj => by rw [HKD.out]; exact HALL.out j (by rw [HN.out] at hj; exact hj))
   subst hr
   go_wp2_with fail
   go_ret
   exact ⟨rfl,b1.trans (hbr.mono (by omega))⟩
end Go.Proofs.YtlidpghnlloinaaGreatDoor
