/- Contracts and plain laws, several texts in one (DTakeX, NW2, GStore, NW3). No conditions beyond those stated. -/
import Derived.Laws.Tables
import Derived.Test.YtlldjmagbjjeoaaGreatPk4
set_option maxRecDepth 100000
set_option maxHeartbeats 40000000
namespace Go.Proofs.YtlldjmagbjjeoaaGreat
open Go.RowKit
set_option linter.unusedVariables false
section
variable {P : Program} {ops : Array Oper} {Q : Exit -> Act -> World -> Prop} {md : Region.Mode} {S : World -> Prop} {D : List Nat}
theorem wpAnyD_takeX {i : Nat} {oi : Oper} {v : Value} {fuel : Nat} {listed : Array Bool} {a : Act} {w : World} (d : Option Tmp) (hi : ops[i]? = some oi) (hd : oi.dst = d)
  (hs : Region.noSelect ops = true) (hf : Region.free md ops listed i = true) (hr : (Region.ready md ops listed).contains i = true) (hm : marksWait md ops D i = true) (ho : marksOpen D listed = true)
  (hQ : ∀ c a w,Q (.panic c) (a.put d v) w -> Q (.panic c) a w) (hy : YieldsIf P ops S oi v a) (hS : S w)
  (h : wpAnyD P md ops Q S D fuel (listed.setIfInBounds i true) (a.put d v) w) : wpAnyD P md ops Q S D (fuel + 1) listed a w:=by
 subst hd
 exact wpAnyD_take hi hs hf hr hm ho hQ hy hS h
end
section
variable {P : Program} {ops : Array Oper} {Q : Exit -> Act -> World -> Prop} {md : Region.Mode} {S : World -> Prop} {D : List Nat}
theorem wpAnyD_tkX {i : Nat} {oi : Oper} {v : Value} {fuel : Nat} {listed : Array Bool} {a : Act} {w : World} (d : Option Tmp) (hi : ops[i]? = some oi) (hd : oi.dst = d) (hy : YieldsIf P ops S oi v a) (hS : S w)
  (h : wpAnyD P md ops Q S D fuel (listed.setIfInBounds i true) (a.put d v) w) (hs : Region.noSelect ops = true:=by kernel_rfl) (hf : Region.free md ops listed i = true:=by kernel_rfl) (hr : (Region.ready md ops listed).contains i = true:=by kernel_rfl) (hm : marksWait md ops D i = true:=by kernel_rfl) (ho : marksOpen D listed = true:=by kernel_rfl) (hQ : ∀ c a w,Q (.panic c) (a.put d v) w -> Q (.panic c) a w:=by exact fun _ _ _ h => h) : wpAnyD P md ops Q S D (fuel + 1) listed a w:=wpAnyD_takeX d hi hd hs hf hr hm ho hQ hy hS h
theorem wpAnyD_tpX {i : Nat} {oi : Oper} {v : Value} {fuel : Nat} {listed : Array Bool} {a : Act} {w : World} (d : Option Tmp) (hi : ops[i]? = some oi) (hd : oi.dst = d) (hS : S w)
  (h : wpAnyD P md ops Q S D fuel (listed.setIfInBounds i true) (a.put d v) w) (hs : Region.noSelect ops = true:=by kernel_rfl) (hf : Region.free md ops listed i = true:=by kernel_rfl) (hr : (Region.ready md ops listed).contains i = true:=by kernel_rfl) (hm : marksWait md ops D i = true:=by kernel_rfl) (ho : marksOpen D listed = true:=by kernel_rfl) (hy : YieldsIf P ops S oi v a:=by exact .inl ⟨by kernel_rfl,fun W' hS => by go_simp⟩) (hQ : ∀ c a w,Q (.panic c) (a.put d v) w -> Q (.panic c) a w:=by exact fun _ _ _ h => h) : wpAnyD P md ops Q S D (fuel + 1) listed a w:=wpAnyD_takeX d hi hd hs hf hr hm ho hQ hy hS h
end
def wArr (l : List Nat) : Array Value:=(l.map fun n : Nat => (.int .u32 (n : Int) : Value)).toArray
def lArr (l : List Nat) : Array Value:=(l.map fun n : Nat => (.int .u16 (n : Int) : Value)).toArray
theorem wArr_at {l : List Nat} {i d : Nat} (h : l[i]? = some d) : (wArr l)[i]? = some (.int .u32 (d : Int)):=by simp [wArr,h]
theorem lArr_at {l : List Nat} {i d : Nat} (h : l[i]? = some d) : (lArr l)[i]? = some (.int .u16 (d : Int)):=by simp [lArr,h]
theorem wArr_set (l : List Nat) (i x : Nat) : (wArr l).setIfInBounds i (.int .u32 (x : Int)) = wArr (l.set i x):=by
 unfold wArr; rw [List.setIfInBounds_toArray,List.map_set]
theorem lArr_set (l : List Nat) (i x : Nat) : (lArr l).setIfInBounds i (.int .u16 (x : Int)) = lArr (l.set i x):=by
 unfold lArr; rw [List.setIfInBounds_toArray,List.map_set]
theorem made_list (z : Value) (n : Nat) : madeCells #[z] (n * 1) = (List.replicate n z).toArray:=by
 apply Array.ext_getElem?
 intro k
 by_cases hk : k < n
 ·simp [madeCells,hk,Nat.mod_one]
 ·rw [Array.getElem?_eq_none (by simp [madeCells]; omega),Array.getElem?_eq_none (by simp; omega)]
theorem make_words (n : Nat) (hn : n <= 2 ^ 38) (w : World) : (Instr.makeSlice 121 (.int .i64 n) (.int .i64 n)).run Tryz.prog w = .ok (.slice (some ⟨w.heap.size,0,none⟩) n n) (w.alloc (.cells (wArr (List.replicate n 0)) 130)):=by
 obtain ⟨i0,hi,hz0,hz1,hz2⟩:=info_parts Tryz.infoU32
 have h:=run_make (P:=Tryz.prog) w 121 130 i0 _ Tryz.underlying121 hi hz0 .i64 .i64 n n (by omega) (Int.le_refl _) (by rw [hz2]; omega) (by omega)
 rw [hz1,Int.toNat_natCast] at h
 rw [h]
 have := made_list (.int .u32 0) n
 simp only [Value.cells] at this ⊢
 rw [this]
 simp [wArr]
theorem make_limbs (n : Nat) (hn : n <= 2 ^ 38) (w : World) : (Instr.makeSlice 22 (.int .i64 n) (.int .i64 n)).run Tryz.prog w = .ok (.slice (some ⟨w.heap.size,0,none⟩) n n) (w.alloc (.cells (lArr (List.replicate n 0)) 85)):=by
 obtain ⟨i0,hi,hz0,hz1,hz2⟩:=info_parts Tryz.infoU16
 have h:=run_make (P:=Tryz.prog) w 22 85 i0 _ Tryz.underlying22 hi hz0 .i64 .i64 n n (by omega) (Int.le_refl _) (by rw [hz2]; omega) (by omega)
 rw [hz1,Int.toNat_natCast] at h
 rw [h]
 have := made_list (.int .u16 0) n
 simp only [Value.cells] at this ⊢
 rw [this]
 simp [lArr]
def pkW (l : List Nat) (j : Nat) : Nat:=l[2 * j]?.getD 0 + 65536 * l[2 * j + 1]?.getD 0
def packL (m : Nat) (l : List Nat) : List Nat:=(List.range m).map (pkW l)
theorem packL_at {m j : Nat} (l : List Nat) (h : j < m) : (packL m l)[j]? = some (pkW l j):=by simp [packL,h]
theorem packL_len (m : Nat) (l : List Nat) : (packL m l).length = m:=by simp [packL]
theorem packL_zero (m : Nat) : packL m [] = List.replicate m 0:=by
 apply List.ext_getElem?
 intro k
 by_cases hk : k < m
 ·rw [packL_at _ hk]; simp [pkW,hk]
 ·rw [List.getElem?_eq_none (by rw [packL_len]; omega),List.getElem?_eq_none (by simp; omega)]
theorem take_getD {l : List Nat} {i x : Nat} (h : l[i]? = some x) (k : Nat) : (l.take (i + 1))[k]?.getD 0 = if k = i then x else (l.take i)[k]?.getD 0:=by
 by_cases hk : k = i
 ·subst hk; rw [if_pos rfl,List.getElem?_take_of_lt (by omega),h]; rfl
 ·rw [if_neg hk]
  by_cases hki : k < i
  ·rw [List.getElem?_take_of_lt (by omega),List.getElem?_take_of_lt hki]
  ·rw [List.getElem?_take_eq_none (by omega),List.getElem?_take_eq_none (by omega)]
theorem packL_even {l : List Nat} {m j x : Nat} (h : l[2 * j]? = some x) (hj : j < m) : packL m (l.take (2 * j + 1)) = (packL m (l.take (2 * j))).set j x /\ pkW (l.take (2 * j)) j = 0:=by
 constructor
 ·apply List.ext_getElem?
  intro k
  by_cases hk : k < m
  ·by_cases e : j = k
   ·subst e
    rw [packL_at _ hk,List.getElem?_set_self (by rw [packL_len]; exact hk)]
    unfold pkW
    rw [take_getD h,take_getD h,if_pos rfl,if_neg (by omega),List.getElem?_take_eq_none (by omega)]; rfl
   ·rw [packL_at _ hk,List.getElem?_set_ne e,packL_at _ hk]
    unfold pkW
    rw [take_getD h,take_getD h,if_neg (by omega),if_neg (by omega)]
  ·rw [List.getElem?_eq_none (by rw [packL_len]; omega),List.getElem?_eq_none (by rw [List.length_set,packL_len]; omega)]
 ·unfold pkW
  rw [List.getElem?_take_eq_none (by omega),List.getElem?_take_eq_none (by omega)]; rfl
theorem packL_odd {l : List Nat} {m j x : Nat} (h : l[2 * j + 1]? = some x) (hj : j < m) : packL m (l.take (2 * j + 1 + 1)) = (packL m (l.take (2 * j + 1))).set j (pkW (l.take (2 * j + 1)) j + 65536 * x) /\ pkW (l.take (2 * j + 1)) j = l[2 * j]?.getD 0:=by
 have h0 : pkW (l.take (2 * j + 1)) j = l[2 * j]?.getD 0:=by
  unfold pkW
  rw [List.getElem?_take_of_lt (by omega),List.getElem?_take_eq_none (by omega)]; rfl
 refine ⟨?_,h0⟩
 apply List.ext_getElem?
 intro k
 by_cases hk : k < m
 ·by_cases e : j = k
  ·subst e
   rw [packL_at _ hk,List.getElem?_set_self (by rw [packL_len]; exact hk),h0]
   unfold pkW
   rw [take_getD h,take_getD h,if_neg (by omega),if_pos rfl,List.getElem?_take_of_lt (by omega)]
  ·rw [packL_at _ hk,List.getElem?_set_ne e,packL_at _ hk]
   unfold pkW
   rw [take_getD h,take_getD h,if_neg (by omega),if_neg (by omega)]
 ·rw [List.getElem?_eq_none (by rw [packL_len]; omega),List.getElem?_eq_none (by rw [List.length_set,packL_len]; omega)]
theorem packL_bv : ∀ (l : List Nat) (m : Nat),l.length <= 2 * m -> bv WB32 (packL m l) = lval l
 | [],m,_ => by rw [packL_zero,bv_zeros]; rfl
 | [x],0,h => by simp at h
 | [x],m + 1,_ => by
  have e : packL (m + 1) [x] = x :: packL m []:=by
   unfold packL
   rw [List.range_succ_eq_map,List.map_cons,List.map_map]
   congr 1
  rw [e,bv,packL_zero,bv_zeros]; simp [lval]
 | x :: y :: r,0,h => by simp at h
 | x :: y :: r,m + 1,h => by
  have e : packL (m + 1) (x :: y :: r) = (x + 65536 * y) :: packL m r:=by
   unfold packL
   rw [List.range_succ_eq_map,List.map_cons,List.map_map]
   congr 1
  rw [e,bv,packL_bv r m (by simp at h; omega),lval,lval]
  unfold WB32
  omega
theorem npack_any (K : Nat) (v : Value) (l : List Nat) (w : World) (h : Lm K w v l) (hK : K <= w.heap.size) (hl : l.length <= 2 ^ 30) :
  Calls Tryz.prog 89 #[v] w fun e w' => e = .returned (.slice (some ⟨w.heap.size,0,none⟩) ((l.length + 1) / 2) ((l.length + 1) / 2)) /\ Blk w' w.heap.size (wArr (packL ((l.length + 1) / 2) l)) 130 /\ Below w.heap.size w w' /\ w'.heap.size = w.heap.size + 1:=by
 obtain ⟨a,c,rfl,hlc,hcm⟩:=h.form
 unfold maxLen at hcm
 obtain ⟨n,hn⟩ : ∃ n,l.length = n:=⟨_,rfl⟩
 obtain ⟨m,hm⟩ : ∃ m,(n + 1) / 2 = m:=⟨_,rfl⟩
 obtain ⟨B,hB⟩ : ∃ B,w.heap.size = B:=⟨_,rfl⟩
 rw [hn] at hlc hl ⊢
 rw [hm]
 have hm38 : m <= 2 ^ 38:=by omega
 have hq : Int.tdiv ((n : Int) + 1) 2 = (m : Int):=by rw [Int.tdiv_eq_ediv_of_nonneg (by omega)]; omega
 have hmk:=make_words m hm38 w
 obtain ⟨W1,hW1⟩ : ∃ W,w.alloc (.cells (wArr (List.replicate m 0)) 130) = W:=⟨_,rfl⟩
 have b1 : Below B w W1:=by rw [<- hW1,<- hB]; exact (Below.refl _ _).alloc (Nat.le_refl _) _
 have q1 : Blk W1 B (wArr (packL m (l.take 0))) 130:=by rw [<- hW1,<- hB,List.take_zero,packL_zero]; exact Blk.new w _ _
 have s1 : W1.heap.size = B + 1:=by rw [<- hW1,<- hB]; simp
 have hpos : ∀ i x : Nat,l[i]? = some x -> ∃ b o,a = some ⟨b,o,none⟩ /\ b < B /\ w.cell? ⟨b,o + i,none⟩ = some (.int .u16 (x : Int)) /\ x < 65536:=fun i x hx => by
  have hi:=(List.getElem?_eq_some_iff.1 hx).1
  obtain ⟨b,o,cap,he,_,_,hb,hc⟩:=h.pos (by omega)
  simp only [Value.slice.injEq] at he
  refine ⟨b,o,he.1,by omega,?_,h.2 x (List.mem_of_getElem? hx)⟩
  have := hc i hi
  rw [hx,Option.getD_some] at this
  exact this
 have HPOS:=Lib.hid hpos
 have HN:=Lib.hid hn
 have HM:=Lib.hid hm
 have HB:=Lib.hid hB
 have HW1:=Lib.hid hW1
 have HB1:=Lib.hid b1
 have HQ1:=Lib.hid q1
 have S1:=Lib.hid s1
 rw [hB]
 rw [hB] at hmk
 clear h hn hm hB hW1 b1 q1 s1 hpos
 go_enter Tryz.func89,Tryz.ntmps89
 go_upto_region 3 with fail
 go_wp2_with fail
 try rw [HW1.out]
 go_loopw [13] (fun iv wr => ∃ i : Nat,i <= n /\ iv = .int .i64 i /\ Hid (Blk wr B (wArr (packL m (l.take i))) 130) /\ Hid (Below B w wr) /\ Hid (wr.heap.size = B + 1)) (fun iv _ => n - (intOf iv).toNat)
 case atStart => exact ⟨0,Nat.zero_le _,rfl,HQ1,HB1,S1⟩
 case round =>
  obtain ⟨i,hi,rfl,HQ,HBR,SR⟩:=hrel
  obtain ⟨wo,rfl⟩ : ∃ wo : World,wo = wr:=⟨_,rfl⟩
  by_cases hlt : i < n
  ·obtain ⟨x,hx⟩ : ∃ x,l[i]? = some x:=⟨_,List.getElem?_eq_getElem (by rw [HN.out]; exact hlt)⟩
   obtain ⟨b,o,rfl,hbB,hc,hx16⟩:=HPOS.out i x hx
   have e0 : wo.cell? ⟨b,o + i,none⟩ = some (.int .u16 (x : Int)):=(HBR.out.cell (p:=⟨b,o + i,none⟩) hbB).trans hc
   have HX:=Lib.hid hx
   clear hc hx
   obtain ⟨j,hj⟩ : ∃ j,i / 2 = j:=⟨_,rfl⟩
   have hjm : j < m:=by have := HM.out; omega
   have hqi : Int.tdiv (i : Int) 2 = (j : Int):=by rw [Int.tdiv_eq_ediv_of_nonneg (by omega)]; omega
   obtain ⟨y,hy⟩ : ∃ y,pkW (l.take i) j = y:=⟨_,rfl⟩
   have e1 : wo.drew.cell? ⟨B,j,none⟩ = some (.int .u32 (y : Int)):=(show Blk wo.drew B (wArr (packL m (l.take i))) 130 from HQ.out).at (wArr_at (by rw [packL_at _ hjm,hy]))
   have HE1:=Lib.hid e1
   have hwj : IntKind.i64.wrap (j : Int) = j:=wi64 (by omega) (by omega)
   have hwx : IntKind.u32.wrap (x : Int) = x:=wu32 (by omega)
   have hw0 : IntKind.i64.wrap 0 = 0:=wi64 (by omega) (by omega)
   have hw16 : IntKind.i64.wrap 16 = 16:=wi64 (by omega) (by omega)
   have hw1 : IntKind.i64.wrap 1 = 1:=wi64 (by omega) (by omega)
   have HY:=Lib.hid hy
   clear hy e1
   go_upto_region 5 with fail
   have e1:=HE1.out
   have f1 : wo.drew.frozen? ⟨B,j,none⟩ = false:=(show Blk wo.drew B (wArr (packL m (l.take i))) 130 from HQ.out).free j
   rcases (show i % 2 = 0 \/ i % 2 = 1 by omega) with he | he
   ·have hr2 : (i : Int) % 2 = 0:=by omega
    have hr : Int.tmod (i : Int) 2 = 0:=by rw [Int.tmod_eq_emod_of_nonneg (by omega)]; exact hr2
    have hy0 : y = 0:=by
     have := (packL_even (l:=l) (m:=m) (j:=j) (x:=x) (by rw [show 2 * j = i by omega]; exact HX.out) hjm).2
     rw [show 2 * j = i by omega,HY.out] at this
     exact this
    have hor : bits BinOp.or IntKind.u32 (y : Int) (x : Int) = (x : Int):=by
     rw [u32_or_nat y x (by omega) (by omega),hy0,Nat.zero_or]
    have hset : packL m (l.take (i + 1)) = (packL m (l.take i)).set j x:=by
     have := (packL_even (l:=l) (m:=m) (j:=j) (x:=x) (by rw [show 2 * j = i by omega]; exact HX.out) hjm).1
     rw [show 2 * j = i by omega] at this
     exact this
    have HSET:=Lib.hid hset
    clear hset hy0 hj
    have hq2 : Blk (wo.drew.setCell ⟨B,j,none⟩ (.int .u32 ((x : Nat) : Int))) B (wArr (packL m (l.take (i + 1)))) 130:=by
     have h0:=(show Blk wo.drew B (wArr (packL m (l.take i))) 130 from HQ.out).set (i:=j) (.int .u32 ((x : Nat) : Int))
     rw [wArr_set] at h0
     rw [HSET.out]
     exact h0
    have hb2 : Below B w (wo.drew.setCell ⟨B,j,none⟩ (.int .u32 ((x : Nat) : Int))):=(below_quiet HBR.out).setCell (p:=⟨B,j,none⟩) (Nat.le_refl _) _
    have hs2 : (wo.drew.setCell ⟨B,j,none⟩ (.int .u32 ((x : Nat) : Int))).heap.size = B + 1:=by
     have := SR.out
     simp [World.setCell]
     exact this
    have HQ2:=Lib.hid hq2
    have HB2:=Lib.hid hb2
    have HS2:=Lib.hid hs2
    clear hq2 hb2 hs2
    go_region
    go_wp2_with fail
    exact ⟨⟨i + 1,by omega,by go_num,HQ2,HB2,HS2⟩,by simp [intOf]; omega⟩
   ·have hr2 : (i : Int) % 2 = 1:=by omega
    have hr : Int.tmod (i : Int) 2 = 1:=by rw [Int.tmod_eq_emod_of_nonneg (by omega)]; exact hr2
    have hi1 : 2 * j + 1 = i:=by omega
    have hpo:=packL_odd (l:=l) (m:=m) (j:=j) (x:=x) (by rw [hi1]; exact HX.out) hjm
    rw [hi1] at hpo
    obtain ⟨hset,hyv⟩:=hpo
    rw [HY.out] at hset hyv
    have hy16 : y < 65536:=by
     have h2 : 2 * j < l.length:=by rw [HN.out]; omega
     rw [List.getElem?_eq_getElem h2,Option.getD_some] at hyv
     obtain ⟨_,_,_,_,_,h6⟩:=HPOS.out (2 * j) _ (List.getElem?_eq_getElem h2)
     omega
    obtain ⟨z,hz⟩ : ∃ z,65536 * x = z:=⟨_,rfl⟩
    have hz1 : (x : Int) * 65536 = (z : Int):=by omega
    have hwz : IntKind.u32.wrap (z : Int) = z:=wu32 (by omega)
    have hor : bits BinOp.or IntKind.u32 (y : Int) (z : Int) = ((y + 65536 * x : Nat) : Int):=by
     rw [u32_or_nat y z (by omega) (by omega)]
     have := Nat.two_pow_add_eq_or_of_lt (i:=16) hy16 x
     rw [<- hz,Nat.or_comm,show (65536 : Nat) = 2 ^ 16 from rfl,<- this,Nat.add_comm]
    have HSET:=Lib.hid hset
    clear hset hyv hj hi1 hz hy16
    have hpush : ((y + 65536 * x : Nat) : Int) = ((y + 65536 * x : Nat) : Int):=rfl
    have hq2 : Blk (wo.drew.setCell ⟨B,j,none⟩ (.int .u32 ((y + 65536 * x : Nat) : Int))) B (wArr (packL m (l.take (i + 1)))) 130:=by
     have h0:=(show Blk wo.drew B (wArr (packL m (l.take i))) 130 from HQ.out).set (i:=j) (.int .u32 ((y + 65536 * x : Nat) : Int))
     rw [wArr_set] at h0
     rw [HSET.out]
     exact h0
    have hb2 : Below B w (wo.drew.setCell ⟨B,j,none⟩ (.int .u32 ((y + 65536 * x : Nat) : Int))):=(below_quiet HBR.out).setCell (p:=⟨B,j,none⟩) (Nat.le_refl _) _
    have hs2 : (wo.drew.setCell ⟨B,j,none⟩ (.int .u32 ((y + 65536 * x : Nat) : Int))).heap.size = B + 1:=by
     have := SR.out
     simp [World.setCell]
     exact this
    have HQ2:=Lib.hid hq2
    have HB2:=Lib.hid hb2
    have HS2:=Lib.hid hs2
    clear hq2 hb2 hs2
    go_region
    go_wp2_with fail
    exact ⟨⟨i + 1,by omega,by go_num,HQ2,HB2,HS2⟩,by simp [intOf]; omega⟩
  ·obtain rfl : n = i:=by omega
   have hfin : l.take n = l:=List.take_of_length_le (by rw [HN.out]; exact Nat.le_refl _)
   have hq:=HQ.out
   rw [hfin] at hq
   have HQF:=Lib.hid hq
   clear hq hfin
   go_wp2_with fail
   go_ret
   exact ⟨rfl,HQF.out,HBR.out,SR.out⟩
theorem wpList_store_new {ops : Array Oper} {rest : List Oper} {op : Oper} {a : Act} {w : World} {Q : Exit -> Act -> World -> Prop} (hgd : op.guard = none) (ty : TypeId) (x y : Operand) (ho : op.op = .store ty x y) (cs old : Array Value)
  (hi : (Tryz.prog.info? ty).map (fun i => i.size) = some cs.size) (hsz : old.size = cs.size) (h1 : ∀ v ∈ cs,v.oneCell' = true) (b : Nat) (hb : b = w.heap.size)
  (hx : a.eval x = .pointer (some ⟨b,0,none⟩)) (hy : a.eval y = .agg cs)
  (h : wpList Tryz.prog ops Q rest (a.put op.dst undef) (w.alloc (.cells cs ty))) : wpList Tryz.prog ops Q (op :: rest) a (w.alloc (.cells old ty)):=by
 subst hb
 refine wpList_store_row hgd ty x y ho w.heap.size cs hx hy ty old (World.alloc_heap_new w _) hi hsz (by rw [Array.all_eq_true_iff_forall_mem]; exact h1) ?_
 rw [World.setRow_alloc_new]
 exact h
theorem wpList_store_blk {ops : Array Oper} {rest : List Oper} {op : Oper} {a : Act} {w : World} {Q : Exit -> Act -> World -> Prop} (hgd : op.guard = none) (ty t : TypeId) (x y : Operand) (ho : op.op = .store ty x y) (cs old : Array Value) (b : Nat)
  (hq : Blk w b old t) (hi : (Tryz.prog.info? ty).map (fun i => i.size) = some cs.size) (hsz : old.size = cs.size) (h1 : ∀ v ∈ cs,v.oneCell' = true)
  (hx : a.eval x = .pointer (some ⟨b,0,none⟩)) (hy : a.eval y = .agg cs)
  (h : ∀ W',Blk W' b cs t -> (∀ B,B <= b -> Below B w W') -> w.grownBy W' (some b) -> W'.heap.size = w.heap.size -> wpList Tryz.prog ops Q rest (a.put op.dst undef) W') : wpList Tryz.prog ops Q (op :: rest) a w:=by
 refine wpList_store_row hgd ty x y ho b cs hx hy t old hq hi hsz (by rw [Array.all_eq_true_iff_forall_mem]; exact h1) ?_
 have hs : (w.setRow b cs).heap.size = w.heap.size:=by simp [World.setRow]
 exact h _ (setRow_heap w b old cs t _ hq) (fun B hB => ⟨rfl,rfl,rfl,Nat.le_of_eq hs.symm,fun k hk => setRow_other w b k cs (by omega)⟩) ⟨rfl,rfl,rfl,Nat.le_of_eq hs.symm,fun k _ hk => setRow_other w b k cs (fun e => hk (by rw [e]))⟩ hs
theorem results_row {fn : Func} {t : Tmp} {ty : TypeId} (h : fn.results = #[.cell t ty]) (tmps : Array Value) (P : Program) (w : World) (b o : Nat) (cs : List Value) (d : TypeDesc) (hc : w.rangeAt b o cs) (ht : tmps.getD t undef = .pointer (some ⟨b,o,none⟩))
  (hu : P.underlying ty = some d) (hd : d.isRow = true) (hi : (P.info? ty).map (·.size) = some cs.length) : (results fn tmps).run P w = .ok (.agg cs.toArray) w:=by
 have hl:=run_loadVar_mid (P:=P) w b o ty cs d hc hu hd hi
 have ht' : tmps[t]?.getD undef = .pointer (some ⟨b,o,none⟩):=by simpa using ht
 simp [results,h,ht',asAddr,hl]
theorem Blk.range {w : World} {b t : Nat} {cs : Array Value} (h : Blk w b cs t) : w.rangeAt b 0 cs.toList:=by
 intro j v hj
 rw [Nat.zero_add]
 exact h.at (by simpa using hj)
theorem results_blk {fn : Func} {t : Tmp} {ty : TypeId} (h : fn.results = #[.cell t ty]) (tmps : Array Value) (w : World) (b : Nat) (cs : Array Value) (d : TypeDesc) (hc : Blk w b cs ty) (ht : tmps.getD t undef = .pointer (some ⟨b,0,none⟩))
  (hu : Tryz.prog.underlying ty = some d) (hd : d.isRow = true) (hi : (Tryz.prog.info? ty).map (fun i => i.size) = some cs.size) : (results fn tmps).run Tryz.prog w = .ok (.agg cs) w:=by
 have := results_row h tmps Tryz.prog w b 0 cs.toList d hc.range ht hu hd (by rw [hi]; simp)
 simpa using this
theorem infoWholeW : (Tryz.prog.info? 24).map (fun i => i.size) = some 2:=by kernel_rfl
def unW (l : List Nat) (p j : Nat) : Nat:=if j < p then (if j % 2 = 0 then l[j / 2]?.getD 0 % 65536 else l[j / 2]?.getD 0 / 65536) else 0
def unL (m : Nat) (l : List Nat) (p : Nat) : List Nat:=(List.range m).map (unW l p)
theorem unL_len (m : Nat) (l : List Nat) (p : Nat) : (unL m l p).length = m:=by simp [unL]
theorem unL_at {m j : Nat} (l : List Nat) (p : Nat) (h : j < m) : (unL m l p)[j]? = some (unW l p j):=by simp [unL,h]
theorem unL_zero (m : Nat) (l : List Nat) : unL m l 0 = List.replicate m 0:=by
 apply List.ext_getElem?
 intro k
 by_cases hk : k < m
 ·rw [unL_at _ _ hk]; simp [unW,hk]
 ·rw [List.getElem?_eq_none (by rw [unL_len]; omega),List.getElem?_eq_none (by simp; omega)]
theorem unL_step {m p : Nat} (l : List Nat) (hp : p < m) : unL m l (p + 1) = (unL m l p).set p (if p % 2 = 0 then l[p / 2]?.getD 0 % 65536 else l[p / 2]?.getD 0 / 65536):=by
 apply List.ext_getElem?
 intro k
 by_cases hk : k < m
 ·by_cases e : p = k
  ·subst e
   rw [unL_at _ _ hk,List.getElem?_set_self (by rw [unL_len]; exact hk)]
   unfold unW
   rw [if_pos (by omega)]
  ·rw [unL_at _ _ hk,List.getElem?_set_ne e,unL_at _ _ hk]
   unfold unW
   by_cases h1 : k < p
   ·rw [if_pos h1,if_pos (by omega)]
   ·rw [if_neg h1,if_neg (by omega)]
 ·rw [List.getElem?_eq_none (by rw [unL_len]; omega),List.getElem?_eq_none (by rw [List.length_set,unL_len]; omega)]
theorem unL_lval : ∀ (l : List Nat),(∀ d ∈ l,d < WB32) -> lval (unL (2 * l.length) l (2 * l.length)) = bv WB32 l
 | [],_ => rfl
 | x :: r,h => by
  have e : unL (2 * (x :: r).length) (x :: r) (2 * (x :: r).length) = x % 65536 :: x / 65536 :: unL (2 * r.length) r (2 * r.length):=by
   unfold unL
   rw [show 2 * (x :: r).length = 2 * r.length + 1 + 1 by simp; omega,List.range_succ_eq_map,List.map_cons,List.map_map,List.range_succ_eq_map,List.map_cons,List.map_map]
   congr 1
   congr 1
   apply List.map_congr_left
   intro k hk
   simp only [Function.comp,unW]
   have hk2:=List.mem_range.1 hk
   rw [if_pos (by omega),if_pos hk2,show (k + 1 + 1) % 2 = k % 2 by omega,show (k + 1 + 1) / 2 = k / 2 + 1 by omega,List.getElem?_cons_succ]
  rw [e,lval,lval,unL_lval r fun d hd => h d (List.mem_cons_of_mem _ hd),bv]
  have h1 : x % 65536 + 65536 * (x / 65536) = x:=Nat.mod_add_div x 65536
  unfold WB32
  omega
theorem lval_append : ∀ (l r : List Nat),lval (l ++ r) = lval l + 65536 ^ l.length * lval r
 | [],r => by simp [lval]
 | x :: l,r => by
  rw [List.cons_append,lval,lval,lval_append l r,List.length_cons,Nat.pow_succ,Nat.mul_add,Nat.mul_comm (65536 ^ l.length) 65536,Nat.mul_assoc]
  omega
def Ln (K : Nat) (w : World) (v : Value) (n : Nat) : Prop:=∃ l,Lm K w v l /\ Tight l /\ lval l = n
theorem Ln.below {K K' B : Nat} {w w' : World} {v : Value} {n : Nat} (h : Ln K w v n) (hb : Below B w w') (hB : K <= B) (hK : K <= K') : Ln K' w' v n:=by
 obtain ⟨l,h1,h2⟩:=h; exact ⟨l,h1.below hb hB hK,h2⟩
theorem lm_blk {K b k c : Nat} {w : World} {l : List Nat} {t : TypeId} (hq : Blk w b (lArr l) t) (hb : b < K) (hk : k <= l.length) (hc : k <= c) (hcm : c <= maxLen) (hlt : ∀ d ∈ l,d < 65536) : Lm K w (.slice (some ⟨b,0,none⟩) k c) (l.take k):=by
 have hl : (l.take k).length = k:=by rw [List.length_take]; omega
 refine ⟨?_,fun d hd => hlt d (List.mem_of_mem_take hd)⟩
 have : RowsV 1 (fun i _ => D16 ((l.take k)[i]?.getD 0)) K w (.slice (some ⟨b,0,none⟩) (l.take k).length c) (l.take k).length:=by
  refine RowsV.mk_cells (by omega) hcm hb fun i hi j hj => ?_
  obtain rfl : j = 0:=by omega
  rw [hl] at hi
  have hd:=List.getElem?_eq_getElem (show i < l.length by omega)
  rw [List.getElem?_take_of_lt hi,hd,Option.getD_some]
  have := hq.at (lArr_at hd)
  simpa using this
 rwa [hl] at this ⊢
theorem nunpack_any (K : Nat) (g : Bool) (v : Value) (l : List Nat) (w : World) (h : Ws K w v l) (hK : K <= w.heap.size) (hl30 : l.length <= 2 ^ 30) :
  Calls Tryz.prog 98 #[.bool g,v] w fun e w' => ∃ v',e = .returned (.agg #[.bool (g && decide (0 < bv WB32 l)),v']) /\ Ln w'.heap.size w' v' (bv WB32 l) /\ Below w.heap.size w w' /\ NewV w.heap.size v':=by
 obtain ⟨W1,hW1⟩ : ∃ W,w.alloc (.cells #[.bool false,.slice none 0 0] 24) = W:=⟨_,rfl⟩
 obtain ⟨B,hB⟩ : ∃ B,w.heap.size = B:=⟨_,rfl⟩
 have b1 : Below B w W1:=by rw [<- hW1,<- hB]; exact (Below.refl _ _).alloc (Nat.le_refl _) _
 have q1 : Blk W1 B #[.bool false,.slice none 0 0] 24:=by rw [<- hW1,<- hB]; exact Blk.new w _ _
 have s1 : W1.heap.size = B + 1:=by rw [<- hW1,<- hB]; simp
 rw [hB] at hK ⊢
 obtain ⟨a,c,rfl,hlc,hcm⟩:=h.form
 have hw1:=h.below b1 hK hK
 have ht:=ntrim_any B a l.length c l W1 hw1
 obtain ⟨n,hn⟩ : ∃ n,l.length = n:=⟨_,rfl⟩
 rw [hn] at ht hlc hl30 ⊢
 unfold maxLen at hcm
 have HN:=Lib.hid hn
 have HB:=Lib.hid hB
 have HW1:=Lib.hid hW1
 have HWS:=Lib.hid hw1
 have HB1:=Lib.hid b1
 have HQ1:=Lib.hid q1
 have HT:=Lib.hid ht
 have S1:=Lib.hid s1
 obtain ⟨N,hNv⟩ : ∃ N,bv WB32 l = N:=⟨_,rfl⟩
 rw [hNv]
 have HNV:=Lib.hid hNv
 obtain ⟨gz,hgz⟩ : ∃ z,(g && decide (0 < N)) = z:=⟨_,rfl⟩
 rw [hgz]
 have HGZ:=Lib.hid hgz
 clear h hn hB hW1 hw1 b1 q1 ht s1 hNv hgz
 go_enter Tryz.func98,Tryz.ntmps98
 go_upto_region 1 with fail
 simp only [HB.out]
 rw [HW1.out]
 go_wp2_with fail
 refine HT.out.mono ?_
 rintro e w2 ⟨k,hkn,rfl,htk,hbk,rfl⟩
 have HTK:=Lib.hid htk
 have HBK:=Lib.hid hbk
 clear HT htk hbk
 cases k with
 | zero =>
  have hN0 : N = 0:=by have := HBK.out; rw [HNV.out] at this; rw [<- this]; rfl
  subst hN0
  have hgz : gz = false:=by rw [<- HGZ.out]; simp
  subst hgz
  have h1c : ∀ u ∈ (#[.bool false,.slice none 0 0] : Array Value),u.oneCell' = true:=by simp [Value.oneCell']
  have H1C:=Lib.hid h1c
  clear h1c
  go_wp2_with (refine wpList_store_blk rfl 24 24 (.tmp 4) (.tmp 13) rfl #[.bool false,.slice none 0 0] _ B HQ1.out infoWholeW rfl H1C.out rfl rfl ?_; intro W9 t1 t2 t3 t4)
  refine bodyPost_ret (results_blk rfl _ _ B _ _ t1 rfl Tryz.underlying24 rfl infoWholeW) rfl ?_
  exact ⟨_,rfl,⟨[],Lm.nil _ _,Tight.nil,rfl⟩,HB1.out.trans (t2 B (Nat.le_refl _)),NewV.nil _ _ _⟩
 | succ k =>
  obtain ⟨p,hp⟩ : ∃ p,k + 1 = p:=⟨_,rfl⟩
  have hp0 : 0 < p:=by omega
  rw [hp] at hkn HTK HBK ⊢
  clear hp
  obtain ⟨b,o,cap,he,_,_,hbB,hcl⟩:=HWS.out.at (by rw [HN.out]; omega)
  rw [HN.out] at he
  simp only [Value.slice.injEq,true_and] at he
  obtain ⟨rfl,rfl⟩:=he
  obtain ⟨L,hL⟩ : ∃ L,l.take p = L:=⟨_,rfl⟩
  have hLl : L.length = p:=by rw [<- hL,List.length_take]; have := HN.out; omega
  have hcL : ∀ i d : Nat,L[i]? = some d -> W1.cell? ⟨b,o + i,none⟩ = some (.int .u32 (d : Int)):=fun i d hd => by
   have hi:=(List.getElem?_eq_some_iff.1 hd).1
   rw [<- hL,List.getElem?_take_of_lt (by omega)] at hd
   exact hcl i d hd
  have hLlt : ∀ d ∈ L,d < WB32:=fun d hd => HWS.out.lt d (by rw [<- hL] at hd; exact List.mem_of_mem_take hd)
  rw [hL,HNV.out] at HBK
  rw [hL] at HTK
  obtain ⟨m,hm⟩ : ∃ m,2 * p = m:=⟨_,rfl⟩
  have hm2 : (2 : Int) * (p : Int) = (m : Int):=by omega
  have hmk:=make_limbs m (by omega) W1
  rw [S1.out] at hmk
  obtain ⟨W2,hW2⟩ : ∃ W,W1.alloc (.cells (lArr (List.replicate m 0)) 85) = W:=⟨_,rfl⟩
  have b2 : Below (B + 1) W1 W2:=by rw [<- hW2,<- S1.out]; exact (Below.refl _ _).alloc (Nat.le_refl _) _
  have q2 : Blk W2 (B + 1) (lArr (unL m L (2 * 0))) 85:=by rw [<- hW2,<- S1.out,Nat.mul_zero,unL_zero]; exact Blk.new W1 _ _
  have s2 : W2.heap.size = B + 2:=by rw [<- hW2]; simp [S1.out]
  have HW2:=Lib.hid hW2
  have HB2:=Lib.hid b2
  have HQ2:=Lib.hid q2
  have HL:=Lib.hid hL
  have HLL:=Lib.hid hLl
  have HCL:=Lib.hid hcL
  have HLT:=Lib.hid hLlt
  have HM:=Lib.hid hm
  have S2:=Lib.hid s2
  have hwm : IntKind.i64.wrap (m : Int) = m:=wi64 (by omega) (by omega)
  clear hcl hL hLl hcL hLlt hW2 b2 q2 hm s2
  go_upto_region 5 with fail
  try rw [HW2.out]
  go_wp2_with fail
  go_loopw [20] (fun iv wr => ∃ i : Nat,i <= p /\ iv = .int .i64 i /\ Hid (Blk wr (B + 1) (lArr (unL m L (2 * i))) 85) /\ Hid (Below (B + 1) W1 wr) /\ Hid (wr.heap.size = B + 2)) (fun iv _ => p - (intOf iv).toNat)
  case atStart => exact ⟨0,Nat.zero_le _,rfl,HQ2,HB2,S2⟩
  case round =>
   obtain ⟨i,hi,rfl,HQ,HBR,SR⟩:=hrel
   obtain ⟨wo,rfl⟩ : ∃ wo : World,wo = wr:=⟨_,rfl⟩
   by_cases hlt : i < p
   ·obtain ⟨d,hd⟩ : ∃ d,L[i]? = some d:=⟨_,List.getElem?_eq_getElem (by rw [HLL.out]; exact hlt)⟩
    have e0 : wo.cell? ⟨b,o + i,none⟩ = some (.int .u32 (d : Int)):=(HBR.out.cell (p:=⟨b,o + i,none⟩) (show b < B + 1 by omega)).trans (HCL.out i d hd)
    have hd32:=HLT.out d (List.mem_of_getElem? hd)
    obtain ⟨j,hj⟩ : ∃ j,2 * i = j:=⟨_,rfl⟩
    have hj2 : (2 : Int) * (i : Int) = (j : Int):=by omega
    have hjm : j < m:=by have := HM.out; omega
    have hjm1 : j + 1 < m:=by have := HM.out; omega
    have hwj : IntKind.i64.wrap (j : Int) = j:=wi64 (by omega) (by omega)
    have hwj1 : IntKind.i64.wrap ((j : Int) + 1) = (j : Int) + 1:=wi64 (by omega) (by omega)
    obtain ⟨x,hx⟩ : ∃ x,d % 65536 = x:=⟨_,rfl⟩
    obtain ⟨y,hy⟩ : ∃ y,d / 65536 = y:=⟨_,rfl⟩
    have hx16 : x < 65536:=by omega
    have hy16 : y < 65536:=by unfold WB32 at hd32; omega
    have hwx : IntKind.u16.wrap (d : Int) = (x : Int):=by simp [IntKind.wrap,IntKind.bits,IntKind.signed]; omega
    have hdy : (d : Int) / 65536 = (y : Int):=by omega
    have hwy : IntKind.u16.wrap (y : Int) = (y : Int):=wu16 hy16
    have hq1:=HQ.out.at (i:=j) (lArr_at (unL_at L (2 * i) hjm))
    have hf1:=HQ.out.free j
    have HD:=Lib.hid hd
    have HJ:=Lib.hid hj
    have HX:=Lib.hid hx
    have HY:=Lib.hid hy
    clear hd hj hx hy
    go_upto_region 9 with fail
    obtain ⟨Wx,hWx⟩ : ∃ W,wo.setCell ⟨B + 1,j,none⟩ (.int .u16 (x : Int)) = W:=⟨_,rfl⟩
    rw [hWx]
    have hqj : Blk wo (B + 1) (lArr (unL m L j)) 85:=by have := HQ.out; rw [HJ.out] at this; exact this
    have hji : j / 2 = i:=by have := HJ.out; omega
    have hqx : Blk Wx (B + 1) (lArr (unL m L (j + 1))) 85:=by
     rw [<- hWx,unL_step L hjm,if_pos (by have := HJ.out; omega),hji,HD.out,Option.getD_some,HX.out,<- lArr_set]
     exact hqj.set _
    have hbx : Below (B + 1) W1 Wx:=by rw [<- hWx]; exact HBR.out.setCell (p:=⟨B + 1,j,none⟩) (Nat.le_refl _) _
    have hsx : Wx.heap.size = B + 2:=by rw [<- hWx]; simp [World.setCell]; exact SR.out
    have hq2:=hqx.at (i:=j + 1) (lArr_at (unL_at L (j + 1) hjm1))
    have hf2:=hqx.free (j + 1)
    have hqy : Blk (Wx.setCell ⟨B + 1,j + 1,none⟩ (.int .u16 (y : Int))) (B + 1) (lArr (unL m L (2 * (i + 1)))) 85:=by
     rw [show 2 * (i + 1) = j + 1 + 1 by have := HJ.out; omega,unL_step L hjm1,if_neg (by have := HJ.out; omega),show (j + 1) / 2 = i by have := HJ.out; omega,HD.out,Option.getD_some,HY.out,<- lArr_set]
     exact hqx.set _
    have HQY:=Lib.hid hqy
    have HBY:=Lib.hid (hbx.setCell (p:=⟨B + 1,j + 1,none⟩) (Nat.le_refl _) (.int .u16 (y : Int)))
    have HSY : Hid ((Wx.setCell ⟨B + 1,j + 1,none⟩ (.int .u16 (y : Int))).heap.size = B + 2):=Lib.hid (by simp [World.setCell]; exact hsx)
    clear hWx hqx hbx hsx hqy hq1 hf1 e0 hqj hji
    go_wp2_with fail
    exact ⟨⟨i + 1,by omega,by go_num,HQY,HBY,HSY⟩,by simp [intOf]; omega⟩
   ·obtain rfl : p = i:=by omega
    have hqf : Blk wo (B + 1) (lArr (unL m L m)) 85:=by have := HQ.out; rw [HM.out] at this; exact this
    have hlv : lval (unL m L m) = N:=by
     have := unL_lval L HLT.out
     rw [HLL.out,HM.out] at this
     rw [this]; exact HBK.out
    have hun : ∀ d ∈ unL m L m,d < 65536:=fun d hd => by
     obtain ⟨j,_,rfl⟩:=List.mem_map.1 hd
     unfold unW
     split
     ·split
      ·omega
      ·have : L[j / 2]?.getD 0 < WB32:=by
        cases h : L[j / 2]? with
        | none => simp
        | some d => exact HLT.out d (List.mem_of_getElem? h)
       unfold WB32 at this
       omega
     ·omega
    obtain ⟨q,hq⟩ : ∃ q,p = q + 1:=⟨p - 1,by omega⟩
    obtain ⟨d,hd⟩ : ∃ d,L[q]? = some d:=⟨_,List.getElem?_eq_getElem (by rw [HLL.out]; omega)⟩
    have hd0 : d ≠ 0:=by
     rcases HTK.out with h | h
     ·rw [h] at hd; cases hd
     ·rw [List.getLast?_eq_getElem?,HLL.out,hq,Nat.add_sub_cancel,hd,Option.getD_some] at h
      exact h
    have hd32:=HLT.out d (List.mem_of_getElem? hd)
    have hm1 : m = 2 * q + 1 + 1:=by have := HM.out; omega
    have hlast : (unL m L m)[2 * q + 1]? = some (d / 65536):=by
     rw [unL_at _ _ (by omega)]
     unfold unW
     rw [if_pos (by omega),if_neg (by omega),show (2 * q + 1) / 2 = q by omega,hd]; rfl
    have hprev : (unL m L m)[2 * q]? = some (d % 65536):=by
     rw [unL_at _ _ (by omega)]
     unfold unW
     rw [if_pos (by omega),if_pos (by omega),show 2 * q / 2 = q by omega,hd]; rfl
    have hN0 : decide (0 < N) = true:=by
     have h1:=bv_zero_iff (b:=WB32) (by decide) HTK.out
     have h2 : L ≠ []:=fun e => by rw [e] at hd; cases hd
     have h3 : bv WB32 L ≠ 0:=fun e => h2 (h1.1 e)
     rw [HBK.out] at h3
     exact decide_eq_true (by omega)
    have hgz : g = gz:=by rw [<- HGZ.out,hN0,Bool.and_true]
    subst hgz
    obtain ⟨y,hy⟩ : ∃ y,d / 65536 = y:=⟨_,rfl⟩
    have e0 : wo.cell? ⟨B + 1,2 * q + 1,none⟩ = some (.int .u16 (y : Int)):=by rw [<- hy]; exact hqf.at (lArr_at hlast)
    have hqb:=(HQ1.out.below HBR.out (by omega)).below (Below.refl (B + 1) wo) (by omega)
    have HQF:=Lib.hid hqf
    have HQB:=Lib.hid hqb
    have HLV:=Lib.hid hlv
    have HUN:=Lib.hid hun
    have HY:=Lib.hid hy
    have HLAST:=Lib.hid hlast
    have HPREV:=Lib.hid hprev
    have HD0:=Lib.hid hd0
    have hmi : (m : Int) - 1 = ((2 * q + 1 : Nat) : Int):=by omega
    have hmc : m <= 2 ^ 38:=by omega
    clear hqf hqb hlv hun hlast hprev hd0 hd hy hN0 hi hlt
    obtain ⟨j,hj⟩ : ∃ j,2 * q + 1 = j:=⟨_,rfl⟩
    rw [hj] at hmi e0 hm1
    have hjm : j < m:=by omega
    have HJ:=Lib.hid hj
    have HM1:=Lib.hid hm1
    clear hj hm1 hq
    by_cases hy0 : y = 0
    ·have hyb : ((y : Int) == 0) = true:=by simp; omega
     have h1c : ∀ u ∈ (#[.bool g,.slice (some ⟨B + 1,0,none⟩) j m] : Array Value),u.oneCell' = true:=by simp [Value.oneCell']
     have H1C:=Lib.hid h1c
     have HY0:=Lib.hid hy0
     clear h1c hy0
     go_wp2_with (refine wpList_store_blk rfl 24 24 (.tmp 4) (.tmp 54) rfl #[.bool g,.slice (some ⟨B + 1,0,none⟩) j m] _ B HQB.out infoWholeW rfl H1C.out rfl rfl ?_; intro W9 t1 t2 t3 t4)
     refine bodyPost_ret (results_blk rfl _ _ B _ _ t1 rfl Tryz.underlying24 rfl infoWholeW) rfl ?_
     have hs9:=t4
     rw [SR.out] at hs9
     have hq9 : Blk W9 (B + 1) (lArr (unL m L m)) 85:=HQF.out.kept t3 (by simp)
     have htk : (unL m L m).take j = (unL m L m).take (2 * q) ++ [d % 65536]:=by
      rw [<- HJ.out,List.take_add_one,HPREV.out]; rfl
     refine ⟨_,rfl,⟨(unL m L m).take j,lm_blk hq9 (by omega) (by rw [unL_len]; omega) (by omega) (by unfold maxLen; omega) HUN.out,?_,?_⟩,HB1.out.trans ((HBR.out.mono (by omega)).trans (t2 B (Nat.le_refl _))),NewV.at (by omega)⟩
     ·right
      rw [htk,List.getLast?_append,List.getLast?_singleton]
      have h1:=HD0.out
      have h2:=HY.out
      have h3:=HY0.out
      show d % 65536 ≠ 0
      omega
     ·have h1:=HLV.out
      have h2 : unL m L m = (unL m L m).take j ++ [y]:=by
       have h3:=List.take_append_drop j (unL m L m)
       have h4 : (unL m L m).drop j = [y]:=by
        have h5 : (unL m L m)[j]? = some y:=by rw [<- HJ.out,<- HY.out]; exact HLAST.out
        obtain ⟨h6,h7⟩:=List.getElem?_eq_some_iff.1 h5
        rw [List.drop_eq_getElem_cons h6,h7,List.drop_of_length_le (by rw [unL_len]; have := HM1.out; omega)]
       rw [<- h4,h3]
      rw [h2,lval_append,HY0.out] at h1
      simpa [lval] using h1
    ·have hyb : ((y : Int) == 0) = false:=by simp; omega
     have h1c : ∀ u ∈ (#[.bool g,.slice (some ⟨B + 1,0,none⟩) m m] : Array Value),u.oneCell' = true:=by simp [Value.oneCell']
     have H1C:=Lib.hid h1c
     have HY0:=Lib.hid hy0
     clear h1c hy0
     go_wp2_with (refine wpList_store_blk rfl 24 24 (.tmp 4) (.tmp 54) rfl #[.bool g,.slice (some ⟨B + 1,0,none⟩) m m] _ B HQB.out infoWholeW rfl H1C.out rfl rfl ?_; intro W9 t1 t2 t3 t4)
     refine bodyPost_ret (results_blk rfl _ _ B _ _ t1 rfl Tryz.underlying24 rfl infoWholeW) rfl ?_
     have hs9:=t4
     rw [SR.out] at hs9
     have hq9 : Blk W9 (B + 1) (lArr (unL m L m)) 85:=HQF.out.kept t3 (by simp)
     have htk : (unL m L m).take m = unL m L m:=List.take_of_length_le (by rw [unL_len]; exact Nat.le_refl _)
     have hlm:=lm_blk (K:=W9.heap.size) (k:=m) (c:=m) hq9 (by omega) (by rw [unL_len]; exact Nat.le_refl _) (Nat.le_refl _) (by unfold maxLen; omega) HUN.out
     rw [htk] at hlm
     refine ⟨_,rfl,⟨unL m L m,hlm,?_,HLV.out⟩,HB1.out.trans ((HBR.out.mono (by omega)).trans (t2 B (Nat.le_refl _))),NewV.at (by omega)⟩
     right
     have h5:=HLAST.out
     have h6:=HJ.out
     have h7:=HM1.out
     rw [List.getLast?_eq_getElem?,unL_len,show m - 1 = 2 * q + 1 by omega,h5,Option.getD_some,HY.out]
     exact HY0.out
end Go.Proofs.YtlldjmagbjjeoaaGreat
