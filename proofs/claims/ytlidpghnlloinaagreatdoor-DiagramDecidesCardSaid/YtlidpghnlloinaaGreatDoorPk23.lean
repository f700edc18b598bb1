/- Contracts and plain laws, several texts in one (GlM11, GWQ). No conditions beyond those stated. -/
import Derived.Deep.Quiet
import Derived.Test.YtlidpghnlloinaaGreatDoorPk22
set_option maxRecDepth 100000
set_option maxHeartbeats 40000000
namespace Go.Proofs.YtlidpghnlloinaaGreatDoor
open Go.RowKit
set_option linter.unusedVariables false
theorem infoV12 : (Tryz.prog.info? 86).map (fun i => i.size) = some 72:=by kernel_rfl
theorem blk_setCells {b t : Nat} : ∀ (vs : List Value) (o : Nat) (w : World) (cs : Array Value),Blk w b cs t -> o + vs.length <= cs.size -> ∃ cs',Blk (w.setCells b o vs) b cs' t /\ cs'.size = cs.size /\ ∀ i,i < cs.size -> cs'[i]? = if o <= i /\ i < o + vs.length then vs[i - o]? else cs[i]?
 | [],o,w,cs,h,_ => ⟨cs,h,rfl,fun i hi => by rw [if_neg (by intro h; have := h.2; simp at this; omega)]⟩
 | v :: r,o,w,cs,h,hl => by
  rw [List.length_cons] at hl
  obtain ⟨cs',h1,h2,h3⟩:=blk_setCells r (o + 1) (w.setCell ⟨b,o,none⟩ v) (cs.setIfInBounds o v) (h.set v) (by simp; omega)
  refine ⟨cs',h1,by rw [h2]; simp,fun i hi => ?_⟩
  rw [h3 i (by simpa using hi),List.length_cons]
  by_cases e : i = o
  ·subst e
   rw [if_neg (by omega),if_pos (by omega),Array.getElem?_setIfInBounds]
   simp [hi]
  ·by_cases h4 : o + 1 <= i /\ i < o + 1 + r.length
   ·rw [if_pos h4,if_pos (by omega),show i - o = (i - (o + 1)) + 1 by omega]; rfl
   ·rw [if_neg h4,if_neg (by omega),Array.getElem?_setIfInBounds,if_neg (fun e' => e e'.symm)]
theorem blk_there {w : World} {b t o n : Nat} {cs : Array Value} (h : Blk w b cs t) (hl : o + n <= cs.size) : w.there b o n:=fun j hj =>
 ⟨by rw [h.at (Array.getElem?_eq_getElem (by omega : o + j < cs.size))]; rfl,h.free _⟩
theorem size_setCellsG : ∀ (vs : List Value) (o : Nat) (w : World) (b : Nat),(w.setCells b o vs).heap.size = w.heap.size
 | [],_,_,_ => rfl
 | v :: r,o,w,b => by rw [World.setCells,size_setCellsG r]; simp [World.setCell]
theorem grown_setCells : ∀ (vs : List Value) (o : Nat) (w : World) (b : Nat),w.grownBy (w.setCells b o vs) (some b)
 | [],_,w,b => ⟨rfl,rfl,rfl,Nat.le_refl _,fun _ _ _ => rfl⟩
 | v :: r,o,w,b => by rw [World.setCells]; exact grownBy_then (grownBy_setCell _ _ _ _) (grown_setCells r (o + 1) _ b)
theorem wV_kd (kd : Int) (n : Nat) : (wV kd n).kd = kd:=by unfold wV; split <;> rfl
theorem cells72_of {w : World} {b t : Nat} {cs : Array Value} {g : Nat -> Vv} (h : Blk w b cs t) (hs : cs.size = 72) (hc : ∀ i,i < 12 -> ∀ j,j < 6 -> cs[i * 6 + j]? = some ((g i).cell j)) : cs = (cells72 g).toArray:=by
 apply Array.ext
 ·rw [hs]; simp [cells72_len]
 ·intro i h1 h2
  have e:=hc (i / 6) (by omega) (i % 6) (by omega)
  rw [show i / 6 * 6 + i % 6 = i by omega,Array.getElem?_eq_getElem h1] at e
  have e2:=cells72_at g (i:=i / 6) (j:=i % 6) (by omega) (by omega)
  rw [show i / 6 * 6 + i % 6 = i by omega] at e2
  have hl : i < (cells72 g).length:=by rw [cells72_len]; omega
  rw [List.getElem?_eq_getElem hl] at e2
  rw [Option.some.inj e,List.getElem_toArray,Option.some.inj e2]
theorem NewW.puts {L r : Nat} {V W W' : World} (h : NewW L V W) (hg : W.grownBy W' (some r)) (hr : r < L \/ V.heap.size <= r) : NewW L V W' :=
 ⟨Nat.le_trans h.size hg.size,fun k h1 h2 => (hg.block k (Nat.lt_of_lt_of_le h2 h.size) (fun e => by simp at e; omega)).trans (h.block k h1 h2)⟩
theorem VlN.now {L : Nat} {V : World} {v : Vq} {x : Vv} (h : VlN L V v x) : VlX V.heap.size V v x:=h V (NewW.refl _ _)
theorem VlN.mono {L L' : Nat} {V : World} {v : Vq} {x : Vv} (h : VlN L V v x) (hl : L' <= L) : VlN L' V v x:=fun X hx => h X (hx.mono hl)
theorem lm_nil_any {K K' : Nat} {w w' : World} {v : Value} (h : Lm K w v []) : Lm K' w' v []:=by
 obtain ⟨⟨a,cap,rfl,h1,h2,h3,_⟩,_⟩:=h
 exact ⟨RowsV.nil a cap h2 h3,fun d hd => by cases hd⟩
def z72 : Array Value:=(cells72 fun _ => vv0).toArray
theorem z72_at {i j : Nat} (hi : i < 12) (hj : j < 6) : z72[i * 6 + j]? = some (vv0.cell j):=by unfold z72; rw [List.getElem?_toArray]; exact cells72_at _ hi hj
theorem gvalues_any (l : List Nat) (arr : Array Value) (hl : l.length = 12) (hx : ∀ y ∈ l,y < 256) (harr : arr = (l.map fun n : Nat => Value.int .u8 (n : Int)).toArray) (w : World) :
  Calls Tryz.prog 37 #[.agg arr] w fun e w' => ∃ g : Nat -> Vv,e = .returned (.agg (cells72 g).toArray) /\ (∀ k,k < 12 -> VlN w.heap.size w' (valsM l k) (g k)) /\ Below w.heap.size w w':=by
 obtain ⟨W1,hW1⟩ : ∃ W1,((w.alloc (.cells arr 82)).alloc (.cells z72 86)).alloc (.cells z72 86) = W1:=⟨_,rfl⟩
 have b1 : Below w.heap.size w W1:=by rw [<- hW1]; exact (((Below.refl _ _).alloc (Nat.le_refl _) _).alloc (by simp) _).alloc (by simp; omega) _
 have q0 : Blk W1 w.heap.size arr 82:=by rw [<- hW1]; exact ((Blk.new w _ _).alloc _).alloc _
 have q1 : Blk W1 (w.heap.size + 1) z72 86:=by
  rw [<- hW1]
  have := (Blk.new (w.alloc (.cells arr 82)) z72 86).alloc (.cells z72 86)
  rwa [World.size_alloc] at this
 have q2 : Blk W1 (w.heap.size + 2) z72 86:=by
  rw [<- hW1]
  have := Blk.new ((w.alloc (.cells arr 82)).alloc (.cells z72 86)) z72 86
  rwa [World.size_alloc,World.size_alloc] at this
 have s1 : W1.heap.size = w.heap.size + 3:=by rw [<- hW1]; simp
 obtain ⟨B,hB⟩ : ∃ B,w.heap.size = B:=⟨_,rfl⟩
 have HB:=Lib.hid hB
 have HW:=Lib.hid hW1
 rw [hB] at b1 q0 q1 q2 s1 ⊢
 have HA : Hid (∀ (k : Nat) (y : Nat),l[k]? = some y -> arr[k]? = some (Value.int .u8 (y : Int))):=Lib.hid fun k y h => by rw [harr]; simp [h]
 have HX:=Lib.hid hx
 have HQ0s:=Lib.hid q0
 have HQ1s:=Lib.hid q1
 have HQ2s:=Lib.hid q2
 clear hB hW1 hx harr q0 q1 q2
 go_enter Tryz.func37,Tryz.ntmps37
 go_upto_region 2 with fail
 generalize hWx : World.alloc (World.alloc (World.alloc w _) _) _ = Wx
 obtain rfl : Wx = W1:=by rw [<- hWx,<- HW.out]; rfl
 clear hWx HW
 simp only [HB.out]
 go_wp2_with fail
 go_loopw [7] (fun kv wr => ∃ (k : Nat) (g : Nat -> Vv) (cs : Array Value),k <= 12 /\ kv = .int .i64 k /\ Blk wr (B + 2) cs 86 /\ cs.size = 72 /\ Hid (∀ i,i < 12 -> ∀ j,j < 6 -> cs[i * 6 + j]? = some ((if i < k then g i else vv0).cell j)) /\ Hid (∀ i,i < k -> VlN (B + 3) wr (valsM l i) (g i)) /\ Blk wr B arr 82 /\ Blk wr (B + 1) z72 86 /\ Below B w wr /\ B + 3 <= wr.heap.size) (fun kv _ => 12 - (intOf kv).toNat)
 case atStart => exact ⟨0,fun _ => vv0,z72,Nat.zero_le _,rfl,HQ2s.out,by simp [z72,cells72_len],Lib.hid (fun i hi j hj => by rw [if_neg (by omega)]; exact z72_at hi hj),Lib.hid (fun i hi => absurd hi (by omega)),HQ0s.out,HQ1s.out,b1,by omega⟩
 case round =>
  obtain ⟨k,g,cs,hk,rfl,hq2,hsz,hcc,hgv,hq0,hq1,hbw,hbs⟩:=hrel
  obtain ⟨wo,rfl⟩ : ∃ wo : World,wo = wr:=⟨_,rfl⟩
  by_cases hlt : k < 12
  ·obtain ⟨y,hy⟩ : ∃ y,l[k]? = some y:=⟨_,List.getElem?_eq_getElem (by omega)⟩
   have hy256 : y < 256:=HX.out y (List.mem_of_getElem? hy)
   have n0 : wo.cell? ⟨B,k,none⟩ = some (.int .u8 (y : Int)):=hq0.at (HA.out k y hy)
   obtain ⟨m,hm⟩ : ∃ m,y % 9 = m:=⟨_,rfl⟩
   have hmi : (y : Int) % 9 = (m : Int):=by omega
   have hm9 : m < 9:=by omega
   have HVM : Hid (valsM l k = valM k y):=Lib.hid (by unfold valsM; rw [hy]; rfl)
   have HM:=Lib.hid hm
   have HY:=Lib.hid hy
   have HCC:=hcc
   have hkw : IntKind.u8.wrap (k : Int) = k:=IntWalk.u8_in _ (by omega)
   have hkf:=gkindof_any k
   have HKF:=Lib.hid hkf
   have HQ2:=Lib.hid hq2
   have HQ0:=Lib.hid hq0
   have HQ1:=Lib.hid hq1
   have HG:=hgv
   have HBW:=Lib.hid hbw
   clear hy hm hcc hkf hq2 hq0 hq1 hgv hbw
   go_wp2_with fail
   refine (HKF.out _ (by omega)).mono ?_
   rintro e w4 ⟨rfl,hb4⟩
   have hs4:=hb4.size
   have hval:=gvalueN_any (kindN k) (kindN_range k) m (by omega) w4
   go_wp2_with fail
   refine hval.mono ?_
   rintro e w5 ⟨k',ii,f1,f2,s1',s2',rfl,hvl,hb5⟩
   have hs5:=hb5.size
   obtain rfl : k' = kindN k:=(hvl _ (NewW.refl _ _)).kd.trans (wV_kd _ _)
   clear hval
   obtain ⟨a1,n1,m1⟩:=s1'
   obtain ⟨a2,n2,m2⟩:=s2'
   have h1c : ∀ u ∈ (⟨kindN k,f1,.slice a1 n1 m1,f2,.slice a2 n2 m2,ii⟩ : Vv).cells,u.oneCell' = true:=by simp [Value.oneCell']
   go_upto_region 7 with (refine wpList_store_new rfl 47 (.tmp 6) (.tmp 19) rfl (⟨kindN k,f1,.slice a1 n1 m1,f2,.slice a2 n2 m2,ii⟩ : Vv).cells _ infoValN rfl h1c w5.heap.size rfl rfl rfl ?_)
   obtain ⟨S,hS⟩ : ∃ S,w5.heap.size = S:=⟨_,rfl⟩
   obtain ⟨W6,hW6⟩ : ∃ W6,w5.alloc (.cells (⟨kindN k,f1,.slice a1 n1 m1,f2,.slice a2 n2 m2,ii⟩ : Vv).cells 47) = W6:=⟨_,rfl⟩
   have b6 : Below w5.heap.size w5 W6:=by rw [<- hW6]; exact (Below.refl _ _).alloc (Nat.le_refl _) _
   have bo6 : Below wo.heap.size wo W6:=hb4.trans ((hb5.mono (by omega)).trans (b6.mono (by omega)))
   have qs : Blk W6 S (⟨kindN k,f1,.slice a1 n1 m1,f2,.slice a2 n2 m2,ii⟩ : Vv).cells 47:=by rw [<- hW6,<- hS]; exact Blk.new w5 _ _
   have s6 : W6.heap.size = S + 1:=by rw [<- hW6,<- hS]; simp
   have sS : B + 3 <= S:=by omega
   have HQ2':=Lib.hid (HQ2.out.below bo6 (by omega))
   have HQ0':=Lib.hid (HQ0.out.below bo6 (by omega))
   have HQ1':=Lib.hid (HQ1.out.below bo6 (by omega))
   have NW6 : Hid (NewW (B + 3) wo W6):=Lib.hid (NewW.of bo6)
   have hSo : wo.heap.size <= S:=by omega
   have HBW':=Lib.hid (HBW.out.trans (bo6.mono (by omega)))
   have HVL:=Lib.hid ((hvl.move (NewW.of b6)))
   have n0':=HQ0'.out.at (HA.out k y HY.out)
   have HS:=Lib.hid hS
   have HW6:=Lib.hid hW6
   dsimp only [Vv.cells] at HW6
   clear HQ2 HQ0 HQ1 HBW hvl b6 bo6 hW6 hS hb4 hb5
   have sw6 : B + 3 <= W6.heap.size:=by omega
   have sw4 : B + 3 <= w4.heap.size:=by omega
   simp only [HS.out]
   rw [HW6.out]
   clear HW6
   obtain ⟨c0,c1,c2,c3,c4,c5⟩:=qs.six
   by_cases hk1 : kindN k = 1
   ·have e1 : (kindN k == 1) = true:=by simp [hk1]
    have f5:=qs.free 5
    go_upto_region 14 with fail
    obtain ⟨W7,hW7⟩ : ∃ W7,W6.setCell ⟨S,5,none⟩ (.int .i64 ((m : Int) % 2)) = W7:=⟨_,rfl⟩
    rw [hW7]
    have hg7 : W6.grownBy W7 (some S):=by rw [<- hW7]; exact grownBy_setCell _ _ _ _
    have hs7 : W7.heap.size = W6.heap.size:=by rw [<- hW7]; simp [World.setCell]
    have HSB : Hid (Blk W7 S (⟨1,f1,.slice a1 n1 m1,f2,.slice a2 n2 m2,(m : Int) % 2⟩ : Vv).cells 47):=Lib.hid (by
     rw [hk1] at qs
     rw [<- hW7]
     exact qs.set (i:=5) (.int .i64 ((m : Int) % 2)))
    have HQ2:=Lib.hid (HQ2'.out.kept hg7 (by simp; omega))
    have HQ0:=Lib.hid (HQ0'.out.kept hg7 (by simp; omega))
    have HQ1:=Lib.hid (HQ1'.out.kept hg7 (by simp; omega))
    have NWW:=Lib.hid (NW6.out.puts hg7 (.inr hSo))
    have HBW:=Lib.hid (HBW'.out.trans (below_of_grownBy (K:=B) hg7 (by omega) (by omega)))
    have HV : Hid (VlN (B + 3) W7 (valsM l k) (⟨1,f1,.slice a1 n1 m1,f2,.slice a2 n2 m2,(m : Int) % 2⟩ : Vv)):=Lib.hid fun W hw => by
     have h:=HVL.out.now
     rw [HVM.out]
     unfold valM
     rw [if_pos hk1,HM.out]
     rw [hk1] at h
     exact ⟨rfl,h.b1,h.b2,by show (m : Int) % 2 = ((m % 2 : Nat) : Int); omega,lm_nil_any h.n,lm_nil_any h.d⟩
    have sw7 : B + 3 <= W7.heap.size:=by omega
    have sSb : S < W7.heap.size:=by omega
    clear hW7 hg7 hs7 HQ2' HQ0' HQ1' HBW' HVL n0' c0 c1 c2 c3 c4 c5 f5 qs n0 hmi
    have hrs:=HSB.out.range
    obtain ⟨cs',hq',hsz',hcs'⟩:=blk_setCells (⟨1,f1,.slice a1 n1 m1,f2,.slice a2 n2 m2,(m : Int) % 2⟩ : Vv).cells.toList (k * 6) W7 cs HQ2.out (by rw [hsz]; show k * 6 + 6 <= 72; omega)
    have hth : W7.there (B + 2) (k * 6) (⟨1,f1,.slice a1 n1 m1,f2,.slice a2 n2 m2,(m : Int) % 2⟩ : Vv).cells.size:=blk_there HQ2.out (by rw [hsz]; show k * 6 + 6 <= 72; omega)
    have hal : (⟨1,f1,.slice a1 n1 m1,f2,.slice a2 n2 m2,(m : Int) % 2⟩ : Vv).cells.all (·.oneCell') = true:=Array.all_eq_true_iff_forall_mem.2 (by simp [Value.oneCell'])
    have hg9:=grown_setCells (⟨1,f1,.slice a1 n1 m1,f2,.slice a2 n2 m2,(m : Int) % 2⟩ : Vv).cells.toList (k * 6) W7 (B + 2)
    have hs9:=size_setCellsG (⟨1,f1,.slice a1 n1 m1,f2,.slice a2 n2 m2,(m : Int) % 2⟩ : Vv).cells.toList (k * 6) W7 (B + 2)
    obtain ⟨W9,hW9⟩ : ∃ W9,W7.setCells (B + 2) (k * 6) (⟨1,f1,.slice a1 n1 m1,f2,.slice a2 n2 m2,(m : Int) % 2⟩ : Vv).cells.toList = W9:=⟨_,rfl⟩
    rw [hW9] at hq' hg9 hs9
    have HW9:=Lib.hid hW9
    have HQ':=Lib.hid hq'
    have HCS:=Lib.hid hcs'
    have HG9:=Lib.hid hg9
    clear hW9 hq' hcs' hg9
    go_upto_region 15 with (first
     | (refine wpList_load_mid rfl 47 (.tmp 6) rfl S 0 rfl (⟨1,f1,.slice a1 n1 m1,f2,.slice a2 n2 m2,(m : Int) % 2⟩ : Vv).cells.toList _ hrs Tryz.underlying47 rfl infoValN ?_)
     | (refine wpList_store_mid rfl 47 (.tmp 42) (.tmp 41) rfl (B + 2) (k * 6) (⟨1,f1,.slice a1 n1 m1,f2,.slice a2 n2 m2,(m : Int) % 2⟩ : Vv).cells rfl rfl hth infoValN hal ?_; rw [HW9.out]))
    clear hrs hth hal
    have q0:=HQ0.out.kept HG9.out (by simp)
    have q1:=HQ1.out.kept HG9.out (by simp)
    have bw:=HBW.out.trans (below_of_grownBy (K:=B) HG9.out (by omega) (by omega))
    have hcs2 : ∀ i,i < 12 -> ∀ j,j < 6 -> cs'[i * 6 + j]? = some ((if i < k + 1 then (fun i => if i = k then (⟨1,f1,.slice a1 n1 m1,f2,.slice a2 n2 m2,(m : Int) % 2⟩ : Vv) else g i) i else vv0).cell j):=fun i hi j hj => by
     have h1:=HCS.out (i * 6 + j) (by rw [hsz]; omega)
     rw [h1]
     by_cases e : i = k
     ·subst e
      rw [if_pos ⟨by omega,by show i * 6 + j < i * 6 + 6; omega⟩,show i * 6 + j - i * 6 = j by omega,if_pos (by omega)]
      simp only [if_true]
      have hj6 : j = 0 \/ j = 1 \/ j = 2 \/ j = 3 \/ j = 4 \/ j = 5:=by omega
      rcases hj6 with rfl | rfl | rfl | rfl | rfl | rfl <;> rfl
     ·rw [if_neg (by show ¬ (k * 6 <= i * 6 + j /\ i * 6 + j < k * 6 + 6); omega),HCC.out i hi j hj]
      by_cases hik : i < k
      ·rw [if_pos hik,if_pos (by omega)]; simp only [e,if_false]
      ·rw [if_neg hik,if_neg (by omega)]
    have hv2 : ∀ i,i < k + 1 -> VlN (B + 3) W9 (valsM l i) ((fun i => if i = k then (⟨1,f1,.slice a1 n1 m1,f2,.slice a2 n2 m2,(m : Int) % 2⟩ : Vv) else g i) i):=fun i hi => by
     by_cases e : i = k
     ·subst e
      simp only [if_true]
      exact HV.out.move (NewW.put HG9.out (by omega))
     ·simp only [e,if_false]
      exact (HG.out i (by omega)).move (NWW.out.puts HG9.out (.inl (by omega)))
    have HCS2:=Lib.hid hcs2
    have HV2:=Lib.hid hv2
    clear hcs2 hv2
    go_wp2_with fail
    exact ⟨⟨k + 1,_,cs',by omega,by go_num,HQ'.out,by omega,HCS2,HV2,q0,q1,bw,by omega⟩,by simp [intOf]; omega⟩
   ·have e1 : (kindN k == 1) = false:=by simpa using hk1
    by_cases hk2 : kindN k = 2
    ·have hpp : y % 2 = 0 \/ y % 2 = 1:=by omega
     rcases hpp with hpp | hpp
     ·have hp2 : ((y : Int) % 2 == 1) = false:=by simp; omega
      go_upto_region 14 with fail
      have HSB : Hid (Blk W6 S (⟨2,f1,.slice a1 n1 m1,f2,.slice a2 n2 m2,ii⟩ : Vv).cells 47):=Lib.hid (by rw [hk2] at qs; exact qs)
      have HQ2:=HQ2'
      have HQ0:=HQ0'
      have HQ1:=HQ1'
      have NWW:=NW6
      have HBW:=HBW'
      have sSb : S < W6.heap.size:=by omega
      have HV : Hid (VlN (B + 3) W6 (valsM l k) (⟨2,f1,.slice a1 n1 m1,f2,.slice a2 n2 m2,ii⟩ : Vv)):=Lib.hid (by
       have h:=HVL.out.mono sw4
       rw [HVM.out]
       unfold valM
       rw [if_neg hk1,if_neg (fun h => by have := h.2; omega),HM.out]
       rw [hk2] at h ⊢
       exact h)
      clear HQ2' HQ0' HQ1' HBW' HVL n0' c0 c1 c2 c3 c4 c5 qs n0 hmi
      have hrs:=HSB.out.range
      obtain ⟨cs',hq',hsz',hcs'⟩:=blk_setCells (⟨2,f1,.slice a1 n1 m1,f2,.slice a2 n2 m2,ii⟩ : Vv).cells.toList (k * 6) W6 cs HQ2.out (by rw [hsz]; show k * 6 + 6 <= 72; omega)
      have hth : W6.there (B + 2) (k * 6) (⟨2,f1,.slice a1 n1 m1,f2,.slice a2 n2 m2,ii⟩ : Vv).cells.size:=blk_there HQ2.out (by rw [hsz]; show k * 6 + 6 <= 72; omega)
      have hal : (⟨2,f1,.slice a1 n1 m1,f2,.slice a2 n2 m2,ii⟩ : Vv).cells.all (·.oneCell') = true:=Array.all_eq_true_iff_forall_mem.2 (by simp [Value.oneCell'])
      have hg9:=grown_setCells (⟨2,f1,.slice a1 n1 m1,f2,.slice a2 n2 m2,ii⟩ : Vv).cells.toList (k * 6) W6 (B + 2)
      have hs9:=size_setCellsG (⟨2,f1,.slice a1 n1 m1,f2,.slice a2 n2 m2,ii⟩ : Vv).cells.toList (k * 6) W6 (B + 2)
      obtain ⟨W9,hW9⟩ : ∃ W9,W6.setCells (B + 2) (k * 6) (⟨2,f1,.slice a1 n1 m1,f2,.slice a2 n2 m2,ii⟩ : Vv).cells.toList = W9:=⟨_,rfl⟩
      rw [hW9] at hq' hg9 hs9
      have HW9:=Lib.hid hW9
      have HQ':=Lib.hid hq'
      have HCS:=Lib.hid hcs'
      have HG9:=Lib.hid hg9
      clear hW9 hq' hcs' hg9
      go_upto_region 15 with (first
       | (refine wpList_load_mid rfl 47 (.tmp 6) rfl S 0 rfl (⟨2,f1,.slice a1 n1 m1,f2,.slice a2 n2 m2,ii⟩ : Vv).cells.toList _ hrs Tryz.underlying47 rfl infoValN ?_)
       | (refine wpList_store_mid rfl 47 (.tmp 42) (.tmp 41) rfl (B + 2) (k * 6) (⟨2,f1,.slice a1 n1 m1,f2,.slice a2 n2 m2,ii⟩ : Vv).cells rfl rfl hth infoValN hal ?_; rw [HW9.out]))
      clear hrs hth hal
      have q0:=HQ0.out.kept HG9.out (by simp)
      have q1:=HQ1.out.kept HG9.out (by simp)
      have bw:=HBW.out.trans (below_of_grownBy (K:=B) HG9.out (by omega) (by omega))
      have hcs2 : ∀ i,i < 12 -> ∀ j,j < 6 -> cs'[i * 6 + j]? = some ((if i < k + 1 then (fun i => if i = k then (⟨2,f1,.slice a1 n1 m1,f2,.slice a2 n2 m2,ii⟩ : Vv) else g i) i else vv0).cell j):=fun i hi j hj => by
       have h1:=HCS.out (i * 6 + j) (by rw [hsz]; omega)
       rw [h1]
       by_cases e : i = k
       ·subst e
        rw [if_pos ⟨by omega,by show i * 6 + j < i * 6 + 6; omega⟩,show i * 6 + j - i * 6 = j by omega,if_pos (by omega)]
        simp only [if_true]
        have hj6 : j = 0 \/ j = 1 \/ j = 2 \/ j = 3 \/ j = 4 \/ j = 5:=by omega
        rcases hj6 with rfl | rfl | rfl | rfl | rfl | rfl <;> rfl
       ·rw [if_neg (by show ¬ (k * 6 <= i * 6 + j /\ i * 6 + j < k * 6 + 6); omega),HCC.out i hi j hj]
        by_cases hik : i < k
        ·rw [if_pos hik,if_pos (by omega)]; simp only [e,if_false]
        ·rw [if_neg hik,if_neg (by omega)]
      have hv2 : ∀ i,i < k + 1 -> VlN (B + 3) W9 (valsM l i) ((fun i => if i = k then (⟨2,f1,.slice a1 n1 m1,f2,.slice a2 n2 m2,ii⟩ : Vv) else g i) i):=fun i hi => by
       by_cases e : i = k
       ·subst e
        simp only [if_true]
        exact HV.out.move (NewW.put HG9.out (by omega))
       ·simp only [e,if_false]
        exact (HG.out i (by omega)).move (NWW.out.puts HG9.out (.inl (by omega)))
      have HCS2:=Lib.hid hcs2
      have HV2:=Lib.hid hv2
      clear hcs2 hv2
      go_wp2_with fail
      exact ⟨⟨k + 1,_,cs',by omega,by go_num,HQ'.out,by omega,HCS2,HV2,q0,q1,bw,by omega⟩,by simp [intOf]; omega⟩
     ·have hp2 : ((y : Int) % 2 == 1) = true:=by simp; omega
      have hfr : Calls Tryz.prog 83 #[.int .i64 (2 * (m : Int) + 1),.int .i64 2] W6 fun e w' => ∃ u v,e = .returned (Fv u v) /\ (∃ a c,u = .slice a 1 c) /\ (∃ a c,v = .slice a 1 c) /\ Lm w'.heap.size w' u [2 * m + 1] /\ Lm w'.heap.size w' v [2] /\ Below W6.heap.size W6 w' /\ NewV W6.heap.size u /\ NewV W6.heap.size v:=kfracJ_any (2 * m + 1) (by omega) (by omega) W6
      go_wp2_with fail
      refine hfr.mono ?_
      rintro e w7 ⟨u,v,rfl,⟨au,cu,rfl⟩,⟨av,cv,rfl⟩,hlu,hlv,hb7,hnu,hnv⟩
      have hs7:=hb7.size
      clear hfr
      have qs7:=qs.below hb7 (by omega)
      have g1:=qs7.free 1
      have g2:=qs7.free 2
      have g3:=qs7.free 3
      have g4:=qs7.free 4
      obtain ⟨c0,c1,c2,c3,c4,c5⟩:=qs7.six
      go_upto_region 14 with fail
      obtain ⟨W8,hW8⟩ : ∃ W8,((((w7.setCell ⟨S,1,none⟩ (.bool false)).setCell ⟨S,2,none⟩ (.slice au 1 cu)).setCell ⟨S,3,none⟩ (.bool false)).setCell ⟨S,4,none⟩ (.slice av 1 cv)) = W8:=⟨_,rfl⟩
      rw [hW8]
      have hg8 : w7.grownBy W8 (some S):=by rw [<- hW8]; exact grownBy_then (grownBy_then (grownBy_then (grownBy_setCell _ _ _ _) (grownBy_setCell _ _ _ _)) (grownBy_setCell _ _ _ _)) (grownBy_setCell _ _ _ _)
      have hs8 : W8.heap.size = w7.heap.size:=by rw [<- hW8]; simp [World.setCell]
      have HSB : Hid (Blk W8 S (⟨2,false,.slice au 1 cu,false,.slice av 1 cv,ii⟩ : Vv).cells 47):=Lib.hid (by
       rw [hk2] at qs7
       rw [<- hW8]
       exact (((qs7.set (i:=1) (.bool false)).set (i:=2) (.slice au 1 cu)).set (i:=3) (.bool false)).set (i:=4) (.slice av 1 cv))
      have HQ2:=Lib.hid ((HQ2'.out.below hb7 (by omega)).kept hg8 (by simp; omega))
      have HQ0:=Lib.hid ((HQ0'.out.below hb7 (by omega)).kept hg8 (by simp; omega))
      have HQ1:=Lib.hid ((HQ1'.out.below hb7 (by omega)).kept hg8 (by simp; omega))
      have NWW:=Lib.hid ((NW6.out.trans (NewW.of hb7)).puts hg8 (.inr hSo))
      have HBW:=Lib.hid ((HBW'.out.trans (hb7.mono (by omega))).trans (below_of_grownBy (K:=B) hg8 (by omega) (by omega)))
      have HV : Hid (VlN (B + 3) W8 (valsM l k) (⟨2,false,.slice au 1 cu,false,.slice av 1 cv,ii⟩ : Vv)):=Lib.hid fun W hw => by
       have h:=HVL.out.now.i
       rw [hk2] at h
       have nw : NewW W6.heap.size w7 W:=(NewW.put hg8 (by omega)).trans (hw.mono (by omega))
       rw [HVM.out]
       unfold valM
       rw [if_neg hk1,if_pos ⟨by omega,hpp⟩,HM.out]
       exact ⟨hk2.symm,rfl,rfl,h,lm_newW hlu hnu nw (Nat.le_refl _),lm_newW hlv hnv nw (Nat.le_refl _)⟩
      have sw8 : B + 3 <= W8.heap.size:=by omega
      have sSb : S < W8.heap.size:=by omega
      clear hW8 hg8 hs8 HQ2' HQ0' HQ1' HBW' HVL n0' c0 c1 c2 c3 c4 c5 qs qs7 n0 hmi g1 g2 g3 g4 hlu hlv hnu hnv hb7
      have hrs:=HSB.out.range
      obtain ⟨cs',hq',hsz',hcs'⟩:=blk_setCells (⟨2,false,.slice au 1 cu,false,.slice av 1 cv,ii⟩ : Vv).cells.toList (k * 6) W8 cs HQ2.out (by rw [hsz]; show k * 6 + 6 <= 72; omega)
      have hth : W8.there (B + 2) (k * 6) (⟨2,false,.slice au 1 cu,false,.slice av 1 cv,ii⟩ : Vv).cells.size:=blk_there HQ2.out (by rw [hsz]; show k * 6 + 6 <= 72; omega)
      have hal : (⟨2,false,.slice au 1 cu,false,.slice av 1 cv,ii⟩ : Vv).cells.all (·.oneCell') = true:=Array.all_eq_true_iff_forall_mem.2 (by simp [Value.oneCell'])
      have hg9:=grown_setCells (⟨2,false,.slice au 1 cu,false,.slice av 1 cv,ii⟩ : Vv).cells.toList (k * 6) W8 (B + 2)
      have hs9:=size_setCellsG (⟨2,false,.slice au 1 cu,false,.slice av 1 cv,ii⟩ : Vv).cells.toList (k * 6) W8 (B + 2)
      obtain ⟨W9,hW9⟩ : ∃ W9,W8.setCells (B + 2) (k * 6) (⟨2,false,.slice au 1 cu,false,.slice av 1 cv,ii⟩ : Vv).cells.toList = W9:=⟨_,rfl⟩
      rw [hW9] at hq' hg9 hs9
      have HW9:=Lib.hid hW9
      have HQ':=Lib.hid hq'
      have HCS:=Lib.hid hcs'
      have HG9:=Lib.hid hg9
      clear hW9 hq' hcs' hg9
      go_upto_region 15 with (first
       | (refine wpList_load_mid rfl 47 (.tmp 6) rfl S 0 rfl (⟨2,false,.slice au 1 cu,false,.slice av 1 cv,ii⟩ : Vv).cells.toList _ hrs Tryz.underlying47 rfl infoValN ?_)
       | (refine wpList_store_mid rfl 47 (.tmp 42) (.tmp 41) rfl (B + 2) (k * 6) (⟨2,false,.slice au 1 cu,false,.slice av 1 cv,ii⟩ : Vv).cells rfl rfl hth infoValN hal ?_; rw [HW9.out]))
      clear hrs hth hal
      have q0:=HQ0.out.kept HG9.out (by simp)
      have q1:=HQ1.out.kept HG9.out (by simp)
      have bw:=HBW.out.trans (below_of_grownBy (K:=B) HG9.out (by omega) (by omega))
      have hcs2 : ∀ i,i < 12 -> ∀ j,j < 6 -> cs'[i * 6 + j]? = some ((if i < k + 1 then (fun i => if i = k then (⟨2,false,.slice au 1 cu,false,.slice av 1 cv,ii⟩ : Vv) else g i) i else vv0).cell j):=fun i hi j hj => by
       have h1:=HCS.out (i * 6 + j) (by rw [hsz]; omega)
       rw [h1]
       by_cases e : i = k
       ·subst e
        rw [if_pos ⟨by omega,by show i * 6 + j < i * 6 + 6; omega⟩,show i * 6 + j - i * 6 = j by omega,if_pos (by omega)]
        simp only [if_true]
        have hj6 : j = 0 \/ j = 1 \/ j = 2 \/ j = 3 \/ j = 4 \/ j = 5:=by omega
        rcases hj6 with rfl | rfl | rfl | rfl | rfl | rfl <;> rfl
       ·rw [if_neg (by show ¬ (k * 6 <= i * 6 + j /\ i * 6 + j < k * 6 + 6); omega),HCC.out i hi j hj]
        by_cases hik : i < k
        ·rw [if_pos hik,if_pos (by omega)]; simp only [e,if_false]
        ·rw [if_neg hik,if_neg (by omega)]
      have hv2 : ∀ i,i < k + 1 -> VlN (B + 3) W9 (valsM l i) ((fun i => if i = k then (⟨2,false,.slice au 1 cu,false,.slice av 1 cv,ii⟩ : Vv) else g i) i):=fun i hi => by
       by_cases e : i = k
       ·subst e
        simp only [if_true]
        exact HV.out.move (NewW.put HG9.out (by omega))
       ·simp only [e,if_false]
        exact (HG.out i (by omega)).move (NWW.out.puts HG9.out (.inl (by omega)))
      have HCS2:=Lib.hid hcs2
      have HV2:=Lib.hid hv2
      clear hcs2 hv2
      go_wp2_with fail
      exact ⟨⟨k + 1,_,cs',by omega,by go_num,HQ'.out,by omega,HCS2,HV2,q0,q1,bw,by omega⟩,by simp [intOf]; omega⟩
    ·by_cases hk3 : kindN k = 3
     ·have hk2:=hk3
      clear hk3
      have hpp : y % 2 = 0 \/ y % 2 = 1:=by omega
      rcases hpp with hpp | hpp
      ·have hp2 : ((y : Int) % 2 == 1) = false:=by simp; omega
       go_upto_region 14 with fail
       have HSB : Hid (Blk W6 S (⟨3,f1,.slice a1 n1 m1,f2,.slice a2 n2 m2,ii⟩ : Vv).cells 47):=Lib.hid (by rw [hk2] at qs; exact qs)
       have HQ2:=HQ2'
       have HQ0:=HQ0'
       have HQ1:=HQ1'
       have NWW:=NW6
       have HBW:=HBW'
       have sSb : S < W6.heap.size:=by omega
       have HV : Hid (VlN (B + 3) W6 (valsM l k) (⟨3,f1,.slice a1 n1 m1,f2,.slice a2 n2 m2,ii⟩ : Vv)):=Lib.hid (by
        have h:=HVL.out.mono sw4
        rw [HVM.out]
        unfold valM
        rw [if_neg hk1,if_neg (fun h => by have := h.2; omega),HM.out]
        rw [hk2] at h ⊢
        exact h)
       clear HQ2' HQ0' HQ1' HBW' HVL n0' c0 c1 c2 c3 c4 c5 qs n0 hmi
       have hrs:=HSB.out.range
       obtain ⟨cs',hq',hsz',hcs'⟩:=blk_setCells (⟨3,f1,.slice a1 n1 m1,f2,.slice a2 n2 m2,ii⟩ : Vv).cells.toList (k * 6) W6 cs HQ2.out (by rw [hsz]; show k * 6 + 6 <= 72; omega)
       have hth : W6.there (B + 2) (k * 6) (⟨3,f1,.slice a1 n1 m1,f2,.slice a2 n2 m2,ii⟩ : Vv).cells.size:=blk_there HQ2.out (by rw [hsz]; show k * 6 + 6 <= 72; omega)
       have hal : (⟨3,f1,.slice a1 n1 m1,f2,.slice a2 n2 m2,ii⟩ : Vv).cells.all (·.oneCell') = true:=Array.all_eq_true_iff_forall_mem.2 (by simp [Value.oneCell'])
       have hg9:=grown_setCells (⟨3,f1,.slice a1 n1 m1,f2,.slice a2 n2 m2,ii⟩ : Vv).cells.toList (k * 6) W6 (B + 2)
       have hs9:=size_setCellsG (⟨3,f1,.slice a1 n1 m1,f2,.slice a2 n2 m2,ii⟩ : Vv).cells.toList (k * 6) W6 (B + 2)
       obtain ⟨W9,hW9⟩ : ∃ W9,W6.setCells (B + 2) (k * 6) (⟨3,f1,.slice a1 n1 m1,f2,.slice a2 n2 m2,ii⟩ : Vv).cells.toList = W9:=⟨_,rfl⟩
       rw [hW9] at hq' hg9 hs9
       have HW9:=Lib.hid hW9
       have HQ':=Lib.hid hq'
       have HCS:=Lib.hid hcs'
       have HG9:=Lib.hid hg9
       clear hW9 hq' hcs' hg9
       go_upto_region 15 with (first
        | (refine wpList_load_mid rfl 47 (.tmp 6) rfl S 0 rfl (⟨3,f1,.slice a1 n1 m1,f2,.slice a2 n2 m2,ii⟩ : Vv).cells.toList _ hrs Tryz.underlying47 rfl infoValN ?_)
        | (refine wpList_store_mid rfl 47 (.tmp 42) (.tmp 41) rfl (B + 2) (k * 6) (⟨3,f1,.slice a1 n1 m1,f2,.slice a2 n2 m2,ii⟩ : Vv).cells rfl rfl hth infoValN hal ?_; rw [HW9.out]))
       clear hrs hth hal
       have q0:=HQ0.out.kept HG9.out (by simp)
       have q1:=HQ1.out.kept HG9.out (by simp)
       have bw:=HBW.out.trans (below_of_grownBy (K:=B) HG9.out (by omega) (by omega))
       have hcs2 : ∀ i,i < 12 -> ∀ j,j < 6 -> cs'[i * 6 + j]? = some ((if i < k + 1 then (fun i => if i = k then (⟨3,f1,.slice a1 n1 m1,f2,.slice a2 n2 m2,ii⟩ : Vv) else g i) i else vv0).cell j):=fun i hi j hj => by
        have h1:=HCS.out (i * 6 + j) (by rw [hsz]; omega)
        rw [h1]
        by_cases e : i = k
        ·subst e
         rw [if_pos ⟨by omega,by show i * 6 + j < i * 6 + 6; omega⟩,show i * 6 + j - i * 6 = j by omega,if_pos (by omega)]
         simp only [if_true]
         have hj6 : j = 0 \/ j = 1 \/ j = 2 \/ j = 3 \/ j = 4 \/ j = 5:=by omega
         rcases hj6 with rfl | rfl | rfl | rfl | rfl | rfl <;> rfl
        ·rw [if_neg (by show ¬ (k * 6 <= i * 6 + j /\ i * 6 + j < k * 6 + 6); omega),HCC.out i hi j hj]
         by_cases hik : i < k
         ·rw [if_pos hik,if_pos (by omega)]; simp only [e,if_false]
         ·rw [if_neg hik,if_neg (by omega)]
       have hv2 : ∀ i,i < k + 1 -> VlN (B + 3) W9 (valsM l i) ((fun i => if i = k then (⟨3,f1,.slice a1 n1 m1,f2,.slice a2 n2 m2,ii⟩ : Vv) else g i) i):=fun i hi => by
        by_cases e : i = k
        ·subst e
         simp only [if_true]
         exact HV.out.move (NewW.put HG9.out (by omega))
        ·simp only [e,if_false]
         exact (HG.out i (by omega)).move (NWW.out.puts HG9.out (.inl (by omega)))
       have HCS2:=Lib.hid hcs2
       have HV2:=Lib.hid hv2
       clear hcs2 hv2
       go_wp2_with fail
       exact ⟨⟨k + 1,_,cs',by omega,by go_num,HQ'.out,by omega,HCS2,HV2,q0,q1,bw,by omega⟩,by simp [intOf]; omega⟩
      ·have hp2 : ((y : Int) % 2 == 1) = true:=by simp; omega
       have hfr : Calls Tryz.prog 83 #[.int .i64 (2 * (m : Int) + 1),.int .i64 2] W6 fun e w' => ∃ u v,e = .returned (Fv u v) /\ (∃ a c,u = .slice a 1 c) /\ (∃ a c,v = .slice a 1 c) /\ Lm w'.heap.size w' u [2 * m + 1] /\ Lm w'.heap.size w' v [2] /\ Below W6.heap.size W6 w' /\ NewV W6.heap.size u /\ NewV W6.heap.size v:=kfracJ_any (2 * m + 1) (by omega) (by omega) W6
       go_wp2_with fail
       refine hfr.mono ?_
       rintro e w7 ⟨u,v,rfl,⟨au,cu,rfl⟩,⟨av,cv,rfl⟩,hlu,hlv,hb7,hnu,hnv⟩
       have hs7:=hb7.size
       clear hfr
       have qs7:=qs.below hb7 (by omega)
       have g1:=qs7.free 1
       have g2:=qs7.free 2
       have g3:=qs7.free 3
       have g4:=qs7.free 4
       obtain ⟨c0,c1,c2,c3,c4,c5⟩:=qs7.six
       go_upto_region 14 with fail
       obtain ⟨W8,hW8⟩ : ∃ W8,((((w7.setCell ⟨S,1,none⟩ (.bool false)).setCell ⟨S,2,none⟩ (.slice au 1 cu)).setCell ⟨S,3,none⟩ (.bool false)).setCell ⟨S,4,none⟩ (.slice av 1 cv)) = W8:=⟨_,rfl⟩
       rw [hW8]
       have hg8 : w7.grownBy W8 (some S):=by rw [<- hW8]; exact grownBy_then (grownBy_then (grownBy_then (grownBy_setCell _ _ _ _) (grownBy_setCell _ _ _ _)) (grownBy_setCell _ _ _ _)) (grownBy_setCell _ _ _ _)
       have hs8 : W8.heap.size = w7.heap.size:=by rw [<- hW8]; simp [World.setCell]
       have HSB : Hid (Blk W8 S (⟨3,false,.slice au 1 cu,false,.slice av 1 cv,ii⟩ : Vv).cells 47):=Lib.hid (by
        rw [hk2] at qs7
        rw [<- hW8]
        exact (((qs7.set (i:=1) (.bool false)).set (i:=2) (.slice au 1 cu)).set (i:=3) (.bool false)).set (i:=4) (.slice av 1 cv))
       have HQ2:=Lib.hid ((HQ2'.out.below hb7 (by omega)).kept hg8 (by simp; omega))
       have HQ0:=Lib.hid ((HQ0'.out.below hb7 (by omega)).kept hg8 (by simp; omega))
       have HQ1:=Lib.hid ((HQ1'.out.below hb7 (by omega)).kept hg8 (by simp; omega))
       have NWW:=Lib.hid ((NW6.out.trans (NewW.of hb7)).puts hg8 (.inr hSo))
       have HBW:=Lib.hid ((HBW'.out.trans (hb7.mono (by omega))).trans (below_of_grownBy (K:=B) hg8 (by omega) (by omega)))
       have HV : Hid (VlN (B + 3) W8 (valsM l k) (⟨3,false,.slice au 1 cu,false,.slice av 1 cv,ii⟩ : Vv)):=Lib.hid fun W hw => by
        have h:=HVL.out.now.i
        rw [hk2] at h
        have nw : NewW W6.heap.size w7 W:=(NewW.put hg8 (by omega)).trans (hw.mono (by omega))
        rw [HVM.out]
        unfold valM
        rw [if_neg hk1,if_pos ⟨by omega,hpp⟩,HM.out]
        exact ⟨hk2.symm,rfl,rfl,h,lm_newW hlu hnu nw (Nat.le_refl _),lm_newW hlv hnv nw (Nat.le_refl _)⟩
       have sw8 : B + 3 <= W8.heap.size:=by omega
       have sSb : S < W8.heap.size:=by omega
       clear hW8 hg8 hs8 HQ2' HQ0' HQ1' HBW' HVL n0' c0 c1 c2 c3 c4 c5 qs qs7 n0 hmi g1 g2 g3 g4 hlu hlv hnu hnv hb7
       have hrs:=HSB.out.range
       obtain ⟨cs',hq',hsz',hcs'⟩:=blk_setCells (⟨3,false,.slice au 1 cu,false,.slice av 1 cv,ii⟩ : Vv).cells.toList (k * 6) W8 cs HQ2.out (by rw [hsz]; show k * 6 + 6 <= 72; omega)
       have hth : W8.there (B + 2) (k * 6) (⟨3,false,.slice au 1 cu,false,.slice av 1 cv,ii⟩ : Vv).cells.size:=blk_there HQ2.out (by rw [hsz]; show k * 6 + 6 <= 72; omega)
       have hal : (⟨3,false,.slice au 1 cu,false,.slice av 1 cv,ii⟩ : Vv).cells.all (·.oneCell') = true:=Array.all_eq_true_iff_forall_mem.2 (by simp [Value.oneCell'])
       have hg9:=grown_setCells (⟨3,false,.slice au 1 cu,false,.slice av 1 cv,ii⟩ : Vv).cells.toList (k * 6) W8 (B + 2)
       have hs9:=size_setCellsG (⟨3,false,.slice au 1 cu,false,.slice av 1 cv,ii⟩ : Vv).cells.toList (k * 6) W8 (B + 2)
       obtain ⟨W9,hW9⟩ : ∃ W9,W8.setCells (B + 2) (k * 6) (⟨3,false,.slice au 1 cu,false,.slice av 1 cv,ii⟩ : Vv).cells.toList = W9:=⟨_,rfl⟩
       rw [hW9] at hq' hg9 hs9
       have HW9:=Lib.hid hW9
       have HQ':=Lib.hid hq'
       have HCS:=Lib.hid hcs'
       have HG9:=Lib.hid hg9
       clear hW9 hq' hcs' hg9
       go_upto_region 15 with (first
        | (refine wpList_load_mid rfl 47 (.tmp 6) rfl S 0 rfl (⟨3,false,.slice au 1 cu,false,.slice av 1 cv,ii⟩ : Vv).cells.toList _ hrs Tryz.underlying47 rfl infoValN ?_)
        | (refine wpList_store_mid rfl 47 (.tmp 42) (.tmp 41) rfl (B + 2) (k * 6) (⟨3,false,.slice au 1 cu,false,.slice av 1 cv,ii⟩ : Vv).cells rfl rfl hth infoValN hal ?_; rw [HW9.out]))
       clear hrs hth hal
       have q0:=HQ0.out.kept HG9.out (by simp)
       have q1:=HQ1.out.kept HG9.out (by simp)
       have bw:=HBW.out.trans (below_of_grownBy (K:=B) HG9.out (by omega) (by omega))
       have hcs2 : ∀ i,i < 12 -> ∀ j,j < 6 -> cs'[i * 6 + j]? = some ((if i < k + 1 then (fun i => if i = k then (⟨3,false,.slice au 1 cu,false,.slice av 1 cv,ii⟩ : Vv) else g i) i else vv0).cell j):=fun i hi j hj => by
        have h1:=HCS.out (i * 6 + j) (by rw [hsz]; omega)
        rw [h1]
        by_cases e : i = k
        ·subst e
         rw [if_pos ⟨by omega,by show i * 6 + j < i * 6 + 6; omega⟩,show i * 6 + j - i * 6 = j by omega,if_pos (by omega)]
         simp only [if_true]
         have hj6 : j = 0 \/ j = 1 \/ j = 2 \/ j = 3 \/ j = 4 \/ j = 5:=by omega
         rcases hj6 with rfl | rfl | rfl | rfl | rfl | rfl <;> rfl
        ·rw [if_neg (by show ¬ (k * 6 <= i * 6 + j /\ i * 6 + j < k * 6 + 6); omega),HCC.out i hi j hj]
         by_cases hik : i < k
         ·rw [if_pos hik,if_pos (by omega)]; simp only [e,if_false]
         ·rw [if_neg hik,if_neg (by omega)]
       have hv2 : ∀ i,i < k + 1 -> VlN (B + 3) W9 (valsM l i) ((fun i => if i = k then (⟨3,false,.slice au 1 cu,false,.slice av 1 cv,ii⟩ : Vv) else g i) i):=fun i hi => by
        by_cases e : i = k
        ·subst e
         simp only [if_true]
         exact HV.out.move (NewW.put HG9.out (by omega))
        ·simp only [e,if_false]
         exact (HG.out i (by omega)).move (NWW.out.puts HG9.out (.inl (by omega)))
       have HCS2:=Lib.hid hcs2
       have HV2:=Lib.hid hv2
       clear hcs2 hv2
       go_wp2_with fail
       exact ⟨⟨k + 1,_,cs',by omega,by go_num,HQ'.out,by omega,HCS2,HV2,q0,q1,bw,by omega⟩,by simp [intOf]; omega⟩
     ·have e2 : (kindN k == 2) = false:=by simpa using hk2
      have e3 : (kindN k == 3) = false:=by simpa using hk3
      go_upto_region 14 with fail
      have HSB : Hid (Blk W6 S (⟨kindN k,f1,.slice a1 n1 m1,f2,.slice a2 n2 m2,ii⟩ : Vv).cells 47):=Lib.hid (by exact qs)
      have HQ2:=HQ2'
      have HQ0:=HQ0'
      have HQ1:=HQ1'
      have NWW:=NW6
      have HBW:=HBW'
      have sSb : S < W6.heap.size:=by omega
      have HV : Hid (VlN (B + 3) W6 (valsM l k) (⟨kindN k,f1,.slice a1 n1 m1,f2,.slice a2 n2 m2,ii⟩ : Vv)):=Lib.hid (by
       have h:=HVL.out.mono sw4
       rw [HVM.out]
       unfold valM
       rw [if_neg hk1,if_neg (fun h => by have := h.1; omega),HM.out]
       exact h)
      clear HQ2' HQ0' HQ1' HBW' HVL n0' c0 c1 c2 c3 c4 c5 qs n0 hmi
      have hrs:=HSB.out.range
      obtain ⟨cs',hq',hsz',hcs'⟩:=blk_setCells (⟨kindN k,f1,.slice a1 n1 m1,f2,.slice a2 n2 m2,ii⟩ : Vv).cells.toList (k * 6) W6 cs HQ2.out (by rw [hsz]; show k * 6 + 6 <= 72; omega)
      have hth : W6.there (B + 2) (k * 6) (⟨kindN k,f1,.slice a1 n1 m1,f2,.slice a2 n2 m2,ii⟩ : Vv).cells.size:=blk_there HQ2.out (by rw [hsz]; show k * 6 + 6 <= 72; omega)
      have hal : (⟨kindN k,f1,.slice a1 n1 m1,f2,.slice a2 n2 m2,ii⟩ : Vv).cells.all (·.oneCell') = true:=Array.all_eq_true_iff_forall_mem.2 (by simp [Value.oneCell'])
      have hg9:=grown_setCells (⟨kindN k,f1,.slice a1 n1 m1,f2,.slice a2 n2 m2,ii⟩ : Vv).cells.toList (k * 6) W6 (B + 2)
      have hs9:=size_setCellsG (⟨kindN k,f1,.slice a1 n1 m1,f2,.slice a2 n2 m2,ii⟩ : Vv).cells.toList (k * 6) W6 (B + 2)
      obtain ⟨W9,hW9⟩ : ∃ W9,W6.setCells (B + 2) (k * 6) (⟨kindN k,f1,.slice a1 n1 m1,f2,.slice a2 n2 m2,ii⟩ : Vv).cells.toList = W9:=⟨_,rfl⟩
      rw [hW9] at hq' hg9 hs9
      have HW9:=Lib.hid hW9
      have HQ':=Lib.hid hq'
      have HCS:=Lib.hid hcs'
      have HG9:=Lib.hid hg9
      clear hW9 hq' hcs' hg9
      go_upto_region 15 with (first
       | (refine wpList_load_mid rfl 47 (.tmp 6) rfl S 0 rfl (⟨kindN k,f1,.slice a1 n1 m1,f2,.slice a2 n2 m2,ii⟩ : Vv).cells.toList _ hrs Tryz.underlying47 rfl infoValN ?_)
       | (refine wpList_store_mid rfl 47 (.tmp 42) (.tmp 41) rfl (B + 2) (k * 6) (⟨kindN k,f1,.slice a1 n1 m1,f2,.slice a2 n2 m2,ii⟩ : Vv).cells rfl rfl hth infoValN hal ?_; rw [HW9.out]))
      clear hrs hth hal
      have q0:=HQ0.out.kept HG9.out (by simp)
      have q1:=HQ1.out.kept HG9.out (by simp)
      have bw:=HBW.out.trans (below_of_grownBy (K:=B) HG9.out (by omega) (by omega))
      have hcs2 : ∀ i,i < 12 -> ∀ j,j < 6 -> cs'[i * 6 + j]? = some ((if i < k + 1 then (fun i => if i = k then (⟨kindN k,f1,.slice a1 n1 m1,f2,.slice a2 n2 m2,ii⟩ : Vv) else g i) i else vv0).cell j):=fun i hi j hj => by
       have h1:=HCS.out (i * 6 + j) (by rw [hsz]; omega)
       rw [h1]
       by_cases e : i = k
       ·subst e
        rw [if_pos ⟨by omega,by show i * 6 + j < i * 6 + 6; omega⟩,show i * 6 + j - i * 6 = j by omega,if_pos (by omega)]
        simp only [if_true]
        have hj6 : j = 0 \/ j = 1 \/ j = 2 \/ j = 3 \/ j = 4 \/ j = 5:=by omega
        rcases hj6 with rfl | rfl | rfl | rfl | rfl | rfl <;> rfl
       ·rw [if_neg (by show ¬ (k * 6 <= i * 6 + j /\ i * 6 + j < k * 6 + 6); omega),HCC.out i hi j hj]
        by_cases hik : i < k
        ·rw [if_pos hik,if_pos (by omega)]; simp only [e,if_false]
        ·rw [if_neg hik,if_neg (by omega)]
      have hv2 : ∀ i,i < k + 1 -> VlN (B + 3) W9 (valsM l i) ((fun i => if i = k then (⟨kindN k,f1,.slice a1 n1 m1,f2,.slice a2 n2 m2,ii⟩ : Vv) else g i) i):=fun i hi => by
       by_cases e : i = k
       ·subst e
        simp only [if_true]
        exact HV.out.move (NewW.put HG9.out (by omega))
       ·simp only [e,if_false]
        exact (HG.out i (by omega)).move (NWW.out.puts HG9.out (.inl (by omega)))
      have HCS2:=Lib.hid hcs2
      have HV2:=Lib.hid hv2
      clear hcs2 hv2
      go_wp2_with fail
      exact ⟨⟨k + 1,_,cs',by omega,by go_num,HQ'.out,by omega,HCS2,HV2,q0,q1,bw,by omega⟩,by simp [intOf]; omega⟩
  ·obtain rfl : k = 12:=by omega
   have hce:=cells72_of (g:=g) hq2 hsz (fun i hi j hj => by have := hcc.out i hi j hj; rwa [if_pos hi] at this)
   subst hce
   have hrg:=hq2.range
   have hi1 : (Tryz.prog.info? 86).map (fun i => i.size) = some (cells72 g).toArray.size:=by rw [infoV12]; simp [cells72_len]
   have hi2 : (Tryz.prog.info? 86).map (fun i => i.size) = some (cells72 g).toArray.toList.length:=by rw [infoV12]; simp [cells72_len]
   have hzs : z72.size = (cells72 g).toArray.size:=by simp [z72,cells72_len]
   have h1c : ∀ v ∈ (cells72 g).toArray,v.oneCell' = true:=fun v hv => by
    rw [List.mem_toArray] at hv
    unfold cells72 at hv
    obtain ⟨j,hj,rfl⟩:=List.mem_map.1 hv
    have hj:=List.mem_range.1 hj
    have h:=(hgv.out (j / 6) (by omega)).now
    obtain ⟨a1,m1,e1,_⟩:=h.n.form
    obtain ⟨a2,m2,e2,_⟩:=h.d.form
    exact vv_cell_one _ (by rw [e1]; rfl) (by rw [e2]; rfl) _
   have HG:=hgv
   have HBW:=Lib.hid hbw
   clear hgv hbw hcc
   go_wp2_with (first
    | (refine wpList_load_mid rfl 86 (.tmp 3) rfl (B + 2) 0 rfl (cells72 g).toArray.toList _ hrg Tryz.underlying86 rfl hi2 ?_)
    | (refine wpList_store_blk rfl 86 86 (.tmp 2) (.tmp 44) rfl (cells72 g).toArray z72 (B + 1) hq1 hi1 hzs h1c rfl rfl ?_; intro W5 t1 t2 t3 t4))
   refine bodyPost_ret (results_blk rfl _ _ (B + 1) _ _ t1 rfl Tryz.underlying86 rfl hi1) rfl ?_
   exact ⟨g,rfl,fun k hk => ((HG.out k hk).move (NewW.put t3 (by omega))).mono (by omega),HBW.out.trans (t2 B (by omega))⟩
structure WQ (P : Program) (ops : Array Oper) (C : World -> Prop) (Q : Act -> Prop) (l : List Oper) (a : Act) : Prop where
 out : wpQuiet P ops C Q l a
theorem WQ.take {P : Program} {ops : Array Oper} {C : World -> Prop} {Q : Act -> Prop} {o : Oper} {rest : List Oper} {a : Act} (v : Value) (hy : YieldsIn P ops C o v a) (h : WQ P ops C Q rest (a.put o.dst v)) : WQ P ops C Q (o :: rest) a:=by
 refine ⟨wpQuiet_step (fun K hK => ?_)⟩
 rcases hy with ⟨hw,hv⟩ | ⟨hw,rfl⟩
 ·rw [if_pos hw]; exact ⟨v,hv,hK _ h.out⟩
 ·rw [if_neg (by rw [hw]; simp)]; exact hK _ h.out
theorem WQ.nil {P : Program} {ops : Array Oper} {C : World -> Prop} {Q : Act -> Prop} {a : Act} (h : Q a) : WQ P ops C Q [] a:=⟨wpQuiet_nil h⟩
theorem region_WQ {P : Program} {ops : Array Oper} {id : Nat} {Q : Exit -> Act -> World -> Prop} {a : Act} {w : World} (C : World -> Prop) (hm : P.follows .mixedOrders = true) (hB : Region.lexB .any ops = true) (hC : C { w with drawn:=w.drawn + 1 })
  (h : WQ P ops C (fun a' => ∀ w',C w' -> Q .normal a' w') ops.toList a) : (Code.region id ops true).wp P Q a w:=wp_region_quiet hm hB hC h.out
theorem yieldsIn_of_if {P : Program} {ops : Array Oper} {C : World -> Prop} {o : Oper} {v : Value} {a : Act} (h : YieldsIf P ops C o v a) : YieldsIn P ops C o v a :=
 h.imp (fun ⟨hw,hv⟩ => ⟨hw,fun w hC => by unfold Oper.quietAt; rw [hv w hC]; first | exact ⟨rfl,rfl⟩ | exact ⟨rfl,hC⟩⟩) id
end Go.Proofs.YtlidpghnlloinaaGreatDoor
