/- Contracts and plain laws, several texts in one (GSized, GOkS, NLimb). No conditions beyond those stated. -/
import Derived.Test.YtlldjmagbjjeoaaGreatPk22
set_option maxRecDepth 100000
set_option maxHeartbeats 40000000
namespace Go.Proofs.YtlldjmagbjjeoaaGreat
open Go.RowKit
set_option linter.unusedVariables false
theorem depthG_args (e : Gx) : e.depth = depthL e.args + 1:=by cases e; rw [Gx.depth]; rfl
theorem depthG_arg {es : List Gx} {e : Gx} (h : e ∈ es) : e.depth <= depthL es:=by
 induction es with
 | nil => cases h
 | cons x r ih =>
  rw [depthL]
  rcases List.mem_cons.1 h with rfl | h
  ·omega
  ·have := ih h; omega
theorem depthL_le {es : List Gx} {n : Nat} (h : ∀ e ∈ es,e.depth <= n) : depthL es <= n:=by
 induction es with
 | nil => simp [depthL]
 | cons x r ih =>
  rw [depthL]
  have h1:=h x (by simp)
  have h2:=ih fun e he => h e (List.mem_cons_of_mem _ he)
  omega
theorem partsL_append (a b : List Gx) : partsL (a ++ b) = partsL a + partsL b:=by
 induction a with
 | nil => simp [partsL]
 | cons x r ih => rw [List.cons_append,partsL,partsL,ih]; omega
theorem partsL_take (es : List Gx) (k : Nat) (e : Gx) (h : es[k]? = some e) : partsL (es.take (k + 1)) = partsL (es.take k) + e.parts:=by
 have hk:=(List.getElem?_eq_some_iff.1 h).1
 have : es[k] = e:=by rw [List.getElem?_eq_getElem hk] at h; exact Option.some.inj h
 rw [List.take_succ_eq_append_getElem hk,partsL_append,this]; simp [partsL]
theorem partsL_take_le (es : List Gx) (k : Nat) : partsL (es.take k) <= partsL es:=by
 conv => rhs; rw [<- List.take_append_drop k es,partsL_append]
 omega
def fitsAt (p d : Nat) (e : Gx) : Bool:=decide (p + e.parts <= 200) && decide (d + e.depth <= 25)
structure SzPost (bp p d : Nat) (e : Gx) (W : World) (en : Ending) (W' : World) : Prop where
 en : en = .returned (.bool (fitsAt p d e))
 gr : W.grownBy W' (some bp)
 ct : fitsAt p d e = true -> Blk W' bp #[Z (p + e.parts)] 3
theorem wpList_store_val {ops : Array Oper} {rest : List Oper} {o : Oper} {a : Act} {w : World} {Q : Exit -> Act -> World -> Prop} (hgd : o.guard = none) (ty t : TypeId) (x y : Operand) (ho : o.op = .store ty x y) (v old : Value) (g : Nat)
  (hq : Blk w g #[old] t) (hi : (Tryz.prog.info? ty).map (fun i => i.size) = some 1) (h1 : v.oneCell' = true) (hx : a.eval x = .pointer (some ⟨g,0,none⟩)) (hy : a.eval y = v)
  (h : ∀ W',Blk W' g #[v] t -> (∀ B,B <= g -> Below B w W') -> w.grownBy W' (some g) -> W'.heap.size = w.heap.size -> wpList Tryz.prog ops Q rest (a.put o.dst undef) W') : wpList Tryz.prog ops Q (o :: rest) a w:=by
 subst hy
 refine wpList_store_one hgd ty x y ho g hx h1 t old hq hi ?_
 have hs : (w.setRow g #[a.eval y]).heap.size = w.heap.size:=by simp [World.setRow]
 exact h _ (setRow_heap w g #[old] #[a.eval y] t _ hq) (fun B hB => ⟨rfl,rfl,rfl,Nat.le_of_eq hs.symm,fun k hk => setRow_other w g k _ (by omega)⟩) ⟨rfl,rfl,rfl,Nat.le_of_eq hs.symm,fun k _ hk => setRow_other w g k _ (fun e => hk (by rw [e]))⟩ hs
theorem grownBy_then {w w' w'' : World} {r : Option Nat} (h : w.grownBy w' r) (h' : w'.grownBy w'' r) : w.grownBy w'' r :=
 ⟨h'.os.trans h.os,h'.tape.trans h.tape,h'.output.trans h.output,Nat.le_trans h.size h'.size,fun k hk hr => (h'.block k (Nat.lt_of_lt_of_le hk h.size) hr).trans (h.block k hk hr)⟩
theorem grownBy_to {w w' : World} {r : Option Nat} (h : w.grownBy w' none) : w.grownBy w' r:=⟨h.os,h.tape,h.output,h.size,fun k hk _ => h.block k hk (by simp)⟩
theorem below_of_grownBy {w w' : World} {K bp : Nat} (h : w.grownBy w' (some bp)) (hK : K <= w.heap.size) (hb : K <= bp) : Below K w w':=⟨h.os,h.tape,h.output,h.size,fun k hk => h.block k (by omega) (fun e => by simp at e; omega)⟩
abbrev szF (bp bf : Nat) : Value:=.func (.func 55) #[] #[.pointer (some ⟨bp,0,none⟩),.pointer (some ⟨bf,0,none⟩)]
theorem sizedF_at (K bp bf tf : Nat) (m : Nat) : ∀ (e : Gx),e.parts <= m -> ∀ (p d : Nat) (x : Xv) (W : World),ExG K W e x -> K <= bp -> bp < bf -> p <= 200 -> d <= 25 -> Blk W bp #[Z p] 3 -> Blk W bf #[szF bp bf] tf →
   Calls Tryz.prog 55 #[x.agg,.int .i64 d,.pointer (some ⟨bp,0,none⟩),.pointer (some ⟨bf,0,none⟩)] W (SzPost bp p d e W):=by
 induction m with
 | zero => intro e hm; cases e; rw [partsG_mk] at hm; omega
 | succ m ih =>
  intro e hm p d x W h hK hbf hp hd qp qf
  have hlt1:=qp.lt
  have hlt2:=qf.lt
  obtain ⟨_,_,_,_,g,hg,hgs⟩:=h.open
  obtain ⟨va,vcap,h8,hvl,hvm⟩:=hg.form
  obtain ⟨xop,xnm,kd,b3,⟨a4,n4,m4⟩,b5,⟨a6,n6,m6⟩,i7,⟨a8,n8,m8⟩⟩:=x
  simp only [Sl.val,Value.slice.injEq] at h8
  obtain ⟨rfl,rfl,rfl⟩:=h8
  have HGS : Hid (∀ (k : Nat) (a : Gx),e.args[k]? = some a -> ExG K W a (g k) /\ a.parts <= m):=Lib.hid fun k a ha => ⟨hgs k a ha,by
   have h1:=partsG_arg (List.mem_of_getElem? ha)
   rw [partsG_args] at hm; omega⟩
  have HGG:=Lib.hid hg
  have HIH:=Lib.hid ih
  have hpe:=partsG_args e
  have hde:=depthG_args e
  have HP : Hid (∀ r W',fitsAt p d e = r -> W.grownBy W' (some bp) -> (r = true -> Blk W' bp #[Z (p + e.parts)] 3) -> SzPost bp p d e W (.returned (.bool r)) W'):=Lib.hid fun r W' h1 h2 h3 => ⟨by rw [h1],h2,fun h => h3 (by rw [<- h1]; exact h)⟩
  have HPE:=Lib.hid hpe
  have HDE:=Lib.hid hde
  have c0 : W.cell? ⟨bp,0,none⟩ = some (.int .i64 (p : Int)):=qp.one.1
  have fr0:=qp.one.2
  have hZ : Z (p + 1) = .int .i64 ((p : Int) + 1):=by simp [Z]
  have hbW : bp < W.heap.size:=qp.lt
  have hgr1 : W.grownBy ((W.setCell ⟨bp,0,none⟩ (Z (p + 1))).alloc (.cells (⟨xop,xnm,kd,b3,⟨a4,n4,m4⟩,b5,⟨a6,n6,m6⟩,i7,⟨a8,e.args.length,m8⟩⟩ : Xv).cells 31)) (some bp):=grownBy_then (grownBy_setCell _ _ _ _) (World.grownBy_alloc _ _ _)
  have qp1 : Blk ((W.setCell ⟨bp,0,none⟩ (Z (p + 1))).alloc (.cells (⟨xop,xnm,kd,b3,⟨a4,n4,m4⟩,b5,⟨a6,n6,m6⟩,i7,⟨a8,e.args.length,m8⟩⟩ : Xv).cells 31)) bp #[Z (p + 1)] 3:=(qp.set (Z (p + 1))).alloc _
  have qf1 : Blk ((W.setCell ⟨bp,0,none⟩ (Z (p + 1))).alloc (.cells (⟨xop,xnm,kd,b3,⟨a4,n4,m4⟩,b5,⟨a6,n6,m6⟩,i7,⟨a8,e.args.length,m8⟩⟩ : Xv).cells 31)) bf #[szF bp bf] tf:=(qf.other (by omega) _).alloc _
  have qx1 : Blk ((W.setCell ⟨bp,0,none⟩ (Z (p + 1))).alloc (.cells (⟨xop,xnm,kd,b3,⟨a4,n4,m4⟩,b5,⟨a6,n6,m6⟩,i7,⟨a8,e.args.length,m8⟩⟩ : Xv).cells 31)) W.heap.size (⟨xop,xnm,kd,b3,⟨a4,n4,m4⟩,b5,⟨a6,n6,m6⟩,i7,⟨a8,e.args.length,m8⟩⟩ : Xv).cells 31:=by
   have := Blk.new (W.setCell ⟨bp,0,none⟩ (Z (p + 1))) (⟨xop,xnm,kd,b3,⟨a4,n4,m4⟩,b5,⟨a6,n6,m6⟩,i7,⟨a8,e.args.length,m8⟩⟩ : Xv).cells 31
   rwa [show (W.setCell ⟨bp,0,none⟩ (Z (p + 1))).heap.size = W.heap.size by simp [World.setCell]] at this
  obtain ⟨W1,hW1⟩ : ∃ W1,(W.setCell ⟨bp,0,none⟩ (Z (p + 1))).alloc (.cells (⟨xop,xnm,kd,b3,⟨a4,n4,m4⟩,b5,⟨a6,n6,m6⟩,i7,⟨a8,e.args.length,m8⟩⟩ : Xv).cells 31) = W1:=⟨_,rfl⟩
  rw [hW1] at hgr1 qp1 qf1 qx1
  rw [hZ] at hW1
  dsimp only [Xv.cells] at hW1
  have HW1:=Lib.hid hW1
  have hpn : ((p : Int) + 1) = ((p + 1 : Nat) : Int):=by omega
  unfold maxLen at hvm
  clear h hgs hg ih hpe hde hm hW1 hpn hZ
  go_enter Tryz.func55,Tryz.ntmps55
  go_upto_region 2 with fail
  rw [HW1.out]
  clear c0 fr0
  have c1 : W1.cell? ⟨bp,0,none⟩ = some (.int .i64 ((p + 1 : Nat) : Int)):=qp1.one.1
  obtain ⟨q,hq⟩ : ∃ q,p + 1 = q:=⟨_,rfl⟩
  rw [hq] at c1 qp1
  have HQ:=Lib.hid hq
  by_cases h200 : 200 < q
  ·have hf : fitsAt p d e = false:=by unfold fitsAt; have := partsG_args e; simp; omega
   have hx:=HP.out false W1 hf hgr1 (fun h => by cases h)
   have ht : decide ((200 : Int) < (q : Int)) = true:=by simp; omega
   clear hf hq h200
   go_wp2_with fail
   go_ret
   exact hx
  ·have ht : decide ((200 : Int) < (q : Int)) = false:=by simp; omega
   by_cases h24 : 24 < d
   ·have hf : fitsAt p d e = false:=by unfold fitsAt; have := HDE.out; simp; omega
    have hx:=HP.out false W1 hf hgr1 (fun h => by cases h)
    have ht2 : decide ((24 : Int) < (d : Int)) = true:=by simp; omega
    clear hf hq h200 h24
    go_wp2_with fail
    go_ret
    exact hx
   ·have ht2 : decide ((24 : Int) < (d : Int)) = false:=by simp; omega
    have HQL : Hid (q <= 200):=Lib.hid (by omega)
    clear hq h200
    obtain ⟨d0,d1,d2,d3,d4,d5,d6,d7,d8⟩:=qx1.nine
    go_wp2_with fail
    clear d0 d1 d2 d3 d4 d5 d6 d7 d8 c1
    go_loopw [20] (fun i wr => ∃ (k : Nat),k <= e.args.length /\ i = .int .i64 k /\ Blk wr bp #[Z (q + partsL (e.args.take k))] 3 /\ Blk wr bf #[szF bp bf] tf /\ W.grownBy wr (some bp) /\ q + partsL (e.args.take k) <= 200 /\ Hid (∀ (j : Nat) (a : Gx),j < k -> e.args[j]? = some a -> d + 1 + a.depth <= 25)) (fun i _ => e.args.length - (intOf i).toNat)
    case atStart => exact ⟨0,Nat.zero_le _,rfl,by simpa [partsL] using qp1,qf1,hgr1,by have := HQL.out; simp [partsL]; omega,Lib.hid fun j a hj => absurd hj (Nat.not_lt_zero j)⟩
    case round =>
     obtain ⟨k,hk,rfl,rp,rf,hgr,hct,HD⟩:=hrel
     by_cases hlt : k < e.args.length
     ·obtain ⟨b,o,cap,he,_,hcm,hbK,hc⟩:=HGG.out.pos (by omega)
      simp only [Sl.val,Value.slice.injEq,true_and] at he
      obtain ⟨rfl,rfl⟩:=he
      have hbr : Below K W wr:=below_of_grownBy hgr (by omega) hK
      obtain ⟨k0,k1,k2,k3,k4,k5,k6,k7,k8⟩:=ex_cells (cells_below hbr hbK hc) hlt
      obtain ⟨ek,hek⟩ : ∃ ek,e.args[k]? = some ek:=⟨_,List.getElem?_eq_getElem hlt⟩
      obtain ⟨hqe,hpm⟩:=HGS.out k ek hek
      obtain ⟨y,hy⟩ : ∃ y,g k = y:=⟨_,rfl⟩
      rw [hy] at hqe k0 k1 k2 k3 k4 k5 k6 k7 k8
      have hsr:=hgr.size
      obtain ⟨c,hcq⟩ : ∃ c,q + partsL (e.args.take k) = c:=⟨_,rfl⟩
      rw [hcq] at rp hct
      have hcall:=HIH.out ek hpm c (d + 1) y (wr.alloc (.cells y.cells 31)) (hqe.below (hbr.alloc (by omega) _) (Nat.le_refl _) (Nat.le_refl _)) hK hbf hct (by omega) (rp.alloc _) (rf.alloc _)
      have hd1 : (((d + 1 : Nat)) : Int) = (d : Int) + 1:=by omega
      rw [hd1] at hcall
      have f0 : wr.cell? ⟨bf,0,none⟩ = some (szF bp bf):=rf.one.1
      have hbfl:=rf.lt
      have HPT : Hid (partsL (e.args.take (k + 1)) = partsL (e.args.take k) + ek.parts):=Lib.hid (partsL_take e.args k ek hek)
      have HPL : Hid (partsL (e.args.take k) + ek.parts <= partsL e.args):=Lib.hid (by rw [<- partsL_take e.args k ek hek]; exact partsL_take_le _ _)
      have HDA : Hid (ek.depth <= depthL e.args):=Lib.hid (depthG_arg (List.mem_of_getElem? hek))
      have HEK:=Lib.hid hek
      have HCQ:=Lib.hid hcq
      clear hek hc hy hqe hpm hd1 hcq
      go_wp2_with fail
      refine hcall.mono ?_
      rintro en W6 ⟨rfl,hg6,hct6⟩
      clear hcall k0 k1 k2 k3 k4 k5 k6 k7 k8 f0
      have hgr6 : W.grownBy W6 (some bp):=grownBy_then (grownBy_then hgr (World.grownBy_alloc wr _ _)) hg6
      have rf6 : Blk W6 bf #[szF bp bf] tf:=(rf.alloc _).kept hg6 (by simp; omega)
      obtain ⟨r,hr⟩ : ∃ r,fitsAt c (d + 1) ek = r:=⟨_,rfl⟩
      rw [hr] at hct6 ⊢
      have HR:=Lib.hid hr
      clear hr
      cases r with
      | false =>
       have hx:=HP.out false W6 (by
        have h1:=HR.out
        unfold fitsAt at h1 ⊢
        have h2:=HPE.out
        have h3:=HDE.out
        have h4:=HPL.out
        have h5:=HDA.out
        have h6:=HCQ.out
        have h7:=HQ.out
        simp at h1 ⊢
        omega) hgr6 (fun h => by cases h)
       clear hct6
       go_wp2_with fail
       go_ret
       exact hx
      | true =>
       have hb6:=hct6 rfl
       have h200' : c + ek.parts <= 200 /\ d + 1 + ek.depth <= 25:=by
        have h1:=HR.out
        unfold fitsAt at h1
        simpa using h1
       have hqk : q + partsL (e.args.take (k + 1)) = c + ek.parts:=by have := HPT.out; have := HCQ.out; omega
       have HDN : Hid (∀ (j : Nat) (a : Gx),j < k + 1 -> e.args[j]? = some a -> d + 1 + a.depth <= 25):=Lib.hid fun j a hj ha => by
        by_cases hjk : j = k
        ·subst hjk
         have h1:=HEK.out
         rw [ha] at h1
         obtain rfl:=Option.some.inj h1
         exact h200'.2
        ·exact HD.out j a (by omega) ha
       have hb7 : Blk W6 bp #[Z (q + partsL (e.args.take (k + 1)))] 3:=by rw [hqk]; exact hb6
       have hle : q + partsL (e.args.take (k + 1)) <= 200:=by rw [hqk]; exact h200'.1
       clear hct6 hb6 h200' hqk
       go_wp2_with fail
       exact ⟨⟨k + 1,by omega,by go_num,hb7,rf6,hgr6,hle,HDN⟩,by simp [intOf]; omega⟩
     ·obtain rfl : k = e.args.length:=by omega
      rw [List.take_length] at rp hct
      have hx:=HP.out true wr (by
       unfold fitsAt
       have h2:=HPE.out
       have h3:=HDE.out
       have h7:=HQ.out
       have h8 : depthL e.args <= 24 - d:=depthL_le fun a ha => by
        obtain ⟨j,hj,rfl⟩:=List.mem_iff_getElem.1 ha
        have := HD.out j _ hj (List.getElem?_eq_getElem hj)
        omega
       simp
       omega) hgr (fun _ => by
        have h2:=HPE.out
        have h7:=HQ.out
        rw [show p + e.parts = q + partsL e.args by omega]; exact rp)
      go_wp2_with fail
      go_ret
      exact hx
theorem sized_any (K : Nat) (e : Gx) (x : Xv) (w : World) (h : ExG K w e x) (hK : K <= w.heap.size) : Calls Tryz.prog 32 #[x.agg] w fun en w' => en = .returned (.bool (fits e)) /\ Below w.heap.size w w':=by
 have hfit : fits e = fitsAt 0 1 e:=by unfold fits fitsAt; congr 1 <;> (rw [Bool.eq_iff_iff]; simp; try omega)
 rw [hfit]
 have HX:=Lib.hid h
 obtain ⟨xop,xnm,kd,b3,⟨a4,n4,m4⟩,b5,⟨a6,n6,m6⟩,i7,⟨a8,n8,m8⟩⟩:=x
 clear h
 go_enter Tryz.func32,Tryz.ntmps32
 have hinf : (Tryz.prog.info? 48).map (fun i => i.size) = some 1:=by kernel_rfl
 go_upto_region 3 with fail
 obtain ⟨W1,hW1⟩ : ∃ W1,((w.alloc (.cells (⟨xop,xnm,kd,b3,⟨a4,n4,m4⟩,b5,⟨a6,n6,m6⟩,i7,⟨a8,n8,m8⟩⟩ : Xv).cells 31)).alloc (.cells #[.int .i64 0] 3)).alloc (.cells #[.nilFunc] 48) = W1:=⟨_,rfl⟩
 rw [hW1]
 have q0 : Blk W1 w.heap.size (⟨xop,xnm,kd,b3,⟨a4,n4,m4⟩,b5,⟨a6,n6,m6⟩,i7,⟨a8,n8,m8⟩⟩ : Xv).cells 31:=by rw [<- hW1]; exact ((Blk.new w _ _).alloc _).alloc _
 have q1 : Blk W1 (w.heap.size + 1) #[Z 0] 3:=by
  rw [<- hW1]
  have := Blk.new (w.alloc (.cells (⟨xop,xnm,kd,b3,⟨a4,n4,m4⟩,b5,⟨a6,n6,m6⟩,i7,⟨a8,n8,m8⟩⟩ : Xv).cells 31)) #[Z 0] 3
  rw [World.size_alloc] at this
  exact this.alloc _
 have q2 : Blk W1 (w.heap.size + 1 + 1) #[.nilFunc] 48:=by
  rw [<- hW1]
  have := Blk.new ((w.alloc (.cells (⟨xop,xnm,kd,b3,⟨a4,n4,m4⟩,b5,⟨a6,n6,m6⟩,i7,⟨a8,n8,m8⟩⟩ : Xv).cells 31)).alloc (.cells #[.int .i64 0] 3)) #[.nilFunc] 48
  rwa [World.size_alloc,World.size_alloc] at this
 have b1 : Below w.heap.size w W1:=by rw [<- hW1]; exact (((Below.refl _ _).alloc (Nat.le_refl _) _).alloc (by simp) _).alloc (by simp; omega) _
 clear hW1
 iterate 4 go_step
 refine wpList_store_val rfl 48 48 (.tmp 4) (.tmp 5) rfl (szF (w.heap.size + 1) (w.heap.size + 1 + 1)) .nilFunc (w.heap.size + 1 + 1) q2 hinf rfl rfl rfl ?_
 intro W2 t1 t2 t3 t4
 have b2 : Below w.heap.size w W2:=b1.trans (t2 _ (by omega))
 have p0:=q0.kept t3 (by simp; omega)
 have p1:=q1.kept t3 (by simp)
 obtain ⟨d0,d1,d2,d3,d4,d5,d6,d7,d8⟩:=p0.nine
 have f0:=t1.one.1
 have hc:=sizedF_at w.heap.size (w.heap.size + 1) (w.heap.size + 1 + 1) 48 e.parts e (Nat.le_refl _) 0 1 _ W2 (HX.out.below b2 hK hK) (by omega) (by omega) (by omega) (by omega) p1 t1
 go_wp2_with fail
 refine hc.mono ?_
 rintro en w3 ⟨rfl,hg3,_⟩
 have hb3 : Below w.heap.size w w3:=b2.trans (below_of_grownBy hg3 b2.size (by omega))
 clear d0 d1 d2 d3 d4 d5 d6 d7 d8 f0 hc
 go_wp2_with fail
 go_ret
 exact ⟨rfl,hb3⟩
theorem vlt_trans {a b c : Vq} (hb : b.ok = true) (hc : c.ok = true) (h1 : vlt a b) (h2 : vlt b c) : vlt a c:=by
 unfold vlt at *
 have pb:=vbot_pos hb
 have pc:=vbot_pos hc
 have na:=vbot_nonneg a
 have e1:=Int.mul_lt_mul_of_pos_right h1 pc
 have e2:=Int.mul_le_mul_of_nonneg_right (Int.le_of_lt h2) na
 refine Int.lt_of_mul_lt_mul_right (a:=b.bot) ?_ (Int.le_of_lt pb)
 calc a.top * c.bot * b.bot = a.top * b.bot * c.bot:=by rw [Int.mul_assoc,Int.mul_comm c.bot,<- Int.mul_assoc]
  _ < b.top * a.bot * c.bot:=e1
  _ = b.top * c.bot * a.bot:=by rw [Int.mul_assoc,Int.mul_comm a.bot,<- Int.mul_assoc]
  _ <= c.top * b.bot * a.bot:=e2
  _ = c.top * a.bot * b.bot:=by rw [Int.mul_assoc,Int.mul_comm b.bot,<- Int.mul_assoc]
theorem vlt_of_not_vle {a b : Vq} (h : vle a b = false) : vlt b a:=by
 unfold vle at h; unfold vlt
 rw [decide_eq_false_iff_not] at h; omega
theorem vlt_of_vle_ne {a b : Vq} (h : vle a b = true) (hn : veq b a = false) : vlt a b:=by
 unfold vle at h; unfold veq at hn; unfold vlt
 rw [decide_eq_true_eq] at h
 rw [decide_eq_false_iff_not] at hn; omega
theorem srch_spec (l : List Vq) (v : Vq) : (∀ i,i < srch l v -> vle v (l[i]?.getD v0) = false) /\ (srch l v < l.length -> vle v (l[srch l v]?.getD v0) = true):=by
 unfold srch
 constructor
 ·intro i hi
  have hl : i < l.length:=Nat.lt_of_lt_of_le hi List.findIdx_le_length
  rw [List.getElem?_eq_getElem hl]
  have := List.not_of_lt_findIdx hi
  simpa using this
 ·intro h
  rw [List.getElem?_eq_getElem h]
  exact List.findIdx_getElem (w:=h)
theorem CutsOk.ins {kd : Int} {l : List Vq} {v : Vq} (h : CutsOk kd l) (hg : v.good = true) (ho : v.ok = true) (hk : v.kd = kd) (hf : fnd l v = false) : CutsOk kd (l.take (srch l v) ++ v :: l.drop (srch l v)):=by
 have hmem : ∀ c ∈ l.take (srch l v) ++ v :: l.drop (srch l v),c = v \/ c ∈ l:=fun c hc => by
  rcases List.mem_append.1 hc with hc | hc
  ·exact .inr (List.mem_of_mem_take hc)
  ·rcases List.mem_cons.1 hc with hc | hc
   ·exact .inl hc
   ·exact .inr (List.mem_of_mem_drop hc)
 obtain ⟨s1,s2⟩:=srch_spec l v
 have hbef : ∀ a ∈ l.take (srch l v),vlt a v:=fun a ha => by
  obtain ⟨i,hi,rfl⟩:=List.mem_iff_getElem.1 ha
  rw [List.length_take] at hi
  have h1:=s1 i (by omega)
  rw [List.getElem?_eq_getElem (by omega),Option.getD_some] at h1
  rw [List.getElem_take]
  exact vlt_of_not_vle h1
 have haft : ∀ b ∈ l.drop (srch l v),vlt v b:=fun b hb => by
  obtain ⟨i,hi,rfl⟩:=List.mem_iff_getElem.1 hb
  rw [List.length_drop] at hi
  have hr : srch l v < l.length:=by omega
  have hv:=s2 hr
  have hne : veq (l[srch l v]?.getD v0) v = false:=by
   unfold fnd at hf
   simpa [hr] using hf
  have h0:=vlt_of_vle_ne hv hne
  rw [List.getElem_drop]
  by_cases hi0 : i = 0
  ·subst hi0
   rw [List.getElem?_eq_getElem hr,Option.getD_some] at h0
   simpa using h0
  ·rw [List.getElem?_eq_getElem hr,Option.getD_some] at h0
   exact vlt_trans (h.ok _ (List.getElem_mem hr)) (h.ok _ (List.getElem_mem _)) h0 (List.pairwise_iff_getElem.1 h.inc _ _ hr (by omega) (by omega))
 refine ⟨fun c hc => ?_,fun c hc => ?_,fun c hc => ?_,?_⟩
 ·rcases hmem c hc with rfl | hc
  ·exact hg
  ·exact h.good c hc
 ·rcases hmem c hc with rfl | hc
  ·exact ho
  ·exact h.ok c hc
 ·rcases hmem c hc with rfl | hc
  ·exact hk
  ·exact h.kd c hc
 ·rw [List.pairwise_append]
  refine ⟨h.inc.sublist (List.take_sublist _ _),?_,fun a ha b hb => ?_⟩
  ·rw [List.pairwise_cons]
   exact ⟨haft,h.inc.sublist (List.drop_sublist _ _)⟩
  ·rcases List.mem_cons.1 hb with rfl | hb
   ·exact hbef a ha
   ·obtain ⟨i,hi,rfl⟩:=List.mem_iff_getElem.1 ha
    obtain ⟨j,hj,rfl⟩:=List.mem_iff_getElem.1 hb
    rw [List.length_take] at hi
    rw [List.length_drop] at hj
    rw [List.getElem_take,List.getElem_drop]
    exact List.pairwise_iff_getElem.1 h.inc _ _ (by omega) (by omega) (by omega)
theorem CutsOk.nil (kd : Int) : CutsOk kd []:=⟨fun c h => (by cases h),fun c h => (by cases h),fun c h => (by cases h),List.Pairwise.nil⟩
structure ScOk (s : Sc) : Prop where
 good : s.e.good = true
 big : s.e.parts <= 200
 cuts : CutsOk s.kd s.cuts
 zero : s.kd = 0 -> s.cuts = []
 len : s.cuts.length <= 32
structure TqOk (t : Tq) : Prop where
 good : t.sub.good = true
 big : t.sub.parts <= 200
 cut : t.kd ≠ 0 -> t.cut.good = true /\ t.cut.ok = true /\ t.cut.kd = t.kd
structure ScsOk (l : List Sc) : Prop where
 each : ∀ s ∈ l,ScOk s
 len : l.length <= 16
theorem testOf_ok {a : Gx} (hg : a.good = true) (hp : a.parts <= 200) : TqOk (testOf a):=by
 have harg : ∀ k,k < a.args.length -> (argAt a k).good = true /\ (argAt a k).parts <= 200:=fun k hk => by
  have h1:=List.mem_of_getElem? (arg_some hk)
  have h2:=partsG_arg h1
  have h3:=partsG_args a
  exact ⟨good_args hg _ h1,by omega⟩
 by_cases hop : (a.op = 13 \/ a.op = 14) /\ a.args.length = 2
 ·obtain ⟨ho,hl⟩:=hop
  have hcut : ∀ k,k < 2 -> isCut (argAt a k) (argAt a (1 - k)) = true -> TqOk (cutAt a k):=fun k hk hc => by
   obtain ⟨h1,h2⟩:=harg (1 - k) (by omega)
   obtain ⟨h3,h4⟩:=harg k (by omega)
   unfold isCut at hc
   simp only [Bool.and_eq_true] at hc
   exact ⟨h1,h2,fun _ => ⟨good_v h3,hc.2,rfl⟩⟩
  by_cases h0 : isCut (argAt a 0) (argAt a 1) = true
  ·rw [testOf_zero ho hl h0]; exact hcut 0 (by omega) h0
  ·have h0' : isCut (argAt a 0) (argAt a 1) = false:=by simpa using h0
   by_cases h1 : isCut (argAt a 1) (argAt a 0) = true
   ·rw [testOf_one ho hl h0' h1]; exact hcut 1 (by omega) h1
   ·rw [testOf_not ho hl h0' (by simpa using h1)]; exact ⟨hg,hp,fun h => absurd rfl h⟩
 ·have ht : testOf a = ⟨a,0,v0,0,false⟩:=by
   unfold testOf
   rw [if_neg]
   simp only [Bool.and_eq_true,Bool.or_eq_true,beq_iff_eq]
   exact hop
  rw [ht]; exact ⟨hg,hp,fun h => absurd rfl h⟩
theorem belongs_kd {t : Tq} {s : Sc} (h : t.belongs s = true) : t.kd = s.kd:=by
 unfold Tq.belongs at h
 simp only [Bool.and_eq_true,beq_iff_eq] at h
 exact h.1
theorem belongs_at {t : Tq} {l : List Sc} (h : l.findIdx t.belongs < l.length) : t.belongs (l[l.findIdx t.belongs]?.getD default) = true:=by
 rw [List.getElem?_eq_getElem h]
 exact List.findIdx_getElem (w:=h)
theorem insS_ok {l l' : List Sc} {i : Nat} {t : Tq} (h : ScsOk l) (ht : TqOk t) (hi : i < l.length) (hb : t.kd = (l[i]?.getD default).kd) (he : insS l i t = some l') : ScsOk l':=by
 unfold insS at he
 by_cases hk : t.kd = 0
 ·rw [if_pos hk] at he
  obtain rfl:=Option.some.inj he
  exact h
 ·rw [if_neg hk] at he
  rw [List.getElem?_eq_getElem hi,Option.getD_some] at he hb
  have hs:=h.each _ (List.getElem_mem hi)
  obtain ⟨c1,c2,c3⟩:=ht.cut hk
  unfold insC at he
  by_cases hf : fnd l[i].cuts t.cut = true
  ·rw [if_pos hf] at he
   simp only [Option.map_some,Option.some.injEq] at he
   subst he
   refine ⟨fun s hs' => ?_,by rw [List.length_set]; exact h.len⟩
   rcases List.mem_or_eq_of_mem_set hs' with hs' | rfl
   ·exact h.each s hs'
   ·exact hs
  ·rw [if_neg hf] at he
   by_cases h32 : l[i].cuts.length = 32
   ·rw [if_pos h32] at he; cases he
   ·rw [if_neg h32] at he
    simp only [Option.map_some,Option.some.injEq] at he
    subst he
    refine ⟨fun s hs' => ?_,by rw [List.length_set]; exact h.len⟩
    rcases List.mem_or_eq_of_mem_set hs' with hs' | rfl
    ·exact h.each s hs'
    ·have hsl:=srch_le l[i].cuts t.cut
     have := hs.len
     refine ⟨hs.good,hs.big,?_,fun h0 => absurd (hb.trans h0) hk,?_⟩
     ·exact hs.cuts.ins c1 c2 (by rw [c3,hb]) (by simpa using hf)
     ·simp only [List.length_append,List.length_cons,List.length_take,List.length_drop]; omega
theorem newSc_ok {l : List Sc} {t : Tq} (h : ScsOk l) (ht : TqOk t) (hl : l.length ≠ 16) : ScsOk (l ++ [⟨t.sub,t.kd,[]⟩]):=by
 refine ⟨fun s hs => ?_,by have := h.len; rw [List.length_append,List.length_singleton]; omega⟩
 rcases List.mem_append.1 hs with hs | hs
 ·exact h.each s hs
 ·rw [List.mem_singleton.1 hs]
  exact ⟨ht.good,ht.big,CutsOk.nil _,fun _ => rfl,by simp⟩
theorem addT_ok {l l' : List Sc} {t : Tq} (h : ScsOk l) (ht : TqOk t) (he : addT l t = some l') : ScsOk l':=by
 unfold addT at he
 simp only at he
 by_cases hi : l.findIdx t.belongs < l.length
 ·rw [if_pos hi] at he
  exact insS_ok h ht hi (belongs_kd (belongs_at hi)) he
 ·rw [if_neg hi] at he
  by_cases hl : l.length = 16
  ·rw [if_pos hl] at he; cases he
  ·rw [if_neg hl] at he
   exact insS_ok (newSc_ok h ht hl) ht (by simp) (by simp) he
theorem addTs_append (l : List Sc) (a b : List Tq) : addTs l (a ++ b) = (addTs l a).bind fun l' => addTs l' b:=by
 induction a generalizing l with
 | nil => rfl
 | cons t r ih =>
  rw [List.cons_append,addTs,addTs]
  cases addT l t with
  | none => rfl
  | some l' => exact ih l'
theorem addTs_snoc (l : List Sc) (a : List Tq) (t : Tq) : addTs l (a ++ [t]) = (addTs l a).bind fun l' => addT l' t:=by
 rw [addTs_append]
 cases addTs l a with
 | none => rfl
 | some l' =>
  show (addT l' t).bind (fun l'' => addTs l'' []) = addT l' t
  cases addT l' t <;> rfl
def limbs (n : Nat) : List Nat:=if h : n = 0 then [] else n % 65536 :: limbs (n / 65536)
termination_by n
decreasing_by exact Nat.div_lt_self (by omega) (by decide)
theorem limbs_zero : limbs 0 = []:=by unfold limbs; rfl
theorem limbs_pos {n : Nat} (h : n ≠ 0) : limbs n = n % 65536 :: limbs (n / 65536):=by
 rw [limbs]; rw [dif_neg h]
theorem limbs_lval (n : Nat) : lval (limbs n) = n:=by
 induction n using Nat.strongRecOn with
 | _ n ih =>
  by_cases h : n = 0
  ·subst h; rw [limbs_zero]; rfl
  ·rw [limbs_pos h,lval,ih _ (Nat.div_lt_self (by omega) (by decide))]
   omega
theorem limbs_lt (n : Nat) : ∀ d ∈ limbs n,d < 65536:=by
 induction n using Nat.strongRecOn with
 | _ n ih =>
  intro d hd
  by_cases h : n = 0
  ·subst h; rw [limbs_zero] at hd; cases hd
  ·rw [limbs_pos h] at hd
   rcases List.mem_cons.1 hd with rfl | hd
   ·omega
   ·exact ih _ (Nat.div_lt_self (by omega) (by decide)) d hd
theorem limbs_tight (n : Nat) : Tight (limbs n):=by
 induction n using Nat.strongRecOn with
 | _ n ih =>
  by_cases h : n = 0
  ·subst h; exact .inl limbs_zero
  ·right
   rw [limbs_pos h]
   rcases ih _ (Nat.div_lt_self (show 0 < n by omega) (show 1 < 65536 by decide)) with h1 | h1
   ·rw [h1]
    have : lval (limbs (n / 65536)) = n / 65536:=limbs_lval _
    rw [h1] at this
    simp [lval] at this
    simp; omega
   ·cases hl : limbs (n / 65536) with
    | nil => rw [hl] at h1; simp at h1
    | cons a r => rw [hl] at h1; rw [List.getLast?_cons_cons]; exact h1
theorem limbs_uniq {l : List Nat} (h1 : ∀ d ∈ l,d < 65536) (h2 : Tight l) : l = limbs (lval l):=by
 refine tight_inj (b:=65536) (by decide) h1 (limbs_lt _) h2 (limbs_tight _) ?_
 rw [<- lval_bv,<- lval_bv,limbs_lval]
theorem Ln.limbs {K n : Nat} {w : World} {v : Value} (h : Ln K w v n) : Lm K w v (limbs n):=by
 obtain ⟨l,h1,h2,rfl⟩:=h
 rw [<- limbs_uniq h1.2 h2]; exact h1
theorem limbs_len {n k : Nat} : (limbs n).length <= k ↔ n < LB k:=by
 have := ln_len (k:=k) (limbs_lt n) (limbs_tight n)
 rwa [limbs_lval] at this
theorem limbs_wOk {n : Nat} {g : Bool} (h : n < LB 1024) (hg : n = 0 -> g = false) : wOk 1024 g (limbs n) = true :=
 tight_wOk (limbs_tight n) (limbs_len.2 h) (fun e => hg (by
  have := limbs_lval n
  rw [List.eq_nil_of_length_eq_zero e] at this
  exact this.symm))
def fracV (kd : Int) (p : Int) (q : Nat) : Vq:=⟨kd,decide (p < 0),limbs p.natAbs,false,limbs q,0⟩
theorem sgz_dec (p : Int) : sgz (decide (p < 0)) p.natAbs = p:=by unfold sgz; by_cases h : p < 0 <;> simp [h] <;> omega
theorem fracV_top {kd : Int} (hk : kd = 2 \/ kd = 3) (p : Int) (q : Nat) : (fracV kd p q).top = p /\ (fracV kd p q).bot = q:=by
 have hf : (fracV kd p q).fr = true:=by unfold Vq.fr fracV; rcases hk with rfl | rfl <;> rfl
 constructor
 ·unfold Vq.top; rw [hf,if_pos rfl]
  show (if decide (p < 0) = true then -((lval (Proofs.YtlldjmagbjjeoaaGreat.limbs p.natAbs) : Nat) : Int) else (lval (Proofs.YtlldjmagbjjeoaaGreat.limbs p.natAbs) : Nat)) = p
  rw [limbs_lval]
  exact sgz_dec p
 ·unfold Vq.bot; rw [hf,if_pos rfl]
  show ((lval (Proofs.YtlldjmagbjjeoaaGreat.limbs q) : Nat) : Int) = q
  rw [limbs_lval]
theorem fracV_ok {kd : Int} (hk : kd = 2 \/ kd = 3) {p : Int} {q : Nat} (hq : 0 < q) (hg : Nat.gcd p.natAbs q = 1) (hp : p.natAbs < LB 256) (hl : q < LB 256) : (fracV kd p q).ok = true:=by
 have hf : (fracV kd p q).fr = true:=by unfold Vq.fr fracV; rcases hk with rfl | rfl <;> rfl
 unfold Vq.ok
 rw [hf,if_pos rfl]
 show ((0 : Int) == 0 && frOk (decide (p < 0)) (Proofs.YtlldjmagbjjeoaaGreat.limbs p.natAbs) false (Proofs.YtlldjmagbjjeoaaGreat.limbs q)) = true
 unfold frOk
 have h0 : (Proofs.YtlldjmagbjjeoaaGreat.limbs q).length ≠ 0:=fun e => by
  have := limbs_lval q
  rw [List.eq_nil_of_length_eq_zero e] at this
  simp [lval] at this; omega
 rw [limbs_wOk (LB_lt hp (by decide)) (fun e => by simp; omega),limbs_wOk (LB_lt hl (by decide)) (fun _ => rfl),limbs_lval,limbs_lval,hg]
 have h1:=(limbs_len (k:=256)).2 hp
 have h2:=(limbs_len (k:=256)).2 hl
 simp [h1,h2]
 intro e; exact h0 (by rw [e]; rfl)
theorem fracV_good {kd p : Int} {q : Nat} (hp : p.natAbs < LB 64) (hl : q < LB 64) : (fracV kd p q).good = true:=by
 unfold Vq.good fracV
 have h1:=(limbs_len (k:=64)).2 hp
 have h2:=(limbs_len (k:=64)).2 hl
 simp [h1,h2]
theorem ok_parts {v : Vq} (hk : v.kd = 2 \/ v.kd = 3) (ho : v.ok = true) (hg : v.good = true) : v.g2 = false /\ v.i = 0 /\ 0 < lval v.l2 /\ v.top = sgz v.g1 (lval v.l1) /\ v.bot = (lval v.l2 : Nat) /\ Nat.gcd v.top.natAbs (lval v.l2) = 1:=by
 have hf : v.fr = true:=by unfold Vq.fr; rcases hk with h | h <;> rw [h] <;> rfl
 have h1:=(ok_fr hf ho).1
 obtain ⟨k1,k2,k3,k4,k5,k6,k7⟩:=frOk_parts h1
 have h2 : v.i = 0:=by
  unfold Vq.ok at ho
  rw [hf,if_pos rfl] at ho
  simp only [Bool.and_eq_true,beq_iff_eq] at ho
  exact ho.1
 have ht : v.top = sgz v.g1 (lval v.l1):=by unfold Vq.top sgz; rw [hf,if_pos rfl]
 refine ⟨k5,h2,?_,ht,by unfold Vq.bot; rw [hf,if_pos rfl],by rw [ht,sgz_abs]; exact k7⟩
 have := vbot_pos ho
 unfold Vq.bot at this
 rw [hf,if_pos rfl] at this
 omega
end Go.Proofs.YtlldjmagbjjeoaaGreat
