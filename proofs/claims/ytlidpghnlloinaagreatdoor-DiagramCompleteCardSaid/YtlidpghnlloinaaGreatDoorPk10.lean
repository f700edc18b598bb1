/- Contracts and plain laws, several texts in one (GSized, OWalk, GWalk, GIns0). No conditions beyond those stated. -/
import Derived.Sort.QuietIn
import Derived.Laws.CopyRow
import Derived.Lib.AppendZerosOnto
import Derived.Lib.Overlaps
import Derived.Laws.Externs
import Derived.Laws.IdiomCopy
import Derived.Test.YtlidpghnlloinaaGreatDoorPk7
set_option maxRecDepth 100000
set_option maxHeartbeats 40000000
namespace Go.Proofs.YtlidpghnlloinaaGreatDoor
open Go.RowKit
set_option linter.unusedVariables false
theorem depthG_args (e : Gx) : e.depth = depthL e.args + 1:=by cases e; rw [Gx.depth]; rfl
theorem depthG_arg {es : List Gx} {e : Gx} (h : e ∈ es) : e.depth <= depthL es:=by
 induction es with
 | nil => cases h
 | cons x r ih =>
  rw [depthL]
  rcases List.mem_cons.1 h with rfl | h
  ·omega
  ·have := ih h; omega
theorem depthL_le {es : List Gx} {n : Nat} (h : ∀ e ∈ es,e.depth <= n) : depthL es <= n:=by
 induction es with
 | nil => simp [depthL]
 | cons x r ih =>
  rw [depthL]
  have h1:=h x (by simp)
  have h2:=ih fun e he => h e (List.mem_cons_of_mem _ he)
  omega
theorem partsL_append (a b : List Gx) : partsL (a ++ b) = partsL a + partsL b:=by
 induction a with
 | nil => simp [partsL]
 | cons x r ih => rw [List.cons_append,partsL,partsL,ih]; omega
theorem partsL_take (es : List Gx) (k : Nat) (e : Gx) (h : es[k]? = some e) : partsL (es.take (k + 1)) = partsL (es.take k) + e.parts:=by
 have hk:=(List.getElem?_eq_some_iff.1 h).1
 have : es[k] = e:=by rw [List.getElem?_eq_getElem hk] at h; exact Option.some.inj h
 rw [List.take_succ_eq_append_getElem hk,partsL_append,this]; simp [partsL]
theorem partsL_take_le (es : List Gx) (k : Nat) : partsL (es.take k) <= partsL es:=by
 conv => rhs; rw [<- List.take_append_drop k es,partsL_append]
 omega
def fitsAt (p d : Nat) (e : Gx) : Bool:=decide (p + e.parts <= 200) && decide (d + e.depth <= 25)
structure SzPost (bp p d : Nat) (e : Gx) (W : World) (en : Ending) (W' : World) : Prop where
 en : en = .returned (.bool (fitsAt p d e))
 gr : W.grownBy W' (some bp)
 ct : fitsAt p d e = true -> Blk W' bp #[Z (p + e.parts)] 3
theorem wpList_store_val {ops : Array Oper} {rest : List Oper} {o : Oper} {a : Act} {w : World} {Q : Exit -> Act -> World -> Prop} (hgd : o.guard = none) (ty t : TypeId) (x y : Operand) (ho : o.op = .store ty x y) (v old : Value) (g : Nat)
  (hq : Blk w g #[old] t) (hi : (Tryz.prog.info? ty).map (fun i => i.size) = some 1) (h1 : v.oneCell' = true) (hx : a.eval x = .pointer (some ⟨g,0,none⟩)) (hy : a.eval y = v)
  (h : ∀ W',Blk W' g #[v] t -> (∀ B,B <= g -> Below B w W') -> w.grownBy W' (some g) -> W'.heap.size = w.heap.size -> wpList Tryz.prog ops Q rest (a.put o.dst undef) W') : wpList Tryz.prog ops Q (o :: rest) a w:=by
 subst hy
 refine wpList_store_one hgd ty x y ho g hx h1 t old hq hi ?_
 have hs : (w.setRow g #[a.eval y]).heap.size = w.heap.size:=by simp [World.setRow]
 exact h _ (setRow_heap w g #[old] #[a.eval y] t _ hq) (fun B hB => ⟨rfl,rfl,rfl,Nat.le_of_eq hs.symm,fun k hk => setRow_other w g k _ (by omega)⟩) ⟨rfl,rfl,rfl,Nat.le_of_eq hs.symm,fun k _ hk => setRow_other w g k _ (fun e => hk (by rw [e]))⟩ hs
theorem grownBy_then {w w' w'' : World} {r : Option Nat} (h : w.grownBy w' r) (h' : w'.grownBy w'' r) : w.grownBy w'' r :=
 ⟨h'.os.trans h.os,h'.tape.trans h.tape,h'.output.trans h.output,Nat.le_trans h.size h'.size,fun k hk hr => (h'.block k (Nat.lt_of_lt_of_le hk h.size) hr).trans (h.block k hk hr)⟩
theorem grownBy_to {w w' : World} {r : Option Nat} (h : w.grownBy w' none) : w.grownBy w' r:=⟨h.os,h.tape,h.output,h.size,fun k hk _ => h.block k hk (by simp)⟩
theorem below_of_grownBy {w w' : World} {K bp : Nat} (h : w.grownBy w' (some bp)) (hK : K <= w.heap.size) (hb : K <= bp) : Below K w w':=⟨h.os,h.tape,h.output,h.size,fun k hk => h.block k (by omega) (fun e => by simp at e; omega)⟩
abbrev szF (bp bf : Nat) : Value:=.func (.func 142) #[] #[.pointer (some ⟨bp,0,none⟩),.pointer (some ⟨bf,0,none⟩)]
theorem sizedF_at (K bp bf tf : Nat) (m : Nat) : ∀ (e : Gx),e.parts <= m -> ∀ (p d : Nat) (x : Xv) (W : World),ExG K W e x -> K <= bp -> bp < bf -> p <= 200 -> d <= 25 -> Blk W bp #[Z p] 3 -> Blk W bf #[szF bp bf] tf →
   Calls Tryz.prog 142 #[x.agg,.int .i64 d,.pointer (some ⟨bp,0,none⟩),.pointer (some ⟨bf,0,none⟩)] W (SzPost bp p d e W):=by
 induction m with
 | zero => intro e hm; cases e; rw [partsG_mk] at hm; omega
 | succ m ih =>
  intro e hm p d x W h hK hbf hp hd qp qf
  have hlt1:=qp.lt
  have hlt2:=qf.lt
  obtain ⟨_,_,_,_,g,hg,hgs⟩:=h.open
  obtain ⟨va,vcap,h8,hvl,hvm⟩:=hg.form
  obtain ⟨xop,xnm,kd,b3,⟨a4,n4,m4⟩,b5,⟨a6,n6,m6⟩,i7,⟨a8,n8,m8⟩⟩:=x
  simp only [Sl.val,Value.slice.injEq] at h8
  obtain ⟨rfl,rfl,rfl⟩:=h8
  have HGS : Hid (∀ (k : Nat) (a : Gx),e.args[k]? = some a -> ExG K W a (g k) /\ a.parts <= m):=Lib.hid fun k a ha => ⟨hgs k a ha,by
   have h1:=partsG_arg (List.mem_of_getElem? ha)
   rw [partsG_args] at hm; omega⟩
  have HGG:=Lib.hid hg
  have HIH:=Lib.hid ih
  have hpe:=partsG_args e
  have hde:=depthG_args e
  have HP : Hid (∀ r W',fitsAt p d e = r -> W.grownBy W' (some bp) -> (r = true -> Blk W' bp #[Z (p + e.parts)] 3) -> SzPost bp p d e W (.returned (.bool r)) W'):=Lib.hid fun r W' h1 h2 h3 => ⟨by rw [h1],h2,fun h => h3 (by rw [<- h1]; exact h)⟩
  have HPE:=Lib.hid hpe
  have HDE:=Lib.hid hde
  have c0 : W.cell? ⟨bp,0,none⟩ = some (.int .i64 (p : Int)):=qp.one.1
  have fr0:=qp.one.2
  have hZ : Z (p + 1) = .int .i64 ((p : Int) + 1):=by simp [Z]
  have hbW : bp < W.heap.size:=qp.lt
  have hgr1 : W.grownBy ((W.setCell ⟨bp,0,none⟩ (Z (p + 1))).alloc (.cells (⟨xop,xnm,kd,b3,⟨a4,n4,m4⟩,b5,⟨a6,n6,m6⟩,i7,⟨a8,e.args.length,m8⟩⟩ : Xv).cells 49)) (some bp):=grownBy_then (grownBy_setCell _ _ _ _) (World.grownBy_alloc _ _ _)
  have qp1 : Blk ((W.setCell ⟨bp,0,none⟩ (Z (p + 1))).alloc (.cells (⟨xop,xnm,kd,b3,⟨a4,n4,m4⟩,b5,⟨a6,n6,m6⟩,i7,⟨a8,e.args.length,m8⟩⟩ : Xv).cells 49)) bp #[Z (p + 1)] 3:=(qp.set (Z (p + 1))).alloc _
  have qf1 : Blk ((W.setCell ⟨bp,0,none⟩ (Z (p + 1))).alloc (.cells (⟨xop,xnm,kd,b3,⟨a4,n4,m4⟩,b5,⟨a6,n6,m6⟩,i7,⟨a8,e.args.length,m8⟩⟩ : Xv).cells 49)) bf #[szF bp bf] tf:=(qf.other (by omega) _).alloc _
  have qx1 : Blk ((W.setCell ⟨bp,0,none⟩ (Z (p + 1))).alloc (.cells (⟨xop,xnm,kd,b3,⟨a4,n4,m4⟩,b5,⟨a6,n6,m6⟩,i7,⟨a8,e.args.length,m8⟩⟩ : Xv).cells 49)) W.heap.size (⟨xop,xnm,kd,b3,⟨a4,n4,m4⟩,b5,⟨a6,n6,m6⟩,i7,⟨a8,e.args.length,m8⟩⟩ : Xv).cells 49:=by
   have := Blk.new (W.setCell ⟨bp,0,none⟩ (Z (p + 1))) (⟨xop,xnm,kd,b3,⟨a4,n4,m4⟩,b5,⟨a6,n6,m6⟩,i7,⟨a8,e.args.length,m8⟩⟩ : Xv).cells 49
   rwa [show (W.setCell ⟨bp,0,none⟩ (Z (p + 1))).heap.size = W.heap.size by simp [World.setCell]] at this
  obtain ⟨W1,hW1⟩ : ∃ W1,(W.setCell ⟨bp,0,none⟩ (Z (p + 1))).alloc (.cells (⟨xop,xnm,kd,b3,⟨a4,n4,m4⟩,b5,⟨a6,n6,m6⟩,i7,⟨a8,e.args.length,m8⟩⟩ : Xv).cells 49) = W1:=⟨_,rfl⟩
  rw [hW1] at hgr1 qp1 qf1 qx1
  rw [hZ] at hW1
  dsimp only [Xv.cells] at hW1
  have HW1:=Lib.hid hW1
  have hpn : ((p : Int) + 1) = ((p + 1 : Nat) : Int):=by omega
  unfold maxLen at hvm
  clear h hgs hg ih hpe hde hm hW1 hpn hZ
  go_enter Tryz.func142,Tryz.ntmps142
  go_upto_region 2 with fail
  rw [HW1.out]
  clear c0 fr0
  have c1 : W1.cell? ⟨bp,0,none⟩ = some (.int .i64 ((p + 1 : Nat) : Int)):=qp1.one.1
  obtain ⟨q,hq⟩ : ∃ q,p + 1 = q:=⟨_,rfl⟩
  rw [hq] at c1 qp1
  have HQ:=Lib.hid hq
  by_cases h200 : 200 < q
  ·have hf : fitsAt p d e = false:=by unfold fitsAt; have := partsG_args e; simp; omega
   have hx:=HP.out false W1 hf hgr1 (fun h => by cases h)
   have ht : decide ((200 : Int) < (q : Int)) = true:=by simp; omega
   clear hf hq h200
   go_wp2_with fail
   go_ret
   exact hx
  ·have ht : decide ((200 : Int) < (q : Int)) = false:=by simp; omega
   by_cases h24 : 24 < d
   ·have hf : fitsAt p d e = false:=by unfold fitsAt; have := HDE.out; simp; omega
    have hx:=HP.out false W1 hf hgr1 (fun h => by cases h)
    have ht2 : decide ((24 : Int) < (d : Int)) = true:=by simp; omega
    clear hf hq h200 h24
    go_wp2_with fail
    go_ret
    exact hx
   ·have ht2 : decide ((24 : Int) < (d : Int)) = false:=by simp; omega
    have HQL : Hid (q <= 200):=Lib.hid (by omega)
    clear hq h200
    obtain ⟨d0,d1,d2,d3,d4,d5,d6,d7,d8⟩:=qx1.nine
    go_wp2_with fail
    clear d0 d1 d2 d3 d4 d5 d6 d7 d8 c1
    go_loopw [20] (fun i wr => ∃ (k : Nat),k <= e.args.length /\ i = .int .i64 k /\ Blk wr bp #[Z (q + partsL (e.args.take k))] 3 /\ Blk wr bf #[szF bp bf] tf /\ W.grownBy wr (some bp) /\ q + partsL (e.args.take k) <= 200 /\ Hid (∀ (j : Nat) (a : Gx),j < k -> e.args[j]? = some a -> d + 1 + a.depth <= 25)) (fun i _ => e.args.length - (intOf i).toNat)
    case atStart => exact ⟨0,Nat.zero_le _,rfl,by simpa [partsL] using qp1,qf1,hgr1,by have := HQL.out; simp [partsL]; omega,Lib.hid fun j a hj => absurd hj (Nat.not_lt_zero j)⟩
    case round =>
     obtain ⟨k,hk,rfl,rp,rf,hgr,hct,HD⟩:=hrel
     by_cases hlt : k < e.args.length
     ·obtain ⟨b,o,cap,he,_,hcm,hbK,hc⟩:=HGG.out.pos (by omega)
      simp only [Sl.val,Value.slice.injEq,true_and] at he
      obtain ⟨rfl,rfl⟩:=he
      have hbr : Below K W wr:=below_of_grownBy hgr (by omega) hK
      obtain ⟨k0,k1,k2,k3,k4,k5,k6,k7,k8⟩:=ex_cells (cells_below hbr hbK hc) hlt
      obtain ⟨ek,hek⟩ : ∃ ek,e.args[k]? = some ek:=⟨_,List.getElem?_eq_getElem hlt⟩
      obtain ⟨hqe,hpm⟩:=HGS.out k ek hek
      obtain ⟨y,hy⟩ : ∃ y,g k = y:=⟨_,rfl⟩
      rw [hy] at hqe k0 k1 k2 k3 k4 k5 k6 k7 k8
      have hsr:=hgr.size
      obtain ⟨c,hcq⟩ : ∃ c,q + partsL (e.args.take k) = c:=⟨_,rfl⟩
      rw [hcq] at rp hct
      have hcall:=HIH.out ek hpm c (d + 1) y (wr.alloc (.cells y.cells 49)) (hqe.below (hbr.alloc (by omega) _) (Nat.le_refl _) (Nat.le_refl _)) hK hbf hct (by omega) (rp.alloc _) (rf.alloc _)
      have hd1 : (((d + 1 : Nat)) : Int) = (d : Int) + 1:=by omega
      rw [hd1] at hcall
      have f0 : wr.cell? ⟨bf,0,none⟩ = some (szF bp bf):=rf.one.1
      have hbfl:=rf.lt
      have HPT : Hid (partsL (e.args.take (k + 1)) = partsL (e.args.take k) + ek.parts):=Lib.hid (partsL_take e.args k ek hek)
      have HPL : Hid (partsL (e.args.take k) + ek.parts <= partsL e.args):=Lib.hid (by rw [<- partsL_take e.args k ek hek]; exact partsL_take_le _ _)
      have HDA : Hid (ek.depth <= depthL e.args):=Lib.hid (depthG_arg (List.mem_of_getElem? hek))
      have HEK:=Lib.hid hek
      have HCQ:=Lib.hid hcq
      clear hek hc hy hqe hpm hd1 hcq
      go_wp2_with fail
      refine hcall.mono ?_
      rintro en W6 ⟨rfl,hg6,hct6⟩
      clear hcall k0 k1 k2 k3 k4 k5 k6 k7 k8 f0
      have hgr6 : W.grownBy W6 (some bp):=grownBy_then (grownBy_then hgr (World.grownBy_alloc wr _ _)) hg6
      have rf6 : Blk W6 bf #[szF bp bf] tf:=(rf.alloc _).kept hg6 (by simp; omega)
      obtain ⟨r,hr⟩ : ∃ r,fitsAt c (d + 1) ek = r:=⟨_,rfl⟩
      rw [hr] at hct6 ⊢
      have HR:=Lib.hid hr
      clear hr
      cases r with
      | false =>
       have hx:=HP.out false W6 (by
        have h1:=HR.out
        unfold fitsAt at h1 ⊢
        have h2:=HPE.out
        have h3:=HDE.out
        have h4:=HPL.out
        have h5:=HDA.out
        have h6:=HCQ.out
        have h7:=HQ.out
        simp at h1 ⊢
        omega) hgr6 (fun h => by cases h)
       clear hct6
       go_wp2_with fail
       go_ret
       exact hx
      | true =>
       have hb6:=hct6 rfl
       have h200' : c + ek.parts <= 200 /\ d + 1 + ek.depth <= 25:=by
        have h1:=HR.out
        unfold fitsAt at h1
        simpa using h1
       have hqk : q + partsL (e.args.take (k + 1)) = c + ek.parts:=by have := HPT.out; have := HCQ.out; omega
       have HDN : Hid (∀ (j : Nat) (a : Gx),j < k + 1 -> e.args[j]? = some a -> d + 1 + a.depth <= 25):=Lib.hid fun j a hj ha => by
        by_cases hjk : j = k
        ·subst hjk
         have h1:=HEK.out
         rw [ha] at h1
         obtain rfl:=Option.some.inj h1
         exact h200'.2
        ·exact HD.out j a (by omega) ha
       have hb7 : Blk W6 bp #[Z (q + partsL (e.args.take (k + 1)))] 3:=by rw [hqk]; exact hb6
       have hle : q + partsL (e.args.take (k + 1)) <= 200:=by rw [hqk]; exact h200'.1
       clear hct6 hb6 h200' hqk
       go_wp2_with fail
       exact ⟨⟨k + 1,by omega,by go_num,hb7,rf6,hgr6,hle,HDN⟩,by simp [intOf]; omega⟩
     ·obtain rfl : k = e.args.length:=by omega
      rw [List.take_length] at rp hct
      have hx:=HP.out true wr (by
       unfold fitsAt
       have h2:=HPE.out
       have h3:=HDE.out
       have h7:=HQ.out
       have h8 : depthL e.args <= 24 - d:=depthL_le fun a ha => by
        obtain ⟨j,hj,rfl⟩:=List.mem_iff_getElem.1 ha
        have := HD.out j _ hj (List.getElem?_eq_getElem hj)
        omega
       simp
       omega) hgr (fun _ => by
        have h2:=HPE.out
        have h7:=HQ.out
        rw [show p + e.parts = q + partsL e.args by omega]; exact rp)
      go_wp2_with fail
      go_ret
      exact hx
theorem sized_any (K : Nat) (e : Gx) (x : Xv) (w : World) (h : ExG K w e x) (hK : K <= w.heap.size) : Calls Tryz.prog 94 #[x.agg] w fun en w' => en = .returned (.bool (fits e)) /\ Below w.heap.size w w':=by
 have hfit : fits e = fitsAt 0 1 e:=by unfold fits fitsAt; congr 1 <;> (rw [Bool.eq_iff_iff]; simp; try omega)
 rw [hfit]
 have HX:=Lib.hid h
 obtain ⟨xop,xnm,kd,b3,⟨a4,n4,m4⟩,b5,⟨a6,n6,m6⟩,i7,⟨a8,n8,m8⟩⟩:=x
 clear h
 go_enter Tryz.func94,Tryz.ntmps94
 have hinf : (Tryz.prog.info? 102).map (fun i => i.size) = some 1:=by kernel_rfl
 go_upto_region 3 with fail
 obtain ⟨W1,hW1⟩ : ∃ W1,((w.alloc (.cells (⟨xop,xnm,kd,b3,⟨a4,n4,m4⟩,b5,⟨a6,n6,m6⟩,i7,⟨a8,n8,m8⟩⟩ : Xv).cells 49)).alloc (.cells #[.int .i64 0] 3)).alloc (.cells #[.nilFunc] 102) = W1:=⟨_,rfl⟩
 rw [hW1]
 have q0 : Blk W1 w.heap.size (⟨xop,xnm,kd,b3,⟨a4,n4,m4⟩,b5,⟨a6,n6,m6⟩,i7,⟨a8,n8,m8⟩⟩ : Xv).cells 49:=by rw [<- hW1]; exact ((Blk.new w _ _).alloc _).alloc _
 have q1 : Blk W1 (w.heap.size + 1) #[Z 0] 3:=by
  rw [<- hW1]
  have := Blk.new (w.alloc (.cells (⟨xop,xnm,kd,b3,⟨a4,n4,m4⟩,b5,⟨a6,n6,m6⟩,i7,⟨a8,n8,m8⟩⟩ : Xv).cells 49)) #[Z 0] 3
  rw [World.size_alloc] at this
  exact this.alloc _
 have q2 : Blk W1 (w.heap.size + 1 + 1) #[.nilFunc] 102:=by
  rw [<- hW1]
  have := Blk.new ((w.alloc (.cells (⟨xop,xnm,kd,b3,⟨a4,n4,m4⟩,b5,⟨a6,n6,m6⟩,i7,⟨a8,n8,m8⟩⟩ : Xv).cells 49)).alloc (.cells #[.int .i64 0] 3)) #[.nilFunc] 102
  rwa [World.size_alloc,World.size_alloc] at this
 have b1 : Below w.heap.size w W1:=by rw [<- hW1]; exact (((Below.refl _ _).alloc (Nat.le_refl _) _).alloc (by simp) _).alloc (by simp; omega) _
 clear hW1
 iterate 4 go_step
 refine wpList_store_val rfl 102 102 (.tmp 4) (.tmp 5) rfl (szF (w.heap.size + 1) (w.heap.size + 1 + 1)) .nilFunc (w.heap.size + 1 + 1) q2 hinf rfl rfl rfl ?_
 intro W2 t1 t2 t3 t4
 have b2 : Below w.heap.size w W2:=b1.trans (t2 _ (by omega))
 have p0:=q0.kept t3 (by simp; omega)
 have p1:=q1.kept t3 (by simp)
 obtain ⟨d0,d1,d2,d3,d4,d5,d6,d7,d8⟩:=p0.nine
 have f0:=t1.one.1
 have hc:=sizedF_at w.heap.size (w.heap.size + 1) (w.heap.size + 1 + 1) 102 e.parts e (Nat.le_refl _) 0 1 _ W2 (HX.out.below b2 hK hK) (by omega) (by omega) (by omega) (by omega) p1 t1
 go_wp2_with fail
 refine hc.mono ?_
 rintro en w3 ⟨rfl,hg3,_⟩
 have hb3 : Below w.heap.size w w3:=b2.trans (below_of_grownBy hg3 b2.size (by omega))
 clear d0 d1 d2 d3 d4 d5 d6 d7 d8 f0 hc
 go_wp2_with fail
 go_ret
 exact ⟨rfl,hb3⟩
attribute [local go_sem] Oper.semAt_some
def Xv.enc (x : Xv) : Array Value:=#[x.agg]
def Xv.key (x : Xv) : Int × Str:=(x.op,x.nm)
def KpE (K : Nat) (W W' : World) : Prop:=Below K W W' /\ ∀ r cs,Blk W r cs 49 -> Blk W' r cs 49
theorem room_of_none {F : Fence} (hd : F.depth = none) (k : Nat) : F.room k:=fun d h => by rw [hd] at h; cases h
theorem RoundIn.anyDepth {F : Fence} (hd : F.depth = none) {m m' : Nat} {P : Program} {l : Nat} {f : FuncId} {tmps : Array Value} {assign body : Code} {w : World} {R : Ending -> World -> Prop}
  (h : RoundIn F m P l f tmps assign body w R) : RoundIn F m' P l f tmps assign body w R:=⟨h.1,fun c cs _ => h.2 c cs (room_of_none hd _)⟩
theorem YieldAt.anyDepth {F : Fence} (hd : F.depth = none) {m : Nat} (m' : Nat) {P : Program} {l : Nat} {args : Array Value} {W : World} {R : Ending -> World -> Prop} (h : YieldAt F m P l args W R) : YieldAt F m' P l args W R:=by
 obtain ⟨fn,tmps,assign,body,hy,hR⟩:=h
 exact ⟨fn,tmps,assign,body,hy,RoundIn.anyDepth hd hR⟩
attribute [local go_sem] Oper.semAt_some
abbrev El:=Tq × Tv
def elEnc (x : El) : Array Value:=#[x.2.agg]
def tsOf (e : Gx) : List Tq:=e.tests.map testOf
def tsL (l : List Gx) : List Tq:=(testsL l).map testOf
theorem testsL_append (a b : List Gx) : testsL (a ++ b) = testsL a ++ testsL b:=by
 induction a with
 | nil => simp [testsL]
 | cons x r ih => rw [List.cons_append,testsL,testsL,ih,List.append_assoc]
theorem testsL_one (e : Gx) : testsL [e] = e.tests:=by simp [testsL]
theorem tsL_take (es : List Gx) (k : Nat) (e : Gx) (h : es[k]? = some e) : tsL (es.take (k + 1)) = tsL (es.take k) ++ tsOf e:=by
 have hk:=(List.getElem?_eq_some_iff.1 h).1
 have : es[k] = e:=by rw [List.getElem?_eq_getElem hk] at h; exact Option.some.inj h
 unfold tsL tsOf
 rw [List.take_succ_eq_append_getElem hk,testsL_append,this,testsL_one,List.map_append]
theorem tsL_drop (es : List Gx) (k : Nat) (e : Gx) (h : es[k]? = some e) : tsL es = tsL (es.take k) ++ (tsOf e ++ tsL (es.drop (k + 1))):=by
 have hk:=(List.getElem?_eq_some_iff.1 h).1
 have h0 : es[k] = e:=by rw [List.getElem?_eq_getElem hk] at h; exact Option.some.inj h
 have h1 : es = es.take k ++ (es[k] :: es.drop (k + 1)):=by rw [<- List.drop_eq_getElem_cons hk,List.take_append_drop]
 conv => lhs; rw [h1,h0]
 unfold tsL tsOf
 rw [testsL_append,testsL,List.map_append,List.map_append]
theorem tests_mk (e : Gx) : e.tests = if e.settled then [] else if e.composed then testsL e.args else [e]:=by cases e; rw [Gx.tests]; rfl
def WPost (K : Nat) (J Jx : List El -> World -> Prop) (pre : List El) (ts : List Tq) (W : World) (en : Ending) (W' : World) : Prop :=
 (en = .returned (.bool true) /\ ∃ xs : List El,xs.map Prod.fst = ts /\ J (pre ++ xs) W' /\ Below K W W' /\ W.heap.size <= W'.heap.size) ∨
 (en = .returned (.bool false) /\ ∃ (xs : List El) (rest : List Tq),xs.map Prod.fst ++ rest = ts /\ Jx (pre ++ xs) W')
theorem grown_below {w w' : World} (h : Below w.heap.size w w') : w.grownBy w' none:=⟨h.os,h.tape,h.output,h.size,fun k hk _ => h.block k hk⟩
theorem gwalk_in (l K : Nat) (P : Gx -> Prop) (hP : ∀ e,P e -> e.good = true /\ ∀ a ∈ e.args,P a) (J Jx : List El -> World -> Prop) (hJ : ∀ s A B,J s A -> A.grownBy B none -> J s B)
  (hY : ∀ m pre x W,J pre W -> TqX K W x.1 x.2 /\ (∃ a,P a /\ x.1 = testOf a) -> YieldAt Fence.wide m Tryz.prog l (elEnc x) W fun e W' => (e = .returned (.bool true) /\ J (pre ++ [x]) W' /\ KpE K W W') \/ (e = .returned (.bool false) /\ Jx (pre ++ [x]) W' /\ KpE K W W')) :
  ∀ (m : Nat) (e : Gx),e.parts <= m -> ∀ (n : Nat) (x : Xv) (pre : List El) (W : World),ExG K W e x -> P e -> K <= W.heap.size -> J pre W →
   CallsIn Fence.wide n Tryz.prog 144 #[x.agg,.func (.yield l) #[] #[]] W (WPost K J Jx pre (tsOf e) W):=by
 intro m
 induction m with
 | zero => intro e hm; cases e; rw [partsG_mk] at hm; omega
 | succ m ih =>
  intro e hm n x pre W h hp hK hj
  have hgood:=(hP e hp).1
  obtain ⟨W1,hW1⟩ : ∃ W1,W.alloc (.cells x.cells 49) = W1:=⟨_,rfl⟩
  have hb1 : Below K W W1:=hW1 ▸ (Below.refl K W).alloc hK _
  have hbs1 : Below W.heap.size W W1:=hW1 ▸ (Below.refl _ W).alloc (Nat.le_refl _) _
  have hs1 : W1.heap.size = W.heap.size + 1:=by rw [<- hW1]; simp
  have q1 : Blk W1 W.heap.size x.cells 49:=hW1 ▸ Blk.new W _ _
  have hset:=settled_any K e x W1 (h.below hb1 (Nat.le_refl _) (Nat.le_refl _)) hgood (by omega)
  have HX:=Lib.hid h
  have HP:=Lib.hid hp
  have HPP:=Lib.hid hP
  have HJ:=Lib.hid hJ
  have HY:=Lib.hid hY
  have HM:=Lib.hid hm
  have HIH:=Lib.hid ih
  have HG:=Lib.hid hgood
  have HJ0:=Lib.hid hj
  have HT:=Lib.hid (tests_mk e)
  obtain ⟨cs,hcs⟩ : ∃ c,e.settled = c:=⟨_,rfl⟩
  obtain ⟨cc,hcc⟩ : ∃ c,e.composed = c:=⟨_,rfl⟩
  rw [hcs] at hset
  rw [hcs,hcc] at HT
  have HCC:=Lib.hid hcc
  obtain ⟨x',hx'⟩ : ∃ x' : Xv,x' = x:=⟨_,rfl⟩
  rw [<- hx'] at HX
  obtain ⟨xop,xnm,kd,b3,⟨a4,n4,m4⟩,b5,⟨a6,n6,m6⟩,i7,⟨a8,n8,m8⟩⟩:=x
  have HX':=Lib.hid hx'
  have HW1:=Lib.hid hW1
  rw [<- hW1] at hset
  dsimp only [Xv.cells,Xv.agg] at hset
  clear hW1 h hp hP hJ hY hm ih hgood hj hcs hcc hx'
  refine callsIn_of_wp Tryz.func144 rfl trivial ?_
  simp only [Tryz.ntmps144,List.size_toArray,List.length_cons,List.length_nil,Nat.reduceAdd,Nat.reduceSub,Array.replicate_succ,Array.replicate_zero,List.push_toArray,List.append_toArray,List.nil_append,List.cons_append]
  gi_wp2_with fail
  refine ⟨trivial,wide_depth,(callsIn_wide.2 hset).mono ?_⟩
  clear hset
  rintro en W2 ⟨rfl,hb2⟩
  rw [show W.alloc (.cells #[.int .u8 xop,S xnm,.int .u8 kd,.bool b3,.slice a4 n4 m4,.bool b5,.slice a6 n6 m6,.int .i64 i7,.slice a8 n8 m8] 49) = W1 from HW1.out] at hb2
  have hb3 : Below W.heap.size W W2:=hbs1.trans (hb2.mono (by omega))
  have hK2 : Below K W W2:=hb3.mono hK
  have hs2:=hb2.size
  have q2:=q1.below hb2 (by omega)
  cases cs with
  | true =>
   gi_wp2_with fail
   go_ret
   exact .inl ⟨rfl,[],by unfold tsOf; rw [HT.out]; rfl,by rw [List.append_nil]; exact HJ.out _ _ _ HJ0.out (grown_below hb3),hK2,by omega⟩
  | false =>
   obtain ⟨d0,d1,d2,d3,d4,d5,d6,d7,d8⟩:=q2.nine
   have hcom:=composed_any K e x' W2 (HX.out.below hK2 (Nat.le_refl _) (Nat.le_refl _))
   rw [HCC.out] at hcom
   rw [HX'.out] at hcom
   dsimp only [Xv.cells,Xv.agg] at hcom
   gi_wp2_with fail
   refine ⟨trivial,wide_depth,(callsIn_wide.2 hcom).mono ?_⟩
   clear hcom d0 d1 d2 d3 d4 d5 d6 d7 d8
   rintro en W3 ⟨rfl,hb4⟩
   have hb5 : Below W.heap.size W W3:=hb3.trans (hb4.mono (by omega))
   have hK3 : Below K W W3:=hb5.mono hK
   have hs3:=hb4.size
   have q3:=q2.below hb4 (by omega)
   obtain ⟨d0,d1,d2,d3,d4,d5,d6,d7,d8⟩:=q3.nine
   cases cc with
   | false =>
    have hto:=testOf_any K e x' W3 (HX.out.below hK3 (Nat.le_refl _) (Nat.le_refl _)) HG.out (by omega)
    rw [HX'.out] at hto
    dsimp only [Xv.cells,Xv.agg] at hto
    gi_wp2_with fail
    refine ⟨trivial,wide_depth,(callsIn_wide.2 hto).mono ?_⟩
    clear hto d0 d1 d2 d3 d4 d5 d6 d7 d8
    rintro en W4 ⟨y,rfl,hy4,hb6⟩
    have hb7 : Below W.heap.size W W4:=hb5.trans (hb6.mono (by omega))
    have hj4 : J pre W4:=HJ.out _ _ _ HJ0.out (grown_below hb7)
    obtain ⟨fn,tmps,assign,body,hyy,hR⟩:=HY.out (n - 1) pre (testOf e,y) W4 hj4 ⟨hy4,e,HP.out,rfl⟩
    unfold elEnc at hyy
    dsimp only at hyy
    gi_wp2_with fail
    refine ⟨wide_depth,hR.mono ?_⟩
    clear hR hyy
    have HTT : Hid (tsOf e = [testOf e]):=Lib.hid (by unfold tsOf; rw [HT.out]; rfl)
    rintro en W5 (⟨rfl,hj5,hk5⟩ | ⟨rfl,hj5,hk5⟩)
    ·gi_wp2_with fail
     go_ret
     exact .inl ⟨rfl,[(testOf e,y)],by rw [HTT.out]; rfl,hj5,(hb7.mono hK).trans hk5.1,Nat.le_trans hb7.size hk5.1.size⟩
    ·gi_wp2_with fail
     go_ret
     exact .inr ⟨rfl,[(testOf e,y)],[],by rw [HTT.out]; rfl,hj5⟩
   | true =>
    have HTT : Hid (tsOf e = tsL e.args):=Lib.hid (by unfold tsOf tsL; rw [HT.out]; rfl)
    obtain ⟨_,_,_,_,g,hg,hgs⟩:=HX.out.open
    rw [HX'.out] at hg
    obtain ⟨va,vcap,h8,hvl,hvm⟩:=hg.form
    simp only [Sl.val,Value.slice.injEq] at h8
    obtain ⟨rfl,rfl,rfl⟩:=h8
    have HGS : Hid (∀ (k : Nat) (a : Gx),e.args[k]? = some a -> ExG K W a (g k) /\ a.parts <= m /\ P a):=Lib.hid fun k a ha => ⟨hgs k a ha,by
     have h1:=partsG_arg (List.mem_of_getElem? ha)
     have h2:=HM.out
     rw [partsG_args] at h2; omega,(HPP.out e HP.out).2 a (List.mem_of_getElem? ha)⟩
    have HGG:=Lib.hid hg
    unfold maxLen at hvm
    clear hgs hg
    gi_wp2_with fail
    clear d0 d1 d2 d3 d4 d5 d6 d7 d8
    gi_loopw [19] (fun i wr => ∃ (k : Nat) (xs : List El),k <= e.args.length /\ i = .int .i64 k /\ xs.map Prod.fst = tsL (e.args.take k) /\ J (pre ++ xs) wr /\ Below K W wr /\ W.heap.size <= wr.heap.size) (fun i _ => e.args.length - (intOf i).toNat)
    case atStart => exact ⟨0,[],Nat.zero_le _,rfl,by simp [tsL,testsL],by rw [List.append_nil]; exact HJ.out _ _ _ HJ0.out (grown_below hb5),hK3,by omega⟩
    case round =>
     obtain ⟨k,xs,hk,rfl,hxs,hjr,hbr,hsr⟩:=hrel
     by_cases hlt : k < e.args.length
     ·obtain ⟨b,o,cap,he,_,hcm,hbK,hc⟩:=HGG.out.pos (by omega)
      simp only [Sl.val,Value.slice.injEq,true_and] at he
      obtain ⟨rfl,rfl⟩:=he
      obtain ⟨k0,k1,k2,k3,k4,k5,k6,k7,k8⟩:=ex_cells (cells_below hbr hbK hc) hlt
      obtain ⟨ek,hek⟩ : ∃ ek,e.args[k]? = some ek:=⟨_,List.getElem?_eq_getElem hlt⟩
      obtain ⟨hq,hpm,hpk⟩:=HGS.out k ek hek
      obtain ⟨y,hy⟩ : ∃ y,g k = y:=⟨_,rfl⟩
      rw [hy] at hq k0 k1 k2 k3 k4 k5 k6 k7 k8
      have hbl : Below K W (wr.alloc (.cells y.cells 49)):=hbr.alloc (by omega) _
      have hcall:=HIH.out ek hpm (n - 1) y (pre ++ xs) (wr.alloc (.cells y.cells 49)) (hq.below hbl (Nat.le_refl _) (Nat.le_refl _)) hpk (by simp; omega) (HJ.out _ _ _ hjr (World.grownBy_alloc wr _ none))
      have HT1 : Hid (tsL (e.args.take (k + 1)) = tsL (e.args.take k) ++ tsOf ek):=Lib.hid (tsL_take e.args k ek hek)
      have HT2 : Hid (tsL e.args = tsL (e.args.take k) ++ (tsOf ek ++ tsL (e.args.drop (k + 1)))):=Lib.hid (tsL_drop e.args k ek hek)
      have HXS:=Lib.hid hxs
      clear hek hc hxs hy hq hpm hpk
      gi_wp2_with fail
      refine ⟨trivial,wide_depth,hcall.mono ?_⟩
      clear hcall
      unfold WPost
      rintro en W6 (⟨rfl,ys,hys,hj6,hb6,hs6⟩ | ⟨rfl,ys,rest,hys,hj6⟩)
      ·simp only [World.size_alloc] at hs6
       have HYS:=Lib.hid hys
       clear hys
       gi_wp2_with fail
       refine ⟨⟨k + 1,xs ++ ys,by omega,by go_num,?_,?_,hbl.trans hb6,by omega⟩,by simp [intOf]; omega⟩
       ·rw [List.map_append,HXS.out,HYS.out,HT1.out]
       ·rw [<- List.append_assoc]; exact hj6
      ·have HYS:=Lib.hid hys
       clear hys
       gi_wp2_with fail
       go_ret
       refine .inr ⟨rfl,xs ++ ys,rest ++ tsL (e.args.drop (k + 1)),?_,by rw [<- List.append_assoc]; exact hj6⟩
       rw [HTT.out,HT2.out,List.map_append,HXS.out,<- HYS.out]
       simp
     ·obtain rfl : k = e.args.length:=by omega
      rw [List.take_length] at hxs
      have HXS:=Lib.hid hxs
      clear hxs
      gi_wp2_with fail
      go_ret
      exact .inl ⟨rfl,xs,by rw [HXS.out,HTT.out],hjr,hbr,hsr⟩
theorem tests_iter (K Bx : Nat) (P : Gx -> Prop) (hP : ∀ e,P e -> e.good = true /\ ∀ a ∈ e.args,P a) (e : Gx) (x : Xv) :
  IterSt (α:=El) Tryz.prog 143 (fun i => #[] ++ #[.func (.yield i) #[] #[]] ++ #[.pointer (some ⟨Bx,0,none⟩)]) elEnc (fun pre x W => TqX K W x.1 x.2 /\ ∃ a,P a /\ x.1 = testOf a) (fun A B => A.grownBy B none) (KpE K)
   (fun xs W => xs.map Prod.fst = tsOf e) (fun xs W => ∃ rest,xs.map Prod.fst ++ rest = tsOf e) (fun W => K <= W.heap.size /\ Blk W Bx x.cells 49 /\ ExG K W e x /\ P e):=by
 rintro n i J Jx W ⟨hK,hq,hx,hp⟩ hJ hJx hY h0
 have hw:=gwalk_in i K P hP J Jx hJ (fun m pre x W hj hl => YieldAt.anyDepth rfl m (hY pre x W hj hl)) _ e (Nat.le_refl _) (n - 1) x [] W hx hp hK h0
 obtain ⟨d0,d1,d2,d3,d4,d5,d6,d7,d8⟩:=hq.nine
 dsimp only [Xv.agg,Xv.cells] at hw
 clear hY hq hx hP
 refine callsIn_of_wp Tryz.func143 rfl trivial ?_
 simp only [Tryz.ntmps143,List.size_toArray,List.length_cons,List.length_nil,Nat.reduceAdd,Nat.reduceSub,Array.replicate_succ,Array.replicate_zero,List.push_toArray,List.append_toArray,List.nil_append,List.cons_append]
 gi_wp2_with fail
 refine ⟨trivial,wide_depth,hw.mono ?_⟩
 clear hw
 unfold WPost
 rintro en W3 (⟨rfl,ys,hys,hj3,_,_⟩ | ⟨rfl,ys,rest,hys,hj3⟩)
 ·gi_wp2_with fail
  go_end0
  exact ⟨⟨_,rfl⟩,.inl ⟨ys,hys,by simpa using hj3⟩⟩
 ·gi_wp2_with fail
  go_end0
  exact ⟨⟨_,rfl⟩,.inr ⟨ys,⟨rest,hys⟩,by simpa using hj3⟩⟩
theorem tests_any (x : Xv) (w : World) : Calls Tryz.prog 95 #[x.agg] w fun e w' => e = .returned (.func (.func 143) #[] #[.pointer (some ⟨w.heap.size,0,none⟩)]) /\ w.alloc (.cells x.cells 49) = w':=by
 go_enter Tryz.func95,Tryz.ntmps95
 go_wp2_with fail
 go_ret
 exact ⟨rfl,rfl⟩
theorem run_copy_rowC (w : World) (dT sT ty elem c : Nat) (g o dLen dCap : Nat) (a : Addr) (sLen sCap : Nat) (cur : Array Value) (t : TypeId) (cs : List Value)
  (hu : Tryz.prog.underlying dT = some (.slice elem)) (hs : (Tryz.prog.info? elem).map (fun i => i.size) = some c)
  (hg : w.heap[g]? = some (.cells cur t (0,0))) (hn : cs.length = Nat.min sLen dLen * c)
  (hsrc : ∀ j v,cs[j]? = some v -> w.cell? (a.add j) = some v) (hfit : o + cs.length <= cur.size) (h1 : ∀ v ∈ cs,v.oneCell' = true) :
  (Builtin.copy_ #[dT,sT] ty #[.slice (some ⟨g,o,none⟩) dLen dCap,.slice (some a) sLen sCap]).run Tryz.prog w =
   .ok (goInt (Nat.min sLen dLen)) (w.setRow g (cur.toList.take o ++ cs ++ cur.toList.drop (o + cs.length)).toArray):=by
 have hl:=run_loadCells_list (P:=Tryz.prog) w a cs hsrc
 have hst:=run_storeCells_at Tryz.prog g o t cs 0 cur w hg (by simpa using hfit) h1
 cases hq : Tryz.prog.info? elem with
 | none => simp [hq] at hs
 | some i =>
  have hi : i.size = c:=by simpa [hq] using hs
  simp [Builtin.copy_,run_underlying hu,Builtin.lenOf,Builtin.firstCells,sizeOf,typeInfo,hq,hi,<- hn,hl,hst]
theorem wp_copy_runV (w : World) {o : Oper} {a : Act} {K : Act -> World -> Prop} {Q : Exit -> Act -> World -> Prop} (d s : Operand) (t t' : TypeId)
  (ho : o.op = .call { callee:=.builtin .copy,args:=#[d,s],argTypes:=#[t,t'] }) (v u : Value) (hd : a.eval d = v) (hs : a.eval s = u) {v' : Value} {w' : World}
  (hr : (Builtin.copy_ #[t,t'] o.type #[v,u]).run Tryz.prog w = .ok v' w') (h : K (a.put o.dst v') w') : o.wp Tryz.prog a w K Q:=by
 unfold Oper.wp execOp
 simp only [ho,resolve,invoke,builtin,Sem.run_bind,Sem.run_pure,Result.andThen_ok,List.map_toArray,List.map_cons,List.map_nil,hd,hs,hr]
 exact h
theorem wp_append_runV (w : World) {o : Oper} {a : Act} {K : Act -> World -> Prop} {Q : Exit -> Act -> World -> Prop} (s x : Operand) (t t' : TypeId)
  (ho : o.op = .call { callee:=.builtin .append,args:=#[s,x],argTypes:=#[t,t'] }) (v u : Value) (hs : a.eval s = v) (hx : a.eval x = u) {v' : Value} {w' : World}
  (hr : (Builtin.append_ #[t,t'] o.type #[v,u]).run Tryz.prog w = .ok v' w') (h : K (a.put o.dst v') w') : o.wp Tryz.prog a w K Q:=by
 unfold Oper.wp execOp
 simp only [ho,resolve,invoke,builtin,Sem.run_bind,Sem.run_pure,Result.andThen_ok,List.map_toArray,List.map_cons,List.map_nil,hs,hx,hr]
 exact h
theorem grow_list {ROW fl r : List Value} {c n i : Nat} (hR : ROW.take (i * c) = fl.take (i * c)) (hfl : fl.length = n * c) (hi : i <= n) (hr : r.length = c) {cur1 cur2 : List Value} (hlen : (n + 1) * c <= ROW.length)
  (h1 : cur1 = ROW.take (i * c) ++ r ++ ROW.drop (i * c + r.length)) (h2 : cur2 = cur1.take ((i + 1) * c) ++ fl.drop (i * c) ++ cur1.drop ((i + 1) * c + (fl.drop (i * c)).length)) :
  cur2.take ((n + 1) * c) = fl.take (i * c) ++ (r ++ fl.drop (i * c)):=by
 have hic : i * c <= n * c:=Nat.mul_le_mul_right _ hi
 have e1 : (i + 1) * c = i * c + c:=Nat.succ_mul _ _
 have e2 : (n + 1) * c = n * c + c:=Nat.succ_mul _ _
 have hd : (fl.drop (i * c)).length = n * c - i * c:=by rw [List.length_drop,hfl]
 have hl : (fl.take (i * c)).length = i * c:=by rw [List.length_take]; omega
 have t1 : cur1.take ((i + 1) * c) = fl.take (i * c) ++ r:=by
  rw [h1,hR,List.take_append_of_le_length (by rw [List.length_append,hl]; omega),List.take_of_length_le (by rw [List.length_append,hl]; omega)]
 rw [h2,t1,List.append_assoc,List.append_assoc,<- List.append_assoc r,<- List.append_assoc]
 rw [List.take_append_of_le_length (by simp only [List.length_append]; omega),List.take_of_length_le (by simp only [List.length_append]; omega)]
theorem flat_take {c : Nat} {rs : List (List Value)} (h : RowsOk c rs) (i : Nat) : (rs.take i).flatten = rs.flatten.take (i * c):=by
 induction rs generalizing i with
 | nil => simp
 | cons r t ih =>
  cases i with
  | zero => simp
  | succ i =>
   have hr:=(h r (by simp)).1
   rw [List.take_succ_cons,List.flatten_cons,List.flatten_cons,ih (fun x hx => h x (List.mem_cons_of_mem _ hx)),List.take_append,hr,Nat.succ_mul,List.take_of_length_le (l:=r) (by omega)]
   congr 2; omega
theorem flat_drop {c : Nat} {rs : List (List Value)} (h : RowsOk c rs) (i : Nat) : (rs.drop i).flatten = rs.flatten.drop (i * c):=by
 induction rs generalizing i with
 | nil => simp
 | cons r t ih =>
  cases i with
  | zero => simp
  | succ i =>
   have hr:=(h r (by simp)).1
   rw [List.drop_succ_cons,List.flatten_cons,ih (fun x hx => h x (List.mem_cons_of_mem _ hx)),List.drop_append,hr,Nat.succ_mul,List.drop_of_length_le (l:=r) (by omega)]
   simp
theorem RowsOk.take {c : Nat} {rs : List (List Value)} (h : RowsOk c rs) (i : Nat) : RowsOk c (rs.take i):=fun r hr => h r (List.mem_of_mem_take hr)
theorem RowsOk.drop {c : Nat} {rs : List (List Value)} (h : RowsOk c rs) (i : Nat) : RowsOk c (rs.drop i):=fun r hr => h r (List.mem_of_mem_drop hr)
def insR (rs : List (List Value)) (i : Nat) (r : List Value) : List (List Value):=rs.take i ++ r :: rs.drop i
theorem insR_ok {c : Nat} {rs : List (List Value)} (h : RowsOk c rs) {i : Nat} {r : List Value} (hr : RowsOk c [r]) : RowsOk c (insR rs i r):=by
 unfold insR
 exact (h.take i).append (fun x hx => by
  rcases List.mem_cons.1 hx with rfl | hx
  ·exact hr _ (by simp)
  ·exact h.drop i _ hx)
theorem insR_length {rs : List (List Value)} {i : Nat} {r : List Value} (hi : i <= rs.length) : (insR rs i r).length = rs.length + 1:=by
 unfold insR; rw [List.length_append,List.length_cons,List.length_take,List.length_drop]; omega
theorem insR_flat {c : Nat} {rs : List (List Value)} (h : RowsOk c rs) (i : Nat) (r : List Value) : (insR rs i r).flatten = rs.flatten.take (i * c) ++ (r ++ rs.flatten.drop (i * c)):=by
 unfold insR; rw [List.flatten_append,List.flatten_cons,flat_take h,flat_drop h]
theorem shift_list {cur fl r : List Value} {c n i : Nat} (hc : cur.take (n * c) = fl) (hfl : fl.length = n * c) (hi : i <= n) (hr : r.length = c) {cur1 cur2 : List Value}
  (h1 : cur1 = cur.take ((i + 1) * c) ++ fl.drop (i * c) ++ cur.drop ((i + 1) * c + (fl.drop (i * c)).length)) (h2 : cur2 = cur1.take (i * c) ++ r ++ cur1.drop (i * c + r.length)) (hlen : (n + 1) * c <= cur.length) :
  cur2.take ((n + 1) * c) = fl.take (i * c) ++ (r ++ fl.drop (i * c)):=by
 have hic : i * c <= n * c:=Nat.mul_le_mul_right _ hi
 have e1 : (i + 1) * c = i * c + c:=Nat.succ_mul _ _
 have e2 : (n + 1) * c = n * c + c:=Nat.succ_mul _ _
 have hd : (fl.drop (i * c)).length = n * c - i * c:=by rw [List.length_drop,hfl]
 have ht : (cur.take ((i + 1) * c)).length = i * c + c:=by rw [List.length_take]; omega
 have t1 : cur1.take (i * c) = fl.take (i * c):=by
  rw [h1,List.append_assoc,List.take_append_of_le_length (by omega),List.take_take,<- hc,List.take_take]
  congr 1; omega
 have t2 : cur1.drop (i * c + r.length) = fl.drop (i * c) ++ cur.drop ((i + 1) * c + (fl.drop (i * c)).length):=by
  rw [h1,List.append_assoc,hr,<- ht,List.drop_left]
 rw [h2,t1,t2]
 have hl : (fl.take (i * c)).length = i * c:=by rw [List.length_take]; omega
 rw [show fl.take (i * c) ++ r ++ (fl.drop (i * c) ++ cur.drop ((i + 1) * c + (fl.drop (i * c)).length)) = (fl.take (i * c) ++ (r ++ fl.drop (i * c))) ++ cur.drop ((i + 1) * c + (fl.drop (i * c)).length) by simp]
 rw [List.take_append_of_le_length (by simp only [List.length_append]; omega),List.take_of_length_le (by simp only [List.length_append]; omega)]
end Go.Proofs.YtlidpghnlloinaaGreatDoor
