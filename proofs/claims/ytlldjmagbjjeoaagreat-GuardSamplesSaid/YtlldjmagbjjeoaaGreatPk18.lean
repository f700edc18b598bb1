/- Contracts and plain laws, several texts in one (GExpr, GSame, GSearch, GSearch2, GSearch3, GTest0). No conditions beyond those stated. -/
import Derived.Test.YtlldjmagbjjeoaaGreatPk17
set_option maxRecDepth 100000
set_option maxHeartbeats 40000000
namespace Go.Proofs.YtlldjmagbjjeoaaGreat
open Go.RowKit
set_option linter.unusedVariables false
abbrev Xv.vv (x : Xv) : Vv:=⟨x.kd,x.b3,x.s4.val,x.b5,x.s6.val,x.i7⟩
mutual
def ExG (K : Nat) (w : World) : Gx -> Xv -> Prop
 | .mk op nm v es,x => x.op = op /\ x.nm = nm /\ nm.length <= maxLen /\ VlX K w v x.vv /\ ∃ g : Nat -> Xv,RowsV 9 (fun i j => (g i).cell j) K w x.s8.val es.length /\ ExsG K w es g 0
def ExsG (K : Nat) (w : World) : List Gx -> (Nat -> Xv) -> Nat -> Prop
 | [],_,_ => True
 | e :: r,g,i => ExG K w e (g i) /\ ExsG K w r g (i + 1)
end
theorem exsG_iff {K : Nat} {w : World} {es : List Gx} {g : Nat -> Xv} : ∀ {i : Nat},ExsG K w es g i ↔ ∀ (j : Nat) (e : Gx),es[j]? = some e -> ExG K w e (g (i + j)):=by
 induction es with
 | nil => intro i; simp [ExsG]
 | cons e r ih =>
  intro i
  rw [ExsG,ih]
  constructor
  ·rintro ⟨h1,h2⟩ j e' hj
   cases j with
   | zero => simp at hj; subst hj; simpa using h1
   | succ j => have := h2 j e' (by simpa using hj); rwa [show i + 1 + j = i + (j + 1) by omega] at this
  ·intro h
   refine ⟨by simpa using h 0 e rfl,fun j e' hj => ?_⟩
   have := h (j + 1) e' (by simpa using hj)
   rwa [show i + (j + 1) = i + 1 + j by omega] at this
theorem partsG_arg : ∀ {es : List Gx} {e : Gx},e ∈ es -> e.parts <= partsL es:=by
 intro es
 induction es with
 | nil => simp
 | cons x r ih =>
  intro e h
  rw [partsL]
  rcases List.mem_cons.1 h with rfl | h
  ·omega
  ·have := ih h; omega
theorem partsG_mk (o : Int) (n : Str) (v : Vq) (es : List Gx) : (Gx.mk o n v es).parts = partsL es + 1:=by rw [Gx.parts]
theorem exG_below {K K' B : Nat} {w w' : World} (hb : Below B w w') (hB : K <= B) (hK : K <= K') : ∀ (m : Nat) (e : Gx) (x : Xv),e.parts <= m -> ExG K w e x -> ExG K' w' e x:=by
 intro m
 induction m with
 | zero => intro e c hm; cases e; rw [partsG_mk] at hm; omega
 | succ m ih =>
  intro e c hm h
  cases e with
  | mk op nm v es =>
   rw [ExG] at h ⊢
   obtain ⟨h1,h2,h3,h4,g,h5,h6⟩:=h
   refine ⟨h1,h2,h3,h4.below hb hB hK,g,h5.below hb hB hK,exsG_iff.2 fun j e hj => ?_⟩
   have hp:=partsG_arg (List.mem_of_getElem? hj)
   rw [partsG_mk] at hm
   exact ih e _ (by omega) (exsG_iff.1 h6 j e hj)
theorem ExG.below {K K' B : Nat} {w w' : World} {e : Gx} {x : Xv} (h : ExG K w e x) (hb : Below B w w') (hB : K <= B) (hK : K <= K') : ExG K' w' e x:=exG_below hb hB hK _ e x (Nat.le_refl _) h
theorem ExG.open {K : Nat} {w : World} {e : Gx} {x : Xv} (h : ExG K w e x) : x.op = e.op /\ x.nm = e.nm /\ e.nm.length <= maxLen /\ VlX K w e.v x.vv /\ ∃ g : Nat -> Xv,RowsV 9 (fun i j => (g i).cell j) K w x.s8.val e.args.length /\ ∀ (j : Nat) (a : Gx),e.args[j]? = some a -> ExG K w a (g j):=by
 cases e with
 | mk op nm v es =>
  rw [ExG] at h
  obtain ⟨h1,h2,h3,h4,g,h5,h6⟩:=h
  exact ⟨h1,h2,h3,h4,g,h5,fun j a hj => by have := exsG_iff.1 h6 j a hj; rwa [Nat.zero_add] at this⟩
theorem ExG.make {K : Nat} {w : World} {e : Gx} {x : Xv} (h1 : x.op = e.op) (h2 : x.nm = e.nm) (h3 : e.nm.length <= maxLen) (h4 : VlX K w e.v x.vv) (g : Nat -> Xv) (h5 : RowsV 9 (fun i j => (g i).cell j) K w x.s8.val e.args.length)
  (h6 : ∀ (j : Nat) (a : Gx),e.args[j]? = some a -> ExG K w a (g j)) : ExG K w e x:=by
 cases e with
 | mk op nm v es =>
  rw [ExG]
  exact ⟨h1,h2,h3,h4,g,h5,exsG_iff.2 fun j a hj => by rw [Nat.zero_add]; exact h6 j a hj⟩
theorem goodL_iff {l : List Gx} : goodL l = true ↔ ∀ e ∈ l,e.good = true:=by
 induction l with
 | nil => simp [goodL]
 | cons e r ih => rw [goodL]; simp [ih]
theorem good_v {e : Gx} (h : e.good = true) : e.v.good = true:=by
 cases e with
 | mk op nm v es =>
  rw [Gx.good] at h
  simp only [Bool.and_eq_true] at h
  exact h.1
theorem good_args {e : Gx} (h : e.good = true) : ∀ a ∈ e.args,a.good = true:=by
 cases e with
 | mk op nm v es =>
  rw [Gx.good] at h
  simp only [Bool.and_eq_true] at h
  exact goodL_iff.1 h.2
theorem settled_any (K : Nat) (e : Gx) (x : Xv) (w : World) (h : ExG K w e x) (hg : e.good = true) (hK : K <= w.heap.size) : Calls Tryz.prog 39 #[x.agg] w fun en w' => en = .returned (.bool e.settled) /\ Below w.heap.size w w':=by
 obtain ⟨h1,h2,h3,hv,_⟩:=h.open
 have b1 : Below w.heap.size w (w.alloc (.cells x.cells 31)):=(Below.refl _ _).alloc (Nat.le_refl _) _
 have hc:=tlvalid_any w.heap.size e.v x.vv _ (hv.below b1 hK hK) (by simp) (good_v hg)
 have hs : e.settled = (x.op == 1 && x.kd == 1 && e.v.ok):=by unfold Gx.settled; rw [h1,show x.kd = e.v.kd from hv.kd]
 rw [hs]
 obtain ⟨r,hr⟩ : ∃ r,e.v.ok = r:=⟨_,rfl⟩
 rw [hr] at hc ⊢
 by_cases e1 : x.op = 1
 ·by_cases e2 : x.kd = 1
  ·obtain ⟨op,nm,kd,b3,s4,b5,s6,i7,s8⟩:=x
   simp only at e1 e2
   subst e1 e2
   clear h hv hs h1 h2
   go_enter Tryz.func39,Tryz.ntmps39
   go_wp2_with fail
   refine hc.mono ?_
   rintro en w2 ⟨rfl,hb2⟩
   go_wp2_with fail
   go_ret
   exact ⟨by simp,b1.trans (hb2.mono (by simp))⟩
  ·have e3 : (x.kd == 1) = false:=by simp [e2]
   obtain ⟨op,nm,kd,b3,s4,b5,s6,i7,s8⟩:=x
   simp only at e1 e2 e3
   subst e1
   clear h hv hs h1 h2 hc
   simp only [e3]
   go_enter Tryz.func39,Tryz.ntmps39
   go_wp2_with fail
   go_ret
   exact ⟨by simp,b1⟩
 ·have e3 : (x.op == 1) = false:=by simp [e1]
  obtain ⟨op,nm,kd,b3,s4,b5,s6,i7,s8⟩:=x
  simp only at e1 e3
  clear h hv hs h1 h2 hc
  simp only [e3]
  go_enter Tryz.func39,Tryz.ntmps39
  go_wp2_with fail
  go_ret
  exact ⟨by simp,b1⟩
theorem composed_any (K : Nat) (e : Gx) (x : Xv) (w : World) (h : ExG K w e x) : Calls Tryz.prog 40 #[x.agg] w fun en w' => en = .returned (.bool e.composed) /\ Below w.heap.size w w':=by
 obtain ⟨h1,h2,h3,hv,g,hr,_⟩:=h.open
 have b1 : Below w.heap.size w (w.alloc (.cells x.cells 31)):=(Below.refl _ _).alloc (Nat.le_refl _) _
 obtain ⟨op,nm,kd,b3,s4,b5,s6,i7,s8⟩:=x
 obtain ⟨sa,scap,hse,_⟩:=hr.form
 simp only at hse h1
 obtain ⟨a8,n8,m8⟩:=s8
 simp only [Sl.val,Value.slice.injEq] at hse
 obtain ⟨rfl,rfl,rfl⟩:=hse
 obtain ⟨n,hn⟩ : ∃ n,e.args.length = n:=⟨_,rfl⟩
 obtain ⟨r,hr'⟩ : ∃ r,e.composed = r:=⟨_,rfl⟩
 have HR : Hid (r = ((op == 15 || op == 16) && n == 2 || op == 17 && n == 1 || op == 18 && n == 3)):=Lib.hid (by rw [<- hr',<- hn,h1]; rfl)
 rw [hr',hn]
 rw [hn] at b1
 have k2 : ((n : Int) == 2) = (n == 2):=by rw [Bool.eq_iff_iff]; simp; omega
 have k1 : ((n : Int) == 1) = (n == 1):=by rw [Bool.eq_iff_iff]; simp; omega
 have k3 : ((n : Int) == 3) = (n == 3):=by rw [Bool.eq_iff_iff]; simp; omega
 clear h hv h1 h2 h3 hr hn hr'
 by_cases e15 : op = 15
 ·have E:=Lib.hid (HR.out.trans (show _ = (n == 2) by rw [e15]; simp))
  subst e15
  go_enter Tryz.func40,Tryz.ntmps40
  go_wp2_with fail
  go_ret
  exact ⟨by rw [E.out]; rfl,b1⟩
 ·by_cases e16 : op = 16
  ·have E:=Lib.hid (HR.out.trans (show _ = (n == 2) by rw [e16]; simp))
   subst e16
   go_enter Tryz.func40,Tryz.ntmps40
   go_wp2_with fail
   go_ret
   exact ⟨by rw [E.out]; rfl,b1⟩
  ·by_cases e17 : op = 17
   ·have E:=Lib.hid (HR.out.trans (show _ = (n == 1) by rw [e17]; simp))
    subst e17
    go_enter Tryz.func40,Tryz.ntmps40
    go_wp2_with fail
    go_ret
    exact ⟨by rw [E.out]; rfl,b1⟩
   ·by_cases e18 : op = 18
    ·have E:=Lib.hid (HR.out.trans (show _ = (n == 3) by rw [e18]; simp))
     subst e18
     go_enter Tryz.func40,Tryz.ntmps40
     go_wp2_with fail
     go_ret
     exact ⟨by rw [E.out]; rfl,b1⟩
    ·have E:=Lib.hid (HR.out.trans (show _ = false by simp [e15,e16,e17,e18]))
     have x15 : (op == 15) = false:=by simp [e15]
     have x16 : (op == 16) = false:=by simp [e16]
     have x17 : (op == 17) = false:=by simp [e17]
     have x18 : (op == 18) = false:=by simp [e18]
     clear e15 e16 e17 e18
     go_enter Tryz.func40,Tryz.ntmps40
     go_wp2_with fail
     go_ret
     exact ⟨by rw [E.out]; rfl,b1⟩
theorem partsG_args (a : Gx) : a.parts = partsL a.args + 1:=by cases a; exact partsG_mk _ _ _ _
theorem sameL_ne {l m : List Gx} (h : l ≠ m) : sameL l m = false:=by
 cases hs : sameL l m with
 | false => rfl
 | true => exact absurd ((sameL_iff l m).1 hs) h
theorem sameL_len {l m : List Gx} (h : l.length ≠ m.length) : sameL l m = false:=sameL_ne fun e => h (by rw [e])
theorem sameL_at {l m : List Gx} {k : Nat} (h : sameG (l[k]?.getD default) (m[k]?.getD default) = false) : sameL l m = false:=sameL_ne fun e => by
 rw [e,(sameG_iff _ _).2 rfl] at h; cases h
theorem sameL_all {l m : List Gx} (hl : l.length = m.length) (h : ∀ i,i < l.length -> sameG (l[i]?.getD default) (m[i]?.getD default) = true) : sameL l m = true:=by
 rw [sameL_iff]
 refine List.ext_getElem hl fun i h1 h2 => ?_
 have := (sameG_iff _ _).1 (h i h1)
 rwa [List.getElem?_eq_getElem h1,List.getElem?_eq_getElem h2] at this
theorem eqExprs_any (K : Nat) (u v : Value) (l m : List Gx) (g h : Nat -> Xv) (w : World) (hu : RowsV 9 (fun i j => (g i).cell j) K w u l.length) (hv : RowsV 9 (fun i j => (h i).cell j) K w v m.length) (hK : K <= w.heap.size)
  (hc : ∀ i,i < l.length -> i < m.length -> ∀ W,Below w.heap.size w W -> Calls Tryz.prog 58 #[(g i).agg,(h i).agg] W fun e w' => e = .returned (.bool (sameG (l[i]?.getD default) (m[i]?.getD default))) /\ Below W.heap.size W w') :
  Calls Tryz.prog 72 #[u,v,.func (.func 58) #[] #[]] w fun e w' => e = .returned (.bool (sameL l m)) /\ Below w.heap.size w w':=by
 obtain ⟨ua,ucap,rfl,hu1,hu2⟩:=id hu.form
 obtain ⟨va,vcap,rfl,hv1,hv2⟩:=id hv.form
 unfold maxLen at hv2 hu2
 by_cases hne : l.length = m.length
 case neg =>
  have HE:=Lib.hid (sameL_len hne)
  have hne2 : ¬ ((l.length : Int) = (m.length : Int)):=by omega
  clear hc
  go_enter Tryz.func72,Tryz.ntmps72
  go_wp2_with fail
  go_ret
  exact ⟨by rw [HE.out]; rfl,Below.refl _ _⟩
 case pos =>
 obtain ⟨q,hq⟩ : ∃ q,l.length = q:=⟨_,rfl⟩
 have hq' : m.length = q:=by rw [<- hne,hq]
 rw [hq] at hu hu1 ⊢
 rw [hq'] at hv hv1 ⊢
 have HC : Hid (∀ i,i < q -> ∀ W,Below w.heap.size w W -> Calls Tryz.prog 58 #[(g i).agg,(h i).agg] W fun e w' => e = .returned (.bool (sameG (l[i]?.getD default) (m[i]?.getD default))) /\ Below W.heap.size W w'):=Lib.hid fun i hi => hc i (by omega) (by omega)
 have HU:=Lib.hid hu
 have HV:=Lib.hid hv
 have HM:=Lib.hid hq
 have HL:=Lib.hid hq'
 clear hq hq' hne hc hu hv
 have hqq : ((q : Int) != (q : Int)) = false:=by simp
 go_enter Tryz.func72,Tryz.ntmps72
 go_wp2_with fail
 go_loopw [17] (fun i wr => ∃ k : Nat,k <= q /\ i = .int .i64 k /\ Below w.heap.size w wr /\ Hid (∀ i,i < k -> sameG (l[i]?.getD default) (m[i]?.getD default) = true)) (fun i _ => q - (intOf i).toNat)
 case atStart => exact ⟨0,Nat.zero_le _,rfl,Below.refl _ _,Lib.hid fun i hi => absurd hi (Nat.not_lt_zero i)⟩
 case round =>
  obtain ⟨k,hk,rfl,hbr,HALL⟩:=hrel
  by_cases hlt : k < q
  ·obtain ⟨b,o,cap,he,_,_,hbK,hc⟩:=HU.out.pos (by omega)
   simp only [Value.slice.injEq,true_and] at he
   obtain ⟨rfl,rfl⟩:=he
   obtain ⟨b',o',cap',he,_,_,hbK',hc'⟩:=HV.out.pos (by omega)
   simp only [Value.slice.injEq,true_and] at he
   obtain ⟨rfl,rfl⟩:=he
   obtain ⟨c0,c1,c2,c3,c4,c5,c6,c7,c8⟩:=ex_cells (cells_below hbr (by omega) hc) hlt
   obtain ⟨f0,f1,f2,f3,f4,f5,f6,f7,f8⟩:=ex_cells (cells_below hbr (by omega) hc') hlt
   have hcall:=HC.out k hlt
   obtain ⟨r,hr⟩ : ∃ r,sameG (l[k]?.getD default) (m[k]?.getD default) = r:=⟨_,rfl⟩
   rw [hr] at hcall
   obtain ⟨y,hy⟩ : ∃ y,g k = y:=⟨_,rfl⟩
   obtain ⟨z,hz⟩ : ∃ z,h k = z:=⟨_,rfl⟩
   rw [hy] at c0 c1 c2 c3 c4 c5 c6 c7 c8 hcall
   rw [hz] at f0 f1 f2 f3 f4 f5 f6 f7 f8 hcall
   have hsr:=hbr.size
   have hbl : b < wr.heap.size:=by omega
   have hbl' : b' < wr.heap.size:=by omega
   have hbW : Below w.heap.size w ((wr.alloc (.cells y.cells 31)).alloc (.cells z.cells 31)):=(hbr.alloc (by omega) _).alloc (by simp; omega) _
   have hcall2:=hcall _ hbW
   have HR:=Lib.hid hr
   have HBW:=Lib.hid hbW
   clear hy hz hc hc' hcall hr hbW
   go_wp2_with fail
   refine hcall2.mono ?_
   rintro e w2 ⟨rfl,hb2⟩
   clear hcall2 c0 c1 c2 c3 c4 c5 c6 c7 c8 f0 f1 f2 f3 f4 f5 f6 f7 f8
   have hb3 : Below w.heap.size w w2:=HBW.out.trans (hb2.mono (by simp; omega))
   cases r with
   | false =>
    have HE:=Lib.hid (sameL_at HR.out)
    go_wp2_with fail
    go_ret
    exact ⟨by rw [HE.out]; rfl,hb3⟩
   | true =>
    go_wp2_with fail
    refine ⟨⟨k + 1,by omega,by go_num,hb3,Lib.hid fun i hi => ?_⟩,by simp [intOf]; omega⟩
    by_cases hik : i = k
    ·rw [hik]; exact HR.out
    ·exact HALL.out i (by omega)
  ·obtain rfl : k = q:=by omega
   have HE:=Lib.hid (sameL_all (by rw [HM.out,HL.out]) (fun i hi => HALL.out i (by have := HM.out; omega)))
   go_wp2_with fail
   go_ret
   exact ⟨by rw [HE.out]; rfl,hbr⟩
theorem sameG_mk (a b : Gx) : sameG a b = (a.op == b.op && a.nm == b.nm && a.v == b.v && sameL a.args b.args):=by
 cases a; cases b; rw [sameG]; rfl
theorem gsame_at (m : Nat) : ∀ (K : Nat) (a b : Gx) (x y : Xv) (w : World),a.parts <= m -> ExG K w a x -> ExG K w b y -> K <= w.heap.size →
  Calls Tryz.prog 58 #[x.agg,y.agg] w fun e w' => e = .returned (.bool (sameG a b)) /\ Below w.heap.size w w':=by
 induction m with
 | zero => intro K a b x y w hm; cases a; rw [partsG_mk] at hm; omega
 | succ m ih =>
  intro K a b x y w hm ha hb hK
  obtain ⟨a1,a2,a3,av,g,ag,ags⟩:=ha.open
  obtain ⟨b1,b2,b3,bv,h,bg,bgs⟩:=hb.open
  have hbW : Below w.heap.size w ((w.alloc (.cells x.cells 31)).alloc (.cells y.cells 31)):=((Below.refl _ _).alloc (Nat.le_refl _) _).alloc (by simp) _
  have hc1:=tlsame_any w.heap.size a.v b.v x.vv y.vv _ (av.below hbW hK hK) (bv.below hbW hK hK) (by simp; omega)
  have HC2 : Hid (∀ W,Below w.heap.size w W -> Calls Tryz.prog 72 #[x.s8.val,y.s8.val,.func (.func 58) #[] #[]] W fun e w' => e = .returned (.bool (sameL a.args b.args)) /\ Below W.heap.size W w'):=Lib.hid fun W hW => by
   have hs:=hW.size
   refine eqExprs_any W.heap.size _ _ _ _ g h W (ag.below hW hK (by omega)) (bg.below hW hK (by omega)) (Nat.le_refl _) fun i hi hi' W' hW' => ?_
   have hs':=hW'.size
   have hWW : Below w.heap.size w W':=hW.trans (hW'.mono hs)
   have e1 : a.args[i]? = some (a.args[i]?.getD default):=by rw [List.getElem?_eq_getElem hi]; rfl
   have e2 : b.args[i]? = some (b.args[i]?.getD default):=by rw [List.getElem?_eq_getElem hi']; rfl
   have hp : (a.args[i]?.getD default).parts <= m:=by
    have := partsG_arg (List.mem_of_getElem? e1)
    rw [partsG_args] at hm; omega
   exact ih W'.heap.size _ _ _ _ W' hp ((ags i _ e1).below hWW hK (by omega)) ((bgs i _ e2).below hWW hK (by omega)) (Nat.le_refl _)
  have hs : sameG a b = (x.op == y.op && x.nm == y.nm && a.v == b.v && sameL a.args b.args):=by rw [sameG_mk,a1,a2,b1,b2]
  obtain ⟨r,hr⟩ : ∃ r,sameG a b = r:=⟨_,rfl⟩
  obtain ⟨r3,hr3⟩ : ∃ r,(a.v == b.v) = r:=⟨_,rfl⟩
  obtain ⟨r4,hr4⟩ : ∃ r,sameL a.args b.args = r:=⟨_,rfl⟩
  rw [hr,hr3,hr4] at hs
  rw [hr3] at hc1
  rw [hr4] at HC2
  rw [hr]
  have HS:=Lib.hid hs
  have HBW:=Lib.hid hbW
  have hxl : x.nm.length <= maxLen:=by rw [a2]; exact a3
  have hyl : y.nm.length <= maxLen:=by rw [b2]; exact b3
  obtain ⟨c1,hc1'⟩ : ∃ c,(x.op == y.op) = c:=⟨_,rfl⟩
  obtain ⟨c2,hc2'⟩ : ∃ c,(x.nm == y.nm) = c:=⟨_,rfl⟩
  rw [hc1',hc2'] at HS
  clear hs hr hr3 hr4 ha hb ih a1 a2 a3 av ag ags b1 b2 b3 bv bg bgs hm hbW
  obtain ⟨xop,xnm,xkd,xb3,⟨x4,x4n,x4m⟩,xb5,⟨x6,x6n,x6m⟩,xi7,⟨x8,x8n,x8m⟩⟩:=x
  obtain ⟨yop,ynm,ykd,yb3,⟨y4,y4n,y4m⟩,yb5,⟨y6,y6n,y6m⟩,yi7,⟨y8,y8n,y8m⟩⟩:=y
  dsimp only at hc1' hc2' hxl hyl
  cases c1 with
  | false =>
   go_enter Tryz.func58,Tryz.ntmps58
   go_wp2_with fail
   go_ret
   exact ⟨by rw [HS.out]; rfl,HBW.out⟩
  | true =>
   cases c2 with
   | false =>
    go_enter Tryz.func58,Tryz.ntmps58
    go_wp2_with fail
    go_ret
    exact ⟨by rw [HS.out]; rfl,HBW.out⟩
   | true =>
    have q1 : Blk ((w.alloc (.cells (⟨xop,xnm,xkd,xb3,⟨x4,x4n,x4m⟩,xb5,⟨x6,x6n,x6m⟩,xi7,⟨x8,x8n,x8m⟩⟩ : Xv).cells 31)).alloc (.cells (⟨yop,ynm,ykd,yb3,⟨y4,y4n,y4m⟩,yb5,⟨y6,y6n,y6m⟩,yi7,⟨y8,y8n,y8m⟩⟩ : Xv).cells 31)) w.heap.size _ 31:=(Blk.new w _ _).alloc _
    have q2:=Blk.new (w.alloc (.cells (⟨xop,xnm,xkd,xb3,⟨x4,x4n,x4m⟩,xb5,⟨x6,x6n,x6m⟩,xi7,⟨x8,x8n,x8m⟩⟩ : Xv).cells 31)) (⟨yop,ynm,ykd,yb3,⟨y4,y4n,y4m⟩,yb5,⟨y6,y6n,y6m⟩,yi7,⟨y8,y8n,y8m⟩⟩ : Xv).cells 31
    rw [World.size_alloc] at q2
    have HQ1:=Lib.hid q1
    have HQ2:=Lib.hid q2
    clear q1 q2
    go_enter Tryz.func58,Tryz.ntmps58
    go_wp2_with fail
    refine hc1.mono ?_
    rintro e w2 ⟨rfl,hb2⟩
    have hb3 : Below w.heap.size w w2:=HBW.out.trans (hb2.mono (by simp; omega))
    cases r3 with
    | false =>
     go_wp2_with fail
     go_ret
     exact ⟨by rw [HS.out]; rfl,hb3⟩
    | true =>
     have d8:=((HQ1.out.below hb2 (by simp; omega)).nine).2.2.2.2.2.2.2.2
     have f8:=((HQ2.out.below hb2 (by simp)).nine).2.2.2.2.2.2.2.2
     have hcall:=HC2.out w2 hb3
     go_wp2_with fail
     refine hcall.mono ?_
     rintro e w3 ⟨rfl,hb4⟩
     go_wp2_with fail
     go_ret
     exact ⟨by rw [HS.out]; rfl,hb3.trans (hb4.mono hb3.size)⟩
theorem gsame_any (K : Nat) (a b : Gx) (x y : Xv) (w : World) (ha : ExG K w a x) (hb : ExG K w b y) (hK : K <= w.heap.size) :
  Calls Tryz.prog 58 #[x.agg,y.agg] w fun e w' => e = .returned (.bool (sameG a b)) /\ Below w.heap.size w w':=gsame_at a.parts K a b x y w (Nat.le_refl _) ha hb hK
theorem ssearch_any (n : Nat) (p : Nat -> Bool) (p1 p2 : Value) (w : World) (hn : n <= 2 ^ 38) (hmono : ∀ i j,i <= j -> p i = true -> p j = true)
  (hc : ∀ i : Nat,i < n -> ∀ W,Below w.heap.size w W -> Calls Tryz.prog 52 #[.int .i64 i,p1,p2] W fun e w' => e = .returned (.bool (p i)) /\ Below W.heap.size W w') :
  Calls Tryz.prog 51 #[.int .i64 n,.func (.func 52) #[] #[p1,p2]] w fun e w' => ∃ r : Nat,e = .returned (.int .i64 r) /\ r <= n /\ (∀ i,i < r -> p i = false) /\ (∀ i,r <= i -> i < n -> p i = true) /\ Below w.heap.size w w':=by
 have HC:=Lib.hid hc
 have HM:=Lib.hid hmono
 clear hc hmono
 go_enter Tryz.func51,Tryz.ntmps51
 go_wp2_with fail
 go_loopw [5,6] (fun x y wr => ∃ i j : Nat,x = .int .i64 i /\ y = .int .i64 j /\ i <= j /\ j <= n /\ Hid (∀ k,k < i -> p k = false) /\ Hid (∀ k,j <= k -> k < n -> p k = true) /\ Below w.heap.size w wr) (fun x y _ => (intOf y).toNat - (intOf x).toNat)
 case atStart => exact ⟨0,n,rfl,rfl,Nat.zero_le _,Nat.le_refl _,Lib.hid fun k hk => absurd hk (Nat.not_lt_zero k),Lib.hid fun k h1 h2 => by omega,Below.refl _ _⟩
 case round =>
  obtain ⟨i,j,rfl,rfl,hij,hj,HA,HB,hb⟩:=hrel
  by_cases hlt : i < j
  ·have hdv : ((i : Int) + (j : Int)) / 2 = (((i + j) / 2 : Nat) : Int):=by omega
   obtain ⟨h,hh⟩ : ∃ h,(i + j) / 2 = h:=⟨_,rfl⟩
   have h1 : i <= h:=by omega
   have h2 : h < j:=by omega
   rw [hh] at hdv
   have hcall:=HC.out h (by omega) wr hb
   obtain ⟨c,hcp⟩ : ∃ c,p h = c:=⟨_,rfl⟩
   have HP:=Lib.hid hcp
   rw [hcp] at hcall
   clear hcp hh
   go_wp2_with fail
   refine hcall.mono ?_
   rintro e w2 ⟨rfl,hb2⟩
   have hb' : Below w.heap.size w w2:=hb.trans (hb2.mono hb.size)
   clear hcall
   cases c with
   | false =>
    go_wp2_with fail
    refine ⟨⟨h + 1,j,by simp,rfl,by omega,hj,Lib.hid fun k hk => ?_,HB,hb'⟩,by simp [intOf]; omega⟩
    cases hpk : p k with
    | false => rfl
    | true => have := HM.out k h (by omega) hpk; rw [HP.out] at this; cases this
   | true =>
    go_wp2_with fail
    exact ⟨⟨i,h,rfl,rfl,h1,by omega,HA,Lib.hid fun k hk hkn => HM.out h k hk HP.out,hb'⟩,by simp [intOf]; omega⟩
  ·obtain rfl : i = j:=by omega
   go_wp2_with fail
   go_ret
   exact ⟨i,rfl,hj,HA.out,HB.out,hb⟩
def Vv.cell (x : Vv) : Nat -> Value
 | 0 => .int .u8 x.kd
 | 1 => .bool x.b1
 | 2 => x.s1
 | 3 => .bool x.b2
 | 4 => x.s2
 | _ => .int .i64 x.i
def CutsX (K : Nat) (w : World) (v : Value) (l : List Vq) : Prop:=∃ g : Nat -> Vv,RowsV 6 (fun i j => (g i).cell j) K w v l.length /\ ∀ i,i < l.length -> VlX K w (l[i]?.getD v0) (g i)
theorem CutsX.below {K K' B : Nat} {w w' : World} {v : Value} {l : List Vq} (h : CutsX K w v l) (hb : Below B w w') (hB : K <= B) (hK : K <= K') : CutsX K' w' v l:=by
 obtain ⟨g,h1,h2⟩:=h
 exact ⟨g,h1.below hb hB hK,fun i hi => (h2 i hi).below hb hB hK⟩
theorem CutsX.form {K : Nat} {w : World} {v : Value} {l : List Vq} (h : CutsX K w v l) : ∃ a cap,v = .slice a l.length cap /\ l.length <= cap /\ cap <= maxLen:=by
 obtain ⟨g,h1,h2⟩:=h; exact h1.form
structure CutsOk (kd : Int) (l : List Vq) : Prop where
 good : ∀ c ∈ l,c.good = true
 ok : ∀ c ∈ l,c.ok = true
 kd : ∀ c ∈ l,c.kd = kd
 inc : l.Pairwise vlt
theorem CutsOk.at {kd : Int} {l : List Vq} (h : CutsOk kd l) {i : Nat} (hi : i < l.length) : (l[i]?.getD v0).good = true /\ (l[i]?.getD v0).ok = true /\ (l[i]?.getD v0).kd = kd:=by
 rw [List.getElem?_eq_getElem hi]; exact ⟨h.good _ (List.getElem_mem hi),h.ok _ (List.getElem_mem hi),h.kd _ (List.getElem_mem hi)⟩
theorem cmpI_ge (a b : Int) : decide (0 <= cmpI a b) = decide (b <= a):=by
 unfold cmpI; split
 ·simp; omega
 ·split
  ·simp; omega
  ·simp; omega
theorem cmpI_zero (a b : Int) : (cmpI a b == 0) = decide (a = b):=by
 unfold cmpI; split
 ·rw [Bool.eq_iff_iff]; simp; omega
 ·split
  ·rw [Bool.eq_iff_iff]; simp; omega
  ·rw [Bool.eq_iff_iff]; simp; omega
theorem vcmp_ge (a b : Vq) : decide (0 <= vcmp a b) = vle b a:=cmpI_ge _ _
theorem vcmp_zero (a b : Vq) : (vcmp a b == 0) = veq a b:=cmpI_zero _ _
theorem val_cells {g : Nat -> Vv} {w : World} {b o k n : Nat} (hc : ∀ i,i < n -> ∀ j,j < 6 -> w.cell? ⟨b,o + (i * 6 + j),none⟩ = some ((g i).cell j)) (hk : k < n) :
  w.cell? ⟨b,o + k * 6,none⟩ = some (.int .u8 (g k).kd) /\ w.cell? ⟨b,o + k * 6 + 1,none⟩ = some (.bool (g k).b1) /\ w.cell? ⟨b,o + k * 6 + 2,none⟩ = some (g k).s1 /\ w.cell? ⟨b,o + k * 6 + 3,none⟩ = some (.bool (g k).b2) ∧
  w.cell? ⟨b,o + k * 6 + 4,none⟩ = some (g k).s2 /\ w.cell? ⟨b,o + k * 6 + 5,none⟩ = some (.int .i64 (g k).i):=by
 have h:=hc k hk
 exact ⟨h 0 (by omega),h 1 (by omega),h 2 (by omega),h 3 (by omega),h 4 (by omega),h 5 (by omega)⟩
theorem searchF_any (K P1 P2 sb so : Nat) (cv : Value) (l : List Vq) (kd : Int) (v : Vq) (x : Vv) (i : Nat) (w : World) (hl : CutsX K w cv l) (hv : VlX K w v x) (ho : CutsOk kd l) (hvo : v.good = true) (hvo1 : v.ok = true) (hvk : v.kd = kd) (hK : K <= w.heap.size)
  (q1 : Blk w P1 #[.pointer (some ⟨sb,so,none⟩)] 83) (q2 : Blk w P2 x.cells 28) (hs : w.cell? ⟨sb,so + 10,none⟩ = some cv) (hsb : sb < w.heap.size) (hi : i < l.length) :
  Calls Tryz.prog 52 #[.int .i64 i,.pointer (some ⟨P1,0,none⟩),.pointer (some ⟨P2,0,none⟩)] w fun e w' => e = .returned (.bool (vle v (l[i]?.getD v0))) /\ Below w.heap.size w w':=by
 obtain ⟨hok,hok1,hkd⟩:=ho.at hi
 obtain ⟨g,hg,hgi⟩:=hl
 obtain ⟨cb,co,cap,rfl,hn,hm,hbK,hc⟩:=hg.pos (by omega)
 have hgx:=hgi i hi
 have hcmp : ∀ W,Below w.heap.size w W -> Calls Tryz.prog 29 #[(g i).agg,x.agg] W fun e w' => e = .returned (.int .i64 (vcmp (l[i]?.getD v0) v)) /\ Below W.heap.size W w':=fun W hb =>
  gcompare_any W.heap.size _ v _ x W (hgx.below hb hK (Nat.le_trans hK hb.size)) (hv.below hb hK (Nat.le_trans hK hb.size)) (Nat.le_refl _) hok hvo hok1 hvo1 (by rw [hkd,hvk])
 have hge:=vcmp_ge (l[i]?.getD v0) v
 obtain ⟨r,hr⟩ : ∃ r,vle v (l[i]?.getD v0) = r:=⟨_,rfl⟩
 rw [hr] at hge ⊢
 obtain ⟨ci,hci⟩ : ∃ ci,vcmp (l[i]?.getD v0) v = ci:=⟨_,rfl⟩
 simp only [hci] at hcmp hge
 obtain ⟨n,hnl⟩ : ∃ n,l.length = n:=⟨_,rfl⟩
 rw [hnl] at hi hc hn hs
 have HH:=Lib.hid hcmp
 have hcells:=val_cells hc hi
 have hcc : ∀ W,Below w.heap.size w W -> W.cell? ⟨cb,co + i * 6,none⟩ = some (.int .u8 (g i).kd) /\ W.cell? ⟨cb,co + i * 6 + 1,none⟩ = some (.bool (g i).b1) /\ W.cell? ⟨cb,co + i * 6 + 2,none⟩ = some (g i).s1 /\ W.cell? ⟨cb,co + i * 6 + 3,none⟩ = some (.bool (g i).b2) ∧
   W.cell? ⟨cb,co + i * 6 + 4,none⟩ = some (g i).s2 /\ W.cell? ⟨cb,co + i * 6 + 5,none⟩ = some (.int .i64 (g i).i):=fun W hb => by
  have hbl : cb < w.heap.size:=by omega
  exact ⟨(hb.cell (p:=⟨cb,_,none⟩) hbl).trans hcells.1,(hb.cell (p:=⟨cb,_,none⟩) hbl).trans hcells.2.1,(hb.cell (p:=⟨cb,_,none⟩) hbl).trans hcells.2.2.1,(hb.cell (p:=⟨cb,_,none⟩) hbl).trans hcells.2.2.2.1,(hb.cell (p:=⟨cb,_,none⟩) hbl).trans hcells.2.2.2.2.1,(hb.cell (p:=⟨cb,_,none⟩) hbl).trans hcells.2.2.2.2.2⟩
 have HCC:=Lib.hid hcc
 clear hr hci hnl hcmp hgx hgi hg hc hcells hcc hok hok1 hkd ho hv hvo hvo1 hvk
 obtain ⟨y,hy⟩ : ∃ y,g i = y:=⟨_,rfl⟩
 simp only [hy] at HH HCC
 clear hy
 obtain ⟨kx,m1,x1,m2,x2,xi⟩:=x
 obtain ⟨ky,n1,y1,n2,y2,yi⟩:=y
 go_enter Tryz.func52,Tryz.ntmps52
 go_upto_region 1 with fail
 refine region_plain (fun W' => Below w.heap.size w W') [] (by kernel_rfl) ?_
 have qS : (fun W' => Below w.heap.size w W') w.drew:=below_quiet (Below.refl _ _)
 refine wpAnyD_tk (i:=0) (v:=.pointer (some ⟨sb,so,none⟩)) rfl (.inl ⟨by kernel_rfl,fun W' hS => by have d0:=(q1.below hS q1.lt).at (i:=0) rfl; go_simp⟩) qS ?_
 refine wpAnyD_tp (i:=1) (v:=.pointer (some ⟨sb,so,none⟩)) rfl qS ?_
 refine wpAnyD_tp (i:=2) (v:=.pointer (some ⟨sb,so + 10,none⟩)) rfl qS ?_
 refine wpAnyD_tk (i:=3) (v:=.slice (some ⟨cb,co,none⟩) n cap) rfl (.inl ⟨by kernel_rfl,fun W' hS => by have d:=(hS.cell (p:=⟨sb,so + 10,none⟩) hsb).trans hs; go_simp⟩) qS ?_
 refine wpAnyD_tp (i:=4) (v:=.int .i64 i) rfl qS ?_
 refine wpAnyD_tp (i:=5) (v:=.pointer (some ⟨cb,co + i * 6,none⟩)) rfl qS ?_
 refine wpAnyD_tk (i:=6) (v:=.agg #[.int .u8 ky,.bool n1,y1,.bool n2,y2,.int .i64 yi]) rfl (.inl ⟨by kernel_rfl,fun W' hS => by obtain ⟨d0,d1,d2,d3,d4,d5⟩:=HCC.out W' hS; go_simp⟩) qS ?_
 refine wpAnyD_tk (i:=7) (v:=.agg #[.int .u8 kx,.bool m1,x1,.bool m2,x2,.int .i64 xi]) rfl (.inl ⟨by kernel_rfl,fun W' hS => by have d0:=(q2.below hS q2.lt).at (i:=0) rfl; have d1:=(q2.below hS q2.lt).at (i:=1) rfl; have d2:=(q2.below hS q2.lt).at (i:=2) rfl; have d3:=(q2.below hS q2.lt).at (i:=3) rfl; have d4:=(q2.below hS q2.lt).at (i:=4) rfl; have d5:=(q2.below hS q2.lt).at (i:=5) rfl; go_simp⟩) qS ?_
 refine wpAnyD_on (i:=8) rfl ?_
 go_simp
 refine (HH.out _ qS).mono ?_
 rintro e w3 ⟨rfl,hb3⟩
 have qS3 : Below w.heap.size w w3:=qS.trans (hb3.mono qS.size)
 go_simp
 refine wpAnyD_tp (i:=9) (v:=.bool r) rfl qS3 ?_
 refine wpAnyD_on (i:=10) rfl ?_
 go_simp
 refine wpAnyD_done (by kernel_rfl) ?_ _
 go_wp2_with fail
 go_ret
 exact ⟨rfl,qS3⟩
theorem vbot_nonneg (v : Vq) : 0 <= v.bot:=by unfold Vq.bot; split <;> omega
theorem vbot_pos {v : Vq} (h : v.ok = true) : 0 < v.bot:=by
 unfold Vq.bot
 cases hf : v.fr with
 | false => simp
 | true =>
  simp only [if_true]
  unfold Vq.ok frOk at h
  rw [hf] at h
  simp only [if_true,Bool.and_eq_true,decide_eq_true_eq,beq_iff_eq,bne_iff_ne,ne_eq,Bool.not_eq_true'] at h
  obtain ⟨h0,⟨⟨⟨⟨⟨h1,h2⟩,h3⟩,h4⟩,h5⟩,h6⟩,h7⟩:=h
  have hl : lval v.l2 ≠ 0:=by
   unfold wOk at h4
   rw [if_neg h6] at h4
   simp only [Bool.and_eq_true,bne_iff_ne,ne_eq] at h4
   have : ∀ l : List Nat,l.length ≠ 0 -> l[l.length - 1]?.getD 0 ≠ 0 -> lval l ≠ 0:=by
    intro l
    induction l with
    | nil => intro h; exact absurd rfl h
    | cons d r ih =>
     intro _ hl
     unfold lval
     cases r with
     | nil => simp at hl; omega
     | cons d' r' =>
      have hi:=ih (by simp) (by simpa using hl)
      omega
   exact this _ h6 h4.2
  omega
theorem vle_vlt {v a b : Vq} (ha : a.ok = true) (h1 : vle v a = true) (h2 : vlt a b) : vle v b = true:=by
 unfold vle vlt at *
 rw [decide_eq_true_eq] at *
 have pa:=vbot_pos ha
 have nb:=vbot_nonneg b
 have nv:=vbot_nonneg v
 have e1:=Int.mul_le_mul_of_nonneg_right h1 nb
 have e2:=Int.mul_le_mul_of_nonneg_right (Int.le_of_lt h2) nv
 refine Int.le_of_mul_le_mul_right (a:=a.bot) ?_ pa
 calc v.top * b.bot * a.bot = v.top * a.bot * b.bot:=by rw [Int.mul_assoc,Int.mul_comm b.bot,<- Int.mul_assoc]
  _ <= a.top * v.bot * b.bot:=e1
  _ = a.top * b.bot * v.bot:=by rw [Int.mul_assoc,Int.mul_comm v.bot,<- Int.mul_assoc]
  _ <= b.top * a.bot * v.bot:=e2
  _ = b.top * v.bot * a.bot:=by rw [Int.mul_assoc,Int.mul_comm a.bot,<- Int.mul_assoc]
def atLeast (l : List Vq) (v : Vq) (i : Nat) : Bool:=if i < l.length then vle v (l[i]?.getD v0) else true
theorem atLeast_mono {kd : Int} {l : List Vq} (h : CutsOk kd l) (v : Vq) (i j : Nat) (hij : i <= j) (hi : atLeast l v i = true) : atLeast l v j = true:=by
 unfold atLeast at *
 by_cases hj : j < l.length
 ·rw [if_pos hj]
  rw [if_pos (by omega)] at hi
  by_cases he : i = j
  ·subst he; exact hi
  ·have := List.pairwise_iff_getElem.1 h.inc i j (by omega) hj (by omega)
   have hok:=(h.at (show i < l.length by omega)).2.1
   rw [List.getElem?_eq_getElem (show i < l.length by omega),Option.getD_some] at hi hok
   rw [List.getElem?_eq_getElem hj,Option.getD_some]
   exact vle_vlt hok hi this
 ·rw [if_neg hj]
theorem srch_is {l : List Vq} {v : Vq} {r : Nat} (h1 : r <= l.length) (h2 : ∀ i,i < r -> atLeast l v i = false) (h3 : ∀ i,r <= i -> i < l.length -> atLeast l v i = true) : srch l v = r:=by
 unfold srch
 by_cases hr : r < l.length
 ·rw [List.findIdx_eq hr]
  constructor
  ·have := h3 r (Nat.le_refl _) hr
   unfold atLeast at this
   rw [if_pos hr,List.getElem?_eq_getElem hr,Option.getD_some] at this
   exact this
  ·intro j hj
   have := h2 j hj
   unfold atLeast at this
   rw [if_pos (by omega),List.getElem?_eq_getElem (by omega),Option.getD_some] at this
   exact this
 ·obtain rfl : r = l.length:=by omega
  rw [List.findIdx_eq_length]
  intro x hx
  obtain ⟨j,hj,rfl⟩:=List.mem_iff_getElem.1 hx
  have := h2 j hj
  unfold atLeast at this
  rw [if_pos hj,List.getElem?_eq_getElem hj,Option.getD_some] at this
  exact this
theorem srch_le (l : List Vq) (v : Vq) : srch l v <= l.length:=List.findIdx_le_length
theorem gsearch_any (K sb so : Nat) (cv : Value) (l : List Vq) (kd : Int) (v : Vq) (x : Vv) (w : World) (hl : CutsX K w cv l) (hv : VlX K w v x) (ho : CutsOk kd l) (hvo : v.good = true) (hvo1 : v.ok = true) (hvk : v.kd = kd) (hK : K <= w.heap.size)
  (hs : w.cell? ⟨sb,so + 10,none⟩ = some cv) (hsb : sb < w.heap.size) (hbig : l.length <= 2 ^ 38) :
  Calls Tryz.prog 28 #[.pointer (some ⟨sb,so,none⟩),x.agg] w fun e w' => e = .returned (.tuple #[.int .i64 (srch l v),.bool (fnd l v)]) /\ Below w.heap.size w w':=by
 obtain ⟨x1,hx1⟩ : ∃ y : Vv,y = x:=⟨_,rfl⟩
 obtain ⟨W1,hW1⟩ : ∃ W1,(w.alloc (.cells #[.pointer (some ⟨sb,so,none⟩)] 83)).alloc (.cells x.cells 28) = W1:=⟨_,rfl⟩
 have b1 : Below w.heap.size w W1:=by rw [<- hW1]; exact ((Below.refl _ _).alloc (Nat.le_refl _) _).alloc (by simp) _
 have q1 : Blk W1 w.heap.size #[.pointer (some ⟨sb,so,none⟩)] 83:=by rw [<- hW1]; exact (Blk.new w _ _).alloc _
 have q2 : Blk W1 (w.heap.size + 1) x.cells 28:=by
  rw [<- hW1]
  have := Blk.new (w.alloc (.cells #[.pointer (some ⟨sb,so,none⟩)] 83)) x.cells 28
  rwa [World.size_alloc] at this
 have s1 : W1.heap.size = w.heap.size + 2:=by rw [<- hW1]; simp
 obtain ⟨B,hB⟩ : ∃ B,w.heap.size = B:=⟨_,rfl⟩
 rw [hB] at hK b1 q1 q2 s1 hsb ⊢
 have hl1:=hl.below b1 hK hK
 have hv1:=hv.below b1 hK hK
 have hs1 : W1.cell? ⟨sb,so + 10,none⟩ = some cv:=(b1.cell (p:=⟨sb,so + 10,none⟩) hsb).trans hs
 have hF : ∀ i : Nat,i < l.length -> ∀ W,Below W1.heap.size W1 W -> Calls Tryz.prog 52 #[.int .i64 i,.pointer (some ⟨B,0,none⟩),.pointer (some ⟨B + 1,0,none⟩)] W fun e w' => e = .returned (.bool (atLeast l v i)) /\ Below W.heap.size W w':=fun i hi W hb => by
  have hWs:=hb.size
  have := searchF_any B B (B + 1) sb so cv l kd v x i W (hl1.below hb (by omega) (Nat.le_refl _)) (hv1.below hb (by omega) (Nat.le_refl _)) ho hvo hvo1 hvk (by omega) (q1.below hb q1.lt) (q2.below hb q2.lt) ((hb.cell (p:=⟨sb,so + 10,none⟩) (by simp; omega)).trans hs1) (by omega) hi
  unfold atLeast
  rw [if_pos hi]
  exact this
 have hss:=ssearch_any l.length (atLeast l v) _ _ W1 hbig (atLeast_mono ho v) hF
 obtain ⟨a,cap,rfl,hn,hm⟩:=hl.form
 have HB:=Lib.hid hB
 have HW:=Lib.hid hW1
 have HBIG:=Lib.hid hbig
 obtain ⟨n,hnl⟩ : ∃ n,l.length = n:=⟨_,rfl⟩
 have HN:=Lib.hid hnl
 rw [hnl] at hss hs1 hn
 clear hB hW1 hF hbig hnl hs
 obtain ⟨c1⟩:=(show W1.cell? ⟨B,0,none⟩ = some (.pointer (some ⟨sb,so,none⟩)) /\ True from ⟨q1.one.1,trivial⟩)
 have HL:=Lib.hid hl1
 have HV:=Lib.hid hv1
 clear hl hv hl1 hv1
 unfold maxLen at hm
 go_enter Tryz.func28,Tryz.ntmps28
 go_upto_region 1 with fail
 simp only [HB.out]
 rw [HW.out]
 go_wp2_with fail
 refine hss.mono ?_
 rintro e w2 ⟨r,rfl,hr1,hr2,hr3,hb2⟩
 clear hss c1
 have hs0:=hs1
 clear hs1
 have hr : Hid (srch l v = r):=Lib.hid (srch_is (by rw [HN.out]; exact hr1) hr2 (fun i h1 h2 => hr3 i h1 (by rw [HN.out] at h2; exact h2)))
 clear hr2 hr3
 have b2 : Below B w w2:=b1.trans (hb2.mono (by omega))
 have hs2:=hb2.size
 have q1:=q1.below hb2 q1.lt
 have q2:=q2.below hb2 q2.lt
 have hs1 : w2.cell? ⟨sb,so + 10,none⟩ = some (.slice a n cap):=(hb2.cell (p:=⟨sb,so + 10,none⟩) (by simp; omega)).trans hs0
 clear hs0
 by_cases hrn : r < n
 ·have hL:=HL.out
  have hV:=HV.out
  obtain ⟨hok,hok1,hkd⟩:=ho.at (show r < l.length by rw [HN.out]; exact hrn)
  obtain ⟨g,hg,hgi⟩:=hL
  obtain ⟨cb,co,cap',he,_,_,hbK,hc⟩:=hg.pos (by rw [HN.out]; omega)
  rw [HN.out] at he hc hgi
  simp only [Value.slice.injEq,true_and] at he
  obtain ⟨rfl,rfl⟩:=he
  have hgx:=hgi r hrn
  have hcells:=val_cells hc hrn
  have hcmp : ∀ W,Below w2.heap.size w2 W -> Calls Tryz.prog 29 #[(g r).agg,x.agg] W fun e w' => e = .returned (.int .i64 (vcmp (l[r]?.getD v0) v)) /\ Below W.heap.size W w':=fun W hb => by
   have hbb : Below W1.heap.size W1 W:=hb2.trans (hb.mono hs2)
   have := hbb.size
   exact gcompare_any W.heap.size _ v _ x W (hgx.below hbb (by omega) (by omega)) (hV.below hbb (by omega) (by omega)) (Nat.le_refl _) hok hvo hok1 hvo1 (by rw [hkd,hvk])
  have hz:=vcmp_zero (l[r]?.getD v0) v
  obtain ⟨f,hf⟩ : ∃ f,fnd l v = f:=⟨_,rfl⟩
  have HF:=Lib.hid hf
  rw [show veq (l[r]?.getD v0) v = f by rw [<- hf]; unfold fnd; rw [hr.out,HN.out]; simp [hrn]] at hz
  obtain ⟨ci,hci⟩ : ∃ ci,vcmp (l[r]?.getD v0) v = ci:=⟨_,rfl⟩
  simp only [hci] at hcmp hz
  have hcc : ∀ W,Below w2.heap.size w2 W -> W.cell? ⟨cb,co + r * 6,none⟩ = some (.int .u8 (g r).kd) /\ W.cell? ⟨cb,co + r * 6 + 1,none⟩ = some (.bool (g r).b1) /\ W.cell? ⟨cb,co + r * 6 + 2,none⟩ = some (g r).s1 /\ W.cell? ⟨cb,co + r * 6 + 3,none⟩ = some (.bool (g r).b2) ∧
    W.cell? ⟨cb,co + r * 6 + 4,none⟩ = some (g r).s2 /\ W.cell? ⟨cb,co + r * 6 + 5,none⟩ = some (.int .i64 (g r).i):=fun W hb => by
   have hbb : Below W1.heap.size W1 W:=hb2.trans (hb.mono hs2)
   have hbl : cb < W1.heap.size:=by omega
   exact ⟨(hbb.cell (p:=⟨cb,_,none⟩) hbl).trans hcells.1,(hbb.cell (p:=⟨cb,_,none⟩) hbl).trans hcells.2.1,(hbb.cell (p:=⟨cb,_,none⟩) hbl).trans hcells.2.2.1,(hbb.cell (p:=⟨cb,_,none⟩) hbl).trans hcells.2.2.2.1,(hbb.cell (p:=⟨cb,_,none⟩) hbl).trans hcells.2.2.2.2.1,(hbb.cell (p:=⟨cb,_,none⟩) hbl).trans hcells.2.2.2.2.2⟩
  have HCC:=Lib.hid hcc
  have HH:=Lib.hid hcmp
  have HO:=Lib.hid ho
  clear hci hf hcmp hgx hgi hg hc hcells hcc hok hok1 hkd ho hV hvo hvo1 hvk
  obtain ⟨y,hy⟩ : ∃ y,g r = y:=⟨_,rfl⟩
  simp only [hy] at HH HCC
  clear hy
  obtain ⟨kx,m1,x1,m2,x2,xi⟩:=x
  obtain ⟨ky,n1,y1,n2,y2,yi⟩:=y
  have c1:=q1.one.1
  go_upto_region 2 with fail
  clear c1
  refine region_plain (fun W' => Below w2.heap.size w2 W') [] (by kernel_rfl) ?_
  have qS : (fun W' => Below w2.heap.size w2 W') w2.drew:=below_quiet (Below.refl _ _)
  refine wpAnyD_tp (i:=0) (v:=.int .i64 r) rfl qS ?_
  refine wpAnyD_tp (i:=1) (v:=.int .i64 r) rfl qS ?_
  refine wpAnyD_tk (i:=2) (v:=.pointer (some ⟨sb,so,none⟩)) rfl (.inl ⟨by kernel_rfl,fun W' hS => by have d0:=(q1.below hS q1.lt).at (i:=0) rfl; go_simp⟩) qS ?_
  refine wpAnyD_tp (i:=3) (v:=.pointer (some ⟨sb,so,none⟩)) rfl qS ?_
  refine wpAnyD_tp (i:=4) (v:=.pointer (some ⟨sb,so + 10,none⟩)) rfl qS ?_
  refine wpAnyD_tk (i:=5) (v:=.slice (some ⟨cb,co,none⟩) n cap) rfl (.inl ⟨by kernel_rfl,fun W' hS => by have d:=(hS.cell (p:=⟨sb,so + 10,none⟩) (by simp; omega)).trans hs1; go_simp⟩) qS ?_
  refine wpAnyD_tp (i:=6) (v:=.int .i64 n) rfl qS ?_
  refine wpAnyD_tp (i:=7) (v:=.bool true) rfl qS ?_
  refine wpAnyD_tp (i:=8) (v:=.bool true) rfl qS ?_
  refine wpAnyD_tk (i:=9) (v:=.pointer (some ⟨sb,so,none⟩)) rfl (.inl ⟨by kernel_rfl,fun W' hS => by have d0:=(q1.below hS q1.lt).at (i:=0) rfl; go_simp⟩) qS ?_
  refine wpAnyD_tp (i:=10) (v:=.pointer (some ⟨sb,so,none⟩)) rfl qS ?_
  refine wpAnyD_tp (i:=11) (v:=.pointer (some ⟨sb,so + 10,none⟩)) rfl qS ?_
  refine wpAnyD_tk (i:=12) (v:=.slice (some ⟨cb,co,none⟩) n cap) rfl (.inl ⟨by kernel_rfl,fun W' hS => by have d:=(hS.cell (p:=⟨sb,so + 10,none⟩) (by simp; omega)).trans hs1; go_simp⟩) qS ?_
  refine wpAnyD_tp (i:=13) (v:=.int .i64 r) rfl qS ?_
  refine wpAnyD_tp (i:=14) (v:=.pointer (some ⟨cb,co + r * 6,none⟩)) rfl qS ?_
  refine wpAnyD_tk (i:=15) (v:=.agg #[.int .u8 ky,.bool n1,y1,.bool n2,y2,.int .i64 yi]) rfl (.inl ⟨by kernel_rfl,fun W' hS => by obtain ⟨d0,d1,d2,d3,d4,d5⟩:=HCC.out W' hS; go_simp⟩) qS ?_
  refine wpAnyD_tk (i:=16) (v:=.agg #[.int .u8 kx,.bool m1,x1,.bool m2,x2,.int .i64 xi]) rfl (.inl ⟨by kernel_rfl,fun W' hS => by have d0:=(q2.below hS q2.lt).at (i:=0) rfl; have d1:=(q2.below hS q2.lt).at (i:=1) rfl; have d2:=(q2.below hS q2.lt).at (i:=2) rfl; have d3:=(q2.below hS q2.lt).at (i:=3) rfl; have d4:=(q2.below hS q2.lt).at (i:=4) rfl; have d5:=(q2.below hS q2.lt).at (i:=5) rfl; go_simp⟩) qS ?_
  refine wpAnyD_on (i:=17) rfl ?_
  go_simp
  refine (HH.out _ qS).mono ?_
  rintro e w3 ⟨rfl,hb3⟩
  have qS3 : Below w2.heap.size w2 w3:=qS.trans (hb3.mono qS.size)
  go_simp
  refine wpAnyD_tp (i:=18) (v:=.bool f) rfl qS3 ?_
  refine wpAnyD_tp (i:=19) (v:=.bool f) rfl qS3 ?_
  refine wpAnyD_on (i:=20) rfl ?_
  go_simp
  refine wpAnyD_on (i:=21) rfl ?_
  go_simp
  refine wpAnyD_done (by kernel_rfl) ?_ _
  go_wp2_with fail
  go_ret2
  exact ⟨by rw [hr.out,HF.out]; rfl,b2.trans (qS3.mono (by omega))⟩
 ·have hfn : Hid (fnd l v = false):=Lib.hid (by unfold fnd; rw [hr.out,HN.out]; simp [hrn])
  obtain rfl : r = n:=by omega
  have c1:=q1.one.1
  have hlf : decide ((r : Int) < (r : Int)) = false:=by simp
  go_upto_region 2 with fail
  go_quiet (fail)
  go_wp2_with fail
  go_ret2
  exact ⟨by rw [hr.out,hfn.out]; rfl,below_drewN2 b2 _⟩
structure Tv where
 sub : Xv
 kd : Int
 cut : Vv
 op : Int
 snd : Bool
abbrev Tv.cells (y : Tv) : Array Value:=#[.int .u8 y.sub.op,S y.sub.nm,.int .u8 y.sub.kd,.bool y.sub.b3,.slice y.sub.s4.a y.sub.s4.n y.sub.s4.m,.bool y.sub.b5,.slice y.sub.s6.a y.sub.s6.n y.sub.s6.m,.int .i64 y.sub.i7,.slice y.sub.s8.a y.sub.s8.n y.sub.s8.m,
 .int .u8 y.kd,.int .u8 y.cut.kd,.bool y.cut.b1,y.cut.s1,.bool y.cut.b2,y.cut.s2,.int .i64 y.cut.i,.int .u8 y.op,.bool y.snd]
abbrev Tv.agg (y : Tv) : Value:=.agg y.cells
structure TqX (K : Nat) (w : World) (t : Tq) (y : Tv) : Prop where
 sub : ExG K w t.sub y.sub
 kd : y.kd = t.kd
 cut : VlX K w t.cut y.cut
 op : y.op = t.op
 snd : y.snd = t.snd
theorem TqX.below {K K' B : Nat} {w w' : World} {t : Tq} {y : Tv} (h : TqX K w t y) (hb : Below B w w') (hB : K <= B) (hK : K <= K') : TqX K' w' t y:=⟨h.sub.below hb hB hK,h.kd,h.cut.below hb hB hK,h.op,h.snd⟩
abbrev vv0 : Vv:=⟨0,false,.slice none 0 0,false,.slice none 0 0,0⟩
theorem vv0_is (K : Nat) (w : World) : VlX K w v0 vv0:=⟨rfl,rfl,rfl,rfl,Lm.nil _ _,Lm.nil _ _⟩
theorem infoTest : (Tryz.prog.info? 73).map (fun i => i.size) = some 18:=by kernel_rfl
end Go.Proofs.YtlldjmagbjjeoaaGreat
