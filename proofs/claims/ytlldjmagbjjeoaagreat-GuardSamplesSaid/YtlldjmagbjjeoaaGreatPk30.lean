/- Contracts and plain laws, several texts in one (GHold2, GSmp2). No conditions beyond those stated. -/
import Derived.Test.YtlldjmagbjjeoaaGreatPk29
set_option maxRecDepth 100000
set_option maxHeartbeats 40000000
namespace Go.Proofs.YtlldjmagbjjeoaaGreat
open Go.RowKit
set_option linter.unusedVariables false
structure HdPost (bb : Nat) (b : Bool) (r : Bool × Bool) (W : World) (en : Ending) (W' : World) : Prop where
 en : en = .returned (.bool r.1)
 gr : W.grownBy W' (some bb)
 ct : Blk W' bb #[.bool (b && r.2)] 4
abbrev hdF (lb bb cb bf : Nat) : Value:=.func (.func 38) #[] #[.pointer (some ⟨lb,0,none⟩),.pointer (some ⟨bb,0,none⟩),.pointer (some ⟨cb,0,none⟩),.pointer (some ⟨bf,0,none⟩)]
abbrev IntsX (K : Nat) (w : World) (v : Value) (cs : List Int) : Prop:=RowsV 1 (fun i _ => .int .i64 (cs[i]?.getD 0)) K w v cs.length
structure HdW (K lb bb cb bf : Nat) (l : List Sc) (cs : List Int) (lv cv : Value) (b : Bool) (W : World) : Prop where
 l : ScsX K W lv l
 c : IntsX K W cv cs
 qb : Blk W bb #[.bool b] 4
 ql : Blk W lb #[lv] 36
 qc : Blk W cb #[cv] 39
 qf : Blk W bf #[hdF lb bb cb bf] 68
theorem HdW.turn {K lb bb cb bf : Nat} {l : List Sc} {cs : List Int} {lv cv : Value} {b b' : Bool} {W W' : World} (h : HdW K lb bb cb bf l cs lv cv b W) (hK : K <= bb) (hg : W.grownBy W' (some bb)) (hq : Blk W' bb #[.bool b'] 4) : HdW K lb bb cb bf l cs lv cv b' W':=by
 have hb:=below_of_grownBy hg (by have := h.qb.lt; omega) hK
 refine ⟨h.l.below hb (Nat.le_refl _) (Nat.le_refl _),h.c.below hb (Nat.le_refl _) (Nat.le_refl _),hq,h.ql.kept hg fun e => ?_,h.qc.kept hg fun e => ?_,h.qf.kept hg fun e => ?_⟩
 ·cases e; exact absurd (h.ql.ty_ne h.qb) (by decide)
 ·cases e; exact absurd (h.qc.ty_ne h.qb) (by decide)
 ·cases e; exact absurd (h.qf.ty_ne h.qb) (by decide)
theorem HdW.grown {K lb bb cb bf : Nat} {l : List Sc} {cs : List Int} {lv cv : Value} {b : Bool} {W W' : World} (h : HdW K lb bb cb bf l cs lv cv b W) (hK : K <= bb) (hg : Below W.heap.size W W') : HdW K lb bb cb bf l cs lv cv b W' :=
 h.turn hK (grownBy_to (grown_below hg)) (h.qb.below hg h.qb.lt)
theorem HdW.put {K lb bb cb bf u : Nat} {l : List Sc} {cs : List Int} {lv cv : Value} {b : Bool} {W W' : World} {ar : Array Value} (h : HdW K lb bb cb bf l cs lv cv b W) (hu : Blk W u ar 79) (hK : K <= u) (hg : W.grownBy W' (some u)) : HdW K lb bb cb bf l cs lv cv b W':=by
 have hb:=below_of_grownBy hg (by have := hu.lt; omega) hK
 refine ⟨h.l.below hb (Nat.le_refl _) (Nat.le_refl _),h.c.below hb (Nat.le_refl _) (Nat.le_refl _),h.qb.kept hg fun e => ?_,h.ql.kept hg fun e => ?_,h.qc.kept hg fun e => ?_,h.qf.kept hg fun e => ?_⟩
 ·cases e; exact absurd (h.qb.ty_ne hu) (by decide)
 ·cases e; exact absurd (h.ql.ty_ne hu) (by decide)
 ·cases e; exact absurd (h.qc.ty_ne hu) (by decide)
 ·cases e; exact absurd (h.qf.ty_ne hu) (by decide)
theorem grownBy_new {w w' w'' : World} {r : Option Nat} {u : Nat} (h : w.grownBy w' r) (h' : w'.grownBy w'' (some u)) (hu : w.heap.size <= u) : w.grownBy w'' r :=
 ⟨h'.os.trans h.os,h'.tape.trans h.tape,h'.output.trans h.output,Nat.le_trans h.size h'.size,fun k hk hr => (h'.block k (Nat.lt_of_lt_of_le hk h.size) (fun e => by cases e; omega)).trans (h.block k hk hr)⟩
theorem combG_eq {o : Int} {f : Nat -> Bool} {x y z : Bool} (h0 : f 0 = x) (h1 : f 1 = y) (h2 : f 2 = z) : combG o f = if o = 15 then x && y else if o = 16 then x || y else if o = 17 then !x else if x = true then y else z:=by
 subst h0; subst h1; subst h2; rfl
theorem sv_range {g : Nat -> Sv} {w : World} {b o k n : Nat} (hc : ∀ i,i < n -> ∀ j,j < 11 -> w.cell? ⟨b,o + (i * 11 + j),none⟩ = some ((g i).cell j)) (hk : k < n) : w.rangeAt b (o + k * 11) (g k).cells.toList:=by
 intro j v hj
 have hj' : j < 11:=(List.getElem?_eq_some_iff.1 hj).1
 have := sv_cell_at (g k) hj'
 rw [hj,Option.getD_some] at this
 rw [this,Nat.add_assoc]; exact hc k hk j hj'
theorem infoScaleN : (Tryz.prog.info? 34).map (fun i => i.size) = some 11:=by kernel_rfl
theorem holdsF_at (K bb lb cb bf : Nat) (l : List Sc) (cs : List Int) (lv cv : Value) (hlen : cs.length = l.length) (hok : ∀ s ∈ l,CutsOk s.kd s.cuts /\ s.cuts.length <= 2 ^ 38) (hKb : K <= bb) (m : Nat) : ∀ (e : Gx),e.parts <= m -> e.parts <= 200 -> e.good = true -> ∀ (b : Bool) (x : Xv) (W : World),ExG K W e x -> HdW K lb bb cb bf l cs lv cv b W →
   Calls Tryz.prog 38 #[x.agg,.pointer (some ⟨lb,0,none⟩),.pointer (some ⟨bb,0,none⟩),.pointer (some ⟨cb,0,none⟩),.pointer (some ⟨bf,0,none⟩)] W (HdPost bb b (holdG l cs e) W):=by
 induction m with
 | zero => intro e hm; cases e; rw [partsG_mk] at hm; omega
 | succ m ih =>
  intro e hm h200 hgood b x W h hW
  have hlt1:=hW.qb.lt
  have hKW : K <= W.heap.size:=by omega
  obtain ⟨hop,hnm0,_,hv,g,hg,hgs⟩:=h.open
  obtain ⟨va,vcap,h8,hvl,hvm⟩:=hg.form
  have HX:=Lib.hid h
  have hvi : x.i7 = e.v.i:=hv.i
  clear hnm0
  obtain ⟨xop,xnm,kd,b3,⟨a4,n4,m4⟩,b5,⟨a6,n6,m6⟩,i7,⟨a8,n8,m8⟩⟩:=x
  simp only [Sl.val,Value.slice.injEq] at h8
  obtain ⟨rfl,rfl,rfl⟩:=h8
  dsimp only at hvi hop
  have HGS : Hid (∀ (k : Nat) (a : Gx),e.args[k]? = some a -> ExG K W a (g k) /\ a.parts <= m /\ a.parts <= 200 /\ a.good = true):=Lib.hid fun k a ha => by
   have h1:=partsG_arg (List.mem_of_getElem? ha)
   rw [partsG_args] at hm h200
   exact ⟨hgs k a ha,by omega,by omega,good_args hgood a (List.mem_of_getElem? ha)⟩
  have HVI:=Lib.hid hvi
  have HOP:=Lib.hid hop
  have HGG:=Lib.hid hg
  have HIH:=Lib.hid ih
  have HHW:=Lib.hid hW
  have HP : Hid (∀ r W',holdG l cs e = r -> W.grownBy W' (some bb) -> Blk W' bb #[.bool (b && r.2)] 4 -> HdPost bb b (holdG l cs e) W (.returned (.bool r.1)) W'):=Lib.hid fun r W' h1 h2 h3 => ⟨by rw [h1],h2,by rw [h1]; exact h3⟩
  obtain ⟨W1,hW1⟩ : ∃ W1,W.alloc (.cells (⟨xop,xnm,kd,b3,⟨a4,n4,m4⟩,b5,⟨a6,n6,m6⟩,i7,⟨a8,e.args.length,m8⟩⟩ : Xv).cells 31) = W1:=⟨_,rfl⟩
  have b1 : Below W.heap.size W W1:=by rw [<- hW1]; exact (Below.refl _ _).alloc (Nat.le_refl _) _
  have q1 : Blk W1 W.heap.size (⟨xop,xnm,kd,b3,⟨a4,n4,m4⟩,b5,⟨a6,n6,m6⟩,i7,⟨a8,e.args.length,m8⟩⟩ : Xv).cells 31:=by rw [<- hW1]; exact Blk.new W _ _
  have s1 : W1.heap.size = W.heap.size + 1:=by rw [<- hW1]; simp
  have hset:=settled_any K e _ W1 (h.below b1 hKW (Nat.le_refl _)) hgood (by omega)
  have hcom : ∀ W2,Below W1.heap.size W1 W2 -> Calls Tryz.prog 40 #[(⟨xop,xnm,kd,b3,⟨a4,n4,m4⟩,b5,⟨a6,n6,m6⟩,i7,⟨a8,e.args.length,m8⟩⟩ : Xv).agg] W2 fun en w' => en = .returned (.bool e.composed) /\ Below W2.heap.size W2 w':=fun W2 hb => composed_any K e _ W2 ((h.below b1 hKW (Nat.le_refl _)).below hb (by omega) (Nat.le_refl _))
  have HCOM:=Lib.hid hcom
  have hheq:=holdG_eq l cs e
  have HEQ:=Lib.hid hheq
  have HQ1:=Lib.hid q1
  unfold maxLen at hvm
  have HW1:=Lib.hid hW1
  obtain ⟨d0,d1,d2,d3,d4,d5,d6,d7,d8⟩:=q1.nine
  clear h hgs hg ih hm hW1 hv hcom hheq q1 hW hvi hop
  go_enter Tryz.func38,Tryz.ntmps38
  go_upto_region 1 with fail
  rw [HW1.out]
  go_wp2_with fail
  refine hset.mono ?_
  rintro en w2 ⟨rfl,hb2⟩
  clear hset d0 d1 d2 d3 d4 d5 d6 d7 d8
  obtain ⟨rs,hrs⟩ : ∃ r,e.settled = r:=⟨_,rfl⟩
  rw [hrs]
  have b2 : Below W.heap.size W w2:=b1.trans (hb2.mono (by omega))
  have hq2:=HQ1.out.below hb2 (by omega)
  obtain ⟨d0,d1,d2,d3,d4,d5,d6,d7,d8⟩:=hq2.nine
  cases rs with
  | true =>
   have hx:=HP.out (e.v.i == 1,true) w2 (by rw [HEQ.out,if_pos hrs]) (grownBy_to (grown_below b2)) (by simpa using HHW.out.qb.below b2 hlt1)
   rw [<- HVI.out] at hx
   go_wp2_with fail
   go_ret
   exact hx
  | false =>
   go_wp2_with fail
   refine (HCOM.out w2 hb2).mono ?_
   rintro en w3 ⟨rfl,hb3⟩
   clear d0 d1 d2 d3 d4 d5 d6 d7 d8
   have b3' : Below W.heap.size W w3:=b2.trans (hb3.mono b2.size)
   have hq3:=hq2.below hb3 hq2.lt
   obtain ⟨rc,hrc⟩ : ∃ r,e.composed = r:=⟨_,rfl⟩
   rw [hrc]
   have hW3:=HHW.out.grown hKb b3'
   cases rc with
   | false =>
    have ht:=testOf_any K e _ w3 (HX.out.below b3' hKW (Nat.le_refl _)) hgood (by have := b3'.size; omega)
    obtain ⟨d0,d1,d2,d3,d4,d5,d6,d7,d8⟩:=hq3.nine
    go_wp2_with fail
    refine ht.mono ?_
    rintro en w4 ⟨y,rfl,hty,hb4⟩
    clear ht d0 d1 d2 d3 d4 d5 d6 d7 d8
    have b4 : Below W.heap.size W w4:=b3'.trans (hb4.mono b3'.size)
    have hW4:=HHW.out.grown hKb b4
    obtain ⟨⟨yop,ynm,yk,yb3,⟨y4,y4n,y4m⟩,yb5,⟨y6,y6n,y6m⟩,yi7,⟨y8,y8n,y8m⟩⟩,tk,⟨kx,f1,x1,f2,x2,xi⟩,top_,tsn⟩:=y
    obtain ⟨a1,m1,hv1,_⟩:=hty.cut.n.form
    obtain ⟨a2,m2,hv2,_⟩:=hty.cut.d.form
    obtain ⟨l1n,hl1n⟩ : ∃ n,(testOf e).cut.l1.length = n:=⟨_,rfl⟩
    obtain ⟨l2n,hl2n⟩ : ∃ n,(testOf e).cut.l2.length = n:=⟨_,rfl⟩
    rw [hl1n] at hv1
    rw [hl2n] at hv2
    dsimp only at hv1 hv2
    subst hv1 hv2
    clear hl1n hl2n
    have h1c : ∀ u ∈ (⟨⟨yop,ynm,yk,yb3,⟨y4,y4n,y4m⟩,yb5,⟨y6,y6n,y6m⟩,yi7,⟨y8,y8n,y8m⟩⟩,tk,⟨kx,f1,.slice a1 l1n m1,f2,.slice a2 l2n m2,xi⟩,top_,tsn⟩ : Tv).cells,u.oneCell' = true:=by simp [Value.oneCell']
    go_upto_region 5 with (refine wpList_store_new rfl 73 (.tmp 7) (.tmp 24) rfl (⟨⟨yop,ynm,yk,yb3,⟨y4,y4n,y4m⟩,yb5,⟨y6,y6n,y6m⟩,yi7,⟨y8,y8n,y8m⟩⟩,tk,⟨kx,f1,.slice a1 l1n m1,f2,.slice a2 l2n m2,xi⟩,top_,tsn⟩ : Tv).cells _ infoTest rfl h1c w4.heap.size rfl rfl rfl ?_)
    generalize hW5 : w4.alloc _ = W5
    have s4:=b4.size
    have b5' : Below w4.heap.size w4 W5:=by rw [<- hW5]; exact (Below.refl _ _).alloc (Nat.le_refl _) _
    have b5 : Below W.heap.size W W5:=b4.trans (b5'.mono s4)
    have q5 : Blk W5 w4.heap.size (⟨⟨yop,ynm,yk,yb3,⟨y4,y4n,y4m⟩,yb5,⟨y6,y6n,y6m⟩,yi7,⟨y8,y8n,y8m⟩⟩,tk,⟨kx,f1,.slice a1 l1n m1,f2,.slice a2 l2n m2,xi⟩,top_,tsn⟩ : Tv).cells 73:=by rw [<- hW5]; exact Blk.new w4 _ _
    have hW5':=HHW.out.grown hKb b5
    have hty5:=hty.below b5' (by omega) (Nat.le_refl _)
    have s5:=b5'.size
    obtain ⟨la,lc,hlv,_,hlm⟩:=hW5'.l.form
    unfold maxLen at hlm
    have hix:=idxScale_any K (testOf e) _ lv l W5 hty5 hW5'.l (by omega)
    rw [hlv] at hix
    have c5:=hW5'.ql.one.1
    rw [hlv] at c5
    have HTC : Hid (holdG l cs e = testC l cs e):=Lib.hid (by rw [HEQ.out,if_neg (by rw [hrs]; simp),if_neg (by rw [hrc]; simp)])
    have HQ5:=Lib.hid q5
    have HTY:=Lib.hid hty5
    have HB5:=Lib.hid b5
    have q5lt:=q5.lt
    obtain ⟨u,hu⟩ : ∃ u,w4.heap.size = u:=⟨_,rfl⟩
    rw [hu] at HQ5 q5lt ⊢
    have HLV:=Lib.hid hlv
    have qbl:=hW5'.qb.lt
    obtain ⟨g2,hrow2,hsc2⟩:=hW5'.l
    have HR2:=Lib.hid hrow2
    have HC2:=Lib.hid hW5'.c
    have HS2:=Lib.hid hsc2
    have HHW5:=Lib.hid hW5'
    clear hrow2 hsc2 hW5 b5' hty hty5 q5 hu hW4 hW3 hq3 hq2 hb4 hb3 hb2 hW5' b5 hlv s4
    have HRG : Hid (W5.rangeAt u 0 (⟨⟨yop,ynm,yk,yb3,⟨y4,y4n,y4m⟩,yb5,⟨y6,y6n,y6m⟩,yi7,⟨y8,y8n,y8m⟩⟩,tk,⟨kx,f1,.slice a1 l1n m1,f2,.slice a2 l2n m2,xi⟩,top_,tsn⟩ : Tv).cells.toList):=Lib.hid HQ5.out.range
    by_cases hi : l.findIdx (testOf e).belongs < l.length
    ·obtain ⟨i,hie⟩ : ∃ i,l.findIdx (testOf e).belongs = i:=⟨_,rfl⟩
     have hixe : idxS l (testOf e) = (i : Int):=by unfold idxS; rw [if_pos hi,hie]
     rw [hixe] at hix
     have hbel:=belongs_at hi
     rw [hie] at hbel hi
     obtain ⟨sb,so,scap,hse,_,_,hsb,hscl⟩:=HR2.out.pos (by omega)
     obtain ⟨kb,ko,kcap,hke,_,hkm,hkb,hkcl⟩:=HC2.out.pos (by omega)
     rw [HLV.out] at hse
     simp only [Value.slice.injEq,true_and] at hse
     obtain ⟨rfl,rfl⟩:=hse
     have hmem : l[i]?.getD default ∈ l:=by rw [List.getElem?_eq_getElem hi]; exact List.getElem_mem hi
     obtain ⟨hcc,hbig⟩:=hok _ hmem
     have htq:=testOf_ok hgood h200
     obtain ⟨sc,hsc⟩ : ∃ s,l[i]?.getD default = s:=⟨_,rfl⟩
     obtain ⟨y2,hy2⟩ : ∃ y,g2 i = y:=⟨_,rfl⟩
     obtain ⟨ci,hci⟩ : ∃ c,cs[i]?.getD 0 = c:=⟨_,rfl⟩
     have hx2:=HS2.out i hi
     rw [hsc,hy2] at hx2
     rw [hsc] at hcc hbig hbel
     have htk : (testOf e).kd ≠ 0 -> (testOf e).cut.good = true /\ (testOf e).cut.ok = true /\ (testOf e).cut.kd = sc.kd:=fun h => by
      obtain ⟨h1,h2,h3⟩:=htq.cut h
      exact ⟨h1,h2,by rw [h3,belongs_kd hbel]⟩
     have htc : ∀ W',Below W5.heap.size W5 W' -> Calls Tryz.prog 42 #[(⟨⟨yop,ynm,yk,yb3,⟨y4,y4n,y4m⟩,yb5,⟨y6,y6n,y6m⟩,yi7,⟨y8,y8n,y8m⟩⟩,tk,⟨kx,f1,.slice a1 l1n m1,f2,.slice a2 l2n m2,xi⟩,top_,tsn⟩ : Tv).agg,y2.agg,.int .i64 ci] W' fun e' w' => e' = .returned (.tuple #[.bool (testH (testOf e) sc ci).1,.bool (testH (testOf e) sc ci).2]) /\ Below W'.heap.size W' w':=fun W' hb =>
      tholds_any K (testOf e) sc ci _ y2 W' (HTY.out.below hb (by omega) (Nat.le_refl _)) (hx2.below hb (by omega) (Nat.le_refl _)) (by have := hb.size; omega) hcc htk hbig
     obtain ⟨r,hr0⟩ : ∃ r,testH (testOf e) sc ci = r:=⟨_,rfl⟩
     rw [hr0] at htc
     have HR : Hid (holdG l cs e = r):=Lib.hid (by rw [HTC.out]; unfold testC; rw [hie,if_pos hi,hsc,hci]; exact hr0)
     have HT:=Lib.hid htc
     have HSR : Hid (∀ W',Below W5.heap.size W5 W' -> W'.rangeAt sb (so + i * 11) y2.cells.toList):=Lib.hid fun W' hb => by
      rw [<- hy2]; exact sv_range (cells_below hb (by omega) hscl) hi
     have HKR : Hid (∀ W',Below W5.heap.size W5 W' -> W'.cell? ⟨kb,ko + i,none⟩ = some (.int .i64 ci)):=Lib.hid fun W' hb => by
      have := cells_below hb (by omega) hkcl i (by omega) 0 (by omega)
      simpa [hci] using this
     have hkl : i < cs.length:=by omega
     have HKE:=Lib.hid hke
     have hsl : sb < W5.heap.size:=by omega
     have hkl2 : kb < W5.heap.size:=by omega
     clear hixe hie hbel hscl hkcl hcc hbig htq hx2 htk htc hr0 hmem hy2 hci hsc hke
     go_wp2_with (refine wpList_load_mid rfl 73 (.tmp 7) rfl u 0 rfl (⟨⟨yop,ynm,yk,yb3,⟨y4,y4n,y4m⟩,yb5,⟨y6,y6n,y6m⟩,yi7,⟨y8,y8n,y8m⟩⟩,tk,⟨kx,f1,.slice a1 l1n m1,f2,.slice a2 l2n m2,xi⟩,top_,tsn⟩ : Tv).cells.toList _ HRG.out Tryz.underlying73 rfl infoTest ?_)
     refine hix.mono ?_
     rintro en w6 ⟨rfl,hb6⟩
     clear hix c5
     have b6 : Below W.heap.size W w6:=HB5.out.trans (hb6.mono HB5.out.size)
     have hs6:=hb6.size
     have hii : i < l.length:=hi
     go_upto_region 9 with fail
     refine region_plain (fun W' => Below w6.heap.size w6 W') [] (by kernel_rfl) ?_
     have qS : (fun W' => Below w6.heap.size w6 W') w6.drew:=below_quiet (Below.refl _ _)
     have hS5 : ∀ W',Below w6.heap.size w6 W' -> Below W5.heap.size W5 W':=fun W' h => hb6.trans (h.mono hs6)
     refine wpAnyD_tk (i:=0) (v:=(⟨⟨yop,ynm,yk,yb3,⟨y4,y4n,y4m⟩,yb5,⟨y6,y6n,y6m⟩,yi7,⟨y8,y8n,y8m⟩⟩,tk,⟨kx,f1,.slice a1 l1n m1,f2,.slice a2 l2n m2,xi⟩,top_,tsn⟩ : Tv).agg) rfl (yieldsIf_load_mid (by kernel_rfl) 73 (.tmp 7) rfl u 0 rfl (⟨⟨yop,ynm,yk,yb3,⟨y4,y4n,y4m⟩,yb5,⟨y6,y6n,y6m⟩,yi7,⟨y8,y8n,y8m⟩⟩,tk,⟨kx,f1,.slice a1 l1n m1,f2,.slice a2 l2n m2,xi⟩,top_,tsn⟩ : Tv).cells.toList _ (fun W' hS => (HQ5.out.below (hS5 W' hS) q5lt).range) Tryz.underlying73 rfl infoTest) qS ?_
     refine wpAnyD_tk (i:=1) (v:=.slice (some ⟨sb,so,none⟩) l.length lc) rfl (.inl ⟨by kernel_rfl,fun W' hS => by have d0:=(HHW5.out.ql.below (hS5 W' hS) HHW5.out.ql.lt).one.1; rw [HLV.out] at d0; go_simp⟩) qS ?_
     refine wpAnyD_tp (i:=2) (v:=.int .i64 (i : Int)) rfl qS ?_
     refine wpAnyD_tp (i:=3) (v:=.pointer (some ⟨sb,so + i * 11,none⟩)) rfl qS ?_
     refine wpAnyD_tk (i:=4) (v:=y2.agg) rfl (yieldsIf_load_mid (by kernel_rfl) 34 (.tmp 35) rfl sb (so + i * 11) rfl y2.cells.toList _ (fun W' hS => HSR.out W' (hS5 W' hS)) Tryz.underlying34 rfl infoScaleN) qS ?_
     refine wpAnyD_tk (i:=5) (v:=.slice (some ⟨kb,ko,none⟩) cs.length kcap) rfl (.inl ⟨by kernel_rfl,fun W' hS => by have d0:=(HHW5.out.qc.below (hS5 W' hS) HHW5.out.qc.lt).one.1; rw [HKE.out] at d0; go_simp⟩) qS ?_
     refine wpAnyD_tp (i:=6) (v:=.int .i64 (i : Int)) rfl qS ?_
     refine wpAnyD_tp (i:=7) (v:=.pointer (some ⟨kb,ko + i,none⟩)) rfl qS ?_
     refine wpAnyD_tk (i:=8) (v:=.int .i64 ci) rfl (.inl ⟨by kernel_rfl,fun W' hS => by have d0:=HKR.out W' (hS5 W' hS); go_simp⟩) qS ?_
     refine wpAnyD_on (i:=9) rfl ?_
     go_simp
     refine (HT.out _ (hS5 _ qS)).mono ?_
     rintro en w7 ⟨rfl,hb7⟩
     have qS6 : Below w6.heap.size w6 w7:=qS.trans (hb7.mono qS.size)
     refine ⟨qS6,?_⟩
     obtain ⟨r1,r2⟩:=r
     dsimp only
     refine wpAnyD_tp (i:=10) (v:=.tuple #[.bool r1,.bool r2]) rfl qS6 ?_
     refine wpAnyD_tp (i:=11) (v:=.bool r1) rfl qS6 ?_
     refine wpAnyD_tp (i:=12) (v:=.bool r2) rfl qS6 ?_
     refine wpAnyD_tp (i:=13) (v:=.bool r1) rfl qS6 ?_
     refine wpAnyD_on (i:=14) rfl ?_
     go_simp
     refine wpAnyD_done (by kernel_rfl) ?_ _
     have b7 : Below W.heap.size W w7:=b6.trans (qS6.mono b6.size)
     obtain ⟨c7,f7⟩:=(HHW.out.grown hKb b7).qb.one
     have hx:=HP.out (r1,r2) (w7.setCell ⟨bb,0,none⟩ (.bool (b && r2))) HR.out (grownBy_then (grownBy_to (grown_below b7)) (grownBy_setCell _ _ _ _)) (by simpa using (HHW.out.grown hKb b7).qb.set (i:=0) (.bool (b && r2)))
     clear hb7 qS6 hb6 qS hS5 b6
     cases b with
     | false =>
      go_wp2_with fail
      go_ret
      exact hx
     | true =>
      go_wp2_with fail
      go_ret
      exact hx
    ·have hixe : idxS l (testOf e) = -1:=by unfold idxS; rw [if_neg hi]
     rw [hixe] at hix
     have hr : holdG l cs e = (false,false):=by rw [HTC.out]; unfold testC; rw [if_neg hi]
     have HR:=Lib.hid hr
     clear hixe hr hi
     go_wp2_with (refine wpList_load_mid rfl 73 (.tmp 7) rfl u 0 rfl (⟨⟨yop,ynm,yk,yb3,⟨y4,y4n,y4m⟩,yb5,⟨y6,y6n,y6m⟩,yi7,⟨y8,y8n,y8m⟩⟩,tk,⟨kx,f1,.slice a1 l1n m1,f2,.slice a2 l2n m2,xi⟩,top_,tsn⟩ : Tv).cells.toList _ HRG.out Tryz.underlying73 rfl infoTest ?_)
     refine hix.mono ?_
     rintro en w6 ⟨rfl,hb6⟩
     clear hix c5
     have b6 : Below W.heap.size W w6:=HB5.out.trans (hb6.mono HB5.out.size)
     obtain ⟨c6,f6⟩:=(HHW.out.grown hKb b6).qb.one
     have hx:=HP.out (false,false) (w6.setCell ⟨bb,0,none⟩ (.bool false)) HR.out (grownBy_then (grownBy_to (grown_below b6)) (grownBy_setCell _ _ _ _)) (by simpa using (HHW.out.grown hKb b6).qb.set (i:=0) (.bool false))
     go_wp2_with fail
     go_ret
     exact hx
   | true =>
    have hlen3:=composed_len hrc
    have HCQ : Hid (holdG l cs e = (combG e.op fun k => (argH l cs e k).1,belG l cs e e.args.length)):=Lib.hid (by rw [HEQ.out,if_neg (by rw [hrs]; simp),if_pos hrc,belG_all])
    obtain ⟨d0,d1,d2,d3,d4,d5,d6,d7,d8⟩:=hq3.nine
    have HQ3:=Lib.hid hq3
    have HB3:=Lib.hid b3'
    clear hq2 hq3 b3' hb2 hb3 hrc hrs hW3
    go_upto_region 13 with fail
    generalize hV : w3.alloc _ = W4
    have hs3:=HB3.out.size
    have q4 : Blk W4 w3.heap.size (vArr (fun k => (argH l cs e k).1) 0) 79:=by rw [<- hV]; exact Blk.new w3 _ _
    have b4' : Below w3.heap.size w3 W4:=by rw [<- hV]; exact (Below.refl _ _).alloc (Nat.le_refl _) _
    have b4 : Below W.heap.size W W4:=HB3.out.trans (b4'.mono hs3)
    have s4 : W4.heap.size = w3.heap.size + 1:=by rw [<- hV]; simp
    have hW4 : HdW K lb bb cb bf l cs lv cv (b && belG l cs e 0) W4:=by rw [belG_zero,Bool.and_true]; exact HHW.out.grown hKb b4
    have hq4:=HQ3.out.below b4' HQ3.out.lt
    have hq4lt:=HQ3.out.lt
    obtain ⟨u,hu⟩ : ∃ u,w3.heap.size = u:=⟨_,rfl⟩
    rw [hu] at q4 s4 hs3 hq4lt ⊢
    obtain ⟨n,hn⟩ : ∃ n,e.args.length = n:=⟨_,rfl⟩
    have HN:=Lib.hid hn
    have HGR4:=Lib.hid (grownBy_to (r:=some bb) (grown_below b4))
    clear hV b4' b4 hu
    have d8:=hq4.at (i:=8) (x:=.slice a8 e.args.length m8) rfl
    rw [hn] at d8 hlen3
    have HQ4:=Lib.hid hq4
    clear d0 d1 d2 d3 d4 d5 d6 d7 hq4
    simp only [HN.out]
    have hvm' : m8 <= 9223372036854775807:=hvm
    go_wp2_with fail
    clear d8
    go_loopw [52] (fun i wr => ∃ (k : Nat),k <= n /\ i = .int .i64 k /\ Blk wr u (vArr (fun k => (argH l cs e k).1) k) 79 /\ HdW K lb bb cb bf l cs lv cv (b && belG l cs e k) wr /\ W.grownBy wr (some bb) /\ Blk wr W.heap.size (⟨xop,xnm,kd,b3,⟨a4,n4,m4⟩,b5,⟨a6,n6,m6⟩,i7,⟨a8,e.args.length,m8⟩⟩ : Xv).cells 31) (fun i _ => n - (intOf i).toNat)
    case atStart => exact ⟨0,Nat.zero_le _,rfl,q4,hW4,HGR4.out,HQ4.out⟩
    case round =>
     obtain ⟨k,hk,rfl,rv,rW,hgr,rx⟩:=hrel
     have HRX:=Lib.hid rx
     have HRW:=Lib.hid rW
     have HGR:=Lib.hid hgr
     have hrv:=rv.lt
     have hsr:=hgr.size
     by_cases hlt : k < n
     ·have hlt' : k < e.args.length:=by rw [HN.out]; exact hlt
      obtain ⟨ab,ao,acap,he,_,hcm,hbK,hc⟩:=HGG.out.pos (by omega)
      simp only [Sl.val,Value.slice.injEq,true_and] at he
      obtain ⟨rfl,rfl⟩:=he
      have hbr : Below K W wr:=below_of_grownBy hgr hKW hKb
      obtain ⟨k0,k1,k2,k3,k4,k5,k6,k7,k8⟩:=ex_cells (cells_below hbr hbK hc) hlt'
      obtain ⟨ek,hek⟩ : ∃ ek,e.args[k]? = some ek:=⟨_,List.getElem?_eq_getElem hlt'⟩
      obtain ⟨hqe,hpm,hp2,hgd⟩:=HGS.out k ek hek
      obtain ⟨y,hy⟩ : ∃ y,g k = y:=⟨_,rfl⟩
      rw [hy] at hqe k0 k1 k2 k3 k4 k5 k6 k7 k8
      have hwr2 : Below wr.heap.size wr (wr.alloc (.cells y.cells 31)):=(Below.refl _ _).alloc (Nat.le_refl _) _
      have hcall:=HIH.out ek hpm hp2 hgd (b && belG l cs e k) y (wr.alloc (.cells y.cells 31)) (hqe.below (hbr.alloc (by omega) _) (Nat.le_refl _) (Nat.le_refl _)) (rW.grown hKb hwr2)
      have f0 : wr.cell? ⟨bf,0,none⟩ = some (hdF lb bb cb bf):=rW.qf.one.1
      have hbfl:=rW.qf.lt
      have HEK:=Lib.hid hek
      have hk3 : k < 3:=by omega
      have HV : Hid ((vArr (fun k => (argH l cs e k).1) k)[k]? = some (.bool false)):=Lib.hid (by
       match k,hk3 with
       | 0,_ => simp [vArr]
       | 1,_ => simp [vArr]
       | 2,_ => simp [vArr])
      have HRV:=Lib.hid rv
      have ublt : u ≠ bb:=fun h => by subst h; exact absurd (rv.ty_ne rW.qb) (by decide)
      clear hek hc hy hqe hpm hp2 hgd rv rW hgr rx hbr hwr2 hlt'
      go_wp2_with fail
      refine hcall.mono ?_
      rintro en W6 ⟨rfl,hg6,hct6⟩
      clear hcall k0 k1 k2 k3 k4 k5 k6 k7 k8 f0
      have hg6' : wr.grownBy W6 (some bb):=grownBy_then (World.grownBy_alloc wr _ _) hg6
      obtain ⟨t,ht⟩ : ∃ t,(holdG l cs ek).1 = t:=⟨_,rfl⟩
      rw [ht]
      have rv6:=HRV.out.kept hg6' (fun h => ublt (Option.some.inj h))
      have ck:=rv6.at (i:=k) HV.out
      have fv:=rv6.free k
      have hW6 : HdW K lb bb cb bf l cs lv cv (b && belG l cs e (k + 1)) W6:=by
       have := HRW.out.turn hKb hg6' hct6
       rwa [Bool.and_assoc,<- belG_succ HEK.out] at this
      have hgs : W6.grownBy (W6.setCell ⟨u,k,none⟩ (.bool t)) (some u):=grownBy_setCell _ _ _ _
      have rv7 : Blk (W6.setCell ⟨u,k,none⟩ (.bool t)) u (vArr (fun k => (argH l cs e k).1) (k + 1)) 79:=by
       have h1:=rv6.set (i:=k) (.bool t)
       have h2 : (vArr (fun k => (argH l cs e k).1) k).setIfInBounds k (.bool t) = vArr (fun k => (argH l cs e k).1) (k + 1):=by
        rw [<- vArr_set hk3,argH_at HEK.out,ht]
       rw [h2] at h1
       exact h1
      have hW7 : HdW K lb bb cb bf l cs lv cv (b && belG l cs e (k + 1)) (W6.setCell ⟨u,k,none⟩ (.bool t)):=hW6.put rv6 (by omega) hgs
      have hgr7 : W.grownBy (W6.setCell ⟨u,k,none⟩ (.bool t)) (some bb):=grownBy_new (grownBy_then HGR.out hg6') hgs (by omega)
      have hx7 : Blk (W6.setCell ⟨u,k,none⟩ (.bool t)) W.heap.size (⟨xop,xnm,kd,b3,⟨a4,n4,m4⟩,b5,⟨a6,n6,m6⟩,i7,⟨some ⟨ab,ao,none⟩,e.args.length,m8⟩⟩ : Xv).cells 31:=(HRX.out.kept hg6' (by simp; omega)).kept hgs (by simp; omega)
      clear hct6 hg6 rv6 hW6 hgs ht
      go_wp2_with fail
      exact ⟨⟨k + 1,by omega,by go_num,rv7,hW7,hgr7,hx7⟩,by simp [intOf]; omega⟩
     ·obtain rfl : k = n:=by omega
      have hF : ∀ j,k <= j -> (argH l cs e j).1 = false:=fun j hj => by rw [argH_none (by rw [HN.out]; exact hj)]
      rw [vArr_get hF] at rv
      obtain ⟨v0,v1,v2⟩ : _ /\ _ /\ _:=⟨rv.at (i:=0) rfl,rv.at (i:=1) rfl,rv.at (i:=2) rfl⟩
      have HCQ':=HCQ.out
      rw [HN.out,<- HOP.out] at HCQ'
      obtain ⟨F0,hF0⟩ : ∃ f,(argH l cs e 0).1 = f:=⟨_,rfl⟩
      obtain ⟨F1,hF1⟩ : ∃ f,(argH l cs e 1).1 = f:=⟨_,rfl⟩
      obtain ⟨F2,hF2⟩ : ∃ f,(argH l cs e 2).1 = f:=⟨_,rfl⟩
      rw [hF0] at v0
      rw [hF1] at v1
      rw [hF2] at v2
      obtain ⟨R,hR⟩ : ∃ R,combG xop (fun k => (argH l cs e k).1) = R:=⟨_,rfl⟩
      rw [hR] at HCQ'
      have hx:=HP.out (R,belG l cs e k) wr HCQ' hgr rW.qb
      rw [combG_eq (f:=fun k => (argH l cs e k).1) hF0 hF1 hF2] at hR
      have x0:=rx.at (i:=0) (x:=.int .u8 xop) rfl
      have HHX:=Lib.hid hx
      clear rv rW rx hgr hF hF0 hF1 hF2 HCQ' hx
      by_cases h15 : xop = 15
      ·subst h15
       rw [if_pos rfl] at hR
       subst hR
       cases F0 <;>
       ·go_wp2_with fail
        go_ret
        exact HHX.out
      ·rw [if_neg h15] at hR
       have e15 : (xop == 15) = false:=by simpa using h15
       by_cases h16 : xop = 16
       ·subst h16
        rw [if_pos rfl] at hR
        subst hR
        cases F0 <;>
        ·go_wp2_with fail
         go_ret
         exact HHX.out
       ·rw [if_neg h16] at hR
        have e16 : (xop == 16) = false:=by simpa using h16
        by_cases h17 : xop = 17
        ·subst h17
         rw [if_pos rfl] at hR
         subst hR
         go_wp2_with fail
         go_ret
         exact HHX.out
        ·rw [if_neg h17] at hR
         have e17 : (xop == 17) = false:=by simpa using h17
         cases F0 with
         | true =>
          rw [if_pos rfl] at hR
          subst hR
          go_wp2_with fail
          go_ret
          exact HHX.out
         | false =>
          rw [if_neg (by simp)] at hR
          subst hR
          go_wp2_with fail
          go_ret
          exact HHX.out
def smpI (s : Sc) (c : Nat) : Int:=if c / 2 = 0 then (s.cuts[0]?.getD v0).i + (-1) else if c / 2 = s.cuts.length then (s.cuts[s.cuts.length - 1]?.getD v0).i + 1 else ((s.cuts[c / 2 - 1]?.getD v0).i + (s.cuts[c / 2]?.getD v0).i) / 2
def smpW (s : Sc) (c : Nat) : Vq:=if c % 2 = 1 then s.cuts[c / 2]?.getD v0 else wholeV s.kd (smpI s c)
theorem vv_range {g : Nat -> Vv} {w : World} {b o k n : Nat} (hc : ∀ i,i < n -> ∀ j,j < 6 -> w.cell? ⟨b,o + (i * 6 + j),none⟩ = some ((g i).cell j)) (hk : k < n) : w.rangeAt b (o + k * 6) (g k).cells.toList:=by
 intro j v hj
 have hj' : j < 6:=(List.getElem?_eq_some_iff.1 hj).1
 have := vv_cell_at (g k) hj'
 rw [hj,Option.getD_some] at this
 rw [this,Nat.add_assoc]; exact hc k hk j hj'
theorem infoValN : (Tryz.prog.info? 28).map (fun i => i.size) = some 6:=by kernel_rfl
theorem okB_day {s : Sc} (h : s.okB = true) (hd : isDay s.kd = true) : 1 <= s.cuts.length:=by
 have := (isDay_no hd).2.2
 unfold Sc.okB at h
 rw [if_neg (by simpa using this)] at h
 simp only [Bool.and_eq_true,decide_eq_true_eq] at h
 omega
theorem gsampleW_any (K : Nat) (s : Sc) (y : Sv) (c : Nat) (w : World) (hs : ScX K w s y) (hK : K <= w.heap.size) (hgo : ∀ v ∈ s.cuts,v.good = true) (hok : s.okB = true) (hd : isDay s.kd = true) (hp : s.poss c = true) :
  Calls Tryz.prog 9 #[y.agg,.int .i64 c] w fun e w' => ∃ z : Vv,e = .returned (.tuple #[z.agg,.bool true]) /\ VlX w'.heap.size w' (smpW s c) z /\ Below w.heap.size w w':=by
 have hn32:=okB_len hok
 have hn1:=okB_day hok hd
 obtain ⟨e2,e3,e0⟩:=isDay_no hd
 have hcn : c < 2 * s.cuts.length + 1:=by
  unfold Sc.poss cntN at hp
  rw [if_neg (by simpa using e0)] at hp
  simp only [Bool.and_eq_true,decide_eq_true_eq] at hp
  omega
 obtain ⟨W1,hW1⟩ : ∃ W1,(w.alloc (.cells y.cells 34)).alloc (.cells vv0.cells 28) = W1:=⟨_,rfl⟩
 have b1 : Below w.heap.size w W1:=by rw [<- hW1]; exact ((Below.refl _ _).alloc (Nat.le_refl _) _).alloc (by simp) _
 have q1 : Blk W1 w.heap.size y.cells 34:=by rw [<- hW1]; exact (Blk.new w _ _).alloc _
 have q2 : Blk W1 (w.heap.size + 1) vv0.cells 28:=by
  rw [<- hW1]
  have := Blk.new (w.alloc (.cells y.cells 34)) vv0.cells 28
  rwa [World.size_alloc] at this
 have s1 : W1.heap.size = w.heap.size + 2:=by rw [<- hW1]; simp
 obtain ⟨B,hB⟩ : ∃ B,w.heap.size = B:=⟨_,rfl⟩
 have HB:=Lib.hid hB
 have HW:=Lib.hid hW1
 rw [hB] at hK b1 q1 q2 s1 ⊢
 dsimp only [Vv.cells,vv0] at HW
 have hv:=gvalid_any B s y W1 (hs.below b1 hK hK) (by omega) hgo (by omega)
 rw [hok] at hv
 have hpo : ∀ W,Below W1.heap.size W1 W -> Calls Tryz.prog 23 #[.pointer (some ⟨B,0,none⟩),.int .i64 (c : Int)] W fun e w' => e = .returned (.bool true) /\ Below W.heap.size W w':=fun W hb => by
  have h3:=hb.size
  have h2:=(q1.below hb q1.lt)
  have := gposs_any B B 0 y.c.val s c W ((hs.cuts.below b1 hK hK).below hb (by omega) (Nat.le_refl _)) (by omega) (by omega) (by rw [Nat.zero_add,<- hs.kd]; exact h2.at rfl) (by rw [Nat.zero_add]; exact h2.at rfl) (by omega) (okB_cuts hok)
  rw [hp] at this
  exact this.mono (by rintro e w' ⟨rfl,h⟩; exact ⟨rfl,h⟩)
 have HPO:=Lib.hid hpo
 have hcx:=hs.cuts.below b1 hK hK
 have hkd:=hs.kd
 obtain ⟨g,hrow,hgs⟩:=hcx
 obtain ⟨cb,co,ccap,hse,_,hcm,hcb,hccl⟩:=hrow.pos (by omega)
 obtain ⟨⟨yop,ynm,yk,yb3,⟨y4,y4n,y4m⟩,yb5,⟨y6,y6n,y6m⟩,yi7,⟨y8,y8n,y8m⟩⟩,sk,⟨ca,cn,cm⟩⟩:=y
 simp only [Sl.val,Value.slice.injEq] at hse
 obtain ⟨rfl,rfl,rfl⟩:=hse
 dsimp only at hkd
 subst hkd
 obtain ⟨m,hm⟩ : ∃ m,c / 2 = m:=⟨_,rfl⟩
 have hq2 : Int.tdiv (c : Int) 2 = (m : Int):=by rw [Int.tdiv_eq_ediv_of_nonneg (by omega)]; omega
 have hall : ∀ j,j < s.cuts.length -> (s.cuts[j]?.getD v0).good = true /\ -1048576 <= (s.cuts[j]?.getD v0).i /\ (s.cuts[j]?.getD v0).i <= 1048576 /\ (g j).i = (s.cuts[j]?.getD v0).i /\ (g j).kd = s.kd:=fun j hj => by
  have h1 : s.cuts[j]?.getD v0 ∈ s.cuts:=by rw [List.getElem?_eq_getElem hj]; exact List.getElem_mem hj
  obtain ⟨h2,h3⟩:=okB_cuts hok _ h1
  obtain ⟨h4,h5⟩:=day_bound h2 (by rw [h3]; exact hd)
  have h6:=hgs j hj
  exact ⟨hgo _ h1,h4,h5,h6.i,by rw [h6.kd,h3]⟩
 have hform : ∀ j,j < s.cuts.length -> ∃ a1 n1 m1 a2 n2 m2,g j = ⟨(g j).kd,(g j).b1,.slice a1 n1 m1,(g j).b2,.slice a2 n2 m2,(g j).i⟩:=fun j hj => by
  have h6:=hgs j hj
  obtain ⟨a1,m1,h7,_⟩:=h6.n.form
  obtain ⟨a2,m2,h8,_⟩:=h6.d.form
  exact ⟨a1,_,m1,a2,_,m2,by rw [<- h7,<- h8]⟩
 have HAL:=Lib.hid hall
 have HFO:=Lib.hid hform
 have HGS:=Lib.hid hgs
 have HCC:=Lib.hid hccl
 have HQ1:=Lib.hid q1
 have HQ2:=Lib.hid q2
 obtain ⟨V,hV⟩ : ∃ V,smpW s c = V:=⟨_,rfl⟩
 rw [hV]
 have HV:=Lib.hid hV
 obtain ⟨n,hn⟩ : ∃ n,s.cuts.length = n:=⟨_,rfl⟩
 have HN:=Lib.hid hn
 obtain ⟨kd,hkd⟩ : ∃ kd,s.kd = kd:=⟨_,rfl⟩
 have HKD:=Lib.hid hkd
 rw [hn] at hv hn32 hn1 hcn HW HCC HAL HFO HGS HQ1 ⊢
 rw [hkd] at hv e2 e3 e0 HW HAL HQ1 hd ⊢
 have HM:=Lib.hid hm
 obtain ⟨d0,d1,d2,d3,d4,d5,d6,d7,d8,d9,d10⟩:=HQ1.out.eleven
 clear hB hW1 hs hgo hok hp hpo hrow hgs hccl q1 q2 hall hform hV hn hkd
 go_enter Tryz.func9,Tryz.ntmps9
 go_upto_region 1 with fail
 simp only [HB.out]
 rw [HW.out]
 go_wp2_with fail
 refine hv.mono ?_
 rintro e w2 ⟨rfl,hb2⟩
 clear hv d0 d1 d2 d3 d4 d5 d6 d7 d8 d9 d10
 go_wp2_with fail
 refine (HPO.out w2 hb2).mono ?_
 rintro e w3 ⟨rfl,hb3⟩
 have b3' : Below W1.heap.size W1 w3:=hb2.trans (hb3.mono hb2.size)
 have b3 : Below B w w3:=b1.trans (b3'.mono (by omega))
 have hs3:=b3'.size
 clear hb2 hb3
 have hq1:=HQ1.out.below b3' (by omega)
 have hq2':=HQ2.out.below b3' (by omega)
 have d9:=hq1.at (i:=9) (x:=.int .u8 kd) rfl
 have d10:=hq1.at (i:=10) (x:=.slice (some ⟨cb,co,none⟩) n cm) rfl
 have HCC3 : Hid (∀ j,j < n -> w3.rangeAt cb (co + j * 6) (g j).cells.toList):=Lib.hid fun j hj => vv_range (cells_below b3' (by omega) HCC.out) hj
 have cb3 : cb < w3.heap.size:=by omega
 by_cases hodd : c % 2 = 1
 ·have hr1 : Int.tmod (c : Int) 2 = 1:=by rw [Int.tmod_eq_emod_of_nonneg (by omega)]; omega
  have hmn : m < n:=by omega
  obtain ⟨hgd,_⟩:=HAL.out m hmn
  have hcv:=copyValue_any w3.heap.size (s.cuts[m]?.getD v0) (g m) w3 ((HGS.out m hmn).below b3' (by omega) (by omega)) hgd (Nat.le_refl _)
  have hVe : V = s.cuts[m]?.getD v0:=by rw [<- HV.out]; unfold smpW; rw [if_pos hodd,HM.out]
  subst hVe
  obtain ⟨a1,n1,m1,a2,n2,m2,hgf⟩:=HFO.out m hmn
  have hrg:=HCC3.out m hmn
  obtain ⟨gk,gb1,gb2,gi,hgm⟩ : ∃ gk gb1 gb2 gi,g m = ⟨gk,gb1,.slice a1 n1 m1,gb2,.slice a2 n2 m2,gi⟩:=⟨_,_,_,_,hgf⟩
  rw [hgm] at hcv hrg
  have HRG:=Lib.hid hrg
  clear hgf hgm hrg hgd hm
  go_wp2_with (refine wpList_load_mid rfl 28 (.tmp 30) rfl cb (co + m * 6) rfl (⟨gk,gb1,.slice a1 n1 m1,gb2,.slice a2 n2 m2,gi⟩ : Vv).cells.toList _ HRG.out Tryz.underlying28 rfl infoValN ?_)
  refine hcv.mono ?_
  rintro e w4 ⟨z,rfl,hz,hb4⟩
  clear hcv
  have hz0:=hz.get fun b hb => hb.2
  obtain ⟨b1a,b1m,hf1,_⟩:=hz0.n.form
  obtain ⟨b2a,b2m,hf2,_⟩:=hz0.d.form
  obtain ⟨x1,hx1⟩ : ∃ x,(s.cuts[m]?.getD v0).l1.length = x:=⟨_,rfl⟩
  obtain ⟨x2,hx2⟩ : ∃ x,(s.cuts[m]?.getD v0).l2.length = x:=⟨_,rfl⟩
  rw [hx1] at hf1
  rw [hx2] at hf2
  obtain ⟨zk,zb1,zs1,zb2,zs2,zi⟩:=z
  dsimp only at hf1 hf2
  subst hf1 hf2
  have hs4:=hb4.size
  have q4:=hq2'.below hb4 (by omega)
  have h1c : ∀ u ∈ (⟨zk,zb1,.slice b1a x1 b1m,zb2,.slice b2a x2 b2m,zi⟩ : Vv).cells,u.oneCell' = true:=by simp [Value.oneCell']
  have HZ:=Lib.hid hz
  have HQ4:=Lib.hid q4
  clear hz hz0 hx1 hx2 hq1 hq2' q4 d9 d10
  go_wp2_with (refine wpList_store_blk rfl 28 28 (.tmp 4) (.tmp 32) rfl (⟨zk,zb1,.slice b1a x1 b1m,zb2,.slice b2a x2 b2m,zi⟩ : Vv).cells _ (B + 1) HQ4.out infoValN rfl h1c rfl rfl ?_; intro W2 t1 t2 t3 t4)
  refine bodyPost_ret (v:=.tuple #[(⟨zk,zb1,.slice b1a x1 b1m,zb2,.slice b2a x2 b2m,zi⟩ : Vv).agg,.bool true]) ?_ rfl ?_
  ·obtain ⟨e0,e1,e2,e3,e4,e5⟩:=t1.six
   simp [results,Tryz.results9,go_sem,e0,e1,e2,e3,e4,e5]
  refine ⟨_,rfl,HZ.out W2 _ (agr_grown t3 (fun b hb => hb.2) fun b hb => ?_) (fun b hb => by have := hb.2; omega),b3.trans ((hb4.mono (by omega)).trans (t2 B (by omega)))⟩
  cases hb
  intro h
  have := h.1
  omega
 ·have hr1 : Int.tmod (c : Int) 2 = 0:=by rw [Int.tmod_eq_emod_of_nonneg (by omega)]; omega
  obtain ⟨I,hI⟩ : ∃ I,smpI s c = I:=⟨_,rfl⟩
  have hVe : V = wholeV kd I:=by rw [<- HV.out]; unfold smpW; rw [if_neg hodd,HKD.out,hI]
  subst hVe
  unfold smpI at hI
  rw [HM.out,HN.out] at hI
  have h1c : ∀ u ∈ (wholeX kd I).cells,u.oneCell' = true:=by simp [Value.oneCell']
  by_cases hm0 : m = 0
  ·subst hm0
   rw [if_pos rfl] at hI
   obtain ⟨_,hlo,hhi,hgi,hgk⟩:=HAL.out 0 (by omega)
   obtain ⟨a1,n1,m1,a2,n2,m2,hgf⟩:=HFO.out 0 (by omega)
   have hrg:=HCC3.out 0 (by omega)
   rw [Nat.zero_mul,Nat.add_zero] at hrg
   rw [hgi,hgk] at hgf
   have hbe:=fun W => gbesideW_any kd (s.cuts[0]?.getD v0).i (-1) (g 0).b1 (g 0).b2 a1 a2 n1 m1 n2 m2 W hd ⟨hlo,hhi⟩ (by omega)
   rw [hI] at hbe
   rw [hgf] at hrg
   have HRG:=Lib.hid hrg
   have HBE:=Lib.hid hbe
   have HQ4:=Lib.hid hq2'
   have h0n : 0 < n:=by omega
   clear hgf hrg hbe hlo hhi hgi hgk hI hm
   go_wp2_with (refine wpList_load_mid rfl 28 (.tmp 38) rfl cb co rfl (⟨kd,(g 0).b1,.slice a1 n1 m1,(g 0).b2,.slice a2 n2 m2,(s.cuts[0]?.getD v0).i⟩ : Vv).cells.toList _ HRG.out Tryz.underlying28 rfl infoValN ?_)
   refine (HBE.out _).mono ?_
   rintro e w4 ⟨rfl,hb4⟩
   have q4:=HQ4.out.below hb4 (by omega)
   go_wp2_with (refine wpList_store_blk rfl 28 28 (.tmp 4) (.tmp 41) rfl (wholeX kd I).cells _ (B + 1) q4 infoValN rfl h1c rfl rfl ?_; intro W2 t1 t2 t3 t4)
   refine bodyPost_ret (v:=.tuple #[(wholeX kd I).agg,.bool true]) ?_ rfl ?_
   ·obtain ⟨e0,e1,e2,e3,e4,e5⟩:=t1.six
    simp [results,Tryz.results9,go_sem,e0,e1,e2,e3,e4,e5]
   exact ⟨_,rfl,wholeX_is _ _ _ _,b3.trans ((hb4.mono (by omega)).trans (t2 B (by omega)))⟩
  ·rw [if_neg hm0] at hI
   have em0 : ((m : Int) == 0) = false:=by simp; omega
   obtain ⟨p,hpm⟩ : ∃ p,p + 1 = m:=⟨m - 1,by omega⟩
   have hsub : IntKind.i64.wrap ((m : Int) - 1) = (p : Int):=by rw [show (m : Int) - 1 = p by omega]; exact IntWalk.i64_in _ (by omega)
   obtain ⟨_,hlo,hhi,hgi,hgk⟩:=HAL.out p (by omega)
   obtain ⟨a1,n1,m1,a2,n2,m2,hgf⟩:=HFO.out p (by omega)
   have hrg:=HCC3.out p (by omega)
   rw [hgi,hgk] at hgf
   rw [hgf] at hrg
   have HRG:=Lib.hid hrg
   have HQ4:=Lib.hid hq2'
   have hpn : p < n:=by omega
   by_cases hmn : m = n
   ·subst hmn
    rw [if_pos rfl,show m - 1 = p by omega] at hI
    have hbe:=fun W => gbesideW_any kd (s.cuts[p]?.getD v0).i 1 (g p).b1 (g p).b2 a1 a2 n1 m1 n2 m2 W hd ⟨hlo,hhi⟩ (by omega)
    rw [hI] at hbe
    have HBE:=Lib.hid hbe
    clear hgf hrg hbe hlo hhi hgi hgk hI hm
    go_wp2_with (refine wpList_load_mid rfl 28 (.tmp 53) rfl cb (co + p * 6) rfl (⟨kd,(g p).b1,.slice a1 n1 m1,(g p).b2,.slice a2 n2 m2,(s.cuts[p]?.getD v0).i⟩ : Vv).cells.toList _ HRG.out Tryz.underlying28 rfl infoValN ?_)
    refine (HBE.out _).mono ?_
    rintro e w4 ⟨rfl,hb4⟩
    have q4:=HQ4.out.below hb4 (by omega)
    go_wp2_with (refine wpList_store_blk rfl 28 28 (.tmp 4) (.tmp 56) rfl (wholeX kd I).cells _ (B + 1) q4 infoValN rfl h1c rfl rfl ?_; intro W2 t1 t2 t3 t4)
    refine bodyPost_ret (v:=.tuple #[(wholeX kd I).agg,.bool true]) ?_ rfl ?_
    ·obtain ⟨e0,e1,e2,e3,e4,e5⟩:=t1.six
     simp [results,Tryz.results9,go_sem,e0,e1,e2,e3,e4,e5]
    exact ⟨_,rfl,wholeX_is _ _ _ _,b3.trans ((hb4.mono (by omega)).trans (t2 B (by omega)))⟩
   ·rw [if_neg hmn,show m - 1 = p by omega] at hI
    obtain ⟨_,hlo2,hhi2,hgi2,hgk2⟩:=HAL.out m (by omega)
    obtain ⟨a3,n3,m3,a4,n4,m4,hgf2⟩:=HFO.out m (by omega)
    have hrg2:=HCC3.out m (by omega)
    rw [hgi2,hgk2] at hgf2
    rw [hgf2] at hrg2
    have hmi:=fun W => gmiddleW_any kd (s.cuts[p]?.getD v0).i (s.cuts[m]?.getD v0).i (g p).b1 (g p).b2 (g m).b1 (g m).b2 a1 a2 a3 a4 n1 m1 n2 m2 n3 m3 n4 m4 W hd ⟨hlo,hhi⟩ ⟨hlo2,hhi2⟩ kd
    rw [hI] at hmi
    have HMI:=Lib.hid hmi
    have HGP:=Lib.hid hgf
    have HGM:=Lib.hid hgf2
    have HRG2:=Lib.hid hrg2
    have emn : ((m : Int) == (n : Int)) = false:=by simp; omega
    have hmn2 : m < n:=by omega
    have hcbK : cb < W1.heap.size:=by omega
    clear hgf hrg hlo hhi hgi hgk hI hm hgf2 hrg2 hlo2 hhi2 hgi2 hgk2 hmi
    go_upto_region 12 with fail
    have HQ1':=Lib.hid hq1
    clear d9 d10 hq1 hq2'
    have l3 : B + 1 < w3.heap.size:=by omega
    refine region_plain (fun W' => Below w3.heap.size w3 W') [14,15] (by kernel_rfl) ?_
    have qS : (fun W' => Below w3.heap.size w3 W') w3.drew:=below_quiet (Below.refl _ _)
    have hRS : ∀ W' j,Below w3.heap.size w3 W' -> j < n -> W'.rangeAt cb (co + j * 6) (g j).cells.toList:=fun W' j hb hj => vv_range (cells_below (b3'.trans (hb.mono hs3)) (by omega) HCC.out) hj
    refine wpAnyD_tp (i:=0) (v:=.pointer (some ⟨B,10,none⟩)) rfl qS ?_
    refine wpAnyD_tk (i:=1) (v:=.slice (some ⟨cb,co,none⟩) n cm) rfl (.inl ⟨by kernel_rfl,fun W' hS => by have d10:=(HQ1'.out.below hS (by omega)).at (i:=10) (x:=.slice (some ⟨cb,co,none⟩) n cm) rfl; go_simp⟩) qS ?_
    refine wpAnyD_tp (i:=2) (v:=.int .i64 (m : Int)) rfl qS ?_
    refine wpAnyD_tp (i:=3) (v:=.int .i64 (p : Int)) rfl qS ?_
    refine wpAnyD_tp (i:=4) (v:=.pointer (some ⟨cb,co + p * 6,none⟩)) rfl qS ?_
    refine wpAnyD_tk (i:=5) (v:=(⟨kd,(g p).b1,.slice a1 n1 m1,(g p).b2,.slice a2 n2 m2,(s.cuts[p]?.getD v0).i⟩ : Vv).agg) rfl (yieldsIf_load_mid (by kernel_rfl) 28 (.tmp 62) rfl cb (co + p * 6) rfl (⟨kd,(g p).b1,.slice a1 n1 m1,(g p).b2,.slice a2 n2 m2,(s.cuts[p]?.getD v0).i⟩ : Vv).cells.toList _ (fun W' hS => by have h:=hRS W' p hS hpn; rwa [HGP.out] at h) Tryz.underlying28 rfl infoValN) qS ?_
    refine wpAnyD_tp (i:=6) (v:=.pointer (some ⟨B,10,none⟩)) rfl qS ?_
    refine wpAnyD_tk (i:=7) (v:=.slice (some ⟨cb,co,none⟩) n cm) rfl (.inl ⟨by kernel_rfl,fun W' hS => by have d10:=(HQ1'.out.below hS (by omega)).at (i:=10) (x:=.slice (some ⟨cb,co,none⟩) n cm) rfl; go_simp⟩) qS ?_
    refine wpAnyD_tp (i:=8) (v:=.int .i64 (m : Int)) rfl qS ?_
    refine wpAnyD_tp (i:=9) (v:=.pointer (some ⟨cb,co + m * 6,none⟩)) rfl qS ?_
    refine wpAnyD_tk (i:=10) (v:=(⟨kd,(g m).b1,.slice a3 n3 m3,(g m).b2,.slice a4 n4 m4,(s.cuts[m]?.getD v0).i⟩ : Vv).agg) rfl (yieldsIf_load_mid (by kernel_rfl) 28 (.tmp 67) rfl cb (co + m * 6) (by go_simp) (⟨kd,(g m).b1,.slice a3 n3 m3,(g m).b2,.slice a4 n4 m4,(s.cuts[m]?.getD v0).i⟩ : Vv).cells.toList _ (fun W' hS => by have h:=hRS W' m hS hmn2; rwa [HGM.out] at h) Tryz.underlying28 rfl infoValN) qS ?_
    refine wpAnyD_on (i:=11) rfl ?_
    go_simp
    refine (HMI.out _).mono ?_
    rintro e w4 ⟨rfl,hb4⟩
    have qS4 : Below w3.heap.size w3 w4:=qS.trans (hb4.mono qS.size)
    go_simp
    refine wpAnyD_tp (i:=12) (v:=(wholeX kd I).agg) rfl qS4 ?_
    refine wpAnyD_tp (i:=13) (v:=.bool true) rfl qS4 ?_
    have q4:=HQ4.out.below qS4 (by omega)
    obtain ⟨u0,u1,u2,u3,u4,u5⟩:=q4.six
    have v0':=q4.free 0
    have v1:=q4.free 1
    have v2:=q4.free 2
    have v3:=q4.free 3
    have v4:=q4.free 4
    have v5:=q4.free 5
    refine wpAnyD_on (i:=14) rfl ?_
    go_simp
    refine wpAnyD_on (i:=15) rfl ?_
    go_simp
    refine wpAnyD_done (by kernel_rfl) ?_ _
    have q5:=(((((q4.set (i:=0) (.int .u8 kd)).set (i:=1) (.bool false)).set (i:=2) (.slice none 0 0)).set (i:=3) (.bool false)).set (i:=4) (.slice none 0 0)).set (i:=5) (.int .i64 I)
    obtain ⟨e0',e1,e2',e3',e4,e5⟩:=q5.six
    have b4 : Below B w w4:=b3.trans (qS4.mono (by omega))
    clear u0 u1 u2 u3 u4 u5 v0' v1 v2 v3 v4 v5 q4 q5 hRS qS qS4 hb4
    go_wp2_with fail
    refine bodyPost_ret (v:=.tuple #[(wholeX kd I).agg,.bool true]) (by simp [results,Tryz.results9,go_sem,e0',e1,e2',e3',e4,e5]) rfl ?_
    exact ⟨_,rfl,wholeX_is _ _ _ _,(((((b4.setCell (p:=⟨B + 1,0,none⟩) (by simp) _).setCell (p:=⟨B + 1,1,none⟩) (by simp) _).setCell (p:=⟨B + 1,2,none⟩) (by simp) _).setCell (p:=⟨B + 1,3,none⟩) (by simp) _).setCell (p:=⟨B + 1,4,none⟩) (by simp) _).setCell (p:=⟨B + 1,5,none⟩) (by simp) _⟩
end Go.Proofs.YtlldjmagbjjeoaaGreat
