/- Contracts and plain laws, several texts in one (GHold2, GSmp2, GSmp01, GlKit, GlK2, GlK3). No conditions beyond those stated. -/
import Derived.Test.YtlidpghnlloinaaGreatDoorPk9
import Derived.Test.YtlidpghnlloinaaGreatDoorPk13
set_option maxRecDepth 100000
set_option maxHeartbeats 40000000
namespace Go.Proofs.YtlidpghnlloinaaGreatDoor
open Go.RowKit
set_option linter.unusedVariables false
structure HdPost (bb : Nat) (b : Bool) (r : Bool × Bool) (W : World) (en : Ending) (W' : World) : Prop where
 en : en = .returned (.bool r.1)
 gr : W.grownBy W' (some bb)
 ct : Blk W' bb #[.bool (b && r.2)] 4
abbrev hdF (lb bb cb bf : Nat) : Value:=.func (.func 147) #[] #[.pointer (some ⟨lb,0,none⟩),.pointer (some ⟨bb,0,none⟩),.pointer (some ⟨cb,0,none⟩),.pointer (some ⟨bf,0,none⟩)]
abbrev IntsX (K : Nat) (w : World) (v : Value) (cs : List Int) : Prop:=RowsV 1 (fun i _ => .int .i64 (cs[i]?.getD 0)) K w v cs.length
structure HdW (K lb bb cb bf : Nat) (l : List Sc) (cs : List Int) (lv cv : Value) (b : Bool) (W : World) : Prop where
 l : ScsX K W lv l
 c : IntsX K W cv cs
 qb : Blk W bb #[.bool b] 4
 ql : Blk W lb #[lv] 25
 qc : Blk W cb #[cv] 56
 qf : Blk W bf #[hdF lb bb cb bf] 146
theorem HdW.turn {K lb bb cb bf : Nat} {l : List Sc} {cs : List Int} {lv cv : Value} {b b' : Bool} {W W' : World} (h : HdW K lb bb cb bf l cs lv cv b W) (hK : K <= bb) (hg : W.grownBy W' (some bb)) (hq : Blk W' bb #[.bool b'] 4) : HdW K lb bb cb bf l cs lv cv b' W':=by
 have hb:=below_of_grownBy hg (by have := h.qb.lt; omega) hK
 refine ⟨h.l.below hb (Nat.le_refl _) (Nat.le_refl _),h.c.below hb (Nat.le_refl _) (Nat.le_refl _),hq,h.ql.kept hg fun e => ?_,h.qc.kept hg fun e => ?_,h.qf.kept hg fun e => ?_⟩
 ·cases e; exact absurd (h.ql.ty_ne h.qb) (by decide)
 ·cases e; exact absurd (h.qc.ty_ne h.qb) (by decide)
 ·cases e; exact absurd (h.qf.ty_ne h.qb) (by decide)
theorem HdW.grown {K lb bb cb bf : Nat} {l : List Sc} {cs : List Int} {lv cv : Value} {b : Bool} {W W' : World} (h : HdW K lb bb cb bf l cs lv cv b W) (hK : K <= bb) (hg : Below W.heap.size W W') : HdW K lb bb cb bf l cs lv cv b W' :=
 h.turn hK (grownBy_to (grown_below hg)) (h.qb.below hg h.qb.lt)
theorem HdW.put {K lb bb cb bf u : Nat} {l : List Sc} {cs : List Int} {lv cv : Value} {b : Bool} {W W' : World} {ar : Array Value} (h : HdW K lb bb cb bf l cs lv cv b W) (hu : Blk W u ar 192) (hK : K <= u) (hg : W.grownBy W' (some u)) : HdW K lb bb cb bf l cs lv cv b W':=by
 have hb:=below_of_grownBy hg (by have := hu.lt; omega) hK
 refine ⟨h.l.below hb (Nat.le_refl _) (Nat.le_refl _),h.c.below hb (Nat.le_refl _) (Nat.le_refl _),h.qb.kept hg fun e => ?_,h.ql.kept hg fun e => ?_,h.qc.kept hg fun e => ?_,h.qf.kept hg fun e => ?_⟩
 ·cases e; exact absurd (h.qb.ty_ne hu) (by decide)
 ·cases e; exact absurd (h.ql.ty_ne hu) (by decide)
 ·cases e; exact absurd (h.qc.ty_ne hu) (by decide)
 ·cases e; exact absurd (h.qf.ty_ne hu) (by decide)
theorem grownBy_new {w w' w'' : World} {r : Option Nat} {u : Nat} (h : w.grownBy w' r) (h' : w'.grownBy w'' (some u)) (hu : w.heap.size <= u) : w.grownBy w'' r :=
 ⟨h'.os.trans h.os,h'.tape.trans h.tape,h'.output.trans h.output,Nat.le_trans h.size h'.size,fun k hk hr => (h'.block k (Nat.lt_of_lt_of_le hk h.size) (fun e => by cases e; omega)).trans (h.block k hk hr)⟩
theorem combG_eq {o : Int} {f : Nat -> Bool} {x y z : Bool} (h0 : f 0 = x) (h1 : f 1 = y) (h2 : f 2 = z) : combG o f = if o = 15 then x && y else if o = 16 then x || y else if o = 17 then !x else if x = true then y else z:=by
 subst h0; subst h1; subst h2; rfl
theorem sv_range {g : Nat -> Sv} {w : World} {b o k n : Nat} (hc : ∀ i,i < n -> ∀ j,j < 11 -> w.cell? ⟨b,o + (i * 11 + j),none⟩ = some ((g i).cell j)) (hk : k < n) : w.rangeAt b (o + k * 11) (g k).cells.toList:=by
 intro j v hj
 have hj' : j < 11:=(List.getElem?_eq_some_iff.1 hj).1
 have := sv_cell_at (g k) hj'
 rw [hj,Option.getD_some] at this
 rw [this,Nat.add_assoc]; exact hc k hk j hj'
theorem infoScaleN : (Tryz.prog.info? 79).map (fun i => i.size) = some 11:=by kernel_rfl
theorem holdsF_at (K bb lb cb bf : Nat) (l : List Sc) (cs : List Int) (lv cv : Value) (hlen : cs.length = l.length) (hok : ∀ s ∈ l,CutsOk s.kd s.cuts /\ s.cuts.length <= 2 ^ 38) (hKb : K <= bb) (m : Nat) : ∀ (e : Gx),e.parts <= m -> e.parts <= 200 -> e.good = true -> ∀ (b : Bool) (x : Xv) (W : World),ExG K W e x -> HdW K lb bb cb bf l cs lv cv b W →
   Calls Tryz.prog 147 #[x.agg,.pointer (some ⟨lb,0,none⟩),.pointer (some ⟨bb,0,none⟩),.pointer (some ⟨cb,0,none⟩),.pointer (some ⟨bf,0,none⟩)] W (HdPost bb b (holdG l cs e) W):=by
 induction m with
 | zero => intro e hm; cases e; rw [partsG_mk] at hm; omega
 | succ m ih =>
  intro e hm h200 hgood b x W h hW
  have hlt1:=hW.qb.lt
  have hKW : K <= W.heap.size:=by omega
  obtain ⟨hop,hnm0,_,hv,g,hg,hgs⟩:=h.open
  obtain ⟨va,vcap,h8,hvl,hvm⟩:=hg.form
  have HX:=Lib.hid h
  have hvi : x.i7 = e.v.i:=hv.i
  clear hnm0
  obtain ⟨xop,xnm,kd,b3,⟨a4,n4,m4⟩,b5,⟨a6,n6,m6⟩,i7,⟨a8,n8,m8⟩⟩:=x
  simp only [Sl.val,Value.slice.injEq] at h8
  obtain ⟨rfl,rfl,rfl⟩:=h8
  dsimp only at hvi hop
  have HGS : Hid (∀ (k : Nat) (a : Gx),e.args[k]? = some a -> ExG K W a (g k) /\ a.parts <= m /\ a.parts <= 200 /\ a.good = true):=Lib.hid fun k a ha => by
   have h1:=partsG_arg (List.mem_of_getElem? ha)
   rw [partsG_args] at hm h200
   exact ⟨hgs k a ha,by omega,by omega,good_args hgood a (List.mem_of_getElem? ha)⟩
  have HVI:=Lib.hid hvi
  have HOP:=Lib.hid hop
  have HGG:=Lib.hid hg
  have HIH:=Lib.hid ih
  have HHW:=Lib.hid hW
  have HP : Hid (∀ r W',holdG l cs e = r -> W.grownBy W' (some bb) -> Blk W' bb #[.bool (b && r.2)] 4 -> HdPost bb b (holdG l cs e) W (.returned (.bool r.1)) W'):=Lib.hid fun r W' h1 h2 h3 => ⟨by rw [h1],h2,by rw [h1]; exact h3⟩
  obtain ⟨W1,hW1⟩ : ∃ W1,W.alloc (.cells (⟨xop,xnm,kd,b3,⟨a4,n4,m4⟩,b5,⟨a6,n6,m6⟩,i7,⟨a8,e.args.length,m8⟩⟩ : Xv).cells 49) = W1:=⟨_,rfl⟩
  have b1 : Below W.heap.size W W1:=by rw [<- hW1]; exact (Below.refl _ _).alloc (Nat.le_refl _) _
  have q1 : Blk W1 W.heap.size (⟨xop,xnm,kd,b3,⟨a4,n4,m4⟩,b5,⟨a6,n6,m6⟩,i7,⟨a8,e.args.length,m8⟩⟩ : Xv).cells 49:=by rw [<- hW1]; exact Blk.new W _ _
  have s1 : W1.heap.size = W.heap.size + 1:=by rw [<- hW1]; simp
  have hset:=settled_any K e _ W1 (h.below b1 hKW (Nat.le_refl _)) hgood (by omega)
  have hcom : ∀ W2,Below W1.heap.size W1 W2 -> Calls Tryz.prog 149 #[(⟨xop,xnm,kd,b3,⟨a4,n4,m4⟩,b5,⟨a6,n6,m6⟩,i7,⟨a8,e.args.length,m8⟩⟩ : Xv).agg] W2 fun en w' => en = .returned (.bool e.composed) /\ Below W2.heap.size W2 w':=fun W2 hb => composed_any K e _ W2 ((h.below b1 hKW (Nat.le_refl _)).below hb (by omega) (Nat.le_refl _))
  have HCOM:=Lib.hid hcom
  have hheq:=holdG_eq l cs e
  have HEQ:=Lib.hid hheq
  have HQ1:=Lib.hid q1
  unfold maxLen at hvm
  have HW1:=Lib.hid hW1
  obtain ⟨d0,d1,d2,d3,d4,d5,d6,d7,d8⟩:=q1.nine
  clear h hgs hg ih hm hW1 hv hcom hheq q1 hW hvi hop
  go_enter Tryz.func147,Tryz.ntmps147
  go_upto_region 1 with fail
  rw [HW1.out]
  go_wp2_with fail
  refine hset.mono ?_
  rintro en w2 ⟨rfl,hb2⟩
  clear hset d0 d1 d2 d3 d4 d5 d6 d7 d8
  obtain ⟨rs,hrs⟩ : ∃ r,e.settled = r:=⟨_,rfl⟩
  rw [hrs]
  have b2 : Below W.heap.size W w2:=b1.trans (hb2.mono (by omega))
  have hq2:=HQ1.out.below hb2 (by omega)
  obtain ⟨d0,d1,d2,d3,d4,d5,d6,d7,d8⟩:=hq2.nine
  cases rs with
  | true =>
   have hx:=HP.out (e.v.i == 1,true) w2 (by rw [HEQ.out,if_pos hrs]) (grownBy_to (grown_below b2)) (by simpa using HHW.out.qb.below b2 hlt1)
   rw [<- HVI.out] at hx
   go_wp2_with fail
   go_ret
   exact hx
  | false =>
   go_wp2_with fail
   refine (HCOM.out w2 hb2).mono ?_
   rintro en w3 ⟨rfl,hb3⟩
   clear d0 d1 d2 d3 d4 d5 d6 d7 d8
   have b3' : Below W.heap.size W w3:=b2.trans (hb3.mono b2.size)
   have hq3:=hq2.below hb3 hq2.lt
   obtain ⟨rc,hrc⟩ : ∃ r,e.composed = r:=⟨_,rfl⟩
   rw [hrc]
   have hW3:=HHW.out.grown hKb b3'
   cases rc with
   | false =>
    have ht:=testOf_any K e _ w3 (HX.out.below b3' hKW (Nat.le_refl _)) hgood (by have := b3'.size; omega)
    obtain ⟨d0,d1,d2,d3,d4,d5,d6,d7,d8⟩:=hq3.nine
    go_wp2_with fail
    refine ht.mono ?_
    rintro en w4 ⟨y,rfl,hty,hb4⟩
    clear ht d0 d1 d2 d3 d4 d5 d6 d7 d8
    have b4 : Below W.heap.size W w4:=b3'.trans (hb4.mono b3'.size)
    have hW4:=HHW.out.grown hKb b4
    obtain ⟨⟨yop,ynm,yk,yb3,⟨y4,y4n,y4m⟩,yb5,⟨y6,y6n,y6m⟩,yi7,⟨y8,y8n,y8m⟩⟩,tk,⟨kx,f1,x1,f2,x2,xi⟩,to,tsn⟩:=y
    obtain ⟨a1,m1,hv1,_⟩:=hty.cut.n.form
    obtain ⟨a2,m2,hv2,_⟩:=hty.cut.d.form
    obtain ⟨l1n,hl1n⟩ : ∃ n,(testOf e).cut.l1.length = n:=⟨_,rfl⟩
    obtain ⟨l2n,hl2n⟩ : ∃ n,(testOf e).cut.l2.length = n:=⟨_,rfl⟩
    rw [hl1n] at hv1
    rw [hl2n] at hv2
    dsimp only at hv1 hv2
    subst hv1 hv2
    clear hl1n hl2n
    have h1c : ∀ u ∈ (⟨⟨yop,ynm,yk,yb3,⟨y4,y4n,y4m⟩,yb5,⟨y6,y6n,y6m⟩,yi7,⟨y8,y8n,y8m⟩⟩,tk,⟨kx,f1,.slice a1 l1n m1,f2,.slice a2 l2n m2,xi⟩,to,tsn⟩ : Tv).cells,u.oneCell' = true:=by simp [Value.oneCell']
    go_upto_region 5 with (refine wpList_store_new rfl 156 (.tmp 7) (.tmp 24) rfl (⟨⟨yop,ynm,yk,yb3,⟨y4,y4n,y4m⟩,yb5,⟨y6,y6n,y6m⟩,yi7,⟨y8,y8n,y8m⟩⟩,tk,⟨kx,f1,.slice a1 l1n m1,f2,.slice a2 l2n m2,xi⟩,to,tsn⟩ : Tv).cells _ infoTest rfl h1c w4.heap.size rfl rfl rfl ?_)
    generalize hW5 : w4.alloc _ = W5
    have s4:=b4.size
    have b5' : Below w4.heap.size w4 W5:=by rw [<- hW5]; exact (Below.refl _ _).alloc (Nat.le_refl _) _
    have b5 : Below W.heap.size W W5:=b4.trans (b5'.mono s4)
    have q5 : Blk W5 w4.heap.size (⟨⟨yop,ynm,yk,yb3,⟨y4,y4n,y4m⟩,yb5,⟨y6,y6n,y6m⟩,yi7,⟨y8,y8n,y8m⟩⟩,tk,⟨kx,f1,.slice a1 l1n m1,f2,.slice a2 l2n m2,xi⟩,to,tsn⟩ : Tv).cells 156:=by rw [<- hW5]; exact Blk.new w4 _ _
    have hW5':=HHW.out.grown hKb b5
    have hty5:=hty.below b5' (by omega) (Nat.le_refl _)
    have s5:=b5'.size
    obtain ⟨la,lc,hlv,_,hlm⟩:=hW5'.l.form
    unfold maxLen at hlm
    have hix:=idxScale_any K (testOf e) _ lv l W5 hty5 hW5'.l (by omega)
    rw [hlv] at hix
    have c5:=hW5'.ql.one.1
    rw [hlv] at c5
    have HTC : Hid (holdG l cs e = testC l cs e):=Lib.hid (by rw [HEQ.out,if_neg (by rw [hrs]; simp),if_neg (by rw [hrc]; simp)])
    have HQ5:=Lib.hid q5
    have HTY:=Lib.hid hty5
    have HB5:=Lib.hid b5
    have q5lt:=q5.lt
    obtain ⟨u,hu⟩ : ∃ u,w4.heap.size = u:=⟨_,rfl⟩
    rw [hu] at HQ5 q5lt ⊢
    have HLV:=Lib.hid hlv
    have qbl:=hW5'.qb.lt
    obtain ⟨g2,hrow2,hsc2⟩:=hW5'.l
    have HR2:=Lib.hid hrow2
    have HC2:=Lib.hid hW5'.c
    have HS2:=Lib.hid hsc2
    have HHW5:=Lib.hid hW5'
    clear hrow2 hsc2 hW5 b5' hty hty5 q5 hu hW4 hW3 hq3 hq2 hb4 hb3 hb2 hW5' b5 hlv s4
    have HRG : Hid (W5.rangeAt u 0 (⟨⟨yop,ynm,yk,yb3,⟨y4,y4n,y4m⟩,yb5,⟨y6,y6n,y6m⟩,yi7,⟨y8,y8n,y8m⟩⟩,tk,⟨kx,f1,.slice a1 l1n m1,f2,.slice a2 l2n m2,xi⟩,to,tsn⟩ : Tv).cells.toList):=Lib.hid HQ5.out.range
    by_cases hi : l.findIdx (testOf e).belongs < l.length
    ·obtain ⟨i,hie⟩ : ∃ i,l.findIdx (testOf e).belongs = i:=⟨_,rfl⟩
     have hixe : idxS l (testOf e) = (i : Int):=by unfold idxS; rw [if_pos hi,hie]
     rw [hixe] at hix
     have hbel:=belongs_at hi
     rw [hie] at hbel hi
     obtain ⟨sb,so,scap,hse,_,_,hsb,hscl⟩:=HR2.out.pos (by omega)
     obtain ⟨kb,ko,kcap,hke,_,hkm,hkb,hkcl⟩:=HC2.out.pos (by omega)
     rw [HLV.out] at hse
     simp only [Value.slice.injEq,true_and] at hse
     obtain ⟨rfl,rfl⟩:=hse
     have hmem : l[i]?.getD default ∈ l:=by rw [List.getElem?_eq_getElem hi]; exact List.getElem_mem hi
     obtain ⟨hcc,hbig⟩:=hok _ hmem
     have htq:=testOf_ok hgood h200
     obtain ⟨sc,hsc⟩ : ∃ s,l[i]?.getD default = s:=⟨_,rfl⟩
     obtain ⟨y2,hy2⟩ : ∃ y,g2 i = y:=⟨_,rfl⟩
     obtain ⟨ci,hci⟩ : ∃ c,cs[i]?.getD 0 = c:=⟨_,rfl⟩
     have hx2:=HS2.out i hi
     rw [hsc,hy2] at hx2
     rw [hsc] at hcc hbig hbel
     have htk : (testOf e).kd ≠ 0 -> (testOf e).cut.good = true /\ (testOf e).cut.ok = true /\ (testOf e).cut.kd = sc.kd:=fun h => by
      obtain ⟨h1,h2,h3⟩:=htq.cut h
      exact ⟨h1,h2,by rw [h3,belongs_kd hbel]⟩
     have htc : ∀ W',Below W5.heap.size W5 W' -> Calls Tryz.prog 151 #[(⟨⟨yop,ynm,yk,yb3,⟨y4,y4n,y4m⟩,yb5,⟨y6,y6n,y6m⟩,yi7,⟨y8,y8n,y8m⟩⟩,tk,⟨kx,f1,.slice a1 l1n m1,f2,.slice a2 l2n m2,xi⟩,to,tsn⟩ : Tv).agg,y2.agg,.int .i64 ci] W' fun e' w' => e' = .returned (.tuple #[.bool (testH (testOf e) sc ci).1,.bool (testH (testOf e) sc ci).2]) /\ Below W'.heap.size W' w':=fun W' hb =>
      tholds_any K (testOf e) sc ci _ y2 W' (HTY.out.below hb (by omega) (Nat.le_refl _)) (hx2.below hb (by omega) (Nat.le_refl _)) (by have := hb.size; omega) hcc htk hbig
     obtain ⟨r,hr0⟩ : ∃ r,testH (testOf e) sc ci = r:=⟨_,rfl⟩
     rw [hr0] at htc
     have HR : Hid (holdG l cs e = r):=Lib.hid (by rw [HTC.out]; unfold testC; rw [hie,if_pos hi,hsc,hci]; exact hr0)
     have HT:=Lib.hid htc
     have HSR : Hid (∀ W',Below W5.heap.size W5 W' -> W'.rangeAt sb (so + i * 11) y2.cells.toList):=Lib.hid fun W' hb => by
      rw [<- hy2]; exact sv_range (cells_below hb (by omega) hscl) hi
     have HKR : Hid (∀ W',Below W5.heap.size W5 W' -> W'.cell? ⟨kb,ko + i,none⟩ = some (.int .i64 ci)):=Lib.hid fun W' hb => by
      have := cells_below hb (by omega) hkcl i (by omega) 0 (by omega)
      simpa [hci] using this
     have hkl : i < cs.length:=by omega
     have HKE:=Lib.hid hke
     have hsl : sb < W5.heap.size:=by omega
     have hkl2 : kb < W5.heap.size:=by omega
     clear hixe hie hbel hscl hkcl hcc hbig htq hx2 htk htc hr0 hmem hy2 hci hsc hke
     go_wp2_with (refine wpList_load_mid rfl 156 (.tmp 7) rfl u 0 rfl (⟨⟨yop,ynm,yk,yb3,⟨y4,y4n,y4m⟩,yb5,⟨y6,y6n,y6m⟩,yi7,⟨y8,y8n,y8m⟩⟩,tk,⟨kx,f1,.slice a1 l1n m1,f2,.slice a2 l2n m2,xi⟩,to,tsn⟩ : Tv).cells.toList _ HRG.out Tryz.underlying156 rfl infoTest ?_)
     refine hix.mono ?_
     rintro en w6 ⟨rfl,hb6⟩
     clear hix c5
     have b6 : Below W.heap.size W w6:=HB5.out.trans (hb6.mono HB5.out.size)
     have hs6:=hb6.size
     have hii : i < l.length:=hi
     go_upto_region 9 with fail
     refine region_plain (fun W' => Below w6.heap.size w6 W') [] (by kernel_rfl) ?_
     have qS : (fun W' => Below w6.heap.size w6 W') w6.drew:=below_quiet (Below.refl _ _)
     have hS5 : ∀ W',Below w6.heap.size w6 W' -> Below W5.heap.size W5 W':=fun W' h => hb6.trans (h.mono hs6)
     refine wpAnyD_tk (i:=0) (v:=(⟨⟨yop,ynm,yk,yb3,⟨y4,y4n,y4m⟩,yb5,⟨y6,y6n,y6m⟩,yi7,⟨y8,y8n,y8m⟩⟩,tk,⟨kx,f1,.slice a1 l1n m1,f2,.slice a2 l2n m2,xi⟩,to,tsn⟩ : Tv).agg) rfl (yieldsIf_load_mid (by kernel_rfl) 156 (.tmp 7) rfl u 0 rfl (⟨⟨yop,ynm,yk,yb3,⟨y4,y4n,y4m⟩,yb5,⟨y6,y6n,y6m⟩,yi7,⟨y8,y8n,y8m⟩⟩,tk,⟨kx,f1,.slice a1 l1n m1,f2,.slice a2 l2n m2,xi⟩,to,tsn⟩ : Tv).cells.toList _ (fun W' hS => (HQ5.out.below (hS5 W' hS) q5lt).range) Tryz.underlying156 rfl infoTest) qS ?_
     refine wpAnyD_tk (i:=1) (v:=.slice (some ⟨sb,so,none⟩) l.length lc) rfl (.inl ⟨by kernel_rfl,fun W' hS => by have d0:=(HHW5.out.ql.below (hS5 W' hS) HHW5.out.ql.lt).one.1; rw [HLV.out] at d0; go_simp⟩) qS ?_
     refine wpAnyD_tp (i:=2) (v:=.int .i64 (i : Int)) rfl qS ?_
     refine wpAnyD_tp (i:=3) (v:=.pointer (some ⟨sb,so + i * 11,none⟩)) rfl qS ?_
     refine wpAnyD_tk (i:=4) (v:=y2.agg) rfl (yieldsIf_load_mid (by kernel_rfl) 79 (.tmp 35) rfl sb (so + i * 11) rfl y2.cells.toList _ (fun W' hS => HSR.out W' (hS5 W' hS)) Tryz.underlying79 rfl infoScaleN) qS ?_
     refine wpAnyD_tk (i:=5) (v:=.slice (some ⟨kb,ko,none⟩) cs.length kcap) rfl (.inl ⟨by kernel_rfl,fun W' hS => by have d0:=(HHW5.out.qc.below (hS5 W' hS) HHW5.out.qc.lt).one.1; rw [HKE.out] at d0; go_simp⟩) qS ?_
     refine wpAnyD_tp (i:=6) (v:=.int .i64 (i : Int)) rfl qS ?_
     refine wpAnyD_tp (i:=7) (v:=.pointer (some ⟨kb,ko + i,none⟩)) rfl qS ?_
     refine wpAnyD_tk (i:=8) (v:=.int .i64 ci) rfl (.inl ⟨by kernel_rfl,fun W' hS => by have d0:=HKR.out W' (hS5 W' hS); go_simp⟩) qS ?_
     refine wpAnyD_one (i:=9) (by kernel_rfl) rfl (by kernel_rfl) ?_
     go_simp
     refine (HT.out _ (hS5 _ qS)).mono ?_
     rintro en w7 ⟨rfl,hb7⟩
     have qS6 : Below w6.heap.size w6 w7:=qS.trans (hb7.mono qS.size)
     refine ⟨qS6,?_⟩
     obtain ⟨r1,r2⟩:=r
     dsimp only
     refine wpAnyD_tp (i:=10) (v:=.tuple #[.bool r1,.bool r2]) rfl qS6 ?_
     refine wpAnyD_tp (i:=11) (v:=.bool r1) rfl qS6 ?_
     refine wpAnyD_tp (i:=12) (v:=.bool r2) rfl qS6 ?_
     refine wpAnyD_tp (i:=13) (v:=.bool r1) rfl qS6 ?_
     refine wpAnyD_one (i:=14) (by kernel_rfl) rfl (by kernel_rfl) ?_
     go_simp
     refine wpAnyD_done (by kernel_rfl) ?_ _
     have b7 : Below W.heap.size W w7:=b6.trans (qS6.mono b6.size)
     obtain ⟨c7,f7⟩:=(HHW.out.grown hKb b7).qb.one
     have hx:=HP.out (r1,r2) (w7.setCell ⟨bb,0,none⟩ (.bool (b && r2))) HR.out (grownBy_then (grownBy_to (grown_below b7)) (grownBy_setCell _ _ _ _)) (by simpa using (HHW.out.grown hKb b7).qb.set (i:=0) (.bool (b && r2)))
     clear hb7 qS6 hb6 qS hS5 b6
     cases b with
     | false =>
      go_wp2_with fail
      go_ret
      exact hx
     | true =>
      go_wp2_with fail
      go_ret
      exact hx
    ·have hixe : idxS l (testOf e) = -1:=by unfold idxS; rw [if_neg hi]
     rw [hixe] at hix
     have hr : holdG l cs e = (false,false):=by rw [HTC.out]; unfold testC; rw [if_neg hi]
     have HR:=Lib.hid hr
     clear hixe hr hi
     go_wp2_with (refine wpList_load_mid rfl 156 (.tmp 7) rfl u 0 rfl (⟨⟨yop,ynm,yk,yb3,⟨y4,y4n,y4m⟩,yb5,⟨y6,y6n,y6m⟩,yi7,⟨y8,y8n,y8m⟩⟩,tk,⟨kx,f1,.slice a1 l1n m1,f2,.slice a2 l2n m2,xi⟩,to,tsn⟩ : Tv).cells.toList _ HRG.out Tryz.underlying156 rfl infoTest ?_)
     refine hix.mono ?_
     rintro en w6 ⟨rfl,hb6⟩
     clear hix c5
     have b6 : Below W.heap.size W w6:=HB5.out.trans (hb6.mono HB5.out.size)
     obtain ⟨c6,f6⟩:=(HHW.out.grown hKb b6).qb.one
     have hx:=HP.out (false,false) (w6.setCell ⟨bb,0,none⟩ (.bool false)) HR.out (grownBy_then (grownBy_to (grown_below b6)) (grownBy_setCell _ _ _ _)) (by simpa using (HHW.out.grown hKb b6).qb.set (i:=0) (.bool false))
     go_wp2_with fail
     go_ret
     exact hx
   | true =>
    have hlen3:=composed_len hrc
    have HCQ : Hid (holdG l cs e = (combG e.op fun k => (argH l cs e k).1,belG l cs e e.args.length)):=Lib.hid (by rw [HEQ.out,if_neg (by rw [hrs]; simp),if_pos hrc,belG_all])
    obtain ⟨d0,d1,d2,d3,d4,d5,d6,d7,d8⟩:=hq3.nine
    have HQ3:=Lib.hid hq3
    have HB3:=Lib.hid b3'
    clear hq2 hq3 b3' hb2 hb3 hrc hrs hW3
    go_upto_region 13 with fail
    generalize hV : w3.alloc _ = W4
    have hs3:=HB3.out.size
    have q4 : Blk W4 w3.heap.size (vArr (fun k => (argH l cs e k).1) 0) 192:=by rw [<- hV]; exact Blk.new w3 _ _
    have b4' : Below w3.heap.size w3 W4:=by rw [<- hV]; exact (Below.refl _ _).alloc (Nat.le_refl _) _
    have b4 : Below W.heap.size W W4:=HB3.out.trans (b4'.mono hs3)
    have s4 : W4.heap.size = w3.heap.size + 1:=by rw [<- hV]; simp
    have hW4 : HdW K lb bb cb bf l cs lv cv (b && belG l cs e 0) W4:=by rw [belG_zero,Bool.and_true]; exact HHW.out.grown hKb b4
    have hq4:=HQ3.out.below b4' HQ3.out.lt
    have hq4lt:=HQ3.out.lt
    obtain ⟨u,hu⟩ : ∃ u,w3.heap.size = u:=⟨_,rfl⟩
    rw [hu] at q4 s4 hs3 hq4lt ⊢
    obtain ⟨n,hn⟩ : ∃ n,e.args.length = n:=⟨_,rfl⟩
    have HN:=Lib.hid hn
    have HGR4:=Lib.hid (grownBy_to (r:=some bb) (grown_below b4))
    clear hV b4' b4 hu
    have d8:=hq4.at (i:=8) (x:=.slice a8 e.args.length m8) rfl
    rw [hn] at d8 hlen3
    have HQ4:=Lib.hid hq4
    clear d0 d1 d2 d3 d4 d5 d6 d7 hq4
    simp only [HN.out]
    have hvm' : m8 <= 9223372036854775807:=hvm
    go_wp2_with fail
    clear d8
    go_loopw [52] (fun i wr => ∃ (k : Nat),k <= n /\ i = .int .i64 k /\ Blk wr u (vArr (fun k => (argH l cs e k).1) k) 192 /\ HdW K lb bb cb bf l cs lv cv (b && belG l cs e k) wr /\ W.grownBy wr (some bb) /\ Blk wr W.heap.size (⟨xop,xnm,kd,b3,⟨a4,n4,m4⟩,b5,⟨a6,n6,m6⟩,i7,⟨a8,e.args.length,m8⟩⟩ : Xv).cells 49) (fun i _ => n - (intOf i).toNat)
    case atStart => exact ⟨0,Nat.zero_le _,rfl,q4,hW4,HGR4.out,HQ4.out⟩
    case round =>
     obtain ⟨k,hk,rfl,rv,rW,hgr,rx⟩:=hrel
     have HRX:=Lib.hid rx
     have HRW:=Lib.hid rW
     have HGR:=Lib.hid hgr
     have hrv:=rv.lt
     have hsr:=hgr.size
     by_cases hlt : k < n
     ·have hlt' : k < e.args.length:=by rw [HN.out]; exact hlt
      obtain ⟨ab,ao,acap,he,_,hcm,hbK,hc⟩:=HGG.out.pos (by omega)
      simp only [Sl.val,Value.slice.injEq,true_and] at he
      obtain ⟨rfl,rfl⟩:=he
      have hbr : Below K W wr:=below_of_grownBy hgr hKW hKb
      obtain ⟨k0,k1,k2,k3,k4,k5,k6,k7,k8⟩:=ex_cells (cells_below hbr hbK hc) hlt'
      obtain ⟨ek,hek⟩ : ∃ ek,e.args[k]? = some ek:=⟨_,List.getElem?_eq_getElem hlt'⟩
      obtain ⟨hqe,hpm,hp2,hgd⟩:=HGS.out k ek hek
      obtain ⟨y,hy⟩ : ∃ y,g k = y:=⟨_,rfl⟩
      rw [hy] at hqe k0 k1 k2 k3 k4 k5 k6 k7 k8
      have hwr2 : Below wr.heap.size wr (wr.alloc (.cells y.cells 49)):=(Below.refl _ _).alloc (Nat.le_refl _) _
      have hcall:=HIH.out ek hpm hp2 hgd (b && belG l cs e k) y (wr.alloc (.cells y.cells 49)) (hqe.below (hbr.alloc (by omega) _) (Nat.le_refl _) (Nat.le_refl _)) (rW.grown hKb hwr2)
      have f0 : wr.cell? ⟨bf,0,none⟩ = some (hdF lb bb cb bf):=rW.qf.one.1
      have hbfl:=rW.qf.lt
      have HEK:=Lib.hid hek
      have hk3 : k < 3:=by omega
      have HV : Hid ((vArr (fun k => (argH l cs e k).1) k)[k]? = some (.bool false)):=Lib.hid (by
       match k,hk3 with
       | 0,_ => simp [vArr]
       | 1,_ => simp [vArr]
       | 2,_ => simp [vArr])
      have HRV:=Lib.hid rv
      have ublt : u ≠ bb:=fun h => by subst h; exact absurd (rv.ty_ne rW.qb) (by decide)
      clear hek hc hy hqe hpm hp2 hgd rv rW hgr rx hbr hwr2 hlt'
      go_wp2_with fail
      refine hcall.mono ?_
      rintro en W6 ⟨rfl,hg6,hct6⟩
      clear hcall k0 k1 k2 k3 k4 k5 k6 k7 k8 f0
      have hg6' : wr.grownBy W6 (some bb):=grownBy_then (World.grownBy_alloc wr _ _) hg6
      obtain ⟨t,ht⟩ : ∃ t,(holdG l cs ek).1 = t:=⟨_,rfl⟩
      rw [ht]
      have rv6:=HRV.out.kept hg6' (fun h => ublt (Option.some.inj h))
      have ck:=rv6.at (i:=k) HV.out
      have fv:=rv6.free k
      have hW6 : HdW K lb bb cb bf l cs lv cv (b && belG l cs e (k + 1)) W6:=by
       have := HRW.out.turn hKb hg6' hct6
       rwa [Bool.and_assoc,<- belG_succ HEK.out] at this
      have hgs : W6.grownBy (W6.setCell ⟨u,k,none⟩ (.bool t)) (some u):=grownBy_setCell _ _ _ _
      have rv7 : Blk (W6.setCell ⟨u,k,none⟩ (.bool t)) u (vArr (fun k => (argH l cs e k).1) (k + 1)) 192:=by
       have h1:=rv6.set (i:=k) (.bool t)
       have h2 : (vArr (fun k => (argH l cs e k).1) k).setIfInBounds k (.bool t) = vArr (fun k => (argH l cs e k).1) (k + 1):=by
        rw [<- vArr_set hk3,argH_at HEK.out,ht]
       rw [h2] at h1
       exact h1
      have hW7 : HdW K lb bb cb bf l cs lv cv (b && belG l cs e (k + 1)) (W6.setCell ⟨u,k,none⟩ (.bool t)):=hW6.put rv6 (by omega) hgs
      have hgr7 : W.grownBy (W6.setCell ⟨u,k,none⟩ (.bool t)) (some bb):=grownBy_new (grownBy_then HGR.out hg6') hgs (by omega)
      have hx7 : Blk (W6.setCell ⟨u,k,none⟩ (.bool t)) W.heap.size (⟨xop,xnm,kd,b3,⟨a4,n4,m4⟩,b5,⟨a6,n6,m6⟩,i7,⟨some ⟨ab,ao,none⟩,e.args.length,m8⟩⟩ : Xv).cells 49:=(HRX.out.kept hg6' (by simp; omega)).kept hgs (by simp; omega)
      clear hct6 hg6 rv6 hW6 hgs ht
      go_wp2_with fail
      exact ⟨⟨k + 1,by omega,by go_num,rv7,hW7,hgr7,hx7⟩,by simp [intOf]; omega⟩
     ·obtain rfl : k = n:=by omega
      have hF : ∀ j,k <= j -> (argH l cs e j).1 = false:=fun j hj => by rw [argH_none (by rw [HN.out]; exact hj)]
      rw [vArr_get hF] at rv
      obtain ⟨v0,v1,v2⟩ : _ /\ _ /\ _:=⟨rv.at (i:=0) rfl,rv.at (i:=1) rfl,rv.at (i:=2) rfl⟩
      have HCQ':=HCQ.out
      rw [HN.out,<- HOP.out] at HCQ'
      obtain ⟨F0,hF0⟩ : ∃ f,(argH l cs e 0).1 = f:=⟨_,rfl⟩
      obtain ⟨F1,hF1⟩ : ∃ f,(argH l cs e 1).1 = f:=⟨_,rfl⟩
      obtain ⟨F2,hF2⟩ : ∃ f,(argH l cs e 2).1 = f:=⟨_,rfl⟩
      rw [hF0] at v0
      rw [hF1] at v1
      rw [hF2] at v2
      obtain ⟨R,hR⟩ : ∃ R,combG xop (fun k => (argH l cs e k).1) = R:=⟨_,rfl⟩
      rw [hR] at HCQ'
      have hx:=HP.out (R,belG l cs e k) wr HCQ' hgr rW.qb
      rw [combG_eq (f:=fun k => (argH l cs e k).1) hF0 hF1 hF2] at hR
      have x0:=rx.at (i:=0) (x:=.int .u8 xop) rfl
      have HHX:=Lib.hid hx
      clear rv rW rx hgr hF hF0 hF1 hF2 HCQ' hx
      by_cases h15 : xop = 15
      ·subst h15
       rw [if_pos rfl] at hR
       subst hR
       cases F0 <;>
       ·go_wp2_with fail
        go_ret
        exact HHX.out
      ·rw [if_neg h15] at hR
       have e15 : (xop == 15) = false:=by simpa using h15
       by_cases h16 : xop = 16
       ·subst h16
        rw [if_pos rfl] at hR
        subst hR
        cases F0 <;>
        ·go_wp2_with fail
         go_ret
         exact HHX.out
       ·rw [if_neg h16] at hR
        have e16 : (xop == 16) = false:=by simpa using h16
        by_cases h17 : xop = 17
        ·subst h17
         rw [if_pos rfl] at hR
         subst hR
         go_wp2_with fail
         go_ret
         exact HHX.out
        ·rw [if_neg h17] at hR
         have e17 : (xop == 17) = false:=by simpa using h17
         cases F0 with
         | true =>
          rw [if_pos rfl] at hR
          subst hR
          go_wp2_with fail
          go_ret
          exact HHX.out
         | false =>
          rw [if_neg (by simp)] at hR
          subst hR
          go_wp2_with fail
          go_ret
          exact HHX.out
theorem vv_range {g : Nat -> Vv} {w : World} {b o k n : Nat} (hc : ∀ i,i < n -> ∀ j,j < 6 -> w.cell? ⟨b,o + (i * 6 + j),none⟩ = some ((g i).cell j)) (hk : k < n) : w.rangeAt b (o + k * 6) (g k).cells.toList:=by
 intro j v hj
 have hj' : j < 6:=(List.getElem?_eq_some_iff.1 hj).1
 have := vv_cell_at (g k) hj'
 rw [hj,Option.getD_some] at this
 rw [this,Nat.add_assoc]; exact hc k hk j hj'
theorem infoValN : (Tryz.prog.info? 47).map (fun i => i.size) = some 6:=by kernel_rfl
theorem Wd.lm {K n : Nat} {w : World} {v : Value} (h : Wd .u16 K w v n) (h0 : 0 < n) (hn : n < 65536) : Lm K w v [n]:=by
 rcases h with ⟨h1,_⟩ | ⟨_,b,o,c,rfl,h1,h2,h3,h4⟩
 ·omega
 ·refine ⟨RowsV.mk_cells (by simpa using h1) h2 h3 fun i hi j hj => ?_,fun d hd => by rw [List.mem_singleton.1 hd]; exact hn⟩
  obtain rfl : i = 0:=by simpa using hi
  obtain rfl : j = 0:=by omega
  simpa using h4
def mRows (l : List Nat) : List (List Value):=l.map fun x : Nat => [.int .u16 (x : Int)]
theorem mRows_ok (l : List Nat) : RowsOk 1 (mRows l):=fun r hr => by
 obtain ⟨x,_,rfl⟩:=List.mem_map.1 hr
 exact ⟨rfl,fun u hu => by rw [List.mem_singleton.1 hu]; rfl⟩
theorem lm_one {K n g o cap : Nat} {w : World} (h1 : 1 <= cap) (h2 : cap <= maxLen) (h3 : g < K) (h4 : w.cell? ⟨g,o,none⟩ = some (.int .u16 n)) (hn : n < 65536) : Lm K w (.slice (some ⟨g,o,none⟩) 1 cap) [n]:=by
 refine ⟨RowsV.mk_cells (by simpa using h1) h2 h3 fun i hi j hj => ?_,fun d hd => by rw [List.mem_singleton.1 hd]; exact hn⟩
 obtain rfl : i = 0:=by have : i < 1:=hi; omega
 obtain rfl : j = 0:=by omega
 simpa using h4
theorem Tryz.infoU16G : (Tryz.prog.info? 184).map (fun i => (i.zero,i.size,i.bytes)) = some (some (.int .u16 0),1,2):=by kernel_rfl
theorem kwhole_any (n : Nat) (w : World) (h0 : 0 < n) (hn : n < 65536) :
  Calls Tryz.prog 138 #[.int .i64 n] w fun e w' => ∃ v,e = .returned (Wv v) /\ Lm w'.heap.size w' v [n] /\ Below w.heap.size w w' /\ NewV w.heap.size v:=by
 have hw1 : IntKind.u64.wrap (n : Int) = (n : Int):=by rw [IntKind.wrap_u64]; omega
 have hw2 : IntKind.u16.wrap (n : Int) = (n : Int):=by rw [IntKind.wrap_u16]; omega
 have hdv : (n : Int) / 65536 = 0:=by omega
 have hlt : decide ((n : Int) < 0) = false:=by simp
 have hgt : decide ((0 : Int) < (n : Int)) = true:=by simp; omega
 obtain ⟨W1,hW1⟩ : ∃ W1,((w.alloc (.cells #[.bool false,.slice none 0 0] 43)).alloc (.cells #[.bool false,.slice none 0 0] 43)).alloc (.cells #[.int .u16 n] 184) = W1:=⟨_,rfl⟩
 obtain ⟨b1,q0,q1,q2,s1⟩:=alloc3 w _ _ _ _ _ _ hW1
 obtain ⟨B,hB⟩ : ∃ B,w.heap.size = B:=⟨_,rfl⟩
 have HB:=Lib.hid hB
 have HW:=Lib.hid hW1
 rw [hB] at b1 q0 q1 q2 s1 ⊢
 have hcell : ∀ (i : Nat) (r : List Value) (j : Nat) (u : Value),(mRows [n])[i]? = some r -> r[j]? = some u -> W1.cell? ⟨B + 2,0 + (i * 1 + j),none⟩ = some u:=fun i r j u hi hj => by
  match i,hi with
  | 0,hi =>
   simp only [mRows,List.map_cons,List.map_nil,List.getElem?_cons_zero,Option.some.injEq] at hi
   subst hi
   match j,hj with
   | 0,hj => cases hj; exact q2.at rfl
   | j + 1,hj => simp at hj
  | i + 1,hi => simp [mRows] at hi
 have HC:=Lib.hid hcell
 clear hB hW1 hcell
 go_enter Tryz.func138,Tryz.ntmps138
 go_wp2_with fail
 refine wp_loop_rounds 2 ?_
 rw [rounds_succ]
 go_wp2_with (at_builtin; simp only [HB.out,Nat.add_assoc,Nat.reduceAdd]; rw [HW.out]; refine wpList_append_rows rfl (.tmp 19) (.tmp 22) 41 rfl Tryz.underlying41 Tryz.infoU16G (by kernel_rfl) (by decide) (by simp [Act.eval]) (OwnR.nil 1 184 B W1) (b:=B + 2) (off:=0) (m:=1) (cap:=1) (ms:=mRows [n]) (by simp [Act.eval]) rfl (mRows_ok _) HC.out (by decide) (by simp [maxLen]) (by simp) (by omega) ?_)
 intro g cap w5 hown hg5 hat5
 have hg9 : g = B + 3:=by
  rcases hat5 with h | h
  ·cases h
  ·omega
 subst hg9
 have b5' : Below W1.heap.size W1 w5:=below_grown hg5 (fun r e => by cases e) (Nat.le_refl _)
 have hs5:=b5'.size
 have b5 : Below B w w5:=b1.trans (b5'.mono (by omega))
 have p0:=q0.below b5' q0.lt
 have p1:=q1.below b5' q1.lt
 obtain ⟨gb,go,gc,he,hc1,hc2,hc3,hc4⟩:=hown.rows.pos (by simp [mRows])
 simp only [Value.slice.injEq,Option.some.injEq,Addr.mk.injEq,and_true] at he
 obtain ⟨⟨hgb,rfl⟩,h11,rfl⟩:=he
 subst hgb
 clear h11
 have hc5 : w5.cell? ⟨B + 3,0,none⟩ = some (.int .u16 n):=hc4 0 (by simp [mRows]) 0 (by omega)
 have hc1 : 1 <= cap:=by simpa [mRows] using hc1
 obtain ⟨d0,d1⟩:=p1.two
 have f1:=p1.free 1
 have r1:=p1.set (i:=1) (.slice (some ⟨B + 3,0,none⟩) 1 cap)
 have r0:=p0.other (b':=B + 1) (i:=1) (by omega) (.slice (some ⟨B + 3,0,none⟩) 1 cap)
 obtain ⟨W6,hW6⟩ : ∃ W6,w5.setCell ⟨B + 1,1,none⟩ (.slice (some ⟨B + 3,0,none⟩) 1 cap) = W6:=⟨_,rfl⟩
 have b6 : Below B w W6:=by rw [<- hW6]; exact b5.setCell (p:=⟨B + 1,1,none⟩) (by simp) _
 have hg6 : w5.grownBy W6 (some (B + 1)):=by rw [<- hW6]; exact grownBy_setCell _ _ _ _
 rw [hW6] at r0 r1
 have HW6:=Lib.hid hW6
 have hc6 : W6.cell? ⟨B + 3,0,none⟩ = some (.int .u16 n):=hg6.cell hc5 (by simp)
 have HC6:=Lib.hid hc6
 have hs6:=hg6.size
 clear hW6 hc6 hc5 hc4 hg6 hown hg5 hat5 p0 p1 b5' q0 q1 q2
 go_upto_region 6 with fail
 rw [HW6.out]
 clear d0 d1 f1
 go_wp2_with fail
 rw [rounds_succ]
 obtain ⟨d0,d1⟩:=r1.two
 obtain ⟨d2,d3⟩:=r0.two
 have f2:=r0.free 0
 have f3:=r0.free 1
 go_wp2_with fail
 have r2:=(r0.set (i:=0) (.bool false)).set (i:=1) (.slice (some ⟨B + 3,0,none⟩) 1 cap)
 obtain ⟨e0,e1⟩:=r2.two
 refine bodyPost_ret (v:=Wv (.slice (some ⟨B + 3,0,none⟩) 1 cap)) (by simp [results,Tryz.results138,go_sem,e0,e1]) rfl ?_
 have hg8 : W6.grownBy ((W6.setCell ⟨B,0,none⟩ (.bool false)).setCell ⟨B,1,none⟩ (.slice (some ⟨B + 3,0,none⟩) 1 cap)) (some B):=grownBy_then (grownBy_setCell _ _ _ _) (grownBy_setCell _ _ _ _)
 have hs8:=hg8.size
 exact ⟨_,rfl,lm_one hc1 hc2 (by omega) (hg8.cell HC6.out (by simp)) hn,below_set2 b6 (Nat.le_refl _) _ _,NewV.at (by omega)⟩
theorem lm_put {K L r n : Nat} {w w' : World} {v : Value} (h : Lm K w v [n]) (hv : NewV L v) (hr : r < L) (hg : w.grownBy w' (some r)) (hK : K <= w'.heap.size) : Lm w'.heap.size w' v [n]:=by
 obtain ⟨b,o,c,rfl,h1,h2,h3,h4⟩:=h.pos (by simp)
 have hb:=hv b o _ c rfl
 have h40 : w.cell? ⟨b,o,none⟩ = some (.int .u16 n):=by have := h4 0 (by simp); simpa using this
 exact lm_one (by simpa using h1) h2 (by omega) (hg.cell h40 (by simp; omega)) (h.2 n (by simp))
theorem grown_set4 (w : World) (r : Nat) (x0 x1 x2 x3 : Value) : w.grownBy ((((w.setCell ⟨r,0,none⟩ x0).setCell ⟨r,1,none⟩ x1).setCell ⟨r,2,none⟩ x2).setCell ⟨r,3,none⟩ x3) (some r) :=
 grownBy_then (grownBy_then (grownBy_then (grownBy_setCell _ _ _ _) (grownBy_setCell _ _ _ _)) (grownBy_setCell _ _ _ _)) (grownBy_setCell _ _ _ _)
theorem size_set4 (w : World) (r : Nat) (x0 x1 x2 x3 : Value) : ((((w.setCell ⟨r,0,none⟩ x0).setCell ⟨r,1,none⟩ x1).setCell ⟨r,2,none⟩ x2).setCell ⟨r,3,none⟩ x3).heap.size = w.heap.size:=by simp [World.setCell]
theorem kfrac0_any (w : World) :
  Calls Tryz.prog 83 #[.int .i64 0,.int .i64 1] w fun e w' => ∃ v,e = .returned (Fv (.slice none 0 0) v) /\ (∃ a c,v = .slice a 1 c) /\ Lm w'.heap.size w' v [1] /\ Below w.heap.size w w' /\ NewV w.heap.size v:=by
 obtain ⟨W1,hW1⟩ : ∃ W1,w.alloc (.cells #[.bool false,.slice none 0 0,.bool false,.slice none 0 0] 45) = W1:=⟨_,rfl⟩
 have b1 : Below w.heap.size w W1:=by rw [<- hW1]; exact (Below.refl _ _).alloc (Nat.le_refl _) _
 have q1 : Blk W1 w.heap.size #[.bool false,.slice none 0 0,.bool false,.slice none 0 0] 45:=by rw [<- hW1]; exact Blk.new w _ _
 have s1 : W1.heap.size = w.heap.size + 1:=by rw [<- hW1]; simp
 obtain ⟨B,hB⟩ : ∃ B,w.heap.size = B:=⟨_,rfl⟩
 have HB:=Lib.hid hB
 have HW:=Lib.hid hW1
 rw [hB] at b1 q1 s1 ⊢
 have hc : Calls Tryz.prog 138 #[.int .i64 1] W1 fun e w' => ∃ v,e = .returned (Wv v) /\ Lm w'.heap.size w' v [1] /\ Below W1.heap.size W1 w' /\ NewV W1.heap.size v:=kwhole_any 1 W1 (by omega) (by omega)
 clear hB hW1
 go_enter Tryz.func83,Tryz.ntmps83
 go_wp2_with fail
 simp only [HB.out]
 rw [HW.out]
 refine hc.mono ?_
 rintro e w2 ⟨v,rfl,hl,hb2,hn⟩
 obtain ⟨a,c,rfl,_⟩:=hl.form
 have hs2:=hb2.size
 have q2:=q1.below hb2 (by omega)
 obtain ⟨d0,d1,d2,d3⟩:=q2.four
 have f0:=q2.free 0
 have f1:=q2.free 1
 have f2:=q2.free 2
 have f3:=q2.free 3
 have HL:=Lib.hid hl
 clear hc hl
 simp only [List.length_cons,List.length_nil,Nat.zero_add] at *
 go_wp2_with fail
 have q4:=(((q2.set (i:=0) (.bool false)).set (i:=1) (.slice none 0 0)).set (i:=2) (.bool false)).set (i:=3) (.slice a 1 c)
 obtain ⟨e0,e1,e2,e3⟩:=q4.four
 refine bodyPost_ret (v:=Fv (.slice none 0 0) (.slice a 1 c)) (by simp [results,Tryz.results83,go_sem,e0,e1,e2,e3]) rfl ?_
 exact ⟨_,rfl,⟨_,_,rfl⟩,lm_put HL.out hn (show B < W1.heap.size by omega) (grown_set4 _ _ _ _ _ _) (by rw [size_set4]; exact Nat.le_refl _),(((((b1.trans (hb2.mono (by omega))).setCell (p:=⟨B,0,none⟩) (by simp) _).setCell (p:=⟨B,1,none⟩) (by simp) _).setCell (p:=⟨B,2,none⟩) (by simp) _).setCell (p:=⟨B,3,none⟩) (by simp) _),hn.mono (by omega)⟩
theorem kfrac1_any (n : Nat) (w : World) (h0 : 0 < n) (hn : n < 65536) :
  Calls Tryz.prog 83 #[.int .i64 n,.int .i64 1] w fun e w' => ∃ u v,e = .returned (Fv u v) /\ (∃ a c,u = .slice a 1 c) /\ (∃ a c,v = .slice a 1 c) /\ Lm w'.heap.size w' u [n] /\ Lm w'.heap.size w' v [1] /\ Below w.heap.size w w' /\ NewV w.heap.size u /\ NewV w.heap.size v:=by
 obtain ⟨W1,hW1⟩ : ∃ W1,w.alloc (.cells #[.bool false,.slice none 0 0,.bool false,.slice none 0 0] 45) = W1:=⟨_,rfl⟩
 have b1 : Below w.heap.size w W1:=by rw [<- hW1]; exact (Below.refl _ _).alloc (Nat.le_refl _) _
 have q1 : Blk W1 w.heap.size #[.bool false,.slice none 0 0,.bool false,.slice none 0 0] 45:=by rw [<- hW1]; exact Blk.new w _ _
 have s1 : W1.heap.size = w.heap.size + 1:=by rw [<- hW1]; simp
 obtain ⟨B,hB⟩ : ∃ B,w.heap.size = B:=⟨_,rfl⟩
 have HB:=Lib.hid hB
 have HW:=Lib.hid hW1
 rw [hB] at b1 q1 s1 ⊢
 have hc : ∀ W,Calls Tryz.prog 138 #[.int .i64 n] W fun e w' => ∃ v,e = .returned (Wv v) /\ Lm w'.heap.size w' v [n] /\ Below W.heap.size W w' /\ NewV W.heap.size v:=fun W => kwhole_any n W (by omega) (by omega)
 have hc2 : ∀ W,Calls Tryz.prog 138 #[.int .i64 1] W fun e w' => ∃ v,e = .returned (Wv v) /\ Lm w'.heap.size w' v [1] /\ Below W.heap.size W w' /\ NewV W.heap.size v:=fun W => kwhole_any 1 W (by omega) (by omega)
 have HC:=Lib.hid hc
 have HC2:=Lib.hid hc2
 have e0 : ((n : Int) == 0) = false:=by simp; omega
 have e1 : decide ((n : Int) < 0) = false:=by simp
 have hw1 : IntKind.u64.wrap (n : Int) = (n : Int):=by rw [IntKind.wrap_u64]; omega
 clear hB hW1 hc hc2
 go_enter Tryz.func83,Tryz.ntmps83
 go_upto_region 1 with fail
 simp only [HB.out]
 rw [HW.out]
 go_wp2_with fail
 refine wp_loop_rounds 2 ?_
 rw [rounds_succ]
 go_upto_region 7 with fail
 go_quiet (fail)
 go_wp2_with fail
 rw [rounds_succ]
 go_upto_region 8 with fail
 generalize hX : W1.drewN _ = W2
 have b2' : Below W1.heap.size W1 W2:=by rw [<- hX]; exact below_drewN2 (Below.refl _ _) _
 have hs2:=b2'.size
 have b2 : Below B w W2:=b1.trans (b2'.mono (by omega))
 have q2:=q1.below b2' (by omega)
 clear hX
 refine region_plain (fun W' => Below W2.heap.size W2 W') [11] (by kernel_rfl) ?_
 have qS : (fun W' => Below W2.heap.size W2 W') W2.drew:=below_quiet (Below.refl _ _)
 refine wpAnyD_tp (i:=0) (v:=.int .i64 (n : Int)) rfl qS ?_
 refine wpAnyD_tp (i:=1) (v:=.int .u64 1) rfl qS ?_
 refine wpAnyD_tk (i:=2) (v:=.int .i64 1) rfl (.inl ⟨by kernel_rfl,fun W' hS => by have w1 : IntKind.i64.wrap 1 = 1:=IntWalk.i64_in _ (by omega); go_simp⟩) qS ?_
 refine wpAnyD_tk (i:=3) (v:=.int .i64 (n : Int)) rfl (.inl ⟨by kernel_rfl,fun W' hS => by have wn : IntKind.i64.wrap (n : Int) = (n : Int):=IntWalk.i64_in _ (by omega); go_simp⟩) qS ?_
 refine wpAnyD_tp (i:=5) (v:=.int .i64 1) rfl qS ?_
 refine wpAnyD_tp (i:=6) (v:=.int .u64 1) rfl qS ?_
 refine wpAnyD_tk (i:=7) (v:=.int .i64 1) rfl (.inl ⟨by kernel_rfl,fun W' hS => by have w1 : IntKind.i64.wrap 1 = 1:=IntWalk.i64_in _ (by omega); go_simp⟩) qS ?_
 refine wpAnyD_tk (i:=8) (v:=.int .i64 1) rfl (.inl ⟨by kernel_rfl,fun W' hS => by have wn : IntKind.i64.wrap 1 = 1:=IntWalk.i64_in _ (by omega); go_simp⟩) qS ?_
 refine wpAnyD_one (i:=4) (by kernel_rfl) rfl (by kernel_rfl) ?_
 go_simp
 refine (HC.out _).mono ?_
 rintro e w3 ⟨v3,rfl,hl3,hb3,hn3⟩
 have qS3 : Below W2.heap.size W2 w3:=qS.trans (hb3.mono qS.size)
 obtain ⟨a3,c3,rfl,_⟩:=hl3.form
 have HL3:=Lib.hid hl3
 clear hl3
 go_simp
 refine wpAnyD_one (i:=9) (by kernel_rfl) rfl (by kernel_rfl) ?_
 go_simp
 refine (HC2.out _).mono ?_
 rintro e w4 ⟨v4,rfl,hl4,hb4,hn4⟩
 have qS4 : Below W2.heap.size W2 w4:=qS3.trans (hb4.mono qS3.size)
 obtain ⟨a4,c4,rfl,_⟩:=hl4.form
 have HL4:=Lib.hid hl4
 have hn43 : NewV W2.heap.size (.slice a3 1 c3):=hn3
 have hn44 : NewV W2.heap.size (.slice a4 1 c4):=hn4.mono qS3.size
 have HL34:=Lib.hid (HL3.out.below hb4 (Nat.le_refl _) hb4.size)
 clear hl4
 go_simp
 refine wpAnyD_tp (i:=10) (v:=Fv (.slice a3 1 c3) (.slice a4 1 c4)) rfl qS4 ?_
 have q4:=q2.below qS4 (by omega)
 obtain ⟨c0,c1,c2,c3'⟩:=q4.four
 have f0:=q4.free 0
 have f1:=q4.free 1
 have f2:=q4.free 2
 have f3:=q4.free 3
 refine wpAnyD_one (i:=11) (by kernel_rfl) rfl (by kernel_rfl) ?_
 go_simp
 refine wpAnyD_done (by kernel_rfl) ?_ _
 clear c0 c1 c2 c3' f0 f1 f2 f3
 have b4 : Below B w w4:=b2.trans (qS4.mono (by omega))
 have hs4:=qS4.size
 have x5:=(((q4.set (i:=0) (.bool false)).set (i:=1) (.slice a3 1 c3)).set (i:=2) (.bool false)).set (i:=3) (.slice a4 1 c4)
 obtain ⟨e0,e1,e2,e3⟩:=x5.four
 go_wp2_with fail
 refine bodyPost_ret (v:=Fv (.slice a3 1 c3) (.slice a4 1 c4)) (by simp [results,Tryz.results83,go_sem,e0,e1,e2,e3]) rfl ?_
 exact ⟨_,_,rfl,⟨_,_,rfl⟩,⟨_,_,rfl⟩,lm_put HL34.out hn43 (show B < W2.heap.size by omega) (grown_set4 _ _ _ _ _ _) (by rw [size_set4]; exact Nat.le_refl _),lm_put HL4.out hn44 (show B < W2.heap.size by omega) (grown_set4 _ _ _ _ _ _) (by rw [size_set4]; exact Nat.le_refl _),(((b4.setCell (p:=⟨B,0,none⟩) (by simp) _).setCell (p:=⟨B,1,none⟩) (by simp) _).setCell (p:=⟨B,2,none⟩) (by simp) _).setCell (p:=⟨B,3,none⟩) (by simp) _,hn43.mono (by omega),hn44.mono (by omega)⟩
end Go.Proofs.YtlidpghnlloinaaGreatDoor
