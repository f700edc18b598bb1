/- Contracts and plain laws, several texts in one (GScl). No conditions beyond those stated. -/
import Derived.Test.YtlldjmagbjjeoaaGreatPk28
set_option maxRecDepth 100000
set_option maxHeartbeats 40000000
namespace Go.Proofs.YtlldjmagbjjeoaaGreat
open Go.RowKit
set_option linter.unusedVariables false
attribute [local go_sem] Oper.semAt_some
theorem CtO.low2 {base base' : Nat} {w : World} {F : Nat -> Prop} {c : Value} {cs : List Vq} (h : CtO base w F c cs) (hb : base' <= base) : CtO base' w F c cs:=by
 obtain ⟨zs,h1,h2,h3⟩:=h
 exact ⟨zs,h1,h2.mono hb,h3⟩
theorem ScOwn.mono {base base' : Nat} {w : World} {v : Value} {l : List Sc} (h : ScOwn base w v l) (hb : base' <= base) : ScOwn base' w v l:=by
 obtain ⟨ys,F,h⟩:=h
 exact ⟨ys,F,h.len,h.own.mono hb,fun b hF => ⟨Nat.le_trans hb (h.rng b hF).1,(h.rng b hF).2⟩,h.nv,h.nc,h.dat,fun i hi => (h.cut i hi).low2 hb,h.dis⟩
theorem CtO.zed {base : Nat} {w : World} {F : Nat -> Prop} {c : Value} {cs : List Vq} (h : CtO base w F c cs) (hF : ∀ b,F b -> base <= b /\ b < w.heap.size) : Zed (Btw base w.heap.size) w fun K W => CutsX K W c cs:=by
 obtain ⟨zs,h1,h2,h3⟩:=h
 intro W K ha hK
 refine ⟨fun i => zs[i]?.getD vv0,?_,fun i hi => ((h3 i hi).mono fun b hb => hF b hb) W K ha hK⟩
 have hr:=OwnR.zed h2 (F:=Btw base w.heap.size) (fun b hb => ⟨h2.low hb,h2.lt hb⟩) W K ha hK
 rw [List.length_map,h1] at hr
 refine hr.congr fun i hi j hj => ?_
 have hi' : i < zs.length:=by omega
 have e1 : zs[i]?.getD vv0 = zs[i]:=by rw [List.getElem?_eq_getElem hi']; rfl
 show _ = (zs[i]?.getD vv0).cell j
 rw [e1,List.getElem?_map,List.getElem?_eq_getElem hi']
 exact vv_cell_at _ hj
theorem ScOwn.zed {base : Nat} {w : World} {v : Value} {l : List Sc} (h : ScOwn base w v l) : Zed (Btw base w.heap.size) w fun K W => ScsX K W v l:=by
 obtain ⟨ys,F,h⟩:=h
 intro W K ha hK
 refine ⟨fun i => ys[i]?.getD sv0,?_,fun i hi => ⟨((h.dat i hi).1.mono fun b hb => h.rng b hb) W K ha hK,(h.dat i hi).2,((h.cut i hi).zed fun b hb => h.rng b hb) W K ha hK⟩⟩
 have hr:=OwnR.zed h.own (F:=Btw base w.heap.size) (fun b hb => ⟨h.own.low hb,h.own.lt hb⟩) W K ha hK
 rw [List.length_map,h.len] at hr
 refine hr.congr fun i hi j hj => ?_
 have hl:=h.len
 have hi' : i < ys.length:=by omega
 have e1 : ys[i]?.getD sv0 = ys[i]:=by rw [List.getElem?_eq_getElem hi']; rfl
 show _ = (ys[i]?.getD sv0).cell j
 rw [e1,List.getElem?_map,List.getElem?_eq_getElem hi']
 exact sv_cell_at _ hj
theorem scales_own (K : Nat) (v : Value) (l : List Gx) (g : Nat -> Xv) (w : World) (hv : RowsV 9 (fun i j => (g i).cell j) K w v l.length) (hx : ∀ (i : Nat) (a : Gx),l[i]? = some a -> ExG K w a (g i)) (hgood : ∀ a ∈ l,a.good = true) (hK : K <= w.heap.size) :
  Calls Tryz.prog 17 #[v] w fun e w' => ∃ v',e = .returned (.tuple #[v',.int .i64 (scalesS l).2]) /\ ScOwn w.heap.size w' v' (scalesS l).1 /\ Below w.heap.size w w':=by
 obtain ⟨va,vcap,rfl,hvl,hvm⟩:=id hv.form
 have HV:=Lib.hid hv
 have HX:=Lib.hid hx
 have HG:=Lib.hid hgood
 obtain ⟨n,hn⟩ : ∃ n,l.length = n:=⟨_,rfl⟩
 have HN:=Lib.hid hn
 rw [hn] at HV hvl ⊢
 unfold maxLen at hvm
 have hb0 : Below w.heap.size w ((w.alloc (.cells #[.slice none 0 0] 36)).alloc (.cells #[.int .i64 0] 53)):=((Below.refl _ _).alloc (Nat.le_refl _) _).alloc (by simp) _
 have q0 : Blk ((w.alloc (.cells #[.slice none 0 0] 36)).alloc (.cells #[.int .i64 0] 53)) w.heap.size #[.slice none 0 0] 36:=(Blk.new w _ _).alloc _
 have q1 : Blk ((w.alloc (.cells #[.slice none 0 0] 36)).alloc (.cells #[.int .i64 0] 53)) (w.heap.size + 1) #[.int .i64 0] 53:=by
  have := Blk.new (w.alloc (.cells #[.slice none 0 0] 36)) #[.int .i64 0] 53
  rwa [World.size_alloc] at this
 have hs0 : ((w.alloc (.cells #[.slice none 0 0] 36)).alloc (.cells #[.int .i64 0] 53)).heap.size = w.heap.size + 2:=by simp
 obtain ⟨B,hB⟩ : ∃ B,w.heap.size = B:=⟨_,rfl⟩
 have HB:=Lib.hid hB
 rw [hB] at hK hb0 q0 q1 hs0 ⊢
 clear hv hx hgood hn hB
 refine callsIn_wide.1 (callsIn_of_wp_marks (n:=5) Tryz.func17 rfl trivial ?_)
 simp only [Tryz.ntmps17,List.size_toArray,List.length_cons,List.length_nil,Nat.reduceAdd,Nat.reduceSub,Array.replicate_succ,Array.replicate_zero,List.push_toArray,List.append_toArray,List.nil_append,List.cons_append]
 gi_wp2_with fail
 simp only [HB.out]
 gi_loopw [13] (fun i wr => ∃ k : Nat,k <= n /\ i = .int .i64 k /\ Blk wr B #[.slice none 0 0] 36 /\ Blk wr (B + 1) #[.int .i64 0] 53 /\ Below B w wr /\ B + 2 <= wr.heap.size /\ Hid (∀ i,i < k -> fits (l[i]?.getD default) = true)) (fun i _ => n - (intOf i).toNat)
 case atStart => exact ⟨0,Nat.zero_le _,rfl,q0,q1,hb0,by omega,Lib.hid fun i hi => absurd hi (Nat.not_lt_zero i)⟩
 case round =>
  obtain ⟨k,hk,rfl,r0,r1,hbr,hsr,HF⟩:=hrel
  by_cases hlt : k < n
  ·obtain ⟨b,o,cap,he,_,hcm,hbK,hc⟩:=HV.out.pos (by omega)
   simp only [Value.slice.injEq,true_and] at he
   obtain ⟨rfl,rfl⟩:=he
   obtain ⟨k0,k1,k2,k3,k4,k5,k6,k7,k8⟩:=ex_cells (cells_below hbr (by omega) hc) hlt
   obtain ⟨ek,hek⟩ : ∃ ek,l[k]? = some ek:=⟨_,List.getElem?_eq_getElem (by rw [HN.out]; exact hlt)⟩
   have hq:=HX.out k ek hek
   obtain ⟨y,hy⟩ : ∃ y,g k = y:=⟨_,rfl⟩
   rw [hy] at hq k0 k1 k2 k3 k4 k5 k6 k7 k8
   have hbl : Below B w (wr.alloc (.cells y.cells 31)):=hbr.alloc (by omega) _
   have hcall:=sized_any B ek y (wr.alloc (.cells y.cells 31)) (hq.below hbl hK hK) (by simp; omega)
   have hbr' : b < wr.heap.size:=by omega
   have HEK : Hid (l[k]?.getD default = ek):=Lib.hid (by rw [hek]; rfl)
   obtain ⟨r,hr⟩ : ∃ r,fits ek = r:=⟨_,rfl⟩
   rw [hr] at hcall
   have HR:=Lib.hid hr
   have HBL:=Lib.hid hbl
   have s0:=r0.alloc (.cells y.cells 31)
   have s1:=r1.alloc (.cells y.cells 31)
   have HS0:=Lib.hid s0
   have HS1:=Lib.hid s1
   clear hy hc hq hek hr hbl s0 s1 r0 r1
   gi_wp2_with fail
   refine ⟨trivial,callsIn_wide.2 (hcall.mono ?_)⟩
   clear hcall k0 k1 k2 k3 k4 k5 k6 k7 k8
   rintro en W2 ⟨rfl,hb2⟩
   have hb3 : Below B w W2:=HBL.out.trans (hb2.mono (by simp; omega))
   have hs2:=hb2.size
   rw [World.size_alloc] at hs2
   have t0:=HS0.out.below hb2 (by simp; omega)
   have t1:=HS1.out.below hb2 (by simp; omega)
   cases r with
   | false =>
    obtain ⟨c0,c1⟩:=t0.one
    obtain ⟨c2,c3⟩:=t1.one
    have HSC : Hid (scalesS l = ([],2)):=Lib.hid (by
     unfold scalesS
     rw [if_neg]
     intro hall
     rw [List.all_eq_true] at hall
     have h1:=HEK.out
     rw [List.getElem?_eq_getElem (by rw [HN.out]; exact hlt),Option.getD_some] at h1
     have h2:=hall ek (by rw [<- h1]; exact List.getElem_mem _)
     rw [HR.out] at h2; cases h2)
    gi_wp2_with fail
    have hb4 : Below B w ((W2.setCell ⟨B,0,none⟩ (.slice none 0 0)).setCell ⟨B + 1,0,none⟩ (.int .i64 2)):=(hb3.setCell (Nat.le_refl _) _).setCell (by simp) _
    have p0 : Blk ((W2.setCell ⟨B,0,none⟩ (.slice none 0 0)).setCell ⟨B + 1,0,none⟩ (.int .i64 2)) B #[.slice none 0 0] 36:=(t0.set (.slice none 0 0)).other (by omega) _
    have p1 : Blk ((W2.setCell ⟨B,0,none⟩ (.slice none 0 0)).setCell ⟨B + 1,0,none⟩ (.int .i64 2)) (B + 1) #[.int .i64 2] 53:=(t1.other (by omega) _).set (.int .i64 2)
    obtain ⟨W3,hW3⟩ : ∃ W3,(W2.setCell ⟨B,0,none⟩ (.slice none 0 0)).setCell ⟨B + 1,0,none⟩ (.int .i64 2) = W3:=⟨_,rfl⟩
    rw [hW3] at hb4 p0 p1 ⊢
    have e0:=p0.one.1
    have e1:=p1.one.1
    refine ⟨.tuple #[.slice none 0 0,.int .i64 2],?_,.slice none 0 0,?_,?_,hb4⟩
    ·simp [results,Tryz.results17,go_sem,e0,e1]
    ·rw [HSC.out]
    ·rw [HSC.out]; exact ScOwn.nil _ _
   | true =>
    gi_wp2_with fail
    refine ⟨⟨k + 1,by omega,by go_num,t0,t1,hb3,by omega,Lib.hid fun i hi => ?_⟩,by simp [intOf]; omega⟩
    by_cases hik : i = k
    ·rw [hik,HEK.out]; exact HR.out
    ·exact HF.out i (by omega)
  ·obtain rfl : k = n:=by omega
   have HALL : Hid (l.all fits = true):=Lib.hid (by
    rw [List.all_eq_true]
    intro a ha
    obtain ⟨j,hj,rfl⟩:=List.mem_iff_getElem.1 ha
    have := HF.out j (by have := HN.out; omega)
    rwa [List.getElem?_eq_getElem hj] at this)
   clear q0 q1 hb0 hs0
   have hbD : Below B w (wr.alloc (.cells #[.slice none 0 0] 36)):=hbr.alloc (by omega) _
   have hSW : ScW B wr.heap.size w [] (wr.alloc (.cells #[.slice none 0 0] 36)):=⟨⟨_,Blk.new wr _ _,ScOwn.nil _ _⟩,⟨fun s h => (by cases h),by simp⟩,r0.alloc _,r1.alloc _,hbD,hsr,by simp⟩
   obtain ⟨D,hD⟩ : ∃ D,wr.heap.size = D:=⟨_,rfl⟩
   rw [hD] at hSW
   obtain ⟨WD,hWD⟩ : ∃ WD,wr.alloc (.cells #[.slice none 0 0] 36) = WD:=⟨_,rfl⟩
   rw [hWD] at hSW
   have HD:=Lib.hid hD
   have HWD:=Lib.hid hWD
   clear hD hWD hbD r0 r1 hbr hsr HF
   gi_wp2_with fail
   simp only [HD.out]
   rw [HWD.out]
   refine wpIn_loop (fun a' W => ∃ (j : Nat) (l2 : List Sc) (ds : List Deferred) (u5 u8 u14 u15 u16 u17 u18 u19 u20 u24 u25 u26 u27 u28 u62 : Value),j <= k /\ Hid (addTs [] (tsL (l.take j)) = some l2) /\ ScW B D w l2 W /\ Hid (DefOk (B + 2) W.heap.size W ds) /\ a' = { tmps:=#[.slice va k vcap,undef,.pointer (some ⟨B,0,none⟩),.pointer (some ⟨B + 1,0,none⟩),undef,u5,.pointer (some ⟨D,0,none⟩),undef,u8,undef,undef,.slice va k vcap,.int .i64 k,.int .i64 k,u14,u15,u16,u17,u18,u19,u20,.slice va k vcap,.int .i64 k,.int .i64 j,u24,u25,u26,u27,u28,undef,undef,undef,undef,undef,undef,undef,undef,undef,undef,undef,undef,undef,undef,undef,undef,undef,undef,undef,undef,undef,undef,undef,undef,undef,undef,undef,undef,undef,undef,undef,undef,undef,u62,undef],defers:=ds }) (fun a' _ => k - (intOf (a'.tmps.getD 23 undef)).toNat) ?_ ?_
   ·exact ⟨0,[],[],_,_,_,_,_,_,_,_,_,_,_,_,_,_,_,Nat.zero_le _,Lib.hid rfl,hSW,Lib.hid (DefOk.nil _ _ _),rfl⟩
   rintro a' wr ⟨j,l2,ds,u5,u8,u14,u15,u16,u17,u18,u19,u20,u24,u25,u26,u27,u28,u62,hj,HT,hS,HDS,rfl⟩
   have hkl : (k : Int) = k:=rfl
   by_cases hlt : j < k
   ·obtain ⟨b,o,cap,he,_,hcm,hbK,hc⟩:=HV.out.pos (by omega)
    simp only [Value.slice.injEq,true_and] at he
    obtain ⟨rfl,rfl⟩:=he
    have hBD:=hS.lt
    have hDs:=hS.sz
    obtain ⟨k0,k1,k2,k3,k4,k5,k6,k7,k8⟩:=ex_cells (cells_below hS.bel (by omega) hc) hlt
    obtain ⟨ek,hek⟩ : ∃ ek,l[j]? = some ek:=⟨_,List.getElem?_eq_getElem (by rw [HN.out]; exact hlt)⟩
    have hq:=HX.out j ek hek
    have hem:=List.mem_of_getElem? hek
    have hpg : Pg ek:=⟨HG.out ek hem,by
     have := List.all_eq_true.1 HALL.out ek hem
     unfold fits at this
     simp only [Bool.and_eq_true,decide_eq_true_eq] at this
     exact this.1⟩
    obtain ⟨y,hy⟩ : ∃ y,g j = y:=⟨_,rfl⟩
    rw [hy] at hq k0 k1 k2 k3 k4 k5 k6 k7 k8
    have hbr' : b < wr.heap.size:=by omega
    have HTT : Hid (tsL (l.take (j + 1)) = tsL (l.take j) ++ tsOf ek):=Lib.hid (tsL_take l j ek hek)
    have HTD : Hid (tsL l = tsL (l.take j) ++ (tsOf ek ++ tsL (l.drop (j + 1)))):=Lib.hid (tsL_drop l j ek hek)
    have HQ:=Lib.hid hq
    have HPG:=Lib.hid hpg
    have HSS:=Lib.hid hS
    obtain ⟨W0,hW0⟩ : ∃ W0,(wr.alloc (.cells y.cells 31)).alloc (.cells y.cells 31) = W0:=⟨_,rfl⟩
    have hg0 : wr.grownBy W0 none:=by rw [<- hW0]; exact (World.grownBy_alloc wr _ none).trans (World.grownBy_alloc _ _ none)
    have hsz0 : W0.heap.size = wr.heap.size + 2:=by rw [<- hW0]; simp
    have hq0 : Blk W0 (wr.heap.size + 1) y.cells 31:=by
     rw [<- hW0]
     have := Blk.new (wr.alloc (.cells y.cells 31)) y.cells 31
     rwa [World.size_alloc] at this
    have HW0:=Lib.hid hW0
    clear hy hc hq hek hem hpg hS hW0
    gi_wp2_with fail
    refine ⟨trivial,callsIn_wide.2 ((tests_any y _).mono ?_)⟩
    rintro en w' ⟨rfl,rfl⟩
    clear k0 k1 k2 k3 k4 k5 k6 k7 k8
    gi_wp2_with fail
    rw [show (wr.alloc (.cells #[.int .u8 y.op,S y.nm,.int .u8 y.kd,.bool y.b3,.slice y.s4.a y.s4.n y.s4.m,.bool y.b5,.slice y.s6.a y.s6.n y.s6.m,.int .i64 y.i7,.slice y.s8.a y.s8.n y.s8.m] 31)).alloc (.cells y.cells 31) = W0 from HW0.out]
    obtain ⟨s0,hs0'⟩ : ∃ s0,wr.heap.size = s0:=⟨_,rfl⟩
    simp only [hs0'] at hsz0 hq0 hDs hbr' ⊢
    have HDS':=HDS.out
    rw [hs0'] at HDS'
    have HD0:=Lib.hid HDS'
    clear HDS' HDS
    have hw0 : ScW B D w l2 W0:=HSS.out.kept hg0 (fun q e => by cases e)
    have hd0:=HD0.out.kept hg0 (fun q e => by cases e)
    refine range_law (gf:=56) (fi:=#[]) (lb:=#[.pointer (some ⟨s0 + 1,0,none⟩)]) rfl (enters_of Tryz.func56 (by kernel_rfl) rfl) (tests_iter K (s0 + 1) Pg pg_arg ek y) (fun _ => rfl)
     (fun pre W => ∃ l3,addTs l2 (pre.map Prod.fst) = some l3 /\ ScW B D w l3 W /\ DefOk (B + 2) s0 W ds)
     (fun c pre W => c = .ret /\ addTs l2 (pre.map Prod.fst) = none /\ ScE B w W /\ DefOk (B + 2) s0 W ds)
     (fun pre x a1 W => (∃ l3,addTs l2 (pre.map Prod.fst) = some l3 /\ ScW B D w l3 W /\ DefOk (B + 2) s0 W ds) /\ TqX K W x.1 x.2 /\ TqOk x.1 /\ ∃ Bx,s0 + 2 <= Bx /\ Blk W Bx x.2.cells 73 ∧
      a1 = { tmps:=#[.slice (some ⟨b,o,none⟩) k vcap,undef,.pointer (some ⟨B,0,none⟩),.pointer (some ⟨B + 1,0,none⟩),undef,u5,.pointer (some ⟨D,0,none⟩),undef,.pointer (some ⟨s0,0,none⟩),.pointer (some ⟨Bx,0,none⟩),undef,.slice (some ⟨b,o,none⟩) k vcap,.int .i64 k,.int .i64 k,u14,u15,u16,u17,u18,u19,u20,.slice (some ⟨b,o,none⟩) k vcap,.int .i64 k,.int .i64 j,.bool true,.pointer (some ⟨b,o + j * 9,none⟩),y.agg,y.agg,.func (.func 56) #[] #[.pointer (some ⟨s0 + 1,0,none⟩)],x.2.agg,undef,undef,undef,undef,undef,undef,undef,undef,undef,undef,undef,undef,undef,undef,undef,undef,undef,undef,undef,undef,undef,undef,undef,undef,undef,undef,undef,undef,undef,undef,undef,undef,u62,undef],defers:=[] })
     ?hSt ?hI ?hIx ?hA ?hS ?hSp ?hISt ?hIxSt ?hKt ?hKb ?h0 ?hPre ?hassign ?hbody ?hdone ?hstop
    case hSt => exact fun A C _ hg => KeepsFrom.of_grownBy hg (fun j e => by cases e)
    case hI =>
     rintro s W l o o' ⟨l3,h1,h2,h3⟩ hle hl ho
     exact ⟨l3,h1,h2.kept (grownBy_putObj' W l o') (fun q e => by cases e; exact ⟨by omega,fun o2 h2 => by rw [hl] at h2; cases h2; exact ho⟩),h3.kept (grownBy_putObj' W l o') (fun q e => by cases e; exact .inl (by omega))⟩
    case hIx =>
     rintro c s W l o o' ⟨h0,h1,h2,h3⟩ hle hl ho
     exact ⟨h0,h1,h2.kept (grownBy_putObj' W l o') (fun q e => by cases e; exact ⟨by omega,fun o2 h2 => by rw [hl] at h2; cases h2; exact ho⟩),h3.kept (grownBy_putObj' W l o') (fun q e => by cases e; exact .inl (by omega))⟩
    case hA =>
     rintro s x a1 W l o o' ⟨⟨l3,h1,h2,h3⟩,h4,h5,Bx,h6,h7,h8⟩ hle hl ho
     refine ⟨⟨l3,h1,h2.kept (grownBy_putObj' W l o') (fun q e => by cases e; exact ⟨by omega,fun o2 h2 => by rw [hl] at h2; cases h2; exact ho⟩),h3.kept (grownBy_putObj' W l o') (fun q e => by cases e; exact .inl (by omega))⟩,h4.grown (below_putObj (by omega)),h5,Bx,h6,h7.kept (grownBy_putObj' W l o') (fun e => ?_),h8⟩
     cases e
     unfold Blk at h7; rw [hl] at h7; cases h7; simp [Obj.isCells] at ho
    case hS => exact fun s W l o o' h _ _ _ => h
    case hSp => exact fun s W l o o' h _ _ _ => h
    case hISt => exact fun s A C ⟨l3,h1,h2,h3⟩ hg => ⟨l3,h1,h2.kept hg (fun q e => by cases e),h3.kept hg (fun q e => by cases e)⟩
    case hIxSt => exact fun c s A C ⟨h0,h1,h2,h3⟩ hg => ⟨h0,h1,h2.kept hg (fun q e => by cases e),h3.kept hg (fun q e => by cases e)⟩
    case hKt => exact fun A B C h1 h2 => KpG.trans h1 h2
    case hKb => exact fun W l o o' hle hl ho => KpG.putObj (by omega) hl ho
    case h0 =>
     intro o o'
     exact ⟨l2,rfl,(hw0.kept (World.grownBy_alloc _ o none) (fun q e => by cases e)).kept (World.grownBy_alloc _ o' none) (fun q e => by cases e),(hd0.kept (World.grownBy_alloc _ o none) (fun q e => by cases e)).kept (World.grownBy_alloc _ o' none) (fun q e => by cases e)⟩
    case hPre =>
     intro o o'
     have hb : Below B w ((W0.alloc o).alloc o'):=(hw0.bel.alloc (by omega) o).alloc (by simp; omega) o'
     exact ⟨by simp; omega,(hq0.alloc _).alloc _,HQ.out.below hb hK (Nat.le_refl _),HPG.out⟩
    case hassign =>
     intro i pre x W ⟨l3,h1,h2,h3⟩ hx hlt
     have hx1 : x.2.cut.s1.oneCell' = true /\ x.2.cut.s2.oneCell' = true:=by
      obtain ⟨_,_,e1,_⟩:=hx.1.cut.n.form
      obtain ⟨_,_,e2,_⟩:=hx.1.cut.d.form
      rw [e1,e2]; exact ⟨rfl,rfl⟩
     have hone:=cells_one x.2 hx1.1 hx1.2
     obtain ⟨a0,ha0,hpg0,hte⟩ : ∃ a0,a0 = x.1 /\ True /\ ∃ a,Pg a /\ x.1 = testOf a:=⟨_,rfl,trivial,hx.2⟩
     obtain ⟨a,hpa,hta⟩:=hte
     have htq : TqOk x.1:=by rw [hta]; exact testOf_ok hpa.1 hpa.2
     have hTX:=hx.1
     clear hx hx1 ha0 hpg0 hta hpa
     dsimp only [elEnc]
     iterate 5 gi_step
     refine wpListIn_store_blk rfl 73 73 (.tmp 9) (.tmp 29) rfl x.2.cells _ W.heap.size (Blk.new W _ _) infoTest rfl hone rfl rfl ?_
     intro W5 hw5 t1 t2 t3 t4
     rw [World.setRow_alloc_new] at hw5
     subst hw5
     gi_wp2
     exact ⟨(KeepsOthers.alloc _ _).from _,KpG.grown (World.grownBy_alloc W _ none) (by omega) (fun r e => by cases e),⟨l3,h1,h2.kept (World.grownBy_alloc W _ none) (fun q e => by cases e),h3.kept (World.grownBy_alloc W _ none) (fun q e => by cases e)⟩,
      hTX.grown (below_grown (World.grownBy_alloc W _ none) (fun r e => by cases e) (by omega)),htq,W.heap.size,by omega,Blk.new W _ _,rfl⟩
    case hbody =>
     rintro i pre x a1 W ⟨⟨l3,h1,h2,h3⟩,hTX,htq,Bx,hBx,hbx,rfl⟩
     obtain ⟨v3,hqv,hown⟩:=h2.v
     have hread:=hown.read
     obtain ⟨sa,sc,hv3,hlc,hcm3⟩:=hread.form
     subst hv3
     have hWs : D + 1 <= W.heap.size:=h2.sz
     have hBW : B <= W.heap.size:=by omega
     have hsW : s0 + 2 <= W.heap.size:=by have := hbx.lt; omega
     have c4:=hqv.one.1
     have hidx:=idxScale_any W.heap.size x.1 x.2 _ l3 W (hTX.below (Below.refl K W) (Nat.le_refl _) (by omega)) hread (Nat.le_refl _)
     have H1:=Lib.hid h1
     have H2:=Lib.hid h2
     have H3:=Lib.hid h3
     have HTX:=Lib.hid hTX
     have HQT:=Lib.hid htq
     have HBX:=Lib.hid hbx
     have HQV:=Lib.hid hqv
     have HOWN:=Lib.hid hown
     clear h1 h2 h3 hTX htq hread hown hqv
     iterate 3 gi_step
     iterate 4 gi_step
     refine wpListIn_load_blk rfl 73 (.tmp 9) rfl x.2.cells Bx 73 _ HBX.out Tryz.underlying73 rfl infoTest rfl ?_
     gi_wp2_with fail
     refine ⟨trivial,CallsIn.inRound i (callsIn_wide.2 (hidx.mono ?_))⟩
     rintro en W2 ⟨rfl,hb2⟩
     clear hidx c4
     dsimp only
     iterate 8 gi_step
     rename_i K19 a19
     have hTXd : ∀ W',Below K W W' -> TqX K W' x.1 x.2:=fun W' h => HTX.out.grown h
     have key : ∀ (l4 : List Sc) (m : Nat) (W3 : World) (z30 z31 z32 z33 z34 z35 z36 z37 z38 z39 z40 z41 z42 z43 z44 z45 z46 z47 z48 z49 : Value),m < l4.length -> (l4[m]?.getD default).kd = x.1.kd -> insS l4 m x.1 = addT l3 x.1 -> ScW B D w l4 W3 -> Rn K (s0 + 2) W W3 -> DefOk (B + 2) s0 W3 ds -> Blk W3 Bx x.2.cells 73 →
       K19 { tmps:=#[.slice (some ⟨b,o,none⟩) k vcap,undef,.pointer (some ⟨B,0,none⟩),.pointer (some ⟨B + 1,0,none⟩),undef,u5,.pointer (some ⟨D,0,none⟩),undef,.pointer (some ⟨s0,0,none⟩),.pointer (some ⟨Bx,0,none⟩),.int .i64 m,.slice (some ⟨b,o,none⟩) k vcap,.int .i64 k,.int .i64 k,u14,u15,u16,u17,u18,u19,u20,.slice (some ⟨b,o,none⟩) k vcap,.int .i64 k,.int .i64 j,.bool true,.pointer (some ⟨b,o + j * 9,none⟩),y.agg,y.agg,.func (.func 56) #[] #[.pointer (some ⟨s0 + 1,0,none⟩)],x.2.agg,z30,z31,z32,z33,z34,z35,z36,z37,z38,z39,z40,z41,z42,z43,z44,z45,z46,z47,z48,z49,undef,undef,undef,undef,undef,undef,undef,undef,undef,undef,undef,undef,u62,undef],defers:=[] } W3:=by
      intro l4 m W3 z30 z31 z32 z33 z34 z35 z36 z37 z38 z39 z40 z41 z42 z43 z44 z45 z46 z47 z48 z49 hm hmk hins hW4 hRn hD4 hb4
      refine a19 _ _ ?_
      clear a19
      have hadd : addTs l2 ((pre ++ [x]).map Prod.fst) = insS l4 m x.1:=by
       rw [List.map_append,List.map_singleton,addTs_snoc,H1.out,hins]; rfl
      have HADD:=Lib.hid hadd
      obtain ⟨v4,hqv4,ys,F,ho4⟩:=hW4.v
      have hc4:=hqv4.one.1
      have hkx:=HTX.out.kd
      have hcd:=(hTXd W3 hRn.kp.1)
      by_cases hkd0 : x.1.kd = 0
      ·have hk0 : (x.2.kd != 0) = false:=by rw [hkx,hkd0]; rfl
       have hres:=hadd.trans (insS_zero hkd0)
       have HRES:=Lib.hid hres
       have HO4:=Lib.hid ho4
       clear hres hadd hins hmk hkx hkd0 hqv4 hc4 hcd ho4
       gi_step
       refine region_round (fun W' => Blk W' Bx x.2.cells 73) [] (by kernel_rfl) (by kernel_rfl) (by rintro ⟨_,_,h⟩; exact h) ?_
       have qS : (fun W' : World => Blk W' Bx x.2.cells 73) W3.drew:=hb4
       refine wpAnyD_tp (i:=0) (v:=.pointer (some ⟨Bx,9,none⟩)) rfl qS ?_
       refine wpAnyD_tk (i:=1) (v:=.int .u8 x.2.kd) rfl (.inl ⟨by kernel_rfl,fun W' hS => by have d : W'.cell? ⟨Bx,9,none⟩ = some (.int .u8 x.2.kd):=Blk.at hS rfl; go_simp⟩) qS ?_
       refine wpAnyD_tp (i:=2) (v:=.bool false) rfl qS ?_
       refine wpAnyD_tp (i:=3) (v:=.bool false) rfl qS ?_
       refine wpAnyD_tk (i:=4) (v:=undef) rfl (.inr ⟨by kernel_rfl,rfl⟩) qS ?_
       refine wpAnyD_tk (i:=5) (v:=undef) rfl (.inr ⟨by kernel_rfl,rfl⟩) qS ?_
       refine wpAnyD_tk (i:=6) (v:=undef) rfl (.inr ⟨by kernel_rfl,rfl⟩) qS ?_
       refine wpAnyD_tk (i:=7) (v:=undef) rfl (.inr ⟨by kernel_rfl,rfl⟩) qS ?_
       refine wpAnyD_tk (i:=8) (v:=undef) rfl (.inr ⟨by kernel_rfl,rfl⟩) qS ?_
       refine wpAnyD_tk (i:=9) (v:=undef) rfl (.inr ⟨by kernel_rfl,rfl⟩) qS ?_
       refine wpAnyD_tk (i:=10) (v:=undef) rfl (.inr ⟨by kernel_rfl,rfl⟩) qS ?_
       refine wpAnyD_tp (i:=11) (v:=.bool false) rfl qS ?_
       refine wpAnyD_done (by kernel_rfl) ?_ _
       go_simp
       gi_wp2_with fail
       have hr3:=hRn.trans (Rn.grown (s:=s0 + 2) (drew_grown W3) (by have := hRn.kp.1.size; omega) (fun r e => by cases e))
       exact ⟨hr3.kf,hr3.kp,l4,HRES.out,hW4.kept (drew_grown W3) (fun q e => by cases e),hD4.kept (drew_grown W3) (fun q e => by cases e)⟩
      ·have hk0 : (x.2.kd != 0) = true:=by rw [hkx]; simp [hkd0]
       have hmy : m < ys.length:=by rw [ho4.len]; exact hm
       have hyn : (ys.map fun y => y.cells.toList).length = l4.length:=by rw [List.length_map,ho4.len]
       have hrow:=ho4.own.1.2
       rw [hyn] at hrow
       rcases hrow with ⟨_,h0⟩ | ⟨sb,cap4,cur4,hv4,hsb,hgr4,hnc4,hmx4,hsz4,htk4⟩
       ·omega
       subst hv4
       have hbk : Blk W3 sb cur4 34:=hgr4
       obtain ⟨zs,hz1,hz2,hz3⟩:=ho4.cut m hm
       have hrd4:=(ho4.cut m hm).read fun b hb => (ho4.rng b hb).2
       obtain ⟨b',o',cap',he',_,_,_,hcl⟩:=ho4.own.rows.pos (by rw [hyn]; omega)
       simp only [Value.slice.injEq,Option.some.injEq,Addr.mk.injEq,and_true] at he'
       obtain ⟨⟨rfl,rfl⟩,hlen4,rfl⟩:=he'
       clear hlen4
       have hcell:=hcl m (by rw [hyn]; exact hm) 10 (by omega)
       have hrm : (ys.map fun y => y.cells.toList)[m]? = some (ys[m]?.getD sv0).cells.toList:=by rw [List.getElem?_map,List.getElem?_eq_getElem hmy]; rfl
       rw [hrm,Nat.zero_add] at hcell
       have hcell' : W3.cell? ⟨sb,m * 11 + 10,none⟩ = some (ys[m]?.getD sv0).c.val:=hcell
       have hsok:=hW4.ok.each _ (by rw [List.getElem?_eq_getElem hm]; exact List.getElem_mem hm : (l4[m]?.getD default) ∈ l4)
       obtain ⟨cg,co,ck⟩:=HQT.out.cut hkd0
       have hne4 : (ys[m]?.getD sv0).c.val.ownBlock ≠ some sb:=rows_apart ho4.own hz2 (by decide) rfl
       have hKs3 : K <= W3.heap.size:=by have := hRn.kp.1.size; omega
       have hci:=ginsert_any W3.heap.size (D + 1) sb (m * 11) _ _ x.1.kd x.1.cut x.2.cut _ W3.drew (hrd4.below (below_quiet (Below.refl W3.heap.size W3)) (Nat.le_refl _) (Nat.le_refl _)) (hz2.moveEq fun _ _ => rfl) (by rw [List.length_map,hz1]) (hcd.cut.below (below_quiet (Below.refl K W3)) (Nat.le_refl _) hKs3) cg co ck (by rw [<- hmk]; exact hsok.cuts) hsok.len (Nat.le_refl _) (by have := hW4.sz; exact this) hcell' (hbk.free _) hne4
       have HO4:=Lib.hid ho4
       have HZ2:=Lib.hid hz2
       have HZ3:=Lib.hid hz3
       have HC4:=Lib.hid hc4
       have HSOK:=Lib.hid hsok
       have HMK:=Lib.hid hmk
       have HINS:=Lib.hid hins
       have HKD:=Lib.hid hkd0
       have HHC:=Lib.hid hcell'
       have HHC0:=Lib.hid hcell
       have HBK:=Lib.hid hbk
       have HNE4:=Lib.hid hne4
       have hnb : m * 11 < l4.length * 11:=by omega
       have hmI : (m : Int) < (l4.length : Int):=by omega
       clear hadd hins hmk hkx hkd0 ho4 hz2 hz3 hrd4 hcl hcell hcell' hsok cg co ck hne4 hyn hgr4 hbk hsz4 htk4 hc4 hcd hrm
       have hsbl:=HBK.out.lt
       gi_step
       refine region_round (fun W' => W'.cell? ⟨D,0,none⟩ = some (.slice (some ⟨sb,0,none⟩) l4.length cap4) /\ Blk W' Bx x.2.cells 73) [] (by kernel_rfl) (by kernel_rfl) (by rintro ⟨_,_,h⟩; exact h) ?_
       have qS : (fun W' : World => W'.cell? ⟨D,0,none⟩ = some (.slice (some ⟨sb,0,none⟩) l4.length cap4) /\ Blk W' Bx x.2.cells 73) W3.drew:=⟨HC4.out,hb4⟩
       refine wpAnyD_tp (i:=0) (v:=.pointer (some ⟨Bx,9,none⟩)) rfl qS ?_
       refine wpAnyD_tk (i:=1) (v:=.int .u8 x.2.kd) rfl (.inl ⟨by kernel_rfl,fun W' hS => by have d : W'.cell? ⟨Bx,9,none⟩ = some (.int .u8 x.2.kd):=Blk.at hS.2 rfl; go_simp⟩) qS ?_
       refine wpAnyD_tp (i:=2) (v:=.bool true) rfl qS ?_
       refine wpAnyD_tp (i:=3) (v:=.bool true) rfl qS ?_
       refine wpAnyD_tk (i:=4) (v:=.slice (some ⟨sb,0,none⟩) l4.length cap4) rfl (.inl ⟨by kernel_rfl,fun W' hS => by have d:=hS.1; go_simp⟩) qS ?_
       refine wpAnyD_tp (i:=5) (v:=.int .i64 m) rfl qS ?_
       refine wpAnyD_tp (i:=6) (v:=.pointer (some ⟨sb,m * 11,none⟩)) rfl qS ?_
       refine wpAnyD_tp (i:=7) (v:=.pointer (some ⟨Bx,10,none⟩)) rfl qS ?_
       refine wpAnyD_tk (i:=8) (v:=x.2.cut.agg) rfl (.inl ⟨by kernel_rfl,fun W' hS => by have d0 : W'.cell? ⟨Bx,10,none⟩ = some (.int .u8 x.2.cut.kd):=Blk.at hS.2 rfl; have d1 : W'.cell? ⟨Bx,11,none⟩ = some (.bool x.2.cut.b1):=Blk.at hS.2 rfl; have d2 : W'.cell? ⟨Bx,12,none⟩ = some x.2.cut.s1:=Blk.at hS.2 rfl; have d3 : W'.cell? ⟨Bx,13,none⟩ = some (.bool x.2.cut.b2):=Blk.at hS.2 rfl; have d4 : W'.cell? ⟨Bx,14,none⟩ = some x.2.cut.s2:=Blk.at hS.2 rfl; have d5 : W'.cell? ⟨Bx,15,none⟩ = some (.int .i64 x.2.cut.i):=Blk.at hS.2 rfl; go_simp⟩) qS ?_
       refine wpAnyD_on (i:=9) rfl ?_
       go_simp
       refine hci.mono ?_
       clear hci
       have hDl : D < W3.heap.size:=by have := hW4.sz; omega
       have hBxl : Bx < W3.heap.size:=hb4.lt
       have hKs : K <= s0:=by omega
       rintro en w6 (⟨hn,rfl,hb6⟩ | ⟨hf,rfl,hb6⟩ | ⟨hf,h32,rfl,z,cv',W5,gg,hi,rfl,ho5,hg5,hz5,hlo,hhi,hgv,hat⟩)
       ·have hb6' : Below W3.heap.size W3 w6:=(below_quiet (Below.refl W3.heap.size W3)).trans hb6
        have hres : addTs l2 ((pre ++ [x]).map Prod.fst) = none:=HADD.out.trans (insS_none HKD.out hn)
        have HRES:=Lib.hid hres
        have hW6:=hW4.kept (grown_below hb6') (fun q e => by cases e)
        have hr6:=hRn.trans (Rn.below (s:=s0 + 2) hb6' hKs3)
        have hD6:=hD4.kept (grown_below hb6') (fun q e => by cases e)
        obtain ⟨e1,e2,e3⟩:=hW6.err
        have q6 : w6.cell? ⟨D,0,none⟩ = some (.slice (some ⟨sb,0,none⟩) l4.length cap4) /\ Blk w6 Bx x.2.cells 73:=⟨(hb6'.cell (p:=⟨D,0,none⟩) hDl).trans HC4.out,hb4.below hb6' hBxl⟩
        have c0:=hW6.r0.one
        have c1:=hW6.r1.one
        obtain ⟨c00,c01⟩:=c0
        obtain ⟨c10,c11⟩:=c1
        have HE1:=Lib.hid e1
        have HE2:=Lib.hid (e2 K (s0 + 2) (by omega))
        have HE3:=Lib.hid (e3 _ _ _ hD6)
        have HR6:=Lib.hid hr6
        clear hn hres e1 e2 e3 hD6 hr6 hW6
        refine ⟨q6,?_⟩
        refine wpAnyD_tp (i:=10) (v:=.bool true) rfl q6 ?_
        refine wpAnyD_tp (i:=11) (v:=.bool true) rfl q6 ?_
        refine wpAnyD_done (by kernel_rfl) ?_ _
        go_simp
        gi_wp2_with fail
        exact ⟨(HR6.out.trans HE2.out).kf,(HR6.out.trans HE2.out).kp,rfl,HRES.out,HE1.out,HE3.out⟩
       ·have hb6' : Below W3.heap.size W3 w6:=(below_quiet (Below.refl W3.heap.size W3)).trans hb6
        have hcx : insC (l4[m]?.getD default).cuts x.1.cut = some (l4[m]?.getD default).cuts:=by unfold insC; rw [hf]; rfl
        have hres : addTs l2 ((pre ++ [x]).map Prod.fst) = some l4:=by rw [HADD.out,insS_some HKD.out hcx,set_same hm]
        have HRES:=Lib.hid hres
        have hr6:=hRn.trans (Rn.below (s:=s0 + 2) hb6' hKs3)
        have q6 : w6.cell? ⟨D,0,none⟩ = some (.slice (some ⟨sb,0,none⟩) l4.length cap4) /\ Blk w6 Bx x.2.cells 73:=⟨(hb6'.cell (p:=⟨D,0,none⟩) hDl).trans HC4.out,hb4.below hb6' hBxl⟩
        have HR6:=Lib.hid hr6
        have HW6:=Lib.hid (hW4.kept (grown_below hb6') (fun q e => by cases e))
        have HD6:=Lib.hid (hD4.kept (grown_below hb6') (fun q e => by cases e))
        clear hf hcx hres hr6
        refine ⟨q6,?_⟩
        refine wpAnyD_tp (i:=10) (v:=.bool false) rfl q6 ?_
        refine wpAnyD_tp (i:=11) (v:=.bool false) rfl q6 ?_
        refine wpAnyD_done (by kernel_rfl) ?_ _
        go_simp
        gi_wp2_with fail
        exact ⟨HR6.out.kf,HR6.out.kp,l4,HRES.out,HW6.out,HD6.out⟩
       ·have hg6 : W3.grownBy W5 (ys[m]?.getD sv0).c.val.ownBlock:=⟨hg5.os,hg5.tape,hg5.output,hg5.size,hg5.block⟩
        obtain ⟨va,vn,hcv5,_⟩:=ho5.form
        obtain ⟨cl,hcl⟩ : ∃ cl : Sl,cv' = cl.val:=⟨⟨va,_,vn⟩,hcv5⟩
        subst hcl
        have hcx : insC (l4[m]?.getD default).cuts x.1.cut = some ((l4[m]?.getD default).cuts.take (srch (l4[m]?.getD default).cuts x.1.cut) ++ x.1.cut :: (l4[m]?.getD default).cuts.drop (srch (l4[m]?.getD default).cuts x.1.cut)):=by
         unfold insC; rw [hf,if_neg h32]; rfl
        have hsome:=insS_some HKD.out hcx
        have hres:=HADD.out.trans hsome
        have hok5:=addT_ok H2.out.ok HQT.out (HINS.out.symm.trans hsome)
        have hnew:=HO4.out.ins hm (srch_le _ _) hz1 HZ2.out HZ3.out ho5 hg6 hz5 hlo hhi hgv hat (by have := hW4.sz; omega)
        have hlow : ∀ r,(ys[m]?.getD sv0).c.val.ownBlock = some r -> D + 1 <= r:=fun r hr => HZ2.out.low hr
        have hblk : ∀ b,b < W3.heap.size -> (ys[m]?.getD sv0).c.val.ownBlock ≠ some b -> b ≠ sb -> (W5.setCell ⟨sb,m * 11 + 10,none⟩ cl.val).heap[b]? = W3.heap[b]? := fun b hb hne hs => (Below.heap_setCell _ _ _ _ hs).trans (hg6.block b hb (fun e => hne e.symm))
        have hbD : (W5.setCell ⟨sb,m * 11 + 10,none⟩ cl.val).heap[D]? = W3.heap[D]? := hblk D hDl (fun e => by have := hlow D e; omega) (by omega)
        have hBxn : (ys[m]?.getD sv0).c.val.ownBlock ≠ some Bx:=fun e => by
         obtain ⟨_,h9⟩:=HZ2.out.blk e
         exact absurd (h9.ty_ne hb4) (by decide)
        have hBxs : Bx ≠ sb:=fun e => by
         subst e
         exact absurd (HBK.out.ty_ne hb4) (by decide)
        have hbB : (W5.setCell ⟨sb,m * 11 + 10,none⟩ cl.val).heap[Bx]? = W3.heap[Bx]? := hblk Bx hBxl hBxn hBxs
        have hbk5 : Blk W5 sb cur4 34:=HBK.out.kept hg6 (fun e => HNE4.out e.symm)
        have hbel : Below D W3 (W5.setCell ⟨sb,m * 11 + 10,none⟩ cl.val):=(below_grown hg6 (fun r e => by have := hlow r e; omega) (by omega)).setCell (by show D <= sb; omega) _
        have q6 : (W5.setCell ⟨sb,m * 11 + 10,none⟩ cl.val).cell? ⟨D,0,none⟩ = some (.slice (some ⟨sb,0,none⟩) l4.length cap4) /\ Blk (W5.setCell ⟨sb,m * 11 + 10,none⟩ cl.val) Bx x.2.cells 73:=⟨(World.cell?_of_block (w:=W3) (a:=⟨D,0,none⟩) hbD).trans HC4.out,hbB.trans hb4⟩
        have hr6 : Rn K (s0 + 2) W (W5.setCell ⟨sb,m * 11 + 10,none⟩ cl.val):=(hRn.trans (Rn.grown hg6 hKs3 (fun r e => by
         obtain ⟨cc,h9⟩:=HZ2.out.blk e
         exact ⟨by have := hlow r e; omega,cc,_,h9,by decide⟩))).trans (Rn.grown (grownBy_setCell W5 sb (m * 11 + 10) cl.val) (by have := hg6.size; omega) (fun r e => by cases e; exact ⟨by omega,cur4,_,hbk5,by decide⟩))
        have hD6 : DefOk (B + 2) s0 (W5.setCell ⟨sb,m * 11 + 10,none⟩ cl.val) ds:=(hD4.kept hg6 (fun q e => .inr fun o ho => by
         obtain ⟨cc,h9⟩:=HZ2.out.blk e
         unfold Blk at h9; rw [h9] at ho; cases ho; rfl)).kept (grownBy_setCell W5 sb (m * 11 + 10) cl.val) (fun q e => .inr fun o ho => by
         cases e
         have h9:=hbk5
         unfold Blk at h9; rw [h9] at ho; cases ho; rfl)
        have hW6:=hW4.turn hbel (hbD.trans hqv4) ⟨_,_,hnew⟩ hok5
        obtain ⟨W6,hW6e⟩ : ∃ W6,W5.setCell ⟨sb,m * 11 + 10,none⟩ cl.val = W6:=⟨_,rfl⟩
        rw [hW6e] at q6 hr6 hD6 hW6 ⊢
        have HRES:=Lib.hid hres
        have HR6:=Lib.hid hr6
        have HW6:=Lib.hid hW6
        have HD6:=Lib.hid hD6
        clear hf hcx hres hr6 hW6 hD6 hnew hok5 hsome hblk hbD hbB hbk5 hbel hg5 hg6 ho5 hz5 hlo hhi hgv hat hcv5 hlow hW6e
        refine ⟨q6,?_⟩
        refine wpAnyD_tp (i:=10) (v:=.bool false) rfl q6 ?_
        refine wpAnyD_tp (i:=11) (v:=.bool false) rfl q6 ?_
        refine wpAnyD_done (by kernel_rfl) ?_ _
        go_simp
        gi_wp2_with fail
        exact ⟨HR6.out.kf,HR6.out.kp,_,HRES.out,HW6.out,HD6.out⟩
     have KEY:=Lib.hid key
     clear key a19
     have hKW : K <= W.heap.size:=by omega
     have hR2 : Rn K (s0 + 2) W W2:=Rn.below hb2 hKW
     have hW2:=H2.out.kept (grown_below hb2) (fun q e => by cases e)
     have hD2:=H3.out.kept (grown_below hb2) (fun q e => by cases e)
     have hB2 : Blk W2 Bx x.2.cells 73:=hbx.below hb2 hbx.lt
     have hq2 : Blk W2 D #[.slice sa l3.length sc] 36:=HQV.out.below hb2 (by omega)
     have ho2:=HOWN.out.move (keeps_grown (grown_below hb2))
     have HR2:=Lib.hid hR2
     have HW2:=Lib.hid hW2
     have HD2:=Lib.hid hD2
     have HB2:=Lib.hid hB2
     have HQ2:=Lib.hid hq2
     have HO2:=Lib.hid ho2
     have hsz2:=hb2.size
     clear hR2 hW2 hD2 hB2 hq2 ho2
     by_cases hfi : l3.findIdx x.1.belongs < l3.length
     ·obtain ⟨m,hm⟩ : ∃ m,l3.findIdx x.1.belongs = m:=⟨_,rfl⟩
      have hix : idxS l3 x.1 = (m : Int):=by unfold idxS; rw [if_pos hfi,hm]
      have hmk:=belongs_kd (belongs_at hfi)
      have hins : insS l3 m x.1 = addT l3 x.1:=by unfold addT; simp only; rw [if_pos hfi,hm]
      rw [hm] at hfi hmk
      have HMK:=Lib.hid hmk
      have HINS:=Lib.hid hins
      rw [hix]
      have hneg : decide ((m : Int) < 0) = false:=by simp
      clear hm hix hmk hins
      gi_wp2_with fail
      exact KEY.out l3 m W2 _ _ _ _ _ _ _ _ _ _ _ _ _ _ _ _ _ _ _ _ hfi HMK.out.symm HINS.out HW2.out HR2.out HD2.out HB2.out
     ·have hix : idxS l3 x.1 = -1:=by unfold idxS; rw [if_neg hfi]
      have c4:=HQ2.out.one.1
      rw [hix]
      clear hix
      by_cases h16 : l3.length = 16
      ·have hres : addTs l2 ((pre ++ [x]).map Prod.fst) = none:=by
        rw [List.map_append,List.map_singleton,addTs_snoc,H1.out]
        show addT l3 x.1 = none
        unfold addT; simp only; rw [if_neg hfi,if_pos h16]
       have HRES:=Lib.hid hres
       have h16' : ((l3.length : Int) == 16) = true:=by simp; omega
       obtain ⟨e1,e2,e3⟩:=HW2.out.err
       have HE1:=Lib.hid e1
       have HE2:=Lib.hid (e2 K (s0 + 2) (by omega))
       have HE3:=Lib.hid (e3 _ _ _ HD2.out)
       obtain ⟨c00,c01⟩:=HW2.out.r0.one
       obtain ⟨c10,c11⟩:=HW2.out.r1.one
       clear hres e1 e2 e3 h16 hfi
       gi_wp2_with fail
       exact ⟨(HR2.out.trans HE2.out).kf,(HR2.out.trans HE2.out).kp,rfl,HRES.out,HE1.out,HE3.out⟩
      ·have h16' : ((l3.length : Int) == 16) = false:=by simp; omega
       have HFI:=Lib.hid hfi
       have H16:=Lib.hid h16
       clear hfi h16
       gi_wp2_with fail
       obtain ⟨ys,F,hO⟩:=HO2.out
       have hyl : (ys.map fun y => y.cells.toList).length = l3.length:=by rw [List.length_map,hO.len]
       have hle16:=HW2.out.ok.len
       have hDl : D < W2.heap.size:=by omega
       have hBxl : Bx < W2.heap.size:=HB2.out.lt
       have hce:=copyExpr_any W2.heap.size x.1.sub x.2.sub W2.drew (by have := HQT.out.big; omega) (HTX.out.sub.below (below_quiet (hb2.mono hKW)) (Nat.le_refl _) (by omega)) HQT.out.good (Nat.le_refl _)
       have HOO:=Lib.hid hO
       have HYL:=Lib.hid hyl
       clear c4 hO hyl h16'
       refine region_round (fun W' => W'.cell? ⟨D,0,none⟩ = some (.slice sa l3.length sc) /\ Blk W' Bx x.2.cells 73) [9] (by kernel_rfl) (by kernel_rfl) (by rintro ⟨_,_,h⟩; exact h) ?_
       have qS : (fun W' : World => W'.cell? ⟨D,0,none⟩ = some (.slice sa l3.length sc) /\ Blk W' Bx x.2.cells 73) W2.drew:=⟨HQ2.out.one.1,HB2.out⟩
       refine wpAnyD_takeC [9,8] (i:=0) (v:=.slice sa l3.length sc) rfl (by kernel_rfl) (by kernel_rfl) (by kernel_rfl) (by kernel_rfl) (by kernel_rfl) (by kernel_rfl) (fun _ _ _ h => h) (.inl ⟨by kernel_rfl,fun W' hS => by have d:=hS.1; go_simp⟩) qS ?_
       refine wpAnyD_takeC [9,8,7,6,3,2] (i:=1) (v:=.pointer (some ⟨Bx,0,none⟩)) rfl (by kernel_rfl) (by kernel_rfl) (by kernel_rfl) (by kernel_rfl) (by kernel_rfl) (by kernel_rfl) (fun _ _ _ h => h) (.inl ⟨by kernel_rfl,fun W' hS => by go_simp⟩) qS ?_
       refine wpAnyD_takeC [9,8,7,6,3] (i:=2) (v:=x.2.sub.agg) rfl (by kernel_rfl) (by kernel_rfl) (by kernel_rfl) (by kernel_rfl) (by kernel_rfl) (by kernel_rfl) (fun _ _ _ h => h) (.inl ⟨by kernel_rfl,fun W' hS => by have d0 : W'.cell? ⟨Bx,0,none⟩ = some (.int .u8 x.2.sub.op):=Blk.at hS.2 rfl; have d1 : W'.cell? ⟨Bx,1,none⟩ = some (S x.2.sub.nm):=Blk.at hS.2 rfl; have d2 : W'.cell? ⟨Bx,2,none⟩ = some (.int .u8 x.2.sub.kd):=Blk.at hS.2 rfl; have d3 : W'.cell? ⟨Bx,3,none⟩ = some (.bool x.2.sub.b3):=Blk.at hS.2 rfl; have d4 : W'.cell? ⟨Bx,4,none⟩ = some (.slice x.2.sub.s4.a x.2.sub.s4.n x.2.sub.s4.m):=Blk.at hS.2 rfl; have d5 : W'.cell? ⟨Bx,5,none⟩ = some (.bool x.2.sub.b5):=Blk.at hS.2 rfl; have d6 : W'.cell? ⟨Bx,6,none⟩ = some (.slice x.2.sub.s6.a x.2.sub.s6.n x.2.sub.s6.m):=Blk.at hS.2 rfl; have d7 : W'.cell? ⟨Bx,7,none⟩ = some (.int .i64 x.2.sub.i7):=Blk.at hS.2 rfl; have d8 : W'.cell? ⟨Bx,8,none⟩ = some (.slice x.2.sub.s8.a x.2.sub.s8.n x.2.sub.s8.m):=Blk.at hS.2 rfl; go_simp⟩) qS ?_
       refine wpAnyD_takeC [9,8,7,6,5] (i:=4) (v:=.pointer (some ⟨Bx,9,none⟩)) rfl (by kernel_rfl) (by kernel_rfl) (by kernel_rfl) (by kernel_rfl) (by kernel_rfl) (by kernel_rfl) (fun _ _ _ h => h) (.inl ⟨by kernel_rfl,fun W' hS => by go_simp⟩) qS ?_
       refine wpAnyD_takeC [9,8,7,6] (i:=5) (v:=.int .u8 x.2.kd) rfl (by kernel_rfl) (by kernel_rfl) (by kernel_rfl) (by kernel_rfl) (by kernel_rfl) (by kernel_rfl) (fun _ _ _ h => h) (.inl ⟨by kernel_rfl,fun W' hS => by have d : W'.cell? ⟨Bx,9,none⟩ = some (.int .u8 x.2.kd):=Blk.at hS.2 rfl; go_simp⟩) qS ?_
       refine wpAnyD_on (i:=3) rfl ?_
       go_simp
       refine hce.mono ?_
       rintro en w3 ⟨ye,rfl,hz3,hb3⟩
       clear hce
       have hb3' : Below W2.heap.size W2 w3:=(below_quiet (Below.refl W2.heap.size W2)).trans hb3
       have q3 : w3.cell? ⟨D,0,none⟩ = some (.slice sa l3.length sc) /\ Blk w3 Bx x.2.cells 73:=⟨(hb3.cell (p:=⟨D,0,none⟩) hDl).trans qS.1,qS.2.below hb3 hBxl⟩
       refine ⟨q3,?_⟩
       refine wpAnyD_on (i:=6) rfl ?_
       go_simp
       have HQ3:=Lib.hid q3
       have HB3:=Lib.hid hb3'
       have HZ3:=Lib.hid hz3
       have hs3:=hb3'.size
       clear q3 hz3 hb3 hb3' qS
       have hqn : Blk (w3.alloc (.cells (⟨ye,x.2.kd,⟨none,0,0⟩⟩ : Sv).cells 34)) w3.heap.size (⟨ye,x.2.kd,⟨none,0,0⟩⟩ : Sv).cells 34:=Blk.new w3 _ _
       have hb4 : Below W2.heap.size W2 (w3.alloc (.cells (⟨ye,x.2.kd,⟨none,0,0⟩⟩ : Sv).cells 34)):=HB3.out.alloc hs3 _
       have q4 : (w3.alloc (.cells (⟨ye,x.2.kd,⟨none,0,0⟩⟩ : Sv).cells 34)).cell? ⟨D,0,none⟩ = some (.slice sa l3.length sc) /\ Blk (w3.alloc (.cells (⟨ye,x.2.kd,⟨none,0,0⟩⟩ : Sv).cells 34)) Bx x.2.cells 73:=⟨(Below.cell ((Below.refl w3.heap.size w3).alloc (Nat.le_refl _) _) (p:=⟨D,0,none⟩) (by show D < w3.heap.size; omega)).trans HQ3.out.1,HQ3.out.2.alloc _⟩
       have hown4:=HOO.out.own.old hb4 (Nat.le_refl _)
       have HRC : Hid (∀ (i : Nat) (r : List Value) (j : Nat) (u : Value),[(⟨ye,x.2.kd,⟨none,0,0⟩⟩ : Sv).cells.toList][i]? = some r -> r[j]? = some u -> (w3.alloc (.cells (⟨ye,x.2.kd,⟨none,0,0⟩⟩ : Sv).cells 34)).cell? ⟨w3.heap.size,0 + (i * 11 + j),none⟩ = some u):=Lib.hid fun i r j u hi hj => sv_cellR hqn hi hj
       have HB4:=Lib.hid hb4
       have HQ4:=Lib.hid q4
       have HOW:=Lib.hid HOO.out.own
       have hlow : ∀ r,(Value.slice sa l3.length sc).ownBlock = some r -> D + 1 <= r /\ r < W2.heap.size:=fun r hr => ⟨HOW.out.low hr,HOW.out.lt hr⟩
       have HLOW:=Lib.hid hlow
       obtain ⟨RS,hRS⟩ : ∃ RS,ys.map (fun y => y.cells.toList) = RS:=⟨_,rfl⟩
       rw [hRS] at hown4 HYL
       have HRS:=Lib.hid hRS
       clear hqn hb4 q4 hRS hlow
       refine wpAnyD_on (i:=7) rfl ?_
       go_simp
       refine ⟨HQ4.out,?_⟩
       refine wpAnyD_on (i:=8) rfl ?_
       refine wp_append_rows (.tmp 41) (.tmp 48) 36 rfl Tryz.underlying36 Tryz.infoScaleG (by kernel_rfl) (by decide) (by simp [Act.eval]) hown4 (b:=w3.heap.size) (off:=0) (m:=1) (cap:=1) (ms:=[(⟨ye,x.2.kd,⟨none,0,0⟩⟩ : Sv).cells.toList]) (by simp [Act.eval]) rfl (sv_row _) HRC.out (by decide) (by rw [HYL.out]; simp [maxLen]; omega) (by rw [HYL.out]; omega) (by simp; omega) ?_
       intro g1 cap1 w5 hown5 hg5 hat5
       have hk5 : ∀ b,b < W2.heap.size -> (Value.slice sa l3.length sc).ownBlock ≠ some b -> w5.heap[b]? = W2.heap[b]? := fun b hb hne => (hg5.block b (by simp; omega) (fun e => hne e.symm)).trans (HB4.out.block b hb)
       have hDn : (Value.slice sa l3.length sc).ownBlock ≠ some D:=fun e => by have := (HLOW.out D e).1; omega
       have hBn : (Value.slice sa l3.length sc).ownBlock ≠ some Bx:=fun e => by
        obtain ⟨_,h9⟩:=HOW.out.blk e
        exact absurd (h9.ty_ne HB2.out) (by decide)
       have hqD : Blk w5 D #[.slice sa l3.length sc] 36:=(hk5 D hDl hDn).trans HQ2.out
       have hqB : Blk w5 Bx x.2.cells 73:=(hk5 Bx hBxl hBn).trans HB2.out
       have hg4 : W2.grownBy (w3.alloc (.cells (⟨ye,x.2.kd,⟨none,0,0⟩⟩ : Sv).cells 34)) none:=grown_below HB4.out
       have hz4 : Zed (Btw W2.heap.size w3.heap.size) (w3.alloc (.cells (⟨ye,x.2.kd,⟨none,0,0⟩⟩ : Sv).cells 34)) (fun K W => ExG K W x.1.sub ye):=HZ3.out.move (agr_below ((Below.refl w3.heap.size w3).alloc (Nat.le_refl _) _) fun b hb => hb.2)
       have hatA : (Value.slice sa l3.length sc).ownBlock = some g1 \/ w3.heap.size <= g1:=by
        rcases hat5 with h | h
        ·exact .inl h
        ·refine .inr ?_
         have h9 : g1 = w3.heap.size + 1:=by simpa [World.size_alloc] using h
         omega
       have hatB : (Value.slice sa l3.length sc).ownBlock = some g1 \/ W2.heap.size <= g1:=hatA.imp id (fun h => Nat.le_trans hs3 h)
       have hnew:=HOO.out.add hg4 hz4 (Nat.le_refl _) (by omega) (by simp) hg5 (by rw [HRS.out]; exact hown5) rfl hatA hatB
       rw [HTX.out.kd] at hnew
       have hs5:=hg5.size
       rw [World.size_alloc] at hs5
       have hown6 : ScOwn (D + 1) (w5.setCell ⟨D,0,none⟩ (.slice (some ⟨g1,0,none⟩) (RS.length + 1) cap1)) (.slice (some ⟨g1,0,none⟩) (RS.length + 1) cap1) (l3 ++ [⟨x.1.sub,x.1.kd,[]⟩]):=(show ScOwn (D + 1) w5 _ _ from ⟨_,_,hnew⟩).move ⟨fun b o hb ho _ => (Below.heap_setCell _ _ _ _ (by show b ≠ D; omega)).trans ho,by simp [World.setCell]⟩
       have hb5 : Below D W2 w5:=(HB4.out.mono (by omega)).grown hg5 (by simp; omega) (fun r hr => by have := (HLOW.out r hr).1; omega)
       have hb6 : Below D W2 (w5.setCell ⟨D,0,none⟩ (.slice (some ⟨g1,0,none⟩) (RS.length + 1) cap1)):=hb5.setCell (Nat.le_refl _) _
       have hok6:=newSc_ok HW2.out.ok HQT.out H16.out
       have hW6:=HW2.out.turn hb6 (hqD.set (i:=0) (.slice (some ⟨g1,0,none⟩) (RS.length + 1) cap1)) hown6 hok6
       have hr6 : Rn K (s0 + 2) W (w5.setCell ⟨D,0,none⟩ (.slice (some ⟨g1,0,none⟩) (RS.length + 1) cap1)):=((HR2.out.trans (Rn.below HB4.out (by omega))).trans (Rn.grown hg5 (by simp; omega) (fun r e => by
        obtain ⟨cc,h9⟩:=HOW.out.blk e
        exact ⟨by have := (HLOW.out r e).1; omega,cc,_,h9.below HB4.out (HLOW.out r e).2,by decide⟩))).trans (Rn.grown (grownBy_setCell w5 D 0 _) (by omega) (fun r e => by cases e; exact ⟨by omega,_,_,hqD,by decide⟩))
       have hD6 : DefOk (B + 2) s0 (w5.setCell ⟨D,0,none⟩ (.slice (some ⟨g1,0,none⟩) (RS.length + 1) cap1)) ds:=((HD2.out.kept hg4 (fun q e => by cases e)).kept hg5 (fun q e => .inr fun o ho => by
        obtain ⟨cc,h9⟩:=HOW.out.blk e
        have h10:=h9.below HB4.out (HLOW.out q e).2
        unfold Blk at h10; rw [h10] at ho; cases ho; rfl)).kept (grownBy_setCell w5 D 0 _) (fun q e => .inr fun o ho => by
        cases e
        have h9:=hqD
        unfold Blk at h9; rw [h9] at ho; cases ho; rfl)
       have hqB6 : Blk (w5.setCell ⟨D,0,none⟩ (.slice (some ⟨g1,0,none⟩) (RS.length + 1) cap1)) Bx x.2.cells 73:=hqB.other (by omega) _
       have hlen6 : l3.length < (l3 ++ [(⟨x.1.sub,x.1.kd,[]⟩ : Sc)]).length:=by simp
       have hkd6 : ((l3 ++ [(⟨x.1.sub,x.1.kd,[]⟩ : Sc)])[l3.length]?.getD default).kd = x.1.kd:=by simp
       have hins6 : insS (l3 ++ [(⟨x.1.sub,x.1.kd,[]⟩ : Sc)]) l3.length x.1 = addT l3 x.1:=by unfold addT; simp only; rw [if_neg HFI.out,if_neg H16.out]
       have HALL6:=Lib.hid (show _ /\ _ /\ _ /\ _ /\ _ /\ _ /\ _ from ⟨hlen6,hkd6,hins6,hW6,hr6,hD6,hqB6⟩)
       have c5:=hqD.one.1
       have f5:=hqD.one.2
       refine ⟨fun _ => ⟨c5,hqB⟩,?_⟩
       clear hlen6 hkd6 hins6 hW6 hr6 hD6 hqB6 hok6 hb6 hb5 hown6 hnew hz4 hg4 hqB hqD hBn hDn hk5 hown5 hg5 hat5 hown4
       refine wpAnyD_on (i:=9) rfl ?_
       go_simp
       refine wpAnyD_done (by kernel_rfl) ?_ _
       go_simp
       obtain ⟨y1,y2,y3,y4,y5,y6,y7⟩:=HALL6.out
       exact KEY.out _ l3.length _ _ _ _ _ _ _ _ _ _ _ _ _ _ _ _ _ _ _ _ _ y1 y2 y3 y4 y5 y6 y7
    case hdone =>
     rintro D' xs W hD hxs ⟨l3,h1,h2,h3⟩ hdef
     have hd':=h3.cons (hi':=W.heap.size) (D:=D') (by omega) (by omega) (Array.getElem?_eq_some_iff.1 hdef).1 hdef
     unfold mkD at hd'
     have HD':=Lib.hid hd'
     have HL : Hid (addTs [] (tsL (l.take (j + 1))) = some l3):=Lib.hid (by rw [HTT.out,addTs_append,HT.out,<- hxs]; exact h1)
     clear hd' h3 hdef h1 hxs
     gi_wp2_with fail
     exact ⟨⟨j + 1,l3,_,_,_,_,_,_,_,_,_,_,_,_,_,_,_,_,by omega,HL,h2,HD',rfl⟩,by simp [intOf]; omega⟩
    case hstop =>
     rintro D' c pre W hD ⟨rest,hr⟩ ⟨rfl,h1,h2,h3⟩ hdef
     have hd':=h3.cons (hi':=W.heap.size) (D:=D') (by omega) (by omega) (Array.getElem?_eq_some_iff.1 hdef).1 hdef
     unfold mkD at hd'
     have HSC : Hid (scalesS l = ([],5)):=Lib.hid (by
      unfold scalesS
      rw [if_pos HALL.out]
      have h4 : addTs [] (tsL l) = none:=by
       rw [HTD.out,addTs_append,HT.out]
       show addTs l2 (tsOf ek ++ tsL (l.drop (j + 1))) = none
       rw [<- hr,List.append_assoc,addTs_append,h1]; rfl
      unfold tsL at h4
      rw [h4])
     gi_wp2_with fail
     refine leaves_ok (B:=B) hd' (by omega) fun W4 hs => ?_
     have e0:=(h2.r0.shut hs).one.1
     have e1:=(h2.r1.shut hs).one.1
     refine ⟨.tuple #[.slice none 0 0,.int .i64 5],?_,.slice none 0 0,?_,?_,h2.bel.trans hs.bel⟩
     ·simp [results,Tryz.results17,go_sem,e0,e1]
     ·rw [HSC.out]
     ·rw [HSC.out]; exact ScOwn.nil _ _
   ·obtain rfl : j = k:=by omega
    obtain ⟨⟨v,hqv,hown⟩,hok,r0,r1,hbel,hBD,hDs⟩:=hS
    obtain ⟨c0,c1⟩:=r0.one
    obtain ⟨c2,c3⟩:=r1.one
    obtain ⟨c4,c5⟩:=hqv.one
    have HSC : Hid (scalesS l = (l2,0)):=Lib.hid (by
     unfold scalesS
     rw [if_pos HALL.out]
     have h1:=HT.out
     have h2 : l.take j = l:=List.take_of_length_le (by rw [HN.out]; exact Nat.le_refl _)
     rw [h2] at h1
     unfold tsL at h1
     rw [h1])
    have hread:=hown.read
    obtain ⟨sa,sc,rfl,_⟩:=hread.form
    have hjj : decide ((j : Int) < (j : Int)) = false:=by simp
    have HRD:=Lib.hid hread
    have HOWN:=Lib.hid hown
    have HR0:=Lib.hid r0
    have HR1:=Lib.hid r1
    have HQV:=Lib.hid hqv
    clear hread hown r0 r1 hqv
    gi_wp2_with fail
    have hb4 : Below B w ((wr.setCell ⟨B,0,none⟩ (.slice sa l2.length sc)).setCell ⟨B + 1,0,none⟩ (.int .i64 0)):=(hbel.setCell (Nat.le_refl _) _).setCell (by simp) _
    have p0 : Blk ((wr.setCell ⟨B,0,none⟩ (.slice sa l2.length sc)).setCell ⟨B + 1,0,none⟩ (.int .i64 0)) B #[.slice sa l2.length sc] 36:=(HR0.out.set (.slice sa l2.length sc)).other (by omega) _
    have p1 : Blk ((wr.setCell ⟨B,0,none⟩ (.slice sa l2.length sc)).setCell ⟨B + 1,0,none⟩ (.int .i64 0)) (B + 1) #[.int .i64 0] 53:=(HR1.out.other (by omega) _).set (.int .i64 0)
    have ho : ScOwn (D + 1) ((wr.setCell ⟨B,0,none⟩ (.slice sa l2.length sc)).setCell ⟨B + 1,0,none⟩ (.int .i64 0)) (.slice sa l2.length sc) l2:=HOWN.out.move ⟨fun b o hb ho _ => ((Below.heap_setCell _ _ _ _ (by show b ≠ B + 1; omega)).trans (Below.heap_setCell _ _ _ _ (by show b ≠ B; omega))).trans ho,by simp [World.setCell]⟩
    have hd : DefOk (B + 2) wr.heap.size ((wr.setCell ⟨B,0,none⟩ (.slice sa l2.length sc)).setCell ⟨B + 1,0,none⟩ (.int .i64 0)) ds:=(HDS.out.kept (grownBy_setCell wr B 0 _) (fun q e => .inr fun o ho => by simp at e; subst e; have h1:=HR0.out; unfold Blk at h1; rw [h1] at ho; cases ho; rfl)).kept (grownBy_setCell _ (B + 1) 0 _) (fun q e => .inr fun o ho => by
     simp at e; subst e
     have h1:=HR1.out.other (b':=B) (i:=0) (by omega) (.slice sa l2.length sc)
     unfold Blk at h1; rw [h1] at ho; cases ho; rfl)
    obtain ⟨W3,hW3⟩ : ∃ W3,(wr.setCell ⟨B,0,none⟩ (.slice sa l2.length sc)).setCell ⟨B + 1,0,none⟩ (.int .i64 0) = W3:=⟨_,rfl⟩
    rw [hW3] at hb4 p0 p1 ho hd ⊢
    refine leaves_ok (B:=B) hd (by omega) fun W4 hs => ?_
    have e0:=(p0.shut hs).one.1
    have e1:=(p1.shut hs).one.1
    refine ⟨.tuple #[.slice sa l2.length sc,.int .i64 0],?_,.slice sa l2.length sc,?_,?_,hb4.trans hs.bel⟩
    ·simp [results,Tryz.results17,go_sem,e0,e1]
    ·rw [HSC.out]
    ·rw [HSC.out]
     exact (ho.move ⟨fun b o _ ho hc => hs.cells b o ho hc,hs.bel.size⟩).mono (by omega)
theorem scales_any (K : Nat) (v : Value) (l : List Gx) (g : Nat -> Xv) (w : World) (hv : RowsV 9 (fun i j => (g i).cell j) K w v l.length) (hx : ∀ (i : Nat) (a : Gx),l[i]? = some a -> ExG K w a (g i)) (hgood : ∀ a ∈ l,a.good = true) (hK : K <= w.heap.size) :
  Calls Tryz.prog 17 #[v] w fun e w' => ∃ v',e = .returned (.tuple #[v',.int .i64 (scalesS l).2]) /\ ScsX w'.heap.size w' v' (scalesS l).1 /\ Below w.heap.size w w' :=
 (scales_own K v l g w hv hx hgood hK).mono fun e w' ⟨v',h1,h2,h3⟩ => ⟨v',h1,h2.read,h3⟩
end Go.Proofs.YtlldjmagbjjeoaaGreat
