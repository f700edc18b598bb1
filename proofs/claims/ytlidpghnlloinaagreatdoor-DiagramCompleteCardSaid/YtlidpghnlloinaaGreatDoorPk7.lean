/- Contracts and plain laws, several texts in one (GCopy3, GSearch, GSearch2, GSearch3). No conditions beyond those stated. -/
import Derived.Test.YtlidpghnlloinaaGreatDoorPk6
set_option maxRecDepth 100000
set_option maxHeartbeats 40000000
namespace Go.Proofs.YtlidpghnlloinaaGreatDoor
open Go.RowKit
set_option linter.unusedVariables false
theorem gx_one (x : Xv) : ∀ u ∈ x.cells.toList,u.oneCell' = true:=by
 intro u hu
 simp at hu
 rcases hu with rfl | rfl | rfl | rfl | rfl | rfl | rfl | rfl | rfl <;> rfl
theorem gx_row (x : Xv) : RowsOk 9 [x.cells.toList]:=RowsOk.one rfl (gx_one x)
theorem Tryz.infoExprG : (Tryz.prog.info? 49).map (fun i => (i.zero,i.size,i.bytes)) = some (some xz.agg,9,128):=by kernel_rfl
theorem xv_cell_at (x : Xv) {j : Nat} (hj : j < 9) : (x.cells.toList[j]?).getD undef = x.cell j:=by
 match j,hj with
 | 0,_ => rfl
 | 1,_ => rfl
 | 2,_ => rfl
 | 3,_ => rfl
 | 4,_ => rfl
 | 5,_ => rfl
 | 6,_ => rfl
 | 7,_ => rfl
 | 8,_ => rfl
def Frz (lo hi : Nat) (v : Value) (b : Nat) : Prop:=lo <= b /\ b < hi /\ v.ownBlock ≠ some b
theorem rows_exs {base hi : Nat} {w : World} {v : Value} {es : List Gx} {xs : List Xv} (h : OwnR 9 49 base w v (xs.map fun x => x.cells.toList)) (hl : xs.length = es.length)
  (he : ∀ (j : Nat) (a : Gx),es[j]? = some a -> Zed (Frz base hi v) w fun K W => ExG K W a (xs[j]?.getD xz)) (hhi : w.heap.size <= hi) :
  Zed (Btw base hi) w fun K W => RowsV 9 (fun i j => (xs[i]?.getD xz).cell j) K W v es.length /\ ∀ (j : Nat) (a : Gx),es[j]? = some a -> ExG K W a (xs[j]?.getD xz):=by
 intro W K ha hK
 constructor
 ·have hr:=OwnR.zed h (F:=Btw base hi) (fun b hb => ⟨h.low hb,by have := h.lt hb; omega⟩) W K ha hK
  rw [List.length_map,hl] at hr
  refine hr.congr fun i hi j hj => ?_
  rw [List.getElem?_map,List.getElem?_eq_getElem (l:=xs) (i:=i) (by omega)]
  exact xv_cell_at _ hj
 ·intro j a hj
  exact (he j a hj).mono (fun b hb => (⟨hb.1,hb.2.1⟩ : Btw base hi b)) W K ha hK
theorem frz_step {lo g : Nat} {wr W w5 : World} {u v : Value} (hg : W.grownBy w5 u.ownBlock) (hat : u.ownBlock = some g \/ g = W.heap.size) (hv : v.ownBlock = some g) (hb : Below wr.heap.size wr W) {R : Nat -> World -> Prop} (h : Zed (Frz lo wr.heap.size u) wr R) : Zed (Frz lo w5.heap.size v) w5 R:=by
 have hs:=hb.size
 have hs5:=hg.size
 have h2:=(h.move (agr_below hb fun b hb => hb.2.1)).move (agr_grown hg (fun b hb => by have := hb.2.1; omega) fun b hr hf => hf.2.2 hr)
 refine h2.mono fun b hb => ⟨hb.1,by have := hb.2.1; omega,fun e => ?_⟩
 rw [hv] at e
 obtain rfl:=Option.some.inj e
 rcases hat with hat | hat
 ·exact hb.2.2 hat
 ·have := hb.2.1; omega
theorem frz_new {lo lo' hi g : Nat} {W w5 : World} {u v : Value} (hg : W.grownBy w5 u.ownBlock) (hat : u.ownBlock = some g \/ g = W.heap.size) (hv : v.ownBlock = some g) (hlo : lo <= lo') (hu : ∀ r,u.ownBlock = some r -> r < lo') (hhi : hi <= W.heap.size) {R : Nat -> World -> Prop} (h : Zed (Btw lo' hi) W R) : Zed (Frz lo w5.heap.size v) w5 R:=by
 have hs5:=hg.size
 have h2:=h.move (agr_grown hg (fun b hb => by have := hb.2; omega) fun b hr hf => by have := hu b hr; have := hf.1; omega)
 refine h2.mono fun b hb => ⟨by have := hb.1; omega,by have := hb.2; omega,fun e => ?_⟩
 rw [hv] at e
 obtain rfl:=Option.some.inj e
 rcases hat with hat | hat
 ·have := hu g hat; have := hb.1; omega
 ·have := hb.2; omega
theorem row_cell (w : World) (z : Xv) {i j : Nat} {r : List Value} {u : Value} (hi : [z.cells.toList][i]? = some r) (hj : r[j]? = some u) : (w.alloc (.cells z.cells 49)).cell? ⟨w.heap.size,0 + (i * 9 + j),none⟩ = some u:=by
 match i,hi with
 | 0,hi =>
  simp only [List.getElem?_cons_zero,Option.some.injEq] at hi
  subst hi
  have := (Blk.new w z.cells 49).at (i:=j) (x:=u) (by simpa using hj)
  rwa [show 0 + (0 * 9 + j) = j by omega]
 | i + 1,hi => simp at hi
theorem copyExpr_at (m : Nat) : ∀ (K : Nat) (e : Gx) (x : Xv) (w : World),e.parts <= m -> e.parts <= 2 ^ 20 -> ExG K w e x -> e.good = true -> K <= w.heap.size →
  Calls Tryz.prog 98 #[x.agg] w fun en w' => ∃ y : Xv,en = .returned y.agg /\ Zed (Btw w.heap.size w'.heap.size) w' (fun K W => ExG K W e y) /\ Below w.heap.size w w':=by
 induction m with
 | zero => intro K e x w hm; cases e; rw [partsG_mk] at hm; omega
 | succ m ih =>
  intro K e x w hm hbig h hg hK
  have HX:=Lib.hid h
  obtain ⟨h1,h2,h3,hv,g,hr,hgr⟩:=h.open
  obtain ⟨a8,m8,h8,hn8,hm8⟩:=hr.form
  have hal : e.args.length <= 2 ^ 20:=by
   have h0:=partsG_args e
   have : ∀ l : List Gx,l.length <= partsL l:=by
    intro l
    induction l with
    | nil => simp [partsL]
    | cons a r ih => have h1:=partsG_args a; rw [partsL,List.length_cons]; omega
   have := this e.args
   omega
  have HA : Hid (∀ k,k < e.args.length -> (argAt e k).parts <= m /\ (argAt e k).parts <= 2 ^ 20 /\ ExG K w (argAt e k) (g k) /\ (argAt e k).good = true /\ e.args[k]? = some (argAt e k)):=Lib.hid fun k hk => by
   have e1:=arg_some hk
   have hp:=partsG_arg (List.mem_of_getElem? e1)
   have := partsG_args e
   exact ⟨by omega,by omega,hgr k _ e1,good_args hg _ (List.mem_of_getElem? e1),e1⟩
  have HIH:=Lib.hid ih
  have HR:=Lib.hid hr
  have HG:=Lib.hid hg
  have HV:=Lib.hid hv
  obtain ⟨op,nm,kd,b3,⟨a4,n4,m4⟩,b5,⟨a6,n6,m6⟩,i7,⟨x8,nx8,mx8⟩⟩:=x
  simp only [Sl.val,Value.slice.injEq] at h8
  obtain ⟨rfl,rfl,rfl⟩:=h8
  obtain ⟨q,hq⟩ : ∃ q,e.args.length = q:=⟨_,rfl⟩
  have HQ:=Lib.hid hq
  obtain ⟨x,hx⟩ : ∃ x : Xv,x = ⟨op,nm,kd,b3,⟨a4,n4,m4⟩,b5,⟨a6,n6,m6⟩,i7,⟨x8,q,mx8⟩⟩:=⟨_,rfl⟩
  rw [hq] at HX HR HV hal HA ⊢
  rw [<- hx] at HX ⊢
  obtain ⟨W1,hW1⟩ : ∃ W1,(w.alloc (.cells x.cells 49)).alloc (.cells xz.cells 49) = W1:=⟨_,rfl⟩
  have b1 : Below w.heap.size w W1:=by rw [<- hW1]; exact ((Below.refl _ _).alloc (Nat.le_refl _) _).alloc (by simp) _
  have q1 : Blk W1 w.heap.size x.cells 49:=by rw [<- hW1]; exact (Blk.new w _ _).alloc _
  have q2 : Blk W1 (w.heap.size + 1) xz.cells 49:=by
   rw [<- hW1]
   have := Blk.new (w.alloc (.cells x.cells 49)) xz.cells 49
   rwa [World.size_alloc] at this
  have sz1 : W1.heap.size = w.heap.size + 2:=by rw [<- hW1]; simp
  obtain ⟨B,hB⟩ : ∃ B,w.heap.size = B:=⟨_,rfl⟩
  have HB:=Lib.hid hB
  have HW:=Lib.hid hW1
  rw [hB] at hK b1 q1 q2 sz1 ⊢
  have hc1:=copyValue_any B e.v _ W1 (hv.below b1 hK hK) (good_v hg) (by omega)
  rw [hx] at q1 HW ⊢
  dsimp only [Xv.cells,Xv.agg,xz] at HW ⊢
  dsimp only [Vv.agg,Sl.val] at hc1
  clear hB hW1 h h1 h2 h3 hv hg hr hgr ih hm hbig hq hn8 hm8
  obtain ⟨d0,d1,d2,d3,d4,d5,d6,d7,d8⟩:=q1.nine
  go_enter Tryz.func98,Tryz.ntmps98
  go_upto_region 1 with fail
  simp only [HB.out]
  rw [HW.out]
  go_wp2_with fail
  refine hc1.mono ?_
  rintro en w2 ⟨y,rfl,hz1,hb2⟩
  clear hc1 d0 d1 d2 d3 d4 d5 d6 d7 d8
  have p1:=q1.below hb2 (by omega)
  have p2:=q2.below hb2 (by omega)
  have hs2:=hb2.size
  have hy:=hz1.get fun b hb => hb.2
  obtain ⟨ya,yc,hy1,_⟩:=hy.n.form
  obtain ⟨za,zc,hy2,_⟩:=hy.d.form
  obtain ⟨ykd,yf1,ys1,yf2,ys2,yi⟩:=y
  dsimp only at hy1 hy2
  subst hy1 hy2
  clear hy
  obtain ⟨d0,d1,d2,d3,d4,d5,d6,d7,d8⟩:=p1.nine
  have fr : ∀ j,w2.frozen? ⟨B,j,none⟩ = false:=fun j => p1.free j
  go_upto_region 2 with fail
  obtain ⟨W2,hW2⟩ : ∃ W2,((((((w2.setCell ⟨B,2,none⟩ (.int .u8 ykd)).setCell ⟨B,3,none⟩ (.bool yf1)).setCell ⟨B,4,none⟩ (.slice ya e.v.l1.length yc)).setCell ⟨B,5,none⟩ (.bool yf2)).setCell ⟨B,6,none⟩ (.slice za e.v.l2.length zc)).setCell ⟨B,7,none⟩ (.int .i64 yi)) = W2:=⟨_,rfl⟩
  have hch : ∀ b,b ≠ B -> W2.heap[b]? = w2.heap[b]? := fun b hb => by
   rw [<- hW2]
   exact (Below.heap_setCell _ _ _ _ hb).trans ((Below.heap_setCell _ _ _ _ hb).trans ((Below.heap_setCell _ _ _ _ hb).trans ((Below.heap_setCell _ _ _ _ hb).trans ((Below.heap_setCell _ _ _ _ hb).trans (Below.heap_setCell _ _ _ _ hb)))))
  have sz2 : W2.heap.size = w2.heap.size:=by rw [<- hW2]; simp [World.setCell]
  have b2 : Below B w W2:=by rw [<- hW2]; exact ((((((b1.trans (hb2.mono (by omega))).setCell (Nat.le_refl _) _).setCell (Nat.le_refl _) _).setCell (Nat.le_refl _) _).setCell (Nat.le_refl _) _).setCell (Nat.le_refl _) _).setCell (Nat.le_refl _) _
  have p3 : Blk W2 B (⟨op,nm,ykd,yf1,⟨ya,e.v.l1.length,yc⟩,yf2,⟨za,e.v.l2.length,zc⟩,yi,⟨x8,q,mx8⟩⟩ : Xv).cells 49:=by rw [<- hW2]; exact (((((p1.set (.int .u8 ykd)).set (.bool yf1)).set (.slice ya e.v.l1.length yc)).set (.bool yf2)).set (.slice za e.v.l2.length zc)).set (.int .i64 yi)
  have p4 : Blk W2 (B + 1) xz.cells 49:=(hch _ (by omega)).trans p2
  have hz1' : Zed (Btw (B + 2) W2.heap.size) W2 (fun K W => VlX K W e.v ⟨ykd,yf1,.slice ya e.v.l1.length yc,yf2,.slice za e.v.l2.length zc,yi⟩):=(hz1.move <| Agr.of fun b hb => hch b (by have := hb.1; omega)).mono (btw_mono (by omega) (by omega))
  obtain ⟨l1,hl1⟩ : ∃ n,e.v.l1.length = n:=⟨_,rfl⟩
  obtain ⟨l2,hl2⟩ : ∃ n,e.v.l2.length = n:=⟨_,rfl⟩
  rw [hW2]
  rw [hl1,hl2] at p3 hz1' ⊢
  have HZ:=Lib.hid hz1'
  clear hW2 hch hz1 hz1' p1 p2 q1 q2 fr d0 d1 d2 d3 d4 d5 d6 d7 d8 hl1 hl2
  obtain ⟨x2,hx2⟩ : ∃ x2 : Xv,x2 = ⟨op,nm,ykd,yf1,⟨ya,l1,yc⟩,yf2,⟨za,l2,zc⟩,yi,⟨x8,q,mx8⟩⟩:=⟨_,rfl⟩
  obtain ⟨d0,d1,d2,d3,d4,d5,d6,d7,d8⟩:=p3.nine
  rw [<- hx2] at p3
  go_wp2_with fail
  clear d0 d1 d2 d3 d4 d5 d6 d7 d8
  go_loopw [3,13] (fun v i wr => ∃ (k : Nat) (xs : List Xv),k <= q /\ i = .int .i64 k /\ xs.length = k /\ Blk wr B x2.cells 49 /\ Blk wr (B + 1) xz.cells 49 /\ OwnR 9 49 (B + 2) wr v (xs.map fun x => x.cells.toList) /\ Below B w wr /\ B + 2 <= wr.heap.size ∧
   Hid (Zed (Frz (B + 2) wr.heap.size v) wr (fun K W => VlX K W e.v ⟨ykd,yf1,.slice ya l1 yc,yf2,.slice za l2 zc,yi⟩)) /\ Hid (∀ j,j < k -> Zed (Frz (B + 2) wr.heap.size v) wr fun K W => ExG K W (argAt e j) (xs[j]?.getD xz))) (fun _ i _ => q - (intOf i).toNat)
  case atStart => exact ⟨0,[],Nat.zero_le _,rfl,rfl,p3,p4,OwnR.nil _ _ _ _,b2,by omega,Lib.hid (HZ.out.mono fun b hb => ⟨hb.1,hb.2,by simp [Value.ownBlock]⟩),Lib.hid fun j hj => absurd hj (Nat.not_lt_zero j)⟩
  case round =>
   obtain ⟨k,xs,hk,rfl,hxs,r1,r2,hown,hbr,hsr,HZV,HZA⟩:=hrel
   by_cases hlt : k < q
   ·obtain ⟨b,o,cap,he,_,_,hbK,hc⟩:=HR.out.pos (by omega)
    simp only [Sl.val,Value.slice.injEq,true_and] at he
    obtain ⟨rfl,rfl⟩:=he
    obtain ⟨c0,c1,c2,c3,c4,c5,c6,c7,c8⟩:=ex_cells (cells_below hbr (by omega) hc) hlt
    obtain ⟨ak1,ak2,ak3,ak4,ak5⟩:=HA.out k hlt
    obtain ⟨y,hy⟩ : ∃ y,g k = y:=⟨_,rfl⟩
    rw [hy] at c0 c1 c2 c3 c4 c5 c6 c7 c8 ak3
    have hbl : b < wr.heap.size:=by omega
    have hbW : Below B w (wr.alloc (.cells y.cells 49)):=hbr.alloc (by omega) _
    have hcall:=HIH.out B (argAt e k) y (wr.alloc (.cells y.cells 49)) ak1 ak2 (ak3.below hbW hK hK) ak4 (by simp; omega)
    have HBW:=Lib.hid hbW
    have HXS:=Lib.hid hxs
    clear hy hc ak1 ak2 ak3 ak4 ak5 hbW hxs
    go_wp2_with fail
    refine hcall.mono ?_
    rintro en w3 ⟨z,rfl,hz3,hb3⟩
    clear hcall c0 c1 c2 c3 c4 c5 c6 c7 c8
    obtain ⟨va,vn,hv3,hvn,hvm⟩:=hown.form
    rw [List.length_map,HXS.out] at hv3 hvn
    subst hv3
    have hb4 : Below wr.heap.size wr (w3.alloc (.cells z.cells 49)):=((((Below.refl _ wr).alloc (Nat.le_refl _) (.cells y.cells 49)).trans (hb3.mono (by simp))).alloc (by have := hb3.size; simp at this; omega) _)
    have hs3 : wr.heap.size + 1 <= w3.heap.size:=by have := hb3.size; simpa using this
    have hown4:=hown.old hb4 (Nat.le_refl _)
    have HB4:=Lib.hid hb4
    have HB3:=Lib.hid hb3
    have HOWN:=Lib.hid hown
    have HZ3:=Lib.hid hz3
    have HRC : Hid (∀ (i : Nat) (r : List Value) (j : Nat) (u : Value),[z.cells.toList][i]? = some r -> r[j]? = some u -> (w3.alloc (.cells z.cells 49)).cell? ⟨w3.heap.size,0 + (i * 9 + j),none⟩ = some u):=Lib.hid fun i r j u hi hj => row_cell w3 z hi hj
    have hrl : (xs.map fun x => x.cells.toList).length = k:=by rw [List.length_map]; exact HXS.out
    obtain ⟨RS,hRS⟩ : ∃ RS,xs.map (fun x => x.cells.toList) = RS:=⟨_,rfl⟩
    rw [hRS] at hown4 hrl
    have HRS:=Lib.hid hRS
    have HRL:=Lib.hid hrl
    clear hb4 hb3 hown hz3 hRS hrl
    go_wp2_with (at_builtin; refine wpList_append_rows rfl (.tmp 17) (.tmp 20) 22 rfl Tryz.underlying22 Tryz.infoExprG (by kernel_rfl) (by decide) rfl hown4 (b:=w3.heap.size) (off:=0) (m:=1) (cap:=1) (ms:=[z.cells.toList]) rfl rfl (gx_row z) HRC.out (by decide) (by rw [HRL.out]; simp [maxLen]; omega) (by rw [HRL.out]; omega) (by simp; omega) ?_; intro g1 cap1 w5 hown5 hg5 hat5)
    have hg6 : g1 = (w3.alloc (.cells z.cells 49)).heap.size \/ (Value.slice va k vn).ownBlock = some g1:=hat5.symm
    have hs5:=hg5.size
    rw [World.size_alloc] at hs5
    have hlow:=fun r hr => HOWN.out.low (r:=r) hr
    have hlt2:=fun r hr => HOWN.out.lt (r:=r) hr
    have r3:=(r1.below HB4.out r1.lt).kept hg5 (fun e => by have := hlow B e.symm; omega)
    have r4:=(r2.below HB4.out r2.lt).kept hg5 (fun e => by have := hlow (B + 1) e.symm; omega)
    have hb5 : Below B w w5:=(hbr.trans (HB4.out.mono (by omega))).grown hg5 (by simp; omega) (fun r hr => by have := hlow r hr; omega)
    have hs4:=HB4.out.size
    rw [World.size_alloc] at hs4
    refine ⟨⟨k + 1,xs ++ [z],by omega,by go_num,by rw [List.length_append,HXS.out]; rfl,r3,r4,?_,hb5,by omega,?_,?_⟩,by simp [intOf]; omega⟩
    ·rw [List.map_append,HRS.out]
     exact hown5
    ·exact Lib.hid (frz_step hg5 hat5 rfl HB4.out HZV.out)
    ·refine Lib.hid fun j hj => ?_
     by_cases hjk : j = k
     ·subst hjk
      rw [List.getElem?_append_right (by rw [HXS.out]; exact Nat.le_refl _),HXS.out,Nat.sub_self]
      refine frz_new hg5 hat5 rfl (lo':=wr.heap.size + 1) (hi:=w3.heap.size) (by omega) (fun r hr => by have := hlt2 r hr; omega) (by simp) ?_
      have h1:=HZ3.out
      rw [World.size_alloc] at h1
      exact h1.move (agr_below ((Below.refl w3.heap.size w3).alloc (Nat.le_refl _) _) fun b hb => hb.2)
     ·rw [List.getElem?_append_left (by rw [HXS.out]; omega)]
      exact frz_step hg5 hat5 rfl HB4.out (HZA.out j (by omega))
   ·obtain rfl : k = q:=by omega
    obtain ⟨va,vn,hv3,hvn,hvm⟩:=hown.form
    rw [List.length_map,hxs] at hv3 hvn
    subst hv3
    have HOWN:=Lib.hid hown
    have HXS:=Lib.hid hxs
    have r1':=r1
    rw [hx2] at r1'
    obtain ⟨d0,d1,d2,d3,d4,d5,d6,d7,d8⟩:=r1'.nine
    have fr8:=r1.free 8
    clear r1' hown hxs
    go_upto_region 9 with fail
    obtain ⟨W3,hW3⟩ : ∃ W3,wr.setCell ⟨B,8,none⟩ (.slice va k vn) = W3:=⟨_,rfl⟩
    have hch : ∀ b,b ≠ B -> W3.heap[b]? = wr.heap[b]? := fun b hb => by rw [<- hW3]; exact Below.heap_setCell _ _ _ _ hb
    have sz3 : W3.heap.size = wr.heap.size:=by rw [<- hW3]; simp [World.setCell]
    have p5 : Blk W3 B (⟨op,nm,ykd,yf1,⟨ya,l1,yc⟩,yf2,⟨za,l2,zc⟩,yi,⟨va,k,vn⟩⟩ : Xv).cells 49:=by rw [<- hW3]; rw [hx2] at r1; exact r1.set (.slice va k vn)
    have p6 : Blk W3 (B + 1) xz.cells 49:=(hch _ (by omega)).trans r2
    have b5' : Below B w W3:=by rw [<- hW3]; exact hbr.setCell (Nat.le_refl _) _
    rw [hW3]
    clear hW3 d0 d1 d2 d3 d4 d5 d6 d7 d8 fr8 r1 r2 hx2
    obtain ⟨d0,d1,d2,d3,d4,d5,d6,d7,d8⟩:=p5.nine
    iterate 4 go_step
    refine wpList_store_blk rfl 49 49 (.tmp 2) (.tmp 25) rfl (⟨op,nm,ykd,yf1,⟨ya,l1,yc⟩,yf2,⟨za,l2,zc⟩,yi,⟨va,k,vn⟩⟩ : Xv).cells _ (B + 1) p6 infoEx rfl (fun u hu => gx_one (⟨op,nm,ykd,yf1,⟨ya,l1,yc⟩,yf2,⟨za,l2,zc⟩,yi,⟨va,k,vn⟩⟩ : Xv) u (Array.mem_toList_iff.2 hu)) rfl rfl ?_
    intro W5 t1 t2 t3 t4
    clear d0 d1 d2 d3 d4 d5 d6 d7 d8
    have hb5 : Below B w W5:=b5'.trans (t2 B (by omega))
    have hA : Agr (Btw (B + 2) wr.heap.size) wr W5:=Agr.of fun b hb => (t3.block b (by have := hb.2; omega) (fun e => by simp at e; have := hb.1; omega)).trans (hch b (by have := hb.1; omega))
    go_wp2_with fail
    refine bodyPost_ret (results_blk rfl _ _ (B + 1) _ _ t1 rfl Tryz.underlying49 rfl infoEx) rfl ?_
    refine ⟨⟨op,nm,ykd,yf1,⟨ya,l1,yc⟩,yf2,⟨za,l2,zc⟩,yi,⟨va,k,vn⟩⟩,rfl,?_,hb5⟩
    have hsz5 : wr.heap.size <= W5.heap.size:=by omega
    have z1:=((HZV.out.mono (G:=Btw (B + 2) wr.heap.size) fun b hb => ⟨hb.1,hb.2.1⟩).move hA).mono (btw_mono (lo':=B) (hi':=W5.heap.size) (by omega) hsz5)
    have hel : xs.length = e.args.length:=by rw [HXS.out,HQ.out]
    have z2:=((rows_exs HOWN.out hel (fun j a hj => by
     have hjl : j < k:=by have := (List.getElem?_eq_some_iff.1 hj).1; have := HQ.out; omega
     have h1:=(HA.out j hjl).2.2.2.2
     rw [hj] at h1
     obtain rfl:=Option.some.inj h1
     exact HZA.out j hjl) (Nat.le_refl _)).move hA).mono (btw_mono (lo':=B) (hi':=W5.heap.size) (by omega) hsz5)
    intro W K' ha hk'
    obtain ⟨y1,y2⟩:=z2 W K' ha hk'
    obtain ⟨o1,o2,o3,_⟩:=HX.out.open
    rw [hx] at o1 o2
    exact ExG.make o1 o2 o3 (z1 W K' ha hk') (fun i => xs[i]?.getD xz) (by rw [HQ.out] at y1 ⊢; exact y1) y2
theorem copyExpr_any (K : Nat) (e : Gx) (x : Xv) (w : World) (hbig : e.parts <= 2 ^ 20) (h : ExG K w e x) (hg : e.good = true) (hK : K <= w.heap.size) :
  Calls Tryz.prog 98 #[x.agg] w fun en w' => ∃ y : Xv,en = .returned y.agg /\ Zed (Btw w.heap.size w'.heap.size) w' (fun K W => ExG K W e y) /\ Below w.heap.size w w':=copyExpr_at e.parts K e x w (Nat.le_refl _) hbig h hg hK
theorem ssearch_any (n : Nat) (p : Nat -> Bool) (p1 p2 : Value) (w : World) (hn : n <= 2 ^ 38) (hmono : ∀ i j,i <= j -> p i = true -> p j = true)
  (hc : ∀ i : Nat,i < n -> ∀ W,Below w.heap.size w W -> Calls Tryz.prog 137 #[.int .i64 i,p1,p2] W fun e w' => e = .returned (.bool (p i)) /\ Below W.heap.size W w') :
  Calls Tryz.prog 136 #[.int .i64 n,.func (.func 137) #[] #[p1,p2]] w fun e w' => ∃ r : Nat,e = .returned (.int .i64 r) /\ r <= n /\ (∀ i,i < r -> p i = false) /\ (∀ i,r <= i -> i < n -> p i = true) /\ Below w.heap.size w w':=by
 have HC:=Lib.hid hc
 have HM:=Lib.hid hmono
 clear hc hmono
 go_enter Tryz.func136,Tryz.ntmps136
 go_wp2_with fail
 go_loopw [5,6] (fun x y wr => ∃ i j : Nat,x = .int .i64 i /\ y = .int .i64 j /\ i <= j /\ j <= n /\ Hid (∀ k,k < i -> p k = false) /\ Hid (∀ k,j <= k -> k < n -> p k = true) /\ Below w.heap.size w wr) (fun x y _ => (intOf y).toNat - (intOf x).toNat)
 case atStart => exact ⟨0,n,rfl,rfl,Nat.zero_le _,Nat.le_refl _,Lib.hid fun k hk => absurd hk (Nat.not_lt_zero k),Lib.hid fun k h1 h2 => by omega,Below.refl _ _⟩
 case round =>
  obtain ⟨i,j,rfl,rfl,hij,hj,HA,HB,hb⟩:=hrel
  by_cases hlt : i < j
  ·have hdv : ((i : Int) + (j : Int)) / 2 = (((i + j) / 2 : Nat) : Int):=by omega
   obtain ⟨h,hh⟩ : ∃ h,(i + j) / 2 = h:=⟨_,rfl⟩
   have h1 : i <= h:=by omega
   have h2 : h < j:=by omega
   rw [hh] at hdv
   have hcall:=HC.out h (by omega) wr hb
   obtain ⟨c,hcp⟩ : ∃ c,p h = c:=⟨_,rfl⟩
   have HP:=Lib.hid hcp
   rw [hcp] at hcall
   clear hcp hh
   go_wp2_with fail
   refine hcall.mono ?_
   rintro e w2 ⟨rfl,hb2⟩
   have hb' : Below w.heap.size w w2:=hb.trans (hb2.mono hb.size)
   clear hcall
   cases c with
   | false =>
    go_wp2_with fail
    refine ⟨⟨h + 1,j,by simp,rfl,by omega,hj,Lib.hid fun k hk => ?_,HB,hb'⟩,by simp [intOf]; omega⟩
    cases hpk : p k with
    | false => rfl
    | true => have := HM.out k h (by omega) hpk; rw [HP.out] at this; cases this
   | true =>
    go_wp2_with fail
    exact ⟨⟨i,h,rfl,rfl,h1,by omega,HA,Lib.hid fun k hk hkn => HM.out h k hk HP.out,hb'⟩,by simp [intOf]; omega⟩
  ·obtain rfl : i = j:=by omega
   go_wp2_with fail
   go_ret
   exact ⟨i,rfl,hj,HA.out,HB.out,hb⟩
def Vv.cell (x : Vv) : Nat -> Value
 | 0 => .int .u8 x.kd
 | 1 => .bool x.b1
 | 2 => x.s1
 | 3 => .bool x.b2
 | 4 => x.s2
 | _ => .int .i64 x.i
def CutsX (K : Nat) (w : World) (v : Value) (l : List Vq) : Prop:=∃ g : Nat -> Vv,RowsV 6 (fun i j => (g i).cell j) K w v l.length /\ ∀ i,i < l.length -> VlX K w (l[i]?.getD v0) (g i)
theorem CutsX.below {K K' B : Nat} {w w' : World} {v : Value} {l : List Vq} (h : CutsX K w v l) (hb : Below B w w') (hB : K <= B) (hK : K <= K') : CutsX K' w' v l:=by
 obtain ⟨g,h1,h2⟩:=h
 exact ⟨g,h1.below hb hB hK,fun i hi => (h2 i hi).below hb hB hK⟩
theorem CutsX.form {K : Nat} {w : World} {v : Value} {l : List Vq} (h : CutsX K w v l) : ∃ a cap,v = .slice a l.length cap /\ l.length <= cap /\ cap <= maxLen:=by
 obtain ⟨g,h1,h2⟩:=h; exact h1.form
structure CutsOk (kd : Int) (l : List Vq) : Prop where
 good : ∀ c ∈ l,c.good = true
 ok : ∀ c ∈ l,c.ok = true
 kd : ∀ c ∈ l,c.kd = kd
 inc : l.Pairwise vlt
theorem CutsOk.at {kd : Int} {l : List Vq} (h : CutsOk kd l) {i : Nat} (hi : i < l.length) : (l[i]?.getD v0).good = true /\ (l[i]?.getD v0).ok = true /\ (l[i]?.getD v0).kd = kd:=by
 rw [List.getElem?_eq_getElem hi]; exact ⟨h.good _ (List.getElem_mem hi),h.ok _ (List.getElem_mem hi),h.kd _ (List.getElem_mem hi)⟩
theorem cmpI_ge (a b : Int) : decide (0 <= cmpI a b) = decide (b <= a):=by
 unfold cmpI; split
 ·simp; omega
 ·split
  ·simp; omega
  ·simp; omega
theorem cmpI_zero (a b : Int) : (cmpI a b == 0) = decide (a = b):=by
 unfold cmpI; split
 ·rw [Bool.eq_iff_iff]; simp; omega
 ·split
  ·rw [Bool.eq_iff_iff]; simp; omega
  ·rw [Bool.eq_iff_iff]; simp; omega
theorem vcmp_ge (a b : Vq) : decide (0 <= vcmp a b) = vle b a:=cmpI_ge _ _
theorem vcmp_zero (a b : Vq) : (vcmp a b == 0) = veq a b:=cmpI_zero _ _
theorem val_cells {g : Nat -> Vv} {w : World} {b o k n : Nat} (hc : ∀ i,i < n -> ∀ j,j < 6 -> w.cell? ⟨b,o + (i * 6 + j),none⟩ = some ((g i).cell j)) (hk : k < n) :
  w.cell? ⟨b,o + k * 6,none⟩ = some (.int .u8 (g k).kd) /\ w.cell? ⟨b,o + k * 6 + 1,none⟩ = some (.bool (g k).b1) /\ w.cell? ⟨b,o + k * 6 + 2,none⟩ = some (g k).s1 /\ w.cell? ⟨b,o + k * 6 + 3,none⟩ = some (.bool (g k).b2) ∧
  w.cell? ⟨b,o + k * 6 + 4,none⟩ = some (g k).s2 /\ w.cell? ⟨b,o + k * 6 + 5,none⟩ = some (.int .i64 (g k).i):=by
 have h:=hc k hk
 exact ⟨h 0 (by omega),h 1 (by omega),h 2 (by omega),h 3 (by omega),h 4 (by omega),h 5 (by omega)⟩
theorem searchF_any (K P1 P2 sb so : Nat) (cv : Value) (l : List Vq) (kd : Int) (v : Vq) (x : Vv) (i : Nat) (w : World) (hl : CutsX K w cv l) (hv : VlX K w v x) (ho : CutsOk kd l) (hvo : v.good = true) (hvo1 : v.ok = true) (hvk : v.kd = kd) (hK : K <= w.heap.size)
  (q1 : Blk w P1 #[.pointer (some ⟨sb,so,none⟩)] 181) (q2 : Blk w P2 x.cells 47) (hs : w.cell? ⟨sb,so + 10,none⟩ = some cv) (hsb : sb < w.heap.size) (hi : i < l.length) :
  Calls Tryz.prog 137 #[.int .i64 i,.pointer (some ⟨P1,0,none⟩),.pointer (some ⟨P2,0,none⟩)] w fun e w' => e = .returned (.bool (vle v (l[i]?.getD v0))) /\ Below w.heap.size w w':=by
 obtain ⟨hok,hok1,hkd⟩:=ho.at hi
 obtain ⟨g,hg,hgi⟩:=hl
 obtain ⟨cb,co,cap,rfl,hn,hm,hbK,hc⟩:=hg.pos (by omega)
 have hgx:=hgi i hi
 have hcmp : ∀ W,Below w.heap.size w W -> Calls Tryz.prog 126 #[(g i).agg,x.agg] W fun e w' => e = .returned (.int .i64 (vcmp (l[i]?.getD v0) v)) /\ Below W.heap.size W w':=fun W hb =>
  gcompare_any W.heap.size _ v _ x W (hgx.below hb hK (Nat.le_trans hK hb.size)) (hv.below hb hK (Nat.le_trans hK hb.size)) (Nat.le_refl _) hok hvo hok1 hvo1 (by rw [hkd,hvk])
 have hge:=vcmp_ge (l[i]?.getD v0) v
 obtain ⟨r,hr⟩ : ∃ r,vle v (l[i]?.getD v0) = r:=⟨_,rfl⟩
 rw [hr] at hge ⊢
 obtain ⟨ci,hci⟩ : ∃ ci,vcmp (l[i]?.getD v0) v = ci:=⟨_,rfl⟩
 simp only [hci] at hcmp hge
 obtain ⟨n,hnl⟩ : ∃ n,l.length = n:=⟨_,rfl⟩
 rw [hnl] at hi hc hn hs
 have HH:=Lib.hid hcmp
 have hcells:=val_cells hc hi
 have hcc : ∀ W,Below w.heap.size w W -> W.cell? ⟨cb,co + i * 6,none⟩ = some (.int .u8 (g i).kd) /\ W.cell? ⟨cb,co + i * 6 + 1,none⟩ = some (.bool (g i).b1) /\ W.cell? ⟨cb,co + i * 6 + 2,none⟩ = some (g i).s1 /\ W.cell? ⟨cb,co + i * 6 + 3,none⟩ = some (.bool (g i).b2) ∧
   W.cell? ⟨cb,co + i * 6 + 4,none⟩ = some (g i).s2 /\ W.cell? ⟨cb,co + i * 6 + 5,none⟩ = some (.int .i64 (g i).i):=fun W hb => by
  have hbl : cb < w.heap.size:=by omega
  exact ⟨(hb.cell (p:=⟨cb,_,none⟩) hbl).trans hcells.1,(hb.cell (p:=⟨cb,_,none⟩) hbl).trans hcells.2.1,(hb.cell (p:=⟨cb,_,none⟩) hbl).trans hcells.2.2.1,(hb.cell (p:=⟨cb,_,none⟩) hbl).trans hcells.2.2.2.1,(hb.cell (p:=⟨cb,_,none⟩) hbl).trans hcells.2.2.2.2.1,(hb.cell (p:=⟨cb,_,none⟩) hbl).trans hcells.2.2.2.2.2⟩
 have HCC:=Lib.hid hcc
 clear hr hci hnl hcmp hgx hgi hg hc hcells hcc hok hok1 hkd ho hv hvo hvo1 hvk
 obtain ⟨y,hy⟩ : ∃ y,g i = y:=⟨_,rfl⟩
 simp only [hy] at HH HCC
 clear hy
 obtain ⟨kx,m1,x1,m2,x2,xi⟩:=x
 obtain ⟨ky,n1,y1,n2,y2,yi⟩:=y
 go_enter Tryz.func137,Tryz.ntmps137
 go_upto_region 1 with fail
 refine region_plain (fun W' => Below w.heap.size w W') [] (by kernel_rfl) ?_
 have qS : (fun W' => Below w.heap.size w W') w.drew:=below_quiet (Below.refl _ _)
 refine wpAnyD_tk (i:=0) (v:=.pointer (some ⟨sb,so,none⟩)) rfl (.inl ⟨by kernel_rfl,fun W' hS => by have d0:=(q1.below hS q1.lt).at (i:=0) rfl; go_simp⟩) qS ?_
 refine wpAnyD_tp (i:=1) (v:=.pointer (some ⟨sb,so,none⟩)) rfl qS ?_
 refine wpAnyD_tp (i:=2) (v:=.pointer (some ⟨sb,so + 10,none⟩)) rfl qS ?_
 refine wpAnyD_tk (i:=3) (v:=.slice (some ⟨cb,co,none⟩) n cap) rfl (.inl ⟨by kernel_rfl,fun W' hS => by have d:=(hS.cell (p:=⟨sb,so + 10,none⟩) hsb).trans hs; go_simp⟩) qS ?_
 refine wpAnyD_tp (i:=4) (v:=.int .i64 i) rfl qS ?_
 refine wpAnyD_tp (i:=5) (v:=.pointer (some ⟨cb,co + i * 6,none⟩)) rfl qS ?_
 refine wpAnyD_tk (i:=6) (v:=.agg #[.int .u8 ky,.bool n1,y1,.bool n2,y2,.int .i64 yi]) rfl (.inl ⟨by kernel_rfl,fun W' hS => by obtain ⟨d0,d1,d2,d3,d4,d5⟩:=HCC.out W' hS; go_simp⟩) qS ?_
 refine wpAnyD_tk (i:=7) (v:=.agg #[.int .u8 kx,.bool m1,x1,.bool m2,x2,.int .i64 xi]) rfl (.inl ⟨by kernel_rfl,fun W' hS => by have d0:=(q2.below hS q2.lt).at (i:=0) rfl; have d1:=(q2.below hS q2.lt).at (i:=1) rfl; have d2:=(q2.below hS q2.lt).at (i:=2) rfl; have d3:=(q2.below hS q2.lt).at (i:=3) rfl; have d4:=(q2.below hS q2.lt).at (i:=4) rfl; have d5:=(q2.below hS q2.lt).at (i:=5) rfl; go_simp⟩) qS ?_
 refine wpAnyD_one (i:=8) (by kernel_rfl) rfl (by kernel_rfl) ?_
 go_simp
 refine (HH.out _ qS).mono ?_
 rintro e w3 ⟨rfl,hb3⟩
 have qS3 : Below w.heap.size w w3:=qS.trans (hb3.mono qS.size)
 go_simp
 refine wpAnyD_tp (i:=9) (v:=.bool r) rfl qS3 ?_
 refine wpAnyD_one (i:=10) (by kernel_rfl) rfl (by kernel_rfl) ?_
 go_simp
 refine wpAnyD_done (by kernel_rfl) ?_ _
 go_wp2_with fail
 go_ret
 exact ⟨rfl,qS3⟩
theorem vbot_nonneg (v : Vq) : 0 <= v.bot:=by unfold Vq.bot; split <;> omega
theorem vbot_pos {v : Vq} (h : v.ok = true) : 0 < v.bot:=by
 unfold Vq.bot
 cases hf : v.fr with
 | false => simp
 | true =>
  simp only [if_true]
  unfold Vq.ok frOk at h
  rw [hf] at h
  simp only [if_true,Bool.and_eq_true,decide_eq_true_eq,beq_iff_eq,bne_iff_ne,ne_eq,Bool.not_eq_true'] at h
  obtain ⟨h0,⟨⟨⟨⟨⟨h1,h2⟩,h3⟩,h4⟩,h5⟩,h6⟩,h7⟩:=h
  have hl : lval v.l2 ≠ 0:=by
   unfold wOk at h4
   rw [if_neg h6] at h4
   simp only [Bool.and_eq_true,bne_iff_ne,ne_eq] at h4
   have : ∀ l : List Nat,l.length ≠ 0 -> l[l.length - 1]?.getD 0 ≠ 0 -> lval l ≠ 0:=by
    intro l
    induction l with
    | nil => intro h; exact absurd rfl h
    | cons d r ih =>
     intro _ hl
     unfold lval
     cases r with
     | nil => simp at hl; omega
     | cons d' r' =>
      have hi:=ih (by simp) (by simpa using hl)
      omega
   exact this _ h6 h4.2
  omega
theorem vle_vlt {v a b : Vq} (ha : a.ok = true) (h1 : vle v a = true) (h2 : vlt a b) : vle v b = true:=by
 unfold vle vlt at *
 rw [decide_eq_true_eq] at *
 have pa:=vbot_pos ha
 have nb:=vbot_nonneg b
 have nv:=vbot_nonneg v
 have e1:=Int.mul_le_mul_of_nonneg_right h1 nb
 have e2:=Int.mul_le_mul_of_nonneg_right (Int.le_of_lt h2) nv
 refine Int.le_of_mul_le_mul_right (a:=a.bot) ?_ pa
 calc v.top * b.bot * a.bot = v.top * a.bot * b.bot:=by rw [Int.mul_assoc,Int.mul_comm b.bot,<- Int.mul_assoc]
  _ <= a.top * v.bot * b.bot:=e1
  _ = a.top * b.bot * v.bot:=by rw [Int.mul_assoc,Int.mul_comm v.bot,<- Int.mul_assoc]
  _ <= b.top * a.bot * v.bot:=e2
  _ = b.top * v.bot * a.bot:=by rw [Int.mul_assoc,Int.mul_comm a.bot,<- Int.mul_assoc]
def atLeast (l : List Vq) (v : Vq) (i : Nat) : Bool:=if i < l.length then vle v (l[i]?.getD v0) else true
theorem atLeast_mono {kd : Int} {l : List Vq} (h : CutsOk kd l) (v : Vq) (i j : Nat) (hij : i <= j) (hi : atLeast l v i = true) : atLeast l v j = true:=by
 unfold atLeast at *
 by_cases hj : j < l.length
 ·rw [if_pos hj]
  rw [if_pos (by omega)] at hi
  by_cases he : i = j
  ·subst he; exact hi
  ·have := List.pairwise_iff_getElem.1 h.inc i j (by omega) hj (by omega)
   have hok:=(h.at (show i < l.length by omega)).2.1
   rw [List.getElem?_eq_getElem (show i < l.length by omega),Option.getD_some] at hi hok
   rw [List.getElem?_eq_getElem hj,Option.getD_some]
   exact vle_vlt hok hi this
 ·rw [if_neg hj]
theorem srch_is {l : List Vq} {v : Vq} {r : Nat} (h1 : r <= l.length) (h2 : ∀ i,i < r -> atLeast l v i = false) (h3 : ∀ i,r <= i -> i < l.length -> atLeast l v i = true) : srch l v = r:=by
 unfold srch
 by_cases hr : r < l.length
 ·rw [List.findIdx_eq hr]
  constructor
  ·have := h3 r (Nat.le_refl _) hr
   unfold atLeast at this
   rw [if_pos hr,List.getElem?_eq_getElem hr,Option.getD_some] at this
   exact this
  ·intro j hj
   have := h2 j hj
   unfold atLeast at this
   rw [if_pos (by omega),List.getElem?_eq_getElem (by omega),Option.getD_some] at this
   exact this
 ·obtain rfl : r = l.length:=by omega
  rw [List.findIdx_eq_length]
  intro x hx
  obtain ⟨j,hj,rfl⟩:=List.mem_iff_getElem.1 hx
  have := h2 j hj
  unfold atLeast at this
  rw [if_pos hj,List.getElem?_eq_getElem hj,Option.getD_some] at this
  exact this
theorem srch_le (l : List Vq) (v : Vq) : srch l v <= l.length:=List.findIdx_le_length
theorem gsearch_any (K sb so : Nat) (cv : Value) (l : List Vq) (kd : Int) (v : Vq) (x : Vv) (w : World) (hl : CutsX K w cv l) (hv : VlX K w v x) (ho : CutsOk kd l) (hvo : v.good = true) (hvo1 : v.ok = true) (hvk : v.kd = kd) (hK : K <= w.heap.size)
  (hs : w.cell? ⟨sb,so + 10,none⟩ = some cv) (hsb : sb < w.heap.size) (hbig : l.length <= 2 ^ 38) :
  Calls Tryz.prog 80 #[.pointer (some ⟨sb,so,none⟩),x.agg] w fun e w' => e = .returned (.tuple #[.int .i64 (srch l v),.bool (fnd l v)]) /\ Below w.heap.size w w':=by
 obtain ⟨x1,hx1⟩ : ∃ y : Vv,y = x:=⟨_,rfl⟩
 obtain ⟨W1,hW1⟩ : ∃ W1,(w.alloc (.cells #[.pointer (some ⟨sb,so,none⟩)] 181)).alloc (.cells x.cells 47) = W1:=⟨_,rfl⟩
 have b1 : Below w.heap.size w W1:=by rw [<- hW1]; exact ((Below.refl _ _).alloc (Nat.le_refl _) _).alloc (by simp) _
 have q1 : Blk W1 w.heap.size #[.pointer (some ⟨sb,so,none⟩)] 181:=by rw [<- hW1]; exact (Blk.new w _ _).alloc _
 have q2 : Blk W1 (w.heap.size + 1) x.cells 47:=by
  rw [<- hW1]
  have := Blk.new (w.alloc (.cells #[.pointer (some ⟨sb,so,none⟩)] 181)) x.cells 47
  rwa [World.size_alloc] at this
 have s1 : W1.heap.size = w.heap.size + 2:=by rw [<- hW1]; simp
 obtain ⟨B,hB⟩ : ∃ B,w.heap.size = B:=⟨_,rfl⟩
 rw [hB] at hK b1 q1 q2 s1 hsb ⊢
 have hl1:=hl.below b1 hK hK
 have hv1:=hv.below b1 hK hK
 have hs1 : W1.cell? ⟨sb,so + 10,none⟩ = some cv:=(b1.cell (p:=⟨sb,so + 10,none⟩) hsb).trans hs
 have hF : ∀ i : Nat,i < l.length -> ∀ W,Below W1.heap.size W1 W -> Calls Tryz.prog 137 #[.int .i64 i,.pointer (some ⟨B,0,none⟩),.pointer (some ⟨B + 1,0,none⟩)] W fun e w' => e = .returned (.bool (atLeast l v i)) /\ Below W.heap.size W w':=fun i hi W hb => by
  have hWs:=hb.size
  have := searchF_any B B (B + 1) sb so cv l kd v x i W (hl1.below hb (by omega) (Nat.le_refl _)) (hv1.below hb (by omega) (Nat.le_refl _)) ho hvo hvo1 hvk (by omega) (q1.below hb q1.lt) (q2.below hb q2.lt) ((hb.cell (p:=⟨sb,so + 10,none⟩) (by simp; omega)).trans hs1) (by omega) hi
  unfold atLeast
  rw [if_pos hi]
  exact this
 have hss:=ssearch_any l.length (atLeast l v) _ _ W1 hbig (atLeast_mono ho v) hF
 obtain ⟨a,cap,rfl,hn,hm⟩:=hl.form
 have HB:=Lib.hid hB
 have HW:=Lib.hid hW1
 have HBIG:=Lib.hid hbig
 obtain ⟨n,hnl⟩ : ∃ n,l.length = n:=⟨_,rfl⟩
 have HN:=Lib.hid hnl
 rw [hnl] at hss hs1 hn
 clear hB hW1 hF hbig hnl hs
 obtain ⟨c1⟩:=(show W1.cell? ⟨B,0,none⟩ = some (.pointer (some ⟨sb,so,none⟩)) /\ True from ⟨q1.one.1,trivial⟩)
 have HL:=Lib.hid hl1
 have HV:=Lib.hid hv1
 clear hl hv hl1 hv1
 unfold maxLen at hm
 go_enter Tryz.func80,Tryz.ntmps80
 go_upto_region 1 with fail
 simp only [HB.out]
 rw [HW.out]
 go_wp2_with fail
 refine hss.mono ?_
 rintro e w2 ⟨r,rfl,hr1,hr2,hr3,hb2⟩
 clear hss c1
 have hs0:=hs1
 clear hs1
 have hr : Hid (srch l v = r):=Lib.hid (srch_is (by rw [HN.out]; exact hr1) hr2 (fun i h1 h2 => hr3 i h1 (by rw [HN.out] at h2; exact h2)))
 clear hr2 hr3
 have b2 : Below B w w2:=b1.trans (hb2.mono (by omega))
 have hs2:=hb2.size
 have q1:=q1.below hb2 q1.lt
 have q2:=q2.below hb2 q2.lt
 have hs1 : w2.cell? ⟨sb,so + 10,none⟩ = some (.slice a n cap):=(hb2.cell (p:=⟨sb,so + 10,none⟩) (by simp; omega)).trans hs0
 clear hs0
 by_cases hrn : r < n
 ·have hL:=HL.out
  have hV:=HV.out
  obtain ⟨hok,hok1,hkd⟩:=ho.at (show r < l.length by rw [HN.out]; exact hrn)
  obtain ⟨g,hg,hgi⟩:=hL
  obtain ⟨cb,co,cap',he,_,_,hbK,hc⟩:=hg.pos (by rw [HN.out]; omega)
  rw [HN.out] at he hc hgi
  simp only [Value.slice.injEq,true_and] at he
  obtain ⟨rfl,rfl⟩:=he
  have hgx:=hgi r hrn
  have hcells:=val_cells hc hrn
  have hcmp : ∀ W,Below w2.heap.size w2 W -> Calls Tryz.prog 126 #[(g r).agg,x.agg] W fun e w' => e = .returned (.int .i64 (vcmp (l[r]?.getD v0) v)) /\ Below W.heap.size W w':=fun W hb => by
   have hbb : Below W1.heap.size W1 W:=hb2.trans (hb.mono hs2)
   have := hbb.size
   exact gcompare_any W.heap.size _ v _ x W (hgx.below hbb (by omega) (by omega)) (hV.below hbb (by omega) (by omega)) (Nat.le_refl _) hok hvo hok1 hvo1 (by rw [hkd,hvk])
  have hz:=vcmp_zero (l[r]?.getD v0) v
  obtain ⟨f,hf⟩ : ∃ f,fnd l v = f:=⟨_,rfl⟩
  have HF:=Lib.hid hf
  rw [show veq (l[r]?.getD v0) v = f by rw [<- hf]; unfold fnd; rw [hr.out,HN.out]; simp [hrn]] at hz
  obtain ⟨ci,hci⟩ : ∃ ci,vcmp (l[r]?.getD v0) v = ci:=⟨_,rfl⟩
  simp only [hci] at hcmp hz
  have hcc : ∀ W,Below w2.heap.size w2 W -> W.cell? ⟨cb,co + r * 6,none⟩ = some (.int .u8 (g r).kd) /\ W.cell? ⟨cb,co + r * 6 + 1,none⟩ = some (.bool (g r).b1) /\ W.cell? ⟨cb,co + r * 6 + 2,none⟩ = some (g r).s1 /\ W.cell? ⟨cb,co + r * 6 + 3,none⟩ = some (.bool (g r).b2) ∧
    W.cell? ⟨cb,co + r * 6 + 4,none⟩ = some (g r).s2 /\ W.cell? ⟨cb,co + r * 6 + 5,none⟩ = some (.int .i64 (g r).i):=fun W hb => by
   have hbb : Below W1.heap.size W1 W:=hb2.trans (hb.mono hs2)
   have hbl : cb < W1.heap.size:=by omega
   exact ⟨(hbb.cell (p:=⟨cb,_,none⟩) hbl).trans hcells.1,(hbb.cell (p:=⟨cb,_,none⟩) hbl).trans hcells.2.1,(hbb.cell (p:=⟨cb,_,none⟩) hbl).trans hcells.2.2.1,(hbb.cell (p:=⟨cb,_,none⟩) hbl).trans hcells.2.2.2.1,(hbb.cell (p:=⟨cb,_,none⟩) hbl).trans hcells.2.2.2.2.1,(hbb.cell (p:=⟨cb,_,none⟩) hbl).trans hcells.2.2.2.2.2⟩
  have HCC:=Lib.hid hcc
  have HH:=Lib.hid hcmp
  have HO:=Lib.hid ho
  clear hci hf hcmp hgx hgi hg hc hcells hcc hok hok1 hkd ho hV hvo hvo1 hvk
  obtain ⟨y,hy⟩ : ∃ y,g r = y:=⟨_,rfl⟩
  simp only [hy] at HH HCC
  clear hy
  obtain ⟨kx,m1,x1,m2,x2,xi⟩:=x
  obtain ⟨ky,n1,y1,n2,y2,yi⟩:=y
  have c1:=q1.one.1
  go_upto_region 2 with fail
  clear c1
  refine region_plain (fun W' => Below w2.heap.size w2 W') [] (by kernel_rfl) ?_
  have qS : (fun W' => Below w2.heap.size w2 W') w2.drew:=below_quiet (Below.refl _ _)
  refine wpAnyD_tp (i:=0) (v:=.int .i64 r) rfl qS ?_
  refine wpAnyD_tp (i:=1) (v:=.int .i64 r) rfl qS ?_
  refine wpAnyD_tk (i:=2) (v:=.pointer (some ⟨sb,so,none⟩)) rfl (.inl ⟨by kernel_rfl,fun W' hS => by have d0:=(q1.below hS q1.lt).at (i:=0) rfl; go_simp⟩) qS ?_
  refine wpAnyD_tp (i:=3) (v:=.pointer (some ⟨sb,so,none⟩)) rfl qS ?_
  refine wpAnyD_tp (i:=4) (v:=.pointer (some ⟨sb,so + 10,none⟩)) rfl qS ?_
  refine wpAnyD_tk (i:=5) (v:=.slice (some ⟨cb,co,none⟩) n cap) rfl (.inl ⟨by kernel_rfl,fun W' hS => by have d:=(hS.cell (p:=⟨sb,so + 10,none⟩) (by simp; omega)).trans hs1; go_simp⟩) qS ?_
  refine wpAnyD_tp (i:=6) (v:=.int .i64 n) rfl qS ?_
  refine wpAnyD_tp (i:=7) (v:=.bool true) rfl qS ?_
  refine wpAnyD_tp (i:=8) (v:=.bool true) rfl qS ?_
  refine wpAnyD_tk (i:=9) (v:=.pointer (some ⟨sb,so,none⟩)) rfl (.inl ⟨by kernel_rfl,fun W' hS => by have d0:=(q1.below hS q1.lt).at (i:=0) rfl; go_simp⟩) qS ?_
  refine wpAnyD_tp (i:=10) (v:=.pointer (some ⟨sb,so,none⟩)) rfl qS ?_
  refine wpAnyD_tp (i:=11) (v:=.pointer (some ⟨sb,so + 10,none⟩)) rfl qS ?_
  refine wpAnyD_tk (i:=12) (v:=.slice (some ⟨cb,co,none⟩) n cap) rfl (.inl ⟨by kernel_rfl,fun W' hS => by have d:=(hS.cell (p:=⟨sb,so + 10,none⟩) (by simp; omega)).trans hs1; go_simp⟩) qS ?_
  refine wpAnyD_tp (i:=13) (v:=.int .i64 r) rfl qS ?_
  refine wpAnyD_tp (i:=14) (v:=.pointer (some ⟨cb,co + r * 6,none⟩)) rfl qS ?_
  refine wpAnyD_tk (i:=15) (v:=.agg #[.int .u8 ky,.bool n1,y1,.bool n2,y2,.int .i64 yi]) rfl (.inl ⟨by kernel_rfl,fun W' hS => by obtain ⟨d0,d1,d2,d3,d4,d5⟩:=HCC.out W' hS; go_simp⟩) qS ?_
  refine wpAnyD_tk (i:=16) (v:=.agg #[.int .u8 kx,.bool m1,x1,.bool m2,x2,.int .i64 xi]) rfl (.inl ⟨by kernel_rfl,fun W' hS => by have d0:=(q2.below hS q2.lt).at (i:=0) rfl; have d1:=(q2.below hS q2.lt).at (i:=1) rfl; have d2:=(q2.below hS q2.lt).at (i:=2) rfl; have d3:=(q2.below hS q2.lt).at (i:=3) rfl; have d4:=(q2.below hS q2.lt).at (i:=4) rfl; have d5:=(q2.below hS q2.lt).at (i:=5) rfl; go_simp⟩) qS ?_
  refine wpAnyD_one (i:=17) (by kernel_rfl) rfl (by kernel_rfl) ?_
  go_simp
  refine (HH.out _ qS).mono ?_
  rintro e w3 ⟨rfl,hb3⟩
  have qS3 : Below w2.heap.size w2 w3:=qS.trans (hb3.mono qS.size)
  go_simp
  refine wpAnyD_tp (i:=18) (v:=.bool f) rfl qS3 ?_
  refine wpAnyD_tp (i:=19) (v:=.bool f) rfl qS3 ?_
  refine wpAnyD_one (i:=20) (by kernel_rfl) rfl (by kernel_rfl) ?_
  go_simp
  refine wpAnyD_one (i:=21) (by kernel_rfl) rfl (by kernel_rfl) ?_
  go_simp
  refine wpAnyD_done (by kernel_rfl) ?_ _
  go_wp2_with fail
  go_ret2
  exact ⟨by rw [hr.out,HF.out]; rfl,b2.trans (qS3.mono (by omega))⟩
 ·have hfn : Hid (fnd l v = false):=Lib.hid (by unfold fnd; rw [hr.out,HN.out]; simp [hrn])
  obtain rfl : r = n:=by omega
  have c1:=q1.one.1
  have hlf : decide ((r : Int) < (r : Int)) = false:=by simp
  go_upto_region 2 with fail
  go_quiet (fail)
  go_wp2_with fail
  go_ret2
  exact ⟨by rw [hr.out,hfn.out]; rfl,below_drewN2 b2 _⟩
end Go.Proofs.YtlidpghnlloinaaGreatDoor
