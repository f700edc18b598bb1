/- Contracts and plain laws, several texts in one (GIns4, GOwn). No conditions beyond those stated. -/
import Derived.Test.YtlldjmagbjjeoaaGreatPk26
set_option maxRecDepth 100000
set_option maxHeartbeats 40000000
namespace Go.Proofs.YtlldjmagbjjeoaaGreat
open Go.RowKit
set_option linter.unusedVariables false
def InsPost (base sb so : Nat) (cv : Value) (l : List Vq) (v : Vq) (rs : List (List Value)) (w : World) (e : Ending) (w' : World) : Prop :=
 (insC l v = none /\ e = .returned (.bool false) /\ Below w.heap.size w w') \/ (fnd l v = true /\ e = .returned (.bool true) /\ Below w.heap.size w w') ∨
 (fnd l v = false /\ l.length ≠ 32 /\ e = .returned (.bool true) /\ ∃ (z : Vv) (cv' : Value) (W5 : World) (g hi : Nat),w' = W5.setCell ⟨sb,so + 10,none⟩ cv' /\ OwnR 6 28 base W5 cv' (insR rs (srch l v) z.cells.toList) /\ w.grownBy W5 cv.ownBlock ∧
  Zed (Btw w.heap.size hi) W5 (fun K W => VlX K W v z) /\ w.heap.size <= hi /\ hi <= W5.heap.size /\ cv'.ownBlock = some g /\ (cv.ownBlock = some g \/ hi <= g))
theorem ginsert_any (K base sb so : Nat) (cv : Value) (l : List Vq) (kd : Int) (v : Vq) (x : Vv) (rs : List (List Value)) (w : World) (hl : CutsX K w cv l) (hown : OwnR 6 28 base w cv rs) (hrl : rs.length = l.length) (hv : VlX K w v x)
  (hvo : v.good = true) (hvo1 : v.ok = true) (hvk : v.kd = kd) (ho : CutsOk kd l) (hlen : l.length <= 32) (hK : K <= w.heap.size) (hbase : base <= w.heap.size) (hs : w.cell? ⟨sb,so + 10,none⟩ = some cv) (hfz : w.frozen? ⟨sb,so + 10,none⟩ = false) (hne : cv.ownBlock ≠ some sb) :
  Calls Tryz.prog 37 #[.pointer (some ⟨sb,so,none⟩),x.agg] w (InsPost base sb so cv l v rs w):=by
 have hsb : sb < w.heap.size:=block_lt_of_cell hs
 have bW : Below w.heap.size w (w.alloc (.cells x.cells 28)):=(Below.refl _ _).alloc (Nat.le_refl _) _
 have qW : Blk (w.alloc (.cells x.cells 28)) w.heap.size x.cells 28:=Blk.new w _ _
 have hsr:=gsearch_any w.heap.size sb so cv l kd v x (w.alloc (.cells x.cells 28)) (hl.below bW hK hK) (hv.below bW hK hK) ho hvo hvo1 hvk (by simp) ((bW.cell (p:=⟨sb,so + 10,none⟩) hsb).trans hs) (by simp; omega) (by omega)
 have HS:=Lib.hid hs
 have HF:=Lib.hid hfz
 have HV:=Lib.hid hv
 have HOWN:=Lib.hid hown
 have HRL:=Lib.hid hrl
 have HNE:=Lib.hid hne
 have HG:=Lib.hid hvo
 have HBW:=Lib.hid bW
 have HQW:=Lib.hid qW
 obtain ⟨ca,cn,hcv,_⟩:=hl.form
 have HSL:=Lib.hid (srch_le l v)
 have HINS : Hid (insC l v = if fnd l v then some l else if l.length = 32 then none else some (l.take (srch l v) ++ v :: l.drop (srch l v))):=Lib.hid rfl
 have HP : Hid (∀ e w',((insC l v = none /\ e = .returned (.bool false) /\ Below w.heap.size w w') \/ (fnd l v = true /\ e = .returned (.bool true) /\ Below w.heap.size w w') ∨
  (fnd l v = false /\ l.length ≠ 32 /\ e = .returned (.bool true) /\ ∃ (z : Vv) (cv' : Value) (W5 : World) (g hi : Nat),w' = W5.setCell ⟨sb,so + 10,none⟩ cv' /\ OwnR 6 28 base W5 cv' (insR rs (srch l v) z.cells.toList) /\ w.grownBy W5 cv.ownBlock ∧
  Zed (Btw w.heap.size hi) W5 (fun K W => VlX K W v z) /\ w.heap.size <= hi /\ hi <= W5.heap.size /\ cv'.ownBlock = some g /\ (cv.ownBlock = some g \/ hi <= g))) -> InsPost base sb so cv l v rs w e w'):=Lib.hid fun _ _ h => h
 obtain ⟨f,hf⟩ : ∃ f,fnd l v = f:=⟨_,rfl⟩
 obtain ⟨r,hr⟩ : ∃ r,srch l v = r:=⟨_,rfl⟩
 obtain ⟨n,hn⟩ : ∃ n,l.length = n:=⟨_,rfl⟩
 rw [hf,hr] at hsr
 rw [hf,hr,hn] at HP
 rw [hf,hn] at HINS
 rw [hr,hn] at HSL
 rw [hn] at HRL hlen hcv
 subst hcv
 have hx1 : x.s1.oneCell' = true /\ x.s2.oneCell' = true:=by
  obtain ⟨_,_,h1,_⟩:=hv.n.form
  obtain ⟨_,_,h2,_⟩:=hv.d.form
  rw [h1,h2]; exact ⟨rfl,rfl⟩
 clear hl hown hrl hv hvo hvo1 hvk ho hs hfz hne bW qW hf hr hn
 obtain ⟨kx,m1,x1,m2,x2,xi⟩:=x
 dsimp only at hx1
 obtain ⟨hx1,hx2⟩:=hx1
 go_enter Tryz.func37,Tryz.ntmps37
 go_wp2_with fail
 refine hsr.mono ?_
 rintro e w2 ⟨rfl,hb2⟩
 clear hsr
 have b2 : Below w.heap.size w w2:=HBW.out.trans (hb2.mono (by simp))
 have q2:=HQW.out.below hb2 (by simp)
 have c2 : w2.cell? ⟨sb,so + 10,none⟩ = some (.slice ca n cn):=(b2.cell (p:=⟨sb,so + 10,none⟩) hsb).trans HS.out
 cases f with
 | true =>
  go_wp2_with fail
  go_ret
  exact HP.out _ _ (.inr (.inl ⟨by simp,rfl,b2⟩))
 | false =>
  by_cases h32 : n = 32
  ·have hi:=HINS.out
   rw [if_neg (by simp),if_pos h32] at hi
   have HI:=Lib.hid hi
   subst h32
   clear hi
   go_wp2_with fail
   go_ret
   exact HP.out _ _ (.inl ⟨HI.out,rfl,b2⟩)
  ·have h32' : ((n : Int) == 32) = false:=by simp; omega
   have H32:=Lib.hid h32
   have hs2:=b2.size
   have q2lt:=q2.lt
   clear h32
   go_upto_region 6 with fail
   have HC2:=Lib.hid c2
   have HQ2:=Lib.hid q2
   clear c2 q2
   refine region_plain (fun W' => W'.cell? ⟨sb,so + 10,none⟩ = some (.slice ca n cn) /\ Blk W' w.heap.size #[.int .u8 kx,.bool m1,x1,.bool m2,x2,.int .i64 xi] 28) [12] (by kernel_rfl) ?_
   have qS : (fun W' : World => W'.cell? ⟨sb,so + 10,none⟩ = some (.slice ca n cn) /\ Blk W' w.heap.size #[.int .u8 kx,.bool m1,x1,.bool m2,x2,.int .i64 xi] 28) w2.drew:=⟨HC2.out,HQ2.out⟩
   refine wpAnyD_takeC [12,11,10] (i:=0) (v:=.pointer (some ⟨sb,so,none⟩)) rfl (by kernel_rfl) (by kernel_rfl) (by kernel_rfl) (by kernel_rfl) (by kernel_rfl) (by kernel_rfl) (fun _ _ _ h => h) (.inl ⟨by kernel_rfl,fun W' hS => by go_simp⟩) qS ?_
   refine wpAnyD_takeC [12,9,4,3,2] (i:=1) (v:=.pointer (some ⟨sb,so,none⟩)) rfl (by kernel_rfl) (by kernel_rfl) (by kernel_rfl) (by kernel_rfl) (by kernel_rfl) (by kernel_rfl) (fun _ _ _ h => h) (.inl ⟨by kernel_rfl,fun W' hS => by go_simp⟩) qS ?_
   refine wpAnyD_takeC [12,9,4,3] (i:=2) (v:=.pointer (some ⟨sb,so,none⟩)) rfl (by kernel_rfl) (by kernel_rfl) (by kernel_rfl) (by kernel_rfl) (by kernel_rfl) (by kernel_rfl) (fun _ _ _ h => h) (.inl ⟨by kernel_rfl,fun W' hS => by go_simp⟩) qS ?_
   refine wpAnyD_takeC [12,9,4] (i:=3) (v:=.pointer (some ⟨sb,so + 10,none⟩)) rfl (by kernel_rfl) (by kernel_rfl) (by kernel_rfl) (by kernel_rfl) (by kernel_rfl) (by kernel_rfl) (fun _ _ _ h => h) (.inl ⟨by kernel_rfl,fun W' hS => by go_simp⟩) qS ?_
   refine wpAnyD_takeC [12,9] (i:=4) (v:=.slice ca n cn) rfl (by kernel_rfl) (by kernel_rfl) (by kernel_rfl) (by kernel_rfl) (by kernel_rfl) (by kernel_rfl) (fun _ _ _ h => h) (.inl ⟨by kernel_rfl,fun W' hS => by have d:=hS.1; go_simp⟩) qS ?_
   refine wpAnyD_takeC [12,9] (i:=5) (v:=.int .i64 r) rfl (by kernel_rfl) (by kernel_rfl) (by kernel_rfl) (by kernel_rfl) (by kernel_rfl) (by kernel_rfl) (fun _ _ _ h => h) (.inl ⟨by kernel_rfl,fun W' hS => by go_simp⟩) qS ?_
   refine wpAnyD_takeC [12,9,8,7] (i:=6) (v:=.agg #[.int .u8 kx,.bool m1,x1,.bool m2,x2,.int .i64 xi]) rfl (by kernel_rfl) (by kernel_rfl) (by kernel_rfl) (by kernel_rfl) (by kernel_rfl) (by kernel_rfl) (fun _ _ _ h => h) (.inl ⟨by kernel_rfl,fun W' hS => by obtain ⟨d0,d1,d2,d3,d4,d5⟩:=hS.2.six; go_simp⟩) qS ?_
   refine wpAnyD_on (i:=7) rfl ?_
   go_simp
   have hcp:=copyValue_any K v ⟨kx,m1,x1,m2,x2,xi⟩ w2.drew (HV.out.below (below_quiet b2) hK (Nat.le_refl _)) HG.out (by show K <= w2.heap.size; omega)
   refine hcp.mono ?_
   rintro en w3 ⟨z,rfl,hz3,hb3⟩
   have b3 : Below w.heap.size w w3:=(below_quiet b2).trans (hb3.mono hs2)
   have qS3 : w3.cell? ⟨sb,so + 10,none⟩ = some (.slice ca n cn) /\ Blk w3 w.heap.size #[.int .u8 kx,.bool m1,x1,.bool m2,x2,.int .i64 xi] 28:=⟨(hb3.cell (p:=⟨sb,so + 10,none⟩) (by show sb < w2.heap.size; omega)).trans qS.1,qS.2.below hb3 q2lt⟩
   have hzg:=hz3.get fun b hb => hb.2
   obtain ⟨za,zc,hz1,_⟩:=hzg.n.form
   obtain ⟨ya,yc,hz2,_⟩:=hzg.d.form
   have h1z : ∀ u ∈ z.cells.toList,u.oneCell' = true:=fun u hu => vl_one z (by rw [hz1]; rfl) (by rw [hz2]; rfl) u (Array.mem_toList_iff.1 hu)
   have HZ3:=Lib.hid hz3
   have H1Z:=Lib.hid h1z
   have HB3:=Lib.hid b3
   have hs3 : w2.heap.size <= w3.heap.size:=hb3.size
   clear hcp hz3 hzg h1z hb3 b3
   obtain ⟨zk,zb1,zs1,zb2,zs2,zi⟩:=z
   dsimp only at hz1 hz2
   subst hz1 hz2
   refine ⟨qS3,?_⟩
   refine wpAnyD_on (i:=8) rfl ?_
   go_simp
   have qS4 : (w3.alloc (.cells (⟨zk,zb1,.slice za v.l1.length zc,zb2,.slice ya v.l2.length yc,zi⟩ : Vv).cells 28)).cell? ⟨sb,so + 10,none⟩ = some (.slice ca n cn):=(Below.cell ((Below.refl w3.heap.size w3).alloc (Nat.le_refl _) _) (p:=⟨sb,so + 10,none⟩) (by show sb < w3.heap.size; omega)).trans qS3.1
   have b4 : Below w.heap.size w (w3.alloc (.cells (⟨zk,zb1,.slice za v.l1.length zc,zb2,.slice ya v.l2.length yc,zi⟩ : Vv).cells 28)):=HB3.out.alloc (by omega) _
   have hci:=insertV_any base r w3.heap.size (.slice ca n cn) rs ⟨zk,zb1,.slice za v.l1.length zc,zb2,.slice ya v.l2.length yc,zi⟩ (w3.alloc (.cells (⟨zk,zb1,.slice za v.l1.length zc,zb2,.slice ya v.l2.length yc,zi⟩ : Vv).cells 28)) (HOWN.out.old b4 (Nat.le_refl _)) (by rw [HRL.out]; exact HSL.out) (by rw [HRL.out]; omega) (by simp; omega) (Blk.new w3 _ _) H1Z.out (fun e => by have := HOWN.out.lt e; omega)
   have HB4:=Lib.hid b4
   clear b4
   refine ⟨⟨qS4,qS3.2.alloc _⟩,?_⟩
   refine wpAnyD_on (i:=9) rfl ?_
   go_simp
   refine hci.mono ?_
   rintro en w5 ⟨v',rfl,hown5,hg5,g,hvg,hat⟩
   clear hci
   have hsz5:=hg5.size
   rw [World.size_alloc] at hsz5
   have hk5 : ∀ b,b < w3.heap.size + 1 -> (Value.slice ca n cn).ownBlock ≠ some b -> w5.heap[b]? = (w3.alloc (.cells (⟨zk,zb1,.slice za v.l1.length zc,zb2,.slice ya v.l2.length yc,zi⟩ : Vv).cells 28)).heap[b]? := fun b hb hne => hg5.block b (by rw [World.size_alloc]; exact hb) (fun e => hne e.symm)
   have c5 : w5.cell? ⟨sb,so + 10,none⟩ = some (.slice ca n cn):=(World.cell?_of_block (hk5 sb (by omega) HNE.out)).trans qS4
   have f5 : w5.frozen? ⟨sb,so + 10,none⟩ = false:=(World.frozen?_of_block (a:=⟨sb,so + 10,none⟩) (hk5 sb (by omega) HNE.out)).trans ((HB4.out.frozen (p:=⟨sb,so + 10,none⟩) hsb).trans HF.out)
   have q5 : Blk w5 w.heap.size #[.int .u8 kx,.bool m1,x1,.bool m2,x2,.int .i64 xi] 28:=(hk5 w.heap.size (by omega) (fun e => by have := HOWN.out.lt e; omega)).trans (qS3.2.alloc _)
   obtain ⟨va,vn,hv5,_⟩:=hown5.form
   rw [insR_length (by rw [HRL.out]; exact HSL.out),HRL.out] at hv5
   subst hv5
   have HO5:=Lib.hid hown5
   have HG5:=Lib.hid hg5
   have HVG:=Lib.hid hvg
   have HAT:=Lib.hid hat
   clear hown5 hg5 hk5 qS4 hvg hat
   refine ⟨⟨c5,q5⟩,?_⟩
   have HQ5:=Lib.hid q5
   have HC5:=Lib.hid c5
   clear q5 c5
   refine wpAnyD_on (i:=10) rfl ?_
   go_simp
   refine ⟨⟨HC5.out,HQ5.out⟩,?_⟩
   refine wpAnyD_on (i:=11) rfl ?_
   go_simp
   refine ⟨⟨HC5.out,HQ5.out⟩,?_⟩
   have c5:=HC5.out
   refine wpAnyD_on (i:=12) rfl ?_
   go_simp
   refine wpAnyD_done (by kernel_rfl) ?_ _
   clear c5 f5
   go_wp2_with fail
   go_ret
   have hlz : ∀ q,(Value.slice ca n cn).ownBlock = some q -> q < w.heap.size:=fun q h => HOWN.out.lt h
   refine HP.out _ _ (.inr (.inr ⟨by simp,H32.out,rfl,⟨zk,zb1,.slice za v.l1.length zc,zb2,.slice ya v.l2.length yc,zi⟩,.slice va (n + 1) vn,w5,g,w3.heap.size,rfl,HO5.out,?_,?_,by omega,by omega,HVG.out,?_⟩))
   ·have h1:=HB4.out
    have h2:=HG5.out
    exact ⟨h2.os.trans h1.os,h2.tape.trans h1.tape,h2.output.trans h1.output,Nat.le_trans h1.size h2.size,fun k hk hne => (h2.block k (by have := h1.size; omega) hne).trans (h1.block k hk)⟩
   ·have h1:=(HZ3.out.mono (btw_low (lo':=w.heap.size) (by show w.heap.size <= w2.heap.size; omega))).move (w':=w5) (Agr.of fun b hb => (HG5.out.block b (by rw [World.size_alloc]; have := hb.2; omega) (fun e => by have := hlz b e.symm; have := hb.1; omega)).trans (Below.heap_alloc _ _ _ hb.2))
    exact h1
   ·rcases HAT.out with h | h
    ·exact .inl h
    ·exact .inr (by rw [h,World.size_alloc]; omega)
def sv0 : Sv:=⟨xz,0,⟨none,0,0⟩⟩
def Keeps (base : Nat) (w w' : World) : Prop:=(∀ b o,base <= b -> w.heap[b]? = some o -> o.isCells = true -> w'.heap[b]? = some o) /\ w.heap.size <= w'.heap.size
theorem ownsRow_move {base T c n : Nat} {w w' : World} {v : Value} {xs : List Value} (h : w.ownsRow base T c v n xs) (hk : ∀ g o,v.ownBlock = some g -> w.heap[g]? = some o -> o.isCells = true -> w'.heap[g]? = some o) : w'.ownsRow base T c v n xs:=by
 obtain ⟨h1,h2⟩:=h
 refine ⟨h1,?_⟩
 rcases h2 with h2 | ⟨g,cap,cur,rfl,hb,hg,h3⟩
 ·exact .inl h2
 ·exact .inr ⟨g,cap,cur,rfl,hb,hk g _ rfl hg rfl,h3⟩
theorem OwnR.move {base T c : Nat} {w w' : World} {v : Value} {rs : List (List Value)} (h : OwnR c T base w v rs) (hk : ∀ g o,v.ownBlock = some g -> w.heap[g]? = some o -> o.isCells = true -> w'.heap[g]? = some o) : OwnR c T base w' v rs:=⟨ownsRow_move h.1 hk,h.2⟩
theorem OwnR.moveEq {base T c : Nat} {w w' : World} {v : Value} {rs : List (List Value)} (h : OwnR c T base w v rs) (hk : ∀ g,v.ownBlock = some g -> w'.heap[g]? = w.heap[g]?) : OwnR c T base w' v rs:=h.move fun g o hg ho _ => (hk g hg).trans ho
theorem sv_cell_at (y : Sv) {j : Nat} (hj : j < 11) : (y.cells.toList[j]?).getD undef = y.cell j:=by
 match j,hj with
 | 0,_ => rfl
 | 1,_ => rfl
 | 2,_ => rfl
 | 3,_ => rfl
 | 4,_ => rfl
 | 5,_ => rfl
 | 6,_ => rfl
 | 7,_ => rfl
 | 8,_ => rfl
 | 9,_ => rfl
 | 10,_ => rfl
theorem vv_cell_at (y : Vv) {j : Nat} (hj : j < 6) : (y.cells.toList[j]?).getD undef = y.cell j:=by
 match j,hj with
 | 0,_ => rfl
 | 1,_ => rfl
 | 2,_ => rfl
 | 3,_ => rfl
 | 4,_ => rfl
 | 5,_ => rfl
theorem sv_one (y : Sv) : ∀ u ∈ y.cells.toList,u.oneCell' = true:=by
 intro u hu
 simp at hu
 rcases hu with rfl | rfl | rfl | rfl | rfl | rfl | rfl | rfl | rfl | rfl | rfl <;> rfl
theorem sv_row (y : Sv) : RowsOk 11 [y.cells.toList]:=RowsOk.one rfl (sv_one y)
def CtO (base : Nat) (w : World) (F : Nat -> Prop) (c : Value) (l : List Vq) : Prop :=
 ∃ zs : List Vv,zs.length = l.length /\ OwnR 6 28 base w c (zs.map fun z => z.cells.toList) /\ ∀ j,j < l.length -> Zed F w fun K W => VlX K W (l[j]?.getD v0) (zs[j]?.getD vv0)
structure ScO (base : Nat) (w : World) (v : Value) (l : List Sc) (ys : List Sv) (F : Nat -> Prop) : Prop where
 len : ys.length = l.length
 own : OwnR 11 34 base w v (ys.map fun y => y.cells.toList)
 rng : ∀ b,F b -> base <= b /\ b < w.heap.size
 nv : ∀ b,F b -> v.ownBlock ≠ some b
 nc : ∀ b,F b -> ∀ y ∈ ys,y.c.val.ownBlock ≠ some b
 dat : ∀ i,i < l.length -> Zed F w (fun K W => ExG K W (l[i]?.getD default).e (ys[i]?.getD sv0).x) /\ (ys[i]?.getD sv0).kd = (l[i]?.getD default).kd
 cut : ∀ i,i < l.length -> CtO base w F (ys[i]?.getD sv0).c.val (l[i]?.getD default).cuts
 dis : ∀ i j g,i < l.length -> j < l.length -> (ys[i]?.getD sv0).c.val.ownBlock = some g -> (ys[j]?.getD sv0).c.val.ownBlock = some g -> i = j
def ScOwn (base : Nat) (w : World) (v : Value) (l : List Sc) : Prop:=∃ ys F,ScO base w v l ys F
theorem ScOwn.nil (base : Nat) (w : World) : ScOwn base w (.slice none 0 0) [] :=
 ⟨[],fun _ => False,rfl,OwnR.nil _ _ _ _,fun b h => h.elim,fun b h => h.elim,fun b h => h.elim,fun i h => absurd h (by simp),fun i h => absurd h (by simp),fun i j g h => absurd h (by simp)⟩
section
variable {base : Nat} {w w' : World} {v : Value} {l : List Sc} {ys : List Sv} {F : Nat -> Prop}
theorem CtO.move {c : Value} {cs : List Vq} (h : CtO base w F c cs) (hF : Agr F w w') (hk : ∀ g o,c.ownBlock = some g -> w.heap[g]? = some o -> o.isCells = true -> w'.heap[g]? = some o) : CtO base w' F c cs:=by
 obtain ⟨zs,h1,h2,h3⟩:=h
 exact ⟨zs,h1,h2.move hk,fun j hj => (h3 j hj).move hF⟩
theorem CtO.moveEq {c : Value} {cs : List Vq} (h : CtO base w F c cs) (hF : Agr F w w') (hk : ∀ g,c.ownBlock = some g -> w'.heap[g]? = w.heap[g]?) : CtO base w' F c cs:=h.move hF fun g o hg ho _ => (hk g hg).trans ho
theorem CtO.mono {G : Nat -> Prop} {c : Value} {cs : List Vq} (h : CtO base w F c cs) (hF : ∀ b,F b -> G b) : CtO base w G c cs:=by
 obtain ⟨zs,h1,h2,h3⟩:=h
 exact ⟨zs,h1,h2,fun j hj => (h3 j hj).mono hF⟩
theorem CtO.low {c : Value} {cs : List Vq} (h : CtO base w F c cs) {g : Nat} (hg : c.ownBlock = some g) : base <= g /\ g < w.heap.size:=by
 obtain ⟨zs,h1,h2,h3⟩:=h
 exact ⟨h2.low hg,h2.lt hg⟩
theorem CtO.read {c : Value} {cs : List Vq} (h : CtO base w F c cs) (hF : ∀ b,F b -> b < w.heap.size) : CutsX w.heap.size w c cs:=by
 obtain ⟨zs,h1,h2,h3⟩:=h
 refine ⟨fun i => zs[i]?.getD vv0,?_,fun i hi => (h3 i hi).get hF⟩
 have hr:=h2.rows
 rw [List.length_map,h1] at hr
 refine hr.congr fun i hi j hj => ?_
 have hi' : i < zs.length:=by omega
 have e1 : zs[i]?.getD vv0 = zs[i]:=by rw [List.getElem?_eq_getElem hi']; rfl
 show _ = (zs[i]?.getD vv0).cell j
 rw [e1,List.getElem?_map,List.getElem?_eq_getElem hi']
 exact vv_cell_at _ hj
theorem ScO.move (h : ScO base w v l ys F) (hk : Keeps base w w') : ScO base w' v l ys F:=by
 have hF : Agr F w w':=fun b o hb => hk.1 b o (h.rng b hb).1
 refine ⟨h.len,h.own.move fun g o hg => hk.1 g o (h.own.low hg),fun b hb => ⟨(h.rng b hb).1,Nat.lt_of_lt_of_le (h.rng b hb).2 hk.2⟩,h.nv,h.nc,fun i hi => ⟨(h.dat i hi).1.move hF,(h.dat i hi).2⟩,fun i hi => ?_,h.dis⟩
 exact (h.cut i hi).move hF fun g o hg => hk.1 g o ((h.cut i hi).low hg).1
theorem ScOwn.move (h : ScOwn base w v l) (hk : Keeps base w w') : ScOwn base w' v l:=by
 obtain ⟨ys,F,h⟩:=h; exact ⟨ys,F,h.move hk⟩
theorem ScO.read (h : ScO base w v l ys F) : ScsX w.heap.size w v l:=by
 refine ⟨fun i => ys[i]?.getD sv0,?_,fun i hi => ⟨(h.dat i hi).1.get fun b hb => (h.rng b hb).2,(h.dat i hi).2,(h.cut i hi).read fun b hb => (h.rng b hb).2⟩⟩
 have hr:=h.own.rows
 rw [List.length_map,h.len] at hr
 refine hr.congr fun i hi j hj => ?_
 have hl:=h.len
 have hi' : i < ys.length:=by omega
 have e1 : ys[i]?.getD sv0 = ys[i]:=by rw [List.getElem?_eq_getElem hi']; rfl
 show _ = (ys[i]?.getD sv0).cell j
 rw [e1,List.getElem?_map,List.getElem?_eq_getElem hi']
 exact sv_cell_at _ hj
theorem ScOwn.read (h : ScOwn base w v l) : ScsX w.heap.size w v l:=by obtain ⟨ys,F,h⟩:=h; exact h.read
theorem keeps_grown (h : w.grownBy w' none) : Keeps base w w':=⟨fun b o _ ho _ => (h.block b (Array.getElem?_eq_some_iff.1 ho).1 (by simp)).trans ho,h.size⟩
theorem getD_append_left {α : Type} {a b : List α} {d : α} {i : Nat} (h : i < a.length) : (a ++ b)[i]?.getD d = a[i]?.getD d:=by rw [List.getElem?_append_left h]
theorem getD_append_at {α : Type} {a : List α} {x d : α} : (a ++ [x])[a.length]?.getD d = x:=by simp
theorem ScO.add {W w5 : World} {v' : Value} {e : Gx} {kd : Int} {x : Xv} {lo hi g : Nat} (h : ScO base w v l ys F) (hw : w.grownBy W none) (hz : Zed (Btw lo hi) W fun K W => ExG K W e x) (hlo : w.heap.size <= lo) (hlb : base <= lo) (hhi : hi <= W.heap.size)
  (hg : W.grownBy w5 v.ownBlock) (hown : OwnR 11 34 base w5 v' ((ys.map fun y => y.cells.toList) ++ [(⟨x,kd,⟨none,0,0⟩⟩ : Sv).cells.toList])) (hv' : v'.ownBlock = some g) (hat : v.ownBlock = some g \/ hi <= g) (hgw : v.ownBlock = some g \/ w.heap.size <= g) :
  ScO base w5 v' (l ++ [⟨e,kd,[]⟩]) (ys ++ [⟨x,kd,⟨none,0,0⟩⟩]) (fun b => F b \/ Btw lo hi b):=by
 have hl:=h.len
 have hsz:=hg.size
 have hsw:=hw.size
 have hlt : ∀ r,v.ownBlock = some r -> r < w.heap.size:=fun r hr => h.own.lt hr
 have hFw : Agr F w w5:=Agr.of fun b hb => (hg.block b (by have := (h.rng b hb).2; omega) (fun e => h.nv b hb e.symm)).trans (hw.block b (h.rng b hb).2 (by simp))
 have hBw : Agr (Btw lo hi) W w5:=Agr.of fun b hb => hg.block b (by have := hb.2; omega) (fun e => by have := hlt b e.symm; have := hb.1; omega)
 have hcut : ∀ i,i < l.length -> CtO base w5 F (ys[i]?.getD sv0).c.val (l[i]?.getD default).cuts:=fun i hi => (h.cut i hi).moveEq hFw fun q hq => by
  have hq2:=((h.cut i hi).low hq).2
  refine (hg.block q (by omega) fun e => ?_).trans (hw.block q hq2 (by simp))
  obtain ⟨zs,_,ho,_⟩:=h.cut i hi
  rcases id ho.1.2 with ⟨h0,_⟩ | ⟨g1,c1,cur1,h0,_,hg1,_⟩
  ·rw [h0] at hq; cases hq
  ·rw [h0] at hq
   obtain rfl : g1 = q:=by simpa [Value.ownBlock] using hq
   rcases id h.own.1.2 with ⟨h2,_⟩ | ⟨g2,c2,cur2,h2,_,hg2,_⟩
   ·rw [h2] at e; cases e
   ·rw [h2] at e
    obtain rfl : g1 = g2:=by simpa [Value.ownBlock] using e
    rw [hg1] at hg2
    simp only [Option.some.injEq,Obj.cells.injEq] at hg2
    have := hg2.2.1
    revert this; decide
 have hlr : (ys ++ [(⟨x,kd,⟨none,0,0⟩⟩ : Sv)]).length = (l ++ [(⟨e,kd,[]⟩ : Sc)]).length:=by simp [hl]
 have hgb : ∀ b,F b \/ Btw lo hi b -> b ≠ g:=fun b hb e => by
  subst e
  rcases hb with hb | hb
  ·rcases hgw with hq | hq
   ·exact h.nv _ hb hq
   ·have := (h.rng _ hb).2; omega
  ·rcases hat with hq | hq
   ·have := hlt _ hq; have := hb.1; omega
   ·have := hb.2; omega
 refine ⟨hlr,by rw [List.map_append]; exact hown,fun b hb => ?_,fun b hb e => ?_,fun b hb y hy => ?_,fun i hi => ?_,fun i hi => ?_,fun i j q hi hj h1 h2 => ?_⟩
 ·rcases hb with hb | hb
  ·have := h.rng b hb; omega
  ·have := hb.1; have := hb.2; omega
 ·rw [hv'] at e; exact hgb b hb (by simpa using e.symm)
 ·rcases List.mem_append.1 hy with hy | hy
  ·rcases hb with hb | hb
   ·exact h.nc b hb y hy
   ·intro e
    obtain ⟨k,hk,rfl⟩:=List.mem_iff_getElem.1 hy
    have := ((h.cut k (by omega)).low (g:=b) (by rw [List.getElem?_eq_getElem hk]; exact e)).2
    have := hb.1; omega
  ·rw [List.mem_singleton.1 hy]; simp [Value.ownBlock]
 ·rw [List.length_append,List.length_singleton] at hi
  by_cases hil : i < l.length
  ·rw [getD_append_left hil,getD_append_left (by omega)]
   exact ⟨((h.dat i hil).1.move hFw).mono fun b hb => .inl hb,(h.dat i hil).2⟩
  ·obtain rfl : i = l.length:=by omega
   rw [getD_append_at,<- hl,getD_append_at]
   exact ⟨(hz.move hBw).mono fun b hb => .inr hb,rfl⟩
 ·rw [List.length_append,List.length_singleton] at hi
  by_cases hil : i < l.length
  ·rw [getD_append_left hil,getD_append_left (by omega)]
   exact (hcut i hil).mono fun b hb => .inl hb
  ·obtain rfl : i = l.length:=by omega
   rw [getD_append_at,<- hl,getD_append_at]
   exact ⟨[],rfl,OwnR.nil _ _ _ _,fun j hj => absurd hj (by simp)⟩
 ·rw [List.length_append,List.length_singleton] at hi hj
  by_cases hil : i < l.length
  ·by_cases hjl : j < l.length
   ·rw [getD_append_left (by omega)] at h1 h2
    exact h.dis i j q hil hjl h1 h2
   ·obtain rfl : j = l.length:=by omega
    rw [<- hl,getD_append_at] at h2
    simp [Value.ownBlock] at h2
  ·obtain rfl : i = l.length:=by omega
   rw [<- hl,getD_append_at] at h1
   simp [Value.ownBlock] at h1
theorem flat_set {c : Nat} {rs : List (List Value)} (h : RowsOk c rs) {i j : Nat} {r : List Value} (hi : rs[i]? = some r) (hj : j < c) (u : Value) : (rs.set i (r.set j u)).flatten = rs.flatten.set (i * c + j) u:=by
 induction rs generalizing i with
 | nil => simp at hi
 | cons x t ih =>
  have hx:=(h x (by simp)).1
  cases i with
  | zero =>
   simp only [List.getElem?_cons_zero,Option.some.injEq] at hi
   subst hi
   rw [List.set_cons_zero,List.flatten_cons,List.flatten_cons,Nat.zero_mul,Nat.zero_add,List.set_append,if_pos (by omega)]
  | succ i =>
   rw [List.set_cons_succ,List.flatten_cons,List.flatten_cons,ih (fun y hy => h y (List.mem_cons_of_mem _ hy)) (by simpa using hi),List.set_append,if_neg (by rw [hx,Nat.succ_mul]; omega),hx]
   congr 2; rw [Nat.succ_mul]; omega
theorem OwnR.setAt {c T : Nat} {rs : List (List Value)} {g n cap i j : Nat} {r : List Value} (h : OwnR c T base w (.slice (some ⟨g,0,none⟩) n cap) rs) (hi : rs[i]? = some r) (hj : j < c) {u : Value} (h1 : u.oneCell' = true) :
  OwnR c T base (w.setCell ⟨g,i * c + j,none⟩ u) (.slice (some ⟨g,0,none⟩) n cap) (rs.set i (r.set j u)):=by
 have hil:=(List.getElem?_eq_some_iff.1 hi).1
 have hrm:=h.2 r (List.mem_of_getElem? hi)
 have hok : RowsOk c (rs.set i (r.set j u)):=fun q hq => by
  rcases List.mem_or_eq_of_mem_set hq with hq | rfl
  ·exact h.2 q hq
  ·refine ⟨by rw [List.length_set]; exact hrm.1,fun z hz => ?_⟩
   rcases List.mem_or_eq_of_mem_set hz with hz | rfl
   ·exact hrm.2 z hz
   ·exact h1
 refine ⟨⟨by rw [flat_length hok],?_⟩,hok⟩
 rcases h.1.2 with ⟨h0,_⟩ | ⟨g',cap',cur,h0,hb,hg,hn,hm,hs,ht⟩
 ·cases h0
 ·simp only [Value.slice.injEq,Option.some.injEq,Addr.mk.injEq,and_true] at h0
  obtain ⟨rfl,rfl,rfl⟩:=h0
  refine .inr ⟨g,cap,cur.setIfInBounds (i * c + j) u,by rw [List.length_set],hb,Blk.set hg u,by rw [List.length_set]; exact hn,hm,by simpa using hs,?_⟩
  have hlt : i * c + j < rs.length * c:=by
   have : (i + 1) * c <= rs.length * c:=Nat.mul_le_mul_right _ hil
   rw [Nat.succ_mul] at this; omega
  rw [List.length_set,Array.toList_setIfInBounds,List.take_set,ht,flat_set h.2 hi hj]
theorem map_insR {zs : List Vv} {r : Nat} {z : Vv} : insR (zs.map fun z => z.cells.toList) r z.cells.toList = (zs.take r ++ z :: zs.drop r).map fun z => z.cells.toList:=by
 unfold insR; rw [List.map_append,List.map_cons,List.map_take,List.map_drop]
theorem getD_ins {α : Type} {l : List α} {r j : Nat} {x d : α} (hr : r <= l.length) : (l.take r ++ x :: l.drop r)[j]?.getD d = if j < r then l[j]?.getD d else if j = r then x else l[j - 1]?.getD d:=by
 have ht : (l.take r).length = r:=by rw [List.length_take]; omega
 by_cases h1 : j < r
 ·rw [if_pos h1,List.getElem?_append_left (by omega),List.getElem?_take,if_pos h1]
 ·rw [if_neg h1,List.getElem?_append_right (by omega),ht]
  by_cases h2 : j = r
  ·rw [if_pos h2,h2,Nat.sub_self]; rfl
  ·rw [if_neg h2,show j - r = (j - r - 1) + 1 by omega,List.getElem?_cons_succ,List.getElem?_drop,show r + (j - r - 1) = j - 1 by omega]
theorem getD_set {α : Type} {l : List α} {i j : Nat} {x d : α} (hi : i < l.length) : (l.set i x)[j]?.getD d = if j = i then x else l[j]?.getD d:=by
 rw [List.getElem?_set]
 by_cases h : j = i
 ·rw [if_pos h,if_pos h.symm,if_pos hi]; rfl
 ·rw [if_neg h,if_neg (fun e => h e.symm)]
theorem ScO.ins {W5 : World} {sb n cap i hi g r : Nat} {cv' : Sl} {x : Vq} {z : Vv} {zs : List Vv} (h : ScO base w (.slice (some ⟨sb,0,none⟩) n cap) l ys F) (hil : i < l.length) (hr : r <= (l[i]?.getD default).cuts.length)
  (hzs : zs.length = (l[i]?.getD default).cuts.length) (hzo : OwnR 6 28 base w (ys[i]?.getD sv0).c.val (zs.map fun z => z.cells.toList)) (hzd : ∀ j,j < (l[i]?.getD default).cuts.length -> Zed F w fun K W => VlX K W ((l[i]?.getD default).cuts[j]?.getD v0) (zs[j]?.getD vv0))
  (hown : OwnR 6 28 base W5 cv'.val (insR (zs.map fun z => z.cells.toList) r z.cells.toList)) (hg : w.grownBy W5 (ys[i]?.getD sv0).c.val.ownBlock) (hz : Zed (Btw w.heap.size hi) W5 fun K W => VlX K W x z) (hlo : w.heap.size <= hi) (hhi : hi <= W5.heap.size)
  (hv' : cv'.val.ownBlock = some g) (hat : (ys[i]?.getD sv0).c.val.ownBlock = some g \/ hi <= g) (hbw : base <= w.heap.size) :
  ScO base (W5.setCell ⟨sb,i * 11 + 10,none⟩ cv'.val) (.slice (some ⟨sb,0,none⟩) n cap) (l.set i { (l[i]?.getD default) with cuts:=(l[i]?.getD default).cuts.take r ++ x :: (l[i]?.getD default).cuts.drop r }) (ys.set i { (ys[i]?.getD sv0) with c:=cv' }) (fun b => F b \/ Btw w.heap.size hi b):=by
 have hl:=h.len
 have hyl : i < ys.length:=by omega
 have hsbl : sb < w.heap.size:=h.own.lt rfl
 have hsz : (W5.setCell ⟨sb,i * 11 + 10,none⟩ cv'.val).heap.size = W5.heap.size:=by simp [World.setCell]
 have hold : ∀ b,b < w.heap.size -> (ys[i]?.getD sv0).c.val.ownBlock ≠ some b -> b ≠ sb -> (W5.setCell ⟨sb,i * 11 + 10,none⟩ cv'.val).heap[b]? = w.heap[b]? := fun b hb hne hs => (Below.heap_setCell _ _ _ _ hs).trans (hg.block b hb (fun e => hne e.symm))
 have hym : (ys[i]?.getD sv0) ∈ ys:=by rw [List.getElem?_eq_getElem hyl]; exact List.getElem_mem hyl
 have hFs : ∀ b,F b -> b ≠ sb:=fun b hb e => h.nv b hb (by rw [e]; rfl)
 have hFw : Agr F w (W5.setCell ⟨sb,i * 11 + 10,none⟩ cv'.val):=Agr.of fun b hb => hold b (h.rng b hb).2 (h.nc b hb _ hym) (hFs b hb)
 have hBw : Agr (Btw w.heap.size hi) W5 (W5.setCell ⟨sb,i * 11 + 10,none⟩ cv'.val):=Agr.of fun b hb => Below.heap_setCell _ _ _ _ (by show b ≠ sb; have := hb.1; omega)
 have hne0 : (ys[i]?.getD sv0).c.val.ownBlock ≠ some sb:=rows_apart h.own hzo (by decide) rfl
 have hrow : (ys.map fun y => y.cells.toList)[i]? = some (ys[i]?.getD sv0).cells.toList:=by rw [List.getElem?_map,List.getElem?_eq_getElem hyl]; rfl
 have hset : ((ys.map fun y => y.cells.toList).set i ((ys[i]?.getD sv0).cells.toList.set 10 cv'.val)) = (ys.set i { (ys[i]?.getD sv0) with c:=cv' }).map fun y => y.cells.toList:=by
  rw [List.map_set]; rfl
 have hgn : g ≠ sb:=fun e => by
  rcases hat with hq | hq
  ·exact hne0 (by rw [hq,e])
  ·omega
 have hgF : ∀ b,F b \/ Btw w.heap.size hi b -> b ≠ g:=fun b hb e => by
  subst e
  rcases hat with hq | hq
  ·rcases hb with hb | hb
   ·exact h.nc _ hb _ hym hq
   ·have := ((h.cut i hil).low hq).2; have := hb.1; omega
  ·rcases hb with hb | hb
   ·have := (h.rng _ hb).2; omega
   ·have := hb.2; omega
 have hoth : ∀ k,k < l.length -> k ≠ i -> ∀ q,(ys[k]?.getD sv0).c.val.ownBlock = some q -> q ≠ g /\ (W5.setCell ⟨sb,i * 11 + 10,none⟩ cv'.val).heap[q]? = w.heap[q]? := fun k hk hki q hq => by
  have hq2:=((h.cut k hk).low hq).2
  have hqi : (ys[i]?.getD sv0).c.val.ownBlock ≠ some q:=fun e => hki (h.dis k i q hk hil hq e)
  obtain ⟨zs',_,ho',_⟩:=h.cut k hk
  have hqs : q ≠ sb:=fun e => rows_apart h.own ho' (by decide) rfl (by rw [hq,e])
  refine ⟨fun e => ?_,hold q hq2 hqi hqs⟩
  rcases hat with hx | hx
  ·exact hqi (by rw [hx,e])
  ·omega
 refine ⟨by simp [hl],?_,fun b hb => ?_,fun b hb e => ?_,fun b hb y hy => ?_,fun k hk => ?_,fun k hk => ?_,fun a b q ha hb h1 h2 => ?_⟩
 ·rw [<- hset]
  exact (h.own.moveEq (w':=W5) fun q hq => by
   obtain rfl : sb = q:=by simpa [Value.ownBlock] using hq
   exact hg.block sb hsbl (fun e => hne0 e.symm)).setAt hrow (by decide) rfl
 ·rw [hsz]
  rcases hb with hb | hb
  ·have := h.rng b hb; omega
  ·have := hb.1; have := hb.2; omega
 ·obtain rfl : sb = b:=by simpa [Value.ownBlock] using e
  rcases hb with hb | hb
  ·exact hFs _ hb rfl
  ·have := hb.1; omega
 ·rcases List.mem_or_eq_of_mem_set hy with hy | rfl
  ·rcases hb with hb | hb
   ·exact h.nc b hb y hy
   ·intro e
    obtain ⟨k,hk,rfl⟩:=List.mem_iff_getElem.1 hy
    have := ((h.cut k (by omega)).low (g:=b) (by rw [List.getElem?_eq_getElem hk]; exact e)).2
    have := hb.1; omega
  ·intro e
   have e2 : cv'.val.ownBlock = some b:=e
   rw [hv'] at e2
   exact hgF b hb (by simpa using e2.symm)
 ·rw [List.length_set] at hk
  rw [getD_set hil,getD_set hyl]
  by_cases hki : k = i
  ·rw [if_pos hki,if_pos hki]
   exact ⟨((h.dat i hil).1.move hFw).mono fun b hb => .inl hb,(h.dat i hil).2⟩
  ·rw [if_neg hki,if_neg hki]
   exact ⟨((h.dat k hk).1.move hFw).mono fun b hb => .inl hb,(h.dat k hk).2⟩
 ·rw [List.length_set] at hk
  rw [getD_set hil,getD_set hyl]
  by_cases hki : k = i
  ·rw [if_pos hki,if_pos hki]
   refine ⟨zs.take r ++ z :: zs.drop r,?_,?_,fun j hj => ?_⟩
   ·simp only [List.length_append,List.length_cons,List.length_take,List.length_drop]; omega
   ·rw [map_insR] at hown
    exact hown.moveEq fun q hq => Below.heap_setCell _ _ _ _ (by
     rw [hv'] at hq
     obtain rfl:=Option.some.inj hq
     exact hgn)
   ·simp only at hj ⊢
    rw [getD_ins hr,getD_ins (by omega)]
    simp only [List.length_append,List.length_cons,List.length_take,List.length_drop] at hj
    by_cases h1 : j < r
    ·rw [if_pos h1,if_pos h1]
     exact ((hzd j (by omega)).move hFw).mono fun b hb => .inl hb
    ·rw [if_neg h1,if_neg h1]
     by_cases h2 : j = r
     ·rw [if_pos h2,if_pos h2]
      exact (hz.move hBw).mono fun b hb => .inr hb
     ·rw [if_neg h2,if_neg h2]
      exact ((hzd (j - 1) (by omega)).move hFw).mono fun b hb => .inl hb
  ·rw [if_neg hki,if_neg hki]
   exact ((h.cut k hk).moveEq hFw fun q hq => (hoth k hk hki q hq).2).mono fun b hb => .inl hb
 ·rw [List.length_set] at ha hb
  rw [getD_set hyl] at h1 h2
  by_cases hai : a = i
  ·by_cases hbi : b = i
   ·omega
   ·rw [if_pos hai] at h1
    rw [if_neg hbi] at h2
    have h1' : cv'.val.ownBlock = some q:=h1
    rw [hv'] at h1'
    obtain rfl:=Option.some.inj h1'
    exact absurd rfl (hoth b hb hbi _ h2).1
  ·rw [if_neg hai] at h1
   by_cases hbi : b = i
   ·rw [if_pos hbi] at h2
    have h2' : cv'.val.ownBlock = some q:=h2
    rw [hv'] at h2'
    obtain rfl:=Option.some.inj h2'
    exact absurd rfl (hoth a ha hai _ h1).1
   ·rw [if_neg hbi] at h2
    exact h.dis a b q ha hb h1 h2
end
end Go.Proofs.YtlldjmagbjjeoaaGreat
