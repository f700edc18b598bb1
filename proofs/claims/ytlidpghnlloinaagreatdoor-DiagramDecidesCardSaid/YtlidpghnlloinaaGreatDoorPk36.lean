/- Contracts and plain laws, several texts in one (GlM13, GlM14). No conditions beyond those stated. -/
import Derived.Test.YtlidpghnlloinaaGreatDoorPk24
set_option maxRecDepth 100000
set_option maxHeartbeats 40000000
namespace Go.Proofs.YtlidpghnlloinaaGreatDoor
open Go.RowKit
set_option linter.unusedVariables false
theorem gtrue_tru (K : Nat) (nl : List Nat) (g : Nat -> Vv) (x : Xv) (w : World) (hv : ∀ k,k < 12 -> VlX K w (valsM nl k) (g k)) (hK : K <= w.heap.size)  (hx : ExG K w truG x) :
  Calls Tryz.prog 39 #[x.agg,.agg (cells72 g).toArray] w fun en w' => en = .returned (.bool (trueG (valsM nl) truG)) /\ Below w.heap.size w w':=by
 obtain ⟨⟨xop,xnm,xk,xb3,⟨x4,x4n,x4m⟩,xb5,⟨x6,x6n,x6m⟩,xi7,⟨x8,x8n,x8m⟩⟩,hxx⟩ : ∃ y : Xv,y = x:=⟨x,rfl⟩
 subst hxx
 obtain ⟨arr,harr⟩ : ∃ arr : Array Value,(cells72 g).toArray = arr:=⟨_,rfl⟩
 have HA:=Lib.hid harr
 rw [harr]
 obtain ⟨W1,hW1⟩ : ∃ W1,(w.alloc (.cells (⟨xop,xnm,xk,xb3,⟨x4,x4n,x4m⟩,xb5,⟨x6,x6n,x6m⟩,xi7,⟨x8,x8n,x8m⟩⟩ : Xv).cells 49)).alloc (.cells arr 86) = W1:=⟨_,rfl⟩
 have b1 : Below w.heap.size w W1:=by rw [<- hW1]; exact ((Below.refl _ _).alloc (Nat.le_refl _) _).alloc (by simp) _
 have q1 : Blk W1 w.heap.size (⟨xop,xnm,xk,xb3,⟨x4,x4n,x4m⟩,xb5,⟨x6,x6n,x6m⟩,xi7,⟨x8,x8n,x8m⟩⟩ : Xv).cells 49:=by rw [<- hW1]; exact (Blk.new w _ _).alloc _
 have q2 : Blk W1 (w.heap.size + 1) arr 86:=by
  rw [<- hW1]
  have := Blk.new (w.alloc (.cells (⟨xop,xnm,xk,xb3,⟨x4,x4n,x4m⟩,xb5,⟨x6,x6n,x6m⟩,xi7,⟨x8,x8n,x8m⟩⟩ : Xv).cells 49)) arr 86
  rwa [World.size_alloc] at this
 have s1 : W1.heap.size = w.heap.size + 2:=by rw [<- hW1]; simp
 obtain ⟨B,hB⟩ : ∃ B,w.heap.size = B:=⟨_,rfl⟩
 have HB:=Lib.hid hB
 have HW:=Lib.hid hW1
 rw [hB] at b1 q1 q2 s1 hK ⊢
 dsimp only [Xv.cells] at HW
 have hop : xop = 1:=by have := hx; unfold truG conV at this; rw [ExG] at this; exact this.1
 have hi : xi7 = 1:=by have := hx; unfold truG conV at this; rw [ExG] at this; exact this.2.2.2.1.i
 have hr : trueG (valsM nl) truG = true:=by unfold truG conV; rw [trueG]; rfl
 subst hop hi
 rw [hr]
 obtain ⟨c0,c1,c2,c3,c4,c5,c6,c7,c8⟩:=q1.nine
 clear hx hr
 clear hB hW1 harr
 go_enter Tryz.func39,Tryz.ntmps39
 go_upto_region 1 with fail
 simp only [HB.out]
 rw [HW.out]
 clear HW
 go_wp2_with fail
 go_ret
 exact ⟨rfl,b1⟩
theorem gtrue_sub (K : Nat) (nl : List Nat) (g : Nat -> Vv) (x : Xv) (w : World) (hv : ∀ k,k < 12 -> VlX K w (valsM nl k) (g k)) (hK : K <= w.heap.size) (k : Nat) (hk : k < 12) (hx : ExG K w (subG k) x) :
  Calls Tryz.prog 39 #[x.agg,.agg (cells72 g).toArray] w fun en w' => en = .returned (.bool (trueG (valsM nl) (subG k))) /\ Below w.heap.size w w':=by
 obtain ⟨⟨xop,xnm,xk,xb3,⟨x4,x4n,x4m⟩,xb5,⟨x6,x6n,x6m⟩,xi7,⟨x8,x8n,x8m⟩⟩,hxx⟩ : ∃ y : Xv,y = x:=⟨x,rfl⟩
 subst hxx
 obtain ⟨arr,harr⟩ : ∃ arr : Array Value,(cells72 g).toArray = arr:=⟨_,rfl⟩
 have HA:=Lib.hid harr
 rw [harr]
 obtain ⟨W1,hW1⟩ : ∃ W1,(w.alloc (.cells (⟨xop,xnm,xk,xb3,⟨x4,x4n,x4m⟩,xb5,⟨x6,x6n,x6m⟩,xi7,⟨x8,x8n,x8m⟩⟩ : Xv).cells 49)).alloc (.cells arr 86) = W1:=⟨_,rfl⟩
 have b1 : Below w.heap.size w W1:=by rw [<- hW1]; exact ((Below.refl _ _).alloc (Nat.le_refl _) _).alloc (by simp) _
 have q1 : Blk W1 w.heap.size (⟨xop,xnm,xk,xb3,⟨x4,x4n,x4m⟩,xb5,⟨x6,x6n,x6m⟩,xi7,⟨x8,x8n,x8m⟩⟩ : Xv).cells 49:=by rw [<- hW1]; exact (Blk.new w _ _).alloc _
 have q2 : Blk W1 (w.heap.size + 1) arr 86:=by
  rw [<- hW1]
  have := Blk.new (w.alloc (.cells (⟨xop,xnm,xk,xb3,⟨x4,x4n,x4m⟩,xb5,⟨x6,x6n,x6m⟩,xi7,⟨x8,x8n,x8m⟩⟩ : Xv).cells 49)) arr 86
  rwa [World.size_alloc] at this
 have s1 : W1.heap.size = w.heap.size + 2:=by rw [<- hW1]; simp
 obtain ⟨B,hB⟩ : ∃ B,w.heap.size = B:=⟨_,rfl⟩
 have HB:=Lib.hid hB
 have HW:=Lib.hid hW1
 rw [hB] at b1 q1 q2 s1 hK ⊢
 dsimp only [Xv.cells] at HW
 have hop : xop = 5:=by have := hx; unfold subG at this; rw [ExG] at this; exact this.1
 have hnm : xnm = [115,UInt8.ofNat (48 + k)]:=by have := hx; unfold subG at this; rw [ExG,Nat.mod_eq_of_lt hk] at this; exact this.2.1
 have hr : trueG (valsM nl) (subG k) = ((valsM nl k).i == 1):=by
  unfold subG
  rw [trueG,if_neg (by decide),if_neg (by decide),if_pos rfl]
  show ((valsM nl (nmIx (subG k).nm)).i == 1) = _
  rw [sub_ix,Nat.mod_eq_of_lt hk]
 obtain ⟨bb,hbb⟩ : ∃ bb,UInt8.ofNat (48 + k) = bb:=⟨_,rfl⟩
 have hbi : (bb.toNat : Int) = 48 + (k : Int):=by rw [<- hbb,UInt8.toNat_ofNat']; omega
 rw [hbb] at hnm
 subst hop hnm
 have hvi:=(hv k hk).i
 rw [hr,<- hvi]
 have z5 : W1.cell? ⟨B + 1,k * 6 + 5,none⟩ = some (.int .i64 (g k).i):=q2.at (by rw [<- HA.out,List.getElem?_toArray,cells72_at g hk (by omega)]; rfl)
 have hb2 : (((⟨#[115,bb]⟩ : ByteArray)[1]'(by show 1 < 2; omega)).toNat : Int) = 48 + (k : Int):=hbi
 have hwk : IntKind.u8.wrap (48 + (k : Int) - 48) = k:=by rw [show 48 + (k : Int) - 48 = k by omega]; exact IntWalk.u8_in _ (by omega)
 have hk12 : (k : Int) < 12:=by omega
 obtain ⟨c0,c1,c2,c3,c4,c5,c6,c7,c8⟩:=q1.nine
 clear hx hr hvi hbb
 clear hB hW1 harr
 go_enter Tryz.func39,Tryz.ntmps39
 go_upto_region 1 with fail
 simp only [HB.out]
 rw [HW.out]
 clear HW
 go_wp2_with fail
 go_ret
 exact ⟨rfl,b1⟩
def TrueAt (nl : List Nat) (g : Nat -> Vv) (e : Gx) : Prop:=∀ (K : Nat) (x : Xv) (w : World),(∀ k,k < 12 -> VlX K w (valsM nl k) (g k)) -> K <= w.heap.size -> ExG K w e x →
 Calls Tryz.prog 39 #[x.agg,.agg (cells72 g).toArray] w fun en w' => en = .returned (.bool (trueG (valsM nl) e)) /\ Below w.heap.size w w'
theorem xv_range {g : Nat -> Xv} {w : World} {b o k n : Nat} (hc : ∀ i,i < n -> ∀ j,j < 9 -> w.cell? ⟨b,o + (i * 9 + j),none⟩ = some ((g i).cell j)) (hk : k < n) : w.rangeAt b (o + k * 9) (g k).cells.toList:=by
 intro j v hj
 have hj' : j < 9:=(List.getElem?_eq_some_iff.1 hj).1
 rw [Nat.add_assoc,hc k hk j hj',<- hj]
 have hj7 : j = 0 \/ j = 1 \/ j = 2 \/ j = 3 \/ j = 4 \/ j = 5 \/ j = 6 \/ j = 7 \/ j = 8:=by omega
 rcases hj7 with rfl | rfl | rfl | rfl | rfl | rfl | rfl | rfl | rfl <;> rfl
theorem gtrue_no (K : Nat) (nl : List Nat) (g : Nat -> Vv) (x : Xv) (w : World) (hv : ∀ k,k < 12 -> VlX K w (valsM nl k) (g k)) (hK : K <= w.heap.size) (a : Gx) (ih0 : TrueAt nl g a) (hx : ExG K w (.mk 17 [] v0 [a]) x) :
  Calls Tryz.prog 39 #[x.agg,.agg (cells72 g).toArray] w fun en w' => en = .returned (.bool (trueG (valsM nl) (.mk 17 [] v0 [a]))) /\ Below w.heap.size w w':=by
 obtain ⟨⟨xop,xnm,xk,xb3,⟨x4,x4n,x4m⟩,xb5,⟨x6,x6n,x6m⟩,xi7,⟨x8,x8n,x8m⟩⟩,hxx⟩ : ∃ y : Xv,y = x:=⟨x,rfl⟩
 subst hxx
 obtain ⟨arr,harr⟩ : ∃ arr : Array Value,(cells72 g).toArray = arr:=⟨_,rfl⟩
 have HA:=Lib.hid harr
 rw [harr]
 obtain ⟨W1,hW1⟩ : ∃ W1,(w.alloc (.cells (⟨xop,xnm,xk,xb3,⟨x4,x4n,x4m⟩,xb5,⟨x6,x6n,x6m⟩,xi7,⟨x8,x8n,x8m⟩⟩ : Xv).cells 49)).alloc (.cells arr 86) = W1:=⟨_,rfl⟩
 have b1 : Below w.heap.size w W1:=by rw [<- hW1]; exact ((Below.refl _ _).alloc (Nat.le_refl _) _).alloc (by simp) _
 have q1 : Blk W1 w.heap.size (⟨xop,xnm,xk,xb3,⟨x4,x4n,x4m⟩,xb5,⟨x6,x6n,x6m⟩,xi7,⟨x8,x8n,x8m⟩⟩ : Xv).cells 49:=by rw [<- hW1]; exact (Blk.new w _ _).alloc _
 have q2 : Blk W1 (w.heap.size + 1) arr 86:=by
  rw [<- hW1]
  have := Blk.new (w.alloc (.cells (⟨xop,xnm,xk,xb3,⟨x4,x4n,x4m⟩,xb5,⟨x6,x6n,x6m⟩,xi7,⟨x8,x8n,x8m⟩⟩ : Xv).cells 49)) arr 86
  rwa [World.size_alloc] at this
 have s1 : W1.heap.size = w.heap.size + 2:=by rw [<- hW1]; simp
 obtain ⟨B,hB⟩ : ∃ B,w.heap.size = B:=⟨_,rfl⟩
 have HB:=Lib.hid hB
 have HW:=Lib.hid hW1
 rw [hB] at b1 q1 q2 s1 hK ⊢
 dsimp only [Xv.cells] at HW
 obtain ⟨hop,_,_,_,gx,hgx,hgs⟩:=hx.open
 have hop' : xop = 17:=hop
 obtain ⟨ab,ao,acap,hse,_,_,hab,hac⟩:=hgx.pos (by show 0 < 1; omega)
 have hse' : Value.slice x8 x8n x8m = .slice (some ⟨ab,ao,none⟩) 1 acap:=hse
 simp only [Value.slice.injEq] at hse'
 obtain ⟨rfl,rfl,rfl⟩:=hse'
 subst hop'
 clear hse
 have hac' : ∀ i,i < 1 -> ∀ j,j < 9 -> w.cell? ⟨ab,ao + (i * 9 + j),none⟩ = some ((gx i).cell j):=hac
 have hx0 : ExG K w a (gx 0):=hgs 0 a rfl
 obtain ⟨t0,ht0⟩ : ∃ t,trueG (valsM nl) a = t:=⟨_,rfl⟩
 have hi2 : (Tryz.prog.info? 86).map (fun i => i.size) = some arr.toList.length:=by rw [infoV12,<- harr]; simp [cells72_len]
 have HC8 : Hid (∀ W',Below W1.heap.size W1 W' -> W'.cell? ⟨B,8,none⟩ = some (.slice (some ⟨ab,ao,none⟩) 1 x8m)):=Lib.hid fun W' h => (q1.below h q1.lt).at rfl
 have HRA : Hid (∀ W',Below W1.heap.size W1 W' -> W'.rangeAt (B + 1) 0 arr.toList):=Lib.hid fun W' h => (q2.below h q2.lt).range
 have HR0 : Hid (∀ W',Below W1.heap.size W1 W' -> W'.rangeAt ab (ao) (gx 0).cells.toList):=Lib.hid fun W' h => by
  have := xv_range (cells_below (b1.trans (h.mono (by omega))) (Nat.lt_of_lt_of_le hab hK) hac') (by omega : 0 < 1)
  simpa using this
 have HCALL0 : Hid (∀ W',Below W1.heap.size W1 W' -> Calls Tryz.prog 39 #[(gx 0).agg,.agg arr] W' fun en w' => en = .returned (.bool t0) /\ Below W'.heap.size W' w'):=Lib.hid fun W' h => by
  have hb:=b1.trans (h.mono (by omega : B <= W1.heap.size))
  have := ih0 K (gx 0) W' (fun k hk => (hv k hk).below hb hK (Nat.le_refl _)) (by have := hb.size; have := HB.out; omega) (hx0.below hb hK (Nat.le_refl _))
  rw [ht0,HA.out] at this
  exact this
 obtain ⟨c0,c1,c2,c3,c4,c5,c6,c7,c8⟩:=q1.nine
 have S1:=Lib.hid s1
 have HAC:=Lib.hid hac
 have HGX:=Lib.hid hgx
 clear s1 hac hgx hac' hab hop
 have hr : trueG (valsM nl) (.mk 17 [] v0 [a]) = !t0:=by
  rw [trueG,if_neg (by decide),if_pos (by decide),<- ht0]; simp [combG,trueL]
 rw [hr]
 clear hx hgs hr ht0
 clear hB hW1 harr
 go_enter Tryz.func39,Tryz.ntmps39
 go_upto_region 1 with fail
 simp only [HB.out]
 rw [HW.out]
 clear HW
 go_upto_region 5 with fail
 refine region_WQ (fun W' => Below W1.heap.size W1 W') (by kernel_rfl) (by kernel_rfl) ⟨rfl,rfl,rfl,Nat.le_refl _,fun _ _ => rfl⟩ ?_
 refine WQ.take (.pointer (some ⟨B,8,none⟩)) (.inl ⟨by kernel_rfl,fun W' hS => by go_simp <;> exact hS⟩) ?_
 refine WQ.take (.slice (some ⟨ab,ao,none⟩) 1 x8m) (.inl ⟨by kernel_rfl,fun W' hS => by have u:=HC8.out W' hS; go_simp <;> exact hS⟩) ?_
 refine WQ.take (.pointer (some ⟨ab,ao,none⟩)) (.inl ⟨by kernel_rfl,fun W' hS => by go_simp <;> exact hS⟩) ?_
 refine WQ.take ((gx 0).agg) (yieldsIn_of_if (yieldsIf_load_mid (by kernel_rfl) 49 (.tmp 21) rfl ab (ao) (by rfl) (gx 0).cells.toList _ (fun W' hS => HR0.out W' hS) Tryz.underlying49 rfl infoExN)) ?_
 refine WQ.take (.agg arr) (yieldsIn_of_if (yieldsIf_load_mid (by kernel_rfl) 86 (.tmp 3) rfl (B + 1) 0 (by rfl) arr.toList _ (fun W' hS => HRA.out W' hS) Tryz.underlying86 rfl hi2)) ?_
 refine WQ.take (.bool t0) (.inl ⟨by kernel_rfl,fun W' hS => by go_simp <;> exact (HCALL0.out W' hS).mono fun e W'' ⟨h1,h2⟩ => ⟨h1,hS.trans (h2.mono hS.size)⟩⟩) ?_
 refine WQ.take (.bool (!t0)) (.inl ⟨by kernel_rfl,fun W' hS => by go_simp <;> exact hS⟩) ?_
 refine WQ.take (.bool (!t0)) (.inl ⟨by kernel_rfl,fun W' hS => by go_simp <;> exact hS⟩) ?_
 refine WQ.nil ?_
 intro W9 hS9
 have b9:=b1.trans (hS9.mono (by have := S1.out; omega))
 clear hS9
 go_simp
 go_wp2_with fail
 go_ret
 exact ⟨rfl,b9⟩
theorem gtrue_and (K : Nat) (nl : List Nat) (g : Nat -> Vv) (x : Xv) (w : World) (hv : ∀ k,k < 12 -> VlX K w (valsM nl k) (g k)) (hK : K <= w.heap.size) (a b : Gx) (ih0 : TrueAt nl g a) (ih1 : TrueAt nl g b) (hx : ExG K w (.mk 15 [] v0 [a,b]) x) :
  Calls Tryz.prog 39 #[x.agg,.agg (cells72 g).toArray] w fun en w' => en = .returned (.bool (trueG (valsM nl) (.mk 15 [] v0 [a,b]))) /\ Below w.heap.size w w':=by
 obtain ⟨⟨xop,xnm,xk,xb3,⟨x4,x4n,x4m⟩,xb5,⟨x6,x6n,x6m⟩,xi7,⟨x8,x8n,x8m⟩⟩,hxx⟩ : ∃ y : Xv,y = x:=⟨x,rfl⟩
 subst hxx
 obtain ⟨arr,harr⟩ : ∃ arr : Array Value,(cells72 g).toArray = arr:=⟨_,rfl⟩
 have HA:=Lib.hid harr
 rw [harr]
 obtain ⟨W1,hW1⟩ : ∃ W1,(w.alloc (.cells (⟨xop,xnm,xk,xb3,⟨x4,x4n,x4m⟩,xb5,⟨x6,x6n,x6m⟩,xi7,⟨x8,x8n,x8m⟩⟩ : Xv).cells 49)).alloc (.cells arr 86) = W1:=⟨_,rfl⟩
 have b1 : Below w.heap.size w W1:=by rw [<- hW1]; exact ((Below.refl _ _).alloc (Nat.le_refl _) _).alloc (by simp) _
 have q1 : Blk W1 w.heap.size (⟨xop,xnm,xk,xb3,⟨x4,x4n,x4m⟩,xb5,⟨x6,x6n,x6m⟩,xi7,⟨x8,x8n,x8m⟩⟩ : Xv).cells 49:=by rw [<- hW1]; exact (Blk.new w _ _).alloc _
 have q2 : Blk W1 (w.heap.size + 1) arr 86:=by
  rw [<- hW1]
  have := Blk.new (w.alloc (.cells (⟨xop,xnm,xk,xb3,⟨x4,x4n,x4m⟩,xb5,⟨x6,x6n,x6m⟩,xi7,⟨x8,x8n,x8m⟩⟩ : Xv).cells 49)) arr 86
  rwa [World.size_alloc] at this
 have s1 : W1.heap.size = w.heap.size + 2:=by rw [<- hW1]; simp
 obtain ⟨B,hB⟩ : ∃ B,w.heap.size = B:=⟨_,rfl⟩
 have HB:=Lib.hid hB
 have HW:=Lib.hid hW1
 rw [hB] at b1 q1 q2 s1 hK ⊢
 dsimp only [Xv.cells] at HW
 obtain ⟨hop,_,_,_,gx,hgx,hgs⟩:=hx.open
 have hop' : xop = 15:=hop
 obtain ⟨ab,ao,acap,hse,_,_,hab,hac⟩:=hgx.pos (by show 0 < 2; omega)
 have hse' : Value.slice x8 x8n x8m = .slice (some ⟨ab,ao,none⟩) 2 acap:=hse
 simp only [Value.slice.injEq] at hse'
 obtain ⟨rfl,rfl,rfl⟩:=hse'
 subst hop'
 clear hse
 have hac' : ∀ i,i < 2 -> ∀ j,j < 9 -> w.cell? ⟨ab,ao + (i * 9 + j),none⟩ = some ((gx i).cell j):=hac
 have hx0 : ExG K w a (gx 0):=hgs 0 a rfl
 obtain ⟨t0,ht0⟩ : ∃ t,trueG (valsM nl) a = t:=⟨_,rfl⟩
 have hx1 : ExG K w b (gx 1):=hgs 1 b rfl
 obtain ⟨t1,ht1⟩ : ∃ t,trueG (valsM nl) b = t:=⟨_,rfl⟩
 have hi2 : (Tryz.prog.info? 86).map (fun i => i.size) = some arr.toList.length:=by rw [infoV12,<- harr]; simp [cells72_len]
 have HC8 : Hid (∀ W',Below W1.heap.size W1 W' -> W'.cell? ⟨B,8,none⟩ = some (.slice (some ⟨ab,ao,none⟩) 2 x8m)):=Lib.hid fun W' h => (q1.below h q1.lt).at rfl
 have HRA : Hid (∀ W',Below W1.heap.size W1 W' -> W'.rangeAt (B + 1) 0 arr.toList):=Lib.hid fun W' h => (q2.below h q2.lt).range
 have HR0 : Hid (∀ W',Below W1.heap.size W1 W' -> W'.rangeAt ab (ao) (gx 0).cells.toList):=Lib.hid fun W' h => by
  have := xv_range (cells_below (b1.trans (h.mono (by omega))) (Nat.lt_of_lt_of_le hab hK) hac') (by omega : 0 < 2)
  simpa using this
 have HCALL0 : Hid (∀ W',Below W1.heap.size W1 W' -> Calls Tryz.prog 39 #[(gx 0).agg,.agg arr] W' fun en w' => en = .returned (.bool t0) /\ Below W'.heap.size W' w'):=Lib.hid fun W' h => by
  have hb:=b1.trans (h.mono (by omega : B <= W1.heap.size))
  have := ih0 K (gx 0) W' (fun k hk => (hv k hk).below hb hK (Nat.le_refl _)) (by have := hb.size; have := HB.out; omega) (hx0.below hb hK (Nat.le_refl _))
  rw [ht0,HA.out] at this
  exact this
 have HR1 : Hid (∀ W',Below W1.heap.size W1 W' -> W'.rangeAt ab (ao + 9) (gx 1).cells.toList):=Lib.hid fun W' h => by
  have := xv_range (cells_below (b1.trans (h.mono (by omega))) (Nat.lt_of_lt_of_le hab hK) hac') (by omega : 1 < 2)
  simpa using this
 have HCALL1 : Hid (∀ W',Below W1.heap.size W1 W' -> Calls Tryz.prog 39 #[(gx 1).agg,.agg arr] W' fun en w' => en = .returned (.bool t1) /\ Below W'.heap.size W' w'):=Lib.hid fun W' h => by
  have hb:=b1.trans (h.mono (by omega : B <= W1.heap.size))
  have := ih1 K (gx 1) W' (fun k hk => (hv k hk).below hb hK (Nat.le_refl _)) (by have := hb.size; have := HB.out; omega) (hx1.below hb hK (Nat.le_refl _))
  rw [ht1,HA.out] at this
  exact this
 obtain ⟨c0,c1,c2,c3,c4,c5,c6,c7,c8⟩:=q1.nine
 have S1:=Lib.hid s1
 have HAC:=Lib.hid hac
 have HGX:=Lib.hid hgx
 clear s1 hac hgx hac' hab hop
 have hr : trueG (valsM nl) (.mk 15 [] v0 [a,b]) = (t0 && t1):=by
  rw [trueG,if_neg (by decide),if_pos (by decide),<- ht0,<- ht1]; simp [combG,trueL]
 rw [hr]
 clear hx hgs hr ht0 ht1
 clear hB hW1 harr
 go_enter Tryz.func39,Tryz.ntmps39
 go_upto_region 1 with fail
 simp only [HB.out]
 rw [HW.out]
 clear HW
 go_upto_region 7 with fail
 cases t0 with
 | true =>
  refine region_WQ (fun W' => Below W1.heap.size W1 W') (by kernel_rfl) (by kernel_rfl) ⟨rfl,rfl,rfl,Nat.le_refl _,fun _ _ => rfl⟩ ?_
  refine WQ.take (.pointer (some ⟨B,8,none⟩)) (.inl ⟨by kernel_rfl,fun W' hS => by go_simp <;> exact hS⟩) ?_
  refine WQ.take (.slice (some ⟨ab,ao,none⟩) 2 x8m) (.inl ⟨by kernel_rfl,fun W' hS => by have u:=HC8.out W' hS; go_simp <;> exact hS⟩) ?_
  refine WQ.take (.pointer (some ⟨ab,ao,none⟩)) (.inl ⟨by kernel_rfl,fun W' hS => by go_simp <;> exact hS⟩) ?_
  refine WQ.take ((gx 0).agg) (yieldsIn_of_if (yieldsIf_load_mid (by kernel_rfl) 49 (.tmp 30) rfl ab (ao) (by rfl) (gx 0).cells.toList _ (fun W' hS => HR0.out W' hS) Tryz.underlying49 rfl infoExN)) ?_
  refine WQ.take (.agg arr) (yieldsIn_of_if (yieldsIf_load_mid (by kernel_rfl) 86 (.tmp 3) rfl (B + 1) 0 (by rfl) arr.toList _ (fun W' hS => HRA.out W' hS) Tryz.underlying86 rfl hi2)) ?_
  refine WQ.take (.bool true) (.inl ⟨by kernel_rfl,fun W' hS => by go_simp <;> exact (HCALL0.out W' hS).mono fun e W'' ⟨h1,h2⟩ => ⟨h1,hS.trans (h2.mono hS.size)⟩⟩) ?_
  refine WQ.take (.bool true) (.inl ⟨by kernel_rfl,fun W' hS => by go_simp <;> exact hS⟩) ?_
  refine WQ.take (.pointer (some ⟨B,8,none⟩)) (.inl ⟨by kernel_rfl,fun W' hS => by go_simp <;> exact hS⟩) ?_
  refine WQ.take (.slice (some ⟨ab,ao,none⟩) 2 x8m) (.inl ⟨by kernel_rfl,fun W' hS => by have u:=HC8.out W' hS; go_simp <;> exact hS⟩) ?_
  refine WQ.take (.pointer (some ⟨ab,ao + 9,none⟩)) (.inl ⟨by kernel_rfl,fun W' hS => by go_simp <;> exact hS⟩) ?_
  refine WQ.take ((gx 1).agg) (yieldsIn_of_if (yieldsIf_load_mid (by kernel_rfl) 49 (.tmp 37) rfl ab (ao + 9) (by go_simp) (gx 1).cells.toList _ (fun W' hS => HR1.out W' hS) Tryz.underlying49 rfl infoExN)) ?_
  refine WQ.take (.agg arr) (yieldsIn_of_if (yieldsIf_load_mid (by kernel_rfl) 86 (.tmp 3) rfl (B + 1) 0 (by go_simp) arr.toList _ (fun W' hS => HRA.out W' hS) Tryz.underlying86 rfl hi2)) ?_
  refine WQ.take (.bool t1) (.inl ⟨by kernel_rfl,fun W' hS => by go_simp <;> exact (HCALL1.out W' hS).mono fun e W'' ⟨h1,h2⟩ => ⟨h1,hS.trans (h2.mono hS.size)⟩⟩) ?_
  refine WQ.take (.bool t1) (.inl ⟨by kernel_rfl,fun W' hS => by go_simp <;> exact hS⟩) ?_
  refine WQ.take (.bool t1) (.inl ⟨by kernel_rfl,fun W' hS => by go_simp <;> exact hS⟩) ?_
  refine WQ.nil ?_
  intro W9 hS9
  have b9:=b1.trans (hS9.mono (by have := S1.out; omega))
  clear hS9
  go_simp
  go_wp2_with fail
  go_ret
  exact ⟨by simp,b9⟩
 | false =>
  refine region_WQ (fun W' => Below W1.heap.size W1 W') (by kernel_rfl) (by kernel_rfl) ⟨rfl,rfl,rfl,Nat.le_refl _,fun _ _ => rfl⟩ ?_
  refine WQ.take (.pointer (some ⟨B,8,none⟩)) (.inl ⟨by kernel_rfl,fun W' hS => by go_simp <;> exact hS⟩) ?_
  refine WQ.take (.slice (some ⟨ab,ao,none⟩) 2 x8m) (.inl ⟨by kernel_rfl,fun W' hS => by have u:=HC8.out W' hS; go_simp <;> exact hS⟩) ?_
  refine WQ.take (.pointer (some ⟨ab,ao,none⟩)) (.inl ⟨by kernel_rfl,fun W' hS => by go_simp <;> exact hS⟩) ?_
  refine WQ.take ((gx 0).agg) (yieldsIn_of_if (yieldsIf_load_mid (by kernel_rfl) 49 (.tmp 30) rfl ab (ao) (by rfl) (gx 0).cells.toList _ (fun W' hS => HR0.out W' hS) Tryz.underlying49 rfl infoExN)) ?_
  refine WQ.take (.agg arr) (yieldsIn_of_if (yieldsIf_load_mid (by kernel_rfl) 86 (.tmp 3) rfl (B + 1) 0 (by rfl) arr.toList _ (fun W' hS => HRA.out W' hS) Tryz.underlying86 rfl hi2)) ?_
  refine WQ.take (.bool false) (.inl ⟨by kernel_rfl,fun W' hS => by go_simp <;> exact (HCALL0.out W' hS).mono fun e W'' ⟨h1,h2⟩ => ⟨h1,hS.trans (h2.mono hS.size)⟩⟩) ?_
  refine WQ.take (.bool false) (.inl ⟨by kernel_rfl,fun W' hS => by go_simp <;> exact hS⟩) ?_
  refine WQ.take undef (.inr ⟨by kernel_rfl,rfl⟩) ?_
  refine WQ.take undef (.inr ⟨by kernel_rfl,rfl⟩) ?_
  refine WQ.take undef (.inr ⟨by kernel_rfl,rfl⟩) ?_
  refine WQ.take undef (.inr ⟨by kernel_rfl,rfl⟩) ?_
  refine WQ.take undef (.inr ⟨by kernel_rfl,rfl⟩) ?_
  refine WQ.take undef (.inr ⟨by kernel_rfl,rfl⟩) ?_
  refine WQ.take (.bool false) (.inl ⟨by kernel_rfl,fun W' hS => by go_simp <;> exact hS⟩) ?_
  refine WQ.take (.bool false) (.inl ⟨by kernel_rfl,fun W' hS => by go_simp <;> exact hS⟩) ?_
  refine WQ.nil ?_
  intro W9 hS9
  have b9:=b1.trans (hS9.mono (by have := S1.out; omega))
  clear hS9
  go_simp
  go_wp2_with fail
  go_ret
  exact ⟨by simp,b9⟩
theorem gtrue_or (K : Nat) (nl : List Nat) (g : Nat -> Vv) (x : Xv) (w : World) (hv : ∀ k,k < 12 -> VlX K w (valsM nl k) (g k)) (hK : K <= w.heap.size) (a b : Gx) (ih0 : TrueAt nl g a) (ih1 : TrueAt nl g b) (hx : ExG K w (.mk 16 [] v0 [a,b]) x) :
  Calls Tryz.prog 39 #[x.agg,.agg (cells72 g).toArray] w fun en w' => en = .returned (.bool (trueG (valsM nl) (.mk 16 [] v0 [a,b]))) /\ Below w.heap.size w w':=by
 obtain ⟨⟨xop,xnm,xk,xb3,⟨x4,x4n,x4m⟩,xb5,⟨x6,x6n,x6m⟩,xi7,⟨x8,x8n,x8m⟩⟩,hxx⟩ : ∃ y : Xv,y = x:=⟨x,rfl⟩
 subst hxx
 obtain ⟨arr,harr⟩ : ∃ arr : Array Value,(cells72 g).toArray = arr:=⟨_,rfl⟩
 have HA:=Lib.hid harr
 rw [harr]
 obtain ⟨W1,hW1⟩ : ∃ W1,(w.alloc (.cells (⟨xop,xnm,xk,xb3,⟨x4,x4n,x4m⟩,xb5,⟨x6,x6n,x6m⟩,xi7,⟨x8,x8n,x8m⟩⟩ : Xv).cells 49)).alloc (.cells arr 86) = W1:=⟨_,rfl⟩
 have b1 : Below w.heap.size w W1:=by rw [<- hW1]; exact ((Below.refl _ _).alloc (Nat.le_refl _) _).alloc (by simp) _
 have q1 : Blk W1 w.heap.size (⟨xop,xnm,xk,xb3,⟨x4,x4n,x4m⟩,xb5,⟨x6,x6n,x6m⟩,xi7,⟨x8,x8n,x8m⟩⟩ : Xv).cells 49:=by rw [<- hW1]; exact (Blk.new w _ _).alloc _
 have q2 : Blk W1 (w.heap.size + 1) arr 86:=by
  rw [<- hW1]
  have := Blk.new (w.alloc (.cells (⟨xop,xnm,xk,xb3,⟨x4,x4n,x4m⟩,xb5,⟨x6,x6n,x6m⟩,xi7,⟨x8,x8n,x8m⟩⟩ : Xv).cells 49)) arr 86
  rwa [World.size_alloc] at this
 have s1 : W1.heap.size = w.heap.size + 2:=by rw [<- hW1]; simp
 obtain ⟨B,hB⟩ : ∃ B,w.heap.size = B:=⟨_,rfl⟩
 have HB:=Lib.hid hB
 have HW:=Lib.hid hW1
 rw [hB] at b1 q1 q2 s1 hK ⊢
 dsimp only [Xv.cells] at HW
 obtain ⟨hop,_,_,_,gx,hgx,hgs⟩:=hx.open
 have hop' : xop = 16:=hop
 obtain ⟨ab,ao,acap,hse,_,_,hab,hac⟩:=hgx.pos (by show 0 < 2; omega)
 have hse' : Value.slice x8 x8n x8m = .slice (some ⟨ab,ao,none⟩) 2 acap:=hse
 simp only [Value.slice.injEq] at hse'
 obtain ⟨rfl,rfl,rfl⟩:=hse'
 subst hop'
 clear hse
 have hac' : ∀ i,i < 2 -> ∀ j,j < 9 -> w.cell? ⟨ab,ao + (i * 9 + j),none⟩ = some ((gx i).cell j):=hac
 have hx0 : ExG K w a (gx 0):=hgs 0 a rfl
 obtain ⟨t0,ht0⟩ : ∃ t,trueG (valsM nl) a = t:=⟨_,rfl⟩
 have hx1 : ExG K w b (gx 1):=hgs 1 b rfl
 obtain ⟨t1,ht1⟩ : ∃ t,trueG (valsM nl) b = t:=⟨_,rfl⟩
 have hi2 : (Tryz.prog.info? 86).map (fun i => i.size) = some arr.toList.length:=by rw [infoV12,<- harr]; simp [cells72_len]
 have HC8 : Hid (∀ W',Below W1.heap.size W1 W' -> W'.cell? ⟨B,8,none⟩ = some (.slice (some ⟨ab,ao,none⟩) 2 x8m)):=Lib.hid fun W' h => (q1.below h q1.lt).at rfl
 have HRA : Hid (∀ W',Below W1.heap.size W1 W' -> W'.rangeAt (B + 1) 0 arr.toList):=Lib.hid fun W' h => (q2.below h q2.lt).range
 have HR0 : Hid (∀ W',Below W1.heap.size W1 W' -> W'.rangeAt ab (ao) (gx 0).cells.toList):=Lib.hid fun W' h => by
  have := xv_range (cells_below (b1.trans (h.mono (by omega))) (Nat.lt_of_lt_of_le hab hK) hac') (by omega : 0 < 2)
  simpa using this
 have HCALL0 : Hid (∀ W',Below W1.heap.size W1 W' -> Calls Tryz.prog 39 #[(gx 0).agg,.agg arr] W' fun en w' => en = .returned (.bool t0) /\ Below W'.heap.size W' w'):=Lib.hid fun W' h => by
  have hb:=b1.trans (h.mono (by omega : B <= W1.heap.size))
  have := ih0 K (gx 0) W' (fun k hk => (hv k hk).below hb hK (Nat.le_refl _)) (by have := hb.size; have := HB.out; omega) (hx0.below hb hK (Nat.le_refl _))
  rw [ht0,HA.out] at this
  exact this
 have HR1 : Hid (∀ W',Below W1.heap.size W1 W' -> W'.rangeAt ab (ao + 9) (gx 1).cells.toList):=Lib.hid fun W' h => by
  have := xv_range (cells_below (b1.trans (h.mono (by omega))) (Nat.lt_of_lt_of_le hab hK) hac') (by omega : 1 < 2)
  simpa using this
 have HCALL1 : Hid (∀ W',Below W1.heap.size W1 W' -> Calls Tryz.prog 39 #[(gx 1).agg,.agg arr] W' fun en w' => en = .returned (.bool t1) /\ Below W'.heap.size W' w'):=Lib.hid fun W' h => by
  have hb:=b1.trans (h.mono (by omega : B <= W1.heap.size))
  have := ih1 K (gx 1) W' (fun k hk => (hv k hk).below hb hK (Nat.le_refl _)) (by have := hb.size; have := HB.out; omega) (hx1.below hb hK (Nat.le_refl _))
  rw [ht1,HA.out] at this
  exact this
 obtain ⟨c0,c1,c2,c3,c4,c5,c6,c7,c8⟩:=q1.nine
 have S1:=Lib.hid s1
 have HAC:=Lib.hid hac
 have HGX:=Lib.hid hgx
 clear s1 hac hgx hac' hab hop
 have hr : trueG (valsM nl) (.mk 16 [] v0 [a,b]) = (t0 || t1):=by
  rw [trueG,if_neg (by decide),if_pos (by decide),<- ht0,<- ht1]; simp [combG,trueL]
 rw [hr]
 clear hx hgs hr ht0 ht1
 clear hB hW1 harr
 go_enter Tryz.func39,Tryz.ntmps39
 go_upto_region 1 with fail
 simp only [HB.out]
 rw [HW.out]
 clear HW
 go_upto_region 9 with fail
 cases t0 with
 | false =>
  refine region_WQ (fun W' => Below W1.heap.size W1 W') (by kernel_rfl) (by kernel_rfl) ⟨rfl,rfl,rfl,Nat.le_refl _,fun _ _ => rfl⟩ ?_
  refine WQ.take (.pointer (some ⟨B,8,none⟩)) (.inl ⟨by kernel_rfl,fun W' hS => by go_simp <;> exact hS⟩) ?_
  refine WQ.take (.slice (some ⟨ab,ao,none⟩) 2 x8m) (.inl ⟨by kernel_rfl,fun W' hS => by have u:=HC8.out W' hS; go_simp <;> exact hS⟩) ?_
  refine WQ.take (.pointer (some ⟨ab,ao,none⟩)) (.inl ⟨by kernel_rfl,fun W' hS => by go_simp <;> exact hS⟩) ?_
  refine WQ.take ((gx 0).agg) (yieldsIn_of_if (yieldsIf_load_mid (by kernel_rfl) 49 (.tmp 46) rfl ab (ao) (by rfl) (gx 0).cells.toList _ (fun W' hS => HR0.out W' hS) Tryz.underlying49 rfl infoExN)) ?_
  refine WQ.take (.agg arr) (yieldsIn_of_if (yieldsIf_load_mid (by kernel_rfl) 86 (.tmp 3) rfl (B + 1) 0 (by rfl) arr.toList _ (fun W' hS => HRA.out W' hS) Tryz.underlying86 rfl hi2)) ?_
  refine WQ.take (.bool false) (.inl ⟨by kernel_rfl,fun W' hS => by go_simp <;> exact (HCALL0.out W' hS).mono fun e W'' ⟨h1,h2⟩ => ⟨h1,hS.trans (h2.mono hS.size)⟩⟩) ?_
  refine WQ.take (.bool false) (.inl ⟨by kernel_rfl,fun W' hS => by go_simp <;> exact hS⟩) ?_
  refine WQ.take (.pointer (some ⟨B,8,none⟩)) (.inl ⟨by kernel_rfl,fun W' hS => by go_simp <;> exact hS⟩) ?_
  refine WQ.take (.slice (some ⟨ab,ao,none⟩) 2 x8m) (.inl ⟨by kernel_rfl,fun W' hS => by have u:=HC8.out W' hS; go_simp <;> exact hS⟩) ?_
  refine WQ.take (.pointer (some ⟨ab,ao + 9,none⟩)) (.inl ⟨by kernel_rfl,fun W' hS => by go_simp <;> exact hS⟩) ?_
  refine WQ.take ((gx 1).agg) (yieldsIn_of_if (yieldsIf_load_mid (by kernel_rfl) 49 (.tmp 53) rfl ab (ao + 9) (by go_simp) (gx 1).cells.toList _ (fun W' hS => HR1.out W' hS) Tryz.underlying49 rfl infoExN)) ?_
  refine WQ.take (.agg arr) (yieldsIn_of_if (yieldsIf_load_mid (by kernel_rfl) 86 (.tmp 3) rfl (B + 1) 0 (by go_simp) arr.toList _ (fun W' hS => HRA.out W' hS) Tryz.underlying86 rfl hi2)) ?_
  refine WQ.take (.bool t1) (.inl ⟨by kernel_rfl,fun W' hS => by go_simp <;> exact (HCALL1.out W' hS).mono fun e W'' ⟨h1,h2⟩ => ⟨h1,hS.trans (h2.mono hS.size)⟩⟩) ?_
  refine WQ.take (.bool t1) (.inl ⟨by kernel_rfl,fun W' hS => by go_simp <;> exact hS⟩) ?_
  refine WQ.take (.bool t1) (.inl ⟨by kernel_rfl,fun W' hS => by go_simp <;> exact hS⟩) ?_
  refine WQ.nil ?_
  intro W9 hS9
  have b9:=b1.trans (hS9.mono (by have := S1.out; omega))
  clear hS9
  go_simp
  go_wp2_with fail
  go_ret
  exact ⟨by simp,b9⟩
 | true =>
  refine region_WQ (fun W' => Below W1.heap.size W1 W') (by kernel_rfl) (by kernel_rfl) ⟨rfl,rfl,rfl,Nat.le_refl _,fun _ _ => rfl⟩ ?_
  refine WQ.take (.pointer (some ⟨B,8,none⟩)) (.inl ⟨by kernel_rfl,fun W' hS => by go_simp <;> exact hS⟩) ?_
  refine WQ.take (.slice (some ⟨ab,ao,none⟩) 2 x8m) (.inl ⟨by kernel_rfl,fun W' hS => by have u:=HC8.out W' hS; go_simp <;> exact hS⟩) ?_
  refine WQ.take (.pointer (some ⟨ab,ao,none⟩)) (.inl ⟨by kernel_rfl,fun W' hS => by go_simp <;> exact hS⟩) ?_
  refine WQ.take ((gx 0).agg) (yieldsIn_of_if (yieldsIf_load_mid (by kernel_rfl) 49 (.tmp 46) rfl ab (ao) (by rfl) (gx 0).cells.toList _ (fun W' hS => HR0.out W' hS) Tryz.underlying49 rfl infoExN)) ?_
  refine WQ.take (.agg arr) (yieldsIn_of_if (yieldsIf_load_mid (by kernel_rfl) 86 (.tmp 3) rfl (B + 1) 0 (by rfl) arr.toList _ (fun W' hS => HRA.out W' hS) Tryz.underlying86 rfl hi2)) ?_
  refine WQ.take (.bool true) (.inl ⟨by kernel_rfl,fun W' hS => by go_simp <;> exact (HCALL0.out W' hS).mono fun e W'' ⟨h1,h2⟩ => ⟨h1,hS.trans (h2.mono hS.size)⟩⟩) ?_
  refine WQ.take (.bool true) (.inl ⟨by kernel_rfl,fun W' hS => by go_simp <;> exact hS⟩) ?_
  refine WQ.take undef (.inr ⟨by kernel_rfl,rfl⟩) ?_
  refine WQ.take undef (.inr ⟨by kernel_rfl,rfl⟩) ?_
  refine WQ.take undef (.inr ⟨by kernel_rfl,rfl⟩) ?_
  refine WQ.take undef (.inr ⟨by kernel_rfl,rfl⟩) ?_
  refine WQ.take undef (.inr ⟨by kernel_rfl,rfl⟩) ?_
  refine WQ.take undef (.inr ⟨by kernel_rfl,rfl⟩) ?_
  refine WQ.take (.bool true) (.inl ⟨by kernel_rfl,fun W' hS => by go_simp <;> exact hS⟩) ?_
  refine WQ.take (.bool true) (.inl ⟨by kernel_rfl,fun W' hS => by go_simp <;> exact hS⟩) ?_
  refine WQ.nil ?_
  intro W9 hS9
  have b9:=b1.trans (hS9.mono (by have := S1.out; omega))
  clear hS9
  go_simp
  go_wp2_with fail
  go_ret
  exact ⟨by simp,b9⟩
theorem gtrue_ite (K : Nat) (nl : List Nat) (g : Nat -> Vv) (x : Xv) (w : World) (hv : ∀ k,k < 12 -> VlX K w (valsM nl k) (g k)) (hK : K <= w.heap.size) (a b c : Gx) (ih0 : TrueAt nl g a) (ih1 : TrueAt nl g b) (ih2 : TrueAt nl g c) (hx : ExG K w (.mk 18 [] v0 [a,b,c]) x) :
  Calls Tryz.prog 39 #[x.agg,.agg (cells72 g).toArray] w fun en w' => en = .returned (.bool (trueG (valsM nl) (.mk 18 [] v0 [a,b,c]))) /\ Below w.heap.size w w':=by
 obtain ⟨⟨xop,xnm,xk,xb3,⟨x4,x4n,x4m⟩,xb5,⟨x6,x6n,x6m⟩,xi7,⟨x8,x8n,x8m⟩⟩,hxx⟩ : ∃ y : Xv,y = x:=⟨x,rfl⟩
 subst hxx
 obtain ⟨arr,harr⟩ : ∃ arr : Array Value,(cells72 g).toArray = arr:=⟨_,rfl⟩
 have HA:=Lib.hid harr
 rw [harr]
 obtain ⟨W1,hW1⟩ : ∃ W1,(w.alloc (.cells (⟨xop,xnm,xk,xb3,⟨x4,x4n,x4m⟩,xb5,⟨x6,x6n,x6m⟩,xi7,⟨x8,x8n,x8m⟩⟩ : Xv).cells 49)).alloc (.cells arr 86) = W1:=⟨_,rfl⟩
 have b1 : Below w.heap.size w W1:=by rw [<- hW1]; exact ((Below.refl _ _).alloc (Nat.le_refl _) _).alloc (by simp) _
 have q1 : Blk W1 w.heap.size (⟨xop,xnm,xk,xb3,⟨x4,x4n,x4m⟩,xb5,⟨x6,x6n,x6m⟩,xi7,⟨x8,x8n,x8m⟩⟩ : Xv).cells 49:=by rw [<- hW1]; exact (Blk.new w _ _).alloc _
 have q2 : Blk W1 (w.heap.size + 1) arr 86:=by
  rw [<- hW1]
  have := Blk.new (w.alloc (.cells (⟨xop,xnm,xk,xb3,⟨x4,x4n,x4m⟩,xb5,⟨x6,x6n,x6m⟩,xi7,⟨x8,x8n,x8m⟩⟩ : Xv).cells 49)) arr 86
  rwa [World.size_alloc] at this
 have s1 : W1.heap.size = w.heap.size + 2:=by rw [<- hW1]; simp
 obtain ⟨B,hB⟩ : ∃ B,w.heap.size = B:=⟨_,rfl⟩
 have HB:=Lib.hid hB
 have HW:=Lib.hid hW1
 rw [hB] at b1 q1 q2 s1 hK ⊢
 dsimp only [Xv.cells] at HW
 obtain ⟨hop,_,_,_,gx,hgx,hgs⟩:=hx.open
 have hop' : xop = 18:=hop
 obtain ⟨ab,ao,acap,hse,_,_,hab,hac⟩:=hgx.pos (by show 0 < 3; omega)
 have hse' : Value.slice x8 x8n x8m = .slice (some ⟨ab,ao,none⟩) 3 acap:=hse
 simp only [Value.slice.injEq] at hse'
 obtain ⟨rfl,rfl,rfl⟩:=hse'
 subst hop'
 clear hse
 have hac' : ∀ i,i < 3 -> ∀ j,j < 9 -> w.cell? ⟨ab,ao + (i * 9 + j),none⟩ = some ((gx i).cell j):=hac
 have hx0 : ExG K w a (gx 0):=hgs 0 a rfl
 obtain ⟨t0,ht0⟩ : ∃ t,trueG (valsM nl) a = t:=⟨_,rfl⟩
 have hx1 : ExG K w b (gx 1):=hgs 1 b rfl
 obtain ⟨t1,ht1⟩ : ∃ t,trueG (valsM nl) b = t:=⟨_,rfl⟩
 have hx2 : ExG K w c (gx 2):=hgs 2 c rfl
 obtain ⟨t2,ht2⟩ : ∃ t,trueG (valsM nl) c = t:=⟨_,rfl⟩
 have hi2 : (Tryz.prog.info? 86).map (fun i => i.size) = some arr.toList.length:=by rw [infoV12,<- harr]; simp [cells72_len]
 have HC8 : Hid (∀ W',Below W1.heap.size W1 W' -> W'.cell? ⟨B,8,none⟩ = some (.slice (some ⟨ab,ao,none⟩) 3 x8m)):=Lib.hid fun W' h => (q1.below h q1.lt).at rfl
 have HRA : Hid (∀ W',Below W1.heap.size W1 W' -> W'.rangeAt (B + 1) 0 arr.toList):=Lib.hid fun W' h => (q2.below h q2.lt).range
 have HR0 : Hid (∀ W',Below W1.heap.size W1 W' -> W'.rangeAt ab (ao) (gx 0).cells.toList):=Lib.hid fun W' h => by
  have := xv_range (cells_below (b1.trans (h.mono (by omega))) (Nat.lt_of_lt_of_le hab hK) hac') (by omega : 0 < 3)
  simpa using this
 have HCALL0 : Hid (∀ W',Below W1.heap.size W1 W' -> Calls Tryz.prog 39 #[(gx 0).agg,.agg arr] W' fun en w' => en = .returned (.bool t0) /\ Below W'.heap.size W' w'):=Lib.hid fun W' h => by
  have hb:=b1.trans (h.mono (by omega : B <= W1.heap.size))
  have := ih0 K (gx 0) W' (fun k hk => (hv k hk).below hb hK (Nat.le_refl _)) (by have := hb.size; have := HB.out; omega) (hx0.below hb hK (Nat.le_refl _))
  rw [ht0,HA.out] at this
  exact this
 have HR1 : Hid (∀ W',Below W1.heap.size W1 W' -> W'.rangeAt ab (ao + 9) (gx 1).cells.toList):=Lib.hid fun W' h => by
  have := xv_range (cells_below (b1.trans (h.mono (by omega))) (Nat.lt_of_lt_of_le hab hK) hac') (by omega : 1 < 3)
  simpa using this
 have HCALL1 : Hid (∀ W',Below W1.heap.size W1 W' -> Calls Tryz.prog 39 #[(gx 1).agg,.agg arr] W' fun en w' => en = .returned (.bool t1) /\ Below W'.heap.size W' w'):=Lib.hid fun W' h => by
  have hb:=b1.trans (h.mono (by omega : B <= W1.heap.size))
  have := ih1 K (gx 1) W' (fun k hk => (hv k hk).below hb hK (Nat.le_refl _)) (by have := hb.size; have := HB.out; omega) (hx1.below hb hK (Nat.le_refl _))
  rw [ht1,HA.out] at this
  exact this
 have HR2 : Hid (∀ W',Below W1.heap.size W1 W' -> W'.rangeAt ab (ao + 18) (gx 2).cells.toList):=Lib.hid fun W' h => by
  have := xv_range (cells_below (b1.trans (h.mono (by omega))) (Nat.lt_of_lt_of_le hab hK) hac') (by omega : 2 < 3)
  simpa using this
 have HCALL2 : Hid (∀ W',Below W1.heap.size W1 W' -> Calls Tryz.prog 39 #[(gx 2).agg,.agg arr] W' fun en w' => en = .returned (.bool t2) /\ Below W'.heap.size W' w'):=Lib.hid fun W' h => by
  have hb:=b1.trans (h.mono (by omega : B <= W1.heap.size))
  have := ih2 K (gx 2) W' (fun k hk => (hv k hk).below hb hK (Nat.le_refl _)) (by have := hb.size; have := HB.out; omega) (hx2.below hb hK (Nat.le_refl _))
  rw [ht2,HA.out] at this
  exact this
 obtain ⟨c0,c1,c2,c3,c4,c5,c6,c7,c8⟩:=q1.nine
 have S1:=Lib.hid s1
 have HAC:=Lib.hid hac
 have HGX:=Lib.hid hgx
 clear s1 hac hgx hac' hab hop
 have hr : trueG (valsM nl) (.mk 18 [] v0 [a,b,c]) = (if t0 = true then t1 else t2):=by
  rw [trueG,if_neg (by decide),if_pos (by decide),<- ht0,<- ht1,<- ht2]; simp [combG,trueL]
 rw [hr]
 clear hx hgs hr ht0 ht1 ht2
 clear hB hW1 harr
 go_enter Tryz.func39,Tryz.ntmps39
 go_upto_region 1 with fail
 simp only [HB.out]
 rw [HW.out]
 clear HW
 go_upto_region 11 with fail
 cases t0 with
 | true =>
  refine region_WQ (fun W' => Below W1.heap.size W1 W') (by kernel_rfl) (by kernel_rfl) ⟨rfl,rfl,rfl,Nat.le_refl _,fun _ _ => rfl⟩ ?_
  refine WQ.take (.pointer (some ⟨B,8,none⟩)) (.inl ⟨by kernel_rfl,fun W' hS => by go_simp <;> exact hS⟩) ?_
  refine WQ.take (.slice (some ⟨ab,ao,none⟩) 3 x8m) (.inl ⟨by kernel_rfl,fun W' hS => by have u:=HC8.out W' hS; go_simp <;> exact hS⟩) ?_
  refine WQ.take (.pointer (some ⟨ab,ao,none⟩)) (.inl ⟨by kernel_rfl,fun W' hS => by go_simp <;> exact hS⟩) ?_
  refine WQ.take ((gx 0).agg) (yieldsIn_of_if (yieldsIf_load_mid (by kernel_rfl) 49 (.tmp 62) rfl ab (ao) (by rfl) (gx 0).cells.toList _ (fun W' hS => HR0.out W' hS) Tryz.underlying49 rfl infoExN)) ?_
  refine WQ.take (.agg arr) (yieldsIn_of_if (yieldsIf_load_mid (by kernel_rfl) 86 (.tmp 3) rfl (B + 1) 0 (by rfl) arr.toList _ (fun W' hS => HRA.out W' hS) Tryz.underlying86 rfl hi2)) ?_
  refine WQ.take (.bool true) (.inl ⟨by kernel_rfl,fun W' hS => by go_simp <;> exact (HCALL0.out W' hS).mono fun e W'' ⟨h1,h2⟩ => ⟨h1,hS.trans (h2.mono hS.size)⟩⟩) ?_
  refine WQ.nil ?_
  intro W9 hS9
  have hs9:=hS9.size
  have b9:=b1.trans (hS9.mono (by have := S1.out; omega))
  go_simp
  go_upto_region 12 with fail
  have HC8b:=Lib.hid fun W' (h : Below W9.heap.size W9 W') => HC8.out W' (hS9.trans (h.mono hS9.size))
  have HRAb:=Lib.hid fun W' (h : Below W9.heap.size W9 W') => HRA.out W' (hS9.trans (h.mono hS9.size))
  have HRb:=Lib.hid fun W' (h : Below W9.heap.size W9 W') => HR1.out W' (hS9.trans (h.mono hS9.size))
  have HCALLb:=Lib.hid fun W' (h : Below W9.heap.size W9 W') => HCALL1.out W' (hS9.trans (h.mono hS9.size))
  clear HC8 HRA HR0 HR1 HR2 HCALL0 HCALL1 HCALL2 hS9 c0 c1 c2 c3 c4 c5 c6 c7 c8
  refine region_WQ (fun W' => Below W9.heap.size W9 W') (by kernel_rfl) (by kernel_rfl) ⟨rfl,rfl,rfl,Nat.le_refl _,fun _ _ => rfl⟩ ?_
  refine WQ.take (.pointer (some ⟨B,8,none⟩)) (.inl ⟨by kernel_rfl,fun W' hS => by go_simp <;> exact hS⟩) ?_
  refine WQ.take (.slice (some ⟨ab,ao,none⟩) 3 x8m) (.inl ⟨by kernel_rfl,fun W' hS => by have u:=HC8b.out W' hS; go_simp <;> exact hS⟩) ?_
  refine WQ.take (.pointer (some ⟨ab,ao + 9,none⟩)) (.inl ⟨by kernel_rfl,fun W' hS => by go_simp <;> exact hS⟩) ?_
  refine WQ.take ((gx 1).agg) (yieldsIn_of_if (yieldsIf_load_mid (by kernel_rfl) 49 (.tmp 68) rfl ab (ao + 9) (by go_simp) (gx 1).cells.toList _ (fun W' hS => HRb.out W' hS) Tryz.underlying49 rfl infoExN)) ?_
  refine WQ.take (.agg arr) (yieldsIn_of_if (yieldsIf_load_mid (by kernel_rfl) 86 (.tmp 3) rfl (B + 1) 0 (by go_simp) arr.toList _ (fun W' hS => HRAb.out W' hS) Tryz.underlying86 rfl hi2)) ?_
  refine WQ.take (.bool t1) (.inl ⟨by kernel_rfl,fun W' hS => by go_simp <;> exact (HCALLb.out W' hS).mono fun e W'' ⟨h1,h2⟩ => ⟨h1,hS.trans (h2.mono hS.size)⟩⟩) ?_
  refine WQ.take (.bool t1) (.inl ⟨by kernel_rfl,fun W' hS => by go_simp <;> exact hS⟩) ?_
  refine WQ.nil ?_
  intro W10 hS10
  have b10:=b9.trans (hS10.mono (by have := S1.out; omega))
  clear hS10
  go_simp
  go_wp2_with fail
  go_ret
  exact ⟨by simp,b10⟩
 | false =>
  refine region_WQ (fun W' => Below W1.heap.size W1 W') (by kernel_rfl) (by kernel_rfl) ⟨rfl,rfl,rfl,Nat.le_refl _,fun _ _ => rfl⟩ ?_
  refine WQ.take (.pointer (some ⟨B,8,none⟩)) (.inl ⟨by kernel_rfl,fun W' hS => by go_simp <;> exact hS⟩) ?_
  refine WQ.take (.slice (some ⟨ab,ao,none⟩) 3 x8m) (.inl ⟨by kernel_rfl,fun W' hS => by have u:=HC8.out W' hS; go_simp <;> exact hS⟩) ?_
  refine WQ.take (.pointer (some ⟨ab,ao,none⟩)) (.inl ⟨by kernel_rfl,fun W' hS => by go_simp <;> exact hS⟩) ?_
  refine WQ.take ((gx 0).agg) (yieldsIn_of_if (yieldsIf_load_mid (by kernel_rfl) 49 (.tmp 62) rfl ab (ao) (by rfl) (gx 0).cells.toList _ (fun W' hS => HR0.out W' hS) Tryz.underlying49 rfl infoExN)) ?_
  refine WQ.take (.agg arr) (yieldsIn_of_if (yieldsIf_load_mid (by kernel_rfl) 86 (.tmp 3) rfl (B + 1) 0 (by rfl) arr.toList _ (fun W' hS => HRA.out W' hS) Tryz.underlying86 rfl hi2)) ?_
  refine WQ.take (.bool false) (.inl ⟨by kernel_rfl,fun W' hS => by go_simp <;> exact (HCALL0.out W' hS).mono fun e W'' ⟨h1,h2⟩ => ⟨h1,hS.trans (h2.mono hS.size)⟩⟩) ?_
  refine WQ.nil ?_
  intro W9 hS9
  have hs9:=hS9.size
  have b9:=b1.trans (hS9.mono (by have := S1.out; omega))
  go_simp
  go_upto_region 13 with fail
  have HC8b:=Lib.hid fun W' (h : Below W9.heap.size W9 W') => HC8.out W' (hS9.trans (h.mono hS9.size))
  have HRAb:=Lib.hid fun W' (h : Below W9.heap.size W9 W') => HRA.out W' (hS9.trans (h.mono hS9.size))
  have HRb:=Lib.hid fun W' (h : Below W9.heap.size W9 W') => HR2.out W' (hS9.trans (h.mono hS9.size))
  have HCALLb:=Lib.hid fun W' (h : Below W9.heap.size W9 W') => HCALL2.out W' (hS9.trans (h.mono hS9.size))
  clear HC8 HRA HR0 HR1 HR2 HCALL0 HCALL1 HCALL2 hS9 c0 c1 c2 c3 c4 c5 c6 c7 c8
  refine region_WQ (fun W' => Below W9.heap.size W9 W') (by kernel_rfl) (by kernel_rfl) ⟨rfl,rfl,rfl,Nat.le_refl _,fun _ _ => rfl⟩ ?_
  refine WQ.take (.pointer (some ⟨B,8,none⟩)) (.inl ⟨by kernel_rfl,fun W' hS => by go_simp <;> exact hS⟩) ?_
  refine WQ.take (.slice (some ⟨ab,ao,none⟩) 3 x8m) (.inl ⟨by kernel_rfl,fun W' hS => by have u:=HC8b.out W' hS; go_simp <;> exact hS⟩) ?_
  refine WQ.take (.pointer (some ⟨ab,ao + 18,none⟩)) (.inl ⟨by kernel_rfl,fun W' hS => by go_simp <;> exact hS⟩) ?_
  refine WQ.take ((gx 2).agg) (yieldsIn_of_if (yieldsIf_load_mid (by kernel_rfl) 49 (.tmp 74) rfl ab (ao + 18) (by go_simp) (gx 2).cells.toList _ (fun W' hS => HRb.out W' hS) Tryz.underlying49 rfl infoExN)) ?_
  refine WQ.take (.agg arr) (yieldsIn_of_if (yieldsIf_load_mid (by kernel_rfl) 86 (.tmp 3) rfl (B + 1) 0 (by go_simp) arr.toList _ (fun W' hS => HRAb.out W' hS) Tryz.underlying86 rfl hi2)) ?_
  refine WQ.take (.bool t2) (.inl ⟨by kernel_rfl,fun W' hS => by go_simp <;> exact (HCALLb.out W' hS).mono fun e W'' ⟨h1,h2⟩ => ⟨h1,hS.trans (h2.mono hS.size)⟩⟩) ?_
  refine WQ.take (.bool t2) (.inl ⟨by kernel_rfl,fun W' hS => by go_simp <;> exact hS⟩) ?_
  refine WQ.nil ?_
  intro W10 hS10
  have b10:=b9.trans (hS10.mono (by have := S1.out; omega))
  clear hS10
  go_simp
  go_wp2_with fail
  go_ret
  exact ⟨by simp,b10⟩
end Go.Proofs.YtlidpghnlloinaaGreatDoor
