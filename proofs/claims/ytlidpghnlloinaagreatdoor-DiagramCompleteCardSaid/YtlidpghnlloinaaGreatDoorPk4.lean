/- Contracts and plain laws, several texts in one (GFrac, GFrac2, GFCmp, ORC, GFr3, GCond). No conditions beyond those stated. -/
import Derived.Test.YtlidpghnlloinaaGreatDoorPk3
set_option maxRecDepth 100000
set_option maxHeartbeats 40000000
namespace Go.Proofs.YtlidpghnlloinaaGreatDoor
open Go.RowKit
set_option linter.unusedVariables false
abbrev Fv (u v : Value) : Value:=.agg #[.bool false,u,.bool false,v]
theorem isone_any (K : Nat) (v : Value) (n : Nat) (w : World) (h : Wd .u16 K w v n) (hK : K <= w.heap.size) : Calls Tryz.prog 200 #[Wv v] w fun e w' => e = .returned (.bool (n == 1)) /\ Below w.heap.size w w':=by
 rcases h with ⟨rfl,a,c,rfl,hc⟩ | ⟨h0,b,o,c,rfl,h1,hc,hb,h5⟩
 ·go_enter Tryz.func200,Tryz.ntmps200
  go_wp2_with fail
  go_ret
  exact ⟨rfl,(Below.refl _ w).alloc (Nat.le_refl _) _⟩
 ·have hlt : b < w.heap.size:=by omega
  have hne : ¬ b = w.heap.size:=by omega
  by_cases hn : n = 1
  ·subst hn
   go_enter Tryz.func200,Tryz.ntmps200
   go_wp2_with fail
   go_ret
   exact ⟨rfl,(Below.refl _ w).alloc (Nat.le_refl _) _⟩
  ·have hx : ((n : Int) == 1) = false:=by simp; omega
   have hy : (n == 1) = false:=by simp; omega
   rw [hy]
   go_enter Tryz.func200,Tryz.ntmps200
   go_wp2_with fail
   go_ret
   exact ⟨rfl,(Below.refl _ w).alloc (Nat.le_refl _) _⟩
theorem Wd.len {q : IntKind} {K : Nat} {w : World} {n : Nat} {a : Option Addr} {m c : Nat} (h : Wd q K w (.slice a m c) n) : m <= 1 /\ (m = 0 ↔ n = 0):=by
 rcases h with ⟨h0,a',c',e,_⟩ | ⟨h0,b',o',c',e,_⟩
 ·simp only [Value.slice.injEq] at e; omega
 ·simp only [Value.slice.injEq] at e; omega
theorem fdivisor_any (K : Nat) (u v : Value) (m n : Nat) (w : World) (hu : Wd .u16 K w u m) (hv : Wd .u16 K w v n) (hK : K <= w.heap.size) (hm : m < 65536) (hn : n < 65536) :
  Calls Tryz.prog 201 #[Wv u,Wv v] w fun e w' => ∃ v',e = .returned (Wv v') /\ Wd .u16 w'.heap.size w' v' (Nat.gcd m n) /\ Below w.heap.size w w' /\ NewV w.heap.size v':=by
 obtain ⟨ua,um,uc,rfl⟩:=hu.form
 obtain ⟨va,vm,vc,rfl⟩:=hv.form
 obtain ⟨W1,hW1⟩ : ∃ W1,((w.alloc (.cells #[.bool false,.slice ua um uc] 43)).alloc (.cells #[.bool false,.slice va vm vc] 43)).alloc (.cells #[.bool false,.slice none 0 0] 43) = W1:=⟨_,rfl⟩
 obtain ⟨b1,q0,q1,q2,s1⟩:=alloc3 w _ _ _ _ _ _ hW1
 have HW:=Lib.hid hW1
 obtain ⟨B,hB⟩ : ∃ B,w.heap.size = B:=⟨_,rfl⟩
 have HB:=Lib.hid hB
 rw [hB] at hK b1 q0 q1 q2 s1 ⊢
 have hc:=wgcd_any B _ _ m n W1 (hu.below b1 hK hK) (hv.below b1 hK hK) (by omega) hm hn
 clear hB hW1
 go_enter Tryz.func201,Tryz.ntmps201
 go_wp2_with fail
 simp only [HB.out,Nat.add_assoc,Nat.reduceAdd]
 rw [HW.out]
 refine hc.mono ?_
 rintro e w2 ⟨p,rfl,hp,hb2,hnw⟩
 obtain ⟨pa,pm,pc,rfl⟩:=hp.form
 have b2 : Below B w w2:=b1.trans (hb2.mono (by omega))
 have hs2:=hb2.size
 have q2:=q2.below hb2 q2.lt
 obtain ⟨d0,d1⟩:=q2.two
 have f0:=q2.free 0
 have f1:=q2.free 1
 have hlt:=q2.lt
 have hne : ¬ B + 2 = w2.heap.size:=by omega
 clear hc
 go_wp2_with fail
 have q3:=((q2.alloc (.cells #[.bool false,.slice pa pm pc] 43)).set (i:=0) (.bool false)).set (i:=1) (.slice pa pm pc)
 have q4:=((q2.set (i:=0) (.bool false)).set (i:=1) (.slice pa pm pc)).alloc (.cells #[.bool false,.slice pa pm pc] 43)
 obtain ⟨e0,e1⟩:=q3.two
 obtain ⟨e2,e3⟩:=q4.two
 refine bodyPost_ret (v:=Wv (.slice pa pm pc)) (by simp [results,Tryz.results201,go_sem,e2,e3]) rfl ?_
 have ws:=((hp.set (r:=B + 2) (i:=0) (x:=.bool false) hnw (by omega)).set (r:=B + 2) (i:=1) (x:=.slice pa pm pc) hnw (by omega))
 have b3:=(((Below.refl B w2).setCell (p:=⟨B + 2,0,none⟩) (by simp) (.bool false)).setCell (p:=⟨B + 2,1,none⟩) (by simp) (.slice pa pm pc)).alloc (by simp [World.setCell]; omega) (.cells #[.bool false,.slice pa pm pc] 43)
 exact ⟨_,rfl,ws.below ((Below.refl _ _).alloc (Nat.le_refl _) _) (by simp [World.setCell]) (by simp [World.setCell]),b2.trans b3,hnw.mono (by omega)⟩
theorem ftimes_any (K : Nat) (u v : Value) (m n : Nat) (w : World) (hu : Wd .u16 K w u m) (hv : Wd .u16 K w v n) (hK : K <= w.heap.size) (hmn : m * n < 65536) (hm : m < 65536) (hn : n < 65536) :
  Calls Tryz.prog 187 #[Wv u,Wv v] w fun e w' => ∃ v',e = .returned (Wv v') /\ Wd .u16 w'.heap.size w' v' (m * n) /\ Below w.heap.size w w' /\ NewV w.heap.size v':=by
 obtain ⟨ua,um,uc,rfl⟩:=hu.form
 obtain ⟨va,vm,vc,rfl⟩:=hv.form
 obtain ⟨W1,hW1⟩ : ∃ W1,((w.alloc (.cells #[.bool false,.slice ua um uc] 43)).alloc (.cells #[.bool false,.slice va vm vc] 43)).alloc (.cells #[.bool false,.slice none 0 0] 43) = W1:=⟨_,rfl⟩
 obtain ⟨b1,q0,q1,q2,s1⟩:=alloc3 w _ _ _ _ _ _ hW1
 have HW:=Lib.hid hW1
 obtain ⟨B,hB⟩ : ∃ B,w.heap.size = B:=⟨_,rfl⟩
 have HB:=Lib.hid hB
 rw [hB] at hK b1 q0 q1 q2 s1 ⊢
 have hc:=wmul_any B _ _ m n W1 (hu.below b1 hK hK) (hv.below b1 hK hK) (by omega) hmn hm hn
 clear hB hW1
 go_enter Tryz.func187,Tryz.ntmps187
 go_wp2_with fail
 simp only [HB.out,Nat.add_assoc,Nat.reduceAdd]
 rw [HW.out]
 refine hc.mono ?_
 rintro e w2 ⟨p,rfl,hp,hb2,hnw⟩
 obtain ⟨pa,pm,pc,rfl⟩:=hp.form
 have b2 : Below B w w2:=b1.trans (hb2.mono (by omega))
 have hs2:=hb2.size
 have q2:=q2.below hb2 q2.lt
 obtain ⟨d0,d1⟩:=q2.two
 have f0:=q2.free 0
 have f1:=q2.free 1
 have hlt:=q2.lt
 have hne : ¬ B + 2 = w2.heap.size:=by omega
 clear hc
 go_wp2_with fail
 have q3:=((q2.alloc (.cells #[.bool false,.slice pa pm pc] 43)).set (i:=0) (.bool false)).set (i:=1) (.slice pa pm pc)
 have q4:=((q2.set (i:=0) (.bool false)).set (i:=1) (.slice pa pm pc)).alloc (.cells #[.bool false,.slice pa pm pc] 43)
 obtain ⟨e0,e1⟩:=q3.two
 obtain ⟨e2,e3⟩:=q4.two
 refine bodyPost_ret (v:=Wv (.slice pa pm pc)) (by simp [results,Tryz.results187,go_sem,e2,e3]) rfl ?_
 have ws:=((hp.set (r:=B + 2) (i:=0) (x:=.bool false) hnw (by omega)).set (r:=B + 2) (i:=1) (x:=.slice pa pm pc) hnw (by omega))
 have b3:=(((Below.refl B w2).setCell (p:=⟨B + 2,0,none⟩) (by simp) (.bool false)).setCell (p:=⟨B + 2,1,none⟩) (by simp) (.slice pa pm pc)).alloc (by simp [World.setCell]; omega) (.cells #[.bool false,.slice pa pm pc] 43)
 exact ⟨_,rfl,ws.below ((Below.refl _ _).alloc (Nat.le_refl _) _) (by simp [World.setCell]) (by simp [World.setCell]),b2.trans b3,hnw.mono (by omega)⟩
theorem flong_any (K : Nat) (u v : Value) (m n : Nat) (w : World) (hu : Wd .u16 K w u m) (hv : Wd .u16 K w v n) : Calls Tryz.prog 197 #[Fv u v] w fun e w' => e = .returned (.bool false) /\ Below w.heap.size w w':=by
 obtain ⟨ua,um,uc,rfl⟩:=hu.form
 obtain ⟨va,vm,vc,rfl⟩:=hv.form
 have h1 : decide ((256 : Int) < (um : Int)) = false:=by have := hu.len; simp; omega
 have h2 : decide ((256 : Int) < (vm : Int)) = false:=by have := hv.len; simp; omega
 go_enter Tryz.func197,Tryz.ntmps197
 go_wp2_with fail
 go_ret
 exact ⟨rfl,(Below.refl _ w).alloc (Nat.le_refl _) _⟩
theorem fintegral_any (K : Nat) (u v : Value) (n : Nat) (w : World) (hu : u.oneCell' = true) (hv : Wd .u16 K w v n) (hK : K <= w.heap.size) : Calls Tryz.prog 199 #[Fv u v] w fun e w' => e = .returned (.bool (n == 1)) /\ Below w.heap.size w w':=by
 obtain ⟨va,vm,vc,rfl⟩:=hv.form
 have b1 : Below w.heap.size w (w.alloc (.cells #[.bool false,u,.bool false,.slice va vm vc] 211)):=(Below.refl _ _).alloc (Nat.le_refl _) _
 have hc:=isone_any w.heap.size _ n _ (hv.below b1 hK hK) (by simp)
 obtain ⟨r,hr⟩ : ∃ r,(n == 1) = r:=⟨_,rfl⟩
 rw [hr] at hc ⊢
 clear hr
 cases u <;> simp [Value.oneCell'] at hu
 all_goals
  go_enter Tryz.func199,Tryz.ntmps199
  go_wp2_with fail
  refine hc.mono ?_
  rintro e w2 ⟨rfl,hb2⟩
  go_wp2_with fail
  go_ret
  exact ⟨rfl,b1.trans (hb2.mono (by simp))⟩
def FrOk (m n : Nat) : Prop:=m < 65536 /\ n < 65536 /\ 0 < n /\ (n = 1 \/ Nat.gcd m n = 1)
theorem fvalid_any (K : Nat) (u v : Value) (m n : Nat) (w : World) (hu : Wd .u16 K w u m) (hv : Wd .u16 K w v n) (hK : K <= w.heap.size) (ho : FrOk m n) :
  Calls Tryz.prog 174 #[Fv u v] w fun e w' => e = .returned (.bool true) /\ Below w.heap.size w w':=by
 obtain ⟨hm,hn,hn0,hg⟩:=ho
 obtain ⟨ua,um,uc,rfl⟩:=hu.form
 obtain ⟨va,vm,vc,rfl⟩:=hv.form
 have hvm : vm = 1:=by have := hv.len; omega
 subst hvm
 obtain ⟨W1,hW1⟩ : ∃ W1,w.alloc (.cells #[.bool false,.slice ua um uc,.bool false,.slice va 1 vc] 211) = W1:=⟨_,rfl⟩
 have q1 : Blk W1 w.heap.size #[.bool false,.slice ua um uc,.bool false,.slice va 1 vc] 211:=by rw [<- hW1]; exact Blk.new w _ _
 have b1 : Below w.heap.size w W1:=by rw [<- hW1]; exact (Below.refl _ _).alloc (Nat.le_refl _) _
 have s1 : W1.heap.size = w.heap.size + 1:=by rw [<- hW1]; simp
 obtain ⟨B,hB⟩ : ∃ B,w.heap.size = B:=⟨_,rfl⟩
 have HB:=Lib.hid hB
 have HW:=Lib.hid hW1
 rw [hB] at hK b1 q1 s1 ⊢
 clear hB hW1
 go_enter Tryz.func174,Tryz.ntmps174
 go_upto_region 1 with fail
 simp only [HB.out]
 rw [HW.out]
 obtain ⟨c0,c1,c2,c3⟩:=q1.four
 go_wp2_with fail
 refine (flong_any B _ _ m n W1 (hu.below b1 hK hK) (hv.below b1 hK hK)).mono ?_
 rintro e w2 ⟨rfl,hb2⟩
 clear c0 c1 c2 c3
 have b2 : Below B w w2:=b1.trans (hb2.mono (by omega))
 have q2:=q1.below hb2 q1.lt
 obtain ⟨c0,c1,c2,c3⟩:=q2.four
 go_wp2_with fail
 refine (wvalid_any B _ m w2 (hu.below b2 hK hK) (by have := hb2.size; omega)).mono ?_
 rintro e w3 ⟨rfl,hb3⟩
 clear c0 c1 c2 c3
 have b3 : Below B w w3:=b2.trans (hb3.mono (by have := hb2.size; omega))
 have q3:=q2.below hb3 q2.lt
 obtain ⟨c0,c1,c2,c3⟩:=q3.four
 have l3:=q3.lt
 go_wp2_with fail
 refine (wvalid_any B _ n w3 (hv.below b3 hK hK) (by omega)).mono ?_
 rintro e w4 ⟨rfl,hb4⟩
 clear c0 c1 c2 c3
 have b4 : Below B w w4:=b3.trans (hb4.mono (by omega))
 have q4:=q3.below hb4 q3.lt
 obtain ⟨c0,c1,c2,c3⟩:=q4.four
 have l4:=q4.lt
 have hi:=fintegral_any B (.slice ua um uc) _ n w4 rfl (hv.below b4 hK hK) (by omega)
 by_cases h1 : n = 1
 ·subst h1
  go_wp2_with fail
  refine hi.mono ?_
  rintro e w5 ⟨rfl,hb5⟩
  go_wp2_with fail
  go_ret
  exact ⟨rfl,b4.trans (hb5.mono (by omega))⟩
 ·have hx : (n == 1) = false:=by simp; omega
  have hgg : Nat.gcd m n = 1:=by omega
  rw [hx] at hi
  go_wp2_with fail
  refine hi.mono ?_
  rintro e w5 ⟨rfl,hb5⟩
  clear c0 c1 c2 c3 hi
  have b5 : Below B w w5:=b4.trans (hb5.mono (by omega))
  have q5:=q4.below hb5 q4.lt
  obtain ⟨c0,c1,c2,c3⟩:=q5.four
  have l5:=q5.lt
  have hd:=fdivisor_any B _ _ m n w5 (hu.below b5 hK hK) (hv.below b5 hK hK) (by omega) hm hn
  rw [hgg] at hd
  clear hgg
  go_wp2_with fail
  refine hd.mono ?_
  rintro e w6 ⟨p,rfl,hp,hb6,_⟩
  have ho:=isone_any w6.heap.size p 1 w6 hp (Nat.le_refl _)
  obtain ⟨pa,pm,pc,rfl⟩:=hp.form
  clear hd
  go_wp2_with fail
  refine ho.mono ?_
  rintro e w7 ⟨rfl,hb7⟩
  go_wp2_with fail
  go_ret
  exact ⟨rfl,b5.trans ((hb6.mono (by omega)).trans (hb7.mono (by have := hb6.size; omega)))⟩
theorem fValid_any (K : Nat) (u v : Value) (m n : Nat) (w : World) (hu : Wd .u16 K w u m) (hv : Wd .u16 K w v n) (hK : K <= w.heap.size) (ho : FrOk m n) :
  Calls Tryz.prog 134 #[Fv u v] w fun e w' => e = .returned (.bool true) /\ Below w.heap.size w w':=by
 have b1 : Below w.heap.size w (w.alloc (.cells #[.bool false,u,.bool false,v] 45)):=(Below.refl _ _).alloc (Nat.le_refl _) _
 have hc:=fvalid_any w.heap.size u v m n _ (hu.below b1 hK hK) (hv.below b1 hK hK) (by simp) ho
 obtain ⟨ua,um,uc,rfl⟩:=hu.form
 obtain ⟨va,vm,vc,rfl⟩:=hv.form
 go_enter Tryz.func134,Tryz.ntmps134
 go_wp2_with fail
 refine hc.mono ?_
 rintro e w2 ⟨rfl,hb2⟩
 go_wp2_with fail
 go_ret
 exact ⟨rfl,b1.trans (hb2.mono (by simp))⟩
theorem fNot_any (K : Nat) (u v : Value) (m n : Nat) (w : World) (hu : Wd .u16 K w u m) (hv : Wd .u16 K w v n) (hK : K <= w.heap.size) (ho : FrOk m n) :
  Calls Tryz.prog 209 #[Fv u v] w fun e w' => e = .returned (.bool false) /\ Below w.heap.size w w':=by
 have b1 : Below w.heap.size w (w.alloc (.cells #[.bool false,u,.bool false,v] 45)):=(Below.refl _ _).alloc (Nat.le_refl _) _
 have hc:=fValid_any w.heap.size u v m n _ (hu.below b1 hK hK) (hv.below b1 hK hK) (by simp) ho
 obtain ⟨ua,um,uc,rfl⟩:=hu.form
 obtain ⟨va,vm,vc,rfl⟩:=hv.form
 go_enter Tryz.func209,Tryz.ntmps209
 go_wp2_with fail
 refine hc.mono ?_
 rintro e w2 ⟨rfl,hb2⟩
 go_wp2_with fail
 go_ret
 exact ⟨rfl,b1.trans (hb2.mono (by simp))⟩
theorem Blk.eight {w : World} {b t : Nat} {x0 x1 x2 x3 x4 x5 x6 x7 : Value} (h : Blk w b #[x0,x1,x2,x3,x4,x5,x6,x7] t) : w.cell? ⟨b,0,none⟩ = some x0 /\ w.cell? ⟨b,1,none⟩ = some x1 /\ w.cell? ⟨b,2,none⟩ = some x2 ∧
  w.cell? ⟨b,3,none⟩ = some x3 /\ w.cell? ⟨b,4,none⟩ = some x4 /\ w.cell? ⟨b,5,none⟩ = some x5 /\ w.cell? ⟨b,6,none⟩ = some x6 /\ w.cell? ⟨b,7,none⟩ = some x7 :=
 ⟨h.at rfl,h.at rfl,h.at rfl,h.at rfl,h.at rfl,h.at rfl,h.at rfl,h.at rfl⟩
theorem idxFrac_any (K b : Nat) (u v x y : Value) (m n p q : Nat) (w : World) (hu : Wd .u16 K w u m) (hv : Wd .u16 K w v n) (hx : Wd .u16 K w x p) (hy : Wd .u16 K w y q) (hK : K <= w.heap.size) (h1 : FrOk m n) (h2 : FrOk p q)
  (hq : Blk w b #[.bool false,u,.bool false,v,.bool false,x,.bool false,y] 45) :
  Calls Tryz.prog 237 #[.slice (some ⟨b,0,none⟩) 2 2,.func (.func 209) #[] #[]] w fun e w' => e = .returned (.int .i64 (-1)) /\ Below w.heap.size w w':=by
 have hcf:=fNot_any K u v m n w hu hv hK h1
 have hb:=hq.lt
 have hc2 : ∀ W,Below w.heap.size w W -> Calls Tryz.prog 209 #[Fv x y] W fun e w' => e = .returned (.bool false) /\ Below W.heap.size W w':=fun W hb => fNot_any W.heap.size x y p q W (hx.below hb hK (Nat.le_trans hK hb.size)) (hy.below hb hK (Nat.le_trans hK hb.size)) (Nat.le_refl _) h2
 obtain ⟨ua,um,uc,rfl⟩:=hu.form
 obtain ⟨va,vm,vc,rfl⟩:=hv.form
 obtain ⟨xa,xm,xc,rfl⟩:=hx.form
 obtain ⟨ya,ym,yc,rfl⟩:=hy.form
 obtain ⟨d0,d1,d2,d3,d4,d5,d6,d7⟩:=hq.eight
 go_enter Tryz.func237,Tryz.ntmps237
 go_wp2_with fail
 refine wp_loop_rounds 3 ?_
 rw [rounds_succ]
 go_wp2_with fail
 refine hcf.mono ?_
 rintro e w2 ⟨rfl,hb2⟩
 clear d0 d1 d2 d3 d4 d5 d6 d7
 obtain ⟨d0,d1,d2,d3,d4,d5,d6,d7⟩:=(hq.below hb2 hb).eight
 go_wp2_with fail
 rw [rounds_succ]
 go_wp2_with fail
 refine (hc2 w2 hb2).mono ?_
 rintro e w3 ⟨rfl,hb3⟩
 go_wp2_with fail
 rw [rounds_succ]
 go_wp2_with fail
 go_ret
 exact ⟨rfl,hb2.trans (hb3.mono hb2.size)⟩
theorem fallvalid_any (K b : Nat) (u v x y : Value) (m n p q : Nat) (w : World) (hu : Wd .u16 K w u m) (hv : Wd .u16 K w v n) (hx : Wd .u16 K w x p) (hy : Wd .u16 K w y q) (hK : K <= w.heap.size) (h1 : FrOk m n) (h2 : FrOk p q)
  (hq : Blk w b #[.bool false,u,.bool false,v,.bool false,x,.bool false,y] 45) :
  Calls Tryz.prog 184 #[.slice (some ⟨b,0,none⟩) 2 2] w fun e w' => e = .returned (.bool true) /\ Below w.heap.size w w':=by
 have hi:=idxFrac_any K b u v x y m n p q w hu hv hx hy hK h1 h2 hq
 have hc : Calls Tryz.prog 208 #[.slice (some ⟨b,0,none⟩) 2 2,.func (.func 209) #[] #[]] w fun e w' => e = .returned (.bool false) /\ Below w.heap.size w w':=by
  go_enter Tryz.func208,Tryz.ntmps208
  go_wp2_with fail
  refine hi.mono ?_
  rintro e w2 ⟨rfl,hb2⟩
  go_wp2_with fail
  go_ret
  exact ⟨rfl,hb2⟩
 clear hi
 go_enter Tryz.func184,Tryz.ntmps184
 go_wp2_with fail
 refine hc.mono ?_
 rintro e w2 ⟨rfl,hb2⟩
 go_wp2_with fail
 go_ret
 exact ⟨rfl,hb2⟩
theorem fcmp_any (K : Nat) (u v x y : Value) (m n p q : Nat) (w : World) (hu : Wd .u16 K w u m) (hv : Wd .u16 K w v n) (hx : Wd .u16 K w x p) (hy : Wd .u16 K w y q) (hK : K <= w.heap.size) (h1 : FrOk m n) (h2 : FrOk p q) (hmn3 : m * q < 65536) (hmn4 : p * n < 65536) :
  Calls Tryz.prog 164 #[Fv u v,Fv x y] w fun e w' => e = .returned (.int .i64 (if m * q < p * n then -1 else if p * n < m * q then 1 else 0)) /\ Below w.heap.size w w':=by
 obtain ⟨cv,hcv⟩ : ∃ cv : Int,(if m * q < p * n then (-1 : Int) else if p * n < m * q then 1 else 0) = cv:=⟨_,rfl⟩
 have HCV:=Lib.hid hcv
 rw [hcv]
 clear hcv
 obtain ⟨ua,um,uc,rfl⟩:=hu.form
 obtain ⟨va,vm,vc,rfl⟩:=hv.form
 obtain ⟨xa,xm,xc,rfl⟩:=hx.form
 obtain ⟨ya,ym,yc,rfl⟩:=hy.form
 obtain ⟨W1,hW1⟩ : ∃ W1,((w.alloc (.cells #[.bool false,.slice ua um uc,.bool false,.slice va vm vc] 45)).alloc (.cells #[.bool false,.slice xa xm xc,.bool false,.slice ya ym yc] 45)).alloc (.cells #[.bool false,.slice ua um uc,.bool false,.slice va vm vc,.bool false,.slice xa xm xc,.bool false,.slice ya ym yc] 45) = W1:=⟨_,rfl⟩
 obtain ⟨b1,q0,q1,q2,s1⟩:=alloc3 w _ _ _ _ _ _ hW1
 have HW:=Lib.hid hW1
 obtain ⟨B,hB⟩ : ∃ B,w.heap.size = B:=⟨_,rfl⟩
 have HB:=Lib.hid hB
 rw [hB] at hK b1 q0 q1 q2 s1 ⊢
 have hav:=fallvalid_any B (B + 2) _ _ _ _ m n p q W1 (hu.below b1 hK hK) (hv.below b1 hK hK) (hx.below b1 hK hK) (hy.below b1 hK hK) (by omega) h1 h2 q2
 clear hB hW1
 go_enter Tryz.func164,Tryz.ntmps164
 go_wp2_with fail
 simp only [HB.out,Nat.add_assoc,Nat.reduceAdd]
 rw [HW.out]
 refine hav.mono ?_
 rintro e w2 ⟨rfl,hb2⟩
 clear hav
 have b2 : Below B w w2:=b1.trans (hb2.mono (by omega))
 have hs2:=hb2.size
 have q0:=q0.below hb2 q0.lt
 have q1:=q1.below hb2 q1.lt
 have hu2:=hu.below b2 hK (show K <= w2.heap.size by omega)
 have hu3 : Wd .u16 w2.heap.size w2 (.slice ua um uc) m:=hu2.below (Below.refl w2.heap.size _) (by omega) (by omega)
 have hv2:=hv.below b2 hK (show K <= w2.heap.size by omega)
 have hv3 : Wd .u16 w2.heap.size w2 (.slice va vm vc) n:=hv2.below (Below.refl w2.heap.size _) (by omega) (by omega)
 have hx2:=hx.below b2 hK (show K <= w2.heap.size by omega)
 have hx3 : Wd .u16 w2.heap.size w2 (.slice xa xm xc) p:=hx2.below (Below.refl w2.heap.size _) (by omega) (by omega)
 have hy2:=hy.below b2 hK (show K <= w2.heap.size by omega)
 have hy3 : Wd .u16 w2.heap.size w2 (.slice ya ym yc) q:=hy2.below (Below.refl w2.heap.size _) (by omega) (by omega)
 go_upto_region 3 with fail
 refine region_plain (fun W' => Below w2.heap.size w2 W') [] (by kernel_rfl) ?_
 have qS : (fun W' => Below w2.heap.size w2 W') w2.drew:=below_quiet (Below.refl _ _)
 refine wpAnyD_tp (i:=0) (v:=.pointer (some ⟨B,0,none⟩)) rfl qS ?_
 refine wpAnyD_tk (i:=1) (v:=.agg #[.bool false,.slice ua um uc]) rfl (.inl ⟨by kernel_rfl,fun W' hS => by have d0:=(q0.below hS q0.lt).at (i:=0) rfl; have d1:=(q0.below hS q0.lt).at (i:=1) rfl; go_simp⟩) qS ?_
 refine wpAnyD_tp (i:=2) (v:=.pointer (some ⟨B + 1,2,none⟩)) rfl qS ?_
 refine wpAnyD_tk (i:=3) (v:=.agg #[.bool false,.slice ya ym yc]) rfl (.inl ⟨by kernel_rfl,fun W' hS => by have d0:=(q1.below hS q1.lt).at (i:=2) rfl; have d1:=(q1.below hS q1.lt).at (i:=3) rfl; go_simp⟩) qS ?_
 refine wpAnyD_tp (i:=5) (v:=.pointer (some ⟨B + 1,0,none⟩)) rfl qS ?_
 refine wpAnyD_tk (i:=6) (v:=.agg #[.bool false,.slice xa xm xc]) rfl (.inl ⟨by kernel_rfl,fun W' hS => by have d0:=(q1.below hS q1.lt).at (i:=0) rfl; have d1:=(q1.below hS q1.lt).at (i:=1) rfl; go_simp⟩) qS ?_
 refine wpAnyD_tp (i:=7) (v:=.pointer (some ⟨B,2,none⟩)) rfl qS ?_
 refine wpAnyD_tk (i:=8) (v:=.agg #[.bool false,.slice va vm vc]) rfl (.inl ⟨by kernel_rfl,fun W' hS => by have d0:=(q0.below hS q0.lt).at (i:=2) rfl; have d1:=(q0.below hS q0.lt).at (i:=3) rfl; go_simp⟩) qS ?_
 refine wpAnyD_one (i:=4) (by kernel_rfl) rfl (by kernel_rfl) ?_
 go_simp
 refine (ftimes_any w2.heap.size _ _ m q _ (hu3.below qS (Nat.le_refl _) (Nat.le_refl _)) (hy3.below qS (Nat.le_refl _) (Nat.le_refl _)) qS.size hmn3 (by have := h1.1; have := h2.1; omega) (by have := h1.2.1; have := h2.2.1; omega)).mono ?_
 rintro e w3 ⟨p3,rfl,hp3,hb3,hn3⟩
 have qS3 : Below w2.heap.size w2 w3:=qS.trans (hb3.mono qS.size)
 obtain ⟨a3,m3,c3,rfl⟩:=hp3.form
 go_simp
 refine wpAnyD_one (i:=9) (by kernel_rfl) rfl (by kernel_rfl) ?_
 go_simp
 refine (ftimes_any w2.heap.size _ _ p n _ (hx3.below qS3 (Nat.le_refl _) (Nat.le_refl _)) (hv3.below qS3 (Nat.le_refl _) (Nat.le_refl _)) qS3.size hmn4 (by have := h1.1; have := h2.1; omega) (by have := h1.2.1; have := h2.2.1; omega)).mono ?_
 rintro e w4 ⟨p4,rfl,hp4,hb4,hn4⟩
 have qS4 : Below w2.heap.size w2 w4:=qS3.trans (hb4.mono qS3.size)
 obtain ⟨a4,m4,c4,rfl⟩:=hp4.form
 go_simp
 refine wpAnyD_one (i:=10) (by kernel_rfl) rfl (by kernel_rfl) ?_
 go_simp
 have hc:=wcmp_any w4.heap.size _ _ (m * q) (p * n) _ (hp3.below hb4 (Nat.le_refl _) hb4.size) hp4 (Nat.le_refl _) hmn3 hmn4
 rw [HCV.out] at hc
 refine hc.mono ?_
 rintro e w5 ⟨rfl,hb5⟩
 have qS5 : Below w2.heap.size w2 w5:=qS4.trans (hb5.mono qS4.size)
 go_simp
 refine wpAnyD_one (i:=11) (by kernel_rfl) rfl (by kernel_rfl) ?_
 go_simp
 refine wpAnyD_done (by kernel_rfl) ?_ _
 go_wp2_with fail
 go_ret
 exact ⟨rfl,b2.trans (qS5.mono (by omega))⟩
section
variable {P : Program} {ops : Array Oper} {Q : Exit -> Act -> World -> Prop} {md : Region.Mode} {S : World -> Prop} {D : List Nat}
theorem wpAnyD_firstC {C : List Nat} (hDC : ∀ j ∈ D,j ∈ C) {i : Nat} {oi : Oper} {v : Value} (hi : ops[i]? = some oi) (hsel : ∀ (j : Nat) (o : Oper) cs b,ops[j]? = some o -> o.op ≠ .select cs b)
  (hQ : ∀ c a w,Q (.panic c) (a.put oi.dst v) w -> Q (.panic c) a w)
  (hD : ∀ j oj,ops[j]? = some oj -> j ∈ C -> ∃ e ∈ oj.after,Region.binds md e = true /\ (e.on = i \/ e.on ∈ C)) :
  ∀ (fuel : Nat) (listed : Array Bool) (a : Act) (w : World),
   (∀ j oj,ops[j]? = some oj -> j ≠ i -> listed.getD j true = false -> (∀ e ∈ oj.after,Region.binds md e = true -> e.on ≠ i) -> oi.apart ops oj = true) →
   (∀ j ∈ C,listed.getD j false = false) →
   i ∈ Region.ready md ops listed -> YieldsIf P ops S oi v a -> S w →
   wpAnyD P md ops Q S D fuel (listed.setIfInBounds i true) (a.put oi.dst v) w -> wpAnyD P md ops Q S D (fuel + 1) listed a w:=by
 intro fuel
 induction fuel with
 | zero =>
  intro listed a w _ _ hr hy hS H
  refine ⟨fun h => (by rw [h] at hr; cases hr),fun j hj => ?_⟩
  by_cases hji : j = i
  ·subst hji; exact hy.wpOp hi hS ⟨fun _ => hS,H⟩
  ·have := ready_mono hj hji
   rw [H.1] at this
   cases this
 | succ fuel ih =>
  intro listed a w hfree hinv hr hy hS H
  refine ⟨fun h => (by rw [h] at hr; cases hr),fun j hj => ?_⟩
  by_cases hji : j = i
  ·subst hji; exact hy.wpOp hi hS ⟨fun _ => hS,H⟩
  ·have h1:=H.2 j (ready_mono hj hji)
   obtain ⟨hjun,oj,hoj,hall⟩:=mem_ready.1 hj
   have hlisted : ∀ k,listed.getD k false = true -> listed.getD k true = true:=fun k hk => by
    rcases Nat.lt_or_ge k listed.size with h' | h'
    ·simpa [h'] using hk
    ·simp [Array.getElem?_eq_none h']
   have hnot : ∀ e ∈ oj.after,Region.binds md e = true -> e.on ≠ i:=fun e he hb heq => by
    have h1:=hall e he hb
    have h0:=(mem_ready.1 hr).1
    rw [heq] at h1
    have := hlisted _ h1
    rw [h0] at this; cases this
   have hjC : j ∉ C:=fun hjD => by
    obtain ⟨e,he,hb,h⟩:=hD j oj hoj hjD
    rcases h with h | h
    ·exact hnot e he hb h
    ·have h1:=hall e he hb
     rw [hinv _ h] at h1; cases h1
   have h2:=wpOp_putIf hoj (hfree j oj hoj hji hjun hnot) (fun cs b => hsel i oi cs b hi) (fun cs b => hsel j oj cs b hoj) hQ hy h1
   have hfree' : ∀ k ok,ops[k]? = some ok -> k ≠ i -> (listed.setIfInBounds j true).getD k true = false →
     (∀ e ∈ ok.after,Region.binds md e = true -> e.on ≠ i) -> oi.apart ops ok = true:=fun k ok hk hki hun hno => by
    refine hfree k ok hk hki ?_ hno
    by_cases hjk : j = k
    ·subst hjk; exact hjun
    ·rw [getD_set_ne true hjk] at hun; exact hun
   have hjD : j ∉ D:=fun h => hjC (hDC j h)
   have hinv' : ∀ k ∈ C,(listed.setIfInBounds j true).getD k false = false:=fun k hk => by
    have hne : j ≠ k:=fun e => hjC (e ▸ hk)
    have := hinv k hk
    rw [Array.getD_eq_getD_getElem?] at this ⊢
    rw [Array.getElem?_setIfInBounds_ne hne]
    exact this
   refine wpOp_mono (fun a' w' h3 => ⟨fun _ => h3.2.1 hjD,ih (listed.setIfInBounds j true) a' w' hfree' hinv' (ready_mono hr (Ne.symm hji)) h3.1 (h3.2.1 hjD) ?_⟩) h2
   rw [Array.setIfInBounds_comm _ _ hji]
   exact h3.2.2
theorem wpAnyD_takeC (C : List Nat) {i : Nat} {oi : Oper} {v : Value} {fuel : Nat} {listed : Array Bool} {a : Act} {w : World} (hi : ops[i]? = some oi)
  (hs : Region.noSelect ops = true) (hf : Region.free md ops listed i = true) (hr : (Region.ready md ops listed).contains i = true) (hm : marksWait md ops C i = true) (ho : marksOpen C listed = true) (hDC : (D.all fun j => C.contains j) = true)
  (hQ : ∀ c a w,Q (.panic c) (a.put oi.dst v) w -> Q (.panic c) a w) (hy : YieldsIf P ops S oi v a) (hS : S w)
  (h : wpAnyD P md ops Q S D fuel (listed.setIfInBounds i true) (a.put oi.dst v) w) : wpAnyD P md ops Q S D (fuel + 1) listed a w:=by
 refine wpAnyD_firstC (C:=C) (fun j hj => by simpa using List.all_eq_true.1 hDC j hj) hi (Region.noSelect_spec hs) hQ ?_ fuel listed a w (Region.free_spec hi hf) ?_ (by simpa using hr) hy hS h
 ·intro j oj hoj hjD
  unfold marksWait at hm
  rw [List.all_eq_true] at hm
  have := hm j hjD
  simp only [hoj,Array.any_eq_true'] at this
  obtain ⟨e,he,hb⟩:=this
  simp only [Bool.and_eq_true,Bool.or_eq_true,beq_iff_eq,List.contains_iff_mem] at hb
  exact ⟨e,he,hb.1,hb.2⟩
 ·intro j hj
  unfold marksOpen at ho
  rw [List.all_eq_true] at ho
  simpa using ho j hj
theorem wpAnyD_two {i j : Nat} {o o' : Oper} {fuel : Nat} {listed : Array Bool} {a : Act} {w : World} (hr : Region.ready md ops listed = [i,j]) (ho : ops[i]? = some o) (ho' : ops[j]? = some o')
  (hw : Region.wanted o (yielded ops a.tmps) = true) (hw' : Region.wanted o' (yielded ops a.tmps) = true)
  (h : o.wp P a w (fun a' w' => (i ∉ D -> S w') /\ wpAnyD P md ops Q S D fuel (listed.setIfInBounds i true) a' w') Q)
  (h' : o'.wp P a w (fun a' w' => (j ∉ D -> S w') /\ wpAnyD P md ops Q S D fuel (listed.setIfInBounds j true) a' w') Q) : wpAnyD P md ops Q S D (fuel + 1) listed a w :=
 ⟨fun h0 => by rw [hr] at h0; simp at h0,fun k hk => by
  rw [hr] at hk
  simp only [List.mem_cons,List.not_mem_nil,or_false] at hk
  rcases hk with rfl | rfl
  ·exact wpOp_of ho hw h
  ·exact wpOp_of ho' hw' h'⟩
end
theorem below_set2 {B : Nat} {w w' : World} (h : Below B w w') {r : Nat} (hr : B <= r) (x y : Value) : Below B w ((w'.setCell ⟨r,0,none⟩ x).setCell ⟨r,1,none⟩ y):=(h.setCell (p:=⟨r,0,none⟩) hr x).setCell (p:=⟨r,1,none⟩) hr y
structure Vq where
 kd : Int
 g1 : Bool
 l1 : List Nat
 g2 : Bool
 l2 : List Nat
 i : Int
deriving DecidableEq,Inhabited
def v0 : Vq:=⟨0,false,[],false,[],0⟩
def lval : List Nat -> Nat
 | [] => 0
 | d :: r => d + 65536 * lval r
def Vq.fr (v : Vq) : Bool:=v.kd == 2 || v.kd == 3
def wOk (m : Nat) (g : Bool) (l : List Nat) : Bool:=if l.length = 0 then !g else decide (l.length <= m) && l[l.length - 1]?.getD 0 != 0
def frOk (g1 : Bool) (l1 : List Nat) (g2 : Bool) (l2 : List Nat) : Bool :=
 decide (l1.length <= 256) && decide (l2.length <= 256) && wOk 1024 g1 l1 && wOk 1024 g2 l2 && !g2 && l2.length != 0 && Nat.gcd (lval l1) (lval l2) == 1
def Vq.ok (v : Vq) : Bool :=
 if v.fr then v.i == 0 && frOk v.g1 v.l1 v.g2 v.l2
 else if v.kd == 1 \/ v.kd == 4 \/ v.kd == 5 \/ v.kd == 6 then
  v.l1.length == 0 && v.l2.length == 0 && !v.g1 && !v.g2 && (if v.kd == 1 then decide (0 <= v.i) && decide (v.i <= 1) else if v.kd == 4 then decide (0 <= v.i) && decide (v.i < 65536) else decide (-1048576 <= v.i) && decide (v.i <= 1048576))
 else false
def Vq.top (v : Vq) : Int:=if v.fr then (if v.g1 then -(lval v.l1 : Int) else lval v.l1) else v.i
def Vq.bot (v : Vq) : Int:=if v.fr then lval v.l2 else 1
def cmpI (a b : Int) : Int:=if a < b then -1 else if b < a then 1 else 0
def vcmp (a b : Vq) : Int:=cmpI (a.top * b.bot) (b.top * a.bot)
def vle (a b : Vq) : Bool:=decide (a.top * b.bot <= b.top * a.bot)
def veq (a b : Vq) : Bool:=decide (a.top * b.bot = b.top * a.bot)
def vlt (a b : Vq) : Prop:=a.top * b.bot < b.top * a.bot
def Vq.good (v : Vq) : Bool:=decide (v.l1.length <= 8) && decide (v.l2.length <= 8) && (!v.fr || v.i == 0 && !v.g1 && !v.g2 && decide (v.l1.length <= 1) && decide (lval v.l1 < 1024) && wOk 1024 v.g1 v.l1 && (v.l2 == [1] || v.l2 == [2] && lval v.l1 % 2 == 1))
inductive Gx where
 | mk (op : Int) (nm : Str) (v : Vq) (args : List Gx)
deriving Inhabited
def Gx.op : Gx -> Int | .mk o _ _ _ => o
def Gx.nm : Gx -> Str | .mk _ n _ _ => n
def Gx.v : Gx -> Vq | .mk _ _ v _ => v
def Gx.args : Gx -> List Gx | .mk _ _ _ es => es
mutual
def Gx.parts : Gx -> Nat
 | .mk _ _ _ es => partsL es + 1
def partsL : List Gx -> Nat
 | [] => 0
 | e :: r => e.parts + partsL r
end
mutual
def Gx.depth : Gx -> Nat
 | .mk _ _ _ es => depthL es + 1
def depthL : List Gx -> Nat
 | [] => 0
 | e :: r => max e.depth (depthL r)
end
mutual
def sameG : Gx -> Gx -> Bool
 | .mk o n v es,.mk o' n' v' es' => o == o' && n == n' && v == v' && sameL es es'
def sameL : List Gx -> List Gx -> Bool
 | [],[] => true
 | a :: r,b :: s => sameG a b && sameL r s
 | _,_ => false
end
mutual
theorem sameG_iff : ∀ a b : Gx,sameG a b = true ↔ a = b
 | .mk o n v es,.mk o' n' v' es' => by
  have := sameL_iff es es'
  rw [sameG]
  simp [this,and_assoc]
theorem sameL_iff : ∀ a b : List Gx,sameL a b = true ↔ a = b
 | [],[] => by simp [sameL]
 | [],b :: s => by simp [sameL]
 | a :: r,[] => by simp [sameL]
 | a :: r,b :: s => by
  have h1:=sameG_iff a b
  have h2:=sameL_iff r s
  rw [sameL]
  simp [h1,h2]
end
mutual
def Gx.good : Gx -> Bool
 | .mk _ _ v es => v.good && goodL es
def goodL : List Gx -> Bool
 | [] => true
 | e :: r => e.good && goodL r
end
def Gx.settled (e : Gx) : Bool:=e.op == 1 && e.v.kd == 1 && e.v.ok
def Gx.composed (e : Gx) : Bool:=(e.op == 15 || e.op == 16) && e.args.length == 2 || e.op == 17 && e.args.length == 1 || e.op == 18 && e.args.length == 3
mutual
def Gx.tests : Gx -> List Gx
 | .mk o n v es => if (Gx.mk o n v es).settled then [] else if (Gx.mk o n v es).composed then testsL es else [.mk o n v es]
def testsL : List Gx -> List Gx
 | [] => []
 | e :: r => e.tests ++ testsL r
end
structure Tq where
 sub : Gx
 kd : Int
 cut : Vq
 op : Int
 snd : Bool
deriving Inhabited
def isCut (c s : Gx) : Bool:=c.op == 1 && s.op != 1 && c.v.kd != 1 && c.v.ok
def testOf (e : Gx) : Tq :=
 if (e.op == 13 || e.op == 14) && e.args.length == 2 then
  if isCut (e.args[0]?.getD default) (e.args[1]?.getD default) then ⟨e.args[1]?.getD default,(e.args[0]?.getD default).v.kd,(e.args[0]?.getD default).v,e.op,true⟩
  else if isCut (e.args[1]?.getD default) (e.args[0]?.getD default) then ⟨e.args[0]?.getD default,(e.args[1]?.getD default).v.kd,(e.args[1]?.getD default).v,e.op,false⟩
  else ⟨e,0,v0,0,false⟩
 else ⟨e,0,v0,0,false⟩
structure Sc where
 e : Gx
 kd : Int
 cuts : List Vq
deriving Inhabited
def Tq.belongs (t : Tq) (s : Sc) : Bool:=t.kd == s.kd && sameG t.sub s.e
def srch (l : List Vq) (v : Vq) : Nat:=l.findIdx fun c => vle v c
def fnd (l : List Vq) (v : Vq) : Bool:=decide (srch l v < l.length) && veq (l[srch l v]?.getD v0) v
def insC (l : List Vq) (v : Vq) : Option (List Vq):=if fnd l v then some l else if l.length = 32 then none else some (l.take (srch l v) ++ v :: l.drop (srch l v))
def insS (l : List Sc) (i : Nat) (t : Tq) : Option (List Sc) :=
 if t.kd = 0 then some l else (insC (l[i]?.getD default).cuts t.cut).map fun c => l.set i { (l[i]?.getD default) with cuts:=c }
def addT (l : List Sc) (t : Tq) : Option (List Sc) :=
 let i:=l.findIdx t.belongs
 if i < l.length then insS l i t
 else if l.length = 16 then none
 else insS (l ++ [⟨t.sub,t.kd,[]⟩]) l.length t
def addTs : List Sc -> List Tq -> Option (List Sc)
 | l,[] => some l
 | l,t :: r => (addT l t).bind fun l' => addTs l' r
def fits (e : Gx) : Bool:=decide (e.parts <= 200) && decide (e.depth <= 24)
def scalesS (l : List Gx) : List Sc × Int :=
 if l.all fits then
  match addTs [] ((testsL l).map testOf) with
  | none => ([],5)
  | some s => (s,0)
 else ([],2)
end Go.Proofs.YtlidpghnlloinaaGreatDoor
