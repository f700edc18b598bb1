/- Contracts and plain laws, several texts in one (NW16S, NW17, NW18). No conditions beyond those stated. -/
import Derived.Test.YtlldjmagbjjeoaaGreatPk10
set_option maxRecDepth 100000
set_option maxHeartbeats 40000000
namespace Go.Proofs.YtlldjmagbjjeoaaGreat
set_option linter.unusedVariables false
theorem scale_sub {p q a b P A' : Nat} (hP : 0 < P) (h : p * (b * P) = q * (a * P) + A') : p * b = q * a + (p * b - q * a) /\ A' = (p * b - q * a) * P:=by
 rw [<- Nat.mul_assoc,<- Nat.mul_assoc] at h
 have h1 : q * a <= p * b:=Nat.le_of_mul_le_mul_right (c:=P) (by omega) hP
 exact ⟨by omega,by rw [Nat.sub_mul]; omega⟩
structure LhG (a b : Nat) (c : Lh) (a' b' : Nat) : Prop where
 le : b' < a'
 lt : b' < b
 top : a' <= a
 gcd : Nat.gcd a' b' = Nat.gcd a b
 u0 : c.u0 < WB32
 u1 : c.u1 < WB32
 v0 : c.v0 < WB32
 v1 : c.v1 < WB32
theorem lh_num {a b s k : Nat} {c : Lh} (h : LhI (a * 2 ^ s / k) (b * 2 ^ s / k) c) (hk : 0 < k) (hv : c.v0 ≠ 0) (hX : a * 2 ^ s / k < 18446744073709551616) :
  ∃ a' b' : Nat,LhG a b c a' b' /\ (if c.ev then c.u0 * a = c.v0 * b + a' /\ c.v1 * b = c.u1 * a + b' else c.v0 * b = c.u0 * a + a' /\ c.u1 * a = c.v1 * b + b'):=by
 obtain ⟨A',B',he,h1,h2,h3,h4,h5,h6,h7,h8⟩:=h.fin hv (k:=k) (A:=a * 2 ^ s) (B:=b * 2 ^ s) (Nat.mod_lt (a * 2 ^ s) hk) (Nat.mod_lt (b * 2 ^ s) hk) (Nat.div_add_mod' _ _).symm (Nat.div_add_mod' _ _).symm
 have hP : 0 < 2 ^ s:=Nat.pow_pos (by decide)
 obtain ⟨P,hPe⟩ : ∃ P,2 ^ s = P:=⟨_,rfl⟩
 rw [hPe] at hP he h2 h3 h8
 have hv1 : c.v1 < WB32:=by
  rcases Nat.lt_or_ge c.v1 WB32 with h | h
  ·exact h
  ·have h9:=Nat.mul_le_mul h h
   have : WB32 * WB32 = 18446744073709551616:=by decide
   omega
 have hfin : ∀ a' b' : Nat,A' = a' * P -> B' = b' * P -> LhG a b c a' b':=fun a' b' e1 e2 => by
  rw [e1,e2] at h1
  rw [e2] at h2
  rw [e1,e2,Nat.gcd_mul_right,Nat.gcd_mul_right] at h3
  rw [e1] at h8
  exact ⟨Nat.lt_of_mul_lt_mul_right h1,Nat.lt_of_mul_lt_mul_right h2,Nat.le_of_mul_le_mul_right h8 hP,Nat.eq_of_mul_eq_mul_right hP h3,by omega,by omega,by omega,hv1⟩
 cases hev : c.ev with
 | true =>
  rw [hev,if_pos rfl] at he
  obtain ⟨e1,e2⟩:=scale_sub hP he.1
  obtain ⟨e3,e4⟩:=scale_sub hP he.2
  exact ⟨_,_,hfin _ _ e2 e4,by rw [if_pos rfl]; exact ⟨e1,e3⟩⟩
 | false =>
  rw [hev,if_neg (by decide)] at he
  obtain ⟨e1,e2⟩:=scale_sub hP he.1
  obtain ⟨e3,e4⟩:=scale_sub hP he.2
  exact ⟨_,_,hfin _ _ e2 e4,by rw [if_neg (by decide)]; exact ⟨e1,e3⟩⟩
theorem bn_len {l : List Nat} {k : Nat} (hl : ∀ d ∈ l,d < WB32) (ht : Tight l) : l.length <= k ↔ bv WB32 l < WB32 ^ k :=
 ⟨fun h => Nat.lt_of_lt_of_le (bv_lt l hl) (Nat.pow_le_pow_right (by decide) h),fun h => tight_len ht h⟩
open Go.RowKit
attribute [local go_sem] Oper.semAt_some
def KpC (B0 : Nat) (A B : World) : Prop:=A.heap.size <= B.heap.size /\ ∀ (p : Addr) (x : Value),p.block ≠ B0 -> A.cell? p = some x -> B.cell? p = some x
theorem KpC.refl (B0 : Nat) (A : World) : KpC B0 A A:=⟨Nat.le_refl _,fun _ _ _ h => h⟩
theorem KpC.trans {B0 : Nat} {A B C : World} (h : KpC B0 A B) (h' : KpC B0 B C) : KpC B0 A C:=⟨Nat.le_trans h.1 h'.1,fun p x hp hx => h'.2 p x hp (h.2 p x hp hx)⟩
theorem KpC.put {B0 : Nat} {W : World} {l : Nat} {o o' : Obj} (h : W.heap[l]? = some o) (ho : o.isCells = false) : KpC B0 W (W.putObj l o'):=by
 have hg:=grownBy_putObj' W l o'
 refine ⟨hg.size,fun p x hp hx => hg.cell hx ?_⟩
 intro e
 have hpl : p.block = l:=by simpa using e
 cases o with
 | cells cs t f => simp [Obj.isCells] at ho
 | _ => simp [World.cell?,hpl,h] at hx
theorem KpC.setCell {B0 : Nat} (W : World) (i : Nat) (x : Value) : KpC B0 W (W.setCell ⟨B0,i,none⟩ x):=by
 have hg:=grownBy_setCell W B0 i x
 exact ⟨hg.size,fun p y hp hy => hg.cell hy (by simpa using hp)⟩
theorem ndown_iter (K L B0 : Nat) (v : Value) (l : List Nat) (hl : l.length <= 2) (hL : L ≠ B0) (hKB : K <= B0) :
  IterSt (α:=Nat) Tryz.prog 122 (fun i => #[] ++ #[.func (.yield i) #[] #[]] ++ #[.pointer (some ⟨L,0,none⟩)]) (fun x => #[.int .u32 x]) (fun pre x W => ∃ s,l.reverse = pre ++ x :: s) (fun A B => A.grownBy B none) (KpC B0)
   (fun xs W => xs = l.reverse) (fun _ _ => True) (fun W => Blk W L #[v] 121 /\ Ws K W v l):=by
 rintro m i J Jx W ⟨hb,hv⟩ hJ hJx hY h0
 have c0 : W.cell? ⟨L,0,none⟩ = some v:=hb.at rfl
 refine callsIn_of_wp Tryz.func122 rfl trivial ?_
 simp only [Tryz.ntmps122,List.size_toArray,List.length_cons,List.length_nil,Nat.reduceAdd,Nat.reduceSub,Array.replicate_succ,Array.replicate_zero,List.push_toArray,List.append_toArray,List.nil_append,List.cons_append]
 match l,hl with
 | [],_ =>
  obtain ⟨a,c,rfl,hc,hcm⟩:=hv.form
  have c0' : W.cell? ⟨L,0,none⟩ = some (.slice a 0 c):=c0
  clear c0 hv hY
  gi_wp2_with fail
  refine wpIn_loop_rounds 1 ?_
  rw [roundsIn_succ]
  gi_wp2_with fail
  go_end0
  exact ⟨⟨_,rfl⟩,.inl ⟨[],rfl,h0⟩⟩
 | [x],_ =>
  obtain ⟨b,o,c,rfl,hc,hcm,hbK,hat⟩:=hv.at (by simp)
  have e0 : W.cell? ⟨b,o,none⟩ = some (.int .u32 (x : Int)):=hat 0 x rfl
  have c0' : W.cell? ⟨L,0,none⟩ = some (.slice (some ⟨b,o,none⟩) 1 c):=c0
  have hcc : 1 <= c:=hc
  obtain ⟨fn,tmps,assign,body,hy,hR⟩:=hY [] x W h0 ⟨[],rfl⟩
  clear hY hat c0 hv hc
  gi_wp2_with fail
  refine wpIn_loop_rounds 2 ?_
  rw [roundsIn_succ]
  gi_wp2_with fail
  refine ⟨wide_depth,hR.mono ?_⟩
  clear hR hy
  rintro e' W3 (⟨rfl,hj3,hk3⟩ | ⟨rfl,hj3,hk3⟩)
  ·gi_wp2_with fail
   rw [roundsIn_succ]
   gi_wp2_with fail
   go_end0
   exact ⟨⟨_,rfl⟩,.inl ⟨[x],rfl,hj3⟩⟩
  ·gi_wp2_with fail
   refine bodyPost_ret (results_none rfl _ _ _) rfl ?_
   exact ⟨⟨_,rfl⟩,.inr ⟨_,trivial,hj3⟩⟩
 | [x,y],_ =>
  obtain ⟨b,o,c,rfl,hc,hcm,hbK,hat⟩:=hv.at (by simp)
  have e0 : W.cell? ⟨b,o,none⟩ = some (.int .u32 (x : Int)):=hat 0 x rfl
  have e1 : W.cell? ⟨b,o + 1,none⟩ = some (.int .u32 (y : Int)):=hat 1 y rfl
  have c0' : W.cell? ⟨L,0,none⟩ = some (.slice (some ⟨b,o,none⟩) 2 c):=c0
  have hcc : 2 <= c:=hc
  obtain ⟨fn,tmps,assign,body,hy,hR⟩:=hY [] y W h0 ⟨[x],rfl⟩
  have HY:=Lib.hid hY
  clear hY hat c0 hc
  gi_wp2_with fail
  refine wpIn_loop_rounds 3 ?_
  rw [roundsIn_succ]
  gi_wp2_with fail
  refine ⟨wide_depth,hR.mono ?_⟩
  clear hR hy
  rintro e' W3 (⟨rfl,hj3,hk3⟩ | ⟨rfl,hj3,hk3⟩)
  ·have e3 : W3.cell? ⟨b,o,none⟩ = some (.int .u32 (x : Int)):=hk3.2 ⟨b,o,none⟩ _ (show b ≠ B0 by omega) e0
   have c3 : W3.cell? ⟨L,0,none⟩ = some (.slice (some ⟨b,o,none⟩) 2 c):=hk3.2 ⟨L,0,none⟩ _ hL c0'
   obtain ⟨fn2,tmps2,assign2,body2,hy2,hR2⟩:=HY.out [y] x W3 hj3 ⟨[],rfl⟩
   clear HY e0 e1 c0' hb hv h0
   gi_wp2_with fail
   rw [roundsIn_succ]
   gi_wp2_with fail
   refine ⟨wide_depth,hR2.mono ?_⟩
   clear hR2 hy2
   rintro e' W4 (⟨rfl,hj4,hk4⟩ | ⟨rfl,hj4,hk4⟩)
   ·gi_wp2_with fail
    rw [roundsIn_succ]
    gi_wp2_with fail
    go_end0
    exact ⟨⟨_,rfl⟩,.inl ⟨[y,x],rfl,hj4⟩⟩
   ·gi_wp2_with fail
    refine bodyPost_ret (results_none rfl _ _ _) rfl ?_
    exact ⟨⟨_,rfl⟩,.inr ⟨_,trivial,hj4⟩⟩
  ·gi_wp2_with fail
   refine bodyPost_ret (results_none rfl _ _ _) rfl ?_
   exact ⟨⟨_,rfl⟩,.inr ⟨_,trivial,hj3⟩⟩
def NLongI (B0 : Nat) (w : World) (pre : List Nat) (W : World) : Prop :=
 Blk W B0 #[.int .u64 (bv WB32 pre.reverse : Nat)] 81 /\ Below B0 w W /\ B0 + 1 <= W.heap.size
theorem NLongI.kept {B0 : Nat} {w W W' : World} {pre : List Nat} {row : Option Nat} (h : NLongI B0 w pre W) (hg : W.grownBy W' row) (hr : ∀ k,row = some k -> B0 + 1 <= k) : NLongI B0 w pre W':=by
 obtain ⟨h1,h2,h3⟩:=h
 exact ⟨h1.kept hg (fun e => by have := hr _ e.symm; omega),h2.trans (below_grown hg (fun k e => by have := hr k e; omega) (by omega)),Nat.le_trans h3 hg.size⟩
theorem nlong_any (K : Nat) (v : Value) (l : List Nat) (w : World) (h : Ws K w v l) (hK : K <= w.heap.size) (hl : l.length <= 2) :
  Calls Tryz.prog 106 #[v] w fun e w' => e = .returned (.int .u64 (bv WB32 l : Nat)) /\ Below w.heap.size w w':=by
 have hlt:=h.lt
 obtain ⟨va,vc,rfl,_⟩:=h.form
 obtain ⟨vn,hvn⟩ : ∃ n,l.length = n:=⟨_,rfl⟩
 obtain ⟨B0,hB0⟩ : ∃ B0,w.heap.size = B0:=⟨_,rfl⟩
 rw [hvn] at h ⊢
 clear hvn
 obtain ⟨W2,hW2⟩ : ∃ W2,(w.alloc (.cells #[.int .u64 0] 81)).alloc (.cells #[.slice va vn vc] 121) = W2:=⟨_,rfl⟩
 have hb2 : Below B0 w W2:=by rw [<- hW2,<- hB0]; exact ((Below.refl _ w).alloc (Nat.le_refl _) _).alloc (by simp) _
 have q0 : Blk W2 B0 #[.int .u64 0] 81:=by rw [<- hW2,<- hB0]; exact (Blk.new w _ _).alloc _
 have q1 : Blk W2 (B0 + 1) #[.slice va vn vc] 121:=by
  rw [<- hW2,<- hB0]
  have := Blk.new (w.alloc (.cells #[.int .u64 0] 81)) #[.slice va vn vc] 121
  rwa [World.size_alloc] at this
 have s2 : W2.heap.size = B0 + 2:=by rw [<- hW2,<- hB0]; simp
 have HB:=Lib.hid hB0
 have HW:=Lib.hid hW2
 rw [hB0] at hK ⊢
 clear hB0 hW2
 have HLT:=Lib.hid hlt
 clear hlt
 refine callsIn_wide.1 (callsIn_of_wp_marks (n:=5) Tryz.func106 rfl trivial ?_)
 simp only [Tryz.ntmps106,List.size_toArray,List.length_cons,List.length_nil,Nat.reduceAdd,Nat.reduceSub,Array.replicate_succ,Array.replicate_zero,List.push_toArray,List.append_toArray,List.nil_append,List.cons_append]
 gi_wp2_with fail
 refine ⟨trivial,callsIn_wide.2 ((down_any _ _ rfl).mono ?_)⟩
 rintro en w' ⟨rfl,rfl⟩
 gi_wp2_with fail
 simp only [HB.out]
 rw [HW.out]
 refine range_law (gf:=122) (fi:=#[]) (lb:=#[.pointer (some ⟨B0 + 1,0,none⟩)]) rfl (enters_of Tryz.func122 (by kernel_rfl) rfl) (ndown_iter K (B0 + 1) B0 (.slice va vn vc) l hl (by omega) hK) (fun _ => rfl)
  (fun pre W => NLongI B0 w pre W) (fun _ _ _ => False)
  (fun pre x a1 W => NLongI B0 w pre W /\ (∃ s,l.reverse = pre ++ x :: s) ∧
   a1 = { tmps:=#[.slice va vn vc,undef,.int .u64 0,.pointer (some ⟨B0,0,none⟩),.int .u32 x,.slice va vn vc,.func (.func 122) #[] #[.pointer (some ⟨B0 + 1,0,none⟩)],.int .u32 x,undef,undef,undef,undef,undef,undef],defers:=[] })
  ?hSt ?hI ?hIx ?hA ?hS ?hSp ?hISt ?hIxSt ?hKt ?hKb ?h0 ?hPre ?hassign ?hbody ?hdone ?hstop
 case hSt => exact fun A B _ hg => KeepsFrom.of_grownBy hg (fun j e => by cases e)
 case hI => exact fun s W l o o' hi hle hl ho => hi.kept (grownBy_putObj' W l o') (fun k e => by cases e; omega)
 case hIx => exact fun c s W l o o' hi _ _ _ => hi
 case hA =>
  rintro s y a1 W l o o' ⟨hi,hx,ha⟩ hle hl ho
  exact ⟨hi.kept (grownBy_putObj' W l o') (fun k e => by cases e; omega),hx,ha⟩
 case hS => exact fun s W l o o' h _ _ _ => h
 case hSp => exact fun s W l o o' h _ _ _ => h
 case hISt => exact fun s A B hi hg => hi.kept hg (fun k e => by cases e)
 case hIxSt => exact fun c s A B hi _ => hi
 case hKt => exact fun A B C h h' => h.trans h'
 case hKb => exact fun W l o o' _ h ho => .put h ho
 case h0 =>
  intro o o'
  exact ⟨(q0.alloc _).alloc _,(hb2.alloc (by omega) o).alloc (by simp; omega) o',by simp; omega⟩
 case hPre =>
  intro o o'
  exact ⟨(q1.alloc _).alloc _,h.below ((hb2.alloc (by omega) o).alloc (by simp; omega) o') hK (Nat.le_refl _)⟩
 case hstop => exact fun D c pre W _ _ hi _ => hi.elim
 case hassign =>
  rintro i pre y W hi hx hlt
  gi_wp2
  exact ⟨KeepsFrom.refl _ _,KpC.refl _ _,hi,by exact hx,by first | trivial | rfl⟩
 case hbody =>
  rintro i pre y a1 W ⟨hi,hx,rfl⟩
  obtain ⟨g1,g2,g3⟩:=hi
  obtain ⟨V,hV⟩ : ∃ V,bv WB32 pre.reverse = V:=⟨_,rfl⟩
  rw [hV] at g1
  obtain ⟨c0,c1⟩:=g1.one
  obtain ⟨s,hs⟩:=hx
  have hlen : pre.length + (s.length + 1) <= 2:=by
   have := congrArg List.length hs
   rw [List.length_reverse,List.length_append,List.length_cons] at this
   omega
  have hmem : ∀ d ∈ pre ++ y :: s,d < WB32:=fun d hd => HLT.out d (by rw [<- hs] at hd; exact List.mem_reverse.1 hd)
  have hy32 : y < WB32:=hmem y (by simp)
  have hV32 : V < WB32:=by
   rw [<- hV]
   refine Nat.lt_of_lt_of_le (bv_lt pre.reverse fun d hd => hmem d (by simp at hd; simp [hd])) ?_
   refine Nat.le_trans (Nat.pow_le_pow_right (by decide) (show pre.reverse.length <= 1 by rw [List.length_reverse]; omega)) (by decide)
  obtain ⟨S,hS⟩ : ∃ S,V * WB32 = S:=⟨_,rfl⟩
  obtain ⟨R,hR⟩ : ∃ R,V * WB32 + y = R:=⟨_,rfl⟩
  have hSi : (V : Int) * 4294967296 = (S : Int):=by unfold WB32 at hS; omega
  have hw1 : IntKind.u64.wrap (S : Int) = S:=wu64 (by unfold WB32 at *; omega)
  have hw2 : IntKind.u64.wrap (y : Int) = y:=wu64 (by unfold WB32 at *; omega)
  have hor : bits BinOp.or IntKind.u64 (S : Int) (y : Int) = (R : Int):=by
   rw [u64_or_nat S y (by unfold WB32 at *; omega) (by unfold WB32 at *; omega)]
   have := Nat.two_pow_add_eq_or_of_lt (i:=32) (show y < 2 ^ 32 from hy32) V
   have e : S = 2 ^ 32 * V:=by unfold WB32 at hS; omega
   rw [e,<- this]; unfold WB32 at *; omega
  have hfin : bv WB32 (pre ++ [y]).reverse = R:=by
   rw [List.reverse_append,List.reverse_singleton,List.singleton_append,bv,hV,<- hR,Nat.mul_comm]; omega
  have HF:=Lib.hid hfin
  clear hS hR hV hs hmem hfin
  gi_wp2_with fail
  refine ⟨KeepsFrom.of_grownBy (grownBy_setCell W B0 0 _) (fun j e => by simp at e; omega),KpC.setCell _ _ _,?_,g2.setCell (p:=⟨B0,0,none⟩) (Nat.le_refl _) _,by have := (grownBy_setCell W B0 0 (.int .u64 R)).size; omega⟩
  rw [HF.out]
  exact g1.set (i:=0) (.int .u64 R)
 case hdone =>
  rintro D xs W hD rfl hi hdef
  obtain ⟨g1,g2,g3⟩:=hi
  rw [List.reverse_reverse] at g1
  have c0:=(g1.one).1
  gi_wp2_with fail
  refine ⟨by simp,.inl ⟨_,_,rfl,run_takeDeferred hdef,?_⟩⟩
  exact ⟨_,results_tmp rfl _ _ _,rfl,g2.trans (below_grown (grownBy_putObj' W D (.deferred none)) (fun r e => by cases e; omega) (by omega))⟩
theorem nshort_any (n : Nat) (w : World) (hn : n < 18446744073709551616) :
  Calls Tryz.prog 107 #[.int .u64 n] w fun e w' => ∃ v',e = .returned v' /\ Bn w'.heap.size w' v' n /\ Below w.heap.size w w' /\ NewV w.heap.size v':=by
 obtain ⟨lo,hlo⟩ : ∃ z,n % WB32 = z:=⟨_,rfl⟩
 obtain ⟨hi,hhi⟩ : ∃ z,n / WB32 = z:=⟨_,rfl⟩
 have h1 : IntKind.u32.wrap (n : Int) = (lo : Int):=by unfold WB32 at hlo; simp [IntKind.wrap,IntKind.bits,IntKind.signed]; omega
 have h2 : (n : Int) / 4294967296 = (hi : Int):=by unfold WB32 at hhi; omega
 have h3 : IntKind.u32.wrap (hi : Int) = (hi : Int):=wu32 (by unfold WB32 at hhi; omega)
 obtain ⟨B,hB⟩ : ∃ B,w.heap.size = B:=⟨_,rfl⟩
 obtain ⟨W1,hW1⟩ : ∃ W,w.alloc (.cells #[.int .u32 lo,.int .u32 hi] 130) = W:=⟨_,rfl⟩
 have b1 : Below B w W1:=by rw [<- hW1,<- hB]; exact (Below.refl _ _).alloc (Nat.le_refl _) _
 have q1 : Blk W1 B (wArr [lo,hi]) 130:=by rw [<- hW1,<- hB]; exact Blk.new w _ _
 have s1 : W1.heap.size = B + 1:=by rw [<- hW1,<- hB]; simp
 have hws : Ws W1.heap.size W1 (.slice (some ⟨B,0,none⟩) 2 2) [lo,hi]:=ws_blk q1 (by omega) (by simp [maxLen]) (fun d hd => by
  simp only [List.mem_cons,List.not_mem_nil,or_false] at hd
  unfold WB32 at *
  rcases hd with rfl | rfl <;> omega)
 have hbv : bv WB32 [lo,hi] = n:=by unfold WB32 at *; simp [bv]; omega
 have ht:=ntrim_bn _ _ _ _ hws
 rw [hbv] at ht
 have HT:=Lib.hid ht
 have HB:=Lib.hid hB
 have HW1:=Lib.hid hW1
 rw [hB]
 clear hlo hhi q1 hws hbv ht hB hW1
 go_enter Tryz.func107,Tryz.ntmps107
 go_wp2_with fail
 simp only [HB.out]
 rw [HW1.out]
 refine HT.out.mono ?_
 rintro e w' ⟨a,k,c,j,he,rfl,hbn,rfl⟩
 simp only [Value.slice.injEq] at he
 obtain ⟨rfl,rfl,rfl⟩:=he
 go_wp2_with fail
 go_ret
 exact ⟨_,rfl,hbn,b1,NewV.at (Nat.le_refl _)⟩
structure Shrt (x : Nat) : Prop where
 out : x < WB32 ^ 268435456
structure Shrt29 (x : Nat) : Prop where
 out : x < WB32 ^ 536870912
theorem gcd_step {x y G : Nat} (h : Nat.gcd x y = G) : Nat.gcd y (x % y) = G:=by rw [<- h,Nat.gcd_comm x y,Nat.gcd_rec y x,Nat.gcd_comm]
theorem ncommon_any (K : Nat) (u v : Value) (m n : Nat) (w : World) (hu : Bn K w u m) (hv : Bn K w v n) (hK : K <= w.heap.size) (hm : m < WB32 ^ 268435456) (hn : n < WB32 ^ 268435456) :
  Calls Tryz.prog 99 #[u,v] w fun e w' => ∃ v',e = .returned v' /\ Bn w'.heap.size w' v' (Nat.gcd m n) /\ Below w.heap.size w w':=by
 have hcmp:=ncompare_any K u v m n w hu hv
 obtain ⟨T,hT⟩ : ∃ T,w.heap.size = T:=⟨_,rfl⟩
 rw [hT] at hK ⊢
 obtain ⟨G,hG⟩ : ∃ G,Nat.gcd m n = G:=⟨_,rfl⟩
 rw [hG]
 have hfu : ∃ a p c,u = .slice a p c:=by
  obtain ⟨l,h,_⟩:=hu
  obtain ⟨a,c,rfl,_⟩:=h.form
  exact ⟨a,_,c,rfl⟩
 have hfv : ∃ a p c,v = .slice a p c:=by
  obtain ⟨l,h,_⟩:=hv
  obtain ⟨a,c,rfl,_⟩:=h.form
  exact ⟨a,_,c,rfl⟩
 obtain ⟨ua0,up0,uc0,rfl⟩:=hfu
 obtain ⟨va0,vp0,vc0,rfl⟩:=hfv
 obtain ⟨cv,hcv⟩ : ∃ cv : Int,cmpN m n = cv:=⟨_,rfl⟩
 have HLT : Hid (cv < 0 -> m <= n):=Lib.hid fun h => by
  rw [<- hcv] at h
  unfold cmpN at h
  split at h
  ·omega
  ·split at h <;> omega
 have HGE : Hid (0 <= cv -> n <= m):=Lib.hid fun h => by
  rw [<- hcv] at h
  unfold cmpN at h
  split at h
  ·exact absurd h (by decide)
  ·omega
 rw [hcv] at hcmp
 clear hcv
 have HG0:=Lib.hid hG
 have HM0 : Shrt m:=⟨hm⟩
 have HN0 : Shrt n:=⟨hn⟩
 have HAA : ∀ kk,Hid (Bn (w.drewN kk).heap.size (w.drewN kk) (.slice ua0 up0 uc0) m):=fun kk => Lib.hid (hu.below (below_drewN2 (Below.refl w.heap.size _) kk) (by omega) (by show K <= w.heap.size; omega))
 have HBB : ∀ kk,Hid (Bn (w.drewN kk).heap.size (w.drewN kk) (.slice va0 vp0 vc0) n):=fun kk => Lib.hid (hv.below (below_drewN2 (Below.refl w.heap.size _) kk) (by omega) (by show K <= w.heap.size; omega))
 have HTT : ∀ kk,Hid (Below T w (w.drewN kk)) /\ T <= (w.drewN kk).heap.size:=fun kk => ⟨Lib.hid (by rw [<- hT]; exact below_drewN2 (Below.refl w.heap.size _) kk),by show T <= w.heap.size; omega⟩
 have HAA':=Lib.hid HAA
 have HBB':=Lib.hid HBB
 have HTT':=Lib.hid HTT
 have HT:=Lib.hid hT
 clear HAA HBB HTT hu hv hm hn hG hT
 go_enter Tryz.func99,Tryz.ntmps99
 go_upto_region 1 with fail
 go_upto_if 15 with fail
 refine hcmp.mono ?_
 rintro e w1 ⟨rfl,kk,rfl⟩
 clear hcmp
 have HA1:=HAA'.out kk
 have HB1:=HBB'.out kk
 obtain ⟨HT1,HS1⟩:=HTT'.out kk
 clear HAA' HBB' HTT'
 go_upto_if 15 with fail
 go_cut [0,1] from 16 to 17 (fun s0 s1 wx => ∃ x y : Nat,Hid (Bn wx.heap.size wx s0 x) /\ Hid (Bn wx.heap.size wx s1 y) /\ y <= x /\ Hid (Nat.gcd x y = G) /\ Shrt x /\ Hid (Below T w wx) /\ T <= wx.heap.size)
 case first =>
  by_cases hc0 : cv < 0
  ·have hle:=HLT.out hc0
   go_wp2_with fail
   go_meet
   exact ⟨n,m,HB1,HA1,hle,Lib.hid (by rw [Nat.gcd_comm]; exact HG0.out),HN0,HT1,HS1⟩
  ·have hle:=HGE.out (by omega)
   go_wp2_with fail
   go_meet
   exact ⟨m,n,HA1,HB1,hle,HG0,HM0,HT1,HS1⟩
 case rest =>
 clear HA1 HB1 HT1 HS1 HM0 HN0 HG0 HLT HGE
 obtain ⟨x0,y0,HA0,HB0,hle0,HG0,HM0,HT0,HS0⟩:=hcut
 go_wp2_with fail
 go_loopg [0,1] y0 (fun gn av bv' wr => ∃ x,Hid (Bn wr.heap.size wr av x) /\ Hid (Bn wr.heap.size wr bv' gn) /\ gn <= x /\ Hid (Nat.gcd x gn = G) /\ Shrt x /\ Hid (Below T w wr) /\ T <= wr.heap.size)
 case atStart => exact ⟨x0,HA0,HB0,hle0,HG0,HM0,HT0,HS0⟩
 case round =>
  clear HA0 HB0 hle0 HG0 HM0 HT0 HS0
  obtain ⟨x,HA,HB,hle,HG,HX,HBW,hsz⟩:=hrel
  obtain ⟨gn,rfl⟩ : ∃ gn,gn = gk:=⟨_,rfl⟩
  obtain ⟨wo,rfl⟩ : ∃ wo : World,wo = wr:=⟨_,rfl⟩
  obtain ⟨la,hla,tla,hlx⟩:=HA.out
  obtain ⟨lb,hlb,tlb,hly⟩:=HB.out
  obtain ⟨ua,uc,rfl,hu1,hu2⟩:=hla.form
  obtain ⟨va,vc,rfl,hv1,hv2⟩:=hlb.form
  unfold maxLen at hu2 hv2
  have hpq : lb.length <= la.length:=tight_le hla.lt tlb (by rw [hlx,hly]; exact hle)
  have hp28 : la.length <= 268435456:=tight_len tla (by rw [hlx]; exact HX.out)
  by_cases hq2 : 2 < lb.length
  ·have h3 : 3 <= la.length:=by omega
   have hgn0 : 0 < gn:=by
    rcases Nat.eq_zero_or_pos gn with h | h
    ·have := (bv_zero_iff (b:=WB32) (by decide) tlb).1 (by rw [hly]; exact h)
     rw [this] at hq2; simp at hq2
    ·exact h
   have hsim:=nsim_any wo.heap.size _ _ la lb wo hla hlb tla (Nat.le_refl _) h3 (by omega) hpq (by rw [hlx,hly]; exact hle)
   obtain ⟨p,hp⟩ : ∃ p,la.length = p:=⟨_,rfl⟩
   obtain ⟨q,hq⟩ : ∃ q,lb.length = q:=⟨_,rfl⟩
   have HEQ : Hid (∀ (s : Nat) (c : Lh),s < 32 -> headOf la la.length s < 18446744073709551616 -> LhI (headOf la la.length s) (headOf lb la.length s) c -> c.v0 ≠ 0 -> ∃ a' b' : Nat,LhG x gn c a' b' /\ (if c.ev then c.u0 * x = c.v0 * gn + a' /\ c.v1 * gn = c.u1 * x + b' else c.v0 * gn = c.u0 * x + a' /\ c.u1 * x = c.v1 * gn + b')):=Lib.hid fun s c hs hX hI h0 => by
    rw [headOf_eq hla.lt (Nat.le_refl _) h3 hs,headOf_eq hlb.lt hpq h3 hs,hlx,hly] at hI
    rw [headOf_eq hla.lt (Nat.le_refl _) h3 hs,hlx] at hX
    exact lh_num hI (Nat.pow_pos (by decide)) h0 hX
   rw [hp] at hsim HA hu1 hp28 h3
   rw [hq] at hsim HB hv1 hq2
   rw [hp] at HEQ
   have HSIM:=Lib.hid hsim
   clear hsim hla hlb hlx hly tla tlb hpq
   rw [hp,hq]
   clear hp hq
   go_wp2_with fail
   refine HSIM.out.mono ?_
   rintro e w2 ⟨s,c,hs32,hX,hI,rfl,hb2⟩
   have hs2:=hb2.size
   have h0:=HEQ.out s c hs32 hX hI
   clear hX hI HSIM HEQ
   obtain ⟨x1,x2,u0,u1,u2,v0,v1,v2,ev⟩:=c
   dsimp only at h0
   simp only [Lh.val]
   have H0:=Lib.hid h0
   clear h0
   have HB2:=Lib.hid hb2
   clear hb2
   have HA2 : Hid (Bn w2.heap.size w2 (.slice ua p uc) x):=Lib.hid (HA.out.below HB2.out (Nat.le_refl _) hs2)
   have HBv2 : Hid (Bn w2.heap.size w2 (.slice va q vc) gn):=Lib.hid (HB.out.below HB2.out (Nat.le_refl _) hs2)
   clear HA HB
   obtain ⟨W3,hW3⟩ : ∃ W,w2.alloc (.cells #[.int .u64 u0,.int .u64 u1,.int .u64 v0,.int .u64 v1,.bool ev] 137) = W:=⟨_,rfl⟩
   obtain ⟨T2,hT2⟩ : ∃ z,w2.heap.size = z:=⟨_,rfl⟩
   have b3 : Below T2 w2 W3:=by rw [<- hW3,<- hT2]; exact (Below.refl _ _).alloc (Nat.le_refl _) _
   have q3 : Blk W3 T2 #[.int .u64 u0,.int .u64 u1,.int .u64 v0,.int .u64 v1,.bool ev] 137:=by rw [<- hW3,<- hT2]; exact Blk.new w2 _ _
   have s3 : W3.heap.size = T2 + 1:=by rw [<- hW3,<- hT2]; simp
   have e0 : W3.cell? ⟨T2,0,none⟩ = some (.int .u64 u0):=q3.at rfl
   have e1 : W3.cell? ⟨T2,1,none⟩ = some (.int .u64 u1):=q3.at rfl
   have e2 : W3.cell? ⟨T2,2,none⟩ = some (.int .u64 v0):=q3.at rfl
   have e3 : W3.cell? ⟨T2,3,none⟩ = some (.int .u64 v1):=q3.at rfl
   have e4 : W3.cell? ⟨T2,4,none⟩ = some (.bool ev):=q3.at rfl
   rw [hT2] at hs2 HA2 HBv2
   have HA3 : Hid (Bn W3.heap.size W3 (.slice ua p uc) x):=Lib.hid (HA2.out.below b3 (Nat.le_refl _) (by omega))
   have HB3 : Hid (Bn W3.heap.size W3 (.slice va q vc) gn):=Lib.hid (HBv2.out.below b3 (Nat.le_refl _) (by omega))
   have HBW3 : Hid (Below T w W3):=Lib.hid ((HBW.out.trans (HB2.out.mono hsz)).trans (b3.mono (by omega)))
   have hsz3 : T <= W3.heap.size:=by omega
   have HW3:=Lib.hid hW3
   have HT2:=Lib.hid hT2
   have HQ3:=Lib.hid q3
   have S3:=Lib.hid s3
   clear hW3 hT2 q3 b3 HA2 HBv2 HB2 HBW s3
   go_upto_region 5 with fail
   rw [HW3.out]
   simp only [HT2.out]
   by_cases hv0 : v0 = 0
   ·have hz : ((v0 : Int) == 0) = true:=by simp; omega
    have hdiv:=ndivide_any W3.heap.size _ _ x gn W3 HA3.out HB3.out (Nat.le_refl _) hgn0 HX.out
    have HDIV:=Lib.hid hdiv
    clear hdiv H0
    go_wp2_with fail
    refine HDIV.out.mono ?_
    rintro e w4 ⟨qv,rv,rfl,hqv,hrv,hb4,_⟩
    have hs4:=hb4.size
    obtain ⟨lq,hlq,_⟩:=hqv
    obtain ⟨qa,qc,rfl,_⟩:=hlq.form
    have HR:=Lib.hid hrv
    obtain ⟨lr,hlr,_⟩:=hrv
    obtain ⟨ra,rc,rfl,_⟩:=hlr.form
    have HB4:=Lib.hid hb4
    have HBN : Hid (Bn w4.heap.size w4 (.slice va q vc) gn):=Lib.hid (HB3.out.below hb4 (Nat.le_refl _) hs4)
    have HBW4 : Hid (Below T w w4):=Lib.hid (HBW3.out.trans (hb4.mono hsz3))
    clear hlq hlr hb4 HDIV
    go_wp2_with fail
    try go_frame
    go_roundg (x % gn)
    case measure => exact Nat.mod_lt _ hgn0
    case rel => exact ⟨gn,HBN,HR,Nat.le_of_lt (Nat.mod_lt _ hgn0),Lib.hid (gcd_step HG.out),⟨Nat.lt_of_le_of_lt hle HX.out⟩,HBW4,by omega⟩
   ·have hz : ((v0 : Int) == 0) = false:=by simp; omega
    obtain ⟨a',b',hG',hif⟩:=H0.out hv0
    obtain ⟨g1,g2,g3,g4,g5,g6,g7,g8⟩:=hG'
    dsimp only at g5 g6 g7 g8
    have HGD : Hid (Nat.gcd a' b' = G):=Lib.hid (g4.trans HG.out)
    have HXA : Shrt a':=⟨Nat.lt_of_le_of_lt g3 HX.out⟩
    have hx29 : x < WB32 ^ 536870912:=Nat.lt_trans HX.out (Nat.pow_lt_pow_right (a:=WB32) (m:=268435456) (n:=536870912) (by decide) (by decide))
    have hgn29 : gn < WB32 ^ 536870912:=Nat.lt_of_le_of_lt hle hx29
    have HX29 : Shrt29 x:=⟨hx29⟩
    have HGN29 : Shrt29 gn:=⟨hgn29⟩
    have HQ3':=HQ3
    clear hx29 hgn29 g3 g4 H0
    cases ev with
    | true =>
     obtain ⟨k1,k2⟩ : u0 * x = v0 * gn + a' /\ v1 * gn = u1 * x + b':=by simpa using hif
     have hd1 : u0 * x - v0 * gn = a':=by omega
     have hd2 : v1 * gn - u1 * x = b':=by omega
     have hk1 : v0 * gn <= u0 * x:=by omega
     have hk2 : u1 * x <= v1 * gn:=by omega
     have HC1 : Hid (∀ W',Below W3.heap.size W3 W' -> Calls Tryz.prog 105 #[.int .u64 u0,.slice ua p uc,.int .u64 v0,.slice va q vc] W' fun e w' => ∃ v',e = .returned v' /\ Bn w'.heap.size w' v' a' /\ Below W'.heap.size W' w' /\ NewV W'.heap.size v'):=Lib.hid fun W' hb => by
      have h:=ndiff_any W'.heap.size _ _ x gn u0 v0 W' (HA3.out.below hb (Nat.le_refl _) hb.size) (HB3.out.below hb (Nat.le_refl _) hb.size) (Nat.le_refl _) g5 g7 hk1 HX29.out HGN29.out
      rw [hd1] at h; exact h
     have HC2 : Hid (∀ W',Below W3.heap.size W3 W' -> Calls Tryz.prog 105 #[.int .u64 v1,.slice va q vc,.int .u64 u1,.slice ua p uc] W' fun e w' => ∃ v',e = .returned v' /\ Bn w'.heap.size w' v' b' /\ Below W'.heap.size W' w' /\ NewV W'.heap.size v'):=Lib.hid fun W' hb => by
      have h:=ndiff_any W'.heap.size _ _ gn x v1 u1 W' (HB3.out.below hb (Nat.le_refl _) hb.size) (HA3.out.below hb (Nat.le_refl _) hb.size) (Nat.le_refl _) g8 g6 hk2 HGN29.out HX29.out
      rw [hd2] at h; exact h
     clear hd1 hd2 hk1 hk2 k1 k2 hif
     go_upto_region 9 with fail
     clear e0 e1 e2 e3 e4
     have qS : (fun W' => Below W3.heap.size W3 W') W3.drew:=below_quiet (Below.refl _ _)
     have hT2l : T2 < W3.heap.size:=by have := S3.out; omega
     refine region_plain (fun W' => Below W3.heap.size W3 W') [] (by kernel_rfl) ?_
     refine wpAnyD_tpX (i:=0) (v:=.pointer (some ⟨T2,0,none⟩)) (some 37) rfl rfl qS ?_
     refine wpAnyD_tkX (i:=1) (v:=.int .u64 u0) (some 38) rfl rfl (.inl ⟨by kernel_rfl,fun W' hS => by have d0:=(HQ3.out.below hS hT2l).at (i:=0) rfl; go_simp⟩) qS ?_
     refine wpAnyD_tpX (i:=2) (v:=.slice ua p uc) (some 39) rfl rfl qS ?_
     refine wpAnyD_tpX (i:=3) (v:=.pointer (some ⟨T2,2,none⟩)) (some 40) rfl rfl qS ?_
     refine wpAnyD_tkX (i:=4) (v:=.int .u64 v0) (some 41) rfl rfl (.inl ⟨by kernel_rfl,fun W' hS => by have d0:=(HQ3.out.below hS hT2l).at (i:=2) rfl; go_simp⟩) qS ?_
     refine wpAnyD_tpX (i:=5) (v:=.slice va q vc) (some 42) rfl rfl qS ?_
     refine wpAnyD_tpX (i:=7) (v:=.pointer (some ⟨T2,3,none⟩)) (some 44) rfl rfl qS ?_
     refine wpAnyD_tkX (i:=8) (v:=.int .u64 v1) (some 45) rfl rfl (.inl ⟨by kernel_rfl,fun W' hS => by have d0:=(HQ3.out.below hS hT2l).at (i:=3) rfl; go_simp⟩) qS ?_
     refine wpAnyD_tpX (i:=9) (v:=.slice va q vc) (some 46) rfl rfl qS ?_
     refine wpAnyD_tpX (i:=10) (v:=.pointer (some ⟨T2,1,none⟩)) (some 47) rfl rfl qS ?_
     refine wpAnyD_tkX (i:=11) (v:=.int .u64 u1) (some 48) rfl rfl (.inl ⟨by kernel_rfl,fun W' hS => by have d0:=(HQ3.out.below hS hT2l).at (i:=1) rfl; go_simp⟩) qS ?_
     refine wpAnyD_tpX (i:=12) (v:=.slice ua p uc) (some 49) rfl rfl qS ?_
     refine wpAnyD_on (i:=6) rfl ?_
     go_simp
     refine (HC1.out _ qS).mono ?_
     rintro e w5 ⟨r1,rfl,hr1,hb5,_⟩
     have qS5 : Below W3.heap.size W3 w5:=qS.trans (hb5.mono qS.size)
     obtain ⟨l1,hl1,hl1'⟩:=hr1
     obtain ⟨a1,n1,rfl,hn1⟩:=hl1.form
     have HR1 : Hid (Bn w5.heap.size w5 (.slice a1 l1.length n1) a'):=Lib.hid ⟨l1,hl1,hl1'⟩
     obtain ⟨m1,hm1⟩ : ∃ z,l1.length = z:=⟨_,rfl⟩
     rw [hm1] at HR1 ⊢
     clear hl1 hl1' hn1 hm1 HC1
     go_simp
     refine wpAnyD_on (i:=13) rfl ?_
     go_simp
     refine (HC2.out _ qS5).mono ?_
     rintro e w6 ⟨r2,rfl,hr2,hb6,_⟩
     have qS6 : Below W3.heap.size W3 w6:=qS5.trans (hb6.mono qS5.size)
     obtain ⟨l2,hl2,hl2'⟩:=hr2
     obtain ⟨a2,n2,rfl,hn2⟩:=hl2.form
     have HR2 : Hid (Bn w6.heap.size w6 (.slice a2 l2.length n2) b'):=Lib.hid ⟨l2,hl2,hl2'⟩
     have HR1' : Hid (Bn w6.heap.size w6 (.slice a1 m1 n1) a'):=Lib.hid (HR1.out.below hb6 (Nat.le_refl _) hb6.size)
     obtain ⟨m2,hm2⟩ : ∃ z,l2.length = z:=⟨_,rfl⟩
     rw [hm2] at HR2 ⊢
     clear hl2 hl2' hn2 hm2 HC2 HR1
     go_simp
     refine wpAnyD_on (i:=14) rfl ?_
     go_simp
     refine wpAnyD_on (i:=15) rfl ?_
     go_simp
     refine wpAnyD_done (by kernel_rfl) ?_ _
     go_simp
     have HBW6 : Hid (Below T w w6):=Lib.hid (HBW3.out.trans (qS6.mono hsz3))
     have hs6:=qS6.size
     try go_wp2_with fail
     try go_frame
     go_roundg b'
     case measure => exact g2
     case rel => exact ⟨a',HR1',HR2,Nat.le_of_lt g1,HGD,HXA,HBW6,by omega⟩
    | false =>
     obtain ⟨k1,k2⟩ : v0 * gn = u0 * x + a' /\ u1 * x = v1 * gn + b':=by simpa using hif
     have hd1 : v0 * gn - u0 * x = a':=by omega
     have hd2 : u1 * x - v1 * gn = b':=by omega
     have hk1 : u0 * x <= v0 * gn:=by omega
     have hk2 : v1 * gn <= u1 * x:=by omega
     have HC1 : Hid (∀ W',Below W3.heap.size W3 W' -> Calls Tryz.prog 105 #[.int .u64 v0,.slice va q vc,.int .u64 u0,.slice ua p uc] W' fun e w' => ∃ v',e = .returned v' /\ Bn w'.heap.size w' v' a' /\ Below W'.heap.size W' w' /\ NewV W'.heap.size v'):=Lib.hid fun W' hb => by
      have h:=ndiff_any W'.heap.size _ _ gn x v0 u0 W' (HB3.out.below hb (Nat.le_refl _) hb.size) (HA3.out.below hb (Nat.le_refl _) hb.size) (Nat.le_refl _) g7 g5 hk1 HGN29.out HX29.out
      rw [hd1] at h; exact h
     have HC2 : Hid (∀ W',Below W3.heap.size W3 W' -> Calls Tryz.prog 105 #[.int .u64 u1,.slice ua p uc,.int .u64 v1,.slice va q vc] W' fun e w' => ∃ v',e = .returned v' /\ Bn w'.heap.size w' v' b' /\ Below W'.heap.size W' w' /\ NewV W'.heap.size v'):=Lib.hid fun W' hb => by
      have h:=ndiff_any W'.heap.size _ _ x gn u1 v1 W' (HA3.out.below hb (Nat.le_refl _) hb.size) (HB3.out.below hb (Nat.le_refl _) hb.size) (Nat.le_refl _) g6 g8 hk2 HX29.out HGN29.out
      rw [hd2] at h; exact h
     clear hd1 hd2 hk1 hk2 k1 k2 hif
     go_upto_region 10 with fail
     clear e0 e1 e2 e3 e4
     have qS : (fun W' => Below W3.heap.size W3 W') W3.drew:=below_quiet (Below.refl _ _)
     have hT2l : T2 < W3.heap.size:=by have := S3.out; omega
     refine region_plain (fun W' => Below W3.heap.size W3 W') [] (by kernel_rfl) ?_
     refine wpAnyD_tpX (i:=0) (v:=.pointer (some ⟨T2,2,none⟩)) (some 51) rfl rfl qS ?_
     refine wpAnyD_tkX (i:=1) (v:=.int .u64 v0) (some 52) rfl rfl (.inl ⟨by kernel_rfl,fun W' hS => by have d0:=(HQ3.out.below hS hT2l).at (i:=2) rfl; go_simp⟩) qS ?_
     refine wpAnyD_tpX (i:=2) (v:=.slice va q vc) (some 53) rfl rfl qS ?_
     refine wpAnyD_tpX (i:=3) (v:=.pointer (some ⟨T2,0,none⟩)) (some 54) rfl rfl qS ?_
     refine wpAnyD_tkX (i:=4) (v:=.int .u64 u0) (some 55) rfl rfl (.inl ⟨by kernel_rfl,fun W' hS => by have d0:=(HQ3.out.below hS hT2l).at (i:=0) rfl; go_simp⟩) qS ?_
     refine wpAnyD_tpX (i:=5) (v:=.slice ua p uc) (some 56) rfl rfl qS ?_
     refine wpAnyD_tpX (i:=7) (v:=.pointer (some ⟨T2,1,none⟩)) (some 58) rfl rfl qS ?_
     refine wpAnyD_tkX (i:=8) (v:=.int .u64 u1) (some 59) rfl rfl (.inl ⟨by kernel_rfl,fun W' hS => by have d0:=(HQ3.out.below hS hT2l).at (i:=1) rfl; go_simp⟩) qS ?_
     refine wpAnyD_tpX (i:=9) (v:=.slice ua p uc) (some 60) rfl rfl qS ?_
     refine wpAnyD_tpX (i:=10) (v:=.pointer (some ⟨T2,3,none⟩)) (some 61) rfl rfl qS ?_
     refine wpAnyD_tkX (i:=11) (v:=.int .u64 v1) (some 62) rfl rfl (.inl ⟨by kernel_rfl,fun W' hS => by have d0:=(HQ3.out.below hS hT2l).at (i:=3) rfl; go_simp⟩) qS ?_
     refine wpAnyD_tpX (i:=12) (v:=.slice va q vc) (some 63) rfl rfl qS ?_
     refine wpAnyD_on (i:=6) rfl ?_
     go_simp
     refine (HC1.out _ qS).mono ?_
     rintro e w5 ⟨r1,rfl,hr1,hb5,_⟩
     have qS5 : Below W3.heap.size W3 w5:=qS.trans (hb5.mono qS.size)
     obtain ⟨l1,hl1,hl1'⟩:=hr1
     obtain ⟨a1,n1,rfl,hn1⟩:=hl1.form
     have HR1 : Hid (Bn w5.heap.size w5 (.slice a1 l1.length n1) a'):=Lib.hid ⟨l1,hl1,hl1'⟩
     obtain ⟨m1,hm1⟩ : ∃ z,l1.length = z:=⟨_,rfl⟩
     rw [hm1] at HR1 ⊢
     clear hl1 hl1' hn1 hm1 HC1
     go_simp
     refine wpAnyD_on (i:=13) rfl ?_
     go_simp
     refine (HC2.out _ qS5).mono ?_
     rintro e w6 ⟨r2,rfl,hr2,hb6,_⟩
     have qS6 : Below W3.heap.size W3 w6:=qS5.trans (hb6.mono qS5.size)
     obtain ⟨l2,hl2,hl2'⟩:=hr2
     obtain ⟨a2,n2,rfl,hn2⟩:=hl2.form
     have HR2 : Hid (Bn w6.heap.size w6 (.slice a2 l2.length n2) b'):=Lib.hid ⟨l2,hl2,hl2'⟩
     have HR1' : Hid (Bn w6.heap.size w6 (.slice a1 m1 n1) a'):=Lib.hid (HR1.out.below hb6 (Nat.le_refl _) hb6.size)
     obtain ⟨m2,hm2⟩ : ∃ z,l2.length = z:=⟨_,rfl⟩
     rw [hm2] at HR2 ⊢
     clear hl2 hl2' hn2 hm2 HC2 HR1
     go_simp
     refine wpAnyD_on (i:=14) rfl ?_
     go_simp
     refine wpAnyD_on (i:=15) rfl ?_
     go_simp
     refine wpAnyD_done (by kernel_rfl) ?_ _
     go_simp
     have HBW6 : Hid (Below T w w6):=Lib.hid (HBW3.out.trans (qS6.mono hsz3))
     have hs6:=qS6.size
     try go_wp2_with fail
     try go_frame
     go_roundg b'
     case measure => exact g2
     case rel => exact ⟨a',HR1',HR2,Nat.le_of_lt g1,HGD,HXA,HBW6,by omega⟩
  ·obtain ⟨q,hq⟩ : ∃ q,lb.length = q:=⟨_,rfl⟩
   have hlbw : Ws wo.heap.size wo (.slice va q vc) lb:=by rw [<- hq]; exact hlb
   have hgn2 : gn < WB32 ^ 2:=by rw [<- hly]; exact (bn_len hlb.lt tlb).1 (by omega)
   have hql : lb.length <= 2:=by omega
   rw [hq] at hq2
   by_cases hq0 : q = 0
   ·subst hq0
    have hgz : gn = 0:=by rw [<- hly,List.eq_nil_of_length_eq_zero hq]; rfl
    have hxG : x = G:=by rw [<- HG.out,hgz,Nat.gcd_zero_right]
    have HA' : Hid (Bn wo.heap.size wo (.slice ua la.length uc) G):=Lib.hid (by rw [<- hxG]; exact HA.out)
    obtain ⟨p,hp⟩ : ∃ p,la.length = p:=⟨_,rfl⟩
    rw [hp] at HA' ⊢
    rw [hq]
    clear hgz hxG hlbw hla hlb tla tlb hlx hly hp hq hpq HG HX HA HB hgn2 hql
    go_wp2_with fail
    go_ret
    exact ⟨_,rfl,HA'.out,HBW.out⟩
   ·have hgn0 : 0 < gn:=by
     rcases Nat.eq_zero_or_pos gn with h | h
     ·have := (bv_zero_iff (b:=WB32) (by decide) tlb).1 (by rw [hly]; exact h)
      rw [this] at hq; simp at hq; omega
     ·exact h
    have hq00 : ((q : Int) == 0) = false:=by simp; omega
    by_cases hp2 : 2 < la.length
    ·have hdiv:=ndivide_any wo.heap.size _ _ x gn wo HA.out HB.out (Nat.le_refl _) hgn0 HX.out
     rw [hq] at hdiv
     obtain ⟨p,hp⟩ : ∃ p,la.length = p:=⟨_,rfl⟩
     rw [hp] at hdiv hp2
     have HDIV:=Lib.hid hdiv
     rw [hp,hq]
     clear hdiv hla hp hlx tla hpq HA HB
     go_wp2_with fail
     refine HDIV.out.mono ?_
     rintro e wx ⟨qv,rv,rfl,hqv,hrv,hb4,_⟩
     have hsx : T <= wx.heap.size:=by have := hb4.size; omega
     obtain ⟨lq,hlq,_⟩:=hqv
     obtain ⟨qa,qc,rfl,_⟩:=hlq.form
     obtain ⟨lr,hlr,tlr,hrr⟩:=hrv
     obtain ⟨ra,rc,rfl,_⟩:=hlr.form
     have hr2 : x % gn < WB32 ^ 2:=Nat.lt_trans (Nat.mod_lt _ hgn0) hgn2
     have hlr2 : lr.length <= 2:=(bn_len hlr.lt tlr).2 (by rw [hrr]; exact hr2)
     have HL1 : Hid (∀ W',Below wx.heap.size wx W' -> Calls Tryz.prog 106 #[.slice va q vc] W' fun e w' => e = .returned (.int .u64 (gn : Nat)) /\ Below W'.heap.size W' w'):=Lib.hid fun W' hb => by
      have h:=nlong_any W'.heap.size _ lb W' ((hlbw.below hb4 (Nat.le_refl _) hb4.size).below hb (Nat.le_refl _) hb.size) (Nat.le_refl _) hql
      rw [hly] at h; exact h
     obtain ⟨rn,hrn⟩ : ∃ z,lr.length = z:=⟨_,rfl⟩
     have HL2 : Hid (∀ W',Below wx.heap.size wx W' -> Calls Tryz.prog 106 #[.slice ra rn rc] W' fun e w' => e = .returned (.int .u64 ((x % gn : Nat) : Int)) /\ Below W'.heap.size W' w'):=Lib.hid fun W' hb => by
      have h:=nlong_any W'.heap.size _ lr W' (hlr.below hb (Nat.le_refl _) hb.size) (Nat.le_refl _) hlr2
      rw [hrr,hrn] at h; exact h
     have HGX : Hid (Nat.gcd gn (x % gn) = G):=Lib.hid (gcd_step HG.out)
     have hX64 : gn < 18446744073709551616:=hgn2
     have hY64 : x % gn < 18446744073709551616:=hr2
     have HBX : Hid (Below T w wx):=Lib.hid (HBW.out.trans (hb4.mono hsz))
     rw [hrn]
     obtain ⟨R,hR⟩ : ∃ R,x % gn = R:=⟨_,rfl⟩
     rw [hR] at HL2 HGX hY64
     clear hlq hlr tlr hrr hb4 HDIV hr2 hlr2 hrn hq hly tlb hlb hlbw hR hgn2 hql
     go_wp2_with fail
     refine (HL1.out _ (Below.refl _ _)).mono ?_
     rintro e w5 ⟨rfl,hb5⟩
     have hb5' : Below wx.heap.size wx w5:=hb5
     have HB5:=Lib.hid hb5'
     clear hb5 hb5'
     go_wp2_with fail
     refine (HL2.out _ HB5.out).mono ?_
     rintro e w6 ⟨rfl,hb6⟩
     have HB6 : Hid (Below wx.heap.size wx w6):=Lib.hid (HB5.out.trans (hb6.mono HB5.out.size))
     clear hb6 HL1 HL2
     go_wp2_with fail
     go_loopw [10,11] (fun x y wr => ∃ (i j k : Nat),x = .int .u64 i /\ y = .int .u64 j /\ Hid (Nat.gcd i j = G) /\ i < 18446744073709551616 /\ j < 18446744073709551616 /\ Hid (wr = w6.drewN k)) (fun _ y _ => (intOf y).toNat)
     case atStart => exact ⟨_,_,0,rfl,rfl,HGX,hX64,hY64,Lib.hid rfl⟩
     case round =>
      obtain ⟨i,j,k,rfl,rfl,HIJ,hi,hj,HKK⟩:=hrel
      obtain ⟨wq,rfl⟩ : ∃ wq : World,wq = wr:=⟨_,rfl⟩
      by_cases hj0 : j = 0
      ·subst hj0
       have hfin : Hid (i = G):=Lib.hid (by rw [<- HIJ.out,Nat.gcd_zero_right])
       have hsh:=nshort_any i wq hi
       have HSH:=Lib.hid hsh
       clear hsh
       go_wp2_with fail
       refine HSH.out.mono ?_
       rintro e w7 ⟨v',rfl,hv',hb7,_⟩
       have HV:=Lib.hid hv'
       have HB7:=Lib.hid hb7
       clear hv' hb7
       go_wp2_with fail
       go_ret
       refine ⟨_,rfl,by rw [<- hfin.out]; exact HV.out,?_⟩
       have hk:=HKK.out
       have h7:=HB7.out
       rw [hk] at h7
       exact HBX.out.trans ((HB6.out.trans ((below_drewN2 (Below.refl w6.heap.size _) k).trans h7 |>.mono HB6.out.size)).mono hsx)
      ·have hx : ((j : Int) != 0) = true:=by simp; omega
       have hy : ((j : Int) == 0) = false:=by simp; omega
       have hrem : Hid (Nat.gcd j (i % j) = G):=Lib.hid (gcd_step HIJ.out)
       have hmod : i % j < j:=Nat.mod_lt _ (by omega)
       have htm : Int.tmod (i : Int) (j : Int) = ((i % j : Nat) : Int):=by rw [Int.tmod_eq_emod_of_nonneg (by omega)]; simp
       have hem : (i : Int) % (j : Int) = ((i % j : Nat) : Int):=by simp
       obtain ⟨r,hr⟩ : ∃ r,i % j = r:=⟨_,rfl⟩
       rw [hr] at hrem hmod htm hem
       clear hr
       go_upto_region 18 with fail
       go_quiet (fail)
       go_wp2_with fail
       exact ⟨⟨j,r,_,rfl,rfl,hrem,by omega,by omega,Lib.hid (by rw [HKK.out]; exact drewN_two _ _ _)⟩,by simp [intOf]; omega⟩
    ·have hx2 : x < WB32 ^ 2:=by rw [<- hlx]; exact (bn_len hla.lt tla).1 (by omega)
     obtain ⟨p,hp⟩ : ∃ p,la.length = p:=⟨_,rfl⟩
     have hlaw : Ws wo.heap.size wo (.slice ua p uc) la:=by rw [<- hp]; exact hla
     have HL1 : Hid (∀ W',Below wo.heap.size wo W' -> Calls Tryz.prog 106 #[.slice ua p uc] W' fun e w' => e = .returned (.int .u64 (x : Nat)) /\ Below W'.heap.size W' w'):=Lib.hid fun W' hb => by
      have h:=nlong_any W'.heap.size _ la W' (hlaw.below hb (Nat.le_refl _) hb.size) (Nat.le_refl _) (by omega)
      rw [hlx] at h; exact h
     have HL2 : Hid (∀ W',Below wo.heap.size wo W' -> Calls Tryz.prog 106 #[.slice va q vc] W' fun e w' => e = .returned (.int .u64 (gn : Nat)) /\ Below W'.heap.size W' w'):=Lib.hid fun W' hb => by
      have h:=nlong_any W'.heap.size _ lb W' (hlbw.below hb (Nat.le_refl _) hb.size) (Nat.le_refl _) hql
      rw [hly] at h; exact h
     have HGX : Hid (Nat.gcd x gn = G):=HG
     have hX64 : x < 18446744073709551616:=hx2
     have hY64 : gn < 18446744073709551616:=hgn2
     have HBX : Hid (Below T w wo):=HBW
     have hsx : T <= wo.heap.size:=hsz
     rw [hp] at hp2
     rw [hp,hq]
     obtain ⟨wx,rfl⟩ : ∃ wx : World,wx = wo:=⟨_,rfl⟩
     clear hla hp hlx tla hpq HA HB hq hly tlb hlb hlbw hlaw hx2 hgn2 hql
     go_wp2_with fail
     refine (HL1.out _ (Below.refl _ _)).mono ?_
     rintro e w5 ⟨rfl,hb5⟩
     have hb5' : Below wx.heap.size wx w5:=hb5
     have HB5:=Lib.hid hb5'
     clear hb5 hb5'
     go_wp2_with fail
     refine (HL2.out _ HB5.out).mono ?_
     rintro e w6 ⟨rfl,hb6⟩
     have HB6 : Hid (Below wx.heap.size wx w6):=Lib.hid (HB5.out.trans (hb6.mono HB5.out.size))
     clear hb6 HL1 HL2
     go_wp2_with fail
     go_loopw [10,11] (fun x y wr => ∃ (i j k : Nat),x = .int .u64 i /\ y = .int .u64 j /\ Hid (Nat.gcd i j = G) /\ i < 18446744073709551616 /\ j < 18446744073709551616 /\ Hid (wr = w6.drewN k)) (fun _ y _ => (intOf y).toNat)
     case atStart => exact ⟨_,_,0,rfl,rfl,HGX,hX64,hY64,Lib.hid rfl⟩
     case round =>
      obtain ⟨i,j,k,rfl,rfl,HIJ,hi,hj,HKK⟩:=hrel
      obtain ⟨wq,rfl⟩ : ∃ wq : World,wq = wr:=⟨_,rfl⟩
      by_cases hj0 : j = 0
      ·subst hj0
       have hfin : Hid (i = G):=Lib.hid (by rw [<- HIJ.out,Nat.gcd_zero_right])
       have hsh:=nshort_any i wq hi
       have HSH:=Lib.hid hsh
       clear hsh
       go_wp2_with fail
       refine HSH.out.mono ?_
       rintro e w7 ⟨v',rfl,hv',hb7,_⟩
       have HV:=Lib.hid hv'
       have HB7:=Lib.hid hb7
       clear hv' hb7
       go_wp2_with fail
       go_ret
       refine ⟨_,rfl,by rw [<- hfin.out]; exact HV.out,?_⟩
       have hk:=HKK.out
       have h7:=HB7.out
       rw [hk] at h7
       exact HBX.out.trans ((HB6.out.trans ((below_drewN2 (Below.refl w6.heap.size _) k).trans h7 |>.mono HB6.out.size)).mono hsx)
      ·have hx : ((j : Int) != 0) = true:=by simp; omega
       have hy : ((j : Int) == 0) = false:=by simp; omega
       have hrem : Hid (Nat.gcd j (i % j) = G):=Lib.hid (gcd_step HIJ.out)
       have hmod : i % j < j:=Nat.mod_lt _ (by omega)
       have htm : Int.tmod (i : Int) (j : Int) = ((i % j : Nat) : Int):=by rw [Int.tmod_eq_emod_of_nonneg (by omega)]; simp
       have hem : (i : Int) % (j : Int) = ((i % j : Nat) : Int):=by simp
       obtain ⟨r,hr⟩ : ∃ r,i % j = r:=⟨_,rfl⟩
       rw [hr] at hrem hmod htm hem
       clear hr
       go_upto_region 18 with fail
       go_quiet (fail)
       go_wp2_with fail
       exact ⟨⟨j,r,_,rfl,rfl,hrem,by omega,by omega,Lib.hid (by rw [HKK.out]; exact drewN_two _ _ _)⟩,by simp [intOf]; omega⟩
end Go.Proofs.YtlldjmagbjjeoaaGreat
