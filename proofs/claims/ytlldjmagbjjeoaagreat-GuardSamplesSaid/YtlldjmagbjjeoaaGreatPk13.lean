/- Contracts and plain laws, several texts in one (NZ0, ORC). No conditions beyond those stated. -/
import Derived.Test.YtlldjmagbjjeoaaGreatPk6
set_option maxRecDepth 100000
set_option maxHeartbeats 40000000
namespace Go.Proofs.YtlldjmagbjjeoaaGreat
open Go.RowKit
set_option linter.unusedVariables false
def LB (k : Nat) : Nat:=65536 ^ k
theorem LB_add (a b : Nat) : LB (a + b) = LB a * LB b:=Nat.pow_add _ _ _
theorem LB_mono {a b : Nat} (h : a <= b) : LB a <= LB b:=Nat.pow_le_pow_right (by decide) h
theorem LB_pos (a : Nat) : 0 < LB a:=Nat.pow_pos (by decide)
theorem LB_mul {m n a b : Nat} (hm : m < LB a) (hn : n < LB b) : m * n < LB (a + b):=by
 rw [LB_add]
 rcases Nat.eq_zero_or_pos n with h | h
 ·subst h; exact Nat.mul_pos (LB_pos a) (LB_pos b)
 ·exact Nat.lt_of_lt_of_le (Nat.mul_lt_mul_of_pos_right hm h) (Nat.mul_le_mul_left _ (Nat.le_of_lt hn))
theorem LB_sum {m n a : Nat} (hm : m < LB a) (hn : n < LB a) : m + n < LB (a + 1):=by
 have : LB (a + 1) = LB a * 65536:=Nat.pow_succ 65536 a
 omega
theorem LB_lt {m a b : Nat} (hm : m < LB a) (h : a <= b) : m < LB b:=Nat.lt_of_lt_of_le hm (LB_mono h)
theorem LB_wb {m a k : Nat} (hm : m < LB a) (h : a <= k) : m < WB32 ^ k:=by
 refine Nat.lt_of_lt_of_le hm (Nat.le_trans (LB_mono h) ?_)
 exact Nat.pow_le_pow_left (by decide) k
theorem lval_bv : ∀ l : List Nat,lval l = bv 65536 l
 | [] => rfl
 | d :: r => by rw [lval,bv,lval_bv r]
theorem ln_len {l : List Nat} {k : Nat} (hl : ∀ d ∈ l,d < 65536) (ht : Tight l) : l.length <= k ↔ lval l < LB k:=by
 rw [lval_bv]
 refine ⟨fun h => Nat.lt_of_lt_of_le (bv_lt l hl) (LB_mono h),fun h => ?_⟩
 rcases Nat.lt_or_ge k l.length with h1 | h1
 ·have h2:=tight_low (b:=65536) ht (fun e => by rw [e] at h1; simp at h1)
  have h3 : LB k <= LB (l.length - 1):=LB_mono (by omega)
  unfold LB at h h3
  omega
 ·exact h1
theorem tight_wOk {l : List Nat} {m : Nat} {g : Bool} (ht : Tight l) (hl : l.length <= m) (hg : l.length = 0 -> g = false) : wOk m g l = true:=by
 unfold wOk
 by_cases h0 : l.length = 0
 ·rw [if_pos h0,hg h0]; rfl
 ·rw [if_neg h0]
  rcases ht with h | h
  ·rw [h] at h0; simp at h0
  ·rw [List.getLast?_eq_getElem?] at h
   simp [hl,h]
theorem wOk_tight {l : List Nat} {m : Nat} {g : Bool} (h : wOk m g l = true) : Tight l /\ l.length <= m /\ (l.length = 0 -> g = false):=by
 unfold wOk at h
 by_cases h0 : l.length = 0
 ·rw [if_pos h0] at h
  exact ⟨.inl (List.eq_nil_of_length_eq_zero h0),by omega,fun _ => by simpa using h⟩
 ·rw [if_neg h0] at h
  simp only [Bool.and_eq_true,decide_eq_true_eq,bne_iff_ne,ne_eq] at h
  refine ⟨.inr ?_,h.1,fun e => absurd e h0⟩
  rw [List.getLast?_eq_getElem?]
  exact h.2
theorem Lm.set {K r i L : Nat} {w : World} {v x : Value} {l : List Nat} (h : Lm K w v l) (hn : NewV L v) (hr : r < L) : Lm K (w.setCell ⟨r,i,none⟩ x) v l:=by
 obtain ⟨⟨a,cap,he,h1,h2,h3,h4⟩,h5⟩:=h
 refine ⟨⟨a,cap,he,h1,h2,h3,fun j hj => ?_⟩,h5⟩
 obtain ⟨b,o,k1,k2,k3⟩:=h4 j hj
 refine ⟨b,o,k1,k2,fun t ht => ?_⟩
 have := hn b o _ _ (by rw [he,k1])
 exact (grownBy_setCell w r i x).cell (k3 t ht) (by simp; omega)
theorem Ln.set {K r i L : Nat} {w : World} {v x : Value} {n : Nat} (h : Ln K w v n) (hn : NewV L v) (hr : r < L) : Ln K (w.setCell ⟨r,i,none⟩ x) v n:=by
 obtain ⟨l,h1,h2⟩:=h; exact ⟨l,h1.set hn hr,h2⟩
theorem Ln.form {K n : Nat} {w : World} {v : Value} (h : Ln K w v n) : ∃ a m c,v = .slice a m c /\ m <= c /\ c <= maxLen /\ (m = 0 ↔ n = 0) /\ ∀ k,m <= k ↔ n < LB k:=by
 obtain ⟨l,h1,h2,rfl⟩:=h
 obtain ⟨a,c,rfl,h3,h4⟩:=h1.form
 have hk:=fun k => ln_len (k:=k) h1.2 h2
 refine ⟨a,_,c,rfl,h3,h4,?_,hk⟩
 have := hk 0
 unfold LB at this
 simp only [Nat.pow_zero,Nat.le_zero] at this
 omega
theorem Bn.form {K n : Nat} {w : World} {v : Value} (h : Bn K w v n) : ∃ a m c,v = .slice a m c /\ m <= c /\ c <= maxLen:=by
 obtain ⟨l,h1,_⟩:=h
 obtain ⟨a,c,rfl,h3,h4⟩:=h1.form
 exact ⟨a,_,c,rfl,h3,h4⟩
theorem packL_last {l : List Nat} {m : Nat} (hm : (l.length + 1) / 2 = m + 1) (ht : Tight l) (hl : ∀ d ∈ l,d < 65536) : pkW l m ≠ 0:=by
 rcases ht with h | h
 ·subst h; simp at hm
 ·rw [List.getLast?_eq_getElem?] at h
  unfold pkW
  by_cases he : l.length = 2 * m + 1
  ·rw [he,show 2 * m + 1 - 1 = 2 * m by omega] at h; omega
  ·rw [show l.length - 1 = 2 * m + 1 by omega] at h; omega
theorem packL_tight {l : List Nat} (ht : Tight l) (hl : ∀ d ∈ l,d < 65536) : Tight (packL ((l.length + 1) / 2) l):=by
 obtain ⟨m,hm⟩ : ∃ m,(l.length + 1) / 2 = m:=⟨_,rfl⟩
 rw [hm]
 cases m with
 | zero => exact .inl (by simp [packL])
 | succ m =>
  right
  rw [List.getLast?_eq_getElem?,packL_len,Nat.add_sub_cancel,packL_at l (by omega)]
  exact packL_last hm ht hl
theorem packL_lt {l : List Nat} {m : Nat} (hl : ∀ d ∈ l,d < 65536) : ∀ d ∈ packL m l,d < WB32:=fun d hd => by
 obtain ⟨j,_,rfl⟩:=List.mem_map.1 hd
 have hg : ∀ i : Nat,l[i]?.getD 0 < 65536:=fun i => by
  cases h : l[i]? with
  | none => decide
  | some x => exact hl x (List.mem_of_getElem? h)
 have h1:=hg (2 * j)
 have h2:=hg (2 * j + 1)
 unfold pkW WB32
 omega
theorem npackN_any (K : Nat) (v : Value) (n : Nat) (w : World) (h : Ln K w v n) (hK : K <= w.heap.size) (hn : n < LB 1024) :
  Calls Tryz.prog 89 #[v] w fun e w' => ∃ v',e = .returned v' /\ Bn w'.heap.size w' v' n /\ Below w.heap.size w w':=by
 obtain ⟨l,h1,h2,rfl⟩:=h
 have hl:=(ln_len h1.2 h2).2 hn
 refine (npack_any K v l w h1 hK (by omega)).mono ?_
 rintro e w' ⟨rfl,hq,hb,hs⟩
 have hw:=ws_blk hq (K:=w'.heap.size) (by omega) (by rw [packL_len]; unfold maxLen; omega) (packL_lt h1.2)
 rw [packL_len] at hw
 exact ⟨_,rfl,⟨_,hw,packL_tight h2 h1.2,packL_bv l _ (by omega)⟩,hb⟩
def sgz (g : Bool) (m : Nat) : Int:=if g then -(m : Int) else m
structure Zn (K : Nat) (w : World) (g : Bool) (u : Value) (z : Int) : Prop where
 ln : Ln K w u z.natAbs
 sg : g = decide (z < 0)
theorem Zn.below {K K' B : Nat} {w w' : World} {g : Bool} {u : Value} {z : Int} (h : Zn K w g u z) (hb : Below B w w') (hB : K <= B) (hK : K <= K') : Zn K' w' g u z:=⟨h.ln.below hb hB hK,h.sg⟩
theorem Zn.form {K : Nat} {w : World} {g : Bool} {u : Value} {z : Int} (h : Zn K w g u z) : ∃ a m c,u = .slice a m c:=by obtain ⟨a,m,c,h,_⟩:=h.ln.form; exact ⟨a,m,c,h⟩
theorem Zn.set {K r i L : Nat} {w : World} {g : Bool} {u x : Value} {z : Int} (h : Zn K w g u z) (hn : NewV L u) (hr : r < L) : Zn K (w.setCell ⟨r,i,none⟩ x) g u z:=⟨h.ln.set hn hr,h.sg⟩
theorem Zn.set2 {K r L : Nat} {w : World} {g : Bool} {u x y : Value} {z : Int} (h : Zn K w g u z) (hn : NewV L u) (hr : r < L) : Zn K ((w.setCell ⟨r,0,none⟩ x).setCell ⟨r,1,none⟩ y) g u z:=(h.set hn hr).set hn hr
theorem Zn.val {K : Nat} {w : World} {g : Bool} {u : Value} {z : Int} (h : Zn K w g u z) : sgz g z.natAbs = z:=by
 rw [h.sg]; unfold sgz; by_cases h0 : z < 0 <;> simp [h0] <;> omega
theorem Zn.mk' {K : Nat} {w : World} {g : Bool} {u : Value} {m : Nat} {z : Int} (h : Ln K w u m) (hz : sgz g m = z) : Zn K w (g && decide (0 < m)) u z:=by
 subst hz
 unfold sgz
 cases g with
 | false => exact ⟨by simpa using h,by simp⟩
 | true => exact ⟨by simpa using h,by simp⟩
theorem Zn.nil (K : Nat) (w : World) : Zn K w false (.slice none 0 0) 0:=⟨⟨[],Lm.nil K w,Tight.nil,rfl⟩,rfl⟩
def ZxN (L K : Nat) (w : World) (x : Value) (z : Int) : Prop:=∃ g u,x = .agg #[.bool g,u] /\ Zn K w g u z /\ NewV L u
theorem ZxN.mk {L K : Nat} {w : World} {g : Bool} {u : Value} {z : Int} (h : Zn K w g u z) (hn : NewV L u) : ZxN L K w (.agg #[.bool g,u]) z:=⟨g,u,rfl,h,hn⟩
theorem zsize_set2 (w : World) (r : Nat) (x y : Value) : ((w.setCell ⟨r,0,none⟩ x).setCell ⟨r,1,none⟩ y).heap.size = w.heap.size:=by simp [World.setCell]
theorem zbelow_set2 {B : Nat} {w w' : World} (h : Below B w w') {r : Nat} (hr : B <= r) (x y : Value) : Below B w ((w'.setCell ⟨r,0,none⟩ x).setCell ⟨r,1,none⟩ y):=(h.setCell (p:=⟨r,0,none⟩) hr x).setCell (p:=⟨r,1,none⟩) hr y
section
variable {P : Program} {ops : Array Oper} {Q : Exit -> Act -> World -> Prop} {md : Region.Mode} {S : World -> Prop} {D : List Nat}
theorem wpAnyD_firstC {C : List Nat} (hDC : ∀ j ∈ D,j ∈ C) {i : Nat} {oi : Oper} {v : Value} (hi : ops[i]? = some oi) (hsel : ∀ (j : Nat) (o : Oper) cs b,ops[j]? = some o -> o.op ≠ .select cs b)
  (hQ : ∀ c a w,Q (.panic c) (a.put oi.dst v) w -> Q (.panic c) a w)
  (hD : ∀ j oj,ops[j]? = some oj -> j ∈ C -> ∃ e ∈ oj.after,Region.binds md e = true /\ (e.on = i \/ e.on ∈ C)) :
  ∀ (fuel : Nat) (listed : Array Bool) (a : Act) (w : World),
   (∀ j oj,ops[j]? = some oj -> j ≠ i -> listed.getD j true = false -> (∀ e ∈ oj.after,Region.binds md e = true -> e.on ≠ i) -> oi.apart ops oj = true) →
   (∀ j ∈ C,listed.getD j false = false) →
   i ∈ Region.ready md ops listed -> YieldsIf P ops S oi v a -> S w →
   wpAnyD P md ops Q S D fuel (listed.setIfInBounds i true) (a.put oi.dst v) w -> wpAnyD P md ops Q S D (fuel + 1) listed a w:=by
 intro fuel
 induction fuel with
 | zero =>
  intro listed a w _ _ hr hy hS H
  refine ⟨fun h => (by rw [h] at hr; cases hr),fun j hj => ?_⟩
  by_cases hji : j = i
  ·subst hji; exact hy.wpOp hi hS ⟨fun _ => hS,H⟩
  ·have := ready_mono hj hji
   rw [H.1] at this
   cases this
 | succ fuel ih =>
  intro listed a w hfree hinv hr hy hS H
  refine ⟨fun h => (by rw [h] at hr; cases hr),fun j hj => ?_⟩
  by_cases hji : j = i
  ·subst hji; exact hy.wpOp hi hS ⟨fun _ => hS,H⟩
  ·have h1:=H.2 j (ready_mono hj hji)
   obtain ⟨hjun,oj,hoj,hall⟩:=mem_ready.1 hj
   have hlisted : ∀ k,listed.getD k false = true -> listed.getD k true = true:=fun k hk => by
    rcases Nat.lt_or_ge k listed.size with h' | h'
    ·simpa [h'] using hk
    ·simp [Array.getElem?_eq_none h']
   have hnot : ∀ e ∈ oj.after,Region.binds md e = true -> e.on ≠ i:=fun e he hb heq => by
    have h1:=hall e he hb
    have h0:=(mem_ready.1 hr).1
    rw [heq] at h1
    have := hlisted _ h1
    rw [h0] at this; cases this
   have hjC : j ∉ C:=fun hjD => by
    obtain ⟨e,he,hb,h⟩:=hD j oj hoj hjD
    rcases h with h | h
    ·exact hnot e he hb h
    ·have h1:=hall e he hb
     rw [hinv _ h] at h1; cases h1
   have h2:=wpOp_putIf hoj (hfree j oj hoj hji hjun hnot) (fun cs b => hsel i oi cs b hi) (fun cs b => hsel j oj cs b hoj) hQ hy h1
   have hfree' : ∀ k ok,ops[k]? = some ok -> k ≠ i -> (listed.setIfInBounds j true).getD k true = false →
     (∀ e ∈ ok.after,Region.binds md e = true -> e.on ≠ i) -> oi.apart ops ok = true:=fun k ok hk hki hun hno => by
    refine hfree k ok hk hki ?_ hno
    by_cases hjk : j = k
    ·subst hjk; exact hjun
    ·rw [getD_set_ne true hjk] at hun; exact hun
   have hjD : j ∉ D:=fun h => hjC (hDC j h)
   have hinv' : ∀ k ∈ C,(listed.setIfInBounds j true).getD k false = false:=fun k hk => by
    have hne : j ≠ k:=fun e => hjC (e ▸ hk)
    have := hinv k hk
    rw [Array.getD_eq_getD_getElem?] at this ⊢
    rw [Array.getElem?_setIfInBounds_ne hne]
    exact this
   refine wpOp_mono (fun a' w' h3 => ⟨fun _ => h3.2.1 hjD,ih (listed.setIfInBounds j true) a' w' hfree' hinv' (ready_mono hr (Ne.symm hji)) h3.1 (h3.2.1 hjD) ?_⟩) h2
   rw [Array.setIfInBounds_comm _ _ hji]
   exact h3.2.2
theorem wpAnyD_takeC (C : List Nat) {i : Nat} {oi : Oper} {v : Value} {fuel : Nat} {listed : Array Bool} {a : Act} {w : World} (hi : ops[i]? = some oi)
  (hs : Region.noSelect ops = true) (hf : Region.free md ops listed i = true) (hr : (Region.ready md ops listed).contains i = true) (hm : marksWait md ops C i = true) (ho : marksOpen C listed = true) (hDC : (D.all fun j => C.contains j) = true)
  (hQ : ∀ c a w,Q (.panic c) (a.put oi.dst v) w -> Q (.panic c) a w) (hy : YieldsIf P ops S oi v a) (hS : S w)
  (h : wpAnyD P md ops Q S D fuel (listed.setIfInBounds i true) (a.put oi.dst v) w) : wpAnyD P md ops Q S D (fuel + 1) listed a w:=by
 refine wpAnyD_firstC (C:=C) (fun j hj => by simpa using List.all_eq_true.1 hDC j hj) hi (Region.noSelect_spec hs) hQ ?_ fuel listed a w (Region.free_spec hi hf) ?_ (by simpa using hr) hy hS h
 ·intro j oj hoj hjD
  unfold marksWait at hm
  rw [List.all_eq_true] at hm
  have := hm j hjD
  simp only [hoj,Array.any_eq_true'] at this
  obtain ⟨e,he,hb⟩:=this
  simp only [Bool.and_eq_true,Bool.or_eq_true,beq_iff_eq,List.contains_iff_mem] at hb
  exact ⟨e,he,hb.1,hb.2⟩
 ·intro j hj
  unfold marksOpen at ho
  rw [List.all_eq_true] at ho
  simpa using ho j hj
theorem wpAnyD_two {i j : Nat} {o o' : Oper} {fuel : Nat} {listed : Array Bool} {a : Act} {w : World} (hr : Region.ready md ops listed = [i,j]) (ho : ops[i]? = some o) (ho' : ops[j]? = some o')
  (hw : Region.wanted o (yielded ops a.tmps) = true) (hw' : Region.wanted o' (yielded ops a.tmps) = true)
  (h : o.wp P a w (fun a' w' => (i ∉ D -> S w') /\ wpAnyD P md ops Q S D fuel (listed.setIfInBounds i true) a' w') Q)
  (h' : o'.wp P a w (fun a' w' => (j ∉ D -> S w') /\ wpAnyD P md ops Q S D fuel (listed.setIfInBounds j true) a' w') Q) : wpAnyD P md ops Q S D (fuel + 1) listed a w :=
 ⟨fun h0 => by rw [hr] at h0; simp at h0,fun k hk => by
  rw [hr] at hk
  simp only [List.mem_cons,List.not_mem_nil,or_false] at hk
  rcases hk with rfl | rfl
  ·exact wpOp_of ho hw h
  ·exact wpOp_of ho' hw' h'⟩
end
end Go.Proofs.YtlldjmagbjjeoaaGreat
